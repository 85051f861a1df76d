/- The walks of fine, the reference's fine, many and Great of terms. -/
import Derived.Test.YtbjgpbojjhldaaaGreatDoorY05
import Derived.Test.YtbjgpbojjhldaaaGreatDoorY07
set_option maxHeartbeats 16000000
namespace Go.Proofs.YtbjgpbojjhldaaaGreatDoor
set_option maxRecDepth 100000
open Go.RowKit Go.ChangeShapes Go.WideShapes Go.Joins
theorem zff {N:Int} {c:St} {g r:Tms} (h:inR N 1 200=false):fineT (.cons N c g r)=false:=by
 by_cases hg:g = .nil
 ·subst hg;rw [zaT,h];rfl
 ·rw [zaS _ _ _ _ hg,h];rfl
theorem zjF {N:Int} {c:St} {r:Tms} (h:okSt c=false):fineT (.cons N c .nil r)=false:=by
 rw [zaT,h];simp
theorem zfe {N:Int} {c:St} {g r:Tms} (hg:g ≠ .nil) (h:c≠st0∨fineT g=false):fineT (.cons N c g r)=false:=by
 rw [zaS _ _ _ _ hg]
 rcases h with h | h
 ·simp [h]
 ·simp [h]
theorem zml {N:Int} {c:St} {r:Tms} (h:inR N 1 200=true) (h2:okSt c=true):fineT (.cons N c .nil r)=fineT r:=by
 rw [zaT,h,h2];simp
theorem zmm {N:Int} {g r:Tms} (hg:g ≠ .nil) (h:inR N 1 200=true) (h2:fineT g=true):fineT (.cons N st0 g r)=fineT r:=by
 rw [zaS _ _ _ _ hg,h,h2];simp
theorem zse {s:St} (h:okSt s=true):okE s=0:=by rw [okE,h];rfl
theorem zsf {s:St} (h:okSt s=false):okE s=8:=by rw [okE,h];rfl
theorem zqP {k:Int} {p:Bool} {a b:Int} (h0:0<=k) (h1:k<=255) (h:okSt ⟨k,p,a,b⟩=true) (w:World) :
  Calls Tryz.prog 52 #[.agg #[.int .u8 k,.bool p,.int .i64 a,.int .i64 b]] w fun e w'=>e = .returned (.int .i64 0)/\Ext w w':=by
 have:=zaG k p a b h0 h1 w
 rwa [zse h] at this
theorem zqO {k:Int} {p:Bool} {a b:Int} (h0:0<=k) (h1:k<=255) (h:okSt ⟨k,p,a,b⟩=false) (w:World) :
  Calls Tryz.prog 52 #[.agg #[.int .u8 k,.bool p,.int .i64 a,.int .i64 b]] w fun e w'=>e = .returned (.int .i64 8)/\Ext w w':=by
 have:=zaG k p a b h0 h1 w
 rwa [zsf h] at this
attribute [local go_sem] zaA
theorem zeB:∀(M:Nat),M<=5000->∀(t:Tms),t.size<=M->∀(A:Option Addr) (n cap:Nat) (w:World),Tv w A n t ->
  Calls Tryz.prog 91 #[.slice A n cap] w fun e w'=>e = .returned (.bool (fineT t))/\Ext w w':=by
 intro M
 induction M using Nat.strongRecOn with
 | ind M ih =>
  intro hM t ht A n cap w hv
  have HI:=Za ih
  have HV:=Za hv
  have hnm:n<=5000:=by have h1:=hv.1;have h2:=za8 t;omega
  clear ih hv
  go_enter Tryz.func91,Tryz.ntmps91
  go_wp2_with fail
  go_loopw [7] (fun i wr=>∃(k:Nat) (rest:Tms),i = .int .i64 k/\rest.cnt+k=n/\rest.size<=M /\
   Hid (fineT rest=fineT t/\Ext w wr/\(0<rest.cnt->∃b off,A=some ⟨b,off,none⟩/\b<wr.heap.size/\TAt wr rest b (off+k*6)))) (fun i _=>n-(intOf i).toNat)
  case atStart =>
   refine ⟨0,t,rfl,by have:=HV.out.1;omega,ht,Za ⟨rfl,Ze _,fun h=>?_⟩⟩
   obtain ⟨h1,h2,h3⟩:=HV.out
   obtain ⟨b,off,e,hb,hc⟩:=h3 (by omega)
   exact ⟨b,off,e,hb,by simpa using hc⟩
  case round =>
   obtain ⟨k,rest,rfl,ac,ak,HH⟩:=hrel
   by_cases hlt:0<rest.cnt
   ·obtain ⟨N,c,g,r,rfl⟩:=zb1 hlt
    obtain ⟨b,off,rfl,hb1,hc⟩:=HH.out.2.2 hlt
    obtain ⟨A',n',cap',c0,c1,c2,c3,c4,c5,ad,hg,hr⟩:=hc.head
    have hxr:=HH.out.2.1
    simp only [Tms.cnt,Tms.size] at ac ak
    have hkn:k<n:=by omega
    have hz:=Zn wr _ c0
    have aa:=fun (w':World) (h:Ext wr w')=>HI.out (M-1) (by omega) (by omega) g (by omega) A' n' cap' w' (hg.ext h)
    have HC:=Za aa
    have ah:=Za hg.1
    have q0:(0:Int)<=(k:Int):=by omega
    have q1:(k:Int)<(n:Int):=by omega
    clear aa hc
    obtain ⟨ck,cp,ca,cb⟩:=c
    simp only at c1 c2 c3 c4 ad
    by_cases hN1:N<1
    ·obtain ⟨e2,e3, -⟩:=HH.out
     have Q2:=Za (show fineT t=false by rw [<-e2];exact zff (zj5 (.inl hN1)))
     clear e2
     go_wp2_with fail
     go_ret
     exact ⟨by rw [Q2.out];rfl,zx⟩
    by_cases hN2:200<N
    ·obtain ⟨e2,e3, -⟩:=HH.out
     have Q2:=Za (show fineT t=false by rw [<-e2];exact zff (zj5 (.inr hN2)))
     clear e2
     have ai:decide (N<1)=false:=by simp;omega
     go_wp2_with fail
     go_ret
     exact ⟨by rw [Q2.out];rfl,zx⟩
    have ai:decide (N<1)=false:=by simp;omega
    have hN4:decide (200<N)=false:=by simp;omega
    have HN:=Za (show inR N 1 200=true from zq5 (by omega) (by omega))
    by_cases hn':0<n'
    ·have ag:g ≠ .nil:=by rintro rfl;have:=ah.out;simp [Tms.cnt] at this;omega
     have hne0:((n':Int)==0)=false:=ZC.2 (by omega)
     by_cases hcz:(⟨ck,cp,ca,cb⟩:St)=⟨0,false,0,0⟩
     ·simp only [St.mk.injEq] at hcz
      obtain ⟨rfl,rfl,rfl,rfl⟩:=hcz
      cases hfg:fineT g
      ·obtain ⟨e2,e3, -⟩:=HH.out
       have Q2:=Za (show fineT t=false by rw [<-e2];exact zfe ag (.inr hfg))
       clear e2
       have af:=Za hfg
       clear hfg
       go_wp2_with (go_at_call 91;((with_reducible refine (HC.out _ zx).mono ?_);rintro e w1 ⟨rfl,ae⟩;rw [af.out]))
       go_ret
       exact ⟨by rw [Q2.out];rfl,zx⟩
      ·have HG:=Za (show fineT (.cons N st0 g r)=fineT r from zmm ag HN.out hfg)
       have af:=Za hfg
       clear hfg
       go_wp2_with (go_at_call 91;((with_reducible refine (HC.out _ zx).mono ?_);rintro e w1 ⟨rfl,ae⟩;rw [af.out]))
       go_roundw
       case rel =>
        have ab:Ext wr w1:=zx
        obtain ⟨e2,e3, -⟩:=HH.out
        refine ⟨k+1,r,by go_num,by omega,by omega,Za ⟨by rw [<-e2];exact HG.out.symm,e3.trans ab,fun h=>?_⟩⟩
        refine ⟨b,off,rfl,Zi hb1 (Zt ab),?_⟩
        rw [show off+(k+1)*6=off+k*6+6 by omega]
        exact hr.ext ab hb1
       case measure=>simp [intOf];omega
     ·obtain ⟨e2,e3, -⟩:=HH.out
      have Q2:=Za (show fineT t=false by rw [<-e2];exact zfe ag (.inl hcz))
      clear e2
      have hne:=zfF (x':=0) (y':=false) (z':=0) (t':=0) hcz
      clear hcz
      go_wp2_with fail
      go_ret
      exact ⟨by rw [Q2.out];rfl,zx⟩
    ·obtain rfl:=zbc (t:=g) (by have:=ah.out;omega)
     obtain rfl:n'=0:=by omega
     cases hok:okSt ⟨ck,cp,ca,cb⟩
     ·obtain ⟨e2,e3, -⟩:=HH.out
      have Q2:=Za (show fineT t=false by rw [<-e2];exact zjF hok)
      clear e2
      have HK:=Za hok
      clear hok
      go_wp2_with (go_at_call 52;((with_reducible refine (zqO ad.1 ad.2 HK.out _).mono ?_);rintro e w1 ⟨rfl,ae⟩))
      go_ret
      exact ⟨by rw [Q2.out];rfl,zx⟩
     ·have HG:=Za (show fineT (.cons N ⟨ck,cp,ca,cb⟩ .nil r)=fineT r from zml HN.out hok)
      have HK:=Za hok
      clear hok
      go_wp2_with (go_at_call 52;((with_reducible refine (zqP ad.1 ad.2 HK.out _).mono ?_);rintro e w1 ⟨rfl,ae⟩;obtain ⟨hf1,hf2,hf3⟩:=ae.facts))
      go_roundw
      case rel =>
       have ab:Ext wr w1:=zx
       obtain ⟨e2,e3, -⟩:=HH.out
       refine ⟨k+1,r,by go_num,by omega,by omega,Za ⟨by rw [<-e2];exact HG.out.symm,e3.trans ab,fun h=>?_⟩⟩
       refine ⟨b,off,rfl,Zi hb1 (Zt ab),?_⟩
       rw [show off+(k+1)*6=off+k*6+6 by omega]
       exact hr.ext ab hb1
      case measure=>simp [intOf];omega
   ·have aj:rest.cnt=0:=by omega
    obtain rfl:=zbc aj
    simp only [Tms.cnt] at ac
    obtain ⟨e2,e3, -⟩:=HH.out
    obtain rfl:k=n:=by omega
    have Q2:=Za (show fineT t=true from e2.symm)
    clear e2
    go_wp2
    go_ret
    exact ⟨by rw [Q2.out];rfl,zx⟩
end Go.Proofs.YtbjgpbojjhldaaaGreatDoor
/- Cells appended to what a call has put together,and where it lies then. -/
namespace Go.Proofs.YtbjgpbojjhldaaaGreatDoor
set_option maxRecDepth 100000
open Go.RowKit Go.ChangeShapes Go.WideShapes Go.Joins
theorem zas {w:World} {B:Nat} {e:TypeId} {size:Nat} {v:Value} {n:Nat} {xs:List Value} (h:w.ownsRow B e size v n xs):∀k,v.ownBlock=some k->B<=k/\k<w.heap.size:=by
 intro k hk
 rcases h.2 with ⟨h1,_⟩ | ⟨g,cap,cur,h1,hb,hg,_⟩
 ·subst h1;simp [Value.ownBlock] at hk
 ·subst h1
  simp [Value.ownBlock] at hk
  subst hk
  exact ⟨hb,(Zh.1 hg).1⟩
section
variable {P:Program} {ops:Array Oper} {rest:List Oper} {o:Oper} {a:Act} {K:Act->World->Prop} {Q:Exit->Act->World->Prop} {E:Prop} {w wx:World}
theorem za7 (T e:TypeId) (z:Value) (size bytes:Nat) {s x:Operand} {v:Value} {k m c:Nat} {A:Option Addr} {L news:List Value}
  (ho:o.op = .call { callee := .builtin .append,args:=#[s,x],argTypes:=#[T,T] })
  (ht:P.underlying T=some (.slice e)) (hinfo:(P.info? e).map (fun i=>(i.zero,i.size,i.bytes))=some (some z,size,bytes)) (hzs:z.cells.size=size) (hsz:0<size) (hby:bytes<=1000)
  (hs:a.eval s=v) (hx:a.eval x = .slice A m c) (hown:wx.ownsRow w.heap.size e size v k L) (hext:Ext w wx) (hl:news.length=m*size)
  (hA:0<m->∃ad,A=some ad/\∀j u,news[j]?=some u->wx.cell? (ad.add j)=some u) (h1:∀u∈news,u.oneCell'=true) (hk:k+m<=1000000)
  (h:∀v' w1,w1.ownsRow w.heap.size e size v' (k+m) (L++news)->Ext w w1->wx.grownBy w1 v.ownBlock->(v'.ownBlock=v.ownBlock∨v'.ownBlock=some wx.heap.size)->K (a.put o.dst v') w1):o.wp P a wx K Q:=by
 obtain ⟨i0,hi,ab,hz1,ac⟩:=info_parts hinfo
 have key:∃v' w1,(Builtin.append_ #[T,T] o.type #[v,.slice A m c]).run P wx = .ok v' w1/\w1.ownsRow w.heap.size e size v' (k+m) (L++news)/\Ext w w1/\wx.grownBy w1 v.ownBlock/\(v'.ownBlock=v.ownBlock∨v'.ownBlock=some wx.heap.size):=by
  rcases Nat.eq_zero_or_pos m with hm | hm
  ·subst hm
   have hn:news=[]:=Zz (by simpa using hl)
   subst hn
   rcases A with _ | ad
   ·exact ⟨v,wx,zbj wx _ T o.type e i0 size ht hi v k _ hown c,by simpa using hown,hext,World.grownBy.refl wx _,.inl rfl⟩
   ·obtain ⟨v',w1,aa,h2,h3,h4⟩:=run_append_own_at (P:=P) wx w.heap.size T o.type e i0 z size bytes ht hi ab hz1 ac hzs hsz v k _ hown ad 0 c [] (by simp) (fun j u hu=>by simp at hu)
     h1 (by unfold maxLen;omega) (by have:=Nat.mul_le_mul (show k+0<=1000000 by omega) hby;omega) (Zt hext)
    exact ⟨v',w1,aa,h2,Below.grown hext h3 (Zt hext) (zc3 hown),h3,h4.2⟩
  ·obtain ⟨ad,rfl,hc⟩:=hA hm
   obtain ⟨v',w1,aa,h2,h3,h4⟩:=run_append_own_at (P:=P) wx w.heap.size T o.type e i0 z size bytes ht hi ab hz1 ac hzs hsz v k _ hown ad m c news hl hc
    h1 (by unfold maxLen;omega) (by have:=Nat.mul_le_mul (show k+m<=1000000 by omega) hby;omega) (Zt hext)
   exact ⟨v',w1,aa,h2,Below.grown hext h3 (Zt hext) (zc3 hown),h3,h4.2⟩
 obtain ⟨v',w1,aa,h2,h3,h4,h5⟩:=key
 unfold Oper.wp execOp
 simp only [ho,resolve,invoke,builtin,Sem.run_bind,Sem.run_pure,Result.andThen_ok,List.map_toArray,List.map_cons,List.map_nil,hs,hx,aa]
 exact h v' w1 h2 h3 h4 h5
theorem zby (T e:TypeId) (z:Value) (size bytes:Nat) {s x:Operand} {v:Value} {k m c:Nat} {A:Option Addr} {L news:List Value}
  (ho:o.op = .call { callee := .builtin .append,args:=#[s,x],argTypes:=#[T,T] })
  (ht:P.underlying T=some (.slice e)) (hinfo:(P.info? e).map (fun i=>(i.zero,i.size,i.bytes))=some (some z,size,bytes)) (hzs:z.cells.size=size) (hsz:0<size) (hby:bytes<=1000)
  (hs:a.eval s=v) (hx:a.eval x = .slice A m c) (B:Nat) (hown:wx.ownsRow B e size v k L) (hB:B<=wx.heap.size) (hl:news.length=m*size)
  (hA:0<m->∃ad,A=some ad/\∀j u,news[j]?=some u->wx.cell? (ad.add j)=some u) (h1:∀u∈news,u.oneCell'=true) (hk:k+m<=1000000)
  (h:∀v' w1,w1.ownsRow B e size v' (k+m) (L++news)->wx.grownBy w1 v.ownBlock->(v'.ownBlock=v.ownBlock∨v'.ownBlock=some wx.heap.size)->K (a.put o.dst v') w1):o.wp P a wx K Q:=by
 obtain ⟨i0,hi,ab,hz1,ac⟩:=info_parts hinfo
 have key:∃v' w1,(Builtin.append_ #[T,T] o.type #[v,.slice A m c]).run P wx = .ok v' w1/\w1.ownsRow B e size v' (k+m) (L++news)/\wx.grownBy w1 v.ownBlock/\(v'.ownBlock=v.ownBlock∨v'.ownBlock=some wx.heap.size):=by
  rcases Nat.eq_zero_or_pos m with hm | hm
  ·subst hm
   have hn:news=[]:=Zz (by simpa using hl)
   subst hn
   rcases A with _ | ad
   ·exact ⟨v,wx,zbj wx _ T o.type e i0 size ht hi v k _ hown c,by simpa using hown,World.grownBy.refl wx _,.inl rfl⟩
   ·obtain ⟨v',w1,aa,h2,h3,h4⟩:=run_append_own_at (P:=P) wx B T o.type e i0 z size bytes ht hi ab hz1 ac hzs hsz v k _ hown ad 0 c [] (by simp) (fun j u hu=>by simp at hu)
     h1 (by unfold maxLen;omega) (by have:=Nat.mul_le_mul (show k+0<=1000000 by omega) hby;omega) hB
    exact ⟨v',w1,aa,h2,h3,h4.2⟩
  ·obtain ⟨ad,rfl,hc⟩:=hA hm
   obtain ⟨v',w1,aa,h2,h3,h4⟩:=run_append_own_at (P:=P) wx B T o.type e i0 z size bytes ht hi ab hz1 ac hzs hsz v k _ hown ad m c news hl hc
    h1 (by unfold maxLen;omega) (by have:=Nat.mul_le_mul (show k+m<=1000000 by omega) hby;omega) hB
   exact ⟨v',w1,aa,h2,h3,h4.2⟩
 obtain ⟨v',w1,aa,h2,h4,h5⟩:=key
 unfold Oper.wp execOp
 simp only [ho,resolve,invoke,builtin,Sem.run_bind,Sem.run_pure,Result.andThen_ok,List.map_toArray,List.map_cons,List.map_nil,hs,hx,aa]
 exact h v' w1 h2 h4 h5
end
def StsR (l:List St) (w:World) (e:Ending) (w':World):Prop:=∃(A:Option Addr) (n c:Nat),e = .returned (.slice A n c)/\Ext w w'/\Vec shSt w' A n l/\(0<n->∀b off,A=some ⟨b,off,none⟩->w.heap.size<=b)/\n<=c
def VecX (w:World) (X:Option Nat) (A:Option Addr) (n:Nat) (l:List St):Prop:=Vec shSt w A n l/\(0<n->∀b off,A=some ⟨b,off,none⟩->some b≠X)
theorem VecX.step {w w':World} {X X':Option Nat} {A:Option Addr} {n:Nat} {l:List St} (h:VecX w X A n l) (hb:w.grownBy w' X) (hx:X'=X∨X'=some w.heap.size):VecX w' X' A n l:=by
 refine ⟨⟨h.1.1,fun hn=>?_⟩,fun hn b off e=>?_⟩
 ·obtain ⟨b,off,e,hlt,hc⟩:=h.1.2 hn
  exact ⟨b,off,e,Zi hlt (But.size hb),fun k x hx i u hu=>(But.cell (p:=⟨b,off+(k*shSt.size+i),none⟩) hb hlt (h.2 hn b off e)).trans (hc k x hx i u hu)⟩
 ·obtain ⟨b',off',e',hlt,_⟩:=h.1.2 hn
  rw [e] at e'
  cases e'
  rcases hx with hx | hx
  ·rw [hx];exact h.2 hn b off e
  ·rw [hx];intro e2;cases e2;omega
theorem VecX.ext {w w':World} {X:Option Nat} {A:Option Addr} {n:Nat} {l:List St} (h:VecX w X A n l) (hb:Ext w w'):VecX w' X A n l:=⟨h.1.ext hb,h.2⟩
theorem OwnV.blk {α:Type} {S:Shp α} {w:World} {B:Nat} {e:TypeId} {v:Value} {k:Nat} {L:List α} (h:OwnV S w B e v k L):∀b,v.ownBlock=some b->B<=b/\b<w.heap.size:=zas h
theorem zeM {α:Type} {S:Shp α} {w:World} {B k c:Nat} {e:TypeId} {A:Option Addr} {L:List α} (h:OwnV S w B e (.slice A k c) k L):k<=c:=by
 rcases h.2 with ⟨h0,h1⟩ | ⟨g,cap,cur,h0,hB,hg,aa,r⟩
 ·omega
 ·cases h0
  exact aa
theorem zan {α:Type} {S:Shp α} {w:World} {B k:Nat} {e:TypeId} {v:Value} {L:List α} (h:OwnV S w B e v k L):∃A c,v = .slice A k c/\Vec S w A k L/\(0<k->∀b off,A=some ⟨b,off,none⟩->B<=b):=by
 obtain ⟨A,c,rfl,hv⟩:=zao h
 refine ⟨A,c,rfl,hv,fun hk b off e=>?_⟩
 subst e
 exact (OwnV.blk h b (by simp [Value.ownBlock])).1
section
variable {α:Type} {S:Shp α} {P:Program} {ops:Array Oper} {rest:List Oper} {o:Oper} {a:Act} {Q:Exit->Act->World->Prop} {w wx:World}
theorem zaa (T e:TypeId) (z:Value) (bytes:Nat) {s x:Operand} {v:Value} {k m c:Nat} {A:Option Addr} {L xs:List α}
  (hgd:o.guard=none) (ho:o.op = .call { callee := .builtin .append,args:=#[s,x],argTypes:=#[T,T] })
  (ht:P.underlying T=some (.slice e)) (hinfo:(P.info? e).map (fun i=>(i.zero,i.size,i.bytes))=some (some z,S.size,bytes)) (hzs:z.cells.size=S.size) (hby:bytes<=1000)
  (hs:a.eval s=v) (hx:a.eval x = .slice A m c) (hown:OwnV S wx w.heap.size e v k L) (hext:Ext w wx) (hxs:Vec S wx A m xs) (hk:k+m<=1000000)
  (h:∀v' w1,OwnV S w1 w.heap.size e v' (k+m) (L++xs)->Hid (Ext w w1)->Hid (wx.grownBy w1 v.ownBlock/\(v'.ownBlock=v.ownBlock∨v'.ownBlock=some wx.heap.size))->wpList P ops Q rest (a.put o.dst v') w1):wpList P ops Q (o::rest) a wx :=
 wpList_plain hgd fun _ hK=>za7 (news:=xs.flatMap S.cells) T e z S.size bytes ho ht hinfo hzs S.pos hby hs hx hown hext (by rw [zaU,hxs.1])
  (fun hm=>by
   obtain ⟨b,off,hA,_,_⟩:=hxs.2 hm
   subst hA
   exact ⟨_,rfl,hxs.cells_at⟩) (fun u hu=>by obtain ⟨y,_,hy⟩:=ZI.1 hu;exact S.one y u hy) hk
  fun v' w' h2 h3 h4 h5=>hK _ _ (h v' w' (by unfold OwnV;rw [ZO];exact h2) h3 ⟨h4,h5⟩)
end
theorem But.grown {E X:Option Nat} {a b c:World} (h:But E a b) (k:b.grownBy c X) (hx:∀x,X=some x->a.heap.size<=x):But E a c :=
 ⟨k.os.trans h.os,k.tape.trans h.tape,k.output.trans h.output,Zv h.size k.size,fun i hi hne=>(k.block i (Zi hi h.size) (fun e=>by have:=hx i e.symm;omega)).trans (h.block i hi hne)⟩
end Go.Proofs.YtbjgpbojjhldaaaGreatDoor
/- Lists of terms that a call puts together;Twin and Same of terms. -/
namespace Go.Proofs.YtbjgpbojjhldaaaGreatDoor
set_option maxRecDepth 100000
open Go.RowKit Go.ChangeShapes Go.WideShapes Go.Joins
def TAtK (w:World) (K:Nat->Prop):Tms->Nat->Nat->Prop
 | .nil,_,_=>True
 | .cons N c g r,b,off=>∃(A:Option Addr) (n cap:Nat),w.cell? ⟨b,off,none⟩=some (.int .i64 N)/\w.cell? ⟨b,off+1,none⟩=some (.int .u8 c.k)/\w.cell? ⟨b,off+2,none⟩=some (.bool c.p) /\
   w.cell? ⟨b,off+3,none⟩=some (.int .i64 c.a)/\w.cell? ⟨b,off+4,none⟩=some (.int .i64 c.b)/\w.cell? ⟨b,off+5,none⟩=some (.slice A n cap)/\(0<=c.k/\c.k<=255) /\
   g.cnt=n/\n<=maxLen/\(0<n->∃b' off',A=some ⟨b',off',none⟩/\b'<w.heap.size/\K b'/\TAtK w K g b' off')/\TAtK w K r b (off+6)
def TvK (w:World) (K:Nat->Prop) (A:Option Addr) (n:Nat) (t:Tms):Prop:=t.cnt=n/\n<=maxLen/\(0<n->∃b off,A=some ⟨b,off,none⟩/\b<w.heap.size/\K b/\TAtK w K t b off)
theorem TAtK.keep {w w':World} {K K':Nat->Prop} (hz:w.heap.size<=w'.heap.size) (hc:∀b,b<w.heap.size->K b->K' b/\∀o,w'.cell? ⟨b,o,none⟩=w.cell? ⟨b,o,none⟩) :
  ∀ {t:Tms} {b off:Nat},b<w.heap.size->K b->TAtK w K t b off->TAtK w' K' t b off:=by
 intro t
 induction t with
 | nil=>intro b off _ _ _;trivial
 | cons N c g r ih1 ih2 =>
  intro b off hlt hk0 ⟨A,n,cap,h0,h1,h2,h3,h4,h5,hk,hn,hm,hg,hr⟩
  have hb:=(hc b hlt hk0).2
  refine ⟨A,n,cap,(hb _).trans h0,(hb _).trans h1,(hb _).trans h2,(hb _).trans h3,(hb _).trans h4,(hb _).trans h5,hk,hn,hm,fun h=>?_,ih2 hlt hk0 hr⟩
  obtain ⟨b',off',e,aa,ab,ac⟩:=hg h
  exact ⟨b',off',e,Zi aa hz,(hc b' aa ab).1,ih1 aa ab ac⟩
theorem TvK.keep {w w':World} {K K':Nat->Prop} {A:Option Addr} {n:Nat} {t:Tms} (h:TvK w K A n t) (hz:w.heap.size<=w'.heap.size) (hc:∀b,b<w.heap.size->K b->K' b/\∀o,w'.cell? ⟨b,o,none⟩=w.cell? ⟨b,o,none⟩):TvK w' K' A n t :=
 ⟨h.1,h.2.1,fun hn=>by
  obtain ⟨b,off,e,hlt,hk,ht⟩:=h.2.2 hn
  exact ⟨b,off,e,Zi hlt hz,(hc b hlt hk).1,TAtK.keep hz hc hlt hk ht⟩⟩
theorem TvK.ext {w w':World} {K:Nat->Prop} {A:Option Addr} {n:Nat} {t:Tms} (h:TvK w K A n t) (hb:Ext w w'):TvK w' K A n t :=
 h.keep (Zt hb) fun b hlt hk=>⟨hk,fun o=>Zl (p:=⟨b,o,none⟩) hb hlt⟩
theorem TvK.mono {w:World} {K K':Nat->Prop} {A:Option Addr} {n:Nat} {t:Tms} (h:TvK w K A n t) (hk:∀b,b<w.heap.size->K b->K' b):TvK w K' A n t :=
 h.keep (Zb _) fun b hlt hb=>⟨hk b hlt hb,fun _=>rfl⟩
theorem TvK.but {w w':World} {K K':Nat->Prop} {E:Option Nat} {A:Option Addr} {n:Nat} {t:Tms} (h:TvK w K A n t) (hb:But E w w') (hk:∀b,b<w.heap.size->K b->K' b/\some b≠E):TvK w' K' A n t :=
 h.keep hb.size fun b hlt hkb=>⟨(hk b hlt hkb).1,fun o=>hb.cell (p:=⟨b,o,none⟩) hlt (hk b hlt hkb).2⟩
theorem TAtK.tat {w:World} {K:Nat->Prop}:∀ {t:Tms} {b off:Nat},TAtK w K t b off->TAt w t b off:=by
 intro t
 induction t with
 | nil=>intro b off _;trivial
 | cons N c g r ih1 ih2 =>
  intro b off ⟨A,n,cap,h0,h1,h2,h3,h4,h5,hk,hn,hm,hg,hr⟩
  refine ⟨A,n,cap,h0,h1,h2,h3,h4,h5,hk,hn,hm,fun h=>?_,ih2 hr⟩
  obtain ⟨b',off',e,aa,_,ab⟩:=hg h
  exact ⟨b',off',e,aa,ih1 ab⟩
theorem TvK.tv {w:World} {K:Nat->Prop} {A:Option Addr} {n:Nat} {t:Tms} (h:TvK w K A n t):Tv w A n t :=
 ⟨h.1,h.2.1,fun hn=>by
  obtain ⟨b,off,e,hlt,_,ht⟩:=h.2.2 hn
  exact ⟨b,off,e,hlt,ht.tat⟩⟩
theorem TvK.none_ (w:World) (K:Nat->Prop) (A:Option Addr):TvK w K A 0 .nil:=⟨rfl,by unfold maxLen;omega,fun h=>absurd h (by omega)⟩
def RwK (w:World) (K:Nat->Prop):Tms->List Value->Prop
 | .nil,L=>L=[]
 | .cons N c g r,L=>∃(A:Option Addr) (n cap:Nat) (L':List Value),L=[.int .i64 N,.int .u8 c.k,.bool c.p,.int .i64 c.a,.int .i64 c.b,.slice A n cap]++L'/\(0<=c.k/\c.k<=255)/\TvK w K A n g/\RwK w K r L'
theorem RwK.keep {w w':World} {K K':Nat->Prop} (hz:w.heap.size<=w'.heap.size) (hc:∀b,b<w.heap.size->K b->K' b/\∀o,w'.cell? ⟨b,o,none⟩=w.cell? ⟨b,o,none⟩) :
  ∀ {t:Tms} {L:List Value},RwK w K t L->RwK w' K' t L:=by
 intro t
 induction t with
 | nil=>intro L h;exact h
 | cons N c g r _ ih =>
  intro L ⟨A,n,cap,L',e,hk,hg,hr⟩
  exact ⟨A,n,cap,L',e,hk,hg.keep hz hc,ih hr⟩
theorem RwK.ext {w w':World} {K:Nat->Prop} {t:Tms} {L:List Value} (h:RwK w K t L) (hb:Ext w w'):RwK w' K t L :=
 h.keep (Zt hb) fun b hlt hk=>⟨hk,fun o=>Zl (p:=⟨b,o,none⟩) hb hlt⟩
theorem RwK.but {w w':World} {K K':Nat->Prop} {E:Option Nat} {t:Tms} {L:List Value} (h:RwK w K t L) (hb:But E w w') (hk:∀b,b<w.heap.size->K b->K' b/\some b≠E):RwK w' K' t L :=
 h.keep hb.size fun b hlt hkb=>⟨(hk b hlt hkb).1,fun o=>hb.cell (p:=⟨b,o,none⟩) hlt (hk b hlt hkb).2⟩
theorem RwK.app {w:World} {K:Nat->Prop}:∀ {a b:Tms} {L M:List Value},RwK w K a L->RwK w K b M->RwK w K (a.app b) (L++M):=by
 intro a
 induction a with
 | nil=>intro b L M h h2;rw [show L=[] from h];exact h2
 | cons N c g r _ ih =>
  intro b L M ⟨A,n,cap,L',e,hk,hg,hr⟩ h2
  exact ⟨A,n,cap,L'++M,by rw [e,Zr],hk,hg,ih hr h2⟩
theorem RwK.len {w:World} {K:Nat->Prop}:∀ {t:Tms} {L:List Value},RwK w K t L->L.length=t.cnt*6:=by
 intro t
 induction t with
 | nil=>intro L h;rw [show L=[] from h];rfl
 | cons N c g r _ ih =>
  intro L ⟨A,n,cap,L',e,hk,hg,hr⟩
  have:=ih hr
  rw [e]
  simp only [Zc,Zk,List.length_nil,Tms.cnt,this]
  omega
theorem RwK.one {w:World} {K:Nat->Prop}:∀ {t:Tms} {L:List Value},RwK w K t L->∀u∈L,u.oneCell'=true:=by
 intro t
 induction t with
 | nil=>intro L h u hu;rw [show L=[] from h] at hu;cases hu
 | cons N c g r _ ih =>
  intro L ⟨A,n,cap,L',e,hk,hg,hr⟩ u hu
  rw [e,ZQ] at hu
  rcases hu with hu | hu
  ·simp only [Zx,List.not_mem_nil,or_false] at hu
   rcases hu with rfl | rfl | rfl | rfl | rfl | rfl <;> rfl
  ·exact ih hr u hu
theorem RwK.at_ {w:World} {K:Nat->Prop}:∀ {t:Tms} {L:List Value} {b off:Nat},RwK w K t L->(∀j u,L[j]?=some u->w.cell? ⟨b,off+j,none⟩=some u)->TAtK w K t b off:=by
 intro t
 induction t with
 | nil=>intro L b off _ _;trivial
 | cons N c g r _ ih =>
  intro L b off ⟨A,n,cap,L',e,hk,hg,hr⟩ h
  subst e
  refine ⟨A,n,cap,h 0 _ rfl,h 1 _ rfl,h 2 _ rfl,h 3 _ rfl,h 4 _ rfl,h 5 _ rfl,hk,hg.1,hg.2.1,hg.2.2,ih hr (fun j u hu=>?_)⟩
  rw [show off+6+j=off+(6+j) by omega]
  refine h (6+j) u ?_
  rw [ZN (by simp)]
  simpa using hu
theorem TAtK.row {w:World} {K:Nat->Prop}:∀ {t:Tms} {b off:Nat},TAtK w K t b off->∃L,RwK w K t L/\∀j u,L[j]?=some u->w.cell? ⟨b,off+j,none⟩=some u:=by
 intro t
 induction t with
 | nil=>intro b off _;exact ⟨[],rfl,fun j u h=>by simp at h⟩
 | cons N c g r _ ih =>
  intro b off ⟨A,n,cap,h0,h1,h2,h3,h4,h5,hk,hn,hm,hg,hr⟩
  obtain ⟨L',hL,hc⟩:=ih hr
  refine ⟨_,⟨A,n,cap,L',rfl,hk,⟨hn,hm,hg⟩,hL⟩,fun j u hu=>?_⟩
  rcases ZX j 6 with hj | hj
  ·rw [ZT (by simpa using hj)] at hu
   match j,hj,hu with
   | 0,_,hu=>simp at hu;subst hu;exact h0
   | 1,_,hu=>simp at hu;subst hu;exact h1
   | 2,_,hu=>simp at hu;subst hu;exact h2
   | 3,_,hu=>simp at hu;subst hu;exact h3
   | 4,_,hu=>simp at hu;subst hu;exact h4
   | 5,_,hu=>simp at hu;subst hu;exact h5
  ·rw [ZN (by simpa using hj)] at hu
   have:=hc (j-6) u (by simpa using hu)
   rwa [show off+6+(j-6)=off+j by omega] at this
def OwnT (w:World) (B:Nat) (e:TypeId) (v:Value) (k:Nat) (t:Tms):Prop:=t.cnt=k/\∃L,w.ownsRow B e 6 v k L/\RwK w (fun b=>B<=b/\some b≠v.ownBlock) t L
theorem OwnT.nil (w:World) (B:Nat) (e:TypeId):OwnT w B e (.slice none 0 0) 0 .nil:=⟨rfl,[],World.ownsRow_nil _ _ _ _,rfl⟩
theorem OwnT.ext {w w':World} {B:Nat} {e:TypeId} {v:Value} {k:Nat} {t:Tms} (h:OwnT w B e v k t) (hb:Ext w w'):OwnT w' B e v k t:=by
 obtain ⟨h1,L,h2,h3⟩:=h
 exact ⟨h1,L,World.ownsRow.kept h2 (But.of_ext hb none) (by cases v.ownBlock <;> simp),h3.ext hb⟩
theorem zcB {w:World} {B k:Nat} {e:TypeId} {v:Value} {t:Tms} (h:OwnT w B e v k t) (hk:k<=1000000):∃A c,v = .slice A k c/\TvK w (fun b=>B<=b) A k t:=by
 obtain ⟨h1,L,h2,h3⟩:=h
 have hm:k<=maxLen:=by unfold maxLen;omega
 rcases h2.2 with ⟨e1,e2⟩ | ⟨g,cap,cur,e1,_⟩
 ·subst e2
  subst e1
  exact ⟨none,0,rfl,h1,by unfold maxLen;omega,fun h=>absurd h (by omega)⟩
 ·subst e1
  refine ⟨_,_,rfl,h1,hm,fun hn=>?_⟩
  obtain ⟨g',cap',hv,_,hlt⟩:=World.ownsRow.form h2 hn
  simp only [Value.slice.injEq,true_and] at hv
  obtain ⟨hA,hc⟩:=hv
  cases hA
  refine ⟨g,0,rfl,hlt,(zas h2 g (by simp [Value.ownBlock])).1,?_⟩
  refine RwK.at_ (L:=L) (h3.keep (Zb _) fun b _ hb=>⟨hb.1,fun _=>rfl⟩) fun j u hu=>?_
  have hj:j<k*6:=by rw [<-h1,<-h3.len];exact (ZB.1 hu).1
  rw [Nat.zero_add,World.ownsRow.cellAt h2 _ hj]
  exact hu
section
variable {P:Program} {ops:Array Oper} {rest:List Oper} {o:Oper} {a:Act} {K:Act->World->Prop} {Q:Exit->Act->World->Prop} {E:Prop} {w wx:World}
theorem zf3:∀(t r:Tms),(t.app r).cnt=t.cnt+r.cnt:=by
 intro t r
 induction t with
 | nil=>simp [Tms.app,Tms.cnt]
 | cons N c g r' _ ih=>simp only [Tms.app,Tms.cnt,ih];omega
theorem zcs (T e:TypeId) (z:Value) (bytes:Nat) {s x:Operand} {v:Value} {k m c:Nat} {A:Option Addr} {t r:Tms} {L:List Value}
  (ho:o.op = .call { callee := .builtin .append,args:=#[s,x],argTypes:=#[T,T] })
  (ht:P.underlying T=some (.slice e)) (hinfo:(P.info? e).map (fun i=>(i.zero,i.size,i.bytes))=some (some z,6,bytes)) (hzs:z.cells.size=6) (hby:bytes<=1000)
  (hs:a.eval s=v) (hx:a.eval x = .slice A m c) (hown:OwnT wx w.heap.size e v k t) (hext:Ext w wx) (hr:r.cnt=m)
  (hL:RwK wx (fun b=>w.heap.size<=b/\some b≠v.ownBlock) r L) (hA:0<m->∃ad,A=some ad/\∀j u,L[j]?=some u->wx.cell? (ad.add j)=some u) (hk:k+m<=1000000)
  (h:∀v' w1,OwnT w1 w.heap.size e v' (k+m) (t.app r)->Hid (Ext w w1)->K (a.put o.dst v') w1):o.wp P a wx K Q:=by
 obtain ⟨h1,L0,h2,h3⟩:=hown
 refine za7 T e z 6 bytes ho ht hinfo hzs (by omega) hby hs hx h2 hext (by rw [hL.len,hr]) hA hL.one hk ?_
 intro v' w1 g1 g2 g3 g4
 refine h v' w1 ⟨?_,L0++L,g1,?_⟩ g2
 ·rw [<-hr,<-h1]
  exact zf3 t r
 ·have hb:∀b,b<wx.heap.size->(w.heap.size<=b/\some b≠v.ownBlock)->(w.heap.size<=b/\some b≠v'.ownBlock)/\some b≠v.ownBlock:=fun b hlt hb=>by
   refine ⟨⟨hb.1,?_⟩,hb.2⟩
   rcases g4 with g4 | g4
   ·rw [g4];exact hb.2
   ·rw [g4];intro e;cases e;omega
  exact (h3.but g3 hb).app (hL.but g3 hb)
end
theorem zmG:(Tryz.prog.info? 140).map (fun i=>(i.zero.map (fun z=>z.cells.size),i.size,i.bytes))=some (some 6,6,56):=by kernel_rfl
theorem zj7:∃z:Value,(Tryz.prog.info? 140).map (fun i=>(i.zero,i.size,i.bytes))=some (some z,6,56)/\z.cells.size=6:=by
 have h:=zmG
 rw [ZS] at h
 obtain ⟨i,hi,he⟩:=h
 simp only [Prod.mk.injEq] at he
 obtain ⟨h1,h2,h3⟩:=he
 rw [ZS] at h1
 obtain ⟨z,hz,hs⟩:=h1
 exact ⟨z,by rw [hi,Option.map_some,hz,h2,h3],hs⟩
theorem zf1 {P:Program} {o:Oper} {a:Act} {K:Act->World->Prop} {Q:Exit->Act->World->Prop} {w wx:World} (T e:TypeId) (z:Value) (bytes:Nat) {s x:Operand} {v:Value} {k:Nat} (g0:Nat) {t g:Tms} (N:Int) (c:St) {A:Option Addr} {n cap:Nat}
  (ho:o.op = .call { callee := .builtin .append,args:=#[s,x],argTypes:=#[T,T] })
  (ht:P.underlying T=some (.slice e)) (hinfo:(P.info? e).map (fun i=>(i.zero,i.size,i.bytes))=some (some z,6,bytes)) (hzs:z.cells.size=6) (hby:bytes<=1000)
  (hs:a.eval s=v) (hx:a.eval x = .slice (some ⟨g0,0,none⟩) 1 1) (hown:OwnT wx w.heap.size e v k t) (hext:Ext w wx) (hck:0<=c.k/\c.k<=255)
  (hg:TvK wx (fun b=>w.heap.size<=b/\some b≠v.ownBlock) A n g)
  (hA:∀j u,([.int .i64 N,.int .u8 c.k,.bool c.p,.int .i64 c.a,.int .i64 c.b,.slice A n cap]:List Value)[j]?=some u->wx.cell? ⟨g0,j,none⟩=some u) (hk:k+1<=1000000)
  (h:∀v' w1,OwnT w1 w.heap.size e v' (k+1) (t.app (.cons N c g .nil))->Hid (Ext w w1)->K (a.put o.dst v') w1):o.wp P a wx K Q :=
 zcs T e z bytes (r := .cons N c g .nil) (L:=[.int .i64 N,.int .u8 c.k,.bool c.p,.int .i64 c.a,.int .i64 c.b,.slice A n cap]) ho ht hinfo hzs hby hs hx hown hext rfl
  ⟨A,n,cap,[],rfl,hck,hg,rfl⟩ (fun _=>⟨_,rfl,fun j u hu=>by rw [zc9,Nat.zero_add];exact hA j u hu⟩) hk h
theorem zjc:∀a b c:Tms,(a.app b).app c=a.app (b.app c):=by
 intro a
 induction a with
 | nil=>intro b c;rfl
 | cons N x g r _ ih=>intro b c;rw [Tms.app,Tms.app,Tms.app,ih]
theorem zrM (w:World) (N k:Int) (p:Bool) (a b:Int) (v:Value) (T:TypeId) :
  ∀j u,([.int .i64 N,.int .u8 k,.bool p,.int .i64 a,.int .i64 b,v]:List Value)[j]?=some u->(w.alloc (.cells #[.int .i64 N,.int .u8 k,.bool p,.int .i64 a,.int .i64 b,v] T)).cell? ⟨w.heap.size,j,none⟩=some u:=by
 intro j u hj
 have h:(w.alloc (.cells #[.int .i64 N,.int .u8 k,.bool p,.int .i64 a,.int .i64 b,v] T)).heap[w.heap.size]?=some (.cells #[.int .i64 N,.int .u8 k,.bool p,.int .i64 a,.int .i64 b,v] T):=heap_alloc_new w _
 rw [cell_of_row _ w.heap.size _ _ T (0,0) h]
 simpa using hj
attribute [local go_sem] zaA
end Go.Proofs.YtbjgpbojjhldaaaGreatDoor
/- The walks of expand and Cells of terms. -/
namespace Go.Proofs.YtbjgpbojjhldaaaGreatDoor
set_option maxRecDepth 100000
open Go.RowKit Go.ChangeShapes Go.WideShapes Go.Joins
def ownC (c:St) (g:Tms):List St:=if g.cnt=0 then [c] else g.cells
theorem zgM (c:St):ownC c .nil=[c]:=rfl
theorem zgL (c:St) {g:Tms} (h:0<g.cnt):ownC c g=g.cells:=by rw [ownC,if_neg (by omega)]
theorem ze6 (N:Int) (c:St) (g r:Tms):(Tms.cons N c g r).cells=rep N.toNat (ownC c g)++r.cells:=by
 by_cases h:g = .nil
 ·subst h
  rw [zbg,zgM,zkS]
 ·rw [zbf _ _ _ _ h,ownC,if_neg (fun e=>h (zbc e))]
theorem zig:∀(M:Nat),M<=5000->∀(t:Tms),t.size<=M->fineT t=true->t.cells.length<=200->∀(A:Option Addr) (n cap:Nat) (w:World),Tv w A n t ->
  Calls Tryz.prog 146 #[.slice A n cap] w (StsR t.cells w):=by
 intro M
 induction M using Nat.strongRecOn with
 | ind M ih =>
  intro hM t ht hf aL A n cap w hv
  have HI:=Za ih
  have HV:=Za hv
  have hnm:n<=5000:=by have h1:=hv.1;have h2:=za8 t;omega
  have HF:=Za hf
  clear ih hv hf
  go_enter Tryz.func146,Tryz.ntmps146
  go_wp2_with fail
  go_loopw [3,9] (fun u i wr=>∃(V:Value) (k:Nat) (pre:List St) (rest:Tms),V=u/\i = .int .i64 k/\rest.cnt+k=n/\rest.size<=M/\pre.length+rest.cells.length<=200 /\
   Hid (OwnV shSt wr w.heap.size 92 V pre.length pre/\pre++rest.cells=t.cells/\fineT rest=true/\Ext w wr/\(0<rest.cnt->∃b off,A=some ⟨b,off,none⟩/\b<w.heap.size/\TAt w rest b (off+k*6)))) (fun _ i _=>n-(intOf i).toNat)
  case atStart =>
   refine ⟨_,0,[],t,rfl,rfl,by have:=HV.out.1;omega,ht,by simpa using aL,Za ⟨OwnV.nil _ _ _ _,rfl,HF.out,Ze _,fun h=>?_⟩⟩
   obtain ⟨h1,h2,h3⟩:=HV.out
   obtain ⟨b,off,e,hb,hc⟩:=h3 (by omega)
   exact ⟨b,off,e,hb,by simpa using hc⟩
  case round =>
   obtain ⟨V,k,pre,rest,rfl,rfl,ap,aN,aH,HH⟩:=hrel
   by_cases hlt:0<rest.cnt
   ·obtain ⟨N,c,g,r,rfl⟩:=zb1 hlt
    obtain ⟨b,off,rfl,hb1,hc⟩:=HH.out.2.2.2.2 hlt
    obtain ⟨A',n',cap',d0,d1,d2,d3,d4,d5,aG,hg,hr⟩:=hc.head
    have au:=HH.out.2.2.2.1
    obtain ⟨⟨hN0,hN1⟩,aE,aF⟩:=zb5 HH.out.2.2.1
    have aC:=Za aF
    simp only [Tms.cnt,Tms.size] at ap aN
    have hkn:k<n:=by omega
    have hz:b<wr.heap.size:=Zi hb1 (Zt au)
    have av:=Za (ze6 N c g r)
    have ar:(rep N.toNat (ownC c g)).length+r.cells.length=(Tms.cons N c g r).cells.length:=by rw [av.out,Zc]
    rw [zbX] at ar
    have aq:0<g.cnt->g.cells.length<=200:=fun h=>by
     rw [zgL c h] at ar
     have:1*g.cells.length<=N.toNat*g.cells.length:=Nat.mul_le_mul_right _ (by omega)
     omega
    have af:=fun (h0:0<g.cnt) (w':World) (h:Ext w w')=>HI.out (M-1) (by omega) (by omega) g (by omega) aE (aq h0) A' n' cap' w' (hg.ext h)
    have HC:=Za af
    have az:=Za hg.1
    have q0:(0:Int)<=(k:Int):=by omega
    have q1:(k:Int)<(n:Int):=by omega
    have aw:=Za au
    have aB:=Za ar
    have HKK:=Za aG
    obtain ⟨ck,cp,ca,cb⟩:=c
    simp only at d1 d2 d3 d4
    obtain ⟨wq,rfl⟩:∃wq:World,wq=wr:=⟨_,rfl⟩
    have fwd:∀(o:Nat) (u:Value),w.cell? ⟨b,o,none⟩=some u->wq.cell? ⟨b,o,none⟩=some u:=fun o u h=>(Zl (p:=⟨b,o,none⟩) au hb1).trans h
    have c0:=fwd _ _ d0
    have c1:=fwd _ _ d1
    have c2:=fwd _ _ d2
    have c3:=fwd _ _ d3
    have c4:=fwd _ _ d4
    have c5:=fwd _ _ d5
    have aA:=Za (show ∀b,wq.heap.size<=b->some b≠V.ownBlock from fun b hb e=>by have:=(OwnV.blk HH.out.1 b e.symm).2;omega)
    clear af hc au aF aE aq ar aG fwd
    by_cases hn':0<n'
    ·have al:=Za (zgL ⟨ck,cp,ca,cb⟩ (g:=g) (by have:=az.out;omega))
     go_wp2_with (go_at_call 146;((with_reducible refine (HC.out (by have:=az.out;omega) _ (aw.out.trans zx)).mono ?_);rintro e w1 ⟨A1,m1,cap1,rfl,aI,aJ,ao, -⟩;obtain ⟨hf1,hf2,hf3⟩:=aI.facts))
     have am:=Za (show Ext wq w1 from zx)
     have ak:=Za (show VecX w1 V.ownBlock A1 m1 g.cells from ⟨aJ,fun h b off e=>aA.out b (by have:=ao h b off e;simp at this;omega)⟩)
     clear aJ aI ao
     have ai:=Za (ak.out.1.len)
     have HB:=Za (show pre.length+N.toNat*m1+r.cells.length<=200 by have h1:=aB.out;rw [al.out,ai.out] at h1;omega)
     have ah:=Za (show (Tms.cons N ⟨ck,cp,ca,cb⟩ g r).cells=rep N.toNat g.cells++r.cells by rw [av.out,al.out])
     clear aH
     go_loopw [3,25] (fun u j wi=>∃(V:Value) (q:Nat),V=u/\q<=N.toNat/\j = .int .i64 q/\Hid (OwnV shSt wi w.heap.size 92 V (pre.length+q*m1) (pre++rep q g.cells))/\Hid (VecX wi V.ownBlock A1 m1 g.cells/\Ext w wi)) (fun _ j _=>N.toNat-(intOf j).toNat)
     case atStart=>exact ⟨_,0,rfl,by omega,rfl,Za (by have:=(HH.out.1).ext am.out;simpa [rep] using this),Za ⟨ak.out,aw.out.trans am.out⟩⟩
     case round =>
      obtain ⟨V2,q,rfl,hq,rfl,ad,aa⟩:=hrel
      have aj:=aa.out.2
      obtain ⟨hz1,aO,aP⟩:=aj.facts
      by_cases hlq:q<N.toNat
      ·have qN:(q:Int)<N:=by omega
       have ay:=Za (show pre.length+q*m1+m1<=1000000 by
        have h1:(q+1)*m1<=N.toNat*m1:=Nat.mul_le_mul_right _ (by omega)
        rw [Nat.add_mul,Nat.one_mul] at h1
        have:=HB.out
        omega)
       go_wp2_with (at_builtin;refine zaa (S:=shSt) (w:=w) 43 92 (.agg #[.int .u8 0,.bool false,.int .i64 0,.int .i64 0]) 24 (by rfl) (by rfl) Tryz.underlying43 zdt (by rfl) (by omega) (by rfl) (by rfl) ad.out aj aa.out.1.1 ay.out ?_;intro v' w3 ae ab ac)
       go_roundw
       case rel =>
        refine ⟨v',q+1,rfl,by omega,by go_num,Za ?_,Za ⟨aa.out.1.step ac.out.1 ac.out.2,ab.out⟩⟩
        have e1:pre.length+(q+1)*m1=pre.length+q*m1+m1:=by rw [Nat.add_mul,Nat.one_mul];omega
        rw [e1,zhP,<-Zr]
        exact ae
       case measure=>simp [intOf];omega
      ·obtain rfl:q=N.toNat:=by omega
       have qN:¬((N.toNat:Int)<N):=by omega
       go_wp2
       go_roundw
       case rel =>
        obtain ⟨e2,e3,e4,e5, -⟩:=HH.out
        refine ⟨V2,k+1,pre++rep N.toNat g.cells,r,rfl,by go_num,by omega,by omega,?_,Za ⟨?_,?_,aC.out,aj,fun h=>?_⟩⟩
        ·rw [Zc,zbX,ai.out];have:=HB.out;omega
        ·rw [Zc,zbX,ai.out]
         exact ad.out
        ·rw [<-e3,ah.out,Zr]
        ·refine ⟨b,off,rfl,hb1,?_⟩
         rw [show off+(k+1)*6=off+k*6+6 by omega]
         exact hr
       case measure=>simp [intOf];omega
    ·obtain rfl:=zbc (t:=g) (by have:=az.out;omega)
     obtain rfl:n'=0:=by omega
     have al:=Za (zgM ⟨ck,cp,ca,cb⟩)
     go_wp2_with fail
     have am:=Za (show Ext wq ((wq.alloc (.cells #[.int .i64 N,.int .u8 ck,.bool cp,.int .i64 ca,.int .i64 cb,.slice A' 0 cap'] 140)).alloc (.cells #[.int .u8 ck,.bool cp,.int .i64 ca,.int .i64 cb] 92)) from zx)
     have ak:=Za (show VecX ((wq.alloc (.cells #[.int .i64 N,.int .u8 ck,.bool cp,.int .i64 ca,.int .i64 cb,.slice A' 0 cap'] 140)).alloc (.cells #[.int .u8 ck,.bool cp,.int .i64 ca,.int .i64 cb] 92)) V.ownBlock (some ⟨(wq.heap.size+1),0,none⟩) 1 [⟨ck,cp,ca,cb⟩] from ⟨Vec.lit2 (by simp) rfl rfl,fun h b off e=>aA.out b (by cases e;omega)⟩)
     have ai:=Za (ak.out.1.len)
     have HB:=Za (show pre.length+N.toNat*1+r.cells.length<=200 by have h1:=aB.out;rw [al.out,ai.out] at h1;omega)
     have ah:=Za (show (Tms.cons N ⟨ck,cp,ca,cb⟩ .nil r).cells=rep N.toNat [⟨ck,cp,ca,cb⟩]++r.cells by rw [av.out,al.out])
     clear aH
     go_loopw [3,25] (fun u j wi=>∃(V:Value) (q:Nat),V=u/\q<=N.toNat/\j = .int .i64 q/\Hid (OwnV shSt wi w.heap.size 92 V (pre.length+q*1) (pre++rep q [⟨ck,cp,ca,cb⟩]))/\Hid (VecX wi V.ownBlock (some ⟨(wq.heap.size+1),0,none⟩) 1 [⟨ck,cp,ca,cb⟩]/\Ext w wi)) (fun _ j _=>N.toNat-(intOf j).toNat)
     case atStart=>exact ⟨_,0,rfl,by omega,rfl,Za (by have:=(HH.out.1).ext am.out;simpa [rep] using this),Za ⟨ak.out,aw.out.trans am.out⟩⟩
     case round =>
      obtain ⟨V2,q,rfl,hq,rfl,ad,aa⟩:=hrel
      have aj:=aa.out.2
      obtain ⟨hz1,aO,aP⟩:=aj.facts
      by_cases hlq:q<N.toNat
      ·have qN:(q:Int)<N:=by omega
       have ay:=Za (show pre.length+q*1+1<=1000000 by
        have h1:(q+1)*1<=N.toNat*1:=Nat.mul_le_mul_right _ (by omega)
        rw [Nat.add_mul,Nat.one_mul] at h1
        have:=HB.out
        omega)
       go_wp2_with (at_builtin;refine zaa (S:=shSt) (w:=w) 43 92 (.agg #[.int .u8 0,.bool false,.int .i64 0,.int .i64 0]) 24 (by rfl) (by rfl) Tryz.underlying43 zdt (by rfl) (by omega) (by rfl) (by rfl) ad.out aj aa.out.1.1 ay.out ?_;intro v' w3 ae ab ac)
       go_roundw
       case rel =>
        refine ⟨v',q+1,rfl,by omega,by go_num,Za ?_,Za ⟨aa.out.1.step ac.out.1 ac.out.2,ab.out⟩⟩
        have e1:pre.length+(q+1)*1=pre.length+q*1+1:=by rw [Nat.add_mul,Nat.one_mul];omega
        rw [e1,zhP,<-Zr]
        exact ae
       case measure=>simp [intOf];omega
      ·obtain rfl:q=N.toNat:=by omega
       have qN:¬((N.toNat:Int)<N):=by omega
       go_wp2
       go_roundw
       case rel =>
        obtain ⟨e2,e3,e4,e5, -⟩:=HH.out
        refine ⟨V2,k+1,pre++rep N.toNat [⟨ck,cp,ca,cb⟩],r,rfl,by go_num,by omega,by omega,?_,Za ⟨?_,?_,aC.out,aj,fun h=>?_⟩⟩
        ·rw [Zc,zbX,ai.out];have:=HB.out;omega
        ·rw [Zc,zbX,ai.out]
         exact ad.out
        ·rw [<-e3,ah.out,Zr]
        ·refine ⟨b,off,rfl,hb1,?_⟩
         rw [show off+(k+1)*6=off+k*6+6 by omega]
         exact hr
       case measure=>simp [intOf];omega
   ·have aM:rest.cnt=0:=by omega
    obtain rfl:=zbc aM
    simp only [Tms.cnt] at ap
    obtain ⟨e1,e2,e3,e4, -⟩:=HH.out
    simp only [Tms.cells,ZF] at e2
    obtain rfl:k=n:=by omega
    obtain ⟨A2,c2,rfl,aK,aD⟩:=zan e1
    have ag:=zeM e1
    have ax:=Za (show Vec shSt wr A2 pre.length t.cells/\(0<pre.length->∀b off,A2=some ⟨b,off,none⟩->w.heap.size<=b)/\pre.length<=c2 by rw [<-e2];exact ⟨aK,aD,ag⟩)
    have HE:=Za e4
    clear e1 e2 e3 e4 aK aD ag
    go_wp2_with fail
    go_ret
    exact ⟨_,_,_,rfl,HE.out,ax.out.1,ax.out.2.1,ax.out.2.2⟩
end Go.Proofs.YtbjgpbojjhldaaaGreatDoor
/- The contracts of Check,Expand and Size of terms,both. -/
namespace Go.Proofs.YtbjgpbojjhldaaaGreatDoor
set_option maxRecDepth 100000
open Go.RowKit Go.ChangeShapes Go.WideShapes Go.Joins
theorem zln {t:Tms} (h:200<t.size∨8<t.depth):tchkE t=4:=by rw [tchkE,if_pos h]
theorem zrK {t:Tms} (h:¬(200<t.size∨8<t.depth)) (h2:fineT t=false):tchkE t=8:=by rw [tchkE,if_neg h,h2];rfl
theorem zqq {t:Tms} (h:¬(200<t.size∨8<t.depth)) (h2:fineT t=true) (h3:200<lenT t 0):tchkE t=4:=by rw [tchkE,if_neg h,if_pos h2,if_pos h3]
theorem zrJ {t:Tms} (h:¬(200<t.size∨8<t.depth)) (h2:fineT t=true) (h3:¬200<lenT t 0):tchkE t=0:=by rw [tchkE,if_neg h,if_pos h2,if_neg h3]
theorem zlo (t:Tms):tchkE t=0∨tchkE t=4∨tchkE t=8:=by
 unfold tchkE;split
 ·exact .inr (.inl rfl)
 ·split
  ·split
   ·exact .inr (.inl rfl)
   ·exact .inl rfl
  ·exact .inr (.inr rfl)
theorem zbl (t:Tms) (ht:t.size<=5000) (A:Option Addr) (n cap:Nat) (w:World) (hv:Tv w A n t) :
  Calls Tryz.prog 54 #[.slice A n cap] w fun e w'=>e = .returned (.int .i64 (tchkE t))/\Ext w w':=by
 have HV:=Za hv
 have ae:szM t=min (t.size:Int) 201:=rfl
 have aa:=Za ae
 clear hv ae
 by_cases h1:200<t.size
 ·have HE:=Za (zln (t:=t) (.inl h1))
  have ad:200<szM t:=by have:=aa.out;omega
  have hs2:szM t<=201:=by have:=aa.out;omega
  go_enter Tryz.func54,Tryz.ntmps54
  go_wp2_with (first | (go_at_call 90;((with_reducible refine (zcn 5000 (by omega) t ht A n cap _ (HV.out.ext zx)).mono ?_);rintro e w1 ⟨rfl,ab⟩)))
  go_ret
  exact ⟨by rw [HE.out];rfl,zx⟩
 by_cases h2:8<t.depth
 ·have HE:=Za (zln (t:=t) (.inr h2))
  have ad:decide (200<szM t)=false:=by have:=aa.out;simp;omega
  have af:(8:Int)<(t.depth:Int):=by omega
  go_enter Tryz.func54,Tryz.ntmps54
  go_wp2_with (first | (go_at_call 90;((with_reducible refine (zcn 5000 (by omega) t ht A n cap _ (HV.out.ext zx)).mono ?_);rintro e w1 ⟨rfl,ab⟩)))
  go_ret
  exact ⟨by rw [HE.out];rfl,zx⟩
 have ad:decide (200<szM t)=false:=by have:=aa.out;simp;omega
 have af:decide ((8:Int)<(t.depth:Int))=false:=by simp;omega
 have hdn:decide (8<t.depth)=false:=by simp;omega
 cases hf:fineT t
 ·have HE:=Za (zrK (t:=t) (by omega) hf)
  have HF:=Za hf
  clear hf
  go_enter Tryz.func54,Tryz.ntmps54
  go_wp2_with (first | (go_at_call 90;((with_reducible refine (zcn 5000 (by omega) t ht A n cap _ (HV.out.ext zx)).mono ?_);rintro e w1 ⟨rfl,ab⟩)) | (go_at_call 91;((with_reducible refine (zeB 5000 (by omega) t ht A n cap _ (HV.out.ext zx)).mono ?_);rintro e w2 ⟨rfl,ac⟩;rw [HF.out])))
  go_ret
  exact ⟨by rw [HE.out];rfl,zx⟩
 ·by_cases h3:200<lenT t 0
  ·have HE:=Za (zqq (t:=t) (by omega) hf h3)
   have HF:=Za hf
   clear hf
   go_enter Tryz.func54,Tryz.ntmps54
   go_wp2_with (first | (go_at_call 90;((with_reducible refine (zcn 5000 (by omega) t ht A n cap _ (HV.out.ext zx)).mono ?_);rintro e w1 ⟨rfl,ab⟩)) | (go_at_call 91;((with_reducible refine (zeB 5000 (by omega) t ht A n cap _ (HV.out.ext zx)).mono ?_);rintro e w2 ⟨rfl,ac⟩;rw [HF.out])) | (go_at_call 92;((with_reducible refine (zd9 5000 (by omega) t ht HF.out A n cap _ (HV.out.ext zx)).mono ?_);rintro e w3 ⟨rfl,ag⟩)))
   go_ret
   exact ⟨by rw [HE.out];rfl,zx⟩
  ·have HE:=Za (zrJ (t:=t) (by omega) hf h3)
   have HF:=Za hf
   have hl:decide (200<lenT t 0)=false:=by simp;omega
   clear hf
   go_enter Tryz.func54,Tryz.ntmps54
   go_wp2_with (first | (go_at_call 90;((with_reducible refine (zcn 5000 (by omega) t ht A n cap _ (HV.out.ext zx)).mono ?_);rintro e w1 ⟨rfl,ab⟩)) | (go_at_call 91;((with_reducible refine (zeB 5000 (by omega) t ht A n cap _ (HV.out.ext zx)).mono ?_);rintro e w2 ⟨rfl,ac⟩;rw [HF.out])) | (go_at_call 92;((with_reducible refine (zd9 5000 (by omega) t ht HF.out A n cap _ (HV.out.ext zx)).mono ?_);rintro e w3 ⟨rfl,ag⟩)))
   go_ret
   exact ⟨by rw [HE.out];rfl,zx⟩
def texp_anyE (t:Tms) (w:World) (e:Ending) (w':World):Prop:=∃(A:Option Addr) (n c:Nat),e = .returned (.tuple #[.slice A n c,.int .i64 (tchkE t)])/\Ext w w'/\Vec shSt w' A n (if tchkE t=0 then t.cells else [])/\(0<n->∀b off,A=some ⟨b,off,none⟩->w.heap.size<=b)/\n<=c
theorem zcS {t:Tms} {w:World} {e:Ending} {w':World} {x:Int} {l:List St} (A:Option Addr) (n c:Nat) (hx:tchkE t=x) (hl:(if tchkE t=0 then t.cells else [])=l) (h1:e = .returned (.tuple #[.slice A n c,.int .i64 x])) (h2:Ext w w') (h3:Vec shSt w' A n l) (h4:0<n->∀b off,A=some ⟨b,off,none⟩->w.heap.size<=b) (h5:n<=c):texp_anyE t w e w' :=
 ⟨A,n,c,by rw [hx];exact h1,h2,by rw [hl];exact h3,h4,h5⟩
theorem znP (t:Tms) (ht:t.size<=5000) (A:Option Addr) (n cap:Nat) (w:World) (hv:Tv w A n t) :
  Calls Tryz.prog 106 #[.slice A n cap] w (texp_anyE t w):=by
 have HV:=Za hv
 clear hv
 rcases zlo t with h | h | h
 ·have HE:=Za h
  have HL:=Za (show (if tchkE t=0 then t.cells else [])=t.cells by rw [if_pos h])
  obtain ⟨_,_,g3,g4⟩:=zoM h
  have G3:=Za g3
  clear g3 h
  go_enter Tryz.func106,Tryz.ntmps106
  go_wp2_with (first | (go_at_call 54;((with_reducible refine (zbl t ht A n cap _ (HV.out.ext zx)).mono ?_);rintro e w1 ⟨rfl,ac⟩;rw [HE.out])) | (go_at_call 146;((with_reducible refine (zig 5000 (by omega) t ht G3.out g4 A n cap _ (HV.out.ext zx)).mono ?_);rintro e w2 ⟨A2,n2,c2,rfl,hq2,ad,ab,aa⟩)))
  have ae:=Za ab
  have af:=Za aa
  have ag:=Za ad
  have hqq:Ext w w2:=zx
  clear ab ad aa
  go_wp2
  go_ret2
  exact zcS A2 n2 c2 HE.out HL.out rfl zx ag.out (fun h b off e=>by have h1:=ae.out h b off e;have h2:=Zt (show Ext w _ from ac);(try simp at h1);omega) af.out
 all_goals
  have HE:=Za h
  have HL:=Za (show (if tchkE t=0 then t.cells else [])=[] by rw [h];rfl)
  clear h
  go_enter Tryz.func106,Tryz.ntmps106
  go_wp2_with (first | (go_at_call 54;((with_reducible refine (zbl t ht A n cap _ (HV.out.ext zx)).mono ?_);rintro e w1 ⟨rfl,ac⟩;rw [HE.out])))
  go_ret2
  exact zcS none 0 0 HE.out HL.out rfl zx (Vec.none_ _ _ _) (fun h=>absurd h (by omega)) (Zb _)
end Go.Proofs.YtbjgpbojjhldaaaGreatDoor
