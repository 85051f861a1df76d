/- The reference's table: the walk. -/
import Derived.Test.YtkneghkbgingdaaGreatDoorT35
namespace Go.Proofs.YtkneghkbgingdaaGreatDoor
set_option maxHeartbeats 16000000
set_option maxRecDepth 100000
open Go.RowKit Go.ChangeShapes Go.WideShapes Go.Joins
theorem zeA:(Tryz.prog.info? 197).map (fun i=>(i.zero,i.size,i.bytes))=some (some (.agg #[.int .i64 0,.int .i64 0,.int .i64 0]),3,24):=by kernel_rfl
theorem znY:(Tryz.prog.info? 198).map (fun i=>(i.zero,i.size,i.bytes))=some (some (.slice none 0 0),1,24):=by kernel_rfl
theorem zkj {w:World} {B e g n:Nat} (h:w.ownsRow B e 3 (.slice (some ⟨g,0,none⟩) n n) n (madeCells (Value.agg #[.int .i64 0,.int .i64 0,.int .i64 0]).cells (n*3)).toList):OwnV shCh w B e (.slice (some ⟨g,0,none⟩) n n) n (List.replicate n ⟨0,0,0⟩):=by
 have e1:(madeCells (Value.agg #[.int .i64 0,.int .i64 0,.int .i64 0]).cells (n*3)).toList=(List.replicate n (⟨0,0,0⟩:Chc)).flatMap shCh.cells:=by
  apply List.ext_getElem?
  intro j
  rcases Z0 j (n*3) with hj | hj
  ·have e2:j=j / 3*3+j % 3:=by omega
   have hr:j % 3<shCh.size:=Nat.mod_lt _ (by decide)
   have h1:((List.replicate n (⟨0,0,0⟩:Chc)).flatMap shCh.cells)[j]?=some (.int .i64 0):=by
    rw [e2,show j / 3*3=j / 3*shCh.size from rfl,zc5 _ _ _ hr,List.getElem?_replicate,if_pos (by omega)]
    show (chc ⟨0,0,0⟩)[j % 3]?=_
    have h3:j % 3<3:=hr
    generalize j % 3=q at h3
    match q,h3 with
    | 0,_=>rfl
    | 1,_=>rfl
    | 2,_=>rfl
   rw [h1]
   simp [madeCells,Value.cells,hj]
   have h3:j % 3<3:=hr
   generalize j % 3=q at h3
   match q,h3 with
   | 0,_=>rfl
   | 1,_=>rfl
   | 2,_=>rfl
  ·rw [List.getElem?_eq_none (by simp [madeCells];omega),List.getElem?_eq_none (by rw [zbf,ZZ];exact hj)]
 unfold OwnV
 rw [<-e1]
 exact h
theorem TbO.first {w:World} {B e e2 n g:Nat} {l:List St} (hl:l.length=n) (h:OwnV shCh w B e2 (.slice (some ⟨g,0,none⟩) (n+1) (n+1)) (n+1) (List.replicate (n+1) ⟨0,0,0⟩)) (hB:B<=w.heap.size) :
  TbO (w.alloc (.cells #[.slice (some ⟨g,0,none⟩) (n+1) (n+1)] e)) B e (.slice (some ⟨w.heap.size,0,none⟩) 1 1) 1 l:=by
 refine ⟨[(some ⟨g,0,none⟩,n+1,n+1)],⟨rfl,.inr ⟨w.heap.size,1,_,rfl,hB,heap_alloc_new w _,Zg _,by unfold maxLen;omega,rfl,rfl⟩⟩,fun r x hx=>?_⟩
 have hr:r=0:=by
  have:=(ZK.1 hx).1
  simpa using this
 subst hr
 simp at hx
 subst hx
 refine ⟨(zlj w l (by rw [hl];exact Vec.of_own h)).ext ((Zf _).alloc _),fun b off e0 _=>?_⟩
 simp only [Option.some.injEq,Addr.mk.injEq] at e0
 obtain ⟨rfl, -⟩:=e0
 have h2:=OwnV.blk h g (by simp [Value.ownBlock])
 refine ⟨h2.1,?_⟩
 simp only [Value.ownBlock]
 intro e9
 cases e9
 omega
def TabRes (n:Nat) (l:List St) (w:World) (e:Ending) (w':World):Prop:=∃A' c',e = .returned (.slice A' (n+1) c')/\Ext w w'/\TbR w' A' (n+1) l
section
variable {P:Program} {ops:Array Oper} {rest:List Oper} {o:Oper} {a:Act} {K:Act->World->Prop} {Q:Exit->Act->World->Prop} {E:Prop} {w wx:World}
theorem zfa (T e:TypeId) (z:Value) (bytes:Nat) {s x:Operand} {v:Value} {k g n2 c2:Nat} {A2:Option Addr} {l:List St}
  (ho:o.op = .call { callee := .builtin .append,args:=#[s,x],argTypes:=#[T,T] })
  (ht:P.underlying T=some (.slice e)) (hinfo:(P.info? e).map (fun i=>(i.zero,i.size,i.bytes))=some (some z,1,bytes)) (hzs:z.cells.size=1) (hby:bytes<=1000)
  (hs:a.eval s=v) (hx:a.eval x = .slice (some ⟨g,0,none⟩) 1 1) (hown:TbO wx w.heap.size e v k l) (hext:Ext w wx)
  (hc:wx.cell? ⟨g,0,none⟩=some (.slice A2 n2 c2)) (hr:Vec shCh wx A2 n2 (tabRow l k)) (hb:∀b off,A2=some ⟨b,off,none⟩->0<n2->w.heap.size<=b/\some b≠v.ownBlock) (hk:k<=1000)
  (h:∀v' w1,TbO w1 w.heap.size e v' (k+1) l->Hid (Ext w w1)->K (a.put o.dst v') w1):o.wp P a wx K Q:=by
 obtain ⟨H,h1,h2⟩:=hown
 have hH:=h1.len
 refine zaC T e z 1 bytes (news:=[.slice A2 n2 c2]) (L:=H.flatMap shHd.cells) ho ht hinfo hzs (by omega) hby hs hx h1 hext rfl (fun _=>⟨_,rfl,fun j u hu=>?_⟩) (fun u hu=>?_) (by omega) ?_
 ·match j,hu with
  | 0,hu =>
   simp at hu
   subst hu
   exact hc
 ·simp at hu
  subst hu
  rfl
 ·intro v' w1 g1 g2 g3 g4
  refine h v' w1 (TbO.push (H:=H) (A:=A2) (n:=n2) (c:=c2) h2 hH hr hb g3 g4 ?_) (Za g2)
  unfold OwnV
  rw [Z1]
  exact g1
theorem zcS (T e:TypeId) (z:Value) (bytes:Nat) {s x:Operand} {v:Value} {k g n2 c2:Nat} {A2:Option Addr} {l:List St}
  (hgd:o.guard=none) (ho:o.op = .call { callee := .builtin .append,args:=#[s,x],argTypes:=#[T,T] })
  (ht:P.underlying T=some (.slice e)) (hinfo:(P.info? e).map (fun i=>(i.zero,i.size,i.bytes))=some (some z,1,bytes)) (hzs:z.cells.size=1) (hby:bytes<=1000)
  (hs:a.eval s=v) (hx:a.eval x = .slice (some ⟨g,0,none⟩) 1 1) (hown:TbO wx w.heap.size e v k l) (hext:Ext w wx)
  (hc:wx.cell? ⟨g,0,none⟩=some (.slice A2 n2 c2)) (hr:Vec shCh wx A2 n2 (tabRow l k)) (hb:∀b off,A2=some ⟨b,off,none⟩->0<n2->w.heap.size<=b/\some b≠v.ownBlock) (hk:k<=1000)
  (h:∀v' w1,TbO w1 w.heap.size e v' (k+1) l->Hid (Ext w w1)->wpList P ops Q rest (a.put o.dst v') w1):wpList P ops Q (o::rest) a wx :=
 wpList_plain hgd fun _ hK=>zfa T e z bytes ho ht hinfo hzs hby hs hx hown hext hc hr hb hk fun v' w' h2 h3=>hK _ _ (h v' w' h2 h3)
end
theorem zdW (w:World) (a b c:Nat) (T:TypeId):∀j u,(shCh.cells ⟨a,b,c⟩)[j]?=some u->(w.alloc (.cells #[.int .i64 (a:Int),.int .i64 (b:Int),.int .i64 (c:Int)] T)).cell? ⟨w.heap.size,j,none⟩=some u:=by
 intro j u hj
 have h:(w.alloc (.cells #[.int .i64 (a:Int),.int .i64 (b:Int),.int .i64 (c:Int)] T)).heap[w.heap.size]?=some (.cells #[.int .i64 (a:Int),.int .i64 (b:Int),.int .i64 (c:Int)] T):=heap_alloc_new w _
 rw [cell_of_row _ w.heap.size _ _ T (0,0) h]
 simpa [shCh,chc] using hj
theorem zhZ (m c:Nat) (A:Option Addr) (l:List St) (w:World) (hl:Vec shSt w A m l) (hm60:m<=60) (hpm:1<m) :
  Calls Tryz.prog 140 #[.slice A m c,.int .i64 1] w fun e w'=>e = .returned (.bool (perB l 1))/\Ext w w' :=
 (zd6 m c 1 A l w hl hm60 (Zg 1) hpm).mono fun _ _ ⟨h1,q,h2⟩=>⟨h1,by rw [h2];exact (Zf w).drewN q⟩
theorem zeL {m c p n:Nat} {A:Option Addr} {l:List St} {w:World} {v:Value} (hl:Vec shSt w A m l) (hm60:m<=60) (hp:1<=p) (hpm:p<m) (hv : .bool (perB l p)=v) :
  Calls Tryz.prog 140 #[.slice A m c,.int .i64 p] (w.drewN n) fun e w''=>e = .returned v/\∃q,w''=w.drewN q :=
 (zd6 m c p A l (w.drewN n) (hl.ext ((Zf w).drewN n)) hm60 hp hpm).mono fun _ _ ⟨h1,q,h2⟩=>⟨by rw [h1,hv],n+q,by rw [h2,World.drewN_drewN]⟩
structure CBox (w:World) (g:Nat) (c:Chc):Prop where
 c0:w.cell? ⟨g,0,none⟩=some (.int .i64 (c.size:Nat))
 c1:w.cell? ⟨g,1,none⟩=some (.int .i64 (c.period:Nat))
 c2:w.cell? ⟨g,2,none⟩=some (.int .i64 (c.part:Nat))
 fz:∀o,w.frozen? ⟨g,o,none⟩=false
theorem CBox.lt {w:World} {g:Nat} {c:Chc} (h:CBox w g c):g<w.heap.size:=Zn w _ h.c0
theorem CBox.ext {w w':World} {g:Nat} {c:Chc} (h:CBox w g c) (hb:Ext w w'):CBox w' g c:=by
 have hl:=h.lt
 obtain ⟨hc,hf, -⟩:=hb.facts
 exact ⟨(hc _ _ hl).trans h.c0,(hc _ _ hl).trans h.c1,(hc _ _ hl).trans h.c2,fun o=>(hf _ _ hl).trans (h.fz o)⟩
theorem CBox.new_ (w:World) (a b c:Nat) (T:TypeId):CBox (w.alloc (.cells #[.int .i64 (a:Int),.int .i64 (b:Int),.int .i64 (c:Int)] T)) w.heap.size ⟨a,b,c⟩ :=
 ⟨zdW w a b c T 0 _ rfl,zdW w a b c T 1 _ rfl,zdW w a b c T 2 _ rfl,fun o=>by simp [go_sem]⟩
theorem CBox.put {w:World} {g:Nat} {c:Chc} (h:CBox w g c) (a b d:Nat) {x y z:Int} (hx:x=(a:Int)) (hy:y=(b:Int)) (hz:z=(d:Int)) :
  CBox (((w.setCell ⟨g,0,none⟩ (.int .i64 x)).setCell ⟨g,1,none⟩ (.int .i64 y)).setCell ⟨g,2,none⟩ (.int .i64 z)) g ⟨a,b,d⟩:=by
 subst hx hy hz
 have e:∀i j:Nat,i≠j->(⟨g,i,none⟩:Addr)≠⟨g,j,none⟩:=fun i j h e=>by cases e;exact h rfl
 refine ⟨?_,?_,?_,fun o=>?_⟩
 ·rw [Zj _ _ _ _ (e 2 0 (by decide)),Zj _ _ _ _ (e 1 0 (by decide))]
  exact ZJ _ _ _ h.c0
 ·rw [Zj _ _ _ _ (e 2 1 (by decide))]
  exact ZJ _ _ _ (by rw [Zj _ _ _ _ (e 0 1 (by decide))];exact h.c1)
 ·exact ZJ _ _ _ (by rw [Zj _ _ _ _ (e 1 2 (by decide)),Zj _ _ _ _ (e 0 2 (by decide))];exact h.c2)
 ·rw [Zw,Zw,Zw]
  exact h.fz o
theorem Ext.put3 {w0 w:World} {g:Nat} (h:Ext w0 w) (hg:w0.heap.size<=g) (x y z:Value):Ext w0 (((w.setCell ⟨g,0,none⟩ x).setCell ⟨g,1,none⟩ y).setCell ⟨g,2,none⟩ z) :=
 But.ext_none ((((But.of_ext h none).setCell (p:=⟨g,0,none⟩) hg x).setCell (p:=⟨g,1,none⟩) hg y).setCell (p:=⟨g,2,none⟩) hg z)
theorem zmt {l:List St} {a:Nat} (h:a+1<=l.length):perB (sub l a 1) 1=true :=
 zcH (by rw [zan h]) (by rw [zan h];omega) fun j hj=>by rw [zan h] at hj;omega
theorem zga (n c:Nat) (A:Option Addr) (l:List St) (w:World) (hv:Vec shSt w A n l) (hn:n<=60) (hcap:n<=c) :
  Calls Tryz.prog 111 #[.slice A n c] w (TabRes n l w):=by
 have HV:=Za hv
 have aW:=hv.1
 have aO:=Za aW
 have s0:=Zh ((n:Int)+1) (by omega)
 have s00:(((n+1:Nat):Nat):Int)=(n:Int)+1:=by omega
 clear hv
 go_enter Tryz.func111,Tryz.ntmps111
 go_wp2_with (first
  | (at_make;(refine zbX 198 197 (.agg #[.int .i64 0,.int .i64 0,.int .i64 0]) 3 24 (n+1) w.heap.size (by rfl) (by rfl) Tryz.underlying198 zeA (by first | rfl | (simp <;> omega)) (by omega) (by omega) (by simp) ?_;intro w1 aC aq ay)))
 have HF:=Za (TbO.first (e:=198) (l:=l) aO.out (zkj aC.out) (Zl aq.out))
 have ak:=Za (show Ext w (w1.alloc (Obj.cells #[Value.slice (some ⟨w.heap.size,0,none⟩) (n+1) (n+1)] 198)) from aq.out.trans ((Zf _).alloc _))
 clear aC aq
 go_loopw [3,4] (fun u i wr=>∃(V:Value) (k:Nat),V=u/\i = .int .i64 k/\1<=k/\k<=n+1/\Hid (TbO wr w.heap.size 198 V k l)/\Hid (Ext w wr)) (fun _ i _=>n+1-(intOf i).toNat)
 case atStart=>exact ⟨_,1,rfl,rfl,by omega,by omega,HF,ak⟩
 case round =>
  clear HF ak ay
  obtain ⟨V,k,rfl,rfl,aI,hkn,HT,HX⟩:=hrel
  obtain ⟨A1,c1,rfl,aK⟩:=HT.out.read
  have aE:=Za aK
  clear aK
  by_cases hlt:k<=n
  case neg =>
   obtain rfl:k=n+1:=by omega
   have p0:¬((n:Int)+1<=(n:Int)):=by omega
   go_wp2_with fail
   go_ret
   exact ⟨A1,c1,rfl,HX.out,aE.out⟩
  have p0:((k:Int)<=(n:Int)):=by omega
  have p1:=Zh ((k:Int)+1) (by omega)
  obtain ⟨wa,rfl⟩:∃wa:World,wa=wr:=⟨_,rfl⟩
  go_wp2_with fail
  have aM:=Za (show ∀b,wa.heap.size<=b->w.heap.size<=b/\some b≠(Value.slice A1 k c1).ownBlock from fun b hb=>by
   obtain ⟨_,hL,_⟩:=HT.out
   exact ⟨ZD (Zl HX.out) hb,fun e=>by have:=(OwnV.blk hL b e.symm).2;omega⟩)
  go_loopw [5,6] (fun u i wr=>∃(V:Value) (j:Nat),V=u/\i = .int .i64 j/\j+k<=n+1/\Hid (OwnV shCh wr wa.heap.size 197 V j (rowUp l k j))/\Hid (Ext wa wr)) (fun _ i _=>n+1-(intOf i).toNat)
  case atStart=>exact ⟨_,0,rfl,rfl,by omega,Za (OwnV.nil _ _ _ _),Za zx⟩
  case round =>
   obtain ⟨V2,j,rfl,rfl,hj,HO,HE⟩:=hrel
   have i0:=Zh ((j:Int)+(k:Int)) (by omega)
   have i1:=Zh ((j:Int)+1) (by omega)
   obtain ⟨wb,rfl⟩:∃wb:World,wb=wr:=⟨_,rfl⟩
   by_cases hjk:j+k<=n
   case neg =>
    have t0:¬((j:Int)+(k:Int)<=(n:Int)):=by omega
    obtain ⟨A2,c2,rfl,hv2⟩:=zav HO.out
    have an:rowUp l k j=tabRow l k:=zkT aI (by omega) (by omega)
    rw [an] at hv2
    have aQ:=Za hv2
    have aL:=Za (show ∀b off,A2=some ⟨b,off,none⟩->0<j->w.heap.size<=b/\some b≠(Value.slice A1 k c1).ownBlock from fun b off e _=>aM.out b (by subst e;exact (OwnV.blk HO.out b (by simp [Value.ownBlock])).1))
    have aP:=Za (HT.out.ext HE.out)
    have aR:=Za (HX.out.trans HE.out)
    clear hv2 an
    go_wp2_with (at_builtin;(refine zcS (w:=w) (l:=l) (A2:=A2) (n2:=j) (c2:=c2) (g:=wb.heap.size) 167 198 (.slice none 0 0) 24 (by rfl) (by rfl) Tryz.underlying167 znY (by rfl) (by omega) (by rfl) (by rfl) (aP.out.ext zx) (aR.out.trans zx) (by simp [go_sem]) (aQ.out.ext zx) aL.out (by omega) ?_;intro v' w2 ab aa))
    go_roundw
    case rel=>exact ⟨v',k+1,rfl,by go_num,by omega,by omega,Za ab,aa⟩
    case measure=>simp [intOf];omega
   have aA:=zbU (l:=l) (a:=j) (n:=k) (by omega) aI
   have az:=zan (l:=l) (a:=j) (n:=k) (by omega)
   obtain ⟨b,off,rfl,hb, -⟩:=HV.out.2 (by omega)
   have HS:=Za (((HV.out.ext HX.out).ext HE.out).sub_ (a:=j) (m:=k) (by omega))
   have t0:((j:Int)+(k:Int)<=(n:Int)):=by omega
   have t1:((j:Int)<=(j:Int)+(k:Int)):=by omega
   have t2:((j:Int)+(k:Int)<=(c:Int)):=by omega
   have t3:((0:Int)<=(j:Int)):=by omega
   have t9:¬(c=j):=by omega
   have n1:((j:Int)+(k:Int)).toNat=j+k:=by omega
   by_cases hk1':k=1
   ·subst hk1'
    have HC:=Za (zjB aA (zmt (by omega)))
    go_wp2_with (at_builtin;(refine zaW (S:=shCh) (w:=wa) (L:=rowUp l 1 j) (k:=j) 198 197 (.agg #[.int .i64 0,.int .i64 0,.int .i64 0]) 24 wb.heap.size ⟨1,0,0⟩ (by rfl) (by rfl) Tryz.underlying198 zeA (by rfl) (by omega) (by rfl) (by rfl) (HO.out.ext zx) (HE.out.trans zx) (zdW _ _ _ _ _) (by omega) ?_;intro v' w2 ab aa))
    go_roundw
    case rel=>exact ⟨_,_,_,_,_,_,_,_,_,_,_,_,_,_,_,_,_,_,_,_,_,_,_,_,_,_,_,_,_,_,_,_,_,_,_,_,_,_,_,_,_,_,_,_,_,_,_,_,_,_,_,_,_,_,_,_,_,_,_,_,_,_,_,_,_,_,_,_,_,_,_,_,_,_,_,_,_,_,_,_,_,_,_,_,_,_,_,_,_,_,_,_,_,_,_,_,_,_,_,_,_,_,_,_,_,_,_,_,_,_,_,_,_,_,_,_,_,_,_,_,_,_,_,_,_,_,⟨v',j+1,rfl,by go_num,by omega,Za (by rw [zcI,HC.out];exact ab),aa⟩,rfl⟩
    case measure=>simp [intOf];omega
   have hk2:2<=k:=by omega
   have e0:((k:Int)==1)=false:=by rw [Ze];omega
   cases hp1:perB (sub l j k) 1
   case true =>
    have HP1:=Za hp1
    have HC:=Za (zjB aA hp1)
    clear hp1
    go_wp2_with (first
     | (go_at_call 140;((with_reducible refine (zhZ k _ _ (sub l j k) _ (HS.out.ext zx) (by omega) (by omega)).mono ?_);rintro e w2 ⟨rfl,hq⟩;rw [HP1.out];have ak:=Za (HE.out.trans hq)))
     | (at_builtin;(refine zaW (S:=shCh) (w:=wa) (L:=rowUp l k j) (k:=j) 198 197 (.agg #[.int .i64 0,.int .i64 0,.int .i64 0]) 24 w2.heap.size ⟨1,0,0⟩ (by rfl) (by rfl) Tryz.underlying198 zeA (by rfl) (by omega) (by rfl) (by rfl) ((HO.out.ext hq).ext zx) (ak.out.trans zx) (zdW _ _ _ _ _) (by omega) ?_;intro v' w3 ab aa)))
    go_roundw
    case rel=>exact ⟨v',j+1,rfl,by go_num,by omega,Za (by rw [zcI,HC.out];exact ab),aa⟩
    case measure=>simp [intOf];omega
   case false =>
    obtain ⟨aJ,aw⟩:=zhl aA hp1
    rw [az] at aJ aw
    have aB:=Za aw
    have HP1:=Za hp1
    have aD:=Za az
    clear hp1 aw az
    go_wp2_with (first
     | (go_at_call 140;((with_reducible refine (zhZ k _ _ (sub l j k) _ (HS.out.ext zx) (by omega) (by omega)).mono ?_);rintro e w2 ⟨rfl,hq⟩;rw [HP1.out];have ak:=Za (HE.out.trans hq);have aY:=Zl hq)))
    have ap:=Za (CBox.new_ w2 (k+1) 0 0 197)
    have aF:=Za (show Ext wb (w2.alloc (Obj.cells #[.int .i64 ((k+1:Nat):Int),.int .i64 ((0:Nat):Int),.int .i64 ((0:Nat):Int)] 197)) from hq.trans ((Zf _).alloc _))
    have au:=Za (fun (w':World) (h:Ext wb w')=>(aE.out.ext HE.out).ext h)
    obtain ⟨g3,hg3⟩:∃g3,w2.heap.size=g3:=⟨_,rfl⟩
    rw [hg3] at ap ⊢
    have HG:=Za (show wb.heap.size<=g3 by omega)
    clear hq aY hg3
    go_loopw [8] (fun i wr=>∃(P:Nat) (cc:Chc),i = .int .i64 (P:Nat)/\2<=P/\P<=k/\cc.size<=k+1/\cc.part=0/\Hid (CBox wr g3 cc)/\Hid (Ext wb wr)/\Hid (ch (sub l j k)=fin2 (sub l j k) k (fin1 (sub l j k) P cc))) (fun i _=>k-(intOf i).toNat)
    case atStart=>exact ⟨2,⟨k+1,0,0⟩,rfl,by omega,aJ,by simp,rfl,ap,aF,aB⟩
    case round =>
     clear ap aF aB ak HP1
     obtain ⟨P,cc,rfl,aS,hPm,aH,aG,ae,ad,HF⟩:=hrel
     have p9:=Zh ((P:Int)+1) (by omega)
     obtain ⟨wc,rfl⟩:∃wc:World,wc=wr:=⟨_,rfl⟩
     by_cases hlt2:P<k
     ·have p1':(P:Int)<(k:Int):=by omega
      have p2':(0:Int)<=(P:Int):=by omega
      have ai:=zcg (l:=sub l j k) (P:=P) (by rw [aD.out];exact hlt2) cc
      have ah:=zbi (l:=l) (a:=j) (n:=k) (p:=P) (by omega)
      obtain ⟨b1,off1,b2,off2,n',c',rfl,al,d0,aV,hb2,d1, -, -⟩:=(au.out _ ad.out).at_ (r:=P) (i:=j) (by omega) hlt2 (by omega)
      have aX:=zca (l:=l) (a:=j) (m:=P) (by omega) (by omega)
      obtain ⟨sz,aj⟩:∃sz,chS (sub l j P)=sz:=⟨_,rfl⟩
      have ac:(ch (sub l j P)).size=sz:=aj
      rw [ac] at aX d1
      have p3':=Zh (1+(sz:Int)) (by omega)
      have p4':(j:Int)<(n':Int):=by omega
      have f0:=ae.out.c0
      have f3:=ae.out.fz
      have z3:=ae.out.lt
      have HSZ:=Za aj
      have ar:=Za (HS.out.ext ad.out)
      cases hper:perB (sub l j k) P
      case false =>
       have ao:=Za hper
       have ag:=Za (by have h9:=HF.out;rw [ai,zns hper] at h9;exact h9)
       clear hper ai HF aj ac ah
       go_wp2_with fail
       go_quiet ((go_at_call 140;exact zeL ar.out (by omega) (by omega) (by omega) (by rw [ao.out])))
       go_wp2
       go_roundw
       case rel=>exact ⟨P+1,cc,by go_num,by omega,by omega,aH,aG,Za (ae.out.ext ((Zf wc).drewN nq)),Za (ad.out.drewN nq),ag⟩
       case measure=>simp [intOf] <;> omega
      case true =>
       have ao:=Za hper
       by_cases hb:1+sz<cc.size
       ·have ag:=Za (by have h9:=HF.out;rw [ai,zkz aS hper (by rw [ah,aj];exact hb),ah,aj] at h9;exact h9)
        have p5':1+(sz:Int)<(cc.size:Int):=by omega
        clear hper ai HF aj ac ah
        go_wp2_with fail
        go_quiet ((go_at_call 140;exact zeL ar.out (by omega) (by omega) (by omega) (by rw [ao.out])))
        obtain ⟨e0',e1',e2',ef⟩:=ae.out
        go_wp2
        go_roundw
        case rel=>exact ⟨P+1,⟨1+sz,P,0⟩,by go_num,by omega,by omega,by show 1+sz<=k+1;omega,rfl,Za ((ae.out.ext ((Zf wc).drewN nq)).put (1+sz) P 0 (by omega) rfl (by rfl)),Za ((ad.out.drewN nq).put3 HG.out _ _ _),ag⟩
        case measure=>simp [intOf] <;> omega
       ·have ag:=Za (by have h9:=HF.out;rw [ai,zkx (by rw [ah,aj];exact hb)] at h9;exact h9)
        have p5':¬(1+(sz:Int)<(cc.size:Int)):=by omega
        clear hper ai HF aj ac ah
        go_wp2_with fail
        go_quiet ((go_at_call 140;exact zeL ar.out (by omega) (by omega) (by omega) (by rw [ao.out])))
        go_wp2
        go_roundw
        case rel=>exact ⟨P+1,cc,by go_num,by omega,by omega,aH,aG,Za (ae.out.ext ((Zf wc).drewN nq)),Za (ad.out.drewN nq),ag⟩
        case measure=>simp [intOf] <;> omega
     ·obtain rfl:P=k:=by omega
      have ag:=Za (by have h9:=HF.out;rw [zhz (by rw [aD.out];exact Zg _)] at h9;exact h9)
      have e7:=Zh ((P:Int)-1) (by omega)
      clear HF hlt2
      go_wp2_with fail
      go_loopw [9] (fun i wr=>∃(I:Nat) (c2:Chc),i = .int .i64 (I:Nat)/\I+1<=P/\c2.size<=P+1/\Hid (CBox wr g3 c2)/\Hid (Ext wb wr)/\Hid (ch (sub l j P)=fin2 (sub l j P) (I+1) c2)) (fun i _=>(intOf i).toNat)
      case atStart=>exact ⟨P-1,cc,by congr 1;omega,by omega,by omega,ae,ad,by rw [show P-1+1=P by omega];exact ag⟩
      case round =>
       clear ag ae ad
       obtain ⟨I,c2,rfl,hIm,ax,ae,ad,HF⟩:=hrel
       have e8:=Zh ((I:Int)-1) (by omega)
       obtain ⟨wd,rfl⟩:∃wd:World,wd=wr:=⟨_,rfl⟩
       by_cases hI0:1<=I
       ·obtain ⟨b1,off1,b2,off2,n',c',rfl,al,d0,aV,hb2,d1, -, -⟩:=(au.out _ (Zf _)).at_ (r:=I) (i:=j) (by omega) (by omega) (by omega)
        obtain ⟨b1',off1',b3,off3,n3,c3,e', -,d2,hjn3,av,d3, -, -⟩:=(au.out _ (Zf _)).at_ (r:=P-I) (i:=j+I) (by omega) (by omega) (by omega)
        cases e'
        have hgw:=HG.out
        have g1:¬g3=b1:=by omega
        have g2:¬g3=b2:=by omega
        have g4:¬g3=b3:=by omega
        have g5:¬b1=g3:=by omega
        have g6:¬b2=g3:=by omega
        have g7:¬b3=g3:=by omega
        replace d0:=(Zs (p:=⟨b1,_,none⟩) ad.out al).trans d0
        replace d1:=(Zs (p:=⟨b2,_,none⟩) ad.out hb2).trans d1
        replace d2:=(Zs (p:=⟨b1,_,none⟩) ad.out al).trans d2
        replace d3:=(Zs (p:=⟨b3,_,none⟩) ad.out av).trans d3
        replace al:=Zo al (Zl ad.out)
        replace hb2:=Zo hb2 (Zl ad.out)
        replace av:=Zo av (Zl ad.out)
        have q14:(0:Int)<(I:Int):=by omega
        have q15:0<I:=by omega
        have q16:(I:Int)<=(P:Int):=by omega
        have q0:(1:Int)<=(I:Int):=by omega
        have q1:(0:Int)<=(I:Int):=by omega
        have q2:(I:Int)<(P:Int):=by omega
        have q3:=Zh ((P:Int)-(I:Int)) (by omega)
        have q4:(0:Int)<=(P:Int)-(I:Int):=by omega
        have q5:(P:Int)-(I:Int)<(P:Int):=by omega
        have q6:((P:Int)-(I:Int)).toNat=P-I:=by omega
        have q7:=Zh ((j:Int)+(I:Int)) (by omega)
        have q8:(0:Int)<=(j:Int)+(I:Int):=by omega
        have q9:(j:Int)+(I:Int)<(n3:Int):=by omega
        have q10:((j:Int)+(I:Int)).toNat=j+I:=by omega
        have q11:(j:Int)<(n':Int):=by omega
        have ai:=zdw (sub l j P) I c2
        have ah:=zbi (l:=l) (a:=j) (n:=P) (p:=I) (by omega)
        have am:=zdd (l:=l) (a:=j) (n:=P) (k:=I) (by omega)
        have aT:=zca (l:=l) (a:=j) (m:=I) (by omega) (by omega)
        have aU:=zca (l:=l) (a:=j+I) (m:=P-I) (by omega) (by omega)
        obtain ⟨sz1,af⟩:∃sz,chS (sub l j I)=sz:=⟨_,rfl⟩
        obtain ⟨sz2,ac⟩:∃sz,chS (sub l (j+I) (P-I))=sz:=⟨_,rfl⟩
        have k1:(ch (sub l j I)).size=sz1:=af
        have k2:(ch (sub l (j+I) (P-I))).size=sz2:=ac
        rw [k1] at aT d1
        rw [k2] at aU d3
        have q12:=Zh ((sz1:Int)+(sz2:Int)) (by omega)
        obtain ⟨f0,f1,f2,f3⟩:=ae.out
        have z3:=ae.out.lt
        by_cases hb:sz1+sz2<c2.size
        ·have ag:=Za (by have h9:=HF.out;rw [ai,zhW hI0 (by rw [ah,am,af,ac];exact hb),ah,am,af,ac] at h9;exact h9)
         have p3:(sz1:Int)+(sz2:Int)<(c2.size:Int):=by omega
         clear ai HF af ac ah am k1 k2
         go_wp2_with fail
         go_quiet (fail)
         go_wp2_with fail
         go_region_held3 (fun w'=>w'.cell? ⟨b1,off1+I,none⟩=some (.slice (some ⟨b2,off2,none⟩) n' c')/\w'.cell? ⟨b2,off2+j*3,none⟩=some (.int .i64 (sz1:Nat))/\w'.cell? ⟨b1,off1+(P-I),none⟩=some (.slice (some ⟨b3,off3,none⟩) n3 c3)/\w'.cell? ⟨b3,off3+(j+I)*3,none⟩=some (.int .i64 (sz2:Nat))) (go_keep) (fail)
         go_wp2
         go_roundw
         case rel=>exact ⟨I-1,⟨sz1+sz2,0,I⟩,by congr 1;omega,by omega,by show sz1+sz2<=P+1;omega,Za ((ae.out.ext ((Zf wd).drewN _)).put (sz1+sz2) 0 I (by omega) (by rfl) rfl),Za ((ad.out.drewN _).put3 HG.out _ _ _),Za (by have h9:=ag.out;rw [show I-1+1=I by omega];exact h9)⟩
         case measure=>simp [intOf] <;> omega
        ·have ag:=Za (by have h9:=HF.out;rw [ai,zks (by rw [ah,am,af,ac];exact hb)] at h9;exact h9)
         have p3:¬((sz1:Int)+(sz2:Int)<(c2.size:Int)):=by omega
         clear ai HF af ac ah am k1 k2
         go_wp2_with fail
         go_quiet (fail)
         go_wp2
         go_roundw
         case rel=>exact ⟨I-1,c2,by congr 1;omega,by omega,ax,Za (ae.out.ext ((Zf wd).drewN nq)),Za (ad.out.drewN nq),Za (by have h9:=ag.out;rw [show I-1+1=I by omega];exact h9)⟩
         case measure=>simp [intOf] <;> omega
       ·obtain rfl:I=0:=by omega
        have q0:¬((1:Int)<=((0:Nat):Int)):=by omega
        have aN:=Za (by have h9:=HF.out;rw [Nat.zero_add,zhA] at h9;exact h9)
        obtain ⟨f0,f1,f2,f3⟩:=ae.out
        have z3:=ae.out.lt
        clear HF
        go_wp2_with (at_builtin;(refine zaW (S:=shCh) (w:=wa) (L:=rowUp l P j) (k:=j) 198 197 (.agg #[.int .i64 0,.int .i64 0,.int .i64 0]) 24 wd.heap.size c2 (by rfl) (by rfl) Tryz.underlying198 zeA (by rfl) (by omega) (by rfl) (by rfl) ((HO.out.ext ad.out).ext zx) ((HE.out.trans ad.out).trans zx) (zdW _ _ _ _ _) (by omega) ?_;intro v' w3 ab aa))
        go_roundw
        case rel=>exact ⟨v',j+1,rfl,by go_num,by omega,Za (by rw [zcI,aN.out];exact ab),aa⟩
        case measure=>simp [intOf];omega
end Go.Proofs.YtkneghkbgingdaaGreatDoor
