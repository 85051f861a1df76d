/- Find of the shortest list. -/
import Derived.Test.YtkneghkbgingdaaGreatDoorK35
set_option maxHeartbeats 16000000
namespace Go.Proofs.YtkneghkbgingdaaGreatDoor
set_option maxRecDepth 100000
open Go.RowKit Go.ChangeShapes Go.WideShapes Go.Joins
def findE (l:List St):Int:=if 60<l.length then 4 else if allB l=true then 0 else 8
def findL (l:List St):Tms:=if findE l=0 then findT l else .nil
def FindR (l:List St) (w:World) (e:Ending) (w':World):Prop :=
 ∃(A:Option Addr) (c:Nat),e = .returned (.tuple #[.slice A (findL l).cnt c,.int .i64 (findE l)])∧Ext w w'∧TvK w' (fun b=>w.heap.size≤b) A (findL l).cnt (findL l)
theorem FindR.none_ {l:List St} {w w':World} {x:Int} (hx:findE l=x) (h0:x≠0) (h:Ext w w'):FindR l w (.returned (.tuple #[.slice none 0 0,.int .i64 x])) w':=by
 have h1:findL l = .nil:=by rw [findL,if_neg (by rw [hx];exact h0)]
 exact ⟨none,0,by rw [h1,hx];rfl,h,by rw [h1];exact TvK.none_ _ _ _⟩
theorem zkt (n c:Nat) (A:Option Addr) (l:List St) (w:World) (hl:Vec shSt w A n l) (hby:Bytes l) (hn:n≤maxLen) :
  Calls Tryz.prog 103 #[.slice A n c] w (FindR l w):=by
 have HX:=Za hl
 have hlen:=hl.1
 unfold maxLen at hn
 by_cases hn60:60<n
 ·have q1:((60:Int)<(n:Int)):=by omega
  have HE:=Za (show findE l=4 by rw [findE,if_pos (by omega)])
  clear hl
  go_enter Tryz.func103,Tryz.ntmps103
  go_wp2_with fail
  go_ret2
  exact FindR.none_ HE.out (by decide) zx
 have q1:¬((60:Int)<(n:Int)):=by omega
 clear hl
 go_enter Tryz.func103,Tryz.ntmps103
 go_wp2_with fail
 go_loopw [12] (fun i wr=>∃k:Nat,i = .int .i64 k∧k≤n∧Hid (∀j,j<k→okSt (l.getD j st0)=true)∧Hid (Ext w wr)) (fun i _=>n-(intOf i).toNat)
 case atStart=>exact ⟨0,rfl,by omega,Za (fun j hj=>absurd hj (by omega)),Za zx⟩
 case round =>
  obtain ⟨k,rfl,hk,HA,HE⟩:=hrel
  have hx:=HE.out
  by_cases hlt:k<n
  ·obtain ⟨b,off,rfl,hb,hc⟩:=Sts.all (HX.out.ext hx) (by omega)
   obtain ⟨c1,c2,c3,c4⟩:=hc k hlt
   have hby1:=hby k (by omega)
   have q0:(0:Int)≤(k:Int):=by omega
   have q2:(k:Int)<(n:Int):=by omega
   have HOK:=Za (show okSt (l.getD k st0)=false→findE l=8 from fun h=>by rw [findE,if_neg (by omega),if_neg (by rw [zdR (n:=n) (k:=k) hlen hlt h];simp)])
   have HA2:=Za (show okSt (l.getD k st0)=true→∀j,j<k+1→okSt (l.getD j st0)=true from fun h j hj=>by
    by_cases e:j=k
    ·subst e;exact h
    ·exact HA.out j (by omega))
   clear hc
   generalize hs:l.getD k st0=s at *
   obtain ⟨s1,s2,s3,s4⟩:=s
   simp only at c1 c2 c3 c4 hby1
   clear hs
   cases hok:okSt ⟨s1,s2,s3,s4⟩
   case false =>
    have HQ:=Za (show okE ⟨s1,s2,s3,s4⟩=8 by rw [okE,hok];rfl)
    have HF:=Za (HOK.out hok)
    clear HOK HA2 hok
    go_wp2_with (first
     | (go_at_call 137;((with_reducible refine (zaX s1 s2 s3 s4 hby1.1 hby1.2 _).mono ?_);rintro e w2 ⟨rfl,hq⟩;rw [HQ.out])))
    go_ret2
    exact FindR.none_ HF.out (by decide) zx
   case true =>
    have HQ:=Za (show okE ⟨s1,s2,s3,s4⟩=0 by rw [okE,hok];rfl)
    have HA3:=Za (HA2.out hok)
    clear HOK HA2 hok
    go_wp2_with (first
     | (go_at_call 137;((with_reducible refine (zaX s1 s2 s3 s4 hby1.1 hby1.2 _).mono ?_);rintro e w2 ⟨rfl,hq⟩;rw [HQ.out])))
    go_roundw
    case rel=>exact ⟨k+1,by go_num,by omega,HA3,Za zx⟩
    case measure=>simp [intOf];omega
  ·obtain rfl:k=n:=by omega
   have hall:=zfB hlen HA.out
   have HB:=Za hall
   by_cases hn0:k=0
   ·subst hn0
    go_wp2_with fail
    go_ret2
    have e1:l=[]:=ZQ hlen
    subst e1
    exact ⟨none,0,rfl,HE.out,TvK.none_ _ _ _⟩
   have hn1:¬((k:Int)=0):=by omega
   have hn2:((k:Int)==0)=false:=by rw [Ze];exact hn1
   obtain ⟨Z,hZ,hZs,hZ0⟩:=zgr wr
   have hZe:¬(Z=#[]):=by rintro rfl;simp at hZs
   have HF:=Za (FAt.new_ wr (t:=193) A k c hZs hZ0)
   have HNE:=Za (show ∀b off,A=some ⟨b,off,none⟩→b≠wr.heap.size from fun b off e=>by
    obtain ⟨b',off',e',hb,_⟩:=HX.out.2 (by omega)
    rw [e] at e'
    cases e'
    have:=Zr hx
    omega)
   have HV:=Za (HX.out.ext (hx.trans ((Zd wr).alloc (Obj.cells (Z.setIfInBounds 0 (Value.slice A k c)) 193))))
   have HW:=Za (show Ext w (wr.alloc (Obj.cells (Z.setIfInBounds 0 (Value.slice A k c)) 193)) from hx.trans ((Zd _).alloc _))
   have hsz:(wr.alloc (Obj.cells (Z.setIfInBounds 0 (Value.slice A k c)) 193)).heap.size=wr.heap.size+1:=by simp
   clear hZs hZ0
   have HZ0:=Za (show (0:Int)=((0:Nat):Int) from rfl)
   go_upto_region 12 with (fail)
   generalize hwf:wr.alloc (Obj.cells (Z.setIfInBounds 0 (Value.slice A k c)) 193)=wf at *
   clear hZ hwf hn1 hn2
   have hcnt:=zeb k l (by rintro rfl;simp at hlen;omega) (by omega)
   go_wp2_with (first
    | (go_at_call 138;((with_reducible refine (zkQ wr.heap.size k c A l (by omega) hlen hby HNE.out k 0 k _ _ (Zf _) (by omega) (by omega) HV.out HF.out (TabOk.empty l) (0:Int) (k:Int) HZ0.out rfl).mono ?_);rw [show sub l 0 k=l by rw [←hlen];exact zm7 l];rintro e w2 ⟨v1,tab2,rfl,hf2,ho2,hb2,hw2⟩;obtain ⟨A2,c2,rfl,hk2⟩:=zbG hw2 (by omega);have HB2:=Za hb2;have HK2:=Za hk2;clear hf2 ho2 hb2 hw2 hk2)))
   go_ret2
   have hE:findE l=0:=by rw [findE,if_neg (by omega),if_pos HB.out]
   have hL:findL l=mkT k l:=by rw [findL,if_pos hE,findT,if_neg (by rintro rfl;simp at hlen;omega),hlen]
   have hws:=Zr hx
   refine ⟨A2,c2,by rw [hE,hL];rfl,?_,by rw [hL];exact HK2.out.mono fun b _ hb=>by omega⟩
   exact Below.trans HW.out (HB2.out.below (by omega) (fun k h=>by cases h;exact hws))
end Go.Proofs.YtkneghkbgingdaaGreatDoor
/- Terms of a row,put together from the left. -/
namespace Go.Proofs.YtkneghkbgingdaaGreatDoor
set_option maxRecDepth 100000
open Go.RowKit Go.ChangeShapes Go.WideShapes Go.Joins
theorem zgd {l:List St} {i j:Nat} (hij:i<j) (hj:j≤l.length) (hs:∀p,i≤p→p<j→l.getD p st0=l.getD i st0) (he:j=l.length∨l.getD j st0≠l.getD i st0) :
  runsT (l.drop i) = .cons ((j:Int)-(i:Int)) (l.getD i st0) .nil (runsT (l.drop j)):=by
 obtain ⟨n,hn⟩:∃n,j=i+(n+1):=⟨j-i-1,by omega⟩
 have e:l.drop i=List.replicate (n+1) (l.getD i st0)++l.drop j:=by
  apply List.ext_getElem?
  intro p
  rw [Z6]
  by_cases hp:p<n+1
  ·rw [ZR (by rw [ZZ];exact hp),List.getElem?_replicate,if_pos hp,Zg (by omega),←hs (i+p) (by omega) (by omega),Zc,Zg (by omega)]
   rfl
  ·rw [ZP (by rw [ZZ];omega),ZZ,Z6]
   congr 1
   omega
 rw [e,zhV _ n (l.drop j) ?_]
 ·congr 1
  omega
 ·rw [List.head?_drop]
  rcases he with h | h
  ·rw [List.getElem?_eq_none (by omega)]
   simp
  ·by_cases hl:j<l.length
   ·rw [Zg hl]
    intro h9
    apply h
    rw [Zc,Zg hl]
    exact ZV h9
   ·rw [List.getElem?_eq_none (by omega)]
    simp
theorem zbr {P:Program} {ops:Array Oper} {rest:List Oper} {o:Oper} {a:Act} {Q:Exit→Act→World→Prop} {w wx:World} (T e:TypeId) (z:Value) (bytes:Nat) {s x:Operand} {v:Value} {k:Nat} (g0:Nat) {t g:Tms} (N:Int) (c:St) {A:Option Addr} {n cap:Nat}
  (hgd:o.guard=none) (ho:o.op = .call { callee := .builtin .append,args:=#[s,x],argTypes:=#[T,T] })
  (ht:P.underlying T=some (.slice e)) (hinfo:(P.info? e).map (fun i=>(i.zero,i.size,i.bytes))=some (some z,6,bytes)) (hzs:z.cells.size=6) (hby:bytes≤1000)
  (hs:a.eval s=v) (hx:a.eval x = .slice (some ⟨g0,0,none⟩) 1 1) (hown:OwnT wx w.heap.size e v k t) (hext:Ext w wx) (hck:0≤c.k∧c.k≤255)
  (hg:TvK wx (fun b=>w.heap.size≤b∧some b≠v.ownBlock) A n g)
  (hA:∀j u,([.int .i64 N,.int .u8 c.k,.bool c.p,.int .i64 c.a,.int .i64 c.b,.slice A n cap]:List Value)[j]?=some u→wx.cell? ⟨g0,j,none⟩=some u) (hk:k+1≤1000000)
  (h:∀A' c' w1,OwnT w1 w.heap.size e (.slice A' (k+1) c') (k+1) (t.app (.cons N c g .nil))→Hid (Ext w w1)→wpList P ops Q rest (a.put o.dst (.slice A' (k+1) c')) w1):wpList P ops Q (o::rest) a wx :=
 wpList_plain hgd fun _ hK=>zcQ T e z bytes g0 N c ho ht hinfo hzs hby hs hx hown hext hck hg hA hk fun v' w' h2 h3=>by
  obtain ⟨A',c',rfl, -⟩:=zbG h2 hk
  exact hK _ _ (h A' c' w' h2 h3)
def TermsR (l:List St) (w:World) (e:Ending) (w':World):Prop:=∃(A:Option Addr) (c:Nat),e = .returned (.slice A (termsT l).cnt c)∧Ext w w'∧TvK w' (fun b=>w.heap.size≤b) A (termsT l).cnt (termsT l)
theorem TermsR.of {l:List St} {w w':World} {A:Option Addr} {k c:Nat} {t:Tms} (ht:t=termsT l) (hk:TvK w' (fun b=>w.heap.size≤b) A k t) (he:Ext w w'):TermsR l w (.returned (.slice A k c)) w':=by
 subst ht
 obtain rfl:=hk.1
 exact ⟨A,c,rfl,he,hk⟩
theorem zfo {l:List St} (ha:allB l=true) (h:l.length≤60):findL l=termsT l:=by
 have h1:findE l=0:=by rw [findE,if_neg (by omega),if_pos ha]
 rw [findL,if_pos h1,termsT,if_pos h]
theorem znw {l:List St} {n:Nat} (hl:l.length=n) (ha:allB l=true) (h:n≤60):findL l=termsT l:=zfo ha (by omega)
end Go.Proofs.YtkneghkbgingdaaGreatDoor
/- The terms of a row: the program's. -/
namespace Go.Proofs.YtkneghkbgingdaaGreatDoor
set_option maxRecDepth 100000
open Go.RowKit Go.ChangeShapes Go.WideShapes Go.Joins
theorem zh7 (t:Tms) (N:Int) (c:St) (r:Tms):t.app (.cons N c .nil r)=(t.app (.cons N c .nil .nil)).app r:=by
 rw [zeL]
 rfl
theorem zge {l:List St} {t:Tms} {i j:Nat} (h:runsT l=t.app (runsT (l.drop i))) (hij:i<j) (hj:j≤l.length) (hs:∀p,i≤p→p<j→l.getD p st0=l.getD i st0) (he:j=l.length∨l.getD j st0≠l.getD i st0) :
  runsT l=(t.app (.cons ((j:Int)-(i:Int)) (l.getD i st0) .nil .nil)).app (runsT (l.drop j)):=by
 rw [h,zgd hij hj hs he,zh7]
attribute [local go_sem] zaA
theorem zhE (n c:Nat) (A:Option Addr) (l:List St) (w:World) (hl:Vec shSt w A n l) (hby:Bytes l) (hn:n≤200) (ha:allB l=true) :
  Calls Tryz.prog 72 #[.slice A n c] w (TermsR l w):=by
 have HX:=Za hl
 have hlen:=hl.1
 have HLN:=Za hl.1
 have HBY:=Za hby
 by_cases hn60:n≤60
 ·have q1:(n:Int)≤60:=by omega
  have HF:=Za (znw hlen ha hn60)
  have HM:=Za (show n≤maxLen by unfold maxLen;omega)
  clear hl hby ha
  go_enter Tryz.func72,Tryz.ntmps72
  go_wp2_with (first
   | (go_at_call 103;((with_reducible refine (zkt n c A l _ (HX.out.ext zx) HBY.out HM.out).mono ?_);rintro e w2 ⟨A2,c2,rfl,he2,ht2⟩;have HE2:=Za he2;have HT2:=Za ht2;clear he2 ht2)))
  go_ret
  exact TermsR.of HF.out HT2.out HE2.out
 ·have q1:¬((n:Int)≤60):=by omega
  have HF:=Za (show runsT l=termsT l by rw [termsT,if_neg (by omega)])
  obtain ⟨zt,hzt,hzs⟩:=zfP
  have HZT:=Za hzt
  have HZS:=Za hzs
  clear hzt hzs
  clear hl hby ha
  go_enter Tryz.func72,Tryz.ntmps72
  go_wp2_with fail
  go_loopw [5,6] (fun u i wr=>∃(V:Value) (k q:Nat) (t:Tms),V=u∧i = .int .i64 k∧k≤n∧q≤k∧Hid (runsT l=t.app (runsT (l.drop k)))∧Hid (OwnT wr w.heap.size 134 V q t∧Ext w wr)) (fun _ i _=>n-(intOf i).toNat)
  case atStart=>exact ⟨_,0,0,.nil,rfl,rfl,Zu _,Zu _,Za rfl,Za ⟨OwnT.nil _ _ _,Zd _⟩⟩
  case round =>
   obtain ⟨V,k,q,t,rfl,rfl,hk,hq,HT,HH⟩:=hrel
   obtain ⟨wa,rfl⟩:∃wa:World,wa=wr:=⟨_,rfl⟩
   have q0:(0:Int)≤(k:Int):=by omega
   by_cases hlt:k<n
   ·have q2:(k:Int)<(n:Int):=by omega
    have i5:=Zp ((k:Int)+1) (by omega)
    have HXR:=Za HH.out.2
    have hbk:=HBY.out k (by omega)
    have HKK:=Za hbk
    have HOW:=Za (fun (w':World) (h:Ext wa w')=>(HH.out.1).ext h)
    have HQ1:=Za (show q+1≤1000000 by omega)
    clear hbk HH
    go_wp2_with fail
    go_loopw [7] (fun j wr=>∃m:Nat,j = .int .i64 m∧k<m∧m≤n∧Hid (∀p,k≤p→p<m→l.getD p st0=l.getD k st0)∧Hid (Ext wa wr)) (fun j _=>n-(intOf j).toNat)
    case atStart=>exact ⟨k+1,by go_num,by omega,by omega,Za (fun p h1 h2=>by rw [show p=k by omega]),Za zx⟩
    case round =>
     obtain ⟨m,rfl,hkm,hmn,HS,HE⟩:=hrel
     obtain ⟨wb,rfl⟩:∃wb:World,wb=wr:=⟨_,rfl⟩
     have m0:(0:Int)≤(m:Int):=by omega
     have i6:=Zp ((m:Int)+1) (by omega)
     have i7:=Zp ((m:Int)-(k:Int)) (by omega)
     have e7:((m:Int)-(k:Int)).toNat=m-k:=by omega
     obtain ⟨b,off,rfl,hb,hc⟩:=Sts.all (HX.out.ext (HXR.out.trans HE.out)) (by omega)
     obtain ⟨h1,h2,h3,h4⟩:=hc k hlt
     by_cases hgo:m<n∧l.getD m st0=l.getD k st0
     ·obtain ⟨hm,heq⟩:=hgo
      obtain ⟨h5,h6,h7,h8⟩:=hc m hm
      have p2:(m:Int)<(n:Int):=by omega
      have HN:=Za (show ∀p,k≤p→p<m+1→l.getD p st0=l.getD k st0 from fun p h1 h2=>by
       by_cases hp:p=m
       ·rw [hp];exact heq
       ·exact HS.out p h1 (by omega))
      rw [heq] at h5 h6 h7 h8
      clear heq hc
      generalize l.getD k st0=x at *
      obtain ⟨x1,x2,x3,x4⟩:=x
      simp only at h1 h2 h3 h4 h5 h6 h7 h8
      go_wp2_with fail
      go_quiet (fail)
      go_wp2_with fail
      go_roundw
      case rel=>exact ⟨m+1,by go_num,by omega,by omega,HN,Za (HE.out.trans zx)⟩
      case measure=>simp [intOf] <;> omega
     ·have hex:m=l.length∨l.getD m st0≠l.getD k st0:=by
       by_cases hm:m<n
       ·exact .inr fun h=>hgo ⟨hm,h⟩
       ·exact .inl (by omega)
      have HR2:=Za (zge HT.out hkm (by omega) HS.out hex)
      have hxy:m=n∨(m<n∧¬l.getD m st0=l.getD k st0):=by
       by_cases hm:m<n
       ·exact .inr ⟨hm,fun h=>hgo ⟨hm,h⟩⟩
       ·exact .inl (by omega)
      have HBL:=Za (show ∀b,wb.heap.size≤b→w.heap.size≤b∧some b≠V.ownBlock from fun b hb=>by
       obtain ⟨_,L,hL,_⟩:=HOW.out wb HE.out
       exact ⟨ZB (Zr (HXR.out.trans HE.out)) hb,fun e=>by have:=(zbF hL b e.symm).2;omega⟩)
      clear hex hgo HT HS
      rcases hxy with rfl | ⟨hm,hxy⟩
      ·have p2:¬((m:Int)<(m:Int)):=by omega
       generalize l.getD k st0=x at *
       obtain ⟨x1,x2,x3,x4⟩:=x
       simp only at h1 h2 h3 h4
       clear hc
       go_wp2_with fail
       go_quiet (fail)
       go_wp2_with (first
        | (at_builtin;(refine zbr (w:=w) 91 134 zt 56 wb.heap.size ((m:Int)-(k:Int)) ⟨x1,x2,x3,x4⟩ (t:=t) (g := .nil) (A:=none) (n:=0) (cap:=0) (by rfl) (by rfl) Tryz.underlying91 HZT.out HZS.out (by omega) (by rfl) (by rfl) (HOW.out _ (HE.out.trans zx)) (HXR.out.trans (HE.out.trans zx)) HKK.out (TvK.none_ _ _ _) (zjR _ _ _ _ _ _ _ _) HQ1.out ?_;intro A4 c4 w4 hown4 hext4)))
       exact ⟨⟨_,m,q+1,_,rfl,rfl,by omega,by omega,HR2,Za ⟨hown4,hext4.out⟩⟩,by simp [intOf];omega⟩
      ·have p2:(m:Int)<(n:Int):=by omega
       obtain ⟨h5,h6,h7,h8⟩:=hc m hm
       generalize l.getD k st0=x at *
       generalize l.getD m st0=y at *
       obtain ⟨x1,x2,x3,x4⟩:=x
       obtain ⟨y1,y2,y3,y4⟩:=y
       simp only at h1 h2 h3 h4 h5 h6 h7 h8
       have hne:=zcn hxy
       clear hxy hc
       go_wp2_with fail
       go_quiet (fail)
       go_wp2_with (first
        | (at_builtin;(refine zbr (w:=w) 91 134 zt 56 wb.heap.size ((m:Int)-(k:Int)) ⟨x1,x2,x3,x4⟩ (t:=t) (g := .nil) (A:=none) (n:=0) (cap:=0) (by rfl) (by rfl) Tryz.underlying91 HZT.out HZS.out (by omega) (by rfl) (by rfl) (HOW.out _ (HE.out.trans zx)) (HXR.out.trans (HE.out.trans zx)) HKK.out (TvK.none_ _ _ _) (zjR _ _ _ _ _ _ _ _) HQ1.out ?_;intro A4 c4 w4 hown4 hext4)))
       exact ⟨⟨_,m,q+1,_,rfl,rfl,by omega,by omega,HR2,Za ⟨hown4,hext4.out⟩⟩,by simp [intOf];omega⟩
   ·obtain rfl:k=n:=by omega
    have hTT:runsT l=t:=by
     have h9:=HT.out
     rw [List.drop_eq_nil_of_le (by omega)] at h9
     rw [h9]
     exact zl7 t
    obtain ⟨A2,c2,rfl,hk2⟩:=zbG HH.out.1 (by omega)
    have HK2:=Za hk2
    have HE2:=Za HH.out.2
    have HT2:=Za (hTT.symm.trans HF.out)
    clear hk2 HT HH hTT
    go_wp2_with fail
    go_ret
    exact TermsR.of HT2.out HK2.out (HE2.out.trans zx)
end Go.Proofs.YtkneghkbgingdaaGreatDoor
/- The line of a row. -/
namespace Go.Proofs.YtkneghkbgingdaaGreatDoor
set_option maxRecDepth 100000
open Go.RowKit Go.ChangeShapes Go.WideShapes Go.Joins
def LineR (r:Ro) (w:World) (e:Ending) (w':World):Prop:=Ext w w'∧((lineT r=none∧e = .returned (.tuple #[.string ⟨#[]⟩,.int .i64 4]))∨∃s,lineT r=some s∧e = .returned (.tuple #[.string ⟨s.toArray⟩,.int .i64 0]))
theorem LineR.no {r:Ro} {w w':World} (h:lineT r=none) (hb:Ext w w'):LineR r w (.returned (.tuple #[.string ⟨#[]⟩,.int .i64 4])) w':=⟨hb,.inl ⟨h,rfl⟩⟩
theorem LineR.yes {r:Ro} {s:List UInt8} {w w':World} (h:lineT r=some s) (hb:Ext w w'):LineR r w (.returned (.tuple #[.string ⟨s.toArray⟩,.int .i64 0])) w':=⟨hb,.inr ⟨s,h,rfl⟩⟩
theorem zhY {l:List St} (ha:allB l=true) (hl:l.length≤200):(termsT l).size≤200:=(za5 (zcr ha hl).1).1
theorem zjP {l:List St} (ha:allB l=true) (hl:l.length≤200):(ttextE (termsT l)=0∧ttextV (termsT l)=wT (termsT l)∧(wT (termsT l)).length≤3000)∨(ttextE (termsT l)=4∧ttextV (termsT l)=[]):=by
 have h1:=(zcr ha hl).1
 by_cases h:3000<(wT (termsT l)).length
 ·right
  have h2:ttextE (termsT l)=4:=by rw [ttextE,if_neg (fun h9=>h9 h1),if_pos h]
  exact ⟨h2,by rw [ttextV,h2,if_neg (by decide)]⟩
 ·left
  have h2:ttextE (termsT l)=0:=by rw [ttextE,if_neg (fun h9=>h9 h1),if_neg h]
  exact ⟨h2,by rw [ttextV,if_pos h2],by omega⟩
theorem zi8 (rb:Bool) (cs:List St) (A:Option Addr) (n c:Nat) (w:World) (hv:Vec shSt w A n cs) (hby:Bytes cs) (hn:n≤200) (ha:allB cs=true) (hg:Glob w) :
  Calls Tryz.prog 38 #[.agg #[.bool rb,.slice A n c]] w (LineR ⟨rb,cs⟩ w):=by
 have HV:=Za hv
 have HG:=Za hg
 have HB0:=Za (show Ext w (w.alloc (.cells #[.bool rb,.slice A n c] 75)) from (Zd w).alloc _)
 have hlen:=hv.1
 have HTM:=Za (fun (w':World) (h:Ext w w')=>zhE n c A cs w' (hv.ext h) hby hn ha)
 have HTX:=Za (fun (A:Option Addr) (n cap:Nat) (w':World) (h:Ext w w') (ht:Tv w' A n (termsT cs))=>zfq (termsT cs) (by have:=zhY ha (by omega);omega) A n cap w' ht (hg.ext h))
 have hcs:=zjP ha (by omega)
 have hlt:lineT ⟨rb,cs⟩=if ttextE (termsT cs)≠0 then none else some (sideB rb++if wT (termsT cs)=[] then [] else 32::wT (termsT cs)):=rfl
 rcases hcs with ⟨h1,h2,h3⟩ | ⟨h1,h2⟩
 ·have HT1:=Za h1
  have HT2:=Za h2
  rw [if_neg (fun h9=>h9 h1)] at hlt
  obtain ⟨T,hT⟩:∃T,wT (termsT cs)=T:=⟨_,rfl⟩
  rw [hT] at hlt h3
  have HT3:=Za hT
  clear hv hby ha hg h1 h2 hT
  by_cases h0:T=[]
  ·rw [if_pos h0,ZH] at hlt
   have HL:=Za hlt
   subst h0
   clear hlt
   cases rb <;>
   ·go_enter Tryz.func38,Tryz.ntmps38
    go_wp2_with (first
     | (go_at_call 72;((with_reducible refine (HTM.out _ zx).mono ?_);rintro e w1 ⟨A1,c1,rfl,hq1,hv1⟩;have HV1:=Za hv1;clear hv1))
     | (go_at_call 71;((with_reducible refine (HTX.out _ _ _ _ zx HV1.out.tv).mono ?_);rintro e w2 ⟨rfl,hq2⟩;rw [HT1.out,HT2.out,HT3.out])))
    go_ret2
    exact LineR.yes HL.out zx
  ·rw [if_neg h0] at hlt
   obtain ⟨S1,hS1⟩:∃S1,sideB rb++[32]=S1:=⟨_,rfl⟩
   obtain ⟨S2,hS2⟩:∃S2,S1++T=S2:=⟨_,rfl⟩
   have HL:=Za (show lineT ⟨rb,cs⟩=some S2 by rw [hlt,←hS2,←hS1,ZJ];rfl)
   have hq9:(T==[])=false:=by simpa using h0
   have hsl1:S1.length≤6:=by rw [←hS1];cases rb <;> decide
   have hsl2:S2.length≤3006:=by rw [←hS2,Zh];omega
   have hcs2:(⟨S1.toArray⟩++⟨T.toArray⟩:ByteArray)=⟨S2.toArray⟩:=by rw [←hS2];exact zag S1 T
   have hcs1:(⟨(sideB rb).toArray⟩++⟨#[32]⟩:ByteArray)=⟨S1.toArray⟩:=by rw [←hS1];exact zag (sideB rb) [32]
   clear hlt hS1 hS2 h0
   cases rb <;>
   ·first
     | (have hcs3:(⟨#[102,114,111,110,116]⟩++⟨#[32]⟩:ByteArray)=⟨S1.toArray⟩:=hcs1)
     | (have hcs3:(⟨#[98,97,99,107]⟩++⟨#[32]⟩:ByteArray)=⟨S1.toArray⟩:=hcs1)
    clear hcs1
    go_enter Tryz.func38,Tryz.ntmps38
    go_wp2_with (first
     | (go_at_call 72;((with_reducible refine (HTM.out _ zx).mono ?_);rintro e w1 ⟨A1,c1,rfl,hq1,hv1⟩;have HV1:=Za hv1;clear hv1))
     | (go_at_call 71;((with_reducible refine (HTX.out _ _ _ _ zx HV1.out.tv).mono ?_);rintro e w2 ⟨rfl,hq2⟩;rw [HT1.out,HT2.out,HT3.out])))
    go_ret2
    exact LineR.yes HL.out zx
 ·have HT1:=Za h1
  have HT2:=Za h2
  have HL:=Za (show lineT ⟨rb,cs⟩=none by rw [hlt,h1];rfl)
  clear hv hby ha hg h1 h2 hlt
  cases rb <;>
  ·go_enter Tryz.func38,Tryz.ntmps38
   go_wp2_with (first
    | (go_at_call 72;((with_reducible refine (HTM.out _ zx).mono ?_);rintro e w1 ⟨A1,c1,rfl,hq1,hv1⟩;have HV1:=Za hv1;clear hv1))
    | (go_at_call 71;((with_reducible refine (HTX.out _ _ _ _ zx HV1.out.tv).mono ?_);rintro e w2 ⟨rfl,hq2⟩;rw [HT1.out,HT2.out])))
   go_ret2
   exact LineR.no HL.out zx
end Go.Proofs.YtkneghkbgingdaaGreatDoor
/- Patterns in memory. -/
namespace Go.Proofs.YtkneghkbgingdaaGreatDoor
set_option maxRecDepth 100000
open Go.RowKit Go.ChangeShapes Go.WideShapes Go.Joins
def shStf:Shp Stf where
 size:=2
 cells x:=[.string ⟨x.nm.toArray⟩,.int .i64 x.g]
 pos:=by omega
 len _:=rfl
 one x u h:=by
  simp at h
  rcases h with h | h <;> subst h <;> rfl
structure RSec where
 nm:List UInt8
 s:Int
 A:Option Addr
 n:Nat
 c:Nat
def rsec0:RSec:=⟨[],0,none,0,0⟩
def shSec:Shp RSec where
 size:=3
 cells x:=[.string ⟨x.nm.toArray⟩,.int .i64 x.s,.slice x.A x.n x.c]
 pos:=by omega
 len _:=rfl
 one x u h:=by
  simp at h
  rcases h with h | h | h <;> subst h <;> rfl
def SeAt (w:World) (x:RSec) (r:Sec):Prop:=x.nm=r.nm∧x.s=r.s∧Rws w (fun _=>True) x.A x.n r.rows∧x.n≤x.c
def Secs (w:World) (A:Option Addr) (n:Nat) (l:List Sec):Prop:=n≤maxLen∧∃xs:List RSec,Vec shSec w A n xs∧xs.length=l.length∧∀k,k<l.length→SeAt w (xs.getD k rsec0) (l.getD k sec0)
theorem Secs.len {w:World} {A:Option Addr} {n:Nat} {l:List Sec} (h:Secs w A n l):l.length=n:=by
 obtain ⟨_,xs,h1,h2,_⟩:=h
 rw [←h2]
 exact h1.1
theorem Secs.ext {w w':World} {A:Option Addr} {n:Nat} {l:List Sec} (h:Secs w A n l) (hb:Ext w w'):Secs w' A n l:=by
 obtain ⟨h0,xs,h1,h2,h3⟩:=h
 exact ⟨h0,xs,h1.ext hb,h2,fun k hk=>⟨(h3 k hk).1,(h3 k hk).2.1,(h3 k hk).2.2.1.ext hb,(h3 k hk).2.2.2⟩⟩
theorem Secs.at_ {w:World} {A:Option Addr} {n:Nat} {l:List Sec} (h:Secs w A n l) {k:Nat} (hk:k<n) :
  ∃(b off:Nat) (A':Option Addr) (n' c':Nat),A=some ⟨b,off,none⟩∧b<w.heap.size∧w.cell? ⟨b,off+k*3,none⟩=some (.string ⟨(seN l k).toArray⟩)∧w.cell? ⟨b,off+k*3+1,none⟩=some (.int .i64 (l.getD k sec0).s) ∧
   w.cell? ⟨b,off+k*3+2,none⟩=some (.slice A' n' c')∧Rws w (fun _=>True) A' n' (l.getD k sec0).rows∧n'≤c':=by
 have hl:=h.len
 obtain ⟨h0,xs,h1,h2,h3⟩:=h
 obtain ⟨b,off,e,hlt,hc⟩:=h1.2 (by omega)
 have hx:xs[k]?=some (xs.getD k rsec0):=by
  rw [Zc,Zg (by omega)];rfl
 obtain ⟨g1,g2,g3,g4⟩:=h3 k (by omega)
 refine ⟨b,off,(xs.getD k rsec0).A,(xs.getD k rsec0).n,(xs.getD k rsec0).c,e,hlt,?_,?_,hc k _ hx 2 _ rfl,g3,g4⟩
 ·unfold seN;rw [←g1];exact hc k _ hx 0 _ rfl
 ·rw [←g2];exact hc k _ hx 1 _ rfl
theorem Stf.at_ {w:World} {A:Option Addr} {n:Nat} {l:List Stf} (h:Vec shStf w A n l) {k:Nat} (hk:k<n) :
  ∃(b off:Nat),A=some ⟨b,off,none⟩∧b<w.heap.size∧w.cell? ⟨b,off+k*2,none⟩=some (.string ⟨(stN l k).toArray⟩)∧w.cell? ⟨b,off+k*2+1,none⟩=some (.int .i64 (l.getD k stf0).g):=by
 obtain ⟨b,off,e,hlt,hc⟩:=h.2 (by omega)
 have hx:l[k]?=some (l.getD k stf0):=by
  rw [Zc,Zg (by rw [h.1];exact hk)];rfl
 exact ⟨b,off,e,hlt,hc k _ hx 0 _ rfl,hc k _ hx 1 _ rfl⟩
section
variable {H:Type} {enc:TypeId×Value→H} {w:World} {base:Nat} {spare:Nat→Bool} {held:Bool}
theorem zfX {fuel:Nat} {v:Value} {y:DataW H×List MemPlace} (h:DataW.trod enc Tryz.prog w base spare held fuel 39 [v]=some y) :
  ∃(A:Option Addr) (n c:Nat) (l:List Stf),v = .slice A n c∧Vec shStf w A n l∧n≤maxLen:=by
 obtain ⟨A,n,c,l,e,hv,hm, -⟩:=zbj (S:=shStf) (Q:=fun _=>True) Tryz.underlying39 (by kernel_rfl) (fun fuel cs y hl hy=>by
  obtain ⟨xs,m,_,_,_,hxl,hel⟩:=DataW.trod_struct Tryz.underlying61 hy
  match cs,hl with
  | [c0,c1],_ =>
   match xs,hxl with
   | [y0,y1],_ =>
    have C0:Tryz.prog.cellsOf 9=1:=by kernel_rfl
    have C1:Tryz.prog.cellsOf 3=1:=by kernel_rfl
    have h0:=hel 0 _ rfl
    have h1:=hel 1 _ rfl
    simp [C0,C1] at h0 h1
    obtain ⟨b,e0,_,_⟩:=DataW.trod_string Tryz.underlying9 h0
    obtain ⟨n1,e1,_⟩:=DataW.trod_int Tryz.underlying3 h1
    simp at e0 e1
    subst e0
    subst e1
    exact ⟨⟨b.data.toList,n1⟩,by simp [shStf],trivial⟩) h
 exact ⟨A,n,c,l,e,hv,hm⟩
theorem zcC {P:Program} {t e:TypeId} {A:Option Addr} {n c fuel:Nat} {y:DataW H×List MemPlace} (ht:P.underlying t=some (.slice e)) (h:DataW.trod enc P w base spare held fuel t [.slice A n c]=some y):n≤c:=by
 rcases Go.Deep.open_slice ht h with ⟨hcs,_⟩ | ⟨a,len,cap,m,n,D,Pl,hcs,_,hl,_⟩
 ·simp only [List.cons.injEq,and_true,Value.slice.injEq] at hcs
  omega
 ·simp only [List.cons.injEq,and_true,Value.slice.injEq] at hcs
  omega
theorem zfW {fuel:Nat} {v:Value} {y:DataW H×List MemPlace} (h:DataW.trod enc Tryz.prog w base spare held fuel 40 [v]=some y) :
  ∃(A:Option Addr) (n c:Nat) (l:List Sec),v = .slice A n c∧Secs w A n l:=by
 obtain ⟨A,n,c,xs,e,hv,hm,hq⟩:=zbj (S:=shSec) (Q:=fun x=>∃r,SeAt w x r) Tryz.underlying40 (by kernel_rfl) (fun fuel cs y hl hy=>by
  obtain ⟨xs,m,_,_,_,hxl,hel⟩:=DataW.trod_struct Tryz.underlying59 hy
  match cs,hl with
  | [c0,c1,c2],_ =>
   match xs,hxl with
   | [y0,y1],_ =>
    have C0:Tryz.prog.cellsOf 9=1:=by kernel_rfl
    have C1:Tryz.prog.cellsOf 24=2:=by kernel_rfl
    have h0:=hel 0 _ rfl
    have h1:=hel 1 _ rfl
    simp [C0,C1] at h0 h1
    obtain ⟨b,e0,_,_⟩:=DataW.trod_string Tryz.underlying9 h0
    simp at e0
    subst e0
    obtain ⟨zs,m2,_,_,_,hzl,hez⟩:=DataW.trod_struct Tryz.underlying24 h1
    match zs,hzl with
    | [z0,z1],_ =>
     have C2:Tryz.prog.cellsOf 3=1:=by kernel_rfl
     have C3:Tryz.prog.cellsOf 22=1:=by kernel_rfl
     have k0:=hez 0 _ rfl
     have k1:=hez 1 _ rfl
     simp [C2,C3] at k0 k1
     obtain ⟨n1,e1,_⟩:=DataW.trod_int Tryz.underlying3 k0
     simp at e1
     subst e1
     obtain ⟨A',n',c',l,rfl,hl⟩:=zbE k1
     exact ⟨⟨b.data.toList,n1,A',n',c'⟩,by simp [shSec],⟨b.data.toList,n1,l⟩,rfl,rfl,hl,zcC Tryz.underlying22 k1⟩) h
 have key:∀xs:List RSec,(∀x∈xs,∃r,SeAt w x r)→∃l:List Sec,xs.length=l.length∧∀k,k<l.length→SeAt w (xs.getD k rsec0) (l.getD k sec0):=by
  intro xs
  induction xs with
  | nil=>intro _;exact ⟨[],rfl,fun k hk=>by simp at hk⟩
  | cons x xs ih =>
   intro hx
   obtain ⟨r,hr⟩:=hx x (by simp)
   obtain ⟨l,hl⟩:=ih (fun z hz=>hx z (by simp [hz]))
   refine ⟨r::l,by simp [hl.1],fun k hk=>?_⟩
   cases k with
   | zero=>simpa using hr
   | succ k=>simpa using hl.2 k (by simpa using hk)
 obtain ⟨l,hl⟩:=key xs hq
 exact ⟨A,n,c,l,e,hm,xs,hv,hl⟩
theorem ze3 {r:Reach} {b0:Nat} {v:Value} {d:DataW H} {p:List MemPlace} (hv:Value.okWide Tryz.prog w r b0 42 v) (h:DataW.Trod enc Tryz.prog w base spare held 42 v d p) :
  ∃(nm:List UInt8) (g1 g2 g3 g4:Int) (As:Option Addr) (ns cs:Nat) (st:List Stf) (Ac:Option Addr) (nc cc:Nat) (se:List Sec),
   v = .agg #[.string ⟨nm.toArray⟩,.int .i64 g1,.int .i64 g2,.int .i64 g3,.int .i64 g4,.slice As ns cs,.slice Ac nc cc]∧Vec shStf w As ns st∧ns≤maxLen∧Secs w Ac nc se:=by
 obtain ⟨vs,rfl,hsz⟩:=okWide_struct Tryz.underlying42 hv
 have hC:Tryz.prog.cellsOf 42=7:=by kernel_rfl
 rw [hC] at hsz
 obtain ⟨L,rfl⟩:∃L:List Value,vs=L.toArray:=⟨vs.toList,by simp⟩
 obtain ⟨fuel,hf⟩:=h
 match L,hsz with
 | [a0,a1,a2,a3,a4,a5,a6],_ =>
  obtain ⟨xs,m,_,_,_,hxl,hel⟩:=DataW.trod_struct Tryz.underlying42 hf
  match xs,hxl with
  | [y0,y1,y2,y3],_ =>
   have C0:Tryz.prog.cellsOf 9=1:=by kernel_rfl
   have C1:Tryz.prog.cellsOf 38=4:=by kernel_rfl
   have C2:Tryz.prog.cellsOf 39=1:=by kernel_rfl
   have C3:Tryz.prog.cellsOf 40=1:=by kernel_rfl
   have C4:Tryz.prog.cellsOf 3=1:=by kernel_rfl
   have h0:=hel 0 _ rfl
   have h1:=hel 1 _ rfl
   have h2:=hel 2 _ rfl
   have h3:=hel 3 _ rfl
   simp [C0,C1,C2,C3,Value.cells] at h0 h1 h2 h3
   obtain ⟨b,e0,_,_⟩:=DataW.trod_string Tryz.underlying9 h0
   simp at e0
   subst e0
   obtain ⟨A,n,c,st,rfl,hst,hns⟩:=zfX h2
   obtain ⟨A2,n2,c2,se,rfl,hse⟩:=zfW h3
   obtain ⟨zs,m2,_,_,_,hzl,hez⟩:=DataW.trod_struct Tryz.underlying38 h1
   match zs,hzl with
   | [z0,z1,z2,z3],_ =>
    have k0:=hez 0 _ rfl
    have k1:=hez 1 _ rfl
    have k2:=hez 2 _ rfl
    have k3:=hez 3 _ rfl
    simp [C4] at k0 k1 k2 k3
    obtain ⟨g1,e1,_⟩:=DataW.trod_int Tryz.underlying3 k0
    obtain ⟨g2,e2,_⟩:=DataW.trod_int Tryz.underlying3 k1
    obtain ⟨g3,e3,_⟩:=DataW.trod_int Tryz.underlying3 k2
    obtain ⟨g4,e4,_⟩:=DataW.trod_int Tryz.underlying3 k3
    simp at e1 e2 e3 e4
    subst e1
    subst e2
    subst e3
    subst e4
    exact ⟨b.data.toList,g1,g2,g3,g4,A,n,c,st,A2,n2,c2,se,by simp,hst,hns,hse⟩
end
end Go.Proofs.YtkneghkbgingdaaGreatDoor
/- Words: the program's and the reference's. -/
namespace Go.Proofs.YtkneghkbgingdaaGreatDoor
set_option maxRecDepth 100000
open Go.RowKit
theorem zjK (l:List UInt8) (k:Nat) (h:k<(⟨l.toArray⟩:ByteArray).size):(⟨l.toArray⟩:ByteArray)[k]=l.getD k 0:=by
 have h2:k<l.length:=by simpa [ByteArray.size] using h
 rw [Zc,Zg h2]
 rfl
theorem ze6 (s:List UInt8) (hs:s.length≤100000) (w:World):Calls Tryz.prog 60 #[.string ⟨s.toArray⟩] w fun e w'=>e = .returned (.bool (wordS s))∧Ext w w':=by
 by_cases h0:s.length=0
 ·have HN:=Za (zct (s:=s) (.inl h0))
  have q1:((s.length:Int)==0)=true:=by simp [h0]
  clear h0
  go_enter Tryz.func60,Tryz.ntmps60
  go_wp2_with fail
  go_ret
  exact ⟨by rw [HN.out];rfl,Zd _⟩
 have q1:((s.length:Int)==0)=false:=by rw [Ze];omega
 by_cases h4:40<s.length
 ·have HN:=Za (zct (s:=s) (.inr h4))
  have q2:(40:Int)<(s.length:Int):=by omega
  clear h0
  go_enter Tryz.func60,Tryz.ntmps60
  go_wp2_with fail
  go_ret
  exact ⟨by rw [HN.out];rfl,Zd _⟩
 have q2:¬((40:Int)<(s.length:Int)):=by omega
 have hl1:1≤s.length:=by omega
 clear h0
 go_enter Tryz.func60,Tryz.ntmps60
 go_wp2_with fail
 go_loopw [3] (fun i wr=>∃k:Nat,i = .int .i64 (k:Int)∧k≤s.length∧Hid (∀j,j<k→okC (s.getD j 0)=true)∧Hid (Ext w wr)) (fun i _=>s.length-(intOf i).toNat)
 case atStart=>exact ⟨0,rfl,Zu _,Za (fun j hj=>absurd hj (by omega)),Za (Zd _)⟩
 case round =>
  obtain ⟨k,rfl,hk,HA,HE⟩:=hrel
  have q0:(0:Int)≤(k:Int):=by omega
  by_cases hlt:k<s.length
  ·have q1:(k:Int)<(s.length:Int):=by omega
   have h5:=zjK s k
   obtain ⟨x,hx⟩:∃x,s.getD k 0=x:=⟨_,rfl⟩
   rw [hx] at h5
   have HX:=Za hx
   clear hx
   by_cases hc:x.toNat=45∨(97≤x.toNat∧x.toNat≤122)∨(48≤x.toNat∧x.toNat≤57)
   ·have HN:=Za (show ∀j,j<k+1→okC (s.getD j 0)=true from fun j hj=>by
     by_cases e:j=k
     ·subst e;rw [HX.out];exact Z8 hc
     ·exact HA.out j (by omega))
    rcases hc with hc | hc | hc
    ·have b1:((x.toNat:Int) != 45)=false:=by rw [bne_eq_false_iff_eq];omega
     clear hc
     go_wp2_with fail
     go_roundw
     case rel=>exact ⟨k+1,by go_num,by omega,HN,HE⟩
     case measure=>simp [intOf] <;> omega
    ·have b1:((x.toNat:Int) != 45)=true:=by rw [bne_iff_ne];omega
     have b2:¬((x.toNat:Int)<97):=by omega
     have b3:¬((122:Int)<(x.toNat:Int)):=by omega
     clear hc
     go_wp2_with fail
     go_roundw
     case rel=>exact ⟨k+1,by go_num,by omega,HN,HE⟩
     case measure=>simp [intOf] <;> omega
    ·have b1:((x.toNat:Int) != 45)=true:=by rw [bne_iff_ne];omega
     have b2:(x.toNat:Int)<97:=by omega
     have b4:¬((x.toNat:Int)<48):=by omega
     have b5:¬((57:Int)<(x.toNat:Int)):=by omega
     clear hc
     go_wp2_with fail
     go_roundw
     case rel=>exact ⟨k+1,by go_num,by omega,HN,HE⟩
     case measure=>simp [intOf] <;> omega
   ·have HN:=Za (zfu hlt (show okC (s.getD k 0)=false by rw [HX.out];exact ZS hc))
    have hcc:(x.toNat<48∧x.toNat≠45)∨(57<x.toNat∧x.toNat<97)∨122<x.toNat:=by omega
    clear hc
    rcases hcc with hc | hc | hc
    ·have b1:((x.toNat:Int) != 45)=true:=by rw [bne_iff_ne];omega
     have b2:(x.toNat:Int)<97:=by omega
     have b4:(x.toNat:Int)<48:=by omega
     clear hc
     go_wp2_with fail
     go_ret
     exact ⟨by rw [HN.out];rfl,HE.out⟩
    ·have b1:((x.toNat:Int) != 45)=true:=by rw [bne_iff_ne];omega
     have b2:(x.toNat:Int)<97:=by omega
     have b4:¬((x.toNat:Int)<48):=by omega
     have b5:(57:Int)<(x.toNat:Int):=by omega
     clear hc
     go_wp2_with fail
     go_ret
     exact ⟨by rw [HN.out];rfl,HE.out⟩
    ·have b1:((x.toNat:Int) != 45)=true:=by rw [bne_iff_ne];omega
     have b2:¬((x.toNat:Int)<97):=by omega
     have b3:(122:Int)<(x.toNat:Int):=by omega
     have b4:¬((x.toNat:Int)<48):=by omega
     have b5:(57:Int)<(x.toNat:Int):=by omega
     clear hc
     go_wp2_with fail
     go_ret
     exact ⟨by rw [HN.out];rfl,HE.out⟩
  ·obtain rfl:k=s.length:=by omega
   have HN:=Za (zhh ⟨hl1,by omega⟩ HA.out)
   go_wp2_with fail
   go_ret
   exact ⟨by rw [HN.out];rfl,HE.out⟩
theorem zdl (s:List UInt8) (hs:s.length≤100000) (w:World):Calls Tryz.prog 92 #[.string ⟨s.toArray⟩] w fun e w'=>e = .returned (.bool (wordS s))∧Ext w w':=by
 go_enter Tryz.func92,Tryz.ntmps92
 go_wp2_with fail
 go_loopw [3] (fun i wr=>∃k:Nat,i = .int .i64 (k:Int)∧k≤s.length∧Hid (∀j,j<k→okC (s.getD j 0)=true)∧Hid (Ext w wr)) (fun i _=>s.length-(intOf i).toNat)
 case atStart=>exact ⟨0,rfl,Zu _,Za (fun j hj=>absurd hj (by omega)),Za (Zd _)⟩
 case round =>
  obtain ⟨k,rfl,hk,HA,HE⟩:=hrel
  have q0:(0:Int)≤(k:Int):=by omega
  by_cases hlt:k<s.length
  ·have q1:(k:Int)<(s.length:Int):=by omega
   have h5:=zjK s k
   obtain ⟨x,hx⟩:∃x,s.getD k 0=x:=⟨_,rfl⟩
   rw [hx] at h5
   have HX:=Za hx
   clear hx
   by_cases hc:x.toNat=45∨(97≤x.toNat∧x.toNat≤122)∨(48≤x.toNat∧x.toNat≤57)
   ·have HN:=Za (show ∀j,j<k+1→okC (s.getD j 0)=true from fun j hj=>by
     by_cases e:j=k
     ·subst e;rw [HX.out];exact Z8 hc
     ·exact HA.out j (by omega))
    rcases hc with hc | hc | hc
    ·have b1:((x.toNat:Int) != 45)=false:=by rw [bne_eq_false_iff_eq];omega
     clear hc
     go_wp2_with fail
     go_roundw
     case rel=>exact ⟨k+1,by go_num,by omega,HN,HE⟩
     case measure=>simp [intOf] <;> omega
    ·have b1:((x.toNat:Int) != 45)=true:=by rw [bne_iff_ne];omega
     have b2:¬((x.toNat:Int)<97):=by omega
     have b3:¬((122:Int)<(x.toNat:Int)):=by omega
     clear hc
     go_wp2_with fail
     go_roundw
     case rel=>exact ⟨k+1,by go_num,by omega,HN,HE⟩
     case measure=>simp [intOf] <;> omega
    ·have b1:((x.toNat:Int) != 45)=true:=by rw [bne_iff_ne];omega
     have b2:(x.toNat:Int)<97:=by omega
     have b4:¬((x.toNat:Int)<48):=by omega
     have b5:¬((57:Int)<(x.toNat:Int)):=by omega
     clear hc
     go_wp2_with fail
     go_roundw
     case rel=>exact ⟨k+1,by go_num,by omega,HN,HE⟩
     case measure=>simp [intOf] <;> omega
   ·have HN:=Za (zfu hlt (show okC (s.getD k 0)=false by rw [HX.out];exact ZS hc))
    have hcc:(x.toNat<48∧x.toNat≠45)∨(57<x.toNat∧x.toNat<97)∨122<x.toNat:=by omega
    clear hc
    rcases hcc with hc | hc | hc
    ·have b1:((x.toNat:Int) != 45)=true:=by rw [bne_iff_ne];omega
     have b2:(x.toNat:Int)<97:=by omega
     have b4:(x.toNat:Int)<48:=by omega
     clear hc
     go_wp2_with fail
     go_ret
     exact ⟨by rw [HN.out];rfl,HE.out⟩
    ·have b1:((x.toNat:Int) != 45)=true:=by rw [bne_iff_ne];omega
     have b2:(x.toNat:Int)<97:=by omega
     have b4:¬((x.toNat:Int)<48):=by omega
     have b5:(57:Int)<(x.toNat:Int):=by omega
     clear hc
     go_wp2_with fail
     go_ret
     exact ⟨by rw [HN.out];rfl,HE.out⟩
    ·have b1:((x.toNat:Int) != 45)=true:=by rw [bne_iff_ne];omega
     have b2:¬((x.toNat:Int)<97):=by omega
     have b3:(122:Int)<(x.toNat:Int):=by omega
     have b4:¬((x.toNat:Int)<48):=by omega
     have b5:(57:Int)<(x.toNat:Int):=by omega
     clear hc
     go_wp2_with fail
     go_ret
     exact ⟨by rw [HN.out];rfl,HE.out⟩
  ·obtain rfl:k=s.length:=by omega
   by_cases h0:s.length=0
   ·have HN:=Za (zct (s:=s) (.inl h0))
    have q1:¬((1:Int)≤(s.length:Int)):=by omega
    clear h0
    go_wp2_with fail
    go_ret
    exact ⟨by rw [HN.out];rfl,HE.out⟩
   ·have q1:(1:Int)≤(s.length:Int):=by omega
    by_cases h4:40<s.length
    ·have HN:=Za (zct (s:=s) (.inr h4))
     have q2:¬((s.length:Int)≤40):=by omega
     clear h0
     go_wp2_with fail
     go_ret
     exact ⟨by rw [HN.out];rfl,HE.out⟩
    ·have HN:=Za (zhh ⟨by omega,by omega⟩ HA.out)
     have q2:(s.length:Int)≤40:=by omega
     clear h0
     go_wp2_with fail
     go_ret
     exact ⟨by rw [HN.out];rfl,HE.out⟩
end Go.Proofs.YtkneghkbgingdaaGreatDoor
/- Names: whether all are words,and whether two are the same;over any function value that makes names. -/
namespace Go.Proofs.YtkneghkbgingdaaGreatDoor
set_option maxRecDepth 100000
open Go.RowKit Go.ChangeShapes Go.WideShapes Go.Joins
theorem ze1 (n K:Nat) (caps:Array Value) (g:Nat→List UInt8) (w:World) (hn:n≤20000)
  (hK:∀args w,(callFunc K args).run Tryz.prog w = .ok (.enter K args) w)
  (hcl:∀(i:Nat) (w1:World),i<n→Ext w w1→Calls Tryz.prog K (#[.int .i64 i]++caps) w1 fun e w2=>e = .returned (.string ⟨(g i).toArray⟩)∧Ext w1 w2)
  (hgl:∀i,i<n→(g i).length≤100000) :
  Calls Tryz.prog 57 #[.int .i64 n,.func (.func K) #[] caps] w fun e w'=>e = .returned (.tuple #[.bool (wordsB g n),.bool (twiceB g n)])∧Ext w w':=by
 have HK:=Za hK
 have HC:=Za hcl
 have HL:=Za hgl
 clear hK hcl hgl
 go_enter Tryz.func57,Tryz.ntmps57
 go_wp2_with fail
 go_loopw [4,5,9] (fun a b v wr=>∃(k:Nat) (u t:Bool),k≤n∧v = .int .i64 (k:Int)∧a = .bool u∧b = .bool t∧Hid (u=wordsB g k)∧Hid (t=twiceB g k)∧Hid (Ext w wr)) (fun _ _ v _=>n-(intOf v).toNat)
 case atStart=>exact ⟨0,_,_,Zu _,rfl,rfl,rfl,Za rfl,Za rfl,Za (Zd _)⟩
 case round =>
  obtain ⟨k,u,t0,hk,rfl,rfl,rfl,HW,HT,HE⟩:=hrel
  obtain ⟨wa,rfl⟩:∃wa:World,wa=wr:=⟨_,rfl⟩
  have q0:(0:Int)≤(k:Int):=by omega
  by_cases hlt:k<n
  ·have q1:(k:Int)<(n:Int):=by omega
   obtain ⟨X,hX⟩:∃X,g k=X:=⟨_,rfl⟩
   have hXl:X.length≤100000:=by rw [←hX];exact HL.out k hlt
   have HCK:=Za (fun (w1:World) (h:Ext w w1)=>(show Calls Tryz.prog K (#[.int .i64 k]++caps) w1 fun e w2=>e = .returned (.string ⟨X.toArray⟩)∧Ext w1 w2 from by have h9:=HC.out k w1 hlt h;rw [hX] at h9;exact h9))
   have HX:=Za hX
   clear hX
   cases hu:u with
   | false =>
    have HW2:=Za (show false=wordsB g (k+1) by rw [zbW,←HW.out,hu];rfl)
    clear hu
    have HE3:=HE
    go_wp2_with fail
    go_loopw [5,20] (fun b v wr=>∃(j:Nat) (t:Bool),j≤k∧v = .int .i64 (j:Int)∧b = .bool t∧Hid (t=(twiceB g k || amongB g k j))∧Hid (Ext w wr)) (fun _ v _=>k-(intOf v).toNat)
    case atStart=>exact ⟨0,_,Zu _,rfl,rfl,Za (by rw [HT.out,show amongB g k 0=false from rfl,Bool.or_false]),HE3⟩
    case round =>
     obtain ⟨j,t,hj,rfl,rfl,HTJ,HEJ⟩:=hrel
     obtain ⟨wb,rfl⟩:∃wb:World,wb=wr:=⟨_,rfl⟩
     have p0:(0:Int)≤(j:Int):=by omega
     by_cases hjl:j<k
     ·have p1:(j:Int)<(k:Int):=by omega
      obtain ⟨Y,hY⟩:∃Y,g j=Y:=⟨_,rfl⟩
      have HCJ:=Za (fun (w1:World) (h:Ext w w1)=>(show Calls Tryz.prog K (#[.int .i64 j]++caps) w1 fun e w2=>e = .returned (.string ⟨Y.toArray⟩)∧Ext w1 w2 from by have h9:=HC.out j w1 (by omega) h;rw [hY] at h9;exact h9))
      have HAM:=Za (show (twiceB g k || amongB g k (j+1))=((twiceB g k || amongB g k j) || (X==Y)) by rw [zbM,HX.out,hY,Bool.or_assoc])
      clear hY
      cases ht:t with
      | true =>
       have HN:=Za (show true=(twiceB g k || amongB g k (j+1)) by rw [HAM.out,←HTJ.out,ht];rfl)
       clear ht
       go_wp2_with fail
       go_roundw
       case rel=>exact ⟨j+1,true,by omega,by go_num,rfl,HN,HEJ⟩
       case measure=>simp [intOf] <;> omega
      | false =>
       by_cases hxy:X=Y
       ·have HN:=Za (show true=(twiceB g k || amongB g k (j+1)) by rw [HAM.out,hxy];simp)
        have hb1:(X==Y)=true:=by simpa using hxy
        clear ht hxy
        go_wp2_with fail
        rw [HK.out,Oper.upon_enter]
        refine (HCK.out _ HEJ.out).mono ?_
        rintro e w5 ⟨rfl,hq5⟩
        have HQ5:=Za (HEJ.out.trans hq5)
        go_wp2_with fail
        rw [HK.out,Oper.upon_enter]
        refine (HCJ.out _ HQ5.out).mono ?_
        rintro e w6 ⟨rfl,hq6⟩
        have HQ6:=Za (HQ5.out.trans hq6)
        go_wp2_with fail
        go_roundw
        case rel=>exact ⟨j+1,true,by omega,by go_num,by simp,HN,HQ6⟩
        case measure=>simp [intOf] <;> omega
       ·have HN:=Za (show false=(twiceB g k || amongB g k (j+1)) by rw [HAM.out,←HTJ.out,ht];simp [hxy])
        have hb1:(X==Y)=false:=by simpa using hxy
        clear ht hxy
        go_wp2_with fail
        rw [HK.out,Oper.upon_enter]
        refine (HCK.out _ HEJ.out).mono ?_
        rintro e w5 ⟨rfl,hq5⟩
        have HQ5:=Za (HEJ.out.trans hq5)
        go_wp2_with fail
        rw [HK.out,Oper.upon_enter]
        refine (HCJ.out _ HQ5.out).mono ?_
        rintro e w6 ⟨rfl,hq6⟩
        have HQ6:=Za (HQ5.out.trans hq6)
        go_wp2_with fail
        go_roundw
        case rel=>exact ⟨j+1,false,by omega,by go_num,by simp,HN,HQ6⟩
        case measure=>simp [intOf] <;> omega
     ·obtain rfl:j=k:=by omega
      go_wp2_with fail
      go_roundw
      case rel=>exact ⟨j+1,_,t,by omega,by go_num,rfl,rfl,HW2,Za (by rw [zbo];exact HTJ.out),HEJ⟩
      case measure=>simp [intOf] <;> omega
   | true =>
    obtain ⟨z,hz⟩:∃z,wordS X=z:=⟨_,rfl⟩
    have HZ:=Za hz
    have HW2:=Za (show z=wordsB g (k+1) by rw [zbW,←HW.out,hu,HX.out,hz];rfl)
    clear hu hz
    go_wp2_with fail
    rw [HK.out,Oper.upon_enter]
    refine (HCK.out _ HE.out).mono ?_
    rintro e w3 ⟨rfl,hq3⟩
    have HQ3:=Za (HE.out.trans hq3)
    go_wp2_with (first
     | (go_at_call 60;((with_reducible refine (ze6 X hXl _).mono ?_);rintro e w4 ⟨rfl,hq4⟩;rw [HZ.out])))
    have HE3:=Za (HQ3.out.trans hq4)
    go_loopw [5,20] (fun b v wr=>∃(j:Nat) (t:Bool),j≤k∧v = .int .i64 (j:Int)∧b = .bool t∧Hid (t=(twiceB g k || amongB g k j))∧Hid (Ext w wr)) (fun _ v _=>k-(intOf v).toNat)
    case atStart=>exact ⟨0,_,Zu _,rfl,rfl,Za (by rw [HT.out,show amongB g k 0=false from rfl,Bool.or_false]),HE3⟩
    case round =>
     obtain ⟨j,t,hj,rfl,rfl,HTJ,HEJ⟩:=hrel
     obtain ⟨wb,rfl⟩:∃wb:World,wb=wr:=⟨_,rfl⟩
     have p0:(0:Int)≤(j:Int):=by omega
     by_cases hjl:j<k
     ·have p1:(j:Int)<(k:Int):=by omega
      obtain ⟨Y,hY⟩:∃Y,g j=Y:=⟨_,rfl⟩
      have HCJ:=Za (fun (w1:World) (h:Ext w w1)=>(show Calls Tryz.prog K (#[.int .i64 j]++caps) w1 fun e w2=>e = .returned (.string ⟨Y.toArray⟩)∧Ext w1 w2 from by have h9:=HC.out j w1 (by omega) h;rw [hY] at h9;exact h9))
      have HAM:=Za (show (twiceB g k || amongB g k (j+1))=((twiceB g k || amongB g k j) || (X==Y)) by rw [zbM,HX.out,hY,Bool.or_assoc])
      clear hY
      cases ht:t with
      | true =>
       have HN:=Za (show true=(twiceB g k || amongB g k (j+1)) by rw [HAM.out,←HTJ.out,ht];rfl)
       clear ht
       go_wp2_with fail
       go_roundw
       case rel=>exact ⟨j+1,true,by omega,by go_num,rfl,HN,HEJ⟩
       case measure=>simp [intOf] <;> omega
      | false =>
       by_cases hxy:X=Y
       ·have HN:=Za (show true=(twiceB g k || amongB g k (j+1)) by rw [HAM.out,hxy];simp)
        have hb1:(X==Y)=true:=by simpa using hxy
        clear ht hxy
        go_wp2_with fail
        rw [HK.out,Oper.upon_enter]
        refine (HCK.out _ HEJ.out).mono ?_
        rintro e w5 ⟨rfl,hq5⟩
        have HQ5:=Za (HEJ.out.trans hq5)
        go_wp2_with fail
        rw [HK.out,Oper.upon_enter]
        refine (HCJ.out _ HQ5.out).mono ?_
        rintro e w6 ⟨rfl,hq6⟩
        have HQ6:=Za (HQ5.out.trans hq6)
        go_wp2_with fail
        go_roundw
        case rel=>exact ⟨j+1,true,by omega,by go_num,by simp,HN,HQ6⟩
        case measure=>simp [intOf] <;> omega
       ·have HN:=Za (show false=(twiceB g k || amongB g k (j+1)) by rw [HAM.out,←HTJ.out,ht];simp [hxy])
        have hb1:(X==Y)=false:=by simpa using hxy
        clear ht hxy
        go_wp2_with fail
        rw [HK.out,Oper.upon_enter]
        refine (HCK.out _ HEJ.out).mono ?_
        rintro e w5 ⟨rfl,hq5⟩
        have HQ5:=Za (HEJ.out.trans hq5)
        go_wp2_with fail
        rw [HK.out,Oper.upon_enter]
        refine (HCJ.out _ HQ5.out).mono ?_
        rintro e w6 ⟨rfl,hq6⟩
        have HQ6:=Za (HQ5.out.trans hq6)
        go_wp2_with fail
        go_roundw
        case rel=>exact ⟨j+1,false,by omega,by go_num,by simp,HN,HQ6⟩
        case measure=>simp [intOf] <;> omega
     ·obtain rfl:j=k:=by omega
      go_wp2_with fail
      go_roundw
      case rel=>exact ⟨j+1,_,t,by omega,by go_num,rfl,rfl,HW2,Za (by rw [zbo];exact HTJ.out),HEJ⟩
      case measure=>simp [intOf] <;> omega
  ·obtain rfl:k=n:=by omega
   go_wp2_with fail
   go_ret2
   exact ⟨by rw [HW.out,HT.out];rfl,HE.out⟩
end Go.Proofs.YtkneghkbgingdaaGreatDoor
/- The contracts of Check of gauge,and of its reference. -/
namespace Go.Proofs.YtkneghkbgingdaaGreatDoor
set_option maxRecDepth 100000
open Go.RowKit
theorem zaj (n lo hi:Int) (w:World) :
  Calls Tryz.prog 89 #[.int .i64 n,.int .i64 lo,.int .i64 hi] w fun e w'=>e = .returned (.bool (ginR n lo hi))∧w=w':=by
 by_cases h:lo≤n
 ·go_enter Tryz.func89,Tryz.ntmps89
  go_wp2
  go_ret
  exact ⟨by simp [ginR,h],rfl⟩
 ·go_enter Tryz.func89,Tryz.ntmps89
  go_wp2
  go_ret
  exact ⟨by rw [zny (by omega)];rfl,rfl⟩
theorem zhm (a b c d:Int) (w:World) :
  Calls Tryz.prog 61 #[.agg #[.int .i64 a,.int .i64 b,.int .i64 c,.int .i64 d]] w fun e w'=>e = .returned (.int .i64 (gerr a b c d))∧Ext w w':=by
 have i0:∀w,(Instr.index 101 (.agg #[.int .i64 a,.int .i64 b,.int .i64 c,.int .i64 d]) (.int .i64 0)).run Tryz.prog w = .ok (.int .i64 a) w:=fun _=>by kernel_rfl
 have i1:∀w,(Instr.index 101 (.agg #[.int .i64 a,.int .i64 b,.int .i64 c,.int .i64 d]) (.int .i64 1)).run Tryz.prog w = .ok (.int .i64 b) w:=fun _=>by kernel_rfl
 have i2:∀w,(Instr.index 101 (.agg #[.int .i64 a,.int .i64 b,.int .i64 c,.int .i64 d]) (.int .i64 2)).run Tryz.prog w = .ok (.int .i64 c) w:=fun _=>by kernel_rfl
 have i3:∀w,(Instr.index 101 (.agg #[.int .i64 a,.int .i64 b,.int .i64 c,.int .i64 d]) (.int .i64 3)).run Tryz.prog w = .ok (.int .i64 d) w:=fun _=>by kernel_rfl
 cases ha:ginR a 1 10000
 ·go_enter Tryz.func61,Tryz.ntmps61
  go_wp2_with fail
  refine wp_loop_rounds 1 ?_
  rw [rounds_succ]
  go_wp2_with (go_at_call 89;refine (zaj _ _ _ _).mono ?_;rintro e w1 ⟨rfl,rfl⟩)
  go_ret
  exact ⟨by simp [gerr,gok,ha],(Zd _).alloc _⟩
 cases hb:ginR b 1 10000
 ·go_enter Tryz.func61,Tryz.ntmps61
  go_wp2_with fail
  refine wp_loop_rounds 2 ?_
  rw [rounds_succ]
  go_wp2_with (go_at_call 89;refine (zaj _ _ _ _).mono ?_;rintro e w1 ⟨rfl,rfl⟩)
  rw [rounds_succ]
  go_wp2_with (go_at_call 89;refine (zaj _ _ _ _).mono ?_;rintro e w1 ⟨rfl,rfl⟩)
  go_ret
  exact ⟨by simp [gerr,gok,ha,hb],(Zd _).alloc _⟩
 cases hc:ginR c 1 10000
 ·go_enter Tryz.func61,Tryz.ntmps61
  go_wp2_with fail
  refine wp_loop_rounds 3 ?_
  rw [rounds_succ]
  go_wp2_with (go_at_call 89;refine (zaj _ _ _ _).mono ?_;rintro e w1 ⟨rfl,rfl⟩)
  rw [rounds_succ]
  go_wp2_with (go_at_call 89;refine (zaj _ _ _ _).mono ?_;rintro e w1 ⟨rfl,rfl⟩)
  rw [rounds_succ]
  go_wp2_with (go_at_call 89;refine (zaj _ _ _ _).mono ?_;rintro e w1 ⟨rfl,rfl⟩)
  go_ret
  exact ⟨by simp [gerr,gok,ha,hb,hc],(Zd _).alloc _⟩
 cases hd:ginR d 1 10000
 ·go_enter Tryz.func61,Tryz.ntmps61
  go_wp2_with fail
  refine wp_loop_rounds 4 ?_
  rw [rounds_succ]
  go_wp2_with (go_at_call 89;refine (zaj _ _ _ _).mono ?_;rintro e w1 ⟨rfl,rfl⟩)
  rw [rounds_succ]
  go_wp2_with (go_at_call 89;refine (zaj _ _ _ _).mono ?_;rintro e w1 ⟨rfl,rfl⟩)
  rw [rounds_succ]
  go_wp2_with (go_at_call 89;refine (zaj _ _ _ _).mono ?_;rintro e w1 ⟨rfl,rfl⟩)
  rw [rounds_succ]
  go_wp2_with (go_at_call 89;refine (zaj _ _ _ _).mono ?_;rintro e w1 ⟨rfl,rfl⟩)
  go_ret
  exact ⟨by simp [gerr,gok,ha,hb,hc,hd],(Zd _).alloc _⟩
 ·go_enter Tryz.func61,Tryz.ntmps61
  go_wp2_with fail
  refine wp_loop_rounds 5 ?_
  rw [rounds_succ]
  go_wp2_with (go_at_call 89;refine (zaj _ _ _ _).mono ?_;rintro e w1 ⟨rfl,rfl⟩)
  rw [rounds_succ]
  go_wp2_with (go_at_call 89;refine (zaj _ _ _ _).mono ?_;rintro e w1 ⟨rfl,rfl⟩)
  rw [rounds_succ]
  go_wp2_with (go_at_call 89;refine (zaj _ _ _ _).mono ?_;rintro e w1 ⟨rfl,rfl⟩)
  rw [rounds_succ]
  go_wp2_with (go_at_call 89;refine (zaj _ _ _ _).mono ?_;rintro e w1 ⟨rfl,rfl⟩)
  rw [rounds_succ]
  go_wp2_with (go_at_call 89;refine (zaj _ _ _ _).mono ?_;rintro e w1 ⟨rfl,rfl⟩)
  go_ret
  exact ⟨by simp [gerr,gok,ha,hb,hc,hd],(Zd _).alloc _⟩
theorem zfN (a b c d:Int) (w:World) :
  Calls Tryz.prog 93 #[.agg #[.int .i64 a,.int .i64 b,.int .i64 c,.int .i64 d]] w fun e w'=>e = .returned (.int .i64 (gerr a b c d))∧Ext w w':=by
 cases ha:ginR a 1 10000
 ·have hn:=zgN ha
  rcases hn with hn | hn
  ·(go_enter Tryz.func93,Tryz.ntmps93;go_wp2;go_ret;exact ⟨by simp [gerr,gok,ha],(Zd _).alloc _⟩)
  ·(go_enter Tryz.func93,Tryz.ntmps93;go_wp2;go_ret;exact ⟨by simp [gerr,gok,ha],(Zd _).alloc _⟩)
 obtain ⟨a0,a1⟩:=zgM ha
 cases hb:ginR b 1 10000
 ·have hn:=zgN hb
  rcases hn with hn | hn
  ·(go_enter Tryz.func93,Tryz.ntmps93;go_wp2;go_ret;exact ⟨by simp [gerr,gok,ha,hb],(Zd _).alloc _⟩)
  ·(go_enter Tryz.func93,Tryz.ntmps93;go_wp2;go_ret;exact ⟨by simp [gerr,gok,ha,hb],(Zd _).alloc _⟩)
 obtain ⟨b0,b1⟩:=zgM hb
 cases hc:ginR c 1 10000
 ·have hn:=zgN hc
  rcases hn with hn | hn
  ·(go_enter Tryz.func93,Tryz.ntmps93;go_wp2;go_ret;exact ⟨by simp [gerr,gok,ha,hb,hc],(Zd _).alloc _⟩)
  ·(go_enter Tryz.func93,Tryz.ntmps93;go_wp2;go_ret;exact ⟨by simp [gerr,gok,ha,hb,hc],(Zd _).alloc _⟩)
 obtain ⟨c0,c1⟩:=zgM hc
 cases hd:ginR d 1 10000
 ·have hn:=zgN hd
  rcases hn with hn | hn
  ·(go_enter Tryz.func93,Tryz.ntmps93;go_wp2;go_ret;exact ⟨by simp [gerr,gok,ha,hb,hc,hd],(Zd _).alloc _⟩)
  ·(go_enter Tryz.func93,Tryz.ntmps93;go_wp2;go_ret;exact ⟨by simp [gerr,gok,ha,hb,hc,hd],(Zd _).alloc _⟩)
 obtain ⟨d0,d1⟩:=zgM hd
 ·(go_enter Tryz.func93,Tryz.ntmps93;go_wp2;go_ret;exact ⟨by simp [gerr,gok,ha,hb,hc,hd],(Zd _).alloc _⟩)
end Go.Proofs.YtkneghkbgingdaaGreatDoor
