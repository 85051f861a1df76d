/- The steps of the search for the shortest list, in plain Lean. -/
import Derived.Test.YtkneghkbgingdaaGreatDoorK05
set_option maxHeartbeats 16000000
namespace Go.Proofs.YtkneghkbgingdaaGreatDoor
set_option maxRecDepth 100000
def sub (l:List St) (a n:Nat):List St:=(l.drop a).take n
theorem za8 {l:List St} {a n:Nat} (h:a+n≤l.length):(sub l a n).length=n:=by
 rw [sub,Zy,ZD];omega
theorem zgh {l:List St} {a n j:Nat} (h:j<n):(sub l a n).getD j st0=l.getD (a+j) st0:=by
 rw [sub,Zc,List.getElem?_take,if_pos h,Z6,←Zc]
theorem zcY {l:List St} {a n p:Nat} (h:p≤n):(sub l a n).take p=sub l a p:=by
 rw [sub,sub,List.take_take,Nat.min_eq_left h]
theorem zhb {l:List St} {a n k:Nat} (_:k≤n):(sub l a n).drop k=sub l (a+k) (n-k):=by
 rw [sub,sub,List.drop_take,List.drop_drop]
theorem zm7 (l:List St):sub l 0 l.length=l:=by rw [sub,List.drop_zero,Zz (Zf _)]
theorem zdN {l:List St} {a n:Nat} (h:a+n≤l.length) (h1:1≤n):sub l a n≠[]:=by
 intro e
 have:=za8 h
 rw [e] at this
 simp at this
 omega
theorem zmE {l:List St} {p:Nat} (h:l.length % p≠0):perB l p=false:=by
 simp [perB,h]
theorem zhz {l:List St} {p:Nat} (h:l.length % p=0) (hp:p≤l.length) (he:∀j,j+p<l.length→l.getD j st0=l.getD (j+p) st0):perB l p=true:=by
 simp only [perB,Zs,Zx]
 refine ⟨h,?_⟩
 apply List.ext_getElem?
 intro j
 rw [Z6,List.getElem?_take]
 by_cases hj:j<l.length-p
 ·rw [if_pos hj]
  have:=he j (by omega)
  rw [Zc,Zc,Zg (by omega),Zg (show j+p<l.length by omega)] at this
  simp only [Option.getD_some] at this
  rw [Zg (show p+j<l.length by omega),Zg (show j<l.length by omega),this]
  congr 2
  omega
 ·rw [if_neg hj,List.getElem?_eq_none (by omega)]
theorem znK {l:List St} {p j:Nat} (hj:j+p<l.length) (h:l.getD j st0≠l.getD (j+p) st0):perB l p=false:=by
 cases e:perB l p
 ·rfl
 ·exfalso
  apply h
  have:=(zi6 e).2
  have h1:(l.drop p)[j]?=(l.take (l.length-p))[j]?:=by rw [this]
  rw [Z6,List.getElem?_take,if_pos (by omega),Nat.add_comm p j] at h1
  rw [Zc,Zc,h1]
def chS (l:List St):Nat:=(ch l).size
def fin1 (l:List St) (P:Nat) (c:Chc):Chc:=((List.range l.length).drop P).foldl (perStep chS l) c
def fin2 (l:List St) (I:Nat) (c:Chc):Chc:=(List.range I).reverse.foldl (partStep chS l) c
theorem zdb {l:List St} {P:Nat} (h:P<l.length) (c:Chc):fin1 l P c=fin1 l (P+1) (perStep chS l c P):=by
 rw [fin1,Z4 (by simpa using h),List.foldl_cons,List.getElem_range]
 rfl
theorem zkr {l:List St} {P:Nat} (h:l.length≤P) (c:Chc):fin1 l P c=c:=by
 rw [fin1,Z5 (by simpa using h)];rfl
theorem zeU (l:List St) (I:Nat) (c:Chc):fin2 l (I+1) c=fin2 l I (partStep chS l c I):=by
 rw [fin2,List.range_succ,List.reverse_append];rfl
theorem zks (l:List St) (c:Chc):fin2 l 1 c=c:=by
 rw [zeU]
 simp [fin2,partStep]
theorem ze5 {l:List St} {c:Chc} {p:Nat} (h:p<2):perStep chS l c p=c:=by rw [perStep,if_neg (by omega)]
theorem zj8 {l:List St} (h:l≠[]) (h1:perB l 1=false):2≤l.length∧ch l=fin2 l l.length (fin1 l 2 ⟨l.length+1,0,0⟩):=by
 have hl:=zcK h
 have h2:2≤l.length:=by
  rcases Z1 l.length 2 with hh | hh
  ·obtain ⟨x,rfl⟩:∃x,l=[x]:=by
    match l,hl,hh with
    | [x],_,_=>exact ⟨x,rfl⟩
   rw [zi7] at h1;cases h1
  ·exact hh
 refine ⟨h2,?_⟩
 rw [zif h,chG,if_neg (by rw [h1];simp)]
 have e:(List.range l.length).foldl (perStep (fun x=>(ch x).size) l) ⟨l.length+1,0,0⟩=fin1 l 2 ⟨l.length+1,0,0⟩:=by
  have:(List.range l.length).foldl (perStep (fun x=>(ch x).size) l) ⟨l.length+1,0,0⟩=fin1 l 0 ⟨l.length+1,0,0⟩:=by rw [fin1,List.drop_zero];rfl
  rw [this,zdb (by omega),ze5 (by omega),zdb (by omega),ze5 (by omega)]
 rw [e]
 rfl
theorem znL {l:List St} {c:Chc} {p:Nat} (h:perB l p=false):perStep chS l c p=c:=by rw [perStep,if_neg (by rw [h];simp)]
theorem zmF {l:List St} {c:Chc} {p:Nat} (h:¬1+chS (l.take p)<c.size):perStep chS l c p=c:=by rw [perStep,if_neg (fun e=>h e.2.2)]
theorem zmH {l:List St} {c:Chc} {p:Nat} (h2:2≤p) (hb:perB l p=true) (h:1+chS (l.take p)<c.size):perStep chS l c p=⟨1+chS (l.take p),p,0⟩:=by rw [perStep,if_pos ⟨h2,hb,h⟩]
theorem zmA {l:List St} {c:Chc} {k:Nat} (h:¬chS (l.take k)+chS (l.drop k)<c.size):partStep chS l c k=c:=by rw [partStep,if_neg (fun e=>h e.2)]
theorem zkX {l:List St} {c:Chc} {k:Nat} (h1:1≤k) (h:chS (l.take k)+chS (l.drop k)<c.size):partStep chS l c k=⟨chS (l.take k)+chS (l.drop k),0,k⟩:=by rw [partStep,if_pos ⟨h1,h⟩]
theorem znl {l:List St} (h:l≠[]):1≤chS l∧chS l≤l.length:=zj7 l.length rfl h
end Go.Proofs.YtkneghkbgingdaaGreatDoor
/- The finder of the shortest list: periods. -/
namespace Go.Proofs.YtkneghkbgingdaaGreatDoor
set_option maxRecDepth 100000
open Go.RowKit Go.ChangeShapes Go.WideShapes Go.Joins
theorem zbb (g n c:Nat) (A:Option Addr) (l:List St) (a m p:Nat) (w:World) (hl:Vec shSt w A n l) (hg:w.cell? ⟨g,0,none⟩=some (.slice A n c)) (ham:a+m≤n) (hn:n≤60) (hp:1≤p) (hpm:p≤m) :
  Calls Tryz.prog 184 #[.pointer (some ⟨g,0,none⟩),.int .i64 a,.int .i64 m,.int .i64 p] w fun e w'=>e = .returned (.bool (perB (sub l a m) p))∧Ext w w':=by
 have HX:=Za hl
 have hlen:=hl.1
 have hz:=Zo w _ hg
 simp only at hz
 have hsl:=za8 (l:=l) (a:=a) (n:=m) (by omega)
 have hp0:¬((p:Int)=0):=by omega
 have s1:=Zp ((a:Int)+(m:Int)) (by omega)
 clear hl
 by_cases hmod:m % p=0
 case neg =>
  have HF:=Za (zmE (l:=sub l a m) (p:=p) (by rw [hsl];exact hmod))
  have hm2:((m:Int) % (p:Int) != 0)=true:=by
   simp
   omega
  go_enter Tryz.func184,Tryz.ntmps184
  go_wp2_with fail
  go_ret
  exact ⟨by rw [HF.out];rfl,zx⟩
 have hm2:((m:Int) % (p:Int) != 0)=false:=by
  simp
  omega
 go_enter Tryz.func184,Tryz.ntmps184
 go_wp2_with fail
 go_loopw [9] (fun i wr=>∃j:Nat,i = .int .i64 ((a:Int)+(j:Int))∧j+p≤m∧Hid (∀j',j'<j→(sub l a m).getD j' st0=(sub l a m).getD (j'+p) st0)∧Hid (Ext w wr)) (fun i _=>a+m-(intOf i).toNat)
 case atStart=>exact ⟨0,by simp,by omega,fun j hj=>absurd hj (by omega),Zd _⟩
 case round =>
  obtain ⟨j,rfl,hj,hall,hext⟩:=hrel
  have hx:=hext.out
  have g0:=(Zm (p:=⟨g,0,none⟩) hx hz).trans hg
  have gz:=Zo wr _ g0
  simp only at gz
  have s2:=Zp ((a:Int)+(j:Int)+(p:Int)) (by omega)
  have s3:=Zp ((a:Int)+(j:Int)+1) (by omega)
  by_cases hlt:j+p<m
  ·have q4:(a:Int)+(j:Int)+(p:Int)<(a:Int)+(m:Int):=by omega
   obtain ⟨b,off,rfl,hb,hc⟩:=Sts.all (HX.out.ext hx) (by omega)
   obtain ⟨h1,h2,h3,h4⟩:=hc (a+j) (by omega)
   obtain ⟨h5,h6,h7,h8⟩:=hc (a+j+p) (by omega)
   clear hc
   have q0:(0:Int)≤(a:Int)+(j:Int):=by omega
   have q1:(a:Int)+(j:Int)<(n:Int):=by omega
   have q2:(0:Int)≤(a:Int)+(j:Int)+(p:Int):=by omega
   have q3:(a:Int)+(j:Int)+(p:Int)<(n:Int):=by omega
   have n1:((a:Int)+(j:Int)).toNat=a+j:=by omega
   have n2:((a:Int)+(j:Int)+(p:Int)).toNat=a+j+p:=by omega
   have e1:=zgh (l:=l) (a:=a) (n:=m) (j:=j) (by omega)
   have e2:=zgh (l:=l) (a:=a) (n:=m) (j:=j+p) (by omega)
   rw [←Nat.add_assoc] at e2
   by_cases hxy:l.getD (a+j) st0=l.getD (a+j+p) st0
   ·have HA:=Za (show ∀j',j'<j+1→(sub l a m).getD j' st0=(sub l a m).getD (j'+p) st0 from fun j' hj'=>by
     by_cases e:j'=j
     ·subst e;rw [e1,e2];exact hxy
     ·exact hall.out j' (by omega))
    rw [←hxy] at h5 h6 h7 h8
    clear hall hxy e1 e2
    generalize l.getD (a+j) st0=x at *
    obtain ⟨x1,x2,x3,x4⟩:=x
    simp only at h1 h2 h3 h4 h5 h6 h7 h8
    go_wp2_with fail
    go_quiet (fail)
    go_wp2
    go_roundw
    case rel=>exact ⟨j+1,by go_num,by omega,HA,zx⟩
    case measure=>simp [intOf];omega
   ·have HF:=Za (znK (l:=sub l a m) (p:=p) (j:=j) (by rw [hsl];exact hlt) (by rw [e1,e2];exact hxy))
    clear e1 e2 hall
    generalize l.getD (a+j) st0=x at *
    generalize l.getD (a+j+p) st0=y at *
    obtain ⟨x1,x2,x3,x4⟩:=x
    obtain ⟨y1,y2,y3,y4⟩:=y
    simp only at h1 h2 h3 h4 h5 h6 h7 h8
    have hne:=zco hxy
    clear hxy
    go_wp2_with fail
    go_quiet (fail)
    go_wp2
    go_ret
    exact ⟨by rw [HF.out];rfl,zx⟩
  ·have q4:¬((a:Int)+(j:Int)+(p:Int)<(a:Int)+(m:Int)):=by omega
   have HF:=Za (zhz (l:=sub l a m) (p:=p) (by rw [hsl];exact hmod) (by rw [hsl];exact hpm) (fun j' hj'=>hall.out j' (by rw [hsl] at hj';omega)))
   go_wp2_with fail
   go_ret
   exact ⟨by rw [HF.out];rfl,zx⟩
end Go.Proofs.YtkneghkbgingdaaGreatDoor
/- The finder of the shortest list: its table. -/
namespace Go.Proofs.YtkneghkbgingdaaGreatDoor
set_option maxRecDepth 100000
open Go.RowKit Go.ChangeShapes Go.WideShapes Go.Joins
def fld (c:Chc):Nat→Nat
 | 0=>c.size
 | 1=>c.period
 | _=>c.part
def setf (c:Chc) (i v:Nat):Chc:=match i with
 | 0=>⟨v,c.period,c.part⟩
 | 1=>⟨c.size,v,c.part⟩
 | _=>⟨c.size,c.period,v⟩
def upd (tab:Nat→Nat→Chc) (a m:Nat) (c:Chc):Nat→Nat→Chc:=fun x y=>if x=a∧y=m then c else tab x y
theorem zc2 (tab:Nat→Nat→Chc) (a m:Nat) (c:Chc):upd tab a m c a m=c:=by simp [upd]
theorem zbq {tab:Nat→Nat→Chc} {a m x y:Nat} {c:Chc} (h:¬(x=a∧y=m)):upd tab a m c x y=tab x y:=by simp [upd,h]
structure FAt (w:World) (g n c:Nat) (A:Option Addr) (tab:Nat→Nat→Chc):Prop where
 hd:w.cell? ⟨g,0,none⟩=some (.slice A n c)
 fz:∀o,w.frozen? ⟨g,o,none⟩=false
 tb:∀a m i,a<60→m≤60→i<3→w.cell? ⟨g,1+a*183+m*3+i,none⟩=some (.int .i64 (fld (tab a m) i:Nat))
theorem FAt.lt {w:World} {g n c:Nat} {A:Option Addr} {tab:Nat→Nat→Chc} (h:FAt w g n c A tab):g<w.heap.size:=Zo w _ h.hd
theorem FAt.ext {w w':World} {g n c:Nat} {A:Option Addr} {tab:Nat→Nat→Chc} (h:FAt w g n c A tab) (hb:Ext w w'):FAt w' g n c A tab:=by
 have hl:=h.lt
 obtain ⟨hc,hf, -⟩:=hb.facts
 exact ⟨(hc _ _ hl).trans h.hd,fun o=>(hf _ _ hl).trans (h.fz o),fun a m i ha hm hi=>(hc _ _ hl).trans (h.tb a m i ha hm hi)⟩
theorem FAt.set {w:World} {g n c:Nat} {A:Option Addr} {tab:Nat→Nat→Chc} (h:FAt w g n c A tab) {a m i:Nat} (ha:a<60) (hm:m≤60) (hi:i<3) (v:Nat) :
  FAt (w.setCell ⟨g,1+a*183+m*3+i,none⟩ (.int .i64 (v:Int))) g n c A (upd tab a m (setf (tab a m) i v)):=by
 refine ⟨?_,fun o=>(Zv _ _ _ _).trans (h.fz o),fun x y j hx hy hj=>?_⟩
 ·rw [Zj _ _ _ _ (by intro e;simp only [Addr.mk.injEq] at e;omega)]
  exact h.hd
 ·by_cases e:x=a∧y=m
  ·obtain ⟨rfl,rfl⟩:=e
   rw [zc2]
   by_cases ej:j=i
   ·subst ej
    rw [ZK _ _ _ (h.tb x y j hx hy hj)]
    match j,hj with
    | 0,_=>rfl
    | 1,_=>rfl
    | 2,_=>rfl
   ·rw [Zj _ _ _ _ (by intro e9;simp only [Addr.mk.injEq] at e9;omega),h.tb x y j hx hy hj]
    match i,j,hi,hj with
    | 0,1,_,_=>rfl
    | 0,2,_,_=>rfl
    | 1,0,_,_=>rfl
    | 1,2,_,_=>rfl
    | 2,0,_,_=>rfl
    | 2,1,_,_=>rfl
    | 0,0,_,_=>exact absurd rfl ej
    | 1,1,_,_=>exact absurd rfl ej
    | 2,2,_,_=>exact absurd rfl ej
  ·rw [zbq e,Zj _ _ _ _ (by intro e9;simp only [Addr.mk.injEq] at e9;omega)]
   exact h.tb x y j hx hy hj
def TabOk (l:List St) (tab:Nat→Nat→Chc) (N:Nat):Prop:=∀a m,1≤m→m≤N→a+m≤l.length→tab a m=⟨0,0,0⟩∨tab a m=ch (sub l a m)
theorem TabOk.down {l:List St} {tab:Nat→Nat→Chc} {N M:Nat} (h:TabOk l tab N) (hm:M≤N):TabOk l tab M:=fun a m h1 h2 h3=>h a m h1 (by omega) h3
structure Least (l:List St) (g n c:Nat) (A:Option Addr) (tab:Nat→Nat→Chc) (a m:Nat) (w w':World) (tab':Nat→Nat→Chc):Prop where
 at_:FAt w' g n c A tab'
 ok:TabOk l tab' m
 up:∀x y,m<y→tab' x y=tab x y
 it:tab' a m=ch (sub l a m)
 but:But (some g) w w'
theorem zdV {l:List St} {a m:Nat} (h:a+m≤l.length) (h1:1≤m):1≤(ch (sub l a m)).size∧(ch (sub l a m)).size≤m:=by
 have h2:=znl (zdN h h1)
 rw [za8 h] at h2
 exact h2
end Go.Proofs.YtkneghkbgingdaaGreatDoor
/- The finder of the shortest list: least. -/
namespace Go.Proofs.YtkneghkbgingdaaGreatDoor
set_option maxRecDepth 100000
open Go.RowKit Go.ChangeShapes Go.WideShapes Go.Joins
theorem Vec.far {α:Type} {S:Shp α} {w w':World} {A:Option Addr} {n g:Nat} {l:List α} (h:Vec S w A n l) (hb:But (some g) w w') (hne:∀b off,A=some ⟨b,off,none⟩→b≠g):Vec S w' A n l :=
 ⟨h.1,fun hn=>by
  obtain ⟨b,off,e,hlt,hx⟩:=h.2 hn
  exact ⟨b,off,e,Zt hlt hb.size,fun k x hxk i u hu=>(But.cell (p:=⟨b,_,none⟩) hb hlt (by intro e9;cases e9;exact hne b off e rfl)).trans (hx k x hxk i u hu)⟩⟩
theorem znm {l:List St} (h:l≠[]) (h1:perB l 1=true):ch l=⟨1,0,0⟩:=by rw [zif h,chG,if_pos h1]
structure LI (l:List St) (g n c:Nat) (A:Option Addr) (tab:Nat→Nat→Chc) (a m:Nat) (w wr:World) (tb:Nat→Nat→Chc) (cc:Chc):Prop where
 at_:FAt wr g n c A tb
 ok:TabOk l tb (m-1)
 up:∀x y,m<y→tb x y=tab x y
 row:∀x,x≠a→tb x m=tab x m
 it:tb a m=⟨0,cc.period,cc.part⟩
 but:But (some g) w wr
theorem LI.ext {l:List St} {g n c a m:Nat} {A:Option Addr} {tab tb:Nat→Nat→Chc} {w wr wx:World} {cc:Chc} (h:LI l g n c A tab a m w wr tb cc) (hb:Ext wr wx):LI l g n c A tab a m w wx tb cc :=
 { h with at_:=h.at_.ext hb,but:=h.but.trans (But.of_ext hb _) }
theorem LI.call {l:List St} {g n c a m x p:Nat} {A:Option Addr} {tab tb tb2:Nat→Nat→Chc} {w wr wx:World} {cc:Chc} (h:LI l g n c A tab a m w wr tb cc) (hp:p<m) (k:Least l g n c A tb x p wr wx tb2):LI l g n c A tab a m w wx tb2 cc:=by
 refine ⟨k.at_,fun x' y h1 h2 h3=>?_,fun x' y hy=>(k.up x' y (by omega)).trans (h.up x' y hy),fun x' hx=>(k.up x' m hp).trans (h.row x' hx),(k.up a m hp).trans h.it,h.but.trans k.but⟩
 by_cases hy:y≤p
 ·exact k.ok x' y h1 hy h3
 ·rw [k.up x' y (by omega)]
  exact h.ok x' y h1 h2 h3
theorem LI.set {l:List St} {g n c a m:Nat} {A:Option Addr} {tab tb:Nat→Nat→Chc} {w wr:World} {cc cc2:Chc} (h:LI l g n c A tab a m w wr tb cc) (ha:a<60) (hm:m≤60) {i:Nat} (hi:i<3) (v:Nat) (hc:setf ⟨0,cc.period,cc.part⟩ i v=⟨0,cc2.period,cc2.part⟩) :
  LI l g n c A tab a m w (wr.setCell ⟨g,1+a*183+m*3+i,none⟩ (.int .i64 (v:Int))) (upd tb a m ⟨0,cc2.period,cc2.part⟩) cc2:=by
 have h1:=h.at_.set ha hm hi v
 rw [h.it,hc] at h1
 refine ⟨h1,fun x y hy1 hy2 hy3=>?_,fun x y hy=>?_,fun x hx=>?_,zc2 _ _ _ _,h.but.own rfl _⟩
 ·rw [zbq (by omega)];exact h.ok x y hy1 hy2 hy3
 ·rw [zbq (by omega)];exact h.up x y hy
 ·rw [zbq (fun e=>hx e.1)];exact h.row x hx
theorem LI.done {l:List St} {g n c a m:Nat} {A:Option Addr} {tab tb:Nat→Nat→Chc} {w wr:World} {cc:Chc} (h:LI l g n c A tab a m w wr tb cc) (ha:a<60) (hm:m≤60) (hm1:1≤m) (hok:TabOk l tab m) (hc:ch (sub l a m)=cc) :
  Least l g n c A tab a m w (wr.setCell ⟨g,1+a*183+m*3,none⟩ (.int .i64 (cc.size:Int))) (upd tb a m cc):=by
 have h1:=h.at_.set ha hm (i:=0) (by omega) cc.size
 rw [h.it] at h1
 refine ⟨h1,fun x y hy1 hy2 hy3=>?_,fun x y hy=>?_,(zc2 _ _ _ _).trans hc.symm,h.but.own rfl _⟩
 ·by_cases e:x=a∧y=m
  ·obtain ⟨rfl,rfl⟩:=e
   rw [zc2]
   exact .inr hc.symm
  ·rw [zbq e]
   by_cases ey:y=m
   ·subst ey
    rw [h.row x (fun e9=>e ⟨e9,rfl⟩)]
    exact hok x y hy1 hy2 hy3
   ·exact h.ok x y hy1 (by omega) hy3
 ·rw [zbq (by omega)];exact h.up x y hy
theorem LI.start {l:List St} {g n c a m:Nat} {A:Option Addr} {tab:Nat→Nat→Chc} {w:World} {s:Nat} (h:FAt w g n c A tab) (hok:TabOk l tab m) (h0:tab a m=⟨0,0,0⟩):LI l g n c A tab a m w w tab ⟨s,0,0⟩ :=
 ⟨h,hok.down (by omega),fun _ _ _=>rfl,fun _ _=>rfl,h0,But.refl _ _⟩
end Go.Proofs.YtkneghkbgingdaaGreatDoor
