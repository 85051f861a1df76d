/- The steps of the search for the shortest list, in plain Lean. -/
import Derived.Test.YtbjgpbojjhldaaaGreatDoorY22
import Derived.Defers
import Derived.Recover
set_option maxHeartbeats 16000000
namespace Go.Proofs.YtbjgpbojjhldaaaGreatDoor
set_option maxRecDepth 100000
def sub (l:List St) (a n:Nat):List St:=(l.drop a).take n
theorem za4 {l:List St} {a n:Nat} (h:a+n<=l.length):(sub l a n).length=n:=by
 rw [sub,Zw,ZA];omega
theorem zg3 {l:List St} {a n j:Nat} (h:j<n):(sub l a n).getD j st0=l.getD (a+j) st0:=by
 rw [sub,Zd,List.getElem?_take,if_pos h,ZZ,<-Zd]
theorem zc6 {l:List St} {a n p:Nat} (h:p<=n):(sub l a n).take p=sub l a p:=by
 rw [sub,sub,List.take_take,Nat.min_eq_left h]
theorem zhY {l:List St} {a n k:Nat} (_:k<=n):(sub l a n).drop k=sub l (a+k) (n-k):=by
 rw [sub,sub,List.drop_take,List.drop_drop]
theorem zqp (l:List St):sub l 0 l.length=l:=by rw [sub,List.drop_zero,Zs (Zb _)]
theorem zem {l:List St} {a n:Nat} (h:a+n<=l.length) (h1:1<=n):sub l a n≠[]:=by
 intro e
 have:=za4 h
 rw [e] at this
 simp at this
 omega
theorem zpW {l:List St} {p:Nat} (h:l.length % p≠0):perB l p=false:=by
 simp [perB,h]
theorem ziL {l:List St} {p:Nat} (h:l.length % p=0) (hp:p<=l.length) (he:∀j,j+p<l.length->l.getD j st0=l.getD (j+p) st0):perB l p=true:=by
 simp only [perB,Zp,Zy]
 refine ⟨h,?_⟩
 apply List.ext_getElem?
 intro j
 rw [ZZ,List.getElem?_take]
 by_cases hj:j<l.length-p
 ·rw [if_pos hj]
  have:=he j (by omega)
  rw [Zd,Zd,Zf (by omega),Zf (show j+p<l.length by omega)] at this
  simp only [Option.getD_some] at this
  rw [Zf (show p+j<l.length by omega),Zf (show j<l.length by omega),this]
  congr 2
  omega
 ·rw [if_neg hj,List.getElem?_eq_none (by omega)]
theorem zrm {l:List St} {p j:Nat} (hj:j+p<l.length) (h:l.getD j st0≠l.getD (j+p) st0):perB l p=false:=by
 cases e:perB l p
 ·rfl
 ·exfalso
  apply h
  have:=(zkE e).2
  have h1:(l.drop p)[j]?=(l.take (l.length-p))[j]?:=by rw [this]
  rw [ZZ,List.getElem?_take,if_pos (by omega),Nat.add_comm p j] at h1
  rw [Zd,Zd,h1]
def chS (l:List St):Nat:=(ch l).size
def fin1 (l:List St) (P:Nat) (c:Chc):Chc:=((List.range l.length).drop P).foldl (perStep chS l) c
def fin2 (l:List St) (I:Nat) (c:Chc):Chc:=(List.range I).reverse.foldl (partStep chS l) c
theorem zdo {l:List St} {P:Nat} (h:P<l.length) (c:Chc):fin1 l P c=fin1 l (P+1) (perStep chS l c P):=by
 rw [fin1,ZL (by simpa using h),List.foldl_cons,List.getElem_range]
 rfl
theorem zmh {l:List St} {P:Nat} (h:l.length<=P) (c:Chc):fin1 l P c=c:=by
 rw [fin1,ZE (by simpa using h)];rfl
theorem zfd (l:List St) (I:Nat) (c:Chc):fin2 l (I+1) c=fin2 l I (partStep chS l c I):=by
 rw [fin2,List.range_succ,List.reverse_append];rfl
theorem zmi (l:List St) (c:Chc):fin2 l 1 c=c:=by
 rw [zfd]
 simp [fin2,partStep]
theorem zfu {l:List St} {c:Chc} {p:Nat} (h:p<2):perStep chS l c p=c:=by rw [perStep,if_neg (by omega)]
theorem zl3 {l:List St} (h:l≠[]) (h1:perB l 1=false):2<=l.length/\ch l=fin2 l l.length (fin1 l 2 ⟨l.length+1,0,0⟩):=by
 have hl:=zcN h
 have h2:2<=l.length:=by
  rcases ZX l.length 2 with hh | hh
  ·obtain ⟨x,rfl⟩:∃x,l=[x]:=by
    match l,hl,hh with
    | [x],_,_=>exact ⟨x,rfl⟩
   rw [zkF] at h1;cases h1
  ·exact hh
 refine ⟨h2,?_⟩
 rw [zjj h,chG,if_neg (by rw [h1];simp)]
 have e:(List.range l.length).foldl (perStep (fun x=>(ch x).size) l) ⟨l.length+1,0,0⟩=fin1 l 2 ⟨l.length+1,0,0⟩:=by
  have:(List.range l.length).foldl (perStep (fun x=>(ch x).size) l) ⟨l.length+1,0,0⟩=fin1 l 0 ⟨l.length+1,0,0⟩:=by rw [fin1,List.drop_zero];rfl
  rw [this,zdo (by omega),zfu (by omega),zdo (by omega),zfu (by omega)]
 rw [e]
 rfl
theorem zrn {l:List St} {c:Chc} {p:Nat} (h:perB l p=false):perStep chS l c p=c:=by rw [perStep,if_neg (by rw [h];simp)]
theorem zpX {l:List St} {c:Chc} {p:Nat} (h:¬1+chS (l.take p)<c.size):perStep chS l c p=c:=by rw [perStep,if_neg (fun e=>h e.2.2)]
theorem zpZ {l:List St} {c:Chc} {p:Nat} (h2:2<=p) (hb:perB l p=true) (h:1+chS (l.take p)<c.size):perStep chS l c p=⟨1+chS (l.take p),p,0⟩:=by rw [perStep,if_pos ⟨h2,hb,h⟩]
theorem zpT {l:List St} {c:Chc} {k:Nat} (h:¬chS (l.take k)+chS (l.drop k)<c.size):partStep chS l c k=c:=by rw [partStep,if_neg (fun e=>h e.2)]
theorem znh {l:List St} {c:Chc} {k:Nat} (h1:1<=k) (h:chS (l.take k)+chS (l.drop k)<c.size):partStep chS l c k=⟨chS (l.take k)+chS (l.drop k),0,k⟩:=by rw [partStep,if_pos ⟨h1,h⟩]
theorem zqL {l:List St} (h:l≠[]):1<=chS l/\chS l<=l.length:=zl2 l.length rfl h
end Go.Proofs.YtbjgpbojjhldaaaGreatDoor
/- The finder of the shortest list: periods. -/
namespace Go.Proofs.YtbjgpbojjhldaaaGreatDoor
set_option maxRecDepth 100000
open Go.RowKit Go.ChangeShapes Go.WideShapes Go.Joins
theorem zbb (g n c:Nat) (A:Option Addr) (l:List St) (a m p:Nat) (w:World) (hl:Vec shSt w A n l) (hg:w.cell? ⟨g,0,none⟩=some (.slice A n c)) (ham:a+m<=n) (hn:n<=60) (hp:1<=p) (hpm:p<=m) :
  Calls Tryz.prog 130 #[.pointer (some ⟨g,0,none⟩),.int .i64 a,.int .i64 m,.int .i64 p] w fun e w'=>e = .returned (.bool (perB (sub l a m) p))/\Ext w w':=by
 have HX:=Za hl
 have hlen:=hl.1
 have hz:=Zn w _ hg
 simp only at hz
 have ab:=za4 (l:=l) (a:=a) (n:=m) (by omega)
 have hp0:¬((p:Int)=0):=by omega
 have s1:=Zj ((a:Int)+(m:Int)) (by omega)
 clear hl
 by_cases hmod:m % p=0
 case neg =>
  have HF:=Za (zpW (l:=sub l a m) (p:=p) (by rw [ab];exact hmod))
  have ad:((m:Int) % (p:Int) != 0)=true:=by
   simp
   omega
  go_enter Tryz.func130,Tryz.ntmps130
  go_wp2_with fail
  go_ret
  exact ⟨by rw [HF.out];rfl,zx⟩
 have ad:((m:Int) % (p:Int) != 0)=false:=by
  simp
  omega
 go_enter Tryz.func130,Tryz.ntmps130
 go_wp2_with fail
 go_loopw [9] (fun i wr=>∃j:Nat,i = .int .i64 ((a:Int)+(j:Int))/\j+p<=m/\Hid (∀j',j'<j->(sub l a m).getD j' st0=(sub l a m).getD (j'+p) st0)/\Hid (Ext w wr)) (fun i _=>a+m-(intOf i).toNat)
 case atStart=>exact ⟨0,by simp,by omega,fun j hj=>absurd hj (by omega),Ze _⟩
 case round =>
  obtain ⟨j,rfl,hj,aa,ac⟩:=hrel
  have hx:=ac.out
  have g0:=(Zl (p:=⟨g,0,none⟩) hx hz).trans hg
  have gz:=Zn wr _ g0
  simp only at gz
  have s2:=Zj ((a:Int)+(j:Int)+(p:Int)) (by omega)
  have s3:=Zj ((a:Int)+(j:Int)+1) (by omega)
  by_cases hlt:j+p<m
  ·have q4:(a:Int)+(j:Int)+(p:Int)<(a:Int)+(m:Int):=by omega
   obtain ⟨b,off,rfl,hb,hc⟩:=Sts.all (HX.out.ext hx) (by omega)
   obtain ⟨h1,h2,h3,h4⟩:=hc (a+j) (by omega)
   obtain ⟨h5,h6,h7,h8⟩:=hc (a+j+p) (by omega)
   clear hc
   have q0:(0:Int)<=(a:Int)+(j:Int):=by omega
   have q1:(a:Int)+(j:Int)<(n:Int):=by omega
   have q2:(0:Int)<=(a:Int)+(j:Int)+(p:Int):=by omega
   have q3:(a:Int)+(j:Int)+(p:Int)<(n:Int):=by omega
   have n1:((a:Int)+(j:Int)).toNat=a+j:=by omega
   have n2:((a:Int)+(j:Int)+(p:Int)).toNat=a+j+p:=by omega
   have e1:=zg3 (l:=l) (a:=a) (n:=m) (j:=j) (by omega)
   have e2:=zg3 (l:=l) (a:=a) (n:=m) (j:=j+p) (by omega)
   rw [<-Nat.add_assoc] at e2
   by_cases hxy:l.getD (a+j) st0=l.getD (a+j+p) st0
   ·have HA:=Za (show ∀j',j'<j+1->(sub l a m).getD j' st0=(sub l a m).getD (j'+p) st0 from fun j' hj'=>by
     by_cases e:j'=j
     ·subst e;rw [e1,e2];exact hxy
     ·exact aa.out j' (by omega))
    rw [<-hxy] at h5 h6 h7 h8
    clear aa hxy e1 e2
    generalize l.getD (a+j) st0=x at *
    obtain ⟨x1,x2,x3,x4⟩:=x
    simp only at h1 h2 h3 h4 h5 h6 h7 h8
    go_wp2_with fail
    go_quiet (fail)
    go_wp2
    go_roundw
    case rel=>exact ⟨j+1,by go_num,by omega,HA,zx⟩
    case measure=>simp [intOf];omega
   ·have HF:=Za (zrm (l:=sub l a m) (p:=p) (j:=j) (by rw [ab];exact hlt) (by rw [e1,e2];exact hxy))
    clear e1 e2 aa
    generalize l.getD (a+j) st0=x at *
    generalize l.getD (a+j+p) st0=y at *
    obtain ⟨x1,x2,x3,x4⟩:=x
    obtain ⟨y1,y2,y3,y4⟩:=y
    simp only at h1 h2 h3 h4 h5 h6 h7 h8
    have hne:=zfF hxy
    clear hxy
    go_wp2_with fail
    go_quiet (fail)
    go_wp2
    go_ret
    exact ⟨by rw [HF.out];rfl,zx⟩
  ·have q4:¬((a:Int)+(j:Int)+(p:Int)<(a:Int)+(m:Int)):=by omega
   have HF:=Za (ziL (l:=sub l a m) (p:=p) (by rw [ab];exact hmod) (by rw [ab];exact hpm) (fun j' hj'=>aa.out j' (by rw [ab] at hj';omega)))
   go_wp2_with fail
   go_ret
   exact ⟨by rw [HF.out];rfl,zx⟩
end Go.Proofs.YtbjgpbojjhldaaaGreatDoor
/- The finder of the shortest list: its table. -/
namespace Go.Proofs.YtbjgpbojjhldaaaGreatDoor
set_option maxRecDepth 100000
open Go.RowKit Go.ChangeShapes Go.WideShapes Go.Joins
def fld (c:Chc):Nat->Nat
 | 0=>c.size
 | 1=>c.period
 | _=>c.part
def setf (c:Chc) (i v:Nat):Chc:=match i with
 | 0=>⟨v,c.period,c.part⟩
 | 1=>⟨c.size,v,c.part⟩
 | _=>⟨c.size,c.period,v⟩
def upd (tab:Nat->Nat->Chc) (a m:Nat) (c:Chc):Nat->Nat->Chc:=fun x y=>if x=a/\y=m then c else tab x y
theorem zc8 (tab:Nat->Nat->Chc) (a m:Nat) (c:Chc):upd tab a m c a m=c:=by simp [upd]
theorem zbn {tab:Nat->Nat->Chc} {a m x y:Nat} {c:Chc} (h:¬(x=a/\y=m)):upd tab a m c x y=tab x y:=by simp [upd,h]
structure FAt (w:World) (g n c:Nat) (A:Option Addr) (tab:Nat->Nat->Chc):Prop where
 hd:w.cell? ⟨g,0,none⟩=some (.slice A n c)
 fz:∀o,w.frozen? ⟨g,o,none⟩=false
 tb:∀a m i,a<60->m<=60->i<3->w.cell? ⟨g,1+a*183+m*3+i,none⟩=some (.int .i64 (fld (tab a m) i:Nat))
theorem FAt.lt {w:World} {g n c:Nat} {A:Option Addr} {tab:Nat->Nat->Chc} (h:FAt w g n c A tab):g<w.heap.size:=Zn w _ h.hd
theorem FAt.ext {w w':World} {g n c:Nat} {A:Option Addr} {tab:Nat->Nat->Chc} (h:FAt w g n c A tab) (hb:Ext w w'):FAt w' g n c A tab:=by
 have hl:=h.lt
 obtain ⟨hc,hf, -⟩:=hb.facts
 exact ⟨(hc _ _ hl).trans h.hd,fun o=>(hf _ _ hl).trans (h.fz o),fun a m i ha hm hi=>(hc _ _ hl).trans (h.tb a m i ha hm hi)⟩
theorem FAt.set {w:World} {g n c:Nat} {A:Option Addr} {tab:Nat->Nat->Chc} (h:FAt w g n c A tab) {a m i:Nat} (ha:a<60) (hm:m<=60) (hi:i<3) (v:Nat) :
  FAt (w.setCell ⟨g,1+a*183+m*3+i,none⟩ (.int .i64 (v:Int))) g n c A (upd tab a m (setf (tab a m) i v)):=by
 refine ⟨?_,fun o=>(Zo _ _ _ _).trans (h.fz o),fun x y j hx hy hj=>?_⟩
 ·rw [Zg _ _ _ _ (by intro e;simp only [Addr.mk.injEq] at e;omega)]
  exact h.hd
 ·by_cases e:x=a/\y=m
  ·obtain ⟨rfl,rfl⟩:=e
   rw [zc8]
   by_cases ej:j=i
   ·subst ej
    rw [Zq _ _ _ (h.tb x y j hx hy hj)]
    match j,hj with
    | 0,_=>rfl
    | 1,_=>rfl
    | 2,_=>rfl
   ·rw [Zg _ _ _ _ (by intro e9;simp only [Addr.mk.injEq] at e9;omega),h.tb x y j hx hy hj]
    match i,j,hi,hj with
    | 0,1,_,_=>rfl
    | 0,2,_,_=>rfl
    | 1,0,_,_=>rfl
    | 1,2,_,_=>rfl
    | 2,0,_,_=>rfl
    | 2,1,_,_=>rfl
    | 0,0,_,_=>exact absurd rfl ej
    | 1,1,_,_=>exact absurd rfl ej
    | 2,2,_,_=>exact absurd rfl ej
  ·rw [zbn e,Zg _ _ _ _ (by intro e9;simp only [Addr.mk.injEq] at e9;omega)]
   exact h.tb x y j hx hy hj
def TabOk (l:List St) (tab:Nat->Nat->Chc) (N:Nat):Prop:=∀a m,1<=m->m<=N->a+m<=l.length->tab a m=⟨0,0,0⟩∨tab a m=ch (sub l a m)
theorem TabOk.down {l:List St} {tab:Nat->Nat->Chc} {N M:Nat} (h:TabOk l tab N) (hm:M<=N):TabOk l tab M:=fun a m h1 h2 h3=>h a m h1 (by omega) h3
structure Least (l:List St) (g n c:Nat) (A:Option Addr) (tab:Nat->Nat->Chc) (a m:Nat) (w w':World) (tab':Nat->Nat->Chc):Prop where
 at_:FAt w' g n c A tab'
 ok:TabOk l tab' m
 up:∀x y,m<y->tab' x y=tab x y
 it:tab' a m=ch (sub l a m)
 but:But (some g) w w'
theorem zew {l:List St} {a m:Nat} (h:a+m<=l.length) (h1:1<=m):1<=(ch (sub l a m)).size/\(ch (sub l a m)).size<=m:=by
 have h2:=zqL (zem h h1)
 rw [za4 h] at h2
 exact h2
end Go.Proofs.YtbjgpbojjhldaaaGreatDoor
/- The finder of the shortest list: least. -/
namespace Go.Proofs.YtbjgpbojjhldaaaGreatDoor
set_option maxRecDepth 100000
open Go.RowKit Go.ChangeShapes Go.WideShapes Go.Joins
theorem Vec.far {α:Type} {S:Shp α} {w w':World} {A:Option Addr} {n g:Nat} {l:List α} (h:Vec S w A n l) (hb:But (some g) w w') (hne:∀b off,A=some ⟨b,off,none⟩->b≠g):Vec S w' A n l :=
 ⟨h.1,fun hn=>by
  obtain ⟨b,off,e,hlt,hx⟩:=h.2 hn
  exact ⟨b,off,e,Zi hlt hb.size,fun k x hxk i u hu=>(But.cell (p:=⟨b,_,none⟩) hb hlt (by intro e9;cases e9;exact hne b off e rfl)).trans (hx k x hxk i u hu)⟩⟩
theorem zqM {l:List St} (h:l≠[]) (h1:perB l 1=true):ch l=⟨1,0,0⟩:=by rw [zjj h,chG,if_pos h1]
structure LI (l:List St) (g n c:Nat) (A:Option Addr) (tab:Nat->Nat->Chc) (a m:Nat) (w wr:World) (tb:Nat->Nat->Chc) (cc:Chc):Prop where
 at_:FAt wr g n c A tb
 ok:TabOk l tb (m-1)
 up:∀x y,m<y->tb x y=tab x y
 row:∀x,x≠a->tb x m=tab x m
 it:tb a m=⟨0,cc.period,cc.part⟩
 but:But (some g) w wr
theorem LI.ext {l:List St} {g n c a m:Nat} {A:Option Addr} {tab tb:Nat->Nat->Chc} {w wr wx:World} {cc:Chc} (h:LI l g n c A tab a m w wr tb cc) (hb:Ext wr wx):LI l g n c A tab a m w wx tb cc :=
 { h with at_:=h.at_.ext hb,but:=h.but.trans (But.of_ext hb _) }
theorem LI.call {l:List St} {g n c a m x p:Nat} {A:Option Addr} {tab tb tb2:Nat->Nat->Chc} {w wr wx:World} {cc:Chc} (h:LI l g n c A tab a m w wr tb cc) (hp:p<m) (k:Least l g n c A tb x p wr wx tb2):LI l g n c A tab a m w wx tb2 cc:=by
 refine ⟨k.at_,fun x' y h1 h2 h3=>?_,fun x' y hy=>(k.up x' y (by omega)).trans (h.up x' y hy),fun x' hx=>(k.up x' m hp).trans (h.row x' hx),(k.up a m hp).trans h.it,h.but.trans k.but⟩
 by_cases hy:y<=p
 ·exact k.ok x' y h1 hy h3
 ·rw [k.up x' y (by omega)]
  exact h.ok x' y h1 h2 h3
theorem LI.set {l:List St} {g n c a m:Nat} {A:Option Addr} {tab tb:Nat->Nat->Chc} {w wr:World} {cc cc2:Chc} (h:LI l g n c A tab a m w wr tb cc) (ha:a<60) (hm:m<=60) {i:Nat} (hi:i<3) (v:Nat) (hc:setf ⟨0,cc.period,cc.part⟩ i v=⟨0,cc2.period,cc2.part⟩) :
  LI l g n c A tab a m w (wr.setCell ⟨g,1+a*183+m*3+i,none⟩ (.int .i64 (v:Int))) (upd tb a m ⟨0,cc2.period,cc2.part⟩) cc2:=by
 have h1:=h.at_.set ha hm hi v
 rw [h.it,hc] at h1
 refine ⟨h1,fun x y hy1 hy2 hy3=>?_,fun x y hy=>?_,fun x hx=>?_,zc8 _ _ _ _,h.but.own rfl _⟩
 ·rw [zbn (by omega)];exact h.ok x y hy1 hy2 hy3
 ·rw [zbn (by omega)];exact h.up x y hy
 ·rw [zbn (fun e=>hx e.1)];exact h.row x hx
theorem LI.done {l:List St} {g n c a m:Nat} {A:Option Addr} {tab tb:Nat->Nat->Chc} {w wr:World} {cc:Chc} (h:LI l g n c A tab a m w wr tb cc) (ha:a<60) (hm:m<=60) (hm1:1<=m) (hok:TabOk l tab m) (hc:ch (sub l a m)=cc) :
  Least l g n c A tab a m w (wr.setCell ⟨g,1+a*183+m*3,none⟩ (.int .i64 (cc.size:Int))) (upd tb a m cc):=by
 have h1:=h.at_.set ha hm (i:=0) (by omega) cc.size
 rw [h.it] at h1
 refine ⟨h1,fun x y hy1 hy2 hy3=>?_,fun x y hy=>?_,(zc8 _ _ _ _).trans hc.symm,h.but.own rfl _⟩
 ·by_cases e:x=a/\y=m
  ·obtain ⟨rfl,rfl⟩:=e
   rw [zc8]
   exact .inr hc.symm
  ·rw [zbn e]
   by_cases ey:y=m
   ·subst ey
    rw [h.row x (fun e9=>e ⟨e9,rfl⟩)]
    exact hok x y hy1 hy2 hy3
   ·exact h.ok x y hy1 (by omega) hy3
 ·rw [zbn (by omega)];exact h.up x y hy
theorem LI.start {l:List St} {g n c a m:Nat} {A:Option Addr} {tab:Nat->Nat->Chc} {w:World} {s:Nat} (h:FAt w g n c A tab) (hok:TabOk l tab m) (h0:tab a m=⟨0,0,0⟩):LI l g n c A tab a m w w tab ⟨s,0,0⟩ :=
 ⟨h,hok.down (by omega),fun _ _ _=>rfl,fun _ _=>rfl,h0,But.refl _ _⟩
end Go.Proofs.YtbjgpbojjhldaaaGreatDoor
/- The finder of the shortest list: least. -/
namespace Go.Proofs.YtbjgpbojjhldaaaGreatDoor
set_option maxRecDepth 100000
open Go.RowKit Go.ChangeShapes Go.WideShapes Go.Joins
theorem FAt.r0 {w:World} {g n c a m:Nat} {A:Option Addr} {tab:Nat->Nat->Chc} (h:FAt w g n c A tab) (ha:a<60) (hm:m<=60):w.cell? ⟨g,1+a*183+m*3,none⟩=some (.int .i64 ((tab a m).size:Nat)):=h.tb a m 0 ha hm (by omega)
theorem zeg (g n c:Nat) (A:Option Addr) (l:List St) (a m:Nat) (w:World) (hl:Vec shSt w A n l) (hg:w.cell? ⟨g,0,none⟩=some (.slice A n c)) (ham:a+m<=n) (hn:n<=60) (hpm:1<=m) :
  Calls Tryz.prog 130 #[.pointer (some ⟨g,0,none⟩),.int .i64 a,.int .i64 m,.int .i64 1] w fun e w'=>e = .returned (.bool (perB (sub l a m) 1))/\Ext w w':=zbb g n c A l a m 1 w hl hg ham hn (Zb 1) hpm
theorem zkh (g n c:Nat) (A:Option Addr) (l:List St) (hn:n<=60) (hln:l.length=n) (hne:∀b off,A=some ⟨b,off,none⟩->b≠g):∀(M a m:Nat) (tab:Nat->Nat->Chc) (w:World),m<=M->1<=m->a+m<=n->Vec shSt w A n l->FAt w g n c A tab->TabOk l tab m->∀(ai mi:Int),ai=(a:Int)->mi=(m:Int) ->
  Calls Tryz.prog 89 #[.pointer (some ⟨g,0,none⟩),.int .i64 ai,.int .i64 mi] w fun e w'=>∃tab',e = .returned (.int .i64 (chS (sub l a m):Nat))/\Least l g n c A tab a m w w' tab':=by
 intro M
 induction M with
 | zero=>intro a m tab w h0 h1;omega
 | succ M ih =>
  intro a m tab w hM h1 ham hv ht hok ai mi aS aV
  subst aS
  subst aV
  have IH:=Za ih
  have HV:=Za hv
  have HT:=Za ht
  have am:=Za hok
  have ha:a<60:=by omega
  have hm:m<=60:=by omega
  have q0:(0:Int)<=(a:Int):=by omega
  have q1:(a:Int)<60:=by omega
  have q2:(0:Int)<=(m:Int):=by omega
  have q3:(m:Int)<61:=by omega
  have aU:=ht.lt
  have ay:=ht.r0 ha hm
  have hpos:=zew (l:=l) (a:=a) (m:=m) (by omega) h1
  have aM:=zem (l:=l) (a:=a) (n:=m) (by omega) h1
  clear ih hv
  rcases hok a m h1 (Zb _) (by omega) with h0 | h0
  case inr =>
   have aO:=Za h0
   rw [h0] at ay
   have hS:chS (sub l a m)=(ch (sub l a m)).size:=rfl
   rw [hS]
   generalize hs:(ch (sub l a m)).size=sz at *
   have q4:(0:Int)<(sz:Int):=by omega
   clear hok ht hs hS h0
   go_enter Tryz.func89,Tryz.ntmps89
   go_wp2_with fail
   go_ret
   exact ⟨tab,rfl,HT.out,am.out,fun _ _ _=>rfl,aO.out,But.refl _ _⟩
  rw [h0] at ay
  have ax:=ht.fz
  have f0:=ax (1+a*183+m*3)
  have H0:=Za h0
  cases hp1:perB (sub l a m) 1
  case true =>
   have az:=Za (zqM aM hp1)
   have au:=Za hp1
   clear hok ht h0 ax hp1
   go_enter Tryz.func89,Tryz.ntmps89
   go_wp2_with (first
    | (go_at_call 130;((with_reducible refine (zeg g n c A l a m _ HV.out HT.out.hd (by omega) hn (by omega)).mono ?_);rintro e w1 ⟨rfl,hq⟩;rw [au.out];have HL:=Za ((LI.start (s:=1) HT.out am.out H0.out).ext hq);have r1:=HL.out.at_.r0 ha hm;rw [H0.out] at r1;have f1:=HL.out.at_.fz (1+a*183+m*3);have z1:=HL.out.at_.lt;clear hq)))
   go_ret
   exact ⟨_,by rw [show chS (sub l a m)=(ch (sub l a m)).size from rfl,az.out];rfl,HL.out.done ha hm h1 am.out az.out⟩
  obtain ⟨aJ,av⟩:=zl3 aM hp1
  rw [za4 (by omega)] at aJ av
  have aN:=Za av
  have au:=Za hp1
  have s1:=Zj ((m:Int)+1) (by omega)
  have s2:=Zj ((m:Int)-1) (by omega)
  have aL:=za4 (l:=l) (a:=a) (n:=m) (by omega)
  have aG:=Za aL
  clear hok ht h0 ax hp1 av aL
  go_enter Tryz.func89,Tryz.ntmps89
  go_wp2_with (first
   | (go_at_call 130;((with_reducible refine (zeg g n c A l a m _ HV.out HT.out.hd (by omega) hn (by omega)).mono ?_);rintro e w1 ⟨rfl,hq⟩;rw [au.out];have aD:=Za ((LI.start (s:=m+1) HT.out am.out H0.out).ext hq);clear hq)))
  go_loopw [8,9] (fun u i wr=>∃(P:Nat) (cc:Chc) (tb:Nat->Nat->Chc),u = .int .i64 (cc.size:Nat)/\i = .int .i64 (P:Nat)/\2<=P/\P<=m/\cc.size<=m+1/\cc.part=0/\Hid (LI l g n c A tab a m w wr tb cc)/\Hid (ch (sub l a m)=fin2 (sub l a m) m (fin1 (sub l a m) P cc))) (fun _ i _=>m-(intOf i).toNat)
  case atStart=>exact ⟨2,⟨m+1,0,0⟩,tab,by simp,rfl,by omega,aJ,by simp,rfl,aD,aN⟩
  case round =>
   clear aD ay f0 aU
   obtain ⟨P,cc,tb,rfl,rfl,aR,hPm,ar,aq,HL,HF⟩:=hrel
   have z1:=HL.out.at_.lt
   have p0:=Zj ((P:Int)+1) (by omega)
   have ag:=Za (HV.out.far HL.out.but hne)
   by_cases hlt:P<m
   ·have p1:(P:Int)<(m:Int):=by omega
    have ah:=zdo (l:=sub l a m) (P:=P) (by rw [aG.out];exact hlt) cc
    cases hper:perB (sub l a m) P
    case false =>
     have ap:=Za hper
     have af:=Za (by have h9:=HF.out;rw [ah,zrn hper] at h9;exact h9)
     clear hper ah HF
     go_wp2_with (first
      | (go_at_call 130;((with_reducible refine (zbb g n c A l a m P _ ag.out HL.out.at_.hd (by omega) hn (by omega) (by omega)).mono ?_);rintro e w2 ⟨rfl,hq⟩;rw [ap.out];have ak:=Za (HL.out.ext hq);clear hq)))
     go_roundw
     case rel=>exact ⟨P+1,cc,tb,rfl,by go_num,by omega,by omega,ar,aq,ak,af⟩
     case measure=>simp [intOf] <;> omega
    case true =>
     have ap:=Za hper
     have aW:=zew (l:=l) (a:=a) (m:=P) (by omega) (by omega)
     have aj:=zc6 (l:=l) (a:=a) (n:=m) (p:=P) (by omega)
     obtain ⟨sz,al⟩:∃sz,chS (sub l a P)=sz:=⟨_,rfl⟩
     have aa:(ch (sub l a P)).size=sz:=al
     rw [aa] at aW
     have p2:=Zj (1+(sz:Int)) (by omega)
     have aH:=Za al
     by_cases hb:1+sz<cc.size
     ·have af:=Za (by have h9:=HF.out;rw [ah,zpZ aR hper (by rw [aj,al];exact hb),aj,al] at h9;exact h9)
      have p3:1+(sz:Int)<(cc.size:Int):=by omega
      clear hper ah HF al aa aj
      go_wp2_with (first
       | (go_at_call 130;((with_reducible refine (zbb g n c A l a m P _ ag.out HL.out.at_.hd (by omega) hn (by omega) (by omega)).mono ?_);rintro e w2 ⟨rfl,hq⟩;rw [ap.out];have ak:=Za (HL.out.ext hq);have ad:=Za (Vec.ext ag.out hq);clear hq))
       | (go_at_call 89;((with_reducible refine (IH.out a P _ _ (by omega) (by omega) (by omega) ad.out ak.out.at_ (ak.out.ok.down (by omega)) _ _ rfl rfl).mono ?_);rintro e w3 ⟨tb2,rfl,hq⟩;rw [aH.out];have ab:=Za (ak.out.call hlt hq);clear hq;have c1:=ab.out.at_.tb a m 1 ha hm (by omega);have f1:=ab.out.at_.fz (1+a*183+m*3+1);have z3:=ab.out.at_.lt)))
      have ac:=Za (ab.out.set (cc2:=⟨1+sz,P,0⟩) ha hm (i:=1) (by omega) P (by rw [aq];rfl))
      go_roundw
      case rel=>exact ⟨P+1,⟨1+sz,P,0⟩,_,by go_num,by go_num,by omega,by omega,by show 1+sz<=m+1;omega,rfl,ac,af⟩
      case measure=>simp [intOf] <;> omega
     ·have af:=Za (by have h9:=HF.out;rw [ah,zpX (by rw [aj,al];exact hb)] at h9;exact h9)
      have p3:¬(1+(sz:Int)<(cc.size:Int)):=by omega
      clear hper ah HF al aa aj
      go_wp2_with (first
       | (go_at_call 130;((with_reducible refine (zbb g n c A l a m P _ ag.out HL.out.at_.hd (by omega) hn (by omega) (by omega)).mono ?_);rintro e w2 ⟨rfl,hq⟩;rw [ap.out];have ak:=Za (HL.out.ext hq);have ad:=Za (Vec.ext ag.out hq);clear hq))
       | (go_at_call 89;((with_reducible refine (IH.out a P _ _ (by omega) (by omega) (by omega) ad.out ak.out.at_ (ak.out.ok.down (by omega)) _ _ rfl rfl).mono ?_);rintro e w3 ⟨tb2,rfl,hq⟩;rw [aH.out];have ab:=Za (ak.out.call hlt hq);clear hq;have c1:=ab.out.at_.tb a m 1 ha hm (by omega);have f1:=ab.out.at_.fz (1+a*183+m*3+1);have z3:=ab.out.at_.lt)))
      go_roundw
      case rel=>exact ⟨P+1,cc,_,rfl,by go_num,by omega,by omega,ar,aq,ab,af⟩
      case measure=>simp [intOf] <;> omega
   ·have af:=Za (by have h9:=HF.out;rw [zmh (by rw [aG.out];omega)] at h9;exact h9)
    clear HF
    go_wp2_with fail
    go_loopw [8,11] (fun u i wr=>∃(I:Nat) (cc:Chc) (tb:Nat->Nat->Chc),u = .int .i64 (cc.size:Nat)/\i = .int .i64 (I:Nat)/\I+1<=m/\cc.size<=m+1/\Hid (LI l g n c A tab a m w wr tb cc)/\Hid (ch (sub l a m)=fin2 (sub l a m) (I+1) cc)) (fun _ i _=>(intOf i).toNat)
    case atStart=>exact ⟨m-1,cc,tb,rfl,by congr 1;omega,by omega,ar,HL,Za (by have h9:=af.out;rw [show m-1+1=m by omega];exact h9)⟩
    case round =>
     clear HL af z1 p0 ag ar aq
     obtain ⟨I,c2,tb3,rfl,rfl,hI,aw,HL,HF⟩:=hrel
     have z1:=HL.out.at_.lt
     have ag:=Za (HV.out.far HL.out.but hne)
     by_cases hI0:0<I
     ·have p1:(0:Int)<(I:Int):=by omega
      have p0:=Zj ((I:Int)-1) (by omega)
      have p4:=Zj ((a:Int)+(I:Int)) (by omega)
      have p5:=Zj ((m:Int)-(I:Int)) (by omega)
      have e3:(a:Int)+(I:Int)=((a+I:Nat):Int):=by omega
      have e4:(m:Int)-(I:Int)=((m-I:Nat):Int):=by omega
      have aI:I<m:=by omega
      have aK:m-I<m:=by omega
      have ah:=zfd (sub l a m) I c2
      have aj:=zc6 (l:=l) (a:=a) (n:=m) (p:=I) (by omega)
      have ao:=zhY (l:=l) (a:=a) (n:=m) (k:=I) (by omega)
      have hb1:=zew (l:=l) (a:=a) (m:=I) (by omega) (by omega)
      have aT:=zew (l:=l) (a:=a+I) (m:=m-I) (by omega) (by omega)
      obtain ⟨sz1,ae⟩:∃sz,chS (sub l a I)=sz:=⟨_,rfl⟩
      obtain ⟨sz2,aa⟩:∃sz,chS (sub l (a+I) (m-I))=sz:=⟨_,rfl⟩
      have k1:(ch (sub l a I)).size=sz1:=ae
      have k2:(ch (sub l (a+I) (m-I))).size=sz2:=aa
      rw [k1] at hb1
      rw [k2] at aT
      have p2:=Zj ((sz1:Int)+(sz2:Int)) (by omega)
      have aE:=Za ae
      have aF:=Za aa
      have aB:=Za e3
      have aC:=Za e4
      clear k1 k2 e3 e4
      by_cases hb:sz1+sz2<c2.size
      ·have af:=Za (by have h9:=HF.out;rw [ah,znh hI0 (by rw [aj,ao,ae,aa];exact hb),aj,ao,ae,aa] at h9;exact h9)
       have p3:(sz1:Int)+(sz2:Int)<(c2.size:Int):=by omega
       clear ah HF ae aa aj ao
       go_wp2_with (first
        | (go_at_call 89;(first | ((with_reducible refine (IH.out (a+I) (m-I) _ _ (by omega) (by omega) (by omega) ad.out ab.out.at_ (ab.out.ok.down (by omega)) _ _ aB.out aC.out).mono ?_);rintro e w4 ⟨tb5,rfl,hq⟩;rw [aF.out];have ac:=Za (ab.out.call aK hq);clear hq;have c1:=ac.out.at_.tb a m 1 ha hm (by omega);have c2':=ac.out.at_.tb a m 2 ha hm (by omega);have f1:=ac.out.at_.fz (1+a*183+m*3+1);have f2:=ac.out.at_.fz (1+a*183+m*3+2);have z3:=ac.out.at_.lt) | (((with_reducible refine (IH.out a I _ _ (by omega) (by omega) (by omega) ag.out HL.out.at_ (HL.out.ok.down (by omega)) _ _ rfl rfl).mono ?_);rintro e w3 ⟨tb4,rfl,hq⟩;rw [aE.out];have ab:=Za (HL.out.call aI hq);have ad:=Za (ag.out.far hq.but hne);clear hq)))))
       have aP:=Za (show LI l g n c A tab a m w (w4.setCell ⟨g,1+a*183+m*3+1,none⟩ (.int .i64 0)) _ _ from ac.out.set (cc2:=⟨sz1+sz2,0,c2.part⟩) ha hm (i:=1) (by omega) 0 rfl)
       have aQ:=Za (aP.out.set (cc2:=⟨sz1+sz2,0,I⟩) ha hm (i:=2) (by omega) I rfl)
       go_roundw
       case rel=>exact ⟨I-1,⟨sz1+sz2,0,I⟩,_,by go_num,by congr 1;omega,by omega,by show sz1+sz2<=m+1;omega,aQ,Za (by have h9:=af.out;rw [show I-1+1=I by omega];exact h9)⟩
       case measure=>simp [intOf] <;> omega
      ·have af:=Za (by have h9:=HF.out;rw [ah,zpT (by rw [aj,ao,ae,aa];exact hb)] at h9;exact h9)
       have p3:¬((sz1:Int)+(sz2:Int)<(c2.size:Int)):=by omega
       clear ah HF ae aa aj ao
       go_wp2_with (first
        | (go_at_call 89;(first | ((with_reducible refine (IH.out (a+I) (m-I) _ _ (by omega) (by omega) (by omega) ad.out ab.out.at_ (ab.out.ok.down (by omega)) _ _ aB.out aC.out).mono ?_);rintro e w4 ⟨tb5,rfl,hq⟩;rw [aF.out];have ac:=Za (ab.out.call aK hq);clear hq;have c1:=ac.out.at_.tb a m 1 ha hm (by omega);have c2':=ac.out.at_.tb a m 2 ha hm (by omega);have f1:=ac.out.at_.fz (1+a*183+m*3+1);have f2:=ac.out.at_.fz (1+a*183+m*3+2);have z3:=ac.out.at_.lt) | (((with_reducible refine (IH.out a I _ _ (by omega) (by omega) (by omega) ag.out HL.out.at_ (HL.out.ok.down (by omega)) _ _ rfl rfl).mono ?_);rintro e w3 ⟨tb4,rfl,hq⟩;rw [aE.out];have ab:=Za (HL.out.call aI hq);have ad:=Za (ag.out.far hq.but hne);clear hq)))))
       go_roundw
       case rel=>exact ⟨I-1,c2,_,rfl,by congr 1;omega,by omega,aw,ac,Za (by have h9:=af.out;rw [show I-1+1=I by omega];exact h9)⟩
       case measure=>simp [intOf] <;> omega
     ·obtain rfl:I=0:=by omega
      have aA:=Za (by have h9:=HF.out;rw [Nat.zero_add,zmi] at h9;exact h9)
      have r1:=HL.out.at_.r0 ha hm
      rw [HL.out.it] at r1
      have f1:=HL.out.at_.fz (1+a*183+m*3)
      clear HF
      go_wp2_with fail
      go_ret
      have hS:chS (sub l a m)=c2.size:=congrArg Chc.size aA.out
      exact ⟨by rw [hS];rfl,_,HL.out.done ha hm h1 am.out aA.out⟩
end Go.Proofs.YtbjgpbojjhldaaaGreatDoor
/- The finder of the shortest list: small facts for list. -/
namespace Go.Proofs.YtbjgpbojjhldaaaGreatDoor
set_option maxRecDepth 100000
open Go.RowKit Go.ChangeShapes Go.WideShapes Go.Joins
theorem But.base {g:Nat} {w w':World} (h:But (some g) w w'):∃wk:World,wk.heap.size=w.heap.size/\Ext wk w':=by
 by_cases hg:g<w.heap.size
 ·have aa:g<w'.heap.size:=Zi hg h.size
  refine ⟨{ w with heap:=w.heap.modify g (fun _=>w'.heap[g]) },by simp,⟨h.os,h.tape,h.output,by simpa using h.size,fun k hk=>?_⟩⟩
  have ab:k<w.heap.size:=by simpa using hk
  show w'.heap[k]?=(w.heap.modify g (fun _=>w'.heap[g]))[k]?
  rw [Array.getElem?_modify]
  by_cases e:g=k
  ·subst e
   simp [hg,aa]
  ·rw [if_neg e]
   exact h.block k ab (by intro e9;cases e9;exact e rfl)
 ·exact ⟨w,rfl,⟨h.os,h.tape,h.output,h.size,fun k hk=>h.block k hk (by intro e9;cases e9;omega)⟩⟩
theorem Least.all {l:List St} {g n c a m:Nat} {A:Option Addr} {tab tab':Nat->Nat->Chc} {w w':World} (h:Least l g n c A tab a m w w' tab') (hok:∀N,TabOk l tab N):∀N,TabOk l tab' N:=by
 intro N x y h1 h2 h3
 by_cases hy:y<=m
 ·exact h.ok x y h1 hy h3
 ·rw [h.up x y (by omega)]
  exact hok N x y h1 h2 h3
theorem TabOk.empty (l:List St) (N:Nat):TabOk l (fun _ _=>⟨0,0,0⟩) N:=fun _ _ _ _ _ => .inl rfl
end Go.Proofs.YtbjgpbojjhldaaaGreatDoor
/- The finder's zero value: its cells. -/
namespace Go.Proofs.YtbjgpbojjhldaaaGreatDoor
set_option maxRecDepth 100000
open Go.RowKit Go.ChangeShapes Go.WideShapes Go.Joins
def isZ:Value->Bool
 | .int .i64 v=>v==0
 | _=>false
def finderOk:Option Value->Bool
 | some (.agg cs)=>cs.size==10981 && (cs.toList.drop 1).all isZ
 | _=>false
theorem zjD:finderOk ((Tryz.prog.info? 103).bind (·.zero))=true:=by decide +kernel
theorem zsb {v:Value} (h:isZ v=true):v = .int .i64 0:=by
 unfold isZ at h
 split at h
 ·rename_i x
  have:x=0:=by simpa using h
  rw [this]
 ·cases h
theorem zg9 (w:World):∃Z:Array Value,Sem.run Tryz.prog (zeroValue 103) w = .ok (.agg Z) w/\Z.size=10981/\∀i,1<=i->i<10981->Z[i]?=some (.int .i64 0):=by
 have h:=zjD
 cases hi:Tryz.prog.info? 103 with
 | none=>rw [hi] at h;cases h
 | some i0 =>
  rw [hi] at h
  cases hz:i0.zero with
  | none=>rw [ZV,hz] at h;cases h
  | some z =>
   rw [ZV,hz] at h
   cases z with
   | agg cs =>
    simp only [finderOk,Zp,beq_iff_eq,Zu] at h
    refine ⟨cs,?_,h.1,fun i h1 h2=>?_⟩
    ·simp [zeroValue,typeInfo,hi,hz,go_sem]
    ·have hlt:i<cs.size:=by omega
     rw [Array.getElem?_eq_getElem hlt]
     have hm:cs[i]∈cs.toList.drop 1:=by
      rw [List.mem_iff_getElem]
      refine ⟨i-1,by simp;omega,?_⟩
      rw [List.getElem_drop]
      simp only [Array.getElem_toList]
      congr 1
      omega
     rw [zsb (h.2 _ hm)]
   | _=>cases h
end Go.Proofs.YtbjgpbojjhldaaaGreatDoor
/- A finder just made: its table is empty. -/
namespace Go.Proofs.YtbjgpbojjhldaaaGreatDoor
set_option maxRecDepth 100000
open Go.RowKit Go.ChangeShapes Go.WideShapes Go.Joins
theorem FAt.new_ (w:World) {Z:Array Value} {t:TypeId} (A:Option Addr) (n c:Nat) (hs:Z.size=10981) (hz:∀i,1<=i->i<10981->Z[i]?=some (.int .i64 0)) :
  FAt (w.alloc (.cells (Z.setIfInBounds 0 (.slice A n c)) t)) w.heap.size n c A (fun _ _=>⟨0,0,0⟩):=by
 have h:(w.alloc (.cells (Z.setIfInBounds 0 (.slice A n c)) t)).heap[w.heap.size]?=some (.cells (Z.setIfInBounds 0 (.slice A n c)) t):=heap_alloc_new w _
 refine ⟨?_,fun o=>?_,fun a m i ha hm hi=>?_⟩
 ·rw [cell_of_row _ w.heap.size 0 _ t (0,0) h]
  simp [hs]
 ·simp [go_sem]
 ·rw [cell_of_row _ w.heap.size _ _ t (0,0) h,Array.getElem?_setIfInBounds,if_neg (by omega),hz _ (by omega) (by omega)]
  match i,hi with
  | 0,_=>rfl
  | 1,_=>rfl
  | 2,_=>rfl
end Go.Proofs.YtbjgpbojjhldaaaGreatDoor
/- The finder of the shortest list: list. -/
namespace Go.Proofs.YtbjgpbojjhldaaaGreatDoor
set_option maxRecDepth 100000
open Go.RowKit Go.ChangeShapes Go.WideShapes Go.Joins
theorem But.base2 {g:Nat} {w w':World} (h:But (some g) w w'):∃wk:World,wk.heap.size=w.heap.size/\Ext wk w'/\But (some g) w wk:=by
 by_cases hg:g<w.heap.size
 ·have aa:g<w'.heap.size:=Zi hg h.size
  refine ⟨{ w with heap:=w.heap.modify g (fun _=>w'.heap[g]) },by simp,⟨h.os,h.tape,h.output,by simpa using h.size,fun k hk=>?_⟩,⟨rfl,rfl,rfl,by simp,fun k _ hne=>?_⟩⟩
  ·have ab:k<w.heap.size:=by simpa using hk
   show w'.heap[k]?=(w.heap.modify g (fun _=>w'.heap[g]))[k]?
   rw [Array.getElem?_modify]
   by_cases e:g=k
   ·subst e
    simp [hg,aa]
   ·rw [if_neg e]
    exact h.block k ab (by intro e9;cases e9;exact e rfl)
  ·show (w.heap.modify g (fun _=>w'.heap[g]))[k]?=w.heap[k]?
   rw [Array.getElem?_modify,if_neg (by rintro rfl;exact hne rfl)]
 ·exact ⟨w,rfl,⟨h.os,h.tape,h.output,h.size,fun k hk=>h.block k hk (by intro e9;cases e9;omega)⟩,But.refl _ _⟩
theorem FAt.far {w w' wk:World} {g n c:Nat} {A:Option Addr} {tab:Nat->Nat->Chc} (h:FAt w g n c A tab) (h1:Ext wk w) (h2:Ext wk w') (hg:g<wk.heap.size):FAt w' g n c A tab:=by
 obtain ⟨a1,a2, -⟩:=h1.facts
 obtain ⟨b1,b2, -⟩:=h2.facts
 exact ⟨(b1 _ _ hg).trans ((a1 _ _ hg).symm.trans h.hd),fun o=>(b2 _ _ hg).trans ((a2 _ _ hg).symm.trans (h.fz o)),fun a m i ha hm hi=>(b1 _ _ hg).trans ((a1 _ _ hg).symm.trans (h.tb a m i ha hm hi))⟩
theorem zkA (w:World) (B:Nat) (e:TypeId) (N k:Int) (p:Bool) (a b:Int) {A:Option Addr} {n cap:Nat} {g:Tms} (hB:B<=w.heap.size) (hk:0<=k/\k<=255) (hg:TvK w (fun b=>B<=b) A n g) :
  OwnT (w.alloc (.cells #[.int .i64 N,.int .u8 k,.bool p,.int .i64 a,.int .i64 b,.slice A n cap] e)) B e (.slice (some ⟨w.heap.size,0,none⟩) 1 1) 1 (.cons N ⟨k,p,a,b⟩ g .nil):=by
 refine ⟨rfl,[.int .i64 N,.int .u8 k,.bool p,.int .i64 a,.int .i64 b,.slice A n cap],⟨rfl,.inr ⟨w.heap.size,1,_,rfl,hB,heap_alloc_new w _,Zb _,by unfold maxLen;omega,rfl,rfl⟩⟩,A,n,cap,[],rfl,hk,?_,rfl⟩
 refine hg.keep (by simp) fun b' hlt hb=>⟨⟨hb,?_⟩,fun o=>?_⟩
 ·simp only [Value.ownBlock]
  intro e9
  cases e9
  omega
 ·exact Zl (p:=⟨b',o,none⟩) ((Ze w).alloc _) hlt
theorem OwnT.far {w w':World} {B g k:Nat} {e:TypeId} {v:Value} {t:Tms} (h:OwnT w B e v k t) (hb:But (some g) w w') (hg:g<B):OwnT w' B e v k t:=by
 obtain ⟨h1,L,h2,h3⟩:=h
 refine ⟨h1,L,World.ownsRow.kept h2 hb (.inr ?_),h3.but hb fun b _ hb=>⟨hb,?_⟩⟩
 ·intro e9
  have:=(zas h2 g e9).1
  omega
 ·intro e9
  cases e9
  omega
theorem OwnT.low {w:World} {B B' k:Nat} {e:TypeId} {v:Value} {t:Tms} (h:OwnT w B e v k t) (hB:B'<=B):OwnT w B' e v k t:=by
 obtain ⟨h1,L,h2,h3⟩:=h
 refine ⟨h1,L,⟨h2.1,?_⟩,h3.keep (Zb _) fun b _ hb=>⟨⟨by omega,hb.2⟩,fun _=>rfl⟩⟩
 rcases h2.2 with h | ⟨g,cap,cur,e1,hb,r⟩
 ·exact .inl h
 ·exact .inr ⟨g,cap,cur,e1,by omega,r⟩
theorem OwnT.lies {w:World} {B k:Nat} {e:TypeId} {v:Value} {t:Tms} (h:OwnT w B e v k t):∃A c L,v = .slice A k c/\RwK w (fun b=>B<=b/\some b≠v.ownBlock) t L/\t.cnt=k/\(0<k->∃ad,A=some ad/\∀j u,L[j]?=some u->w.cell? (ad.add j)=some u):=by
 obtain ⟨h1,L,h2,h3⟩:=h
 have hf:0<k->∃g cap,v = .slice (some ⟨g,0,none⟩) k cap:=fun hk=>by
  obtain ⟨g,cap,hv,_,_⟩:=World.ownsRow.form h2 hk
  exact ⟨g,cap,hv⟩
 have hs:∃A c,v = .slice A k c:=by
  rcases h2.2 with ⟨e1,e2⟩ | ⟨g,cap,cur,e1,_⟩
  ·subst e2;exact ⟨none,0,e1⟩
  ·exact ⟨_,_,e1⟩
 obtain ⟨A,c,rfl⟩:=hs
 refine ⟨A,c,L,rfl,h3,h1,fun hk=>?_⟩
 obtain ⟨g,cap,hv⟩:=hf hk
 cases hv
 refine ⟨_,rfl,fun j u hu=>?_⟩
 rw [zc9,Nat.zero_add]
 have hj:j<k*6:=by rw [<-h1,<-h3.len];exact (ZB.1 hu).1
 rw [World.ownsRow.cellAt h2 _ hj]
 exact hu
def ListR (l:List St) (g n c:Nat) (A:Option Addr) (T:TypeId) (t:Tms) (w:World) (e:Ending) (w':World):Prop :=
 ∃v tab',e = .returned v/\FAt w' g n c A tab'/\(∀N,TabOk l tab' N)/\But (some g) w w'/\OwnT w' w.heap.size T v t.cnt t
theorem ze4 {P:Program} {o:Oper} {a:Act} {K:Act->World->Prop} {Q:Exit->Act->World->Prop} {w1 w2 wx:World} {g:Nat} (T e:TypeId) (z:Value) (bytes:Nat) {s x:Operand} {v1 v2:Value} {t r:Tms}
  (ho:o.op = .call { callee := .builtin .append,args:=#[s,x],argTypes:=#[T,T] })
  (ht:P.underlying T=some (.slice e)) (hinfo:(P.info? e).map (fun i=>(i.zero,i.size,i.bytes))=some (some z,6,bytes)) (hzs:z.cells.size=6) (hby:bytes<=1000)
  (hs:a.eval s=v1) (hx:a.eval x=v2) (h1:OwnT w2 w1.heap.size e v1 t.cnt t) (h2:OwnT wx w2.heap.size e v2 r.cnt r) (b1:But (some g) w1 w2) (b2:But (some g) w2 wx) (hg:g<w1.heap.size) (hk:t.cnt+r.cnt<=1000000)
  (h:∀v' w3,OwnT w3 w1.heap.size e v' (t.cnt+r.cnt) (t.app r)->Hid (But (some g) w1 w3)->Hid (∀n c A tab,FAt wx g n c A tab->FAt w3 g n c A tab)->K (a.put o.dst v') w3):o.wp P a wx K Q:=by
 obtain ⟨wk,ac,aa,ae⟩:=But.base2 (b1.trans b2)
 have ab:=h1.far b2 hg
 obtain ⟨A,c,L,rfl,hL,hrc,hA⟩:=h2.lies
 have hw2:=b1.size
 have af:∀b,w2.heap.size<=b->some b≠v1.ownBlock:=fun b hb e9=>by
  obtain ⟨_,L1,ad,_⟩:=h1
  have:=(zas ad b e9.symm).2
  omega
 rw [<-ac] at ab
 refine zcs (w:=wk) T e z bytes ho ht hinfo hzs hby hs hx ab aa rfl (hL.keep (Zb _) fun b _ hb=>⟨⟨by omega,af b hb.1⟩,fun _=>rfl⟩) hA hk ?_
 intro v' w3 g1 g2
 refine h v' w3 (by rw [<-ac];exact g1) (Za ?_) (Za fun n c A tab hf=>hf.far aa g2.out (by omega))
 exact ae.trans (But.of_ext g2.out _)
theorem zdK {P:Program} {ops:Array Oper} {E:Prop} {o:Oper} {a:Act} {K:Act->World->Prop} {Q:Exit->Act->World->Prop} {w1 w2 wx:World} {g:Nat} (T e:TypeId) (z:Value) (bytes:Nat) {s x:Operand} {v1 v2:Value} {t r:Tms}
  (hgd:o.guard=none) (ho:o.op = .call { callee := .builtin .append,args:=#[s,x],argTypes:=#[T,T] })
  (ht:P.underlying T=some (.slice e)) (hinfo:(P.info? e).map (fun i=>(i.zero,i.size,i.bytes))=some (some z,6,bytes)) (hzs:z.cells.size=6) (hby:bytes<=1000)
  (hs:a.eval s=v1) (hx:a.eval x=v2) (h1:OwnT w2 w1.heap.size e v1 t.cnt t) (h2:OwnT wx w2.heap.size e v2 r.cnt r) (b1:But (some g) w1 w2) (b2:But (some g) w2 wx) (hg:g<w1.heap.size) (hk:t.cnt+r.cnt<=1000000)
  (h:∀v' w3,OwnT w3 w1.heap.size e v' (t.cnt+r.cnt) (t.app r)->Hid (But (some g) w1 w3)->Hid (∀n c A tab,FAt wx g n c A tab->FAt w3 g n c A tab)->K (a.put o.dst v') w3) :
  if Region.wanted o (yielded ops a.tmps)=true then Oper.wp P o a wx K Q else E:=by
 have hw:Region.wanted o (yielded ops a.tmps)=true:=by simp [Region.wanted,hgd]
 rw [if_pos hw]
 exact ze4 T e z bytes ho ht hinfo hzs hby hs hx h1 h2 b1 b2 hg hk h
theorem zeK:∀(M:Nat) (l:List St),l≠[]->l.length<=M->(mkT M l).cnt<=l.length:=by
 intro M l hl hM
 have h1:=(zoA M l hl hM).size
 have h2:=za8 (mkT M l)
 have h3:=zl2 l.length rfl hl
 omega
end Go.Proofs.YtbjgpbojjhldaaaGreatDoor
/- The reader of terms: list. -/
namespace Go.Proofs.YtbjgpbojjhldaaaGreatDoor
set_option maxRecDepth 100000
open Go.RowKit Go.ChangeShapes Go.WideShapes Go.Joins
theorem znN (f g d:Nat) (s:List UInt8) (WG w:World) (hgl:Glob WG) (hex:Ext WG w) (hgg:WG.heap.size<=g) (h:RdAt w g s d) (hd:d<=20) (hl:s.length<=10000) (ha:Asc s)
  (HL:∀(d':Nat) (s':List UInt8) (w':World) (di:Int),di=(d':Int)->Ext WG w'->RdAt w' g s' di->d'<=20->Asc s'->s'.length<=10000->2*s'.length+2<=f->Calls Tryz.prog 184 #[.pointer (some ⟨g,0,none⟩)] w' (ListRd g d' (rdL atoiO f d' s') w')) (hf:2*s.length+1<=f+1) :
  Calls Tryz.prog 220 #[.pointer (some ⟨g,0,none⟩)] w (TermR g d (rdT atoiO (f+1) d s) w):=by
 cases h40:hitB 40 s with
 | false=>exact zlp f g d s h40 WG w hgl hex hgg h hd hl ha HL hf
 | true =>
  cases s with
  | nil=>cases h40
  | cons y r =>
   have e:y=40:=by simpa [hitB] using h40
   subst e
   exact znO f g d r WG w hgl hex hgg h hd hl ha HL hf
theorem ze3 {P:Program} {o:Oper} {a:Act} {K:Act->World->Prop} {Q:Exit->Act->World->Prop} {W0 wc wx:World} {g:Nat} (T e:TypeId) (z:Value) (bytes:Nat) {s x:Operand} {v:Value} {k:Nat} (g0:Nat) {t u:Tms} (N:Int) (c:St) {A:Option Addr} {n cap:Nat}
  (ho:o.op = .call { callee := .builtin .append,args:=#[s,x],argTypes:=#[T,T] })
  (ht:P.underlying T=some (.slice e)) (hinfo:(P.info? e).map (fun i=>(i.zero,i.size,i.bytes))=some (some z,6,bytes)) (hzs:z.cells.size=6) (hby:bytes<=1000)
  (hs:a.eval s=v) (hx:a.eval x = .slice (some ⟨g0,0,none⟩) 1 1) (hown:OwnT wc W0.heap.size e v k t) (hb0:But (some g) W0 wc) (hb1:But (some g) wc wx) (hg:g<W0.heap.size) (hck:0<=c.k/\c.k<=255)
  (hu:TvK wx (fun b=>wc.heap.size<=b) A n u)
  (hA:∀j u,([.int .i64 N,.int .u8 c.k,.bool c.p,.int .i64 c.a,.int .i64 c.b,.slice A n cap]:List Value)[j]?=some u->wx.cell? ⟨g0,j,none⟩=some u) (hk:k+1<=1000000)
  (h:∀v' w1,OwnT w1 W0.heap.size e v' (k+1) (t.app (.cons N c u .nil))->Hid (But (some g) W0 w1)->Hid (∀s d,RdAt wx g s d->RdAt w1 g s d)->K (a.put o.dst v') w1):o.wp P a wx K Q:=by
 obtain ⟨wk,ac,ab,ae⟩:=But.base2 (hb0.trans hb1)
 have af:∀b,wc.heap.size<=b->some b≠v.ownBlock:=fun b hb e9=>by
  obtain ⟨_,L1,ad,_⟩:=hown
  have:=(zas ad b e9.symm).2
  omega
 have hz:=hb0.size
 have aa:=hown.far hb1 hg
 rw [<-ac] at aa
 refine zf1 (w:=wk) T e z bytes g0 N c ho ht hinfo hzs hby hs hx aa ab hck (hu.mono fun b _ hb=>⟨by omega,af b hb⟩) hA hk ?_
 intro v' w1 g1 g2
 refine h v' w1 (by rw [<-ac];exact g1) (Za (ae.trans (But.of_ext g2.out _))) (Za fun s d hr=>?_)
 unfold RdAt
 rw [g2.out.block g (by omega),<-ab.block g (by omega)]
 exact hr
theorem zcK {P:Program} {ops:Array Oper} {rest:List Oper} {o:Oper} {a:Act} {Q:Exit->Act->World->Prop} {W0 wc wx:World} {g:Nat} (T e:TypeId) (z:Value) (bytes:Nat) {s x:Operand} {v:Value} {k:Nat} (g0:Nat) {t u:Tms} (N:Int) (c:St) {A:Option Addr} {n cap:Nat}
  (hgd:o.guard=none) (ho:o.op = .call { callee := .builtin .append,args:=#[s,x],argTypes:=#[T,T] })
  (ht:P.underlying T=some (.slice e)) (hinfo:(P.info? e).map (fun i=>(i.zero,i.size,i.bytes))=some (some z,6,bytes)) (hzs:z.cells.size=6) (hby:bytes<=1000)
  (hs:a.eval s=v) (hx:a.eval x = .slice (some ⟨g0,0,none⟩) 1 1) (hown:OwnT wc W0.heap.size e v k t) (hb0:But (some g) W0 wc) (hb1:But (some g) wc wx) (hg:g<W0.heap.size) (hck:0<=c.k/\c.k<=255)
  (hu:TvK wx (fun b=>wc.heap.size<=b) A n u)
  (hA:∀j u,([.int .i64 N,.int .u8 c.k,.bool c.p,.int .i64 c.a,.int .i64 c.b,.slice A n cap]:List Value)[j]?=some u->wx.cell? ⟨g0,j,none⟩=some u) (hk:k+1<=1000000)
  (h:∀v' w1,OwnT w1 W0.heap.size e v' (k+1) (t.app (.cons N c u .nil))->Hid (But (some g) W0 w1)->Hid (∀s d,RdAt wx g s d->RdAt w1 g s d)->wpList P ops Q rest (a.put o.dst v') w1):wpList P ops Q (o::rest) a wx :=
 wpList_plain hgd fun _ hK=>ze3 T e z bytes g0 N c ho ht hinfo hzs hby hs hx hown hb0 hb1 hg hck hu hA hk fun v' w' h2 h3 h4=>hK _ _ (h v' w' h2 h3 h4)
def contR (f d:Nat) (done:Tms) (s:List UInt8):Option (Tms×List UInt8):=if hitB 32 s=true then (rdL atoiO f d (hitR 32 s)).map (fun y=>(done.app y.1,y.2)) else some (done,s)
theorem zjs {f d:Nat} {done:Tms} {s:List UInt8} (h:hitB 32 s=true):contR (f+1) d done s=(rdT atoiO f d (hitR 32 s)).bind fun x=>contR f d (done.app (.cons x.1.1 x.1.2.1 x.1.2.2 .nil)) x.2:=by
 rw [contR,if_pos h,zhJ]
 cases rdT atoiO f d (hitR 32 s) with
 | none=>rfl
 | some x =>
  rw [ZV,ZV,contR]
  split
  ·rw [Option.map_map]
   congr 1
   funext y
   simp only [Function.comp]
   rw [zjc]
   rfl
  ·rfl
def rdLen (w:World) (g:Nat):Nat:=match w.cell? ⟨g,0,none⟩ with
 | some (.string s)=>s.size
 | _=>0
theorem zhK {w:World} {g:Nat} {s:List UInt8} {d:Int} (h:RdAt w g s d):rdLen w g=s.length:=by
 rw [rdLen,h.facts.1]
 simp [ByteArray.size]
theorem ListRd.no {g d:Nat} {R:Option (Tms×List UInt8)} {w w':World} (h:R=none) (hb:But (some g) w w'):ListRd g d R w (PanE g) w':=⟨hb,fun _=>rfl,fun t r e=>by rw [h] at e;cases e⟩
theorem ListRd.yes {g d:Nat} {R:Option (Tms×List UInt8)} {t:Tms} {r:List UInt8} {v:Value} {w w':World} (h:R=some (t,r)) (hb:But (some g) w w') (h1:RdAt w' g r d) (h2:OwnT w' w.heap.size 140 v t.cnt t):ListRd g d R w (.returned v) w' :=
 ⟨hb,fun e=>(by rw [h] at e;cases e),fun t' r' e=>by rw [h] at e;cases e;exact ⟨v,rfl,h1,h2⟩⟩
theorem zpw:∀(f g d:Nat) (s:List UInt8) (WG w:World) (di:Int),di=(d:Int)->Glob WG->Ext WG w->WG.heap.size<=g->RdAt w g s di->d<=20->Asc s->s.length<=10000->2*s.length+2<=f ->
  Calls Tryz.prog 184 #[.pointer (some ⟨g,0,none⟩)] w (ListRd g d (rdL atoiO f d s) w):=by
 intro f
 induction f using Nat.strongRecOn with
 | ind f ih =>
  intro g d s WG w di aW aA aI ah hr hd ha hl hf
  subst aW
  obtain ⟨f,rfl⟩:∃f',f=f'+2:=⟨f-2,by omega⟩
  have HT:=Za (fun (k:Nat) (hk:k<f+2) (s':List UInt8) (w':World) (hx:Ext WG w') (hr':RdAt w' g s' d) (ha':Asc s') (hl':s'.length<=10000) (hf':2*s'.length+1<=k+1)=>znN k g d s' WG w' aA hx ah hr' hd hl' ha' (fun d' s'' w'' di' e' hx' hr'' hd' ha'' hl'' hf''=>ih k hk g d' s'' WG w'' di' e' aA hx' ah hr'' hd' ha'' hl'' hf'') hf')
  have HR:=Za hr
  have HA:=Za ha
  have HE:=Za aI
  have aB:=hr.lt
  have HC:=Za (show rdL atoiO (f+2) d s=(rdT atoiO (f+1) d s).bind fun x=>contR (f+1) d (.cons x.1.1 x.1.2.1 x.1.2.2 .nil) x.2 from zhJ atoiO (f+1) d s)
  clear ih hr ha aI aA
  have aC:=(zkK atoiO (f+1)).1 d s
  obtain ⟨zt,aP,aO⟩:=zj7
  have aV:=Za aP
  have aU:=Za aO
  clear aP aO
  cases hq:rdT atoiO (f+1) d s with
  | none =>
   have af:=Za (show rdL atoiO (f+2) d s=none by rw [HC.out,hq];rfl)
   have HQ:=Za hq
   clear hq aC
   go_enter Tryz.func184,Tryz.ntmps184
   go_wp2_with (first
    | (go_at_call 220;((with_reducible refine (HT.out f (by omega) s _ (HE.out.trans zx) (HR.out.ext zx) HA.out hl (by omega)).mono ?_);rintro e w1 ⟨hb,hn, -⟩;have h9:=hn HQ.out;unfold PanE at h9;subst h9;have HB:=Za hb;clear hb hn)))
   exact ⟨rfl,ListRd.no af.out HB.out⟩
  | some x =>
   obtain ⟨⟨n,c,t⟩,r⟩:=x
   have ap:=aC _ hq
   simp only at ap
   have aT:=Za ap
   have HQ:=Za hq
   have aQ:=Za (show rdL atoiO (f+2) d s=contR (f+1) d (.cons n c t .nil) r by rw [HC.out,hq];rfl)
   have hrl:=ap.length_le
   clear hq aC ap
   go_enter Tryz.func184,Tryz.ntmps184
   go_wp2_with (first
    | (go_at_call 220;((with_reducible refine (HT.out f (by omega) s _ (HE.out.trans zx) (HR.out.ext zx) HA.out hl (by omega)).mono ?_);rintro e w1 ⟨hb, -,hy⟩;obtain ⟨A1,c1,rfl,aL,aN,aJ⟩:=hy n c t r HQ.out;have HB:=Za hb;have aG:=Za aL;have aH:=Za aN;have aF:=Za aJ;clear hb hy aL aN aJ)))
   go_loopw [3] (fun u wr=>∃(V:Value) (k:Nat) (done:Tms) (cur:List UInt8),V=u/\k<f+2/\2*cur.length<=k/\done.cnt+cur.length<=s.length+1/\cur.length<=10000 /\
    Hid (cur <:+ s/\OwnT wr w.heap.size 140 V done.cnt done/\RdAt wr g cur d/\But (some g) w wr/\rdL atoiO (f+2) d s=contR k d done cur)) (fun _ wr=>rdLen wr g)
   case atStart =>
    have h1:=aH.out
    refine ⟨_,f+1,.cons n c t .nil,r,rfl,by omega,by omega,by simp only [Tms.cnt];omega,by omega,Za ⟨aT.out,?_,aG.out.ext ((Ze _).alloc _),HB.out.trans (But.of_ext ((Ze _).alloc _) _),aQ.out⟩⟩
    obtain ⟨ck,cp,ca,cb⟩:=c
    exact zkA w1 w.heap.size 140 n ck cp ca cb HB.out.size aF.out h1
   case round =>
    clear HB aG aH aF
    obtain ⟨V,k,done,cur,rfl,hk,h2k,hcn,hcl,HH⟩:=hrel
    obtain ⟨wa,rfl⟩:∃wa:World,wa=wr:=⟨_,rfl⟩
    have aE:=Za (Ext.but HE.out HH.out.2.2.2.1 ah)
    obtain ⟨q,hq2⟩:∃q,hitR 32 cur=q:=⟨_,rfl⟩
    have R32:=Za hq2
    have am:=Za HH.out.2.2.1
    cases h32:hitB 32 cur with
    | false =>
     have K32:=Za h32
     have af:=Za (show rdL atoiO (f+2) d s=some (done,cur) by rw [HH.out.2.2.2.2,contR,if_neg (by rw [h32];simp)])
     obtain rfl:q=cur:=by rw [<-hq2];exact zhv h32
     clear h32 hq2
     go_wp2_with (first
      | (go_at_call 221;((with_reducible refine (zg4 g _ _ _ (am.out.ext zx) (by omega)).mono ?_);rintro e w1 ⟨rfl,hr,hb⟩;rw [K32.out];rw [R32.out] at hr;have ad:=Za hr;have aa:=Za hb;clear hr hb)))
     go_ret
     exact ListRd.yes af.out (HH.out.2.2.2.1.trans aa.out) ad.out (HH.out.2.1.far aa.out aB)
    | true =>
     have K32:=Za h32
     have hql:q.length+1=cur.length:=by
      rw [<-hq2]
      cases cur with
      | nil=>cases h32
      | cons y r =>
       have e:(y==32)=true:=h32
       rw [hitR,if_pos e]
       rfl
     obtain ⟨k,rfl⟩:∃k',k=k'+2:=⟨k-2,by omega⟩
     have az:=zjs (f:=k+1) (d:=d) (done:=done) (s:=cur) h32
     rw [hq2] at az
     have aD:=Za (HH.out.2.2.2.2.trans az)
     have aM:q <:+ s:=(zay hq2).trans HH.out.1
     have ax:=Za aM
     have ac:=(zkK atoiO (k+1)).1 d q
     have aK:=zhK am.out
     have aR:=Za aK
     clear h32 hq2 az aM aK
     cases hq3:rdT atoiO (k+1) d q with
     | none =>
      have af:=Za (show rdL atoiO (f+2) d s=none by rw [aD.out,hq3];rfl)
      have av:=Za hq3
      clear hq3 ac
      go_wp2_with (first
       | (go_at_call 221;((with_reducible refine (zg4 g _ _ _ (am.out.ext zx) (by omega)).mono ?_);rintro e w1 ⟨rfl,hr,hb⟩;rw [K32.out];rw [R32.out] at hr;have ad:=Za hr;have aa:=Za hb;clear hr hb))
       | (go_at_call 220;((with_reducible refine (HT.out k (by omega) q _ (Ext.but aE.out aa.out ah) ad.out (HA.out.suf ax.out) (by omega) (by omega)).mono ?_);rintro e w2 ⟨hb,hn, -⟩;have h9:=hn av.out;unfold PanE at h9;subst h9;have aq:=Za hb;clear hb hn)))
      exact ⟨rfl,ListRd.no af.out ((HH.out.2.2.2.1.trans aa.out).trans aq.out)⟩
     | some x3 =>
      obtain ⟨⟨n3,c3,t3⟩,r3⟩:=x3
      have ao:=ac _ hq3
      simp only at ao
      have hl3:=ao.length_le
      have aS:=Za (ao.trans ax.out)
      have av:=Za hq3
      have ar:=Za (show rdL atoiO (f+2) d s=contR (k+1) d (done.app (.cons n3 c3 t3 .nil)) r3 by rw [aD.out,hq3];rfl)
      clear hq3 ac ao
      obtain ⟨ck,cp,ca,cb⟩:=c3
      go_wp2_with (first
       | (go_at_call 221;((with_reducible refine (zg4 g _ _ _ (am.out.ext zx) (by omega)).mono ?_);rintro e w1 ⟨rfl,hr,hb⟩;rw [K32.out];rw [R32.out] at hr;have ad:=Za hr;have aa:=Za hb;clear hr hb))
       | (go_at_call 220;((with_reducible refine (HT.out k (by omega) q _ (Ext.but aE.out aa.out ah) ad.out (HA.out.suf ax.out) (by omega) (by omega)).mono ?_);rintro e w2 ⟨hb, -,hy⟩;obtain ⟨A3,p3,rfl,ak,al,ai⟩:=hy _ _ _ _ av.out;have aq:=Za hb;have aw:=Za ak;have ay:=Za al;have au:=Za ai;clear hb hy ak al ai))
       | (at_builtin;(refine zcK (W0:=w) (wc:=w1) (g:=g) 46 140 zt 56 w2.heap.size n3 ⟨ck,cp,ca,cb⟩ (t:=done) (k:=done.cnt) (u:=t3) (A:=A3) (n:=t3.cnt) (cap:=p3) (by rfl) (by rfl) Tryz.underlying46 aV.out aU.out (by omega) (by rfl) (by rfl) (HH.out.2.1.far aa.out aB) (HH.out.2.2.2.1.trans aa.out) (aq.out.trans (But.of_ext zx _)) aB au.out (ay.out.ext zx) (zrM _ _ _ _ _ _ _ _) (by omega) ?_;intro v' w4 aj ag ab)))
      have ae:=Za (ab.out _ _ (aw.out.ext ((Ze _).alloc _)))
      go_roundw
      case rel =>
       have e9:(done.app (Tms.cons n3 ⟨ck,cp,ca,cb⟩ t3 .nil)).cnt=done.cnt+1:=zf3 _ _
       exact ⟨v',k+1,done.app (.cons n3 ⟨ck,cp,ca,cb⟩ t3 .nil),r3,rfl,by omega,by omega,by omega,by omega,Za ⟨aS.out,by rw [e9];exact aj,ae.out,ag.out,ar.out⟩⟩
      case measure=>rw [aR.out,zhK ae.out];omega
end Go.Proofs.YtbjgpbojjhldaaaGreatDoor
/- The reader of terms: read and Parse. -/
namespace Go.Proofs.YtbjgpbojjhldaaaGreatDoor
set_option maxRecDepth 100000
open Go.RowKit Go.ChangeShapes Go.WideShapes Go.Joins
theorem zp4:(Tryz.prog.info? 252).map (·.comparable)=some true:=by kernel_rfl
theorem zjA (d g:Nat) (w:World):(Op.equalIn (d+1) 252 (.pointer (some ⟨g,0,none⟩)) (.pointer (some ⟨g,0,none⟩))).run Tryz.prog w = .ok true w:=by
 rw [Op.equalIn]
 simp [go_sem,Tryz.sizeOf254,sameAddr]
theorem zmg (d g:Nat) (w:World):(Op.equalIn (d+1+1) 20 (.iface 252 (.pointer (some ⟨g,0,none⟩))) (.iface 252 (.pointer (some ⟨g,0,none⟩)))).run Tryz.prog w = .ok true w:=by
 obtain ⟨i,hi,hc⟩:=ZS.1 zp4
 have h1:=zjA d g w
 rw [Op.equalIn]
 simp [go_sem,typeInfo,hi,hc,h1]
theorem zgY (g:Nat) (w:World):(binOp .neq 20 (.iface 252 (.pointer (some ⟨g,0,none⟩))) (.iface 252 (.pointer (some ⟨g,0,none⟩)))).run Tryz.prog w = .ok (.bool false) w:=by
 have h1:=zmg 9998 g w
 simp only [binOp,Op.equal]
 rw [show Op.maxDepth=9998+1+1 from rfl]
 simp [go_sem,h1]
theorem zdd (p:Addr) (g:Nat) (older:List PanicEntry) (w:World) (hc:w.cell? p=some (.pointer (some ⟨g,0,none⟩))) :
  CallsD Tryz.prog 183 #[.pointer (some p)] (.panicking ({ v := .iface 252 (.pointer (some ⟨g,0,none⟩)),recovered:=false }::older)) w fun e u' w' =>
   e = .returned (.tuple #[])/\u' = .panicking ({ v := .iface 252 (.pointer (some ⟨g,0,none⟩)),recovered:=true }::older)/\∃q,w'=w.drewN q:=by
 refine callsD_of_wpS Tryz.func183 rfl fun c₀ cs hu=>?_
 simp only [Tryz.ntmps183,List.size_toArray,Zk,List.length_nil,Nat.reduceAdd,Nat.reduceSub,Array.replicate_succ,Array.replicate_zero,List.push_toArray,List.append_toArray,List.nil_append,ZM]
 apply wpS_seq
 apply wpS_region
 simp [wpOpsS,go_sem,recoverD,hu,Exit.thenS]
 refine wpS_of_wp ?_
 go_wp2_with fail
 rw [zgY]
 go_wp2_with fail
 cases c₀
 simp_all [bodyPostS,results,Tryz.results183]
 exact ⟨0,rfl⟩
theorem zdY (p:Addr) (w:World) :
  CallsD Tryz.prog 183 #[.pointer (some p)] .returning w fun e u' w'=>e = .returned (.tuple #[])/\u' = .returning/\∃q,w'=w.drewN q:=by
 refine callsD_of_wpS Tryz.func183 rfl fun c₀ cs hu=>?_
 simp only [Tryz.ntmps183,List.size_toArray,Zk,List.length_nil,Nat.reduceAdd,Nat.reduceSub,Array.replicate_succ,Array.replicate_zero,List.push_toArray,List.append_toArray,List.nil_append,ZM]
 apply wpS_seq
 apply wpS_region
 simp [wpOpsS,go_sem,recoverD,hu,Exit.thenS]
 refine wpS_of_wp ?_
 go_wp2_with fail
 cases c₀
 simp_all [bodyPostS,results,Tryz.results183]
 exact ⟨0,rfl⟩
def ReadTR (s:List UInt8) (w:World) (e:Ending) (w':World):Prop:=∃(v:Value) (b:Bool),e = .returned (.tuple #[v,.bool b])/\Ext w w'/\(b=true->∃t,readT atoiO s=some t/\OwnT w' w.heap.size 140 v t.cnt t)/\(b=false->readT atoiO s=none)
theorem ReadTR.no {s:List UInt8} {v:Value} {w w':World} (h:readT atoiO s=none) (hb:Ext w w'):ReadTR s w (.returned (.tuple #[v,.bool false])) w':=⟨v,false,rfl,hb,fun e=>(by cases e),fun _=>h⟩
theorem ReadTR.yes {s:List UInt8} {v:Value} {t:Tms} {w w':World} (h:readT atoiO s=some t) (hb:Ext w w') (ho:OwnT w' w.heap.size 140 v t.cnt t):ReadTR s w (.returned (.tuple #[v,.bool true])) w':=⟨v,true,rfl,hb,fun _=>⟨t,h,ho⟩,fun e=>by cases e⟩
theorem zkJ (w:World) (s:List UInt8):RdAt (w.alloc (.cells #[.string ⟨s.toArray⟩,.int .i64 0] 254)) w.heap.size s 0:=heap_alloc_new w _
theorem zqa (s:List UInt8) (hl:s.length<=10000) (ha:Asc s) (w:World) (hg:Glob w):Calls Tryz.prog 145 #[.string ⟨s.toArray⟩] w (ReadTR s w):=by
 have hmf:∀(fn:Fn) (first cap:Array Value) (w:World),(Instr.makeFunc fn first cap).run Tryz.prog w = .ok (.func fn first cap) w:=fun _ _ _ _=>rfl
 by_cases h0:s=[]
 ·subst h0
  go_enter_defers Tryz.func145,Tryz.ntmps145
  go_wp2_with fail
  simp [bodyPostD,Leaves,results,Tryz.results145,go_sem]
  exact ReadTR.yes (t := .nil) (by rfl) (Ze _) (OwnT.nil _ _ _)
 have hb0:(s==[])=false:=by simpa using h0
 have ad:=Za (show readT atoiO s=match rdL atoiO (2*s.length+2) 0 s with
  | some (t,[])=>some t
  | _=>none from if_neg h0)
 have HA:=Za ha
 have HG:=Za hg
 clear h0 ha hg
 have HL:=Za (fun (g:Nat) (WG w':World) (hgl:Glob WG) (hex:Ext WG w') (hgg:WG.heap.size<=g) (hr:RdAt w' g s 0)=>zpw (2*s.length+2) g 0 s WG w' 0 (by rfl) hgl hex hgg hr (by omega) HA.out hl (Zb _))
 cases hq:rdL atoiO (2*s.length+2) 0 s with
 | none =>
  have HQ:=Za hq
  have HN:=Za (show readT atoiO s=none by rw [ad.out,hq])
  clear hq
  go_enter_defers Tryz.func145,Tryz.ntmps145
  go_wp2_with (first
   | (go_at_call 184;((with_reducible refine (HL.out w.heap.size w _ HG.out zx (Zb _) ((zkJ w s).ext zx)).mono ?_);rintro e w1 ⟨hb,hn, -⟩;have h9:=hn HQ.out;unfold PanE at h9;subst h9;have HB:=Za hb;clear hb hn)))
  have hc1:=(But.cell (p:=⟨w.heap.size+1,0,none⟩) HB.out (by simp) (by simp)).trans (show _=some (.pointer (some ⟨w.heap.size,0,none⟩)) by simp [go_sem])
  refine leaves_cons (f:=183) (args:=#[.pointer (some ⟨w.heap.size+1,0,none⟩)]) (by simp) (by simp [go_sem]) ?_
  refine (zdd ⟨w.heap.size+1,0,none⟩ w.heap.size [] _ hc1).mono ?_
  rintro e u' w'' ⟨rfl,rfl,q,rfl⟩
  simp [Leaves,settle,results,Tryz.results145,go_sem]
  exact ReadTR.no HN.out (Ext.drewN (Ext.but zx HB.out (Zb _)) q)
 | some x =>
  obtain ⟨t,r⟩:=x
  have HQ:=Za hq
  have HN:=Za (show (r=[]->readT atoiO s=some t)/\(¬r=[]->readT atoiO s=none) by
   rw [ad.out,hq]
   refine ⟨fun h=>by subst h;rfl,fun h=>?_⟩
   split
   ·rename_i e
    cases e
    exact absurd rfl h
   ·rfl)
  clear hq
  by_cases hr0:r=[]
  ·have ac:=Za (HN.out.1 hr0)
   subst hr0
   go_enter_defers Tryz.func145,Tryz.ntmps145
   go_wp2_with (first
    | (go_at_call 184;((with_reducible refine (HL.out w.heap.size w _ HG.out zx (Zb _) ((zkJ w s).ext zx)).mono ?_);rintro e w1 ⟨hb, -,hy⟩;obtain ⟨v,rfl,aa,ab⟩:=hy t [] HQ.out;have HB:=Za hb;have HO:=Za ab;obtain ⟨x0,x1,x2,x3,x4⟩:=aa.facts;have hc1:=(But.cell (p:=⟨w.heap.size+1,0,none⟩) hb (by simp) (by simp)).trans (show _=some (.pointer (some ⟨w.heap.size,0,none⟩)) by simp [go_sem]);clear hb hy aa ab)))
   go_quiet (fail)
   go_wp2
   refine leaves_cons (f:=183) (args:=#[.pointer (some ⟨w.heap.size+1,0,none⟩)]) (by simp) (by simp [go_sem]) ?_
   refine (zdY ⟨w.heap.size+1,0,none⟩ _).mono ?_
   rintro e u' w'' ⟨rfl,rfl,q,rfl⟩
   simp [Leaves,settle,results,Tryz.results145,go_sem]
   have hX:=Ext.but (show Ext w ((w.alloc (.cells #[.string ⟨s.toArray⟩,.int .i64 0] 254)).alloc (.cells #[.pointer (some ⟨w.heap.size,0,none⟩)] 252)) from zx) HB.out (Zb _)
   exact ReadTR.yes ac.out (Ext.drewN hX _) ((HO.out.low (by first | (simp;done) | (simp <;> omega))).ext ((Ze _).drewN _))
  ·have aa:(r==[])=false:=by simpa using hr0
   have ac:=Za (HN.out.2 hr0)
   go_enter_defers Tryz.func145,Tryz.ntmps145
   go_wp2_with (first
    | (go_at_call 184;((with_reducible refine (HL.out w.heap.size w _ HG.out zx (Zb _) ((zkJ w s).ext zx)).mono ?_);rintro e w1 ⟨hb, -,hy⟩;obtain ⟨v,rfl,aa,ab⟩:=hy t r HQ.out;have HB:=Za hb;have HO:=Za ab;obtain ⟨x0,x1,x2,x3,x4⟩:=aa.facts;have hc1:=(But.cell (p:=⟨w.heap.size+1,0,none⟩) hb (by simp) (by simp)).trans (show _=some (.pointer (some ⟨w.heap.size,0,none⟩)) by simp [go_sem]);clear hb hy aa ab)))
   go_quiet (fail)
   go_wp2
   refine leaves_cons (f:=183) (args:=#[.pointer (some ⟨w.heap.size+1,0,none⟩)]) (by simp) (by simp [go_sem]) ?_
   refine (zdY ⟨w.heap.size+1,0,none⟩ _).mono ?_
   rintro e u' w'' ⟨rfl,rfl,q,rfl⟩
   simp [Leaves,settle,results,Tryz.results145,go_sem]
   have hX:=Ext.but (show Ext w ((w.alloc (.cells #[.string ⟨s.toArray⟩,.int .i64 0] 254)).alloc (.cells #[.pointer (some ⟨w.heap.size,0,none⟩)] 252)) from zx) HB.out (Zb _)
   exact ReadTR.no ac.out (Ext.drewN hX _)
end Go.Proofs.YtbjgpbojjhldaaaGreatDoor
