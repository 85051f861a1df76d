/- Stitches in plain Lean: what is valid, what they use and make. -/
namespace Go.Proofs.YtkneghkbgingdaaGreatDoor
set_option maxRecDepth 100000
def inR (n lo hi:Int):Bool:=decide (lo≤n) && decide (n≤hi)
theorem zjP {n lo hi:Int} (h:lo≤n) (k:n≤hi):inR n lo hi=true:=by simp [inR,h,k]
theorem zi9 {n lo hi:Int} (h:n<lo∨hi<n):inR n lo hi=false:=by simp [inR];omega
theorem za8 {n lo hi:Int} (h:inR n lo hi=true):lo≤n∧n≤hi:=by simpa [inR] using h
theorem zmT {n lo hi:Int} (h:inR n lo hi=false):n<lo∨hi<n:=by simp [inR] at h;omega
structure St where
 k:Int
 p:Bool
 a:Int
 b:Int
theorem St.ext_ {x y:St} (h1:x.k=y.k) (h2:x.p=y.p) (h3:x.a=y.a) (h4:x.b=y.b):x=y:=by
 cases x;cases y;simp only at h1 h2 h3 h4;subst h1;subst h2;subst h3;subst h4;rfl
instance:DecidableEq St:=fun x y =>
 if h:x.k=y.k∧x.p=y.p∧x.a=y.a∧x.b=y.b then isTrue (St.ext_ h.1 h.2.1 h.2.2.1 h.2.2.2)
 else isFalse (fun e=>h (by subst e;exact ⟨rfl,rfl,rfl,rfl⟩))
def st0:St:=⟨0,false,0,0⟩
def kindB (k:Int):Bool:=inR k 1 10
def fa0 (k:Int):Int:=if k=3∨k=4∨k=5 then 2 else if k=6∨k=7∨k=9∨k=10 then 1 else 0
def fa1 (k:Int):Int:=if k=3∨k=4∨k=5 then 4 else if k=6∨k=7 then 6 else if k=9∨k=10 then 200 else 0
def fb0 (k:Int):Int:=if k=6∨k=7 then 1 else 0
def fb1 (k:Int):Int:=if k=6∨k=7 then 6 else 0
def fsd (k:Int):Bool:=decide (k=1∨(3≤k∧k≤8)∨k=10)
def fus (k:Int):Int:=if k=1∨k=5∨k=8 then 1 else if k=3∨k=4∨k=10 then 2 else if k=6∨k=7 then 3 else 0
def fmd (k:Int):Int:=if k=1∨k=2∨k=3∨k=4∨k=8 then 1 else if k=5∨k=9 then 2 else if k=6∨k=7 then 3 else 0
def flt (k:Int):List UInt8:=if k=3 then [102] else if k=4 then [108] else if k=5 then [109] else if k=6 then [120] else if k=7 then [121] else if k=8 then [115] else if k=10 then [111] else []
def okSt (s:St):Bool:=kindB s.k && inR s.a (fa0 s.k) (fa1 s.k) && inR s.b (fb0 s.k) (fb1 s.k) && !(s.p && !fsd s.k)
def okE (s:St):Int:=if okSt s then 0 else 8
def lpV (a b how:Int):Int:=if how=0 then 0 else if how=1 then 1 else if how=2 then a else a+b
def usV (s:St):Int:=lpV s.a s.b (fus s.k)
def mkV (s:St):Int:=lpV s.a s.b (fmd s.k)
def usL (l:List St):Int:=(l.map usV).sum
def mkL (l:List St):Int:=(l.map mkV).sum
def allB (l:List St):Bool:=l.all okSt
def allE (l:List St):Int:=if 200<l.length then 4 else if allB l then (if 200<max (usL l) (mkL l) then 4 else 0) else 8
def usG (l:List St):Int:=if allE l=0 then usL l else 0
def mkG (l:List St):Int:=if allE l=0 then mkL l else 0
theorem zaB {k:Int} (h:kindB k=true):k=1∨k=2∨k=3∨k=4∨k=5∨k=6∨k=7∨k=8∨k=9∨k=10:=by
 have:=za8 h;omega
theorem zj7 {s:St} (h:okSt s=true):kindB s.k=true∧inR s.a (fa0 s.k) (fa1 s.k)=true∧inR s.b (fb0 s.k) (fb1 s.k)=true∧(s.p && !fsd s.k)=false:=by
 simp only [okSt,Bool.and_eq_true,Bool.not_eq_true'] at h
 exact ⟨h.1.1.1,h.1.1.2,h.1.2,h.2⟩
theorem zlN {s:St} (h:okSt s=true):(0≤s.a∧s.a≤200∧0≤s.b∧s.b≤6)∧(0≤usV s∧usV s≤200)∧(0≤mkV s∧mkV s≤200)∧(0≤fus s.k∧fus s.k≤3)∧(0≤fmd s.k∧fmd s.k≤3):=by
 obtain ⟨hk,ha,hb,_⟩:=zj7 h
 have ha:=za8 ha
 have hb:=za8 hb
 unfold usV mkV
 rcases zaB hk with e | e | e | e | e | e | e | e | e | e <;> rw [e] at ha hb ⊢ <;> simp [fa0,fa1,fb0,fb1,fus,fmd,lpV] at ha hb ⊢ <;> omega
theorem zed {s:St} (h:okSt s=true):kindB s.k=true:=(zj7 h).1
theorem znC {l:List St} {k:Nat} (h:k<l.length):l[k]?=some (l.getD k st0):=by
 rw [List.getD_eq_getElem?_getD,List.getElem?_eq_getElem h];rfl
theorem zlr {l:List St} {k:Nat} (h:k<l.length):l.take (k+1)=l.take k++[l.getD k st0]:=by
 rw [List.take_succ_eq_append_getElem h,List.getD_eq_getElem?_getD,List.getElem?_eq_getElem h];rfl
theorem zdL {l:List St} {k:Nat} (h:k<l.length):usL (l.take (k+1))=usL (l.take k)+usV (l.getD k st0):=by
 rw [zlr h];simp [usL]
theorem zev {l:List St} {k:Nat} (h:k<l.length):mkL (l.take (k+1))=mkL (l.take k)+mkV (l.getD k st0):=by
 rw [zlr h];simp [mkL]
theorem zcj {l:List St} (h:allB l=true) {k:Nat} (hk:k<l.length):okSt (l.getD k st0)=true:=by
 rw [allB,List.all_eq_true] at h
 exact h _ (by rw [List.getD_eq_getElem?_getD,List.getElem?_eq_getElem hk];exact List.getElem_mem _)
theorem zcB {l:List St} {n k:Nat} (hl:l.length=n) (hk:k<n) (h:okSt (l.getD k st0)=false):allB l=false:=by
 cases e:allB l
 ·rfl
 ·have:=zcj e (k:=k) (by omega)
  rw [h] at this;cases this
theorem zel {l:List St} {n:Nat} (hl:l.length=n) (h:∀j,j<n→okSt (l.getD j st0)=true):allB l=true:=by
 rw [allB,List.all_eq_true]
 intro x hx
 obtain ⟨j,hj,e⟩:=List.getElem_of_mem hx
 have:=h j (by omega)
 rwa [List.getD_eq_getElem?_getD,List.getElem?_eq_getElem hj,Option.getD_some,e] at this
theorem zd8 {l:List St} (h:allB l=true):∀k,k≤l.length→(0≤usL (l.take k)∧usL (l.take k)≤200*(k:Int))∧(0≤mkL (l.take k)∧mkL (l.take k)≤200*(k:Int)):=by
 intro k
 induction k with
 | zero=>intro _;simp [usL,mkL]
 | succ k ih =>
  intro hk
  have h1:=ih (by omega)
  have h2:=zlN (zcj h (k:=k) (by omega))
  rw [zdL (by omega),zev (by omega)]
  omega
theorem zeR {l:List St} (h:200<l.length):allE l=4:=by rw [allE,if_pos h]
theorem zgv {l:List St} (h:¬200<l.length) (h2:allB l=false):allE l=8:=by rw [allE,if_neg h,h2];rfl
theorem zde {l:List St} (h:¬200<l.length) (h2:allB l=true) (h3:200<max (usL l) (mkL l)):allE l=4:=by rw [allE,if_neg h,if_pos h2,if_pos h3]
theorem zjS {l:List St} (h:¬200<l.length) (h2:allB l=true) (h3:¬200<max (usL l) (mkL l)):allE l=0:=by rw [allE,if_neg h,if_pos h2,if_neg h3]
theorem za6 {l:List St} (h:allE l=0):l.length≤200∧allB l=true∧usL l≤200∧mkL l≤200:=by
 unfold allE at h
 split at h
 ·omega
 ·split at h
  ·split at h
   ·omega
   ·rename_i h1 h2 h3
    exact ⟨by omega,h2,by omega,by omega⟩
  ·omega
theorem zna {xs ys:List St} {n:Nat} (hx:xs.length=n) (hy:ys.length=n) (h:∀j,j<n→xs.getD j st0=ys.getD j st0):xs=ys:=by
 apply List.ext_getElem (by omega)
 intro i h1 h2
 have:=h i (by omega)
 rwa [List.getD_eq_getElem?_getD,List.getD_eq_getElem?_getD,List.getElem?_eq_getElem h1,List.getElem?_eq_getElem h2] at this
def Bytes (l:List St):Prop:=∀j,j<l.length→0≤(l.getD j st0).k∧(l.getD j st0).k≤255
theorem zgK {l:List St} (h:∀s∈l,0≤s.k∧s.k≤255):Bytes l:=fun j hj=>h _ (by rw [List.getD_eq_getElem?_getD,List.getElem?_eq_getElem hj];exact List.getElem_mem _)
end Go.Proofs.YtkneghkbgingdaaGreatDoor
/- Cells with repeats in plain Lean: terms,their sizes,and the shortest list. -/
namespace Go.Proofs.YtkneghkbgingdaaGreatDoor
set_option maxRecDepth 100000
inductive Tms where
 | nil:Tms
 | cons (n:Int) (c:St) (g:Tms) (r:Tms):Tms
def Tms.app:Tms→Tms→Tms
 | .nil,t=>t
 | .cons n c g r,t => .cons n c g (r.app t)
def Tms.cnt:Tms→Nat
 | .nil=>0
 | .cons _ _ _ r=>r.cnt+1
def Tms.size:Tms→Nat
 | .nil=>0
 | .cons _ _ g r=>1+g.size+r.size
def Tms.depth:Tms→Nat
 | .nil=>0
 | .cons _ _ g r=>max (g.depth+1) r.depth
def rep:Nat→List St→List St
 | 0,_=>[]
 | n+1,l=>l++rep n l
def Tms.cells:Tms→List St
 | .nil=>[]
 | .cons n c .nil r=>List.replicate n.toNat c++r.cells
 | .cons n _ g r=>rep n.toNat g.cells++r.cells
def Tms.pos:Tms→Prop
 | .nil=>True
 | .cons n _ g r=>1≤n∧g.pos∧r.pos
theorem zbi (n:Int) (c:St) (g r:Tms) (h:g ≠ .nil):(Tms.cons n c g r).cells=rep n.toNat g.cells++r.cells:=by
 cases g with
 | nil=>exact absurd rfl h
 | cons=>rfl
theorem zaC (n:Int) (c:St) (r:Tms):(Tms.cons n c .nil r).cells=List.replicate n.toNat c++r.cells:=rfl
theorem zip:∀(a b:Tms),(a.app b).cells=a.cells++b.cells:=by
 intro a
 induction a with
 | nil=>intro b;rfl
 | cons n c g r _ ih2 =>
  intro b
  rw [Tms.app]
  by_cases h:g = .nil
  ·subst h;rw [zaC,zaC,ih2,List.append_assoc]
  ·rw [zbi _ _ _ _ h,zbi _ _ _ _ h,ih2,List.append_assoc]
theorem zkn:∀(a b:Tms),(a.app b).size=a.size+b.size:=by
 intro a
 induction a with
 | nil=>intro b;simp [Tms.app,Tms.size]
 | cons n c g r _ ih2=>intro b;rw [Tms.app,Tms.size,Tms.size,ih2];omega
theorem zmo:∀(a b:Tms),a.pos→b.pos→(a.app b).pos:=by
 intro a
 induction a with
 | nil=>intro b _ h;exact h
 | cons n c g r _ ih2=>intro b h k;exact ⟨h.1,h.2.1,ih2 b h.2.2 k⟩
theorem zjj:∀(a b:Tms),(a.app b).depth=max a.depth b.depth:=by
 intro a
 induction a with
 | nil=>intro b;simp [Tms.app,Tms.depth]
 | cons n c g r _ ih2=>intro b;rw [Tms.app,Tms.depth,Tms.depth,ih2];omega
theorem za1 (n:Nat) (l:List St):(rep n l).length=n*l.length:=by
 induction n with
 | zero=>simp [rep]
 | succ n ih=>rw [rep,List.length_append,ih,Nat.add_mul,Nat.one_mul,Nat.add_comm]
theorem zdM {t:Tms} (h:t ≠ .nil):0<t.size:=by
 cases t with
 | nil=>exact absurd rfl h
 | cons=>simp [Tms.size];omega
theorem ziI:∀ {t:Tms},t.pos→t ≠ .nil→0<t.cells.length:=by
 intro t
 induction t with
 | nil=>intro _ h;exact absurd rfl h
 | cons n c g r ih1 _ =>
  intro hp _
  by_cases h:g = .nil
  ·subst h
   rw [zaC,List.length_append,List.length_replicate]
   have:=hp.1;omega
  ·rw [zbi _ _ _ _ h,List.length_append,za1]
   have h1:=ih1 hp.2.1 h
   have h2:0<n.toNat:=by have:=hp.1;omega
   have:=Nat.mul_pos h2 h1
   omega
def perB (l:List St) (p:Nat):Bool:=decide (l.length % p=0) && decide (l.drop p=l.take (l.length-p))
structure Chc where
 size:Nat
 period:Nat
 part:Nat
def perStep (f:List St→Nat) (l:List St) (c:Chc) (p:Nat):Chc:=if 2≤p∧perB l p=true∧1+f (l.take p)<c.size then ⟨1+f (l.take p),p,0⟩ else c
def partStep (f:List St→Nat) (l:List St) (c:Chc) (k:Nat):Chc:=if 1≤k∧f (l.take k)+f (l.drop k)<c.size then ⟨f (l.take k)+f (l.drop k),0,k⟩ else c
def chG (f:List St→Nat) (l:List St):Chc :=
 if perB l 1=true then ⟨1,0,0⟩ else (List.range l.length).reverse.foldl (partStep f l) ((List.range l.length).foldl (perStep f l) ⟨l.length+1,0,0⟩)
def chF:Nat→List St→Chc
 | 0,_=>⟨0,0,0⟩
 | f+1,l=>chG (fun x=>(chF f x).size) l
theorem zjZ {α:Type} (step:Chc→α→Chc) (h:∀c x,(step c x).size≤c.size) (l:List α):∀c,(l.foldl step c).size≤c.size:=by
 induction l with
 | nil=>intro c;exact Nat.le_refl _
 | cons x l ih=>intro c;exact Nat.le_trans (ih _) (h c x)
theorem zf1 {α:Type} (step:Chc→α→Chc) (h:∀c x,(step c x).size≤c.size) {l:List α} {x:α} {m:Nat} (hx:x∈l) (hm:∀c,(step c x).size≤m):∀c,(l.foldl step c).size≤m:=by
 induction l with
 | nil=>cases hx
 | cons y l ih =>
  intro c
  rcases List.mem_cons.1 hx with rfl | hx
  ·exact Nat.le_trans (zjZ step h l _) (hm c)
  ·exact ih hx _
theorem zmg (f:List St→Nat) (l:List St) (c:Chc) (k:Nat):(partStep f l c k).size≤c.size:=by
 unfold partStep;split
 ·rename_i h;exact Nat.le_of_lt h.2
 ·exact Nat.le_refl _
theorem zcN {α:Type} {s t:Chc→α→Chc} {l:List α} (h:∀x∈l,∀c,s c x=t c x):∀c,l.foldl s c=l.foldl t c:=by
 induction l with
 | nil=>intro c;rfl
 | cons x l ih=>intro c;rw [List.foldl_cons,List.foldl_cons,h x (by simp),ih (fun y hy=>h y (by simp [hy]))]
theorem zcv {l:List St} (h:l≠[]):0<l.length:=by
 cases l with
 | nil=>exact absurd rfl h
 | cons x l=>simp
theorem zbN {l:List St} (h:0<l.length):l≠[]:=by rintro rfl;simp at h
theorem zeP {f g:List St→Nat} {l:List St} (hl:l≠[]) (h:∀x:List St,x≠[]→x.length<l.length→f x=g x):chG f l=chG g l:=by
 have hl:=zcv hl
 unfold chG
 split
 ·rfl
 ·have e1:(List.range l.length).foldl (perStep f l) ⟨l.length+1,0,0⟩=(List.range l.length).foldl (perStep g l) ⟨l.length+1,0,0⟩ :=
   zcN (fun p hp c=>by
    have:=List.mem_range.1 hp
    unfold perStep
    by_cases h1:2≤p
    ·rw [h (l.take p) (zbN (by rw [List.length_take];omega)) (by rw [List.length_take];omega)]
    ·rw [if_neg (fun e=>h1 e.1),if_neg (fun e=>h1 e.1)]) _
  rw [e1]
  exact zcN (fun k hk c=>by
   have hk:=List.mem_range.1 (List.mem_reverse.1 hk)
   unfold partStep
   by_cases h1:1≤k
   ·rw [h (l.take k) (zbN (by rw [List.length_take];omega)) (by rw [List.length_take];omega),h (l.drop k) (zbN (by rw [List.length_drop];omega)) (by rw [List.length_drop];omega)]
   ·rw [if_neg (fun e=>h1 e.1),if_neg (fun e=>h1 e.1)]) _
theorem zk5:∀(f:Nat) (l:List St) (f':Nat),l≠[]→l.length≤f→l.length≤f'→chF f l=chF f' l:=by
 intro f
 induction f with
 | zero=>intro l f' hne h _;have:=zcv hne;omega
 | succ f ih =>
  intro l f' hne h h'
  have hl:=zcv hne
  obtain ⟨m,rfl⟩:∃m,f'=m+1:=⟨f'-1,by omega⟩
  rw [chF,chF]
  exact zeP hne (fun x hx hlt=>by rw [ih x m hx (by omega) (by omega)])
def ch (l:List St):Chc:=chF l.length l
theorem zi1 {l:List St} (h:l≠[]):ch l=chG (fun x=>(ch x).size) l:=by
 have hl:=zcv h
 obtain ⟨m,hm⟩:∃m,l.length=m+1:=⟨l.length-1,by omega⟩
 rw [ch,hm,chF]
 exact zeP h (fun x hx hlt=>by rw [ch,zk5 m x x.length hx (by omega) (Nat.le_refl _)])
theorem zga {l:List St} (h:l≠[]) (hp:perB l 1=true):ch l=⟨1,0,0⟩:=by rw [zi1 h,chG,if_pos hp]
theorem zl9 {l:List St} {k:Nat} (h1:1≤k) (hk:k<l.length):(ch l).size≤(ch (l.take k)).size+(ch (l.drop k)).size∨(ch l).size=1:=by
 have h:l≠[]:=zbN (by omega)
 rw [zi1 h,chG]
 split
 ·exact .inr rfl
 ·left
  refine zf1 _ (zmg _ l) (List.mem_reverse.2 (List.mem_range.2 hk)) (fun c=>?_) _
  unfold partStep
  split
  ·exact Nat.le_refl _
  ·rename_i hn
   have:¬(ch (l.take k)).size+(ch (l.drop k)).size<c.size:=fun e=>hn ⟨h1,e⟩
   omega
theorem zgk {α:Type} {Q:Chc→Prop} (step:Chc→α→Chc) {l:List α} (h:∀x∈l,∀c,Q c→Q (step c x)):∀c,Q c→Q (l.foldl step c):=by
 induction l with
 | nil=>intro c hc;exact hc
 | cons x l ih=>intro c hc;exact ih (fun y hy=>h y (by simp [hy])) _ (h x (by simp) c hc)
def Made (l:List St) (c:Chc):Prop :=
 (c=⟨1,0,0⟩∧perB l 1=true)∨(2≤c.period∧c.period<l.length∧c.part=0∧perB l c.period=true∧c.size=1+(ch (l.take c.period)).size) ∨
 (c.period=0∧1≤c.part∧c.part<l.length∧c.size=(ch (l.take c.part)).size+(ch (l.drop c.part)).size)∨c=⟨l.length+1,0,0⟩
theorem zgT {l:List St} (h:l≠[]):Made l (ch l):=by
 rw [zi1 h,chG]
 split
 ·rename_i hp;exact .inl ⟨rfl,hp⟩
 ·refine zgk (Q:=Made l) _ (fun k hk c hc=>?_) _ (zgk (Q:=Made l) _ (fun p hp c hc=>?_) _ (.inr (.inr (.inr rfl))))
  ·have hk:=List.mem_range.1 (List.mem_reverse.1 hk)
   unfold partStep
   split
   ·rename_i hh;exact .inr (.inr (.inl ⟨rfl,hh.1,hk,rfl⟩))
   ·exact hc
  ·have hp:=List.mem_range.1 hp
   unfold perStep
   split
   ·rename_i hh;exact .inr (.inl ⟨hh.1,hp,rfl,hh.2.1,rfl⟩)
   ·exact hc
theorem zjw {x:St}:perB [x] 1=true:=by simp [perB]
theorem zkZ {l:List St}:∀n,l.length=n→l≠[]→1≤(ch l).size∧(ch l).size≤l.length:=by
 intro n
 induction n using Nat.strongRecOn generalizing l with
 | ind n ih =>
  intro hn hne
  have hl:=zcv hne
  constructor
  ·rcases zgT hne with ⟨h,_⟩ | ⟨_,_,_,_,h⟩ | ⟨_,h1,h2,h⟩ | h
   ·rw [h];exact Nat.le_refl _
   ·rw [h];omega
   ·have:=ih (l.take (ch l).part).length (by rw [List.length_take];omega) rfl (zbN (by rw [List.length_take];omega))
    omega
   ·rw [h];simp only;omega
  ·by_cases h1:l.length=1
   ·obtain ⟨x,rfl⟩:∃x,l=[x]:=by
     match l,h1 with
     | [x],_=>exact ⟨x,rfl⟩
    rw [zga hne zjw];simp
   ·have a:=ih (l.take 1).length (by rw [List.length_take];omega) rfl (zbN (by rw [List.length_take];omega))
    have b:=ih (l.drop 1).length (by rw [List.length_drop];omega) rfl (zbN (by rw [List.length_drop];omega))
    rw [List.length_take] at a
    rw [List.length_drop] at b
    rcases zl9 (l:=l) (k:=1) (Nat.le_refl _) (by omega) with h | h <;> omega
theorem zfL {l:List St} (h:l≠[]):(ch l=⟨1,0,0⟩∧perB l 1=true)∨(2≤(ch l).period∧(ch l).period<l.length∧(ch l).part=0∧perB l (ch l).period=true∧(ch l).size=1+(ch (l.take (ch l).period)).size) ∨
  ((ch l).period=0∧1≤(ch l).part∧(ch l).part<l.length∧(ch l).size=(ch (l.take (ch l).part)).size+(ch (l.drop (ch l).part)).size):=by
 rcases zgT h with h1 | h1 | h1 | h1
 ·exact .inl h1
 ·exact .inr (.inl h1)
 ·exact .inr (.inr h1)
 ·have:=zkZ l.length rfl h
  rw [h1] at this
  simp only at this
  omega
end Go.Proofs.YtkneghkbgingdaaGreatDoor
/- The shortest list in plain Lean: it expands to the cells,and no list is shorter. -/
namespace Go.Proofs.YtkneghkbgingdaaGreatDoor
set_option maxRecDepth 100000
theorem zix {l:List St} {p:Nat} (h:perB l p=true):l.length % p=0∧l.drop p=l.take (l.length-p):=by
 simp only [perB,Bool.and_eq_true,decide_eq_true_eq] at h
 exact h
theorem zmD {p:Nat} (hp:0<p):∀(q:Nat) (l:List St),l.length=q*p→l.drop p=l.take (l.length-p)→l=rep q (l.take p):=by
 intro q
 induction q with
 | zero=>intro l h _;rw [Nat.zero_mul] at h;exact List.eq_nil_of_length_eq_zero h
 | succ q ih =>
  intro l h hd
  have hlen:l.length=q*p+p:=by rw [h,Nat.add_mul,Nat.one_mul]
  rw [rep]
  rcases Nat.eq_zero_or_pos q with h0 | h0
  ·subst h0
   rw [Nat.zero_mul,Nat.zero_add] at hlen
   rw [rep,List.append_nil,List.take_of_length_le (by omega)]
  ·have hq:p≤q*p:=Nat.le_mul_of_pos_left p h0
   have h1:(l.drop p).length=q*p:=by rw [List.length_drop];omega
   have h2:(l.drop p).take p=l.take p:=by
    rw [hd,List.take_take];congr 1;omega
   have h3:=ih (l.drop p) h1 (by
    have e:(l.drop p).length-p=q*p-p:=by rw [h1]
    rw [e]
    have e2:l.drop p=l.take (q*p):=by rw [hd,hlen,Nat.add_sub_cancel]
    have e3:(l.drop p).take (q*p-p)=l.take (q*p-p):=by rw [e2,List.take_take];congr 1;omega
    rw [e3]
    calc (l.drop p).drop p=(l.take (q*p)).drop p:=by rw [e2]
     _=(l.drop p).take (q*p-p):=by rw [List.drop_take]
     _=l.take (q*p-p):=e3)
   rw [h2] at h3
   rw [←h3,List.take_append_drop]
theorem zlw {l:List St} {p:Nat} (hp:0<p) (h:perB l p=true):l=rep (l.length / p) (l.take p):=by
 obtain ⟨h1,h2⟩:=zix h
 exact zmD hp _ l (by have:=Nat.div_add_mod l.length p;rw [h1,Nat.add_zero,Nat.mul_comm] at this;exact this.symm) h2
theorem zjF (n:Nat) (x:St):rep n [x]=List.replicate n x:=by
 induction n with
 | zero=>rfl
 | succ n ih=>rw [rep,ih,List.replicate_succ];rfl
theorem zmL {l:List St} (hl:l≠[]) (h:perB l 1=true):l=List.replicate l.length (l.getD 0 st0):=by
 have h1:=zlw (by omega) h
 rw [Nat.div_one] at h1
 have h2:l.take 1=[l.getD 0 st0]:=by
  cases l with
  | nil=>exact absurd rfl hl
  | cons x l=>rfl
 rw [h2,zjF] at h1
 exact h1
theorem zcE (n:Nat) (g:List St):rep (n+1) g=rep n g++g:=by
 induction n with
 | zero=>simp [rep]
 | succ n ih =>
  show g++rep (n+1) g=(g++rep n g)++g
  rw [ih,List.append_assoc]
theorem zi8 {l:List St} (h:l≠[]):l.getD 0 st0∈l:=by
 cases l with
 | nil=>exact absurd rfl h
 | cons x l=>simp
def mkT:Nat→List St→Tms
 | 0,_ => .nil
 | f+1,l =>
  if 0<(ch l).part then (mkT f (l.take (ch l).part)).app (mkT f (l.drop (ch l).part))
  else if 0<(ch l).period then .cons ((l.length / (ch l).period:Nat):Int) st0 (mkT f (l.take (ch l).period)) .nil
  else .cons (l.length:Int) (l.getD 0 st0) .nil .nil
def Tms.top (m:Int):Tms→Prop
 | .nil=>True
 | .cons n _ g r=>n≤m∧g.top m∧r.top m
def Tms.good (q:St→Prop):Tms→Prop
 | .nil=>True
 | .cons _ c .nil r=>q c∧r.good q
 | .cons _ c g r=>c=st0∧g.good q∧r.good q
theorem zgR (q:St→Prop) (n:Int) (c:St) (r:Tms):(Tms.cons n c .nil r).good q=(q c∧r.good q):=rfl
theorem zep (q:St→Prop) (n:Int) (c:St) (g r:Tms) (h:g ≠ .nil):(Tms.cons n c g r).good q=(c=st0∧g.good q∧r.good q):=by
 cases g with
 | nil=>exact absurd rfl h
 | cons=>rfl
theorem zmw (m:Int):∀(a b:Tms),a.top m→b.top m→(a.app b).top m:=by
 intro a
 induction a with
 | nil=>intro b _ h;exact h
 | cons n c g r _ ih2=>intro b h k;exact ⟨h.1,h.2.1,ih2 b h.2.2 k⟩
theorem zj2 (q:St→Prop):∀(a b:Tms),a.good q→b.good q→(a.app b).good q:=by
 intro a
 induction a with
 | nil=>intro b _ h;exact h
 | cons n c g r _ ih2 =>
  intro b h k
  rw [Tms.app]
  by_cases hg:g = .nil
  ·subst hg
   rw [zgR] at h ⊢
   exact ⟨h.1,ih2 b h.2 k⟩
  ·rw [zep _ _ _ _ _ hg] at h ⊢
   exact ⟨h.1,h.2.1,ih2 b h.2.2 k⟩
theorem zm5 {a b:Tms} (h:a ≠ .nil):a.app b ≠ .nil:=by
 cases a with
 | nil=>exact absurd rfl h
 | cons=>intro e;cases e
structure IsT (l:List St) (t:Tms):Prop where
 cells:t.cells=l
 size:t.size=(ch l).size
 pos:t.pos
 ne:t ≠ .nil
 top:t.top l.length
 good:∀q:St→Prop,(∀x∈l,q x)→t.good q
 depth:∀k,l.length<2 ^ (k+1)→t.depth≤k+1
theorem zcC {m m':Int} (h:m≤m'):∀ {t:Tms},t.top m→t.top m':=by
 intro t
 induction t with
 | nil=>intro _;trivial
 | cons n c g r ih1 ih2=>intro k;exact ⟨Int.le_trans k.1 h,ih1 k.2.1,ih2 k.2.2⟩
theorem zlL:∀(f:Nat) (l:List St),l≠[]→l.length≤f→IsT l (mkT f l):=by
 intro f
 induction f with
 | zero=>intro l h1 h2;have:=zcv h1;omega
 | succ f ih =>
  intro l hne hf
  have hl:=zcv hne
  rw [mkT]
  rcases zfL hne with ⟨h1,h2⟩ | ⟨h1,h2,h3,h4,h5⟩ | ⟨h1,h2,h3,h4⟩
  ·rw [h1]
   simp only [Nat.lt_irrefl,if_false]
   refine ⟨?_,by rw [h1];rfl,⟨by omega,trivial,trivial⟩,(by intro e;cases e),⟨Int.le_refl _,trivial,trivial⟩,fun q hq=>⟨hq _ (zi8 hne),trivial⟩,fun k _=>by simp [Tms.depth]⟩
   rw [zaC]
   simp only [Tms.cells,List.append_nil,Int.toNat_natCast]
   exact (zmL hne h2).symm
  ·rw [if_neg (by omega),if_pos (by omega)]
   have hln:(l.take (ch l).period).length=(ch l).period:=by rw [List.length_take];omega
   have it:=ih (l.take (ch l).period) (zbN (by omega)) (by omega)
   have hdiv:2*(ch l).period≤l.length:=by
    have hm:=(zix h4).1
    have hq:2≤l.length / (ch l).period:=by
     rcases Nat.lt_or_ge (l.length / (ch l).period) 2 with hlt | hge
     ·have e:=Nat.div_add_mod l.length (ch l).period
      rw [hm,Nat.add_zero] at e
      have:(ch l).period*(l.length / (ch l).period)≤(ch l).period*1:=Nat.mul_le_mul_left _ (by omega)
      omega
     ·exact hge
    have:=Nat.div_mul_le_self l.length (ch l).period
    have:=Nat.mul_le_mul_right (ch l).period hq
    omega
   have hq1:1≤l.length / (ch l).period:=Nat.div_pos (by omega) (by omega)
   have hq2:l.length / (ch l).period≤l.length:=Nat.div_le_self _ _
   refine ⟨?_,?_,⟨by omega,it.pos,trivial⟩,(by intro e;cases e),⟨by omega,zcC (by omega) it.top,trivial⟩,fun q hq=>?_,fun k hk=>?_⟩
   ·rw [zbi _ _ _ _ it.ne,it.cells]
    simp only [Tms.cells,List.append_nil,Int.toNat_natCast]
    exact (zlw (by omega) h4).symm
   ·rw [Tms.size,it.size,h5];rfl
   ·rw [zep _ _ _ _ _ it.ne]
    exact ⟨rfl,it.good q (fun x hx=>hq x (List.mem_of_mem_take hx)),trivial⟩
   ·rw [Tms.depth]
    simp only [Tms.depth]
    cases k with
    | zero=>rw [Nat.zero_add,Nat.pow_one] at hk;omega
    | succ k =>
     have:=it.depth k (by rw [Nat.pow_succ] at hk;omega)
     omega
  ·rw [if_pos (by omega)]
   have hl1:(l.take (ch l).part).length=(ch l).part:=by rw [List.length_take];omega
   have hl2:(l.drop (ch l).part).length=l.length-(ch l).part:=by rw [List.length_drop]
   have i1:=ih (l.take (ch l).part) (zbN (by omega)) (by omega)
   have i2:=ih (l.drop (ch l).part) (zbN (by omega)) (by omega)
   refine ⟨by rw [zip,i1.cells,i2.cells,List.take_append_drop],by rw [zkn,i1.size,i2.size,h4],zmo _ _ i1.pos i2.pos,zm5 i1.ne,zmw _ _ _ (zcC (by omega) i1.top) (zcC (by omega) i2.top),
    fun q hq=>zj2 _ _ _ (i1.good q (fun x hx=>hq x (List.mem_of_mem_take hx))) (i2.good q (fun x hx=>hq x (List.mem_of_mem_drop hx))),fun k hk=>?_⟩
   rw [zjj]
   have:=i1.depth k (by omega)
   have:=i2.depth k (by omega)
   omega
def findT (l:List St):Tms:=if l=[] then .nil else mkT l.length l
theorem zfK {l:List St} (h:l≠[]):IsT l (findT l):=by rw [findT,if_neg h];exact zlL _ _ h (Nat.le_refl _)
theorem zhm (l:List St):(findT l).cells=l:=by
 by_cases h:l=[]
 ·subst h;rfl
 ·exact (zfK h).cells
theorem zkY (a:List St):(findT a).size≤a.length:=by
 by_cases h:a=[]
 ·subst h;simp [findT,Tms.size]
 ·rw [(zfK h).size];exact (zkZ a.length rfl h).2
end Go.Proofs.YtkneghkbgingdaaGreatDoor
/- What Check,Size and Expand of terms say,in plain Lean. -/
namespace Go.Proofs.YtkneghkbgingdaaGreatDoor
set_option maxRecDepth 100000
def szM (t:Tms):Int:=min (t.size:Int) 201
def fineT:Tms→Bool
 | .nil=>true
 | .cons n c .nil r=>inR n 1 200 && okSt c && fineT r
 | .cons n c g r=>inR n 1 200 && decide (c=st0) && fineT g && fineT r
theorem zaE (n:Int) (c:St) (r:Tms):fineT (.cons n c .nil r)=(inR n 1 200 && okSt c && fineT r):=rfl
theorem zaJ (n:Int) (c:St) (g r:Tms) (h:g ≠ .nil):fineT (.cons n c g r)=(inR n 1 200 && decide (c=st0) && fineT g && fineT r):=by
 cases g with
 | nil=>exact absurd rfl h
 | cons=>rfl
def lenT:Tms→Int→Int
 | .nil,m=>m
 | .cons n _ .nil r,m=>lenT r (min (m+1*n) 201)
 | .cons n _ g r,m=>lenT r (min (m+lenT g 0*n) 201)
theorem zdX (n:Int) (c:St) (r:Tms) (m:Int):lenT (.cons n c .nil r) m=lenT r (min (m+1*n) 201):=rfl
theorem zej (n:Int) (c:St) (g r:Tms) (m:Int) (h:g ≠ .nil):lenT (.cons n c g r) m=lenT r (min (m+lenT g 0*n) 201):=by
 cases g with
 | nil=>exact absurd rfl h
 | cons=>rfl
def tchkE (t:Tms):Int:=if 200<t.size∨8<t.depth then 4 else if fineT t then (if 200<lenT t 0 then 4 else 0) else 8
theorem zgm:∀ {t:Tms},fineT t=true→t.pos:=by
 intro t
 induction t with
 | nil=>intro _;trivial
 | cons n c g r ih1 ih2 =>
  intro h
  by_cases hg:g = .nil
  ·subst hg
   rw [zaE] at h
   simp only [Bool.and_eq_true] at h
   exact ⟨(za8 h.1.1).1,trivial,ih2 h.2⟩
  ·rw [zaJ _ _ _ _ hg] at h
   simp only [Bool.and_eq_true] at h
   exact ⟨(za8 h.1.1.1).1,ih1 h.1.2,ih2 h.2⟩
theorem zmP:∀ {t:Tms},t.pos→∀m:Int,0≤m→lenT t (min m 201)=min (m+t.cells.length) 201:=by
 intro t
 induction t with
 | nil=>intro _ m _;simp [lenT,Tms.cells]
 | cons n c g r ih1 ih2 =>
  intro hp m hm
  have hn:=hp.1
  by_cases hg:g = .nil
  ·subst hg
   rw [zdX,zaC,List.length_append,List.length_replicate]
   have e:min (min m 201+1*n) 201=min (m+n) 201:=by omega
   rw [e,ih2 hp.2.2 _ (by omega)]
   omega
  ·rw [zej _ _ _ _ _ hg,zbi _ _ _ _ hg,List.length_append,za1]
   have h0:=ih1 hp.2.1 0 (Int.le_refl _)
   rw [show min (0:Int) 201=0 by omega,Int.zero_add] at h0
   rw [h0]
   have hc:=ziI hp.2.1 hg
   generalize hL:g.cells.length=L at *
   have hmul:(((n.toNat*L:Nat)):Int)=L*n:=by rw [Int.natCast_mul,Int.mul_comm];congr 1;omega
   have e:min (min m 201+min (L:Int) 201*n) 201=min (m+((n.toNat*L:Nat):Int)) 201:=by
    rw [hmul]
    rcases Nat.lt_or_ge L 201 with h | h
    ·rw [show min (L:Int) 201=L by omega]
     have:0≤(L:Int)*n:=Int.mul_nonneg (by omega) (by omega)
     omega
    ·rw [show min (L:Int) 201=201 by omega]
     have h1:(L:Int)*1≤L*n:=Int.mul_le_mul_of_nonneg_left hn (by omega)
     omega
   rw [e,ih2 hp.2.2 _ (by omega)]
   rw [Int.natCast_add]
   omega
theorem zg0 {t:Tms} (h:t.pos):lenT t 0=min (t.cells.length:Int) 201:=by
 have:=zmP h 0 (Int.le_refl _)
 rwa [show min (0:Int) 201=0 by omega,Int.zero_add] at this
theorem zgH {t:Tms} (h:tchkE t=0):t.size≤200∧t.depth≤8∧fineT t=true∧t.cells.length≤200:=by
 unfold tchkE at h
 split at h
 ·omega
 ·rename_i h1
  split at h
  ·rename_i h2
   split at h
   ·omega
   ·rename_i h3
    rw [zg0 (zgm h2)] at h3
    exact ⟨by omega,by omega,h2,by omega⟩
  ·omega
theorem zlD {t:Tms} (h1:t.size≤200) (h2:t.depth≤8) (h3:fineT t=true) (h4:t.cells.length≤200):tchkE t=0:=by
 rw [tchkE,if_neg (by omega),if_pos h3,if_neg (by rw [zg0 (zgm h3)];omega)]
theorem ziT:∀ {t:Tms},t.pos→t.top 200→t.good (fun x=>okSt x=true)→fineT t=true:=by
 intro t
 induction t with
 | nil=>intro _ _ _;rfl
 | cons n c g r ih1 ih2 =>
  intro hp ht hg0
  by_cases hg:g = .nil
  ·subst hg
   rw [zgR] at hg0
   rw [zaE,zjP hp.1 ht.1,hg0.1,ih2 hp.2.2 ht.2.2 hg0.2];rfl
  ·rw [zep _ _ _ _ _ hg] at hg0
   rw [zaJ _ _ _ _ hg,zjP hp.1 ht.1,hg0.1,ih1 hp.2.1 ht.2.1 hg0.2.1,ih2 hp.2.2 ht.2.2 hg0.2.2];simp
theorem zkB {l:List St} (h:allB l=true) (hl:l.length≤60):tchkE (findT l)=0:=by
 by_cases hne:l=[]
 ·subst hne;rfl
 ·have hi:=zfK hne
  have h1:=zkY l
  refine zlD (by omega) ?_ (ziT hi.pos (zcC (by omega) hi.top) (hi.good _ (fun x hx=>List.all_eq_true.1 h x hx))) (by rw [hi.cells];omega)
  have:=hi.depth 5 (by omega)
  omega
end Go.Proofs.YtkneghkbgingdaaGreatDoor
/- The texts of stitches in plain Lean: what is written,and what is read. -/
namespace Go.Proofs.YtkneghkbgingdaaGreatDoor
set_option maxRecDepth 100000
def dg (n:Nat):UInt8:=UInt8.ofNat (48+n % 10)
def isDg (c:UInt8):Bool:=decide (48≤c) && decide (c≤57)
def decF:Nat→Nat→List UInt8
 | 0,_=>[]
 | f+1,n=>if n<10 then [dg n] else decF f (n / 10)++[dg (n % 10)]
def decD (n:Nat):List UInt8:=decF 20 n
def valD (l:List UInt8):Nat:=l.foldl (fun v c=>10*v+(c.toNat-48)) 0
def headD:Nat→List UInt8→Nat
 | 0,_=>0
 | _+1,[]=>0
 | k+1,c::l=>if isDg c then headD k l+1 else 0
def numR (l:List UInt8):Int×List UInt8:=if headD 4 l=0 then (-1,l) else ((valD (l.take (headD 4 l)):Int),l.drop (headD 4 l))
def wordT (s:St):List UInt8 :=
 if s.k=2 then [121,111] else if s.k=9 then [111,110]++decD s.a.toNat
 else (if s.p then [112] else [107])++flt s.k++(if 0<fa1 s.k then decD s.a.toNat else [])++(if 0<fb1 s.k then 47::decD s.b.toNat else [])
def grp:List St→List (St×Nat)
 | []=>[]
 | s::l=>match grp l with
  | (t,n)::g=>if s.k=1∧s=t then (t,n+1)::g else (s,1)::(t,n)::g
  | []=>[(s,1)]
def wordG (x:St×Nat):List UInt8:=wordT x.1++if 1<x.2 then decD x.2 else []
def joinB (c:UInt8):List (List UInt8)→List UInt8
 | []=>[]
 | [x]=>x
 | x::y::l=>x++c::joinB c (y::l)
def textL (l:List St):List UInt8:=joinB 32 ((grp l).map wordG)
def spl (c:UInt8):List UInt8→List (List UInt8)
 | []=>[[]]
 | x::l=>if x=c then []::spl c l else match spl c l with
  | h::t=>(x::h)::t
  | []=>[[x]]
theorem zb8 (c:UInt8) (l:List UInt8):spl c l≠[]:=by
 cases l with
 | nil=>simp [spl]
 | cons x l =>
  unfold spl
  split
  ·simp
  ·split <;> simp
theorem zcD {c:UInt8} {w:List UInt8} (h:c ∉ w):spl c w=[w]:=by
 induction w with
 | nil=>rfl
 | cons x w ih =>
  have h1:¬x=c:=fun e=>h (by simp [e])
  have h2:=ih (fun e=>h (by simp [e]))
  unfold spl
  rw [if_neg h1,h2]
theorem zbL {c:UInt8} {w l:List UInt8} (h:c ∉ w):spl c (w++c::l)=w::spl c l:=by
 induction w with
 | nil=>simp [spl]
 | cons x w ih =>
  have h1:¬x=c:=fun e=>h (by simp [e])
  have h2:=ih (fun e=>h (by simp [e]))
  rw [List.cons_append,spl,if_neg h1,h2]
theorem zgp {c:UInt8}:∀ {ws:List (List UInt8)},ws≠[]→(∀w∈ws,c ∉ w)→spl c (joinB c ws)=ws:=by
 intro ws
 induction ws with
 | nil=>intro h;exact absurd rfl h
 | cons x ws ih =>
  intro _ h
  cases ws with
  | nil=>exact zcD (h x (by simp))
  | cons y ws =>
   rw [joinB,zbL (h x (by simp)),ih (by simp) (fun w hw=>h w (by simp at hw ⊢;exact .inr hw))]
def kindL (c:UInt8):Int:=if c=102 then 3 else if c=108 then 4 else if c=109 then 5 else if c=120 then 6 else if c=121 then 7 else if c=115 then 8 else if c=111 then 10 else if c=63 then 0 else 3
def trimS (l:List UInt8):List UInt8:=match l with
 | 47::t=>t
 | l=>l
def readK (p:Bool) (c:UInt8) (rest:List UInt8):St :=
 let k:=kindL c
 let a:=if 0<fa1 k then numR rest else (0,rest)
 ⟨k,p,a.1,if 0<fb1 k then (numR (trimS a.2)).1 else 0⟩
def readW:List UInt8→St×Int
 | []=>(st0,1)
 | c::rest =>
  if c=121∧rest=[111] then (⟨2,false,0,0⟩,1)
  else if c=111∧rest.head?=some 110 then (⟨9,false,(numR rest.tail).1,0⟩,1)
  else if ¬(c=107∨c=112) then (st0,1)
  else match rest with
   | []=>(⟨1,decide (c=112),0,0⟩,1)
   | d::r=>if 0≤(numR (d::r)).1 then (⟨1,decide (c=112),0,0⟩,min (max (numR (d::r)).1 1) 201) else (readK (decide (c=112)) d r,1)
def rng (lo hi:Nat):List Int:=(List.range (hi+1-lo)).map (fun i=>((lo+i:Nat):Int))
def allSt:List St :=
 [false,true].flatMap (fun p=>[⟨1,p,0,0⟩,⟨8,p,0,0⟩]++(rng 2 4).flatMap (fun a=>[⟨3,p,a,0⟩,⟨4,p,a,0⟩,⟨5,p,a,0⟩])
  ++ (rng 1 6).flatMap (fun a=>(rng 1 6).flatMap (fun b=>[⟨6,p,a,b⟩,⟨7,p,a,b⟩]))++(rng 1 200).map (fun a=>⟨10,p,a,0⟩))
 ++ ⟨2,false,0,0⟩::(rng 1 200).map (fun a=>⟨9,false,a,0⟩)
theorem zbp {lo hi:Nat} {x:Int} (h1:(lo:Int)≤x) (h2:x≤hi):x∈rng lo hi:=by
 rw [rng,List.mem_map]
 exact ⟨x.toNat-lo,List.mem_range.2 (by omega),by omega⟩
theorem zbC {s:St} (h:okSt s=true):s∈allSt:=by
 obtain ⟨hk,ha,hb,hp⟩:=zj7 h
 have ha:=za8 ha
 have hb:=za8 hb
 obtain ⟨k,p,a,b⟩:=s
 simp only at hk ha hb hp
 have hpm:p∈[false,true]:=by cases p <;> simp
 unfold allSt
 rw [List.mem_append]
 rcases zaB hk with e | e | e | e | e | e | e | e | e | e <;> subst e <;> simp [fa0,fa1,fb0,fb1,fsd] at ha hb hp
 ·left
  obtain rfl:a=0:=by omega
  obtain rfl:b=0:=by omega
  exact List.mem_flatMap.2 ⟨p,hpm,by simp⟩
 ·right
  obtain rfl:a=0:=by omega
  obtain rfl:b=0:=by omega
  subst hp
  simp
 ·left
  obtain rfl:b=0:=by omega
  exact List.mem_flatMap.2 ⟨p,hpm,List.mem_append_left _ (List.mem_append_left _ (List.mem_append_right _ (List.mem_flatMap.2 ⟨a,zbp (by omega) (by omega),by simp⟩)))⟩
 ·left
  obtain rfl:b=0:=by omega
  exact List.mem_flatMap.2 ⟨p,hpm,List.mem_append_left _ (List.mem_append_left _ (List.mem_append_right _ (List.mem_flatMap.2 ⟨a,zbp (by omega) (by omega),by simp⟩)))⟩
 ·left
  obtain rfl:b=0:=by omega
  exact List.mem_flatMap.2 ⟨p,hpm,List.mem_append_left _ (List.mem_append_left _ (List.mem_append_right _ (List.mem_flatMap.2 ⟨a,zbp (by omega) (by omega),by simp⟩)))⟩
 ·left
  exact List.mem_flatMap.2 ⟨p,hpm,List.mem_append_left _ (List.mem_append_right _ (List.mem_flatMap.2 ⟨a,zbp (by omega) (by omega),List.mem_flatMap.2 ⟨b,zbp (by omega) (by omega),by simp⟩⟩))⟩
 ·left
  exact List.mem_flatMap.2 ⟨p,hpm,List.mem_append_left _ (List.mem_append_right _ (List.mem_flatMap.2 ⟨a,zbp (by omega) (by omega),List.mem_flatMap.2 ⟨b,zbp (by omega) (by omega),by simp⟩⟩))⟩
 ·left
  obtain rfl:a=0:=by omega
  obtain rfl:b=0:=by omega
  exact List.mem_flatMap.2 ⟨p,hpm,by simp⟩
 ·right
  obtain rfl:b=0:=by omega
  subst hp
  exact List.mem_cons_of_mem _ (List.mem_map.2 ⟨a,zbp (by omega) (by omega),rfl⟩)
 ·left
  obtain rfl:b=0:=by omega
  exact List.mem_flatMap.2 ⟨p,hpm,List.mem_append_right _ (List.mem_map.2 ⟨a,zbp (by omega) (by omega),rfl⟩)⟩
def wordOk (s:St):Bool:=decide (readW (wordT s)=(s,1)) && !(wordT s).contains 32 && !(wordT s).contains 10 && decide ((wordT s).length≤5) && decide (0<(wordT s).length)
theorem zgI:allSt.all wordOk=true:=by decide +kernel
def runOk (n:Nat):Bool:=[false,true].all (fun p=>decide (readW (wordG (⟨1,p,0,0⟩,n+2))=(⟨1,p,0,0⟩,((n+2:Nat):Int))) && !(wordG (⟨1,p,0,0⟩,n+2)).contains 32 && !(wordG (⟨1,p,0,0⟩,n+2)).contains 10 && decide ((wordG (⟨1,p,0,0⟩,n+2)).length≤5))
theorem zmH:(List.range 199).all runOk=true:=by decide +kernel
end Go.Proofs.YtkneghkbgingdaaGreatDoor
