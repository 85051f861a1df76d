/- Stitches in plain Lean: what is valid, what they use and make. -/
namespace Go.Proofs.YtkneghkbgingdaaGreatDoor
theorem Zb:∀ {α:Type _} {l bs:List α},(l++bs).length=l.length+bs.length:=@List.length_append
theorem Zc:∀ {α:Type _} {l:List α} {i:Nat} {a:α},l.getD i a=l[i]?.getD a:=@List.getD_eq_getElem?_getD
theorem Zd:∀ {α:Type _} {l:List α} {i:Nat} (_:i<l.length),l[i]? = some l[i]:=@List.getElem?_eq_getElem
theorem Ze:∀ {α:Type _} [BEq α] [LawfulBEq α] {a b:α},(a == b)=false↔a≠b:=@beq_eq_false_iff_ne
theorem Zg:∀ (n:Nat),n<=n:=@Nat.le_refl
theorem Zk:∀ {α:Type _} {a:α} {l:List α},(a::l).length=l.length+1:=@List.length_cons
theorem Zm:∀ {α:Type _} {i:Nat} {b:α} {xs:Array α},xs[i]? = some b↔∃ (_:i<xs.size),xs[i]=b:=@Array.getElem?_eq_some_iff
theorem Zo:∀ {n m k:Nat},n<m->m<=k->n<k:=@Nat.lt_of_lt_of_le
theorem Zq:∀ {α:Type _} {p:α->Bool} {l:List α},l.all p=true↔∀ (x:α),x∈l->p x=true:=@List.all_eq_true
theorem Zt:∀ (a b:Bool),((a && b)=true)=(a=true/\b=true):=@Bool.and_eq_true
theorem Zu:∀ {α:Type _} {i:Nat} {l:List α},(List.drop i l).length=l.length-i:=@List.length_drop
theorem Zv:∀ {α:Type _} {a:α},[a].length=1:=@List.length_singleton
theorem Zx:∀ {α:Type _} {i:Nat} {l:List α},(List.take i l).length=min i l.length:=@List.length_take
theorem Zy:∀ (n:Nat),0<=n:=@Nat.zero_le
theorem Zz:∀ {α:Type _} {β:Type _} (a:α) (f:α->Option β),(some a).bind f=f a:=@Option.bind_some
theorem ZA:∀ {α:Type _} {a:α} {s t:List α},a∈s++t↔a∈s∨a∈t:=@List.mem_append
theorem ZB:∀ {α:Type _} (l bs cs:List α),l++bs++cs=l++(bs++cs):=@List.append_assoc
theorem ZC:∀ {α:Type _} (l:List α),l++[]=l:=@List.append_nil
theorem ZD:∀ {n m k:Nat},n<=m->m<=k->n<=k:=@Nat.le_trans
theorem ZE:∀ {α:Type _} {i:Nat} {l:List α},l.length<=i->List.take i l=l:=@List.take_of_length_le
theorem ZF:∀ {p:Prop} [Decidable p],¬p->decide p=false:=@decide_eq_false
theorem ZG:∀ {p:Prop} [Decidable p],(decide p=true)=p:=@decide_eq_true_eq
theorem ZH:∀ {α:Type _} {b:α} {α_1:Type _} {x:Option α_1} {f:α_1->α},Option.map f x=some b↔∃ (a:α_1),x=some a/\f a=b:=@Option.map_eq_some_iff
theorem ZI:∀ {α:Type _} {b:α} {l:List α} {a:α},a∈b::l↔a=b∨a∈l:=@List.mem_cons
theorem ZK:∀ {α:Type _} {i:Nat} {a:α} {l:List α},l[i]? = some a↔∃ (_:i<l.length),l[i]=a:=@List.getElem?_eq_some_iff
theorem ZL:∀ {α:Type _} {l₁ l₂:List α} {i:Nat},l₁.length<=i->(l₁++l₂)[i]? = l₂[i-l₁.length]?:=@List.getElem?_append_right
theorem ZM:∀ {α:Type _} {l:List α},0<l.length↔l≠[]:=@List.length_pos_iff
theorem ZN:∀ {α:Type _} {l₁ l₂:List α} {i:Nat},i<l₁.length->(l₁++l₂)[i]? = l₁[i]?:=@List.getElem?_append_left
theorem ZO:∀ {α:Type _} {b:α} {α_1:Type _} {x:Option α_1} {f:α_1->Option α},x.bind f=some b↔∃ (a:α_1),x=some a/\f a=some b:=@Option.bind_eq_some_iff
theorem ZP:∀ {m n:Nat},m∈List.range n↔m<n:=@List.mem_range
theorem ZQ:∀ {a b:UInt8},a.toNat=b.toNat↔a=b:=@UInt8.toNat_inj
theorem ZR:∀ {α:Type _} {x:α} {xs:List α} {d:α},(x::xs).getD 0 d=x:=@List.getD_cons_zero
theorem ZS:∀ {α:Type _} {β:Type _} {f:α->List β} {b:β} {l:List α},b∈List.flatMap f l↔∃ (a:α),a∈l/\b∈f a:=@List.mem_flatMap
theorem ZT:∀ {α:Type _} {l:List α},l.length=0->l=[]:=@List.eq_nil_of_length_eq_zero
theorem ZU:∀ {α:Type _} {a:α} {l bs:List α},a::l++bs=a::(l++bs):=@List.cons_append
theorem ZV:∀ {α:Type _} {xs:List α} {i j:Nat},(List.drop i xs)[j]? = xs[i+j]?:=@List.getElem?_drop
theorem ZW:∀ {p:Prop} [Decidable p],p->decide p=true:=@decide_eq_true
theorem ZX:∀ {p:Prop} [Decidable p],decide p=false↔¬p:=@decide_eq_false_iff_not
theorem ZY:∀ {α:Type _} {a b:α},a∈[b]↔a=b:=@List.mem_singleton
theorem ZZ:∀ {α:Type _} {n:Nat} {a:α},(List.replicate n a).length=n:=@List.length_replicate
theorem Z0:∀ (n m:Nat),n<m∨n ≥ m:=@Nat.lt_or_ge
theorem Z1:∀ {α:Type _} {β:Type _} {xs ys:List α} {f:α->List β},List.flatMap f (xs++ys)=List.flatMap f xs++List.flatMap f ys:=@List.flatMap_append
theorem Z3:∀ {α:Type _} {i:Nat} {l:List α},l.length<=i->List.drop i l=[]:=@List.drop_of_length_le
theorem Z4:∀ {α:Type _} (i:Nat) (l:List α),List.take i l++List.drop i l=l:=@List.take_append_drop
theorem Z5:∀ {α:Type _} {i:Nat} {l:List α} (_:i<l.length),List.drop i l=l[i]::List.drop (i+1) l:=@List.drop_eq_getElem_cons
theorem Z6:∀ {α:Type _} {β:Type _} {f:α->β} {a:α} {l:List α},List.map f (a::l)=f a::List.map f l:=@List.map_cons
theorem Z7:∀ {α:Type _} {l:List α} {i:Nat} {a:α},l[i]? = some a->a∈l:=@List.mem_of_getElem?
theorem Z8:∀ {α:Type _} {val val_1:α},some val=some val_1->val=val_1:=@Option.some.inj
set_option maxRecDepth 100000
def inR (n lo hi:Int):Bool:=decide (lo<=n) && decide (n<=hi)
theorem zj7 {n lo hi:Int} (h:lo<=n) (k:n<=hi):inR n lo hi=true:=by simp [inR,h,k]
theorem zj6 {n lo hi:Int} (h:n<lo∨hi<n):inR n lo hi=false:=by simp [inR];omega
theorem zbe {n lo hi:Int} (h:inR n lo hi=true):lo<=n/\n<=hi:=by simpa [inR] using h
theorem zoX {n lo hi:Int} (h:inR n lo hi=false):n<lo∨hi<n:=by simp [inR] at h;omega
structure St where
 k:Int
 p:Bool
 a:Int
 b:Int
theorem St.ext_ {x y:St} (h1:x.k=y.k) (h2:x.p=y.p) (h3:x.a=y.a) (h4:x.b=y.b):x=y:=by
 cases x;cases y;simp only at h1 h2 h3 h4;subst h1;subst h2;subst h3;subst h4;rfl
instance:DecidableEq St:=fun x y =>
 if h:x.k=y.k/\x.p=y.p/\x.a=y.a/\x.b=y.b then isTrue (St.ext_ h.1 h.2.1 h.2.2.1 h.2.2.2)
 else isFalse (fun e=>h (by subst e;exact ⟨rfl,rfl,rfl,rfl⟩))
def st0:St:=⟨0,false,0,0⟩
def kindB (k:Int):Bool:=inR k 1 10
def fa0 (k:Int):Int:=if k=3∨k=4∨k=5 then 2 else if k=6∨k=7∨k=9∨k=10 then 1 else 0
def fa1 (k:Int):Int:=if k=3∨k=4∨k=5 then 4 else if k=6∨k=7 then 6 else if k=9∨k=10 then 200 else 0
def fb0 (k:Int):Int:=if k=6∨k=7 then 1 else 0
def fb1 (k:Int):Int:=if k=6∨k=7 then 6 else 0
def fsd (k:Int):Bool:=decide (k=1∨(3<=k/\k<=8)∨k=10)
def fus (k:Int):Int:=if k=1∨k=5∨k=8 then 1 else if k=3∨k=4∨k=10 then 2 else if k=6∨k=7 then 3 else 0
def fmd (k:Int):Int:=if k=1∨k=2∨k=3∨k=4∨k=8 then 1 else if k=5∨k=9 then 2 else if k=6∨k=7 then 3 else 0
def flt (k:Int):List UInt8:=if k=3 then [102] else if k=4 then [108] else if k=5 then [109] else if k=6 then [120] else if k=7 then [121] else if k=8 then [115] else if k=10 then [111] else []
def okSt (s:St):Bool:=kindB s.k && inR s.a (fa0 s.k) (fa1 s.k) && inR s.b (fb0 s.k) (fb1 s.k) && !(s.p && !fsd s.k)
def okE (s:St):Int:=if okSt s then 0 else 8
def lpV (a b how:Int):Int:=if how=0 then 0 else if how=1 then 1 else if how=2 then a else a+b
def usV (s:St):Int:=lpV s.a s.b (fus s.k)
def mkV (s:St):Int:=lpV s.a s.b (fmd s.k)
def usL (l:List St):Int:=(l.map usV).sum
def mkL (l:List St):Int:=(l.map mkV).sum
def allB (l:List St):Bool:=l.all okSt
def allE (l:List St):Int:=if 200<l.length then 4 else if allB l then (if 200<max (usL l) (mkL l) then 4 else 0) else 8
def usG (l:List St):Int:=if allE l=0 then usL l else 0
def mkG (l:List St):Int:=if allE l=0 then mkL l else 0
theorem zax {k:Int} (h:kindB k=true):k=1∨k=2∨k=3∨k=4∨k=5∨k=6∨k=7∨k=8∨k=9∨k=10:=by
 have:=zbe h;omega
theorem zml {s:St} (h:okSt s=true):kindB s.k=true/\inR s.a (fa0 s.k) (fa1 s.k)=true/\inR s.b (fb0 s.k) (fb1 s.k)=true/\(s.p && !fsd s.k)=false:=by
 simp only [okSt,Zt,Bool.not_eq_true'] at h
 exact ⟨h.1.1.1,h.1.1.2,h.1.2,h.2⟩
theorem zn1 {s:St} (h:okSt s=true):(0<=s.a/\s.a<=200/\0<=s.b/\s.b<=6)/\(0<=usV s/\usV s<=200)/\(0<=mkV s/\mkV s<=200)/\(0<=fus s.k/\fus s.k<=3)/\(0<=fmd s.k/\fmd s.k<=3):=by
 obtain ⟨hk,ha,hb,_⟩:=zml h
 have ha:=zbe ha
 have hb:=zbe hb
 unfold usV mkV
 rcases zax hk with e | e | e | e | e | e | e | e | e | e <;> rw [e] at ha hb ⊢ <;> simp [fa0,fa1,fb0,fb1,fus,fmd,lpV] at ha hb ⊢ <;> omega
theorem zeG {s:St} (h:okSt s=true):kindB s.k=true:=(zml h).1
theorem zpr {l:List St} {k:Nat} (h:k<l.length):l[k]?=some (l.getD k st0):=by
 rw [Zc,Zd h];rfl
theorem znx {l:List St} {k:Nat} (h:k<l.length):l.take (k+1)=l.take k++[l.getD k st0]:=by
 rw [List.take_succ_eq_append_getElem h,Zc,Zd h];rfl
theorem ze5 {l:List St} {k:Nat} (h:k<l.length):usL (l.take (k+1))=usL (l.take k)+usV (l.getD k st0):=by
 rw [znx h];simp [usL]
theorem zeE {l:List St} {k:Nat} (h:k<l.length):mkL (l.take (k+1))=mkL (l.take k)+mkV (l.getD k st0):=by
 rw [znx h];simp [mkL]
theorem zcy {l:List St} (h:allB l=true) {k:Nat} (hk:k<l.length):okSt (l.getD k st0)=true:=by
 rw [allB,Zq] at h
 exact h _ (by rw [Zc,Zd hk];exact List.getElem_mem _)
theorem zc2 {l:List St} {n k:Nat} (hl:l.length=n) (hk:k<n) (h:okSt (l.getD k st0)=false):allB l=false:=by
 cases e:allB l
 ·rfl
 ·have:=zcy e (k:=k) (by omega)
  rw [h] at this;cases this
theorem zem {l:List St} {n:Nat} (hl:l.length=n) (h:∀j,j<n->okSt (l.getD j st0)=true):allB l=true:=by
 rw [allB,Zq]
 intro x hx
 obtain ⟨j,hj,e⟩:=List.getElem_of_mem hx
 have:=h j (by omega)
 rwa [Zc,Zd hj,Option.getD_some,e] at this
theorem zeW {l:List St} (h:allB l=true):∀k,k<=l.length->(0<=usL (l.take k)/\usL (l.take k)<=200*(k:Int))/\(0<=mkL (l.take k)/\mkL (l.take k)<=200*(k:Int)):=by
 intro k
 induction k with
 | zero=>intro _;simp [usL,mkL]
 | succ k ih =>
  intro hk
  have h1:=ih (by omega)
  have h2:=zn1 (zcy h (k:=k) (by omega))
  rw [ze5 (by omega),zeE (by omega)]
  omega
theorem zfg {l:List St} (h:200<l.length):allE l=4:=by rw [allE,if_pos h]
theorem zhg {l:List St} (h:¬200<l.length) (h2:allB l=false):allE l=8:=by rw [allE,if_neg h,h2];rfl
theorem zdk {l:List St} (h:¬200<l.length) (h2:allB l=true) (h3:200<max (usL l) (mkL l)):allE l=4:=by rw [allE,if_neg h,if_pos h2,if_pos h3]
theorem zjr {l:List St} (h:¬200<l.length) (h2:allB l=true) (h3:¬200<max (usL l) (mkL l)):allE l=0:=by rw [allE,if_neg h,if_pos h2,if_neg h3]
theorem za8 {l:List St} (h:allE l=0):l.length<=200/\allB l=true/\usL l<=200/\mkL l<=200:=by
 unfold allE at h
 split at h
 ·omega
 ·split at h
  ·split at h
   ·omega
   ·rename_i h1 h2 h3
    exact ⟨by omega,h2,by omega,by omega⟩
  ·omega
theorem zpf {xs ys:List St} {n:Nat} (hx:xs.length=n) (hy:ys.length=n) (h:∀j,j<n->xs.getD j st0=ys.getD j st0):xs=ys:=by
 apply List.ext_getElem (by omega)
 intro i h1 h2
 have:=h i (by omega)
 rwa [Zc,Zc,Zd h1,Zd h2] at this
def Bytes (l:List St):Prop:=∀j,j<l.length->0<=(l.getD j st0).k/\(l.getD j st0).k<=255
theorem zhj {l:List St} (h:∀s∈l,0<=s.k/\s.k<=255):Bytes l:=fun j hj=>h _ (by rw [Zc,Zd hj];exact List.getElem_mem _)
end Go.Proofs.YtkneghkbgingdaaGreatDoor
/- Charts in plain Lean. -/
namespace Go.Proofs.YtkneghkbgingdaaGreatDoor
set_option maxRecDepth 100000
structure Ro where
 back:Bool
 cells:List St
theorem Ro.ext_ {x y:Ro} (h1:x.back=y.back) (h2:x.cells=y.cells):x=y:=by
 cases x;cases y;simp only at h1 h2;subst h1;subst h2;rfl
instance:DecidableEq Ro:=fun x y =>
 if h:x.back=y.back/\x.cells=y.cells then isTrue (Ro.ext_ h.1 h.2) else isFalse (fun e=>h (by subst e;exact ⟨rfl,rfl⟩))
def ro0:Ro:=⟨false,[]⟩
def chkGo:Int->List Ro->Int
 | _,[]=>0
 | n,r::rs=>if allE r.cells≠0 then allE r.cells else if usL r.cells≠n then 26 else chkGo (mkL r.cells) rs
def chkC (s:Int) (l:List Ro):Int:=if 100<l.length then 4 else if s<0∨200<s then 8 else chkGo s l
def cntC (s:Int) (l:List Ro):List Int:=s::l.map (fun r=>mkL r.cells)
theorem zng {l:List Ro} {k:Nat} (h:k<l.length):l.drop k=l.getD k ro0::l.drop (k+1):=by
 rw [Z5 h,Zc,Zd h];rfl
theorem zlH {l:List Ro}:∀ {n:Int},chkGo n l=0->∀k,k<l.length->allE (l.getD k ro0).cells=0/\usL (l.getD k ro0).cells=(cntC n l).getD k 0:=by
 induction l with
 | nil=>intro n _ k hk;simp at hk
 | cons r rs ih =>
  intro n h k hk
  rw [chkGo] at h
  split at h
  ·exact absurd h (by assumption)
  ·split at h
   ·omega
   ·rename_i h1 h2
    cases k with
    | zero =>
     simp only [ZR,cntC]
     exact ⟨by omega,by omega⟩
    | succ k =>
     have:=ih h k (by simpa using hk)
     simp only [List.getD_cons_succ,cntC,Z6] at this ⊢
     exact this
theorem zdp {s:Int} {l:List Ro} (h:chkC s l=0):l.length<=100/\0<=s/\s<=200/\chkGo s l=0:=by
 unfold chkC at h
 split at h
 ·omega
 ·split at h
  ·omega
  ·exact ⟨by omega,by omega,by omega,h⟩
end Go.Proofs.YtkneghkbgingdaaGreatDoor
/- The counts that the iterator over rows hands out,in plain Lean. -/
namespace Go.Proofs.YtkneghkbgingdaaGreatDoor
set_option maxRecDepth 100000
structure Cn where
 i:Nat
 b:Int
 a:Int
 e:Int
def cnE (i:Nat) (n:Int) (r:Ro):Cn:=if allE r.cells≠0 then ⟨i,n,0,allE r.cells⟩ else if usL r.cells≠n then ⟨i,n,0,26⟩ else ⟨i,n,mkL r.cells,0⟩
def visG:Nat->Int->List Ro->List Cn
 | _,_,[]=>[]
 | i,n,r::rs=>if (cnE i n r).e≠0 then [cnE i n r] else cnE i n r::visG (i+1) (cnE i n r).a rs
theorem znc (i:Nat) (n:Int) (r:Ro) (rs:List Ro):chkGo n (r::rs)=if (cnE i n r).e≠0 then (cnE i n r).e else chkGo (cnE i n r).a rs:=by
 rw [chkGo]
 unfold cnE
 by_cases h:allE r.cells≠0
 ·rw [if_pos h,if_pos h,if_pos h]
 ·rw [if_neg h,if_neg h]
  by_cases h2:usL r.cells≠n
  ·rw [if_pos h2,if_pos h2,if_pos (by simp)]
  ·rw [if_neg h2,if_neg h2,if_neg (by simp)]
theorem zph:∀ {l:List Ro} {i:Nat} {n:Int},(∀x∈visG i n l,x.e=0)->chkGo n l=0:=by
 intro l
 induction l with
 | nil=>intro i n _;rfl
 | cons r rs ih =>
  intro i n h
  rw [visG] at h
  rw [znc i]
  split at h
  ·rename_i h1
   exact absurd (h _ (by simp)) h1
  ·rename_i h1
   rw [if_neg h1]
   exact ih (i:=i+1) (fun x hx=>h x (by simp [hx]))
theorem zoA:∀ {l:List Ro} {i:Nat} {n:Int} {x:Cn},x∈visG i n l->x.e≠0->chkGo n l=x.e:=by
 intro l
 induction l with
 | nil=>intro i n x h;simp [visG] at h
 | cons r rs ih =>
  intro i n x h he
  rw [visG] at h
  rw [znc i]
  split at h
  ·rename_i h1
   simp at h
   subst h
   rw [if_pos h1]
  ·rename_i h1
   rw [if_neg h1]
   rcases ZI.1 h with rfl | h
   ·exact absurd he (by simpa using h1)
   ·exact ih h he
theorem zlJ (i:Nat) (n:Int) (r:Ro):(allE r.cells≠0/\cnE i n r=⟨i,n,0,allE r.cells⟩)∨(allE r.cells=0/\usL r.cells≠n/\cnE i n r=⟨i,n,0,26⟩)∨(allE r.cells=0/\usL r.cells=n/\cnE i n r=⟨i,n,mkL r.cells,0⟩):=by
 unfold cnE
 by_cases h:allE r.cells≠0
 ·exact .inl ⟨h,if_pos h⟩
 ·rw [if_neg h]
  by_cases h2:usL r.cells≠n
  ·exact .inr (.inl ⟨by omega,h2,if_pos h2⟩)
  ·exact .inr (.inr ⟨by omega,by omega,if_neg h2⟩)
end Go.Proofs.YtkneghkbgingdaaGreatDoor
/- Patterns,plain: words,names,the errors of Check. -/
namespace Go.Proofs.YtkneghkbgingdaaGreatDoor
set_option maxRecDepth 100000
structure Stf where
 nm:List UInt8
 g:Int
def stf0:Stf:=⟨[],0⟩
structure Sec where
 nm:List UInt8
 s:Int
 rows:List Ro
def sec0:Sec:=⟨[],0,[]⟩
def okC (x:UInt8):Bool:=decide (x.toNat=45∨(97<=x.toNat/\x.toNat<=122)∨(48<=x.toNat/\x.toNat<=57))
def wordS (s:List UInt8):Bool:=decide (1<=s.length/\s.length<=40) && s.all okC
theorem zdj {s:List UInt8} (h:s.length=0∨40<s.length):wordS s=false:=by
 unfold wordS
 rw [show decide (1<=s.length/\s.length<=40)=false from ZF (by omega)]
 rfl
theorem zgj {s:List UInt8} {k:Nat} (hk:k<s.length) (h:okC (s.getD k 0)=false):wordS s=false:=by
 unfold wordS
 rw [show s.all okC=false from by
  rw [List.all_eq_false]
  refine ⟨s.getD k 0,?_,by rw [h];decide⟩
  rw [Zc,Zd hk]
  exact List.getElem_mem hk]
 simp
theorem zik {s:List UInt8} (h:1<=s.length/\s.length<=40) (ha:∀k,k<s.length->okC (s.getD k 0)=true):wordS s=true:=by
 unfold wordS
 rw [ZW h,Zq.2 (fun x hx=>by
  obtain ⟨k,hk,e⟩:=List.getElem_of_mem hx
  have h9:=ha k hk
  rw [Zc,Zd hk] at h9
  rw [<-e]
  exact h9)]
 rfl
def wordsB (g:Nat->List UInt8) (n:Nat):Bool:=(List.range n).all fun i=>wordS (g i)
theorem zb6 (g:Nat->List UInt8) (n:Nat):wordsB g (n+1)=(wordsB g n && wordS (g n)):=by
 unfold wordsB
 rw [List.range_succ,List.all_append]
 simp
def amongB (g:Nat->List UInt8) (i k:Nat):Bool:=(List.range k).any fun j=>g i==g j
theorem zbZ (g:Nat->List UInt8) (i k:Nat):amongB g i (k+1)=(amongB g i k || (g i==g k)):=by
 unfold amongB
 rw [List.range_succ,List.any_append]
 simp
def twiceB (g:Nat->List UInt8) (n:Nat):Bool:=(List.range n).any fun i=>amongB g i i
theorem zbs (g:Nat->List UInt8) (n:Nat):twiceB g (n+1)=(twiceB g n || amongB g n n):=by
 unfold twiceB
 rw [List.range_succ,List.any_append]
 simp
def idxN (g:Nat->List UInt8) (x:List UInt8):Nat->Nat->Int
 | 0,_ => -1
 | n+1,k=>if g k=x then (k:Int) else idxN g x n (k+1)
def gramB (st:List Stf) (n:Nat):Bool:=(List.range n).all fun i=>decide (1<=(st.getD i stf0).g/\(st.getD i stf0).g<=100000)
theorem zfw (st:List Stf) (n:Nat):gramB st (n+1)=(gramB st n && decide (1<=(st.getD n stf0).g/\(st.getD n stf0).g<=100000)):=by
 unfold gramB
 rw [List.range_succ,List.all_append]
 simp
def stN (st:List Stf) (i:Nat):List UInt8:=(st.getD i stf0).nm
def seN (se:List Sec) (i:Nat):List UInt8:=(se.getD i sec0).nm
def firstE (se:List Sec):Nat->Nat->Int
 | 0,_=>0
 | n+1,k=>if chkC (se.getD k sec0).s (se.getD k sec0).rows≠0 then chkC (se.getD k sec0).s (se.getD k sec0).rows else firstE se n (k+1)
def fineP (nm:List UInt8) (ge:Int) (st:List Stf) (se:List Sec):Bool :=
 wordS nm && wordsB (stN st) st.length && wordsB (seN se) se.length && decide (se.length≠0) && decide (ge=0) && gramB st st.length
def patE (nm:List UInt8) (ge:Int) (st:List Stf) (se:List Sec):Int :=
 if 20<st.length∨20<se.length then 4
 else if fineP nm ge st se=true then (if twiceB (stN st) st.length=true∨twiceB (seN se) se.length=true then 14 else firstE se se.length 0)
 else 8
end Go.Proofs.YtkneghkbgingdaaGreatDoor
/- Cells with repeats in plain Lean: terms,their sizes,and the shortest list. -/
namespace Go.Proofs.YtkneghkbgingdaaGreatDoor
set_option maxRecDepth 100000
inductive Tms where
 | nil:Tms
 | cons (n:Int) (c:St) (g:Tms) (r:Tms):Tms
def Tms.app:Tms->Tms->Tms
 | .nil,t=>t
 | .cons n c g r,t => .cons n c g (r.app t)
def Tms.cnt:Tms->Nat
 | .nil=>0
 | .cons _ _ _ r=>r.cnt+1
def Tms.size:Tms->Nat
 | .nil=>0
 | .cons _ _ g r=>1+g.size+r.size
def Tms.depth:Tms->Nat
 | .nil=>0
 | .cons _ _ g r=>max (g.depth+1) r.depth
def rep:Nat->List St->List St
 | 0,_=>[]
 | n+1,l=>l++rep n l
def Tms.cells:Tms->List St
 | .nil=>[]
 | .cons n c .nil r=>List.replicate n.toNat c++r.cells
 | .cons n _ g r=>rep n.toNat g.cells++r.cells
def Tms.pos:Tms->Prop
 | .nil=>True
 | .cons n _ g r=>1<=n/\g.pos/\r.pos
theorem zbm (n:Int) (c:St) (g r:Tms) (h:g ≠ .nil):(Tms.cons n c g r).cells=rep n.toNat g.cells++r.cells:=by
 cases g with
 | nil=>exact absurd rfl h
 | cons=>rfl
theorem zaz (n:Int) (c:St) (r:Tms):(Tms.cons n c .nil r).cells=List.replicate n.toNat c++r.cells:=rfl
theorem zjt:∀(a b:Tms),(a.app b).cells=a.cells++b.cells:=by
 intro a
 induction a with
 | nil=>intro b;rfl
 | cons n c g r _ ih2 =>
  intro b
  rw [Tms.app]
  by_cases h:g = .nil
  ·subst h;rw [zaz,zaz,ih2,ZB]
  ·rw [zbm _ _ _ _ h,zbm _ _ _ _ h,ih2,ZB]
theorem zlD:∀(a b:Tms),(a.app b).size=a.size+b.size:=by
 intro a
 induction a with
 | nil=>intro b;simp [Tms.app,Tms.size]
 | cons n c g r _ ih2=>intro b;rw [Tms.app,Tms.size,Tms.size,ih2];omega
theorem znF:∀(a b:Tms),a.pos->b.pos->(a.app b).pos:=by
 intro a
 induction a with
 | nil=>intro b _ h;exact h
 | cons n c g r _ ih2=>intro b h k;exact ⟨h.1,h.2.1,ih2 b h.2.2 k⟩
theorem zjv:∀(a b:Tms),(a.app b).depth=max a.depth b.depth:=by
 intro a
 induction a with
 | nil=>intro b;simp [Tms.app,Tms.depth]
 | cons n c g r _ ih2=>intro b;rw [Tms.app,Tms.depth,Tms.depth,ih2];omega
theorem za3 (n:Nat) (l:List St):(rep n l).length=n*l.length:=by
 induction n with
 | zero=>simp [rep]
 | succ n ih=>rw [rep,Zb,ih,Nat.add_mul,Nat.one_mul,Nat.add_comm]
theorem zeS {t:Tms} (h:t ≠ .nil):0<t.size:=by
 cases t with
 | nil=>exact absurd rfl h
 | cons=>simp [Tms.size];omega
theorem zjz:∀ {t:Tms},t.pos->t ≠ .nil->0<t.cells.length:=by
 intro t
 induction t with
 | nil=>intro _ h;exact absurd rfl h
 | cons n c g r ih1 _ =>
  intro hp _
  by_cases h:g = .nil
  ·subst h
   rw [zaz,Zb,ZZ]
   have:=hp.1;omega
  ·rw [zbm _ _ _ _ h,Zb,za3]
   have h1:=ih1 hp.2.1 h
   have h2:0<n.toNat:=by have:=hp.1;omega
   have:=Nat.mul_pos h2 h1
   omega
def perB (l:List St) (p:Nat):Bool:=decide (l.length % p=0) && decide (l.drop p=l.take (l.length-p))
structure Chc where
 size:Nat
 period:Nat
 part:Nat
def perStep (f:List St->Nat) (l:List St) (c:Chc) (p:Nat):Chc:=if 2<=p/\perB l p=true/\1+f (l.take p)<c.size then ⟨1+f (l.take p),p,0⟩ else c
def partStep (f:List St->Nat) (l:List St) (c:Chc) (k:Nat):Chc:=if 1<=k/\f (l.take k)+f (l.drop k)<c.size then ⟨f (l.take k)+f (l.drop k),0,k⟩ else c
def chG (f:List St->Nat) (l:List St):Chc :=
 if perB l 1=true then ⟨1,0,0⟩ else (List.range l.length).reverse.foldl (partStep f l) ((List.range l.length).foldl (perStep f l) ⟨l.length+1,0,0⟩)
def chF:Nat->List St->Chc
 | 0,_=>⟨0,0,0⟩
 | f+1,l=>chG (fun x=>(chF f x).size) l
theorem zlY {α:Type} (step:Chc->α->Chc) (h:∀c x,(step c x).size<=c.size) (l:List α):∀c,(l.foldl step c).size<=c.size:=by
 induction l with
 | nil=>intro c;exact Zg _
 | cons x l ih=>intro c;exact ZD (ih _) (h c x)
theorem zgC {α:Type} (step:Chc->α->Chc) (h:∀c x,(step c x).size<=c.size) {l:List α} {x:α} {m:Nat} (hx:x∈l) (hm:∀c,(step c x).size<=m):∀c,(l.foldl step c).size<=m:=by
 induction l with
 | nil=>cases hx
 | cons y l ih =>
  intro c
  rcases ZI.1 hx with rfl | hx
  ·exact ZD (zlY step h l _) (hm c)
  ·exact ih hx _
theorem zn4 (f:List St->Nat) (l:List St) (c:Chc) (k:Nat):(partStep f l c k).size<=c.size:=by
 unfold partStep;split
 ·rename_i h;exact Nat.le_of_lt h.2
 ·exact Zg _
theorem zdx {α:Type} {s t:Chc->α->Chc} {l:List α} (h:∀x∈l,∀c,s c x=t c x):∀c,l.foldl s c=l.foldl t c:=by
 induction l with
 | nil=>intro c;rfl
 | cons x l ih=>intro c;rw [List.foldl_cons,List.foldl_cons,h x (by simp),ih (fun y hy=>h y (by simp [hy]))]
theorem zcV {l:List St} (h:l≠[]):0<l.length:=by
 cases l with
 | nil=>exact absurd rfl h
 | cons x l=>simp
theorem zb7 {l:List St} (h:0<l.length):l≠[]:=by rintro rfl;simp at h
theorem zfl {f g:List St->Nat} {l:List St} (hl:l≠[]) (h:∀x:List St,x≠[]->x.length<l.length->f x=g x):chG f l=chG g l:=by
 have hl:=zcV hl
 unfold chG
 split
 ·rfl
 ·have e1:(List.range l.length).foldl (perStep f l) ⟨l.length+1,0,0⟩=(List.range l.length).foldl (perStep g l) ⟨l.length+1,0,0⟩ :=
   zdx (fun p hp c=>by
    have:=ZP.1 hp
    unfold perStep
    by_cases h1:2<=p
    ·rw [h (l.take p) (zb7 (by rw [Zx];omega)) (by rw [Zx];omega)]
    ·rw [if_neg (fun e=>h1 e.1),if_neg (fun e=>h1 e.1)]) _
  rw [e1]
  exact zdx (fun k hk c=>by
   have hk:=ZP.1 (List.mem_reverse.1 hk)
   unfold partStep
   by_cases h1:1<=k
   ·rw [h (l.take k) (zb7 (by rw [Zx];omega)) (by rw [Zx];omega),h (l.drop k) (zb7 (by rw [Zu];omega)) (by rw [Zu];omega)]
   ·rw [if_neg (fun e=>h1 e.1),if_neg (fun e=>h1 e.1)]) _
theorem zlF:∀(f:Nat) (l:List St) (f':Nat),l≠[]->l.length<=f->l.length<=f'->chF f l=chF f' l:=by
 intro f
 induction f with
 | zero=>intro l f' hne h _;have:=zcV hne;omega
 | succ f ih =>
  intro l f' hne h h'
  have hl:=zcV hne
  obtain ⟨m,rfl⟩:∃m,f'=m+1:=⟨f'-1,by omega⟩
  rw [chF,chF]
  exact zfl hne (fun x hx hlt=>by rw [ih x m hx (by omega) (by omega)])
def ch (l:List St):Chc:=chF l.length l
theorem zjA {l:List St} (h:l≠[]):ch l=chG (fun x=>(ch x).size) l:=by
 have hl:=zcV h
 obtain ⟨m,hm⟩:∃m,l.length=m+1:=⟨l.length-1,by omega⟩
 rw [ch,hm,chF]
 exact zfl h (fun x hx hlt=>by rw [ch,zlF m x x.length hx (by omega) (Zg _)])
theorem zgv {l:List St} (h:l≠[]) (hp:perB l 1=true):ch l=⟨1,0,0⟩:=by rw [zjA h,chG,if_pos hp]
theorem znN {l:List St} {k:Nat} (h1:1<=k) (hk:k<l.length):(ch l).size<=(ch (l.take k)).size+(ch (l.drop k)).size∨(ch l).size=1:=by
 have h:l≠[]:=zb7 (by omega)
 rw [zjA h,chG]
 split
 ·exact .inr rfl
 ·left
  refine zgC _ (zn4 _ l) (List.mem_reverse.2 (ZP.2 hk)) (fun c=>?_) _
  unfold partStep
  split
  ·exact Zg _
  ·rename_i hn
   have:¬(ch (l.take k)).size+(ch (l.drop k)).size<c.size:=fun e=>hn ⟨h1,e⟩
   omega
theorem zhG {α:Type} {Q:Chc->Prop} (step:Chc->α->Chc) {l:List α} (h:∀x∈l,∀c,Q c->Q (step c x)):∀c,Q c->Q (l.foldl step c):=by
 induction l with
 | nil=>intro c hc;exact hc
 | cons x l ih=>intro c hc;exact ih (fun y hy=>h y (by simp [hy])) _ (h x (by simp) c hc)
def Made (l:List St) (c:Chc):Prop :=
 (c=⟨1,0,0⟩/\perB l 1=true)∨(2<=c.period/\c.period<l.length/\c.part=0/\perB l c.period=true/\c.size=1+(ch (l.take c.period)).size) ∨
 (c.period=0/\1<=c.part/\c.part<l.length/\c.size=(ch (l.take c.part)).size+(ch (l.drop c.part)).size)∨c=⟨l.length+1,0,0⟩
theorem zhk {l:List St} (h:l≠[]):Made l (ch l):=by
 rw [zjA h,chG]
 split
 ·rename_i hp;exact .inl ⟨rfl,hp⟩
 ·refine zhG (Q:=Made l) _ (fun k hk c hc=>?_) _ (zhG (Q:=Made l) _ (fun p hp c hc=>?_) _ (.inr (.inr (.inr rfl))))
  ·have hk:=ZP.1 (List.mem_reverse.1 hk)
   unfold partStep
   split
   ·rename_i hh;exact .inr (.inr (.inl ⟨rfl,hh.1,hk,rfl⟩))
   ·exact hc
  ·have hp:=ZP.1 hp
   unfold perStep
   split
   ·rename_i hh;exact .inr (.inl ⟨hh.1,hp,rfl,hh.2.1,rfl⟩)
   ·exact hc
theorem zky {x:St}:perB [x] 1=true:=by simp [perB]
theorem zlG {l:List St}:∀n,l.length=n->l≠[]->1<=(ch l).size/\(ch l).size<=l.length:=by
 intro n
 induction n using Nat.strongRecOn generalizing l with
 | ind n ih =>
  intro hn hne
  have hl:=zcV hne
  constructor
  ·rcases zhk hne with ⟨h,_⟩ | ⟨_,_,_,_,h⟩ | ⟨_,h1,h2,h⟩ | h
   ·rw [h];exact Zg _
   ·rw [h];omega
   ·have:=ih (l.take (ch l).part).length (by rw [Zx];omega) rfl (zb7 (by rw [Zx];omega))
    omega
   ·rw [h];simp only;omega
  ·by_cases h1:l.length=1
   ·obtain ⟨x,rfl⟩:∃x,l=[x]:=by
     match l,h1 with
     | [x],_=>exact ⟨x,rfl⟩
    rw [zgv hne zky];simp
   ·have a:=ih (l.take 1).length (by rw [Zx];omega) rfl (zb7 (by rw [Zx];omega))
    have b:=ih (l.drop 1).length (by rw [Zu];omega) rfl (zb7 (by rw [Zu];omega))
    rw [Zx] at a
    rw [Zu] at b
    rcases znN (l:=l) (k:=1) (Zg _) (by omega) with h | h <;> omega
theorem zgu {l:List St} (h:l≠[]):(ch l=⟨1,0,0⟩/\perB l 1=true)∨(2<=(ch l).period/\(ch l).period<l.length/\(ch l).part=0/\perB l (ch l).period=true/\(ch l).size=1+(ch (l.take (ch l).period)).size) ∨
  ((ch l).period=0/\1<=(ch l).part/\(ch l).part<l.length/\(ch l).size=(ch (l.take (ch l).part)).size+(ch (l.drop (ch l).part)).size):=by
 rcases zhk h with h1 | h1 | h1 | h1
 ·exact .inl h1
 ·exact .inr (.inl h1)
 ·exact .inr (.inr h1)
 ·have:=zlG l.length rfl h
  rw [h1] at this
  simp only at this
  omega
end Go.Proofs.YtkneghkbgingdaaGreatDoor
/- The shortest list in plain Lean: it expands to the cells,and no list is shorter. -/
namespace Go.Proofs.YtkneghkbgingdaaGreatDoor
set_option maxRecDepth 100000
theorem zkv {l:List St} {p:Nat} (h:perB l p=true):l.length % p=0/\l.drop p=l.take (l.length-p):=by
 simp only [perB,Zt,ZG] at h
 exact h
theorem zn9 {p:Nat} (hp:0<p):∀(q:Nat) (l:List St),l.length=q*p->l.drop p=l.take (l.length-p)->l=rep q (l.take p):=by
 intro q
 induction q with
 | zero=>intro l h _;rw [Nat.zero_mul] at h;exact ZT h
 | succ q ih =>
  intro l h hd
  have aa:l.length=q*p+p:=by rw [h,Nat.add_mul,Nat.one_mul]
  rw [rep]
  rcases Nat.eq_zero_or_pos q with h0 | h0
  ·subst h0
   rw [Nat.zero_mul,Nat.zero_add] at aa
   rw [rep,ZC,ZE (by omega)]
  ·have hq:p<=q*p:=Nat.le_mul_of_pos_left p h0
   have h1:(l.drop p).length=q*p:=by rw [Zu];omega
   have h2:(l.drop p).take p=l.take p:=by
    rw [hd,List.take_take];congr 1;omega
   have h3:=ih (l.drop p) h1 (by
    have e:(l.drop p).length-p=q*p-p:=by rw [h1]
    rw [e]
    have e2:l.drop p=l.take (q*p):=by rw [hd,aa,Nat.add_sub_cancel]
    have e3:(l.drop p).take (q*p-p)=l.take (q*p-p):=by rw [e2,List.take_take];congr 1;omega
    rw [e3]
    calc (l.drop p).drop p=(l.take (q*p)).drop p:=by rw [e2]
     _=(l.drop p).take (q*p-p):=by rw [List.drop_take]
     _=l.take (q*p-p):=e3)
   rw [h2] at h3
   rw [<-h3,Z4]
theorem znr {l:List St} {p:Nat} (hp:0<p) (h:perB l p=true):l=rep (l.length / p) (l.take p):=by
 obtain ⟨h1,h2⟩:=zkv h
 exact zn9 hp _ l (by have:=Nat.div_add_mod l.length p;rw [h1,Nat.add_zero,Nat.mul_comm] at this;exact this.symm) h2
theorem zkQ (n:Nat) (x:St):rep n [x]=List.replicate n x:=by
 induction n with
 | zero=>rfl
 | succ n ih=>rw [rep,ih,List.replicate_succ];rfl
theorem zn8 {l:List St} (hl:l≠[]) (h:perB l 1=true):l=List.replicate l.length (l.getD 0 st0):=by
 have h1:=znr (by omega) h
 rw [Nat.div_one] at h1
 have h2:l.take 1=[l.getD 0 st0]:=by
  cases l with
  | nil=>exact absurd rfl hl
  | cons x l=>rfl
 rw [h2,zkQ] at h1
 exact h1
theorem zdb (n:Nat) (g:List St):rep (n+1) g=rep n g++g:=by
 induction n with
 | zero=>simp [rep]
 | succ n ih =>
  show g++rep (n+1) g=(g++rep n g)++g
  rw [ih,ZB]
theorem zjY {l:List St} (h:l≠[]):l.getD 0 st0∈l:=by
 cases l with
 | nil=>exact absurd rfl h
 | cons x l=>simp
def mkT:Nat->List St->Tms
 | 0,_ => .nil
 | f+1,l =>
  if 0<(ch l).part then (mkT f (l.take (ch l).part)).app (mkT f (l.drop (ch l).part))
  else if 0<(ch l).period then .cons ((l.length / (ch l).period:Nat):Int) st0 (mkT f (l.take (ch l).period)) .nil
  else .cons (l.length:Int) (l.getD 0 st0) .nil .nil
def Tms.top (m:Int):Tms->Prop
 | .nil=>True
 | .cons n _ g r=>n<=m/\g.top m/\r.top m
def Tms.good (q:St->Prop):Tms->Prop
 | .nil=>True
 | .cons _ c .nil r=>q c/\r.good q
 | .cons _ c g r=>c=st0/\g.good q/\r.good q
theorem zhK (q:St->Prop) (n:Int) (c:St) (r:Tms):(Tms.cons n c .nil r).good q=(q c/\r.good q):=rfl
theorem zev (q:St->Prop) (n:Int) (c:St) (g r:Tms) (h:g ≠ .nil):(Tms.cons n c g r).good q=(c=st0/\g.good q/\r.good q):=by
 cases g with
 | nil=>exact absurd rfl h
 | cons=>rfl
theorem znG (m:Int):∀(a b:Tms),a.top m->b.top m->(a.app b).top m:=by
 intro a
 induction a with
 | nil=>intro b _ h;exact h
 | cons n c g r _ ih2=>intro b h k;exact ⟨h.1,h.2.1,ih2 b h.2.2 k⟩
theorem zlC (q:St->Prop):∀(a b:Tms),a.good q->b.good q->(a.app b).good q:=by
 intro a
 induction a with
 | nil=>intro b _ h;exact h
 | cons n c g r _ ih2 =>
  intro b h k
  rw [Tms.app]
  by_cases hg:g = .nil
  ·subst hg
   rw [zhK] at h ⊢
   exact ⟨h.1,ih2 b h.2 k⟩
  ·rw [zev _ _ _ _ _ hg] at h ⊢
   exact ⟨h.1,h.2.1,ih2 b h.2.2 k⟩
theorem zoF {a b:Tms} (h:a ≠ .nil):a.app b ≠ .nil:=by
 cases a with
 | nil=>exact absurd rfl h
 | cons=>intro e;cases e
structure IsT (l:List St) (t:Tms):Prop where
 cells:t.cells=l
 size:t.size=(ch l).size
 pos:t.pos
 ne:t ≠ .nil
 top:t.top l.length
 good:∀q:St->Prop,(∀x∈l,q x)->t.good q
 depth:∀k,l.length<2 ^ (k+1)->t.depth<=k+1
theorem zdg {m m':Int} (h:m<=m'):∀ {t:Tms},t.top m->t.top m':=by
 intro t
 induction t with
 | nil=>intro _;trivial
 | cons n c g r ih1 ih2=>intro k;exact ⟨Int.le_trans k.1 h,ih1 k.2.1,ih2 k.2.2⟩
theorem zno:∀(f:Nat) (l:List St),l≠[]->l.length<=f->IsT l (mkT f l):=by
 intro f
 induction f with
 | zero=>intro l h1 h2;have:=zcV h1;omega
 | succ f ih =>
  intro l hne hf
  have hl:=zcV hne
  rw [mkT]
  rcases zgu hne with ⟨h1,h2⟩ | ⟨h1,h2,h3,h4,h5⟩ | ⟨h1,h2,h3,h4⟩
  ·rw [h1]
   simp only [Nat.lt_irrefl,if_false]
   refine ⟨?_,by rw [h1];rfl,⟨by omega,trivial,trivial⟩,(by intro e;cases e),⟨Int.le_refl _,trivial,trivial⟩,fun q hq=>⟨hq _ (zjY hne),trivial⟩,fun k _=>by simp [Tms.depth]⟩
   rw [zaz]
   simp only [Tms.cells,ZC,Int.toNat_natCast]
   exact (zn8 hne h2).symm
  ·rw [if_neg (by omega),if_pos (by omega)]
   have hln:(l.take (ch l).period).length=(ch l).period:=by rw [Zx];omega
   have it:=ih (l.take (ch l).period) (zb7 (by omega)) (by omega)
   have hdiv:2*(ch l).period<=l.length:=by
    have hm:=(zkv h4).1
    have hq:2<=l.length / (ch l).period:=by
     rcases Z0 (l.length / (ch l).period) 2 with hlt | aa
     ·have e:=Nat.div_add_mod l.length (ch l).period
      rw [hm,Nat.add_zero] at e
      have:(ch l).period*(l.length / (ch l).period)<=(ch l).period*1:=Nat.mul_le_mul_left _ (by omega)
      omega
     ·exact aa
    have:=Nat.div_mul_le_self l.length (ch l).period
    have:=Nat.mul_le_mul_right (ch l).period hq
    omega
   have hq1:1<=l.length / (ch l).period:=Nat.div_pos (by omega) (by omega)
   have hq2:l.length / (ch l).period<=l.length:=Nat.div_le_self _ _
   refine ⟨?_,?_,⟨by omega,it.pos,trivial⟩,(by intro e;cases e),⟨by omega,zdg (by omega) it.top,trivial⟩,fun q hq=>?_,fun k hk=>?_⟩
   ·rw [zbm _ _ _ _ it.ne,it.cells]
    simp only [Tms.cells,ZC,Int.toNat_natCast]
    exact (znr (by omega) h4).symm
   ·rw [Tms.size,it.size,h5];rfl
   ·rw [zev _ _ _ _ _ it.ne]
    exact ⟨rfl,it.good q (fun x hx=>hq x (List.mem_of_mem_take hx)),trivial⟩
   ·rw [Tms.depth]
    simp only [Tms.depth]
    cases k with
    | zero=>rw [Nat.zero_add,Nat.pow_one] at hk;omega
    | succ k =>
     have:=it.depth k (by rw [Nat.pow_succ] at hk;omega)
     omega
  ·rw [if_pos (by omega)]
   have hl1:(l.take (ch l).part).length=(ch l).part:=by rw [Zx];omega
   have hl2:(l.drop (ch l).part).length=l.length-(ch l).part:=by rw [Zu]
   have i1:=ih (l.take (ch l).part) (zb7 (by omega)) (by omega)
   have i2:=ih (l.drop (ch l).part) (zb7 (by omega)) (by omega)
   refine ⟨by rw [zjt,i1.cells,i2.cells,Z4],by rw [zlD,i1.size,i2.size,h4],znF _ _ i1.pos i2.pos,zoF i1.ne,znG _ _ _ (zdg (by omega) i1.top) (zdg (by omega) i2.top),
    fun q hq=>zlC _ _ _ (i1.good q (fun x hx=>hq x (List.mem_of_mem_take hx))) (i2.good q (fun x hx=>hq x (List.mem_of_mem_drop hx))),fun k hk=>?_⟩
   rw [zjv]
   have:=i1.depth k (by omega)
   have:=i2.depth k (by omega)
   omega
def findT (l:List St):Tms:=if l=[] then .nil else mkT l.length l
theorem zgB {l:List St} (h:l≠[]):IsT l (findT l):=by rw [findT,if_neg h];exact zno _ _ h (Zg _)
theorem zit (l:List St):(findT l).cells=l:=by
 by_cases h:l=[]
 ·subst h;rfl
 ·exact (zgB h).cells
theorem zlX (a:List St):(findT a).size<=a.length:=by
 by_cases h:a=[]
 ·subst h;simp [findT,Tms.size]
 ·rw [(zgB h).size];exact (zlG a.length rfl h).2
end Go.Proofs.YtkneghkbgingdaaGreatDoor
/- What Check,Size and Expand of terms say,in plain Lean. -/
namespace Go.Proofs.YtkneghkbgingdaaGreatDoor
set_option maxRecDepth 100000
def szM (t:Tms):Int:=min (t.size:Int) 201
def fineT:Tms->Bool
 | .nil=>true
 | .cons n c .nil r=>inR n 1 200 && okSt c && fineT r
 | .cons n c g r=>inR n 1 200 && decide (c=st0) && fineT g && fineT r
theorem zaD (n:Int) (c:St) (r:Tms):fineT (.cons n c .nil r)=(inR n 1 200 && okSt c && fineT r):=rfl
theorem zaJ (n:Int) (c:St) (g r:Tms) (h:g ≠ .nil):fineT (.cons n c g r)=(inR n 1 200 && decide (c=st0) && fineT g && fineT r):=by
 cases g with
 | nil=>exact absurd rfl h
 | cons=>rfl
def lenT:Tms->Int->Int
 | .nil,m=>m
 | .cons n _ .nil r,m=>lenT r (min (m+1*n) 201)
 | .cons n _ g r,m=>lenT r (min (m+lenT g 0*n) 201)
theorem zeD (n:Int) (c:St) (r:Tms) (m:Int):lenT (.cons n c .nil r) m=lenT r (min (m+1*n) 201):=rfl
theorem zeC (n:Int) (c:St) (g r:Tms) (m:Int) (h:g ≠ .nil):lenT (.cons n c g r) m=lenT r (min (m+lenT g 0*n) 201):=by
 cases g with
 | nil=>exact absurd rfl h
 | cons=>rfl
def tchkE (t:Tms):Int:=if 200<t.size∨8<t.depth then 4 else if fineT t then (if 200<lenT t 0 then 4 else 0) else 8
theorem zhD:∀ {t:Tms},fineT t=true->t.pos:=by
 intro t
 induction t with
 | nil=>intro _;trivial
 | cons n c g r ih1 ih2 =>
  intro h
  by_cases hg:g = .nil
  ·subst hg
   rw [zaD] at h
   simp only [Zt] at h
   exact ⟨(zbe h.1.1).1,trivial,ih2 h.2⟩
  ·rw [zaJ _ _ _ _ hg] at h
   simp only [Zt] at h
   exact ⟨(zbe h.1.1.1).1,ih1 h.1.2,ih2 h.2⟩
theorem zoY:∀ {t:Tms},t.pos->∀m:Int,0<=m->lenT t (min m 201)=min (m+t.cells.length) 201:=by
 intro t
 induction t with
 | nil=>intro _ m _;simp [lenT,Tms.cells]
 | cons n c g r ih1 ih2 =>
  intro hp m hm
  have hn:=hp.1
  by_cases hg:g = .nil
  ·subst hg
   rw [zeD,zaz,Zb,ZZ]
   have e:min (min m 201+1*n) 201=min (m+n) 201:=by omega
   rw [e,ih2 hp.2.2 _ (by omega)]
   omega
  ·rw [zeC _ _ _ _ _ hg,zbm _ _ _ _ hg,Zb,za3]
   have h0:=ih1 hp.2.1 0 (Int.le_refl _)
   rw [show min (0:Int) 201=0 by omega,Int.zero_add] at h0
   rw [h0]
   have hc:=zjz hp.2.1 hg
   generalize hL:g.cells.length=L at *
   have aa:(((n.toNat*L:Nat)):Int)=L*n:=by rw [Int.natCast_mul,Int.mul_comm];congr 1;omega
   have e:min (min m 201+min (L:Int) 201*n) 201=min (m+((n.toNat*L:Nat):Int)) 201:=by
    rw [aa]
    rcases Z0 L 201 with h | h
    ·rw [show min (L:Int) 201=L by omega]
     have:0<=(L:Int)*n:=Int.mul_nonneg (by omega) (by omega)
     omega
    ·rw [show min (L:Int) 201=201 by omega]
     have h1:(L:Int)*1<=L*n:=Int.mul_le_mul_of_nonneg_left hn (by omega)
     omega
   rw [e,ih2 hp.2.2 _ (by omega)]
   rw [Int.natCast_add]
   omega
theorem zhP {t:Tms} (h:t.pos):lenT t 0=min (t.cells.length:Int) 201:=by
 have:=zoY h 0 (Int.le_refl _)
 rwa [show min (0:Int) 201=0 by omega,Int.zero_add] at this
theorem zid {t:Tms} (h:tchkE t=0):t.size<=200/\t.depth<=8/\fineT t=true/\t.cells.length<=200:=by
 unfold tchkE at h
 split at h
 ·omega
 ·rename_i h1
  split at h
  ·rename_i h2
   split at h
   ·omega
   ·rename_i h3
    rw [zhP (zhD h2)] at h3
    exact ⟨by omega,by omega,h2,by omega⟩
  ·omega
theorem znA {t:Tms} (h1:t.size<=200) (h2:t.depth<=8) (h3:fineT t=true) (h4:t.cells.length<=200):tchkE t=0:=by
 rw [tchkE,if_neg (by omega),if_pos h3,if_neg (by rw [zhP (zhD h3)];omega)]
theorem zj0:∀ {t:Tms},t.pos->t.top 200->t.good (fun x=>okSt x=true)->fineT t=true:=by
 intro t
 induction t with
 | nil=>intro _ _ _;rfl
 | cons n c g r ih1 ih2 =>
  intro hp ht aa
  by_cases hg:g = .nil
  ·subst hg
   rw [zhK] at aa
   rw [zaD,zj7 hp.1 ht.1,aa.1,ih2 hp.2.2 ht.2.2 aa.2];rfl
  ·rw [zev _ _ _ _ _ hg] at aa
   rw [zaJ _ _ _ _ hg,zj7 hp.1 ht.1,aa.1,ih1 hp.2.1 ht.2.1 aa.2.1,ih2 hp.2.2 ht.2.2 aa.2.2];simp
theorem zlW {l:List St} (h:allB l=true) (hl:l.length<=60):tchkE (findT l)=0:=by
 by_cases hne:l=[]
 ·subst hne;rfl
 ·have hi:=zgB hne
  have h1:=zlX l
  refine znA (by omega) ?_ (zj0 hi.pos (zdg (by omega) hi.top) (hi.good _ (fun x hx=>Zq.1 h x hx))) (by rw [hi.cells];omega)
  have:=hi.depth 5 (by omega)
  omega
end Go.Proofs.YtkneghkbgingdaaGreatDoor
/- The texts of stitches in plain Lean: what is written,and what is read. -/
namespace Go.Proofs.YtkneghkbgingdaaGreatDoor
set_option maxRecDepth 100000
def dg (n:Nat):UInt8:=UInt8.ofNat (48+n % 10)
def isDg (c:UInt8):Bool:=decide (48<=c) && decide (c<=57)
def decF:Nat->Nat->List UInt8
 | 0,_=>[]
 | f+1,n=>if n<10 then [dg n] else decF f (n / 10)++[dg (n % 10)]
def decD (n:Nat):List UInt8:=decF 20 n
def valD (l:List UInt8):Nat:=l.foldl (fun v c=>10*v+(c.toNat-48)) 0
def headD:Nat->List UInt8->Nat
 | 0,_=>0
 | _+1,[]=>0
 | k+1,c::l=>if isDg c then headD k l+1 else 0
def numR (l:List UInt8):Int×List UInt8:=if headD 4 l=0 then (-1,l) else ((valD (l.take (headD 4 l)):Int),l.drop (headD 4 l))
def wordT (s:St):List UInt8 :=
 if s.k=2 then [121,111] else if s.k=9 then [111,110]++decD s.a.toNat
 else (if s.p then [112] else [107])++flt s.k++(if 0<fa1 s.k then decD s.a.toNat else [])++(if 0<fb1 s.k then 47::decD s.b.toNat else [])
def grp:List St->List (St×Nat)
 | []=>[]
 | s::l=>match grp l with
  | (t,n)::g=>if s.k=1/\s=t then (t,n+1)::g else (s,1)::(t,n)::g
  | []=>[(s,1)]
def wordG (x:St×Nat):List UInt8:=wordT x.1++if 1<x.2 then decD x.2 else []
def joinB (c:UInt8):List (List UInt8)->List UInt8
 | []=>[]
 | [x]=>x
 | x::y::l=>x++c::joinB c (y::l)
def textL (l:List St):List UInt8:=joinB 32 ((grp l).map wordG)
def spl (c:UInt8):List UInt8->List (List UInt8)
 | []=>[[]]
 | x::l=>if x=c then []::spl c l else match spl c l with
  | h::t=>(x::h)::t
  | []=>[[x]]
theorem zee (c:UInt8) (l:List UInt8):spl c l≠[]:=by
 cases l with
 | nil=>simp [spl]
 | cons x l =>
  unfold spl
  split
  ·simp
  ·split <;> simp
theorem zbh {c:UInt8} {w:List UInt8} (h:c ∉ w):spl c w=[w]:=by
 induction w with
 | nil=>rfl
 | cons x w ih =>
  have h1:¬x=c:=fun e=>h (by simp [e])
  have h2:=ih (fun e=>h (by simp [e]))
  unfold spl
  rw [if_neg h1,h2]
theorem zaw {c:UInt8} {w l:List UInt8} (h:c ∉ w):spl c (w++c::l)=w::spl c l:=by
 induction w with
 | nil=>simp [spl]
 | cons x w ih =>
  have h1:¬x=c:=fun e=>h (by simp [e])
  have h2:=ih (fun e=>h (by simp [e]))
  rw [ZU,spl,if_neg h1,h2]
theorem zeT {c:UInt8}:∀ {ws:List (List UInt8)},ws≠[]->(∀w∈ws,c ∉ w)->spl c (joinB c ws)=ws:=by
 intro ws
 induction ws with
 | nil=>intro h;exact absurd rfl h
 | cons x ws ih =>
  intro _ h
  cases ws with
  | nil=>exact zbh (h x (by simp))
  | cons y ws =>
   rw [joinB,zaw (h x (by simp)),ih (by simp) (fun w hw=>h w (by simp at hw ⊢;exact .inr hw))]
def kindL (c:UInt8):Int:=if c=102 then 3 else if c=108 then 4 else if c=109 then 5 else if c=120 then 6 else if c=121 then 7 else if c=115 then 8 else if c=111 then 10 else if c=63 then 0 else 3
def trimS (l:List UInt8):List UInt8:=match l with
 | 47::t=>t
 | l=>l
def readK (p:Bool) (c:UInt8) (rest:List UInt8):St :=
 let k:=kindL c
 let a:=if 0<fa1 k then numR rest else (0,rest)
 ⟨k,p,a.1,if 0<fb1 k then (numR (trimS a.2)).1 else 0⟩
def readW:List UInt8->St×Int
 | []=>(st0,1)
 | c::rest =>
  if c=121/\rest=[111] then (⟨2,false,0,0⟩,1)
  else if c=111/\rest.head?=some 110 then (⟨9,false,(numR rest.tail).1,0⟩,1)
  else if ¬(c=107∨c=112) then (st0,1)
  else match rest with
   | []=>(⟨1,decide (c=112),0,0⟩,1)
   | d::r=>if 0<=(numR (d::r)).1 then (⟨1,decide (c=112),0,0⟩,min (max (numR (d::r)).1 1) 201) else (readK (decide (c=112)) d r,1)
def rng (lo hi:Nat):List Int:=(List.range (hi+1-lo)).map (fun i=>((lo+i:Nat):Int))
def allSt:List St :=
 [false,true].flatMap (fun p=>[⟨1,p,0,0⟩,⟨8,p,0,0⟩]++(rng 2 4).flatMap (fun a=>[⟨3,p,a,0⟩,⟨4,p,a,0⟩,⟨5,p,a,0⟩])
  ++ (rng 1 6).flatMap (fun a=>(rng 1 6).flatMap (fun b=>[⟨6,p,a,b⟩,⟨7,p,a,b⟩]))++(rng 1 200).map (fun a=>⟨10,p,a,0⟩))
 ++ ⟨2,false,0,0⟩::(rng 1 200).map (fun a=>⟨9,false,a,0⟩)
theorem zbD {lo hi:Nat} {x:Int} (h1:(lo:Int)<=x) (h2:x<=hi):x∈rng lo hi:=by
 rw [rng,List.mem_map]
 exact ⟨x.toNat-lo,ZP.2 (by omega),by omega⟩
theorem zbM {s:St} (h:okSt s=true):s∈allSt:=by
 obtain ⟨hk,ha,hb,hp⟩:=zml h
 have ha:=zbe ha
 have hb:=zbe hb
 obtain ⟨k,p,a,b⟩:=s
 simp only at hk ha hb hp
 have hpm:p∈[false,true]:=by cases p <;> simp
 unfold allSt
 rw [ZA]
 rcases zax hk with e | e | e | e | e | e | e | e | e | e <;> subst e <;> simp [fa0,fa1,fb0,fb1,fsd] at ha hb hp
 ·left
  obtain rfl:a=0:=by omega
  obtain rfl:b=0:=by omega
  exact ZS.2 ⟨p,hpm,by simp⟩
 ·right
  obtain rfl:a=0:=by omega
  obtain rfl:b=0:=by omega
  subst hp
  simp
 ·left
  obtain rfl:b=0:=by omega
  exact ZS.2 ⟨p,hpm,List.mem_append_left _ (List.mem_append_left _ (List.mem_append_right _ (ZS.2 ⟨a,zbD (by omega) (by omega),by simp⟩)))⟩
 ·left
  obtain rfl:b=0:=by omega
  exact ZS.2 ⟨p,hpm,List.mem_append_left _ (List.mem_append_left _ (List.mem_append_right _ (ZS.2 ⟨a,zbD (by omega) (by omega),by simp⟩)))⟩
 ·left
  obtain rfl:b=0:=by omega
  exact ZS.2 ⟨p,hpm,List.mem_append_left _ (List.mem_append_left _ (List.mem_append_right _ (ZS.2 ⟨a,zbD (by omega) (by omega),by simp⟩)))⟩
 ·left
  exact ZS.2 ⟨p,hpm,List.mem_append_left _ (List.mem_append_right _ (ZS.2 ⟨a,zbD (by omega) (by omega),ZS.2 ⟨b,zbD (by omega) (by omega),by simp⟩⟩))⟩
 ·left
  exact ZS.2 ⟨p,hpm,List.mem_append_left _ (List.mem_append_right _ (ZS.2 ⟨a,zbD (by omega) (by omega),ZS.2 ⟨b,zbD (by omega) (by omega),by simp⟩⟩))⟩
 ·left
  obtain rfl:a=0:=by omega
  obtain rfl:b=0:=by omega
  exact ZS.2 ⟨p,hpm,by simp⟩
 ·right
  obtain rfl:b=0:=by omega
  subst hp
  exact List.mem_cons_of_mem _ (List.mem_map.2 ⟨a,zbD (by omega) (by omega),rfl⟩)
 ·left
  obtain rfl:b=0:=by omega
  exact ZS.2 ⟨p,hpm,List.mem_append_right _ (List.mem_map.2 ⟨a,zbD (by omega) (by omega),rfl⟩)⟩
def wordOk (s:St):Bool:=decide (readW (wordT s)=(s,1)) && !(wordT s).contains 32 && !(wordT s).contains 10 && decide ((wordT s).length<=5) && decide (0<(wordT s).length)
theorem zil:allSt.all wordOk=true:=by decide +kernel
def runOk (n:Nat):Bool:=[false,true].all (fun p=>decide (readW (wordG (⟨1,p,0,0⟩,n+2))=(⟨1,p,0,0⟩,((n+2:Nat):Int))) && !(wordG (⟨1,p,0,0⟩,n+2)).contains 32 && !(wordG (⟨1,p,0,0⟩,n+2)).contains 10 && decide ((wordG (⟨1,p,0,0⟩,n+2)).length<=5))
theorem zou:(List.range 199).all runOk=true:=by decide +kernel
end Go.Proofs.YtkneghkbgingdaaGreatDoor
/- Parse of Text is the list: the plain law of the texts of stitches. -/
namespace Go.Proofs.YtkneghkbgingdaaGreatDoor
set_option maxRecDepth 100000
structure WordFine (x:St×Nat):Prop where
 read:readW (wordG x)=(x.1,(x.2:Int))
 blank:(32:UInt8) ∉ wordG x
 line:(10:UInt8) ∉ wordG x
 short:(wordG x).length<=5
 long:0<(wordG x).length
theorem zlv {s:St} {n:Nat} (h:okSt s=true) (h1:1<=n) (h2:n<=200) (h3:n=1∨s.k=1):WordFine (s,n):=by
 rcases Z0 1 n with hn | hn
 ·have hk:s.k=1:=by rcases h3 with h3 | h3 <;> first | omega | exact h3
  obtain ⟨hk1,ha,hb,hp⟩:=zml h
  rw [hk] at ha hb
  have ha:=zbe ha
  have hb:=zbe hb
  simp [fa0,fa1,fb0,fb1] at ha hb
  obtain ⟨k,p,a,b⟩:=s
  simp only at hk ha hb
  subst hk
  obtain rfl:a=0:=by omega
  obtain rfl:b=0:=by omega
  obtain ⟨m,rfl⟩:∃m,n=m+2:=⟨n-2,by omega⟩
  have h5:=Zq.1 zou m (ZP.2 (by omega))
  have h6:=Zq.1 h5 p (by cases p <;> simp)
  simp only [Zt,ZG,Bool.not_eq_true'] at h6
  refine ⟨h6.1.1.1,fun h=>?_,fun h=>?_,h6.2,?_⟩
  ·have:=List.contains_iff_mem.2 h;rw [h6.1.1.2] at this;cases this
  ·have:=List.contains_iff_mem.2 h;rw [h6.1.2] at this;cases this
  ·have:0<(wordT ⟨1,p,0,0⟩).length:=by cases p <;> decide
   simp only [wordG,Zb];omega
 ·obtain rfl:n=1:=by omega
  have h5:=Zq.1 zil s (zbM h)
  simp only [wordOk,Zt,ZG,Bool.not_eq_true'] at h5
  have e:wordG (s,1)=wordT s:=by simp [wordG]
  refine ⟨by rw [e];exact h5.1.1.1.1,fun h=>?_,fun h=>?_,by rw [e];exact h5.1.2,by rw [e];exact h5.2⟩
  ·rw [e] at h;have:=List.contains_iff_mem.2 h;rw [h5.1.1.1.2] at this;cases this
  ·rw [e] at h;have:=List.contains_iff_mem.2 h;rw [h5.1.1.2] at this;cases this
theorem zby (s:St) (l:List St):(∃n g,grp l=(s,n)::g/\s.k=1/\grp (s::l)=(s,n+1)::g)∨(grp (s::l)=(s,1)::grp l/\∀n g,grp l=(s,n)::g->s.k≠1):=by
 rcases h:grp l with _ | ⟨⟨t,n⟩,g⟩
 ·exact .inr ⟨by simp [grp,h],fun n g e=>by cases e⟩
 ·by_cases hc:s.k=1/\s=t
  ·obtain ⟨h1,rfl⟩:=hc
   exact .inl ⟨n,g,rfl,h1,by simp [grp,h,h1]⟩
  ·refine .inr ⟨by simp only [grp,h];rw [if_neg hc],fun n' g' e hk=>hc ⟨hk,?_⟩⟩
   injection e with e1 e2
   injection e1 with e1 e3
   exact e1.symm
theorem zdZ (l:List St):(grp l).flatMap (fun x=>List.replicate x.2 x.1)=l:=by
 induction l with
 | nil=>rfl
 | cons s l ih =>
  rcases zby s l with ⟨n,g,h1,_,h3⟩ | ⟨h1,_⟩
  ·rw [h1] at ih
   rw [h3,List.flatMap_cons]
   rw [List.flatMap_cons] at ih
   rw [List.replicate_succ,ZU,ih]
  ·rw [h1,List.flatMap_cons,ih];rfl
theorem zex (l:List St):((grp l).map (·.2)).sum=l.length:=by
 induction l with
 | nil=>rfl
 | cons s l ih =>
  rcases zby s l with ⟨n,g,h1,_,h3⟩ | ⟨h1,_⟩
  ·rw [h1] at ih
   rw [h3]
   simp at ih ⊢
   omega
  ·rw [h1];simp at ih ⊢;omega
theorem zew {l:List St}:∀ {x:St×Nat},x∈grp l->x.1∈l/\1<=x.2/\(x.2=1∨x.1.k=1):=by
 induction l with
 | nil=>intro x h;cases h
 | cons s l ih =>
  intro x h
  rcases zby s l with ⟨n,g,h1,h2,h3⟩ | ⟨h1,_⟩
  ·rw [h3] at h
   rcases ZI.1 h with rfl | h
   ·exact ⟨by simp,by simp,.inr h2⟩
   ·have:=ih (x:=x) (by rw [h1];simp [h])
    exact ⟨by simp [this.1],this.2⟩
  ·rw [h1] at h
   rcases ZI.1 h with rfl | h
   ·exact ⟨by simp,by simp,.inl rfl⟩
   ·have:=ih h
    exact ⟨by simp [this.1],this.2⟩
theorem zj2 {l:List St} (h:l≠[]):grp l≠[]:=by
 cases l with
 | nil=>exact absurd rfl h
 | cons s l =>
  rcases zby s l with ⟨n,g,_,_,h3⟩ | ⟨h1,_⟩
  ·rw [h3];simp
  ·rw [h1];simp
theorem znk {l:List (St×Nat)} {x:St×Nat} (h:x∈l):x.2<=(l.map (·.2)).sum:=by
 induction l with
 | nil=>cases h
 | cons y l ih =>
  rcases ZI.1 h with rfl | h
  ·simp
  ·have:=ih h;simp at this ⊢;omega
theorem zck {l:List St} (h:allE l=0) {x:St×Nat} (hx:x∈grp l):WordFine x:=by
 obtain ⟨h1,h2,_,_⟩:=za8 h
 obtain ⟨m1,m2,m3⟩:=zew hx
 have h4:=znk hx
 rw [zex] at h4
 exact zlv (Zq.1 h2 _ m1) m2 (by omega) m3
def parseGo:List St->List (List UInt8)->Option (List St)
 | acc,[]=>some acc
 | acc,w::ws=>if okSt (readW w).1=true/\(acc.length:Int)+(readW w).2<=200 then parseGo (acc++List.replicate (readW w).2.toNat (readW w).1) ws else none
def parseW (s:List UInt8):Option (List St):=if s=[] then some [] else parseGo [] (spl 32 s)
def parseL (s:List UInt8):Option (List St) :=
 if 3000<s.length then none else (parseW s).bind fun l=>if allE l=0/\textL l=s then some l else none
theorem zeK {gs:List (St×Nat)}:∀ {acc:List St},(∀x∈gs,WordFine x/\okSt x.1=true)->acc.length+(gs.map (·.2)).sum<=200 ->
  parseGo acc (gs.map wordG)=some (acc++gs.flatMap (fun x=>List.replicate x.2 x.1)):=by
 induction gs with
 | nil=>intro acc _ _;simp [parseGo]
 | cons x gs ih =>
  intro acc h hs
  obtain ⟨hf,hk⟩:=h x (by simp)
  simp only [Z6,List.sum_cons] at hs
  rw [Z6,parseGo,hf.read]
  rw [if_pos ⟨hk,by simp only;omega⟩]
  rw [ih (fun y hy=>h y (by simp [hy])) (by simp;omega)]
  simp
theorem zdy {c:UInt8} {ws:List (List UInt8)} {m:Nat} (h:∀w∈ws,w.length<=m):(joinB c ws).length<=(m+1)*ws.length:=by
 induction ws with
 | nil=>simp [joinB]
 | cons x ws ih =>
  have hx:=h x (by simp)
  cases ws with
  | nil=>simp only [joinB,Zk,List.length_nil];omega
  | cons y ws =>
   have:=ih (fun w hw=>h w (by simp at hw ⊢;exact .inr hw))
   simp only [joinB,Zb,Zk] at this ⊢
   rw [Nat.mul_add (m+1) (ws.length+1) 1,Nat.mul_one]
   omega
theorem zj1 (l:List St):(grp l).length<=l.length:=by
 induction l with
 | nil=>simp [grp]
 | cons s l ih =>
  rcases zby s l with ⟨n,g,h1,_,h3⟩ | ⟨h1,_⟩
  ·rw [h1] at ih;rw [h3];simp at ih ⊢;omega
  ·rw [h1];simp;omega
theorem zm0 {l:List St} (h:allE l=0):(textL l).length<=6*l.length:=by
 have h1:=zdy (c:=32) (ws:=(grp l).map wordG) (m:=5) (fun w hw=>by
  obtain ⟨x,hx,rfl⟩:=List.mem_map.1 hw
  exact (zck h hx).short)
 have h2:=zj1 l
 rw [List.length_map] at h1
 unfold textL
 omega
theorem zcO {l:List St} (h:allE l=0):(textL l).length<=1200:=by
 have h1:=zm0 h
 have h2:=(za8 h).1
 omega
theorem zj9 {c:UInt8} {ws:List (List UInt8)} (h:ws≠[]) (hw:∀w∈ws,0<w.length):joinB c ws≠[]:=by
 cases ws with
 | nil=>exact absurd rfl h
 | cons x ws =>
  have:=hw x (by simp)
  cases ws with
  | nil=>intro e;rw [joinB] at e;rw [e] at this;simp at this
  | cons y ws=>intro e;rw [joinB] at e;simp at e
theorem zie {l:List St} (h:allE l=0) (hl:l≠[]):spl 32 (textL l)=(grp l).map wordG :=
 zeT (by simpa using zj2 hl) (fun w hw=>by
  obtain ⟨x,hx,rfl⟩:=List.mem_map.1 hw
  exact (zck h hx).blank)
theorem zcF {l:List St} (h:allE l=0):parseL (textL l)=some l:=by
 have hs:=zcO h
 rw [parseL,if_neg (by omega)]
 have hw:parseW (textL l)=some l:=by
  rcases List.eq_nil_or_concat l with rfl | ⟨l',x,e⟩
  ·rfl
  ·have hl:l≠[]:=by rw [e];simp
   have hne:textL l≠[]:=zj9 (by simpa using zj2 hl) (fun w hw=>by
    obtain ⟨x,hx,rfl⟩:=List.mem_map.1 hw
    exact (zck h hx).long)
   rw [parseW,if_neg hne,zie h hl,zeK (fun y hy=>⟨zck h hy,Zq.1 (za8 h).2.1 _ (zew hy).1⟩) (by rw [zex];have:=(za8 h).1;simp;omega),zdZ]
   simp
 rw [hw,Zz,if_pos ⟨h,rfl⟩]
theorem zcn {s:List UInt8} {l:List St}:parseL s=some l↔s.length<=3000/\allE l=0/\textL l=s:=by
 constructor
 ·intro h
  unfold parseL at h
  split at h
  ·cases h
  ·obtain ⟨l',h1,h2⟩:=ZO.1 h
   split at h2
   ·rename_i h3
    cases h2
    exact ⟨by omega,h3⟩
   ·cases h2
 ·rintro ⟨h1,h2,rfl⟩
  exact zcF h2
end Go.Proofs.YtkneghkbgingdaaGreatDoor
