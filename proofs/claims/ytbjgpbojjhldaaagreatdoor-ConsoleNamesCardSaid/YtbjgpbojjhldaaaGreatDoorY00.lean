/- Stitches in plain Lean: what is valid, what they use and make. -/
import Derived.Lib.Split
import Derived.Lib.Join
import Derived.Lib.ItoaNum
import Derived.Lib.Atoi
import Derived.Lib.AtoiAll
namespace Go.Proofs.YtbjgpbojjhldaaaGreatDoor
theorem Zb:∀ (n:Nat),n<=n:=@Nat.le_refl
theorem Zc:∀ {α:Type _} {l bs:List α},(l++bs).length=l.length+bs.length:=@List.length_append
theorem Zd:∀ {α:Type _} {l:List α} {i:Nat} {a:α},l.getD i a=l[i]?.getD a:=@List.getD_eq_getElem?_getD
theorem Zf:∀ {α:Type _} {l:List α} {i:Nat} (_:i<l.length),l[i]? = some l[i]:=@List.getElem?_eq_getElem
theorem Zh:∀ {α:Type _} {i:Nat} {b:α} {xs:Array α},xs[i]? = some b↔∃ (_:i<xs.size),xs[i]=b:=@Array.getElem?_eq_some_iff
theorem Zi:∀ {n m k:Nat},n<m->m<=k->n<k:=@Nat.lt_of_lt_of_le
theorem Zk:∀ {α:Type _} {a:α} {l:List α},(a::l).length=l.length+1:=@List.length_cons
theorem Zp:∀ (a b:Bool),((a && b)=true)=(a=true/\b=true):=@Bool.and_eq_true
theorem Zr:∀ {α:Type _} (l bs cs:List α),l++bs++cs=l++(bs++cs):=@List.append_assoc
theorem Zs:∀ {α:Type _} {i:Nat} {l:List α},l.length<=i->List.take i l=l:=@List.take_of_length_le
theorem Zu:∀ {α:Type _} {p:α->Bool} {l:List α},l.all p=true↔∀ (x:α),x∈l->p x=true:=@List.all_eq_true
theorem Zv:∀ {n m k:Nat},n<=m->m<=k->n<=k:=@Nat.le_trans
theorem Zw:∀ {α:Type _} {i:Nat} {l:List α},(List.take i l).length=min i l.length:=@List.length_take
theorem Zx:∀ {α:Type _} {b:α} {l:List α} {a:α},a∈b::l↔a=b∨a∈l:=@List.mem_cons
theorem Zy:∀ {p:Prop} [Decidable p],(decide p=true)=p:=@decide_eq_true_eq
theorem Zz:∀ {α:Type _} {l:List α},l.length=0->l=[]:=@List.eq_nil_of_length_eq_zero
theorem ZA:∀ {α:Type _} {i:Nat} {l:List α},(List.drop i l).length=l.length-i:=@List.length_drop
theorem ZB:∀ {α:Type _} {i:Nat} {a:α} {l:List α},l[i]? = some a↔∃ (_:i<l.length),l[i]=a:=@List.getElem?_eq_some_iff
theorem ZC:∀ {α:Type _} [BEq α] [LawfulBEq α] {a b:α},(a == b)=false↔a≠b:=@beq_eq_false_iff_ne
theorem ZE:∀ {α:Type _} {i:Nat} {l:List α},l.length<=i->List.drop i l=[]:=@List.drop_of_length_le
theorem ZF:∀ {α:Type _} (l:List α),l++[]=l:=@List.append_nil
theorem ZG:∀ {m n:Nat},m∈List.range n↔m<n:=@List.mem_range
theorem ZH:∀ {α:Type _} {n:Nat} {a:α},(List.replicate n a).length=n:=@List.length_replicate
theorem ZI:∀ {α:Type _} {β:Type _} {f:α->List β} {b:β} {l:List α},b∈List.flatMap f l↔∃ (a:α),a∈l/\b∈f a:=@List.mem_flatMap
theorem ZK:∀ (n:Nat),0<=n:=@Nat.zero_le
theorem ZL:∀ {α:Type _} {i:Nat} {l:List α} (_:i<l.length),List.drop i l=l[i]::List.drop (i+1) l:=@List.drop_eq_getElem_cons
theorem ZM:∀ {α:Type _} {a:α} {l bs:List α},a::l++bs=a::(l++bs):=@List.cons_append
theorem ZN:∀ {α:Type _} {l₁ l₂:List α} {i:Nat},l₁.length<=i->(l₁++l₂)[i]? = l₂[i-l₁.length]?:=@List.getElem?_append_right
theorem ZO:∀ {α:Type _} {β:Type _} {xs ys:List α} {f:α->List β},List.flatMap f (xs++ys)=List.flatMap f xs++List.flatMap f ys:=@List.flatMap_append
theorem ZQ:∀ {α:Type _} {a:α} {s t:List α},a∈s++t↔a∈s∨a∈t:=@List.mem_append
theorem ZS:∀ {α:Type _} {b:α} {α_1:Type _} {x:Option α_1} {f:α_1->α},Option.map f x=some b↔∃ (a:α_1),x=some a/\f a=b:=@Option.map_eq_some_iff
theorem ZT:∀ {α:Type _} {l₁ l₂:List α} {i:Nat},i<l₁.length->(l₁++l₂)[i]? = l₁[i]?:=@List.getElem?_append_left
theorem ZU:∀ {p:Prop} [Decidable p],¬p->decide p=false:=@decide_eq_false
theorem ZV:∀ {α:Type _} {β:Type _} (a:α) (f:α->Option β),(some a).bind f=f a:=@Option.bind_some
theorem ZW:∀ {α:Type _} {a:α},[a].length=1:=@List.length_singleton
theorem ZX:∀ (n m:Nat),n<m∨n ≥ m:=@Nat.lt_or_ge
theorem ZY:∀ {α:Type _} {x:α} {xs:List α} {d:α},(x::xs).getD 0 d=x:=@List.getD_cons_zero
theorem ZZ:∀ {α:Type _} {xs:List α} {i j:Nat},(List.drop i xs)[j]? = xs[i+j]?:=@List.getElem?_drop
theorem Z0:∀ {α:Type _} (i:Nat) (l:List α),List.take i l++List.drop i l=l:=@List.take_append_drop
set_option maxRecDepth 100000
def inR (n lo hi:Int):Bool:=decide (lo<=n) && decide (n<=hi)
theorem zq5 {n lo hi:Int} (h:lo<=n) (k:n<=hi):inR n lo hi=true:=by simp [inR,h,k]
theorem zj5 {n lo hi:Int} (h:n<lo∨hi<n):inR n lo hi=false:=by simp [inR];omega
theorem zaq {n lo hi:Int} (h:inR n lo hi=true):lo<=n/\n<=hi:=by simpa [inR] using h
theorem zq4 {n lo hi:Int} (h:inR n lo hi=false):n<lo∨hi<n:=by simp [inR] at h;omega
structure St where
 k:Int
 p:Bool
 a:Int
 b:Int
theorem St.ext_ {x y:St} (h1:x.k=y.k) (h2:x.p=y.p) (h3:x.a=y.a) (h4:x.b=y.b):x=y:=by
 cases x;cases y;simp only at h1 h2 h3 h4;subst h1;subst h2;subst h3;subst h4;rfl
instance:DecidableEq St:=fun x y =>
 if h:x.k=y.k/\x.p=y.p/\x.a=y.a/\x.b=y.b then isTrue (St.ext_ h.1 h.2.1 h.2.2.1 h.2.2.2)
 else isFalse (fun e=>h (by subst e;exact ⟨rfl,rfl,rfl,rfl⟩))
def st0:St:=⟨0,false,0,0⟩
def kindB (k:Int):Bool:=inR k 1 10
def fa0 (k:Int):Int:=if k=3∨k=4∨k=5 then 2 else if k=6∨k=7∨k=9∨k=10 then 1 else 0
def fa1 (k:Int):Int:=if k=3∨k=4∨k=5 then 4 else if k=6∨k=7 then 6 else if k=9∨k=10 then 200 else 0
def fb0 (k:Int):Int:=if k=6∨k=7 then 1 else 0
def fb1 (k:Int):Int:=if k=6∨k=7 then 6 else 0
def fsd (k:Int):Bool:=decide (k=1∨(3<=k/\k<=8)∨k=10)
def fus (k:Int):Int:=if k=1∨k=5∨k=8 then 1 else if k=3∨k=4∨k=10 then 2 else if k=6∨k=7 then 3 else 0
def fmd (k:Int):Int:=if k=1∨k=2∨k=3∨k=4∨k=8 then 1 else if k=5∨k=9 then 2 else if k=6∨k=7 then 3 else 0
def flt (k:Int):List UInt8:=if k=3 then [102] else if k=4 then [108] else if k=5 then [109] else if k=6 then [120] else if k=7 then [121] else if k=8 then [115] else if k=10 then [111] else []
def okSt (s:St):Bool:=kindB s.k && inR s.a (fa0 s.k) (fa1 s.k) && inR s.b (fb0 s.k) (fb1 s.k) && !(s.p && !fsd s.k)
def okE (s:St):Int:=if okSt s then 0 else 8
def lpV (a b how:Int):Int:=if how=0 then 0 else if how=1 then 1 else if how=2 then a else a+b
def usV (s:St):Int:=lpV s.a s.b (fus s.k)
def mkV (s:St):Int:=lpV s.a s.b (fmd s.k)
def usL (l:List St):Int:=(l.map usV).sum
def mkL (l:List St):Int:=(l.map mkV).sum
def allB (l:List St):Bool:=l.all okSt
def allE (l:List St):Int:=if 200<l.length then 4 else if allB l then (if 200<max (usL l) (mkL l) then 4 else 0) else 8
theorem zad {k:Int} (h:kindB k=true):k=1∨k=2∨k=3∨k=4∨k=5∨k=6∨k=7∨k=8∨k=9∨k=10:=by
 have:=zaq h;omega
theorem zhG {s:St} (h:okSt s=true):kindB s.k=true/\inR s.a (fa0 s.k) (fa1 s.k)=true/\inR s.b (fb0 s.k) (fb1 s.k)=true/\(s.p && !fsd s.k)=false:=by
 simp only [okSt,Zp,Bool.not_eq_true'] at h
 exact ⟨h.1.1.1,h.1.1.2,h.1.2,h.2⟩
theorem zky {s:St} (h:okSt s=true):(0<=s.a/\s.a<=200/\0<=s.b/\s.b<=6)/\(0<=usV s/\usV s<=200)/\(0<=mkV s/\mkV s<=200)/\(0<=fus s.k/\fus s.k<=3)/\(0<=fmd s.k/\fmd s.k<=3):=by
 obtain ⟨hk,ha,hb,_⟩:=zhG h
 have ha:=zaq ha
 have hb:=zaq hb
 unfold usV mkV
 rcases zad hk with e | e | e | e | e | e | e | e | e | e <;> rw [e] at ha hb ⊢ <;> simp [fa0,fa1,fb0,fb1,fus,fmd,lpV] at ha hb ⊢ <;> omega
theorem zaK {s:St} (h:okSt s=true):kindB s.k=true:=(zhG h).1
theorem zsa {l:List St} {k:Nat} (h:k<l.length):l[k]?=some (l.getD k st0):=by
 rw [Zd,Zf h];rfl
theorem zoL {l:List St} {k:Nat} (h:k<l.length):l.take (k+1)=l.take k++[l.getD k st0]:=by
 rw [List.take_succ_eq_append_getElem h,Zd,Zf h];rfl
theorem zh2 {l:List St} {k:Nat} (h:k<l.length):usL (l.take (k+1))=usL (l.take k)+usV (l.getD k st0):=by
 rw [zoL h];simp [usL]
theorem zhA {l:List St} {k:Nat} (h:k<l.length):mkL (l.take (k+1))=mkL (l.take k)+mkV (l.getD k st0):=by
 rw [zoL h];simp [mkL]
theorem zda {l:List St} (h:allB l=true) {k:Nat} (hk:k<l.length):okSt (l.getD k st0)=true:=by
 rw [allB,Zu] at h
 exact h _ (by rw [Zd,Zf hk];exact List.getElem_mem _)
theorem zhd {l:List St} {n k:Nat} (hl:l.length=n) (hk:k<n) (h:okSt (l.getD k st0)=false):allB l=false:=by
 cases e:allB l
 ·rfl
 ·have:=zda e (k:=k) (by omega)
  rw [h] at this;cases this
theorem zi9 {l:List St} {n:Nat} (hl:l.length=n) (h:∀j,j<n->okSt (l.getD j st0)=true):allB l=true:=by
 rw [allB,Zu]
 intro x hx
 obtain ⟨j,hj,e⟩:=List.getElem_of_mem hx
 have:=h j (by omega)
 rwa [Zd,Zf hj,Option.getD_some,e] at this
theorem zll {l:List St} (h:allB l=true):∀k,k<=l.length->(0<=usL (l.take k)/\usL (l.take k)<=200*(k:Int))/\(0<=mkL (l.take k)/\mkL (l.take k)<=200*(k:Int)):=by
 intro k
 induction k with
 | zero=>intro _;simp [usL,mkL]
 | succ k ih =>
  intro hk
  have h1:=ih (by omega)
  have h2:=zky (zda h (k:=k) (by omega))
  rw [zh2 (by omega),zhA (by omega)]
  omega
theorem zja {l:List St} (h:200<l.length):allE l=4:=by rw [allE,if_pos h]
theorem zlP {l:List St} (h:¬200<l.length) (h2:allB l=false):allE l=8:=by rw [allE,if_neg h,h2];rfl
theorem zjb {l:List St} (h:¬200<l.length) (h2:allB l=true) (h3:200<max (usL l) (mkL l)):allE l=4:=by rw [allE,if_neg h,if_pos h2,if_pos h3]
theorem zoS {l:List St} (h:¬200<l.length) (h2:allB l=true) (h3:¬200<max (usL l) (mkL l)):allE l=0:=by rw [allE,if_neg h,if_pos h2,if_neg h3]
theorem zaZ {l:List St} (h:allE l=0):l.length<=200/\allB l=true/\usL l<=200/\mkL l<=200:=by
 unfold allE at h
 split at h
 ·omega
 ·split at h
  ·split at h
   ·omega
   ·rename_i h1 h2 h3
    exact ⟨by omega,h2,by omega,by omega⟩
  ·omega
def Bytes (l:List St):Prop:=∀j,j<l.length->0<=(l.getD j st0).k/\(l.getD j st0).k<=255
theorem zhh {l:List St} (h:∀s∈l,0<=s.k/\s.k<=255):Bytes l:=fun j hj=>h _ (by rw [Zd,Zf hj];exact List.getElem_mem _)
end Go.Proofs.YtbjgpbojjhldaaaGreatDoor
/- The texts of stitches in plain Lean: what is written,and what is read. -/
namespace Go.Proofs.YtbjgpbojjhldaaaGreatDoor
set_option maxRecDepth 100000
def dg (n:Nat):UInt8:=UInt8.ofNat (48+n % 10)
def isDg (c:UInt8):Bool:=decide (48<=c) && decide (c<=57)
def decF:Nat->Nat->List UInt8
 | 0,_=>[]
 | f+1,n=>if n<10 then [dg n] else decF f (n / 10)++[dg (n % 10)]
def decD (n:Nat):List UInt8:=decF 20 n
def valD (l:List UInt8):Nat:=l.foldl (fun v c=>10*v+(c.toNat-48)) 0
def headD:Nat->List UInt8->Nat
 | 0,_=>0
 | _+1,[]=>0
 | k+1,c::l=>if isDg c then headD k l+1 else 0
def numR (l:List UInt8):Int×List UInt8:=if headD 4 l=0 then (-1,l) else ((valD (l.take (headD 4 l)):Int),l.drop (headD 4 l))
def wordT (s:St):List UInt8 :=
 if s.k=2 then [121,111] else if s.k=9 then [111,110]++decD s.a.toNat
 else (if s.p then [112] else [107])++flt s.k++(if 0<fa1 s.k then decD s.a.toNat else [])++(if 0<fb1 s.k then 47::decD s.b.toNat else [])
def grp:List St->List (St×Nat)
 | []=>[]
 | s::l=>match grp l with
  | (t,n)::g=>if s.k=1/\s=t then (t,n+1)::g else (s,1)::(t,n)::g
  | []=>[(s,1)]
def wordG (x:St×Nat):List UInt8:=wordT x.1++if 1<x.2 then decD x.2 else []
def joinB (c:UInt8):List (List UInt8)->List UInt8
 | []=>[]
 | [x]=>x
 | x::y::l=>x++c::joinB c (y::l)
def textL (l:List St):List UInt8:=joinB 32 ((grp l).map wordG)
def spl (c:UInt8):List UInt8->List (List UInt8)
 | []=>[[]]
 | x::l=>if x=c then []::spl c l else match spl c l with
  | h::t=>(x::h)::t
  | []=>[[x]]
theorem zlg (c:UInt8) (l:List UInt8):spl c l≠[]:=by
 cases l with
 | nil=>simp [spl]
 | cons x l =>
  unfold spl
  split
  ·simp
  ·split <;> simp
theorem znK {c:UInt8} {w:List UInt8} (h:c ∉ w):spl c w=[w]:=by
 induction w with
 | nil=>rfl
 | cons x w ih =>
  have h1:¬x=c:=fun e=>h (by simp [e])
  have h2:=ih (fun e=>h (by simp [e]))
  unfold spl
  rw [if_neg h1,h2]
theorem znI {c:UInt8} {w l:List UInt8} (h:c ∉ w):spl c (w++c::l)=w::spl c l:=by
 induction w with
 | nil=>simp [spl]
 | cons x w ih =>
  have h1:¬x=c:=fun e=>h (by simp [e])
  have h2:=ih (fun e=>h (by simp [e]))
  rw [ZM,spl,if_neg h1,h2]
theorem znJ {c:UInt8}:∀ {ws:List (List UInt8)},ws≠[]->(∀w∈ws,c ∉ w)->spl c (joinB c ws)=ws:=by
 intro ws
 induction ws with
 | nil=>intro h;exact absurd rfl h
 | cons x ws ih =>
  intro _ h
  cases ws with
  | nil=>exact znK (h x (by simp))
  | cons y ws =>
   rw [joinB,znI (h x (by simp)),ih (by simp) (fun w hw=>h w (by simp at hw ⊢;exact .inr hw))]
def kindL (c:UInt8):Int:=if c=102 then 3 else if c=108 then 4 else if c=109 then 5 else if c=120 then 6 else if c=121 then 7 else if c=115 then 8 else if c=111 then 10 else if c=63 then 0 else 3
def trimS (l:List UInt8):List UInt8:=match l with
 | 47::t=>t
 | l=>l
def readK (p:Bool) (c:UInt8) (rest:List UInt8):St :=
 let k:=kindL c
 let a:=if 0<fa1 k then numR rest else (0,rest)
 ⟨k,p,a.1,if 0<fb1 k then (numR (trimS a.2)).1 else 0⟩
def readW:List UInt8->St×Int
 | []=>(st0,1)
 | c::rest =>
  if c=121/\rest=[111] then (⟨2,false,0,0⟩,1)
  else if c=111/\rest.head?=some 110 then (⟨9,false,(numR rest.tail).1,0⟩,1)
  else if ¬(c=107∨c=112) then (st0,1)
  else match rest with
   | []=>(⟨1,decide (c=112),0,0⟩,1)
   | d::r=>if 0<=(numR (d::r)).1 then (⟨1,decide (c=112),0,0⟩,min (max (numR (d::r)).1 1) 201) else (readK (decide (c=112)) d r,1)
def rng (lo hi:Nat):List Int:=(List.range (hi+1-lo)).map (fun i=>((lo+i:Nat):Int))
def allSt:List St :=
 [false,true].flatMap (fun p=>[⟨1,p,0,0⟩,⟨8,p,0,0⟩]++(rng 2 4).flatMap (fun a=>[⟨3,p,a,0⟩,⟨4,p,a,0⟩,⟨5,p,a,0⟩])
  ++ (rng 1 6).flatMap (fun a=>(rng 1 6).flatMap (fun b=>[⟨6,p,a,b⟩,⟨7,p,a,b⟩]))++(rng 1 200).map (fun a=>⟨10,p,a,0⟩))
 ++ ⟨2,false,0,0⟩::(rng 1 200).map (fun a=>⟨9,false,a,0⟩)
theorem zbq {lo hi:Nat} {x:Int} (h1:(lo:Int)<=x) (h2:x<=hi):x∈rng lo hi:=by
 rw [rng,List.mem_map]
 exact ⟨x.toNat-lo,ZG.2 (by omega),by omega⟩
theorem zdz {s:St} (h:okSt s=true):s∈allSt:=by
 obtain ⟨hk,ha,hb,hp⟩:=zhG h
 have ha:=zaq ha
 have hb:=zaq hb
 obtain ⟨k,p,a,b⟩:=s
 simp only at hk ha hb hp
 have hpm:p∈[false,true]:=by cases p <;> simp
 unfold allSt
 rw [ZQ]
 rcases zad hk with e | e | e | e | e | e | e | e | e | e <;> subst e <;> simp [fa0,fa1,fb0,fb1,fsd] at ha hb hp
 ·left
  obtain rfl:a=0:=by omega
  obtain rfl:b=0:=by omega
  exact ZI.2 ⟨p,hpm,by simp⟩
 ·right
  obtain rfl:a=0:=by omega
  obtain rfl:b=0:=by omega
  subst hp
  simp
 ·left
  obtain rfl:b=0:=by omega
  exact ZI.2 ⟨p,hpm,List.mem_append_left _ (List.mem_append_left _ (List.mem_append_right _ (ZI.2 ⟨a,zbq (by omega) (by omega),by simp⟩)))⟩
 ·left
  obtain rfl:b=0:=by omega
  exact ZI.2 ⟨p,hpm,List.mem_append_left _ (List.mem_append_left _ (List.mem_append_right _ (ZI.2 ⟨a,zbq (by omega) (by omega),by simp⟩)))⟩
 ·left
  obtain rfl:b=0:=by omega
  exact ZI.2 ⟨p,hpm,List.mem_append_left _ (List.mem_append_left _ (List.mem_append_right _ (ZI.2 ⟨a,zbq (by omega) (by omega),by simp⟩)))⟩
 ·left
  exact ZI.2 ⟨p,hpm,List.mem_append_left _ (List.mem_append_right _ (ZI.2 ⟨a,zbq (by omega) (by omega),ZI.2 ⟨b,zbq (by omega) (by omega),by simp⟩⟩))⟩
 ·left
  exact ZI.2 ⟨p,hpm,List.mem_append_left _ (List.mem_append_right _ (ZI.2 ⟨a,zbq (by omega) (by omega),ZI.2 ⟨b,zbq (by omega) (by omega),by simp⟩⟩))⟩
 ·left
  obtain rfl:a=0:=by omega
  obtain rfl:b=0:=by omega
  exact ZI.2 ⟨p,hpm,by simp⟩
 ·right
  obtain rfl:b=0:=by omega
  subst hp
  exact List.mem_cons_of_mem _ (List.mem_map.2 ⟨a,zbq (by omega) (by omega),rfl⟩)
 ·left
  obtain rfl:b=0:=by omega
  exact ZI.2 ⟨p,hpm,List.mem_append_right _ (List.mem_map.2 ⟨a,zbq (by omega) (by omega),rfl⟩)⟩
def wordOk (s:St):Bool:=decide (readW (wordT s)=(s,1)) && !(wordT s).contains 32 && !(wordT s).contains 10 && decide ((wordT s).length<=5) && decide (0<(wordT s).length)
theorem zh4:allSt.all wordOk=true:=by decide +kernel
def runOk (n:Nat):Bool:=[false,true].all (fun p=>decide (readW (wordG (⟨1,p,0,0⟩,n+2))=(⟨1,p,0,0⟩,((n+2:Nat):Int))) && !(wordG (⟨1,p,0,0⟩,n+2)).contains 32 && !(wordG (⟨1,p,0,0⟩,n+2)).contains 10 && decide ((wordG (⟨1,p,0,0⟩,n+2)).length<=5))
theorem zqf:(List.range 199).all runOk=true:=by decide +kernel
end Go.Proofs.YtbjgpbojjhldaaaGreatDoor
/- The library's words on strings and numbers,read in the words of the stitches' texts. -/
namespace Go.Proofs.YtbjgpbojjhldaaaGreatDoor
set_option maxRecDepth 100000
open Go
theorem zjz {n:Nat} (h:n<10):dg n=UInt8.ofNat (48+n):=by rw [dg,Nat.mod_eq_of_lt h]
theorem zma:∀(f n:Nat),n<10 ^ (f+1)->decF (f+1) n=Lib.decDigits n:=by
 intro f
 induction f with
 | zero =>
  intro n h
  have h:n<10:=by simpa using h
  rw [Lib.decDigits,dif_pos h,decF,if_pos h,zjz h]
 | succ f ih =>
  intro n h
  rw [Lib.decDigits,decF]
  by_cases hn:n<10
  ·rw [dif_pos hn,if_pos hn,zjz hn]
  ·rw [dif_neg hn,if_neg hn,ih (n / 10) (by rw [Nat.pow_succ] at h;omega),zjz (Nat.mod_lt _ (by omega))]
theorem zl9:∀(f n:Nat),(decF f n).length<=f:=by
 intro f
 induction f with
 | zero=>intro n;simp [decF]
 | succ f ih =>
  intro n
  rw [decF]
  split
  ·simp
  ·have:=ih (n / 10)
   simp only [Zc,Zk,List.length_nil]
   omega
theorem zaj (n:Nat):(decD n).length<=20:=zl9 20 n
theorem zgj {n:Nat} (h:n<10 ^ 20):Lib.decDigits n=decD n:=(zma 19 n h).symm
theorem zmH {n:Int} (h0:0<=n) (h1:n<=1000000000000):Lib.itoa n=decD n.toNat:=by
 rw [Lib.itoa,if_neg (by omega),zgj (by omega)]
theorem zaH (c x:UInt8) (l:List UInt8):Lib.index (x::l) [c]=if c=x then 0 else if Lib.index l [c] == -1 then -1 else Lib.index l [c]+1:=by
 rw [Lib.index]
 by_cases h:c=x <;> simp [h,List.isPrefixOf]
theorem zcy (c:UInt8):Lib.index [] [c] = -1:=rfl
theorem zsI (c:UInt8):∀(m:Nat) (l:List UInt8),l.length<=m->Lib.splitK [c] 0 (Lib.count l [c]) l=spl c l:=by
 intro m
 induction m with
 | zero =>
  intro l h
  obtain rfl:l=[]:=Zz (by omega)
  rw [Lib.count_miss (zcy c)]
  rfl
 | succ m ih =>
  intro l h
  rcases hi:l with _ | ⟨x,t⟩
  ·rw [Lib.count_miss (zcy c)];rfl
  ·subst hi
   by_cases hx:x=c
   ·subst hx
    have h0:Lib.index (x::t) [x]=(0:Nat):=by rw [zaH];simp
    rw [Lib.count_hit (by simp) h0,Nat.add_comm 1,Lib.splitK,h0]
    have h2:=ih t (by simpa using h)
    have h3:∀a:List UInt8,(List.drop ([x]:List UInt8).length (x::a))=a:=fun _=>rfl
    simp [h2,spl]
   ·have aa:¬c=x:=fun e=>hx e.symm
    rw [spl,if_neg hx]
    rcases Lib.index_spec t [c] with ⟨hm,_⟩ | ⟨i,hm,_⟩
    ·have h1:Lib.index (x::t) [c] = -1:=by rw [zaH,if_neg aa,hm];rfl
     have ht:t.length<=m:=by simpa using h
     have h2:=ih t ht
     rw [Lib.count_miss hm] at h2
     rw [Lib.count_miss h1,<-h2]
     rfl
    ·have h1:Lib.index (x::t) [c]=((i+1:Nat):Int):=by
      rw [zaH,if_neg aa,hm,if_neg (by first | (simp;done) | (simp;omega))];rfl
     have ht:t.length<=m:=by simpa using h
     have h2:=ih t ht
     rw [Lib.count_hit (by simp) hm,Nat.add_comm 1,Lib.splitK,hm,if_neg (by first | (simp;done) | (simp;omega))] at h2
     rw [Lib.count_hit (by simp) h1,Nat.add_comm 1,Lib.splitK,h1,if_neg (by first | (simp;done) | (simp;omega)),<-h2]
     simp only [Int.toNat_natCast,Nat.add_zero,List.take_succ_cons,Zk,List.length_nil,List.drop_succ_cons,Nat.zero_add]
theorem zcQ (c x:UInt8) (t:List UInt8):(spl c (x::t)).length=if x=c then (spl c t).length+1 else (spl c t).length:=by
 rw [spl]
 split
 ·simp
 ·have:=zlg c t
  rcases h:spl c t with _ | ⟨y,r⟩
  ·exact absurd h this
  ·simp
theorem zfQ (c:UInt8):∀(m:Nat) (l:List UInt8),l.length<=m->(spl c l).length=Lib.count l [c]+1:=by
 intro m
 induction m with
 | zero =>
  intro l h
  obtain rfl:l=[]:=Zz (by omega)
  rw [Lib.count_miss (zcy c)]
  rfl
 | succ m ih =>
  intro l h
  rcases hi:l with _ | ⟨x,t⟩
  ·rw [Lib.count_miss (zcy c)];rfl
  ·subst hi
   have h2:=ih t (by simpa using h)
   rw [zcQ]
   by_cases hx:x=c
   ·subst hx
    have h0:Lib.index (x::t) [x]=(0:Nat):=by rw [zaH];simp
    have h3:=Lib.count_hit (by simp) h0
    rw [if_pos rfl,h2,h3]
    simp
    omega
   ·have aa:¬c=x:=fun e=>hx e.symm
    rw [if_neg hx,h2]
    rcases Lib.index_spec t [c] with ⟨hm,_⟩ | ⟨i,hm,_⟩
    ·have h1:Lib.index (x::t) [c] = -1:=by rw [zaH,if_neg aa,hm];rfl
     rw [Lib.count_miss hm,Lib.count_miss h1]
    ·have h1:Lib.index (x::t) [c]=((i+1:Nat):Int):=by
      rw [zaH,if_neg aa,hm,if_neg (by first | (simp;done) | (simp;omega))];rfl
     rw [Lib.count_hit (by simp) hm,Lib.count_hit (by simp) h1]
     simp
theorem zlj (c:UInt8) (s:ByteArray):(Lib.splitB ⟨#[c]⟩ 0 (Lib.countB s ⟨#[c]⟩) s).map (·.data.toList)=spl c s.data.toList:=by
 rw [Lib.splitB_data]
 exact zsI c _ _ (Zb _)
theorem zmI (c:UInt8):∀(ws:List (List UInt8)),Lib.join ws [c]=joinB c ws:=by
 intro ws
 induction ws with
 | nil=>rfl
 | cons x ws ih =>
  cases ws with
  | nil=>simp [Lib.join_one,joinB]
  | cons y ws =>
   rw [Lib.join_cons]
   rw [Lib.join_cons] at ih
   rw [joinB,<-ih]
   simp [Lib.joinTail]
theorem zdZ {c:UInt8} (h:isDg c=true):48<=c.toNat/\c.toNat<=57:=by
 simp only [isDg,Zp,Zy,UInt8.le_iff_toNat_le] at h
 exact h
theorem zdq:∀(l:List UInt8) (acc:Nat),l.all isDg=true->Lib.decFrom acc l=some (l.foldl (fun v c=>10*v+(c.toNat-48)) acc):=by
 intro l
 induction l with
 | nil=>intro acc _;rfl
 | cons c r ih =>
  intro acc h
  have h1:isDg c=true/\r.all isDg=true:=by simpa using h
  rw [Lib.decFrom,Lib.digitVal,if_pos (zdZ h1.1)]
  simp only
  rw [ih _ h1.2,List.foldl_cons,Nat.mul_comm acc 10]
theorem zdb {l:List UInt8} (h:l.all isDg=true) (hl:l≠[]):Lib.atoi l=some (valD l:Int):=by
 rcases l with _ | ⟨c,r⟩
 ·exact absurd rfl hl
 ·have h1:isDg c=true/\r.all isDg=true:=by simpa using h
  have h2:=zdZ h1.1
  have h3:(c==45)=false:=by
   rw [ZC]
   rintro rfl
   simp at h2
  have h4:(c==43)=false:=by
   rw [ZC]
   rintro rfl
   simp at h2
  rw [Lib.atoi,h3,h4]
  have h5:Lib.decNat (c::r)=some (valD (c::r)):=by
   rw [Lib.decNat,List.isEmpty_cons,if_neg (by simp),zdq _ 0 h]
   rfl
  rw [h5]
  rfl
theorem zbJ:∀(k:Nat) (l:List UInt8),headD k l<=k/\headD k l<=l.length/\(l.take (headD k l)).all isDg=true:=by
 intro k
 induction k with
 | zero=>intro l;simp [headD]
 | succ k ih =>
  intro l
  cases l with
  | nil=>simp [headD]
  | cons c r =>
   obtain ⟨h1,h2,h3⟩:=ih r
   rw [headD]
   split
   ·rename_i hc
    refine ⟨by omega,by simp only [Zk];omega,?_⟩
    rw [List.take_succ_cons,List.all_cons,hc,h3];rfl
   ·simp
theorem zd2 {k:Nat}:∀ {l:List UInt8} {n:Nat},n<=headD k l->(n<headD k l↔n<k/\n<l.length/\isDg (l.getD n 0)=true):=by
 induction k with
 | zero=>intro l n h;simp [headD] at h ⊢
 | succ k ih =>
  intro l n h
  cases l with
  | nil=>simp [headD] at h ⊢
  | cons c r =>
   rw [headD] at h ⊢
   by_cases hc:isDg c=true
   ·rw [if_pos hc] at h ⊢
    cases n with
    | zero=>simp [hc]
    | succ n =>
     have:=ih (l:=r) (n:=n) (by omega)
     simp only [List.getD_cons_succ,Zk,Nat.add_lt_add_iff_right]
     exact this
   ·rw [if_neg hc] at h ⊢
    obtain rfl:n=0:=by omega
    simp [hc]
theorem zqA:∀(l:List UInt8) (acc:Nat),l.all isDg=true->l.foldl (fun v c=>10*v+(c.toNat-48)) acc<(acc+1)*10 ^ l.length:=by
 intro l
 induction l with
 | nil=>intro acc _;simp
 | cons c r ih =>
  intro acc h
  have h1:isDg c=true/\r.all isDg=true:=by simpa using h
  have h2:=zdZ h1.1
  have h3:=ih (10*acc+(c.toNat-48)) h1.2
  rw [List.foldl_cons,Zk,Nat.pow_succ]
  refine Zi h3 ?_
  rw [Nat.mul_comm (10 ^ r.length) 10,<-Nat.mul_assoc]
  exact Nat.mul_le_mul_right _ (by omega)
theorem zcF {l:List UInt8} (h:l.all isDg=true) (hl:l.length<=4):valD l<10000:=by
 have h1:=zqA l 0 h
 have h2:10 ^ l.length<=10 ^ 4:=Nat.pow_le_pow_right (by omega) hl
 unfold valD
 omega
end Go.Proofs.YtbjgpbojjhldaaaGreatDoor
/- Parse of Text is the list: the plain law of the texts of stitches. -/
namespace Go.Proofs.YtbjgpbojjhldaaaGreatDoor
set_option maxRecDepth 100000
structure WordFine (x:St×Nat):Prop where
 read:readW (wordG x)=(x.1,(x.2:Int))
 blank:(32:UInt8) ∉ wordG x
 line:(10:UInt8) ∉ wordG x
 short:(wordG x).length<=5
 long:0<(wordG x).length
theorem zlI {s:St} {n:Nat} (h:okSt s=true) (h1:1<=n) (h2:n<=200) (h3:n=1∨s.k=1):WordFine (s,n):=by
 rcases ZX 1 n with hn | hn
 ·have hk:s.k=1:=by rcases h3 with h3 | h3 <;> first | omega | exact h3
  obtain ⟨hk1,ha,hb,hp⟩:=zhG h
  rw [hk] at ha hb
  have ha:=zaq ha
  have hb:=zaq hb
  simp [fa0,fa1,fb0,fb1] at ha hb
  obtain ⟨k,p,a,b⟩:=s
  simp only at hk ha hb
  subst hk
  obtain rfl:a=0:=by omega
  obtain rfl:b=0:=by omega
  obtain ⟨m,rfl⟩:∃m,n=m+2:=⟨n-2,by omega⟩
  have h5:=Zu.1 zqf m (ZG.2 (by omega))
  have h6:=Zu.1 h5 p (by cases p <;> simp)
  simp only [Zp,Zy,Bool.not_eq_true'] at h6
  refine ⟨h6.1.1.1,fun h=>?_,fun h=>?_,h6.2,?_⟩
  ·have:=List.contains_iff_mem.2 h;rw [h6.1.1.2] at this;cases this
  ·have:=List.contains_iff_mem.2 h;rw [h6.1.2] at this;cases this
  ·have:0<(wordT ⟨1,p,0,0⟩).length:=by cases p <;> decide
   simp only [wordG,Zc];omega
 ·obtain rfl:n=1:=by omega
  have h5:=Zu.1 zh4 s (zdz h)
  simp only [wordOk,Zp,Zy,Bool.not_eq_true'] at h5
  have e:wordG (s,1)=wordT s:=by simp [wordG]
  refine ⟨by rw [e];exact h5.1.1.1.1,fun h=>?_,fun h=>?_,by rw [e];exact h5.1.2,by rw [e];exact h5.2⟩
  ·rw [e] at h;have:=List.contains_iff_mem.2 h;rw [h5.1.1.1.2] at this;cases this
  ·rw [e] at h;have:=List.contains_iff_mem.2 h;rw [h5.1.1.2] at this;cases this
theorem zbp (s:St) (l:List St):(∃n g,grp l=(s,n)::g/\s.k=1/\grp (s::l)=(s,n+1)::g)∨(grp (s::l)=(s,1)::grp l/\∀n g,grp l=(s,n)::g->s.k≠1):=by
 rcases h:grp l with _ | ⟨⟨t,n⟩,g⟩
 ·exact .inr ⟨by simp [grp,h],fun n g e=>by cases e⟩
 ·by_cases hc:s.k=1/\s=t
  ·obtain ⟨h1,rfl⟩:=hc
   exact .inl ⟨n,g,rfl,h1,by simp [grp,h,h1]⟩
  ·refine .inr ⟨by simp only [grp,h];rw [if_neg hc],fun n' g' e hk=>hc ⟨hk,?_⟩⟩
   injection e with e1 e2
   injection e1 with e1 e3
   exact e1.symm
theorem zir (l:List St):(grp l).flatMap (fun x=>List.replicate x.2 x.1)=l:=by
 induction l with
 | nil=>rfl
 | cons s l ih =>
  rcases zbp s l with ⟨n,g,h1,_,h3⟩ | ⟨h1,_⟩
  ·rw [h1] at ih
   rw [h3,List.flatMap_cons]
   rw [List.flatMap_cons] at ih
   rw [List.replicate_succ,ZM,ih]
  ·rw [h1,List.flatMap_cons,ih];rfl
theorem zjZ (l:List St):((grp l).map (·.2)).sum=l.length:=by
 induction l with
 | nil=>rfl
 | cons s l ih =>
  rcases zbp s l with ⟨n,g,h1,_,h3⟩ | ⟨h1,_⟩
  ·rw [h1] at ih
   rw [h3]
   simp at ih ⊢
   omega
  ·rw [h1];simp at ih ⊢;omega
theorem zgr {l:List St}:∀ {x:St×Nat},x∈grp l->x.1∈l/\1<=x.2/\(x.2=1∨x.1.k=1):=by
 induction l with
 | nil=>intro x h;cases h
 | cons s l ih =>
  intro x h
  rcases zbp s l with ⟨n,g,h1,h2,h3⟩ | ⟨h1,_⟩
  ·rw [h3] at h
   rcases Zx.1 h with rfl | h
   ·exact ⟨by simp,by simp,.inr h2⟩
   ·have:=ih (x:=x) (by rw [h1];simp [h])
    exact ⟨by simp [this.1],this.2⟩
  ·rw [h1] at h
   rcases Zx.1 h with rfl | h
   ·exact ⟨by simp,by simp,.inl rfl⟩
   ·have:=ih h
    exact ⟨by simp [this.1],this.2⟩
theorem zow {l:List St} (h:l≠[]):grp l≠[]:=by
 cases l with
 | nil=>exact absurd rfl h
 | cons s l =>
  rcases zbp s l with ⟨n,g,_,_,h3⟩ | ⟨h1,_⟩
  ·rw [h3];simp
  ·rw [h1];simp
theorem zkg {l:List (St×Nat)} {x:St×Nat} (h:x∈l):x.2<=(l.map (·.2)).sum:=by
 induction l with
 | nil=>cases h
 | cons y l ih =>
  rcases Zx.1 h with rfl | h
  ·simp
  ·have:=ih h;simp at this ⊢;omega
theorem zcY {l:List St} (h:allE l=0) {x:St×Nat} (hx:x∈grp l):WordFine x:=by
 obtain ⟨h1,h2,_,_⟩:=zaZ h
 obtain ⟨m1,m2,m3⟩:=zgr hx
 have h4:=zkg hx
 rw [zjZ] at h4
 exact zlI (Zu.1 h2 _ m1) m2 (by omega) m3
def parseGo:List St->List (List UInt8)->Option (List St)
 | acc,[]=>some acc
 | acc,w::ws=>if okSt (readW w).1=true/\(acc.length:Int)+(readW w).2<=200 then parseGo (acc++List.replicate (readW w).2.toNat (readW w).1) ws else none
def parseW (s:List UInt8):Option (List St):=if s=[] then some [] else parseGo [] (spl 32 s)
def parseL (s:List UInt8):Option (List St) :=
 if 3000<s.length then none else (parseW s).bind fun l=>if allE l=0/\textL l=s then some l else none
theorem zeN {gs:List (St×Nat)}:∀ {acc:List St},(∀x∈gs,WordFine x/\okSt x.1=true)->acc.length+(gs.map (·.2)).sum<=200 ->
  parseGo acc (gs.map wordG)=some (acc++gs.flatMap (fun x=>List.replicate x.2 x.1)):=by
 induction gs with
 | nil=>intro acc _ _;simp [parseGo]
 | cons x gs ih =>
  intro acc h hs
  obtain ⟨hf,hk⟩:=h x (by simp)
  simp only [List.map_cons,List.sum_cons] at hs
  rw [List.map_cons,parseGo,hf.read]
  rw [if_pos ⟨hk,by simp only;omega⟩]
  rw [ih (fun y hy=>h y (by simp [hy])) (by simp;omega)]
  simp
theorem zdu {c:UInt8} {ws:List (List UInt8)} {m:Nat} (h:∀w∈ws,w.length<=m):(joinB c ws).length<=(m+1)*ws.length:=by
 induction ws with
 | nil=>simp [joinB]
 | cons x ws ih =>
  have hx:=h x (by simp)
  cases ws with
  | nil=>simp only [joinB,Zk,List.length_nil];omega
  | cons y ws =>
   have:=ih (fun w hw=>h w (by simp at hw ⊢;exact .inr hw))
   simp only [joinB,Zc,Zk] at this ⊢
   rw [Nat.mul_add (m+1) (ws.length+1) 1,Nat.mul_one]
   omega
theorem zjY (l:List St):(grp l).length<=l.length:=by
 induction l with
 | nil=>simp [grp]
 | cons s l ih =>
  rcases zbp s l with ⟨n,g,h1,_,h3⟩ | ⟨h1,_⟩
  ·rw [h1] at ih;rw [h3];simp at ih ⊢;omega
  ·rw [h1];simp;omega
theorem znQ {l:List St} (h:allE l=0):(textL l).length<=6*l.length:=by
 have h1:=zdu (c:=32) (ws:=(grp l).map wordG) (m:=5) (fun w hw=>by
  obtain ⟨x,hx,rfl⟩:=List.mem_map.1 hw
  exact (zcY h hx).short)
 have h2:=zjY l
 rw [List.length_map] at h1
 unfold textL
 omega
theorem zbL {l:List St} (h:allE l=0):(textL l).length<=1200:=by
 have h1:=znQ h
 have h2:=(zaZ h).1
 omega
theorem zpr {c:UInt8} {ws:List (List UInt8)} (h:ws≠[]) (hw:∀w∈ws,0<w.length):joinB c ws≠[]:=by
 cases ws with
 | nil=>exact absurd rfl h
 | cons x ws =>
  have:=hw x (by simp)
  cases ws with
  | nil=>intro e;rw [joinB] at e;rw [e] at this;simp at this
  | cons y ws=>intro e;rw [joinB] at e;simp at e
theorem znR {l:List St} (h:allE l=0) (hl:l≠[]):spl 32 (textL l)=(grp l).map wordG :=
 znJ (by simpa using zow hl) (fun w hw=>by
  obtain ⟨x,hx,rfl⟩:=List.mem_map.1 hw
  exact (zcY h hx).blank)
theorem zee {l:List St} (h:allE l=0):parseL (textL l)=some l:=by
 have hs:=zbL h
 rw [parseL,if_neg (by omega)]
 have hw:parseW (textL l)=some l:=by
  rcases List.eq_nil_or_concat l with rfl | ⟨l',x,e⟩
  ·rfl
  ·have hl:l≠[]:=by rw [e];simp
   have hne:textL l≠[]:=zpr (by simpa using zow hl) (fun w hw=>by
    obtain ⟨x,hx,rfl⟩:=List.mem_map.1 hw
    exact (zcY h hx).long)
   rw [parseW,if_neg hne,znR h hl,zeN (fun y hy=>⟨zcY h hy,Zu.1 (zaZ h).2.1 _ (zgr hy).1⟩) (by rw [zjZ];have:=(zaZ h).1;simp;omega),zir]
   simp
 rw [hw,ZV,if_pos ⟨h,rfl⟩]
theorem zch {s:List UInt8} {l:List St}:parseL s=some l↔s.length<=3000/\allE l=0/\textL l=s:=by
 constructor
 ·intro h
  unfold parseL at h
  split at h
  ·cases h
  ·obtain ⟨l',h1,h2⟩:=Option.bind_eq_some_iff.1 h
   split at h2
   ·rename_i h3
    cases h2
    exact ⟨by omega,h3⟩
   ·cases h2
 ·rintro ⟨h1,h2,rfl⟩
  exact zee h2
end Go.Proofs.YtbjgpbojjhldaaaGreatDoor
/- Cells with repeats in plain Lean: terms,their sizes,and the shortest list. -/
namespace Go.Proofs.YtbjgpbojjhldaaaGreatDoor
set_option maxRecDepth 100000
inductive Tms where
 | nil:Tms
 | cons (n:Int) (c:St) (g:Tms) (r:Tms):Tms
def Tms.app:Tms->Tms->Tms
 | .nil,t=>t
 | .cons n c g r,t => .cons n c g (r.app t)
def Tms.cnt:Tms->Nat
 | .nil=>0
 | .cons _ _ _ r=>r.cnt+1
def Tms.size:Tms->Nat
 | .nil=>0
 | .cons _ _ g r=>1+g.size+r.size
def Tms.depth:Tms->Nat
 | .nil=>0
 | .cons _ _ g r=>max (g.depth+1) r.depth
def rep:Nat->List St->List St
 | 0,_=>[]
 | n+1,l=>l++rep n l
def Tms.cells:Tms->List St
 | .nil=>[]
 | .cons n c .nil r=>List.replicate n.toNat c++r.cells
 | .cons n _ g r=>rep n.toNat g.cells++r.cells
def Tms.pos:Tms->Prop
 | .nil=>True
 | .cons n _ g r=>1<=n/\g.pos/\r.pos
theorem zbf (n:Int) (c:St) (g r:Tms) (h:g ≠ .nil):(Tms.cons n c g r).cells=rep n.toNat g.cells++r.cells:=by
 cases g with
 | nil=>exact absurd rfl h
 | cons=>rfl
theorem zbg (n:Int) (c:St) (r:Tms):(Tms.cons n c .nil r).cells=List.replicate n.toNat c++r.cells:=rfl
theorem zjd:∀(a b:Tms),(a.app b).cells=a.cells++b.cells:=by
 intro a
 induction a with
 | nil=>intro b;rfl
 | cons n c g r _ ih2 =>
  intro b
  rw [Tms.app]
  by_cases h:g = .nil
  ·subst h;rw [zbg,zbg,ih2,Zr]
  ·rw [zbf _ _ _ _ h,zbf _ _ _ _ h,ih2,Zr]
theorem zlS:∀(a b:Tms),(a.app b).size=a.size+b.size:=by
 intro a
 induction a with
 | nil=>intro b;simp [Tms.app,Tms.size]
 | cons n c g r _ ih2=>intro b;rw [Tms.app,Tms.size,Tms.size,ih2];omega
theorem zoV:∀(a b:Tms),a.pos->b.pos->(a.app b).pos:=by
 intro a
 induction a with
 | nil=>intro b _ h;exact h
 | cons n c g r _ ih2=>intro b h k;exact ⟨h.1,h.2.1,ih2 b h.2.2 k⟩
theorem zje:∀(a b:Tms),(a.app b).depth=max a.depth b.depth:=by
 intro a
 induction a with
 | nil=>intro b;simp [Tms.app,Tms.depth]
 | cons n c g r _ ih2=>intro b;rw [Tms.app,Tms.depth,Tms.depth,ih2];omega
theorem zbX (n:Nat) (l:List St):(rep n l).length=n*l.length:=by
 induction n with
 | zero=>simp [rep]
 | succ n ih=>rw [rep,Zc,ih,Nat.add_mul,Nat.one_mul,Nat.add_comm]
theorem zhV {t:Tms} (h:t ≠ .nil):0<t.size:=by
 cases t with
 | nil=>exact absurd rfl h
 | cons=>simp [Tms.size];omega
theorem zji:∀ {t:Tms},t.pos->t ≠ .nil->0<t.cells.length:=by
 intro t
 induction t with
 | nil=>intro _ h;exact absurd rfl h
 | cons n c g r ih1 _ =>
  intro hp _
  by_cases h:g = .nil
  ·subst h
   rw [zbg,Zc,ZH]
   have:=hp.1;omega
  ·rw [zbf _ _ _ _ h,Zc,zbX]
   have h1:=ih1 hp.2.1 h
   have h2:0<n.toNat:=by have:=hp.1;omega
   have:=Nat.mul_pos h2 h1
   omega
def perB (l:List St) (p:Nat):Bool:=decide (l.length % p=0) && decide (l.drop p=l.take (l.length-p))
structure Chc where
 size:Nat
 period:Nat
 part:Nat
def perStep (f:List St->Nat) (l:List St) (c:Chc) (p:Nat):Chc:=if 2<=p/\perB l p=true/\1+f (l.take p)<c.size then ⟨1+f (l.take p),p,0⟩ else c
def partStep (f:List St->Nat) (l:List St) (c:Chc) (k:Nat):Chc:=if 1<=k/\f (l.take k)+f (l.drop k)<c.size then ⟨f (l.take k)+f (l.drop k),0,k⟩ else c
def chG (f:List St->Nat) (l:List St):Chc :=
 if perB l 1=true then ⟨1,0,0⟩ else (List.range l.length).reverse.foldl (partStep f l) ((List.range l.length).foldl (perStep f l) ⟨l.length+1,0,0⟩)
def chF:Nat->List St->Chc
 | 0,_=>⟨0,0,0⟩
 | f+1,l=>chG (fun x=>(chF f x).size) l
theorem zmt {α:Type} (step:Chc->α->Chc) (h:∀c x,(step c x).size<=c.size) (l:List α):∀c,(l.foldl step c).size<=c.size:=by
 induction l with
 | nil=>intro c;exact Zb _
 | cons x l ih=>intro c;exact Zv (ih _) (h c x)
theorem zgo {α:Type} (step:Chc->α->Chc) (h:∀c x,(step c x).size<=c.size) {l:List α} {x:α} {m:Nat} (hx:x∈l) (hm:∀c,(step c x).size<=m):∀c,(l.foldl step c).size<=m:=by
 induction l with
 | nil=>cases hx
 | cons y l ih =>
  intro c
  rcases Zx.1 hx with rfl | hx
  ·exact Zv (zmt step h l _) (hm c)
  ·exact ih hx _
theorem zpS (f:List St->Nat) (l:List St) (c:Chc) (k:Nat):(partStep f l c k).size<=c.size:=by
 unfold partStep;split
 ·rename_i h;exact Nat.le_of_lt h.2
 ·exact Zb _
theorem zdp {α:Type} {s t:Chc->α->Chc} {l:List α} (h:∀x∈l,∀c,s c x=t c x):∀c,l.foldl s c=l.foldl t c:=by
 induction l with
 | nil=>intro c;rfl
 | cons x l ih=>intro c;rw [List.foldl_cons,List.foldl_cons,h x (by simp),ih (fun y hy=>h y (by simp [hy]))]
theorem zcN {l:List St} (h:l≠[]):0<l.length:=by
 cases l with
 | nil=>exact absurd rfl h
 | cons x l=>simp
theorem zbN {l:List St} (h:0<l.length):l≠[]:=by rintro rfl;simp at h
theorem ze7 {f g:List St->Nat} {l:List St} (hl:l≠[]) (h:∀x:List St,x≠[]->x.length<l.length->f x=g x):chG f l=chG g l:=by
 have hl:=zcN hl
 unfold chG
 split
 ·rfl
 ·have e1:(List.range l.length).foldl (perStep f l) ⟨l.length+1,0,0⟩=(List.range l.length).foldl (perStep g l) ⟨l.length+1,0,0⟩ :=
   zdp (fun p hp c=>by
    have:=ZG.1 hp
    unfold perStep
    by_cases h1:2<=p
    ·rw [h (l.take p) (zbN (by rw [Zw];omega)) (by rw [Zw];omega)]
    ·rw [if_neg (fun e=>h1 e.1),if_neg (fun e=>h1 e.1)]) _
  rw [e1]
  exact zdp (fun k hk c=>by
   have hk:=ZG.1 (List.mem_reverse.1 hk)
   unfold partStep
   by_cases h1:1<=k
   ·rw [h (l.take k) (zbN (by rw [Zw];omega)) (by rw [Zw];omega),h (l.drop k) (zbN (by rw [ZA];omega)) (by rw [ZA];omega)]
   ·rw [if_neg (fun e=>h1 e.1),if_neg (fun e=>h1 e.1)]) _
theorem zl1:∀(f:Nat) (l:List St) (f':Nat),l≠[]->l.length<=f->l.length<=f'->chF f l=chF f' l:=by
 intro f
 induction f with
 | zero=>intro l f' hne h _;have:=zcN hne;omega
 | succ f ih =>
  intro l f' hne h h'
  have hl:=zcN hne
  obtain ⟨m,rfl⟩:∃m,f'=m+1:=⟨f'-1,by omega⟩
  rw [chF,chF]
  exact ze7 hne (fun x hx hlt=>by rw [ih x m hx (by omega) (by omega)])
def ch (l:List St):Chc:=chF l.length l
theorem zjj {l:List St} (h:l≠[]):ch l=chG (fun x=>(ch x).size) l:=by
 have hl:=zcN h
 obtain ⟨m,hm⟩:∃m,l.length=m+1:=⟨l.length-1,by omega⟩
 rw [ch,hm,chF]
 exact ze7 h (fun x hx hlt=>by rw [ch,zl1 m x x.length hx (by omega) (Zb _)])
theorem zf7 {l:List St} (h:l≠[]) (hp:perB l 1=true):ch l=⟨1,0,0⟩:=by rw [zjj h,chG,if_pos hp]
theorem zo2 {l:List St} {k:Nat} (h1:1<=k) (hk:k<l.length):(ch l).size<=(ch (l.take k)).size+(ch (l.drop k)).size∨(ch l).size=1:=by
 have h:l≠[]:=zbN (by omega)
 rw [zjj h,chG]
 split
 ·exact .inr rfl
 ·left
  refine zgo _ (zpS _ l) (List.mem_reverse.2 (ZG.2 hk)) (fun c=>?_) _
  unfold partStep
  split
  ·exact Zb _
  ·rename_i hn
   have:¬(ch (l.take k)).size+(ch (l.drop k)).size<c.size:=fun e=>hn ⟨h1,e⟩
   omega
theorem zho {α:Type} {Q:Chc->Prop} (step:Chc->α->Chc) {l:List α} (h:∀x∈l,∀c,Q c->Q (step c x)):∀c,Q c->Q (l.foldl step c):=by
 induction l with
 | nil=>intro c hc;exact hc
 | cons x l ih=>intro c hc;exact ih (fun y hy=>h y (by simp [hy])) _ (h x (by simp) c hc)
def Made (l:List St) (c:Chc):Prop :=
 (c=⟨1,0,0⟩/\perB l 1=true)∨(2<=c.period/\c.period<l.length/\c.part=0/\perB l c.period=true/\c.size=1+(ch (l.take c.period)).size) ∨
 (c.period=0/\1<=c.part/\c.part<l.length/\c.size=(ch (l.take c.part)).size+(ch (l.drop c.part)).size)∨c=⟨l.length+1,0,0⟩
theorem zhi {l:List St} (h:l≠[]):Made l (ch l):=by
 rw [zjj h,chG]
 split
 ·rename_i hp;exact .inl ⟨rfl,hp⟩
 ·refine zho (Q:=Made l) _ (fun k hk c hc=>?_) _ (zho (Q:=Made l) _ (fun p hp c hc=>?_) _ (.inr (.inr (.inr rfl))))
  ·have hk:=ZG.1 (List.mem_reverse.1 hk)
   unfold partStep
   split
   ·rename_i hh;exact .inr (.inr (.inl ⟨rfl,hh.1,hk,rfl⟩))
   ·exact hc
  ·have hp:=ZG.1 hp
   unfold perStep
   split
   ·rename_i hh;exact .inr (.inl ⟨hh.1,hp,rfl,hh.2.1,rfl⟩)
   ·exact hc
theorem zkF {x:St}:perB [x] 1=true:=by simp [perB]
theorem zl2 {l:List St}:∀n,l.length=n->l≠[]->1<=(ch l).size/\(ch l).size<=l.length:=by
 intro n
 induction n using Nat.strongRecOn generalizing l with
 | ind n ih =>
  intro hn hne
  have hl:=zcN hne
  constructor
  ·rcases zhi hne with ⟨h,_⟩ | ⟨_,_,_,_,h⟩ | ⟨_,h1,h2,h⟩ | h
   ·rw [h];exact Zb _
   ·rw [h];omega
   ·have:=ih (l.take (ch l).part).length (by rw [Zw];omega) rfl (zbN (by rw [Zw];omega))
    omega
   ·rw [h];simp only;omega
  ·by_cases h1:l.length=1
   ·obtain ⟨x,rfl⟩:∃x,l=[x]:=by
     match l,h1 with
     | [x],_=>exact ⟨x,rfl⟩
    rw [zf7 hne zkF];simp
   ·have a:=ih (l.take 1).length (by rw [Zw];omega) rfl (zbN (by rw [Zw];omega))
    have b:=ih (l.drop 1).length (by rw [ZA];omega) rfl (zbN (by rw [ZA];omega))
    rw [Zw] at a
    rw [ZA] at b
    rcases zo2 (l:=l) (k:=1) (Zb _) (by omega) with h | h <;> omega
theorem zjk {l:List St} (h:l≠[]):(ch l=⟨1,0,0⟩/\perB l 1=true)∨(2<=(ch l).period/\(ch l).period<l.length/\(ch l).part=0/\perB l (ch l).period=true/\(ch l).size=1+(ch (l.take (ch l).period)).size) ∨
  ((ch l).period=0/\1<=(ch l).part/\(ch l).part<l.length/\(ch l).size=(ch (l.take (ch l).part)).size+(ch (l.drop (ch l).part)).size):=by
 rcases zhi h with h1 | h1 | h1 | h1
 ·exact .inl h1
 ·exact .inr (.inl h1)
 ·exact .inr (.inr h1)
 ·have:=zl2 l.length rfl h
  rw [h1] at this
  simp only at this
  omega
end Go.Proofs.YtbjgpbojjhldaaaGreatDoor
/- The shortest list in plain Lean: it expands to the cells,and no list is shorter. -/
namespace Go.Proofs.YtbjgpbojjhldaaaGreatDoor
set_option maxRecDepth 100000
theorem zkE {l:List St} {p:Nat} (h:perB l p=true):l.length % p=0/\l.drop p=l.take (l.length-p):=by
 simp only [perB,Zp,Zy] at h
 exact h
theorem zpY {p:Nat} (hp:0<p):∀(q:Nat) (l:List St),l.length=q*p->l.drop p=l.take (l.length-p)->l=rep q (l.take p):=by
 intro q
 induction q with
 | zero=>intro l h _;rw [Nat.zero_mul] at h;exact Zz h
 | succ q ih =>
  intro l h hd
  have aa:l.length=q*p+p:=by rw [h,Nat.add_mul,Nat.one_mul]
  rw [rep]
  rcases Nat.eq_zero_or_pos q with h0 | h0
  ·subst h0
   rw [Nat.zero_mul,Nat.zero_add] at aa
   rw [rep,ZF,Zs (by omega)]
  ·have hq:p<=q*p:=Nat.le_mul_of_pos_left p h0
   have h1:(l.drop p).length=q*p:=by rw [ZA];omega
   have h2:(l.drop p).take p=l.take p:=by
    rw [hd,List.take_take];congr 1;omega
   have h3:=ih (l.drop p) h1 (by
    have e:(l.drop p).length-p=q*p-p:=by rw [h1]
    rw [e]
    have e2:l.drop p=l.take (q*p):=by rw [hd,aa,Nat.add_sub_cancel]
    have e3:(l.drop p).take (q*p-p)=l.take (q*p-p):=by rw [e2,List.take_take];congr 1;omega
    rw [e3]
    calc (l.drop p).drop p=(l.take (q*p)).drop p:=by rw [e2]
     _=(l.drop p).take (q*p-p):=by rw [List.drop_take]
     _=l.take (q*p-p):=e3)
   rw [h2] at h3
   rw [<-h3,Z0]
theorem zoD {l:List St} {p:Nat} (hp:0<p) (h:perB l p=true):l=rep (l.length / p) (l.take p):=by
 obtain ⟨h1,h2⟩:=zkE h
 exact zpY hp _ l (by have:=Nat.div_add_mod l.length p;rw [h1,Nat.add_zero,Nat.mul_comm] at this;exact this.symm) h2
theorem zkS (n:Nat) (x:St):rep n [x]=List.replicate n x:=by
 induction n with
 | zero=>rfl
 | succ n ih=>rw [rep,ih,List.replicate_succ];rfl
theorem zpV {l:List St} (hl:l≠[]) (h:perB l 1=true):l=List.replicate l.length (l.getD 0 st0):=by
 have h1:=zoD (by omega) h
 rw [Nat.div_one] at h1
 have h2:l.take 1=[l.getD 0 st0]:=by
  cases l with
  | nil=>exact absurd rfl hl
  | cons x l=>rfl
 rw [h2,zkS] at h1
 exact h1
theorem zhP (n:Nat) (g:List St):rep (n+1) g=rep n g++g:=by
 induction n with
 | zero=>simp [rep]
 | succ n ih =>
  show g++rep (n+1) g=(g++rep n g)++g
  rw [ih,Zr]
theorem zjW {l:List St} (h:l≠[]):l.getD 0 st0∈l:=by
 cases l with
 | nil=>exact absurd rfl h
 | cons x l=>simp
def mkT:Nat->List St->Tms
 | 0,_ => .nil
 | f+1,l =>
  if 0<(ch l).part then (mkT f (l.take (ch l).part)).app (mkT f (l.drop (ch l).part))
  else if 0<(ch l).period then .cons ((l.length / (ch l).period:Nat):Int) st0 (mkT f (l.take (ch l).period)) .nil
  else .cons (l.length:Int) (l.getD 0 st0) .nil .nil
def Tms.top (m:Int):Tms->Prop
 | .nil=>True
 | .cons n _ g r=>n<=m/\g.top m/\r.top m
def Tms.good (q:St->Prop):Tms->Prop
 | .nil=>True
 | .cons _ c .nil r=>q c/\r.good q
 | .cons _ c g r=>c=st0/\g.good q/\r.good q
theorem zmy (q:St->Prop) (n:Int) (c:St) (r:Tms):(Tms.cons n c .nil r).good q=(q c/\r.good q):=rfl
theorem zhp (q:St->Prop) (n:Int) (c:St) (g r:Tms) (h:g ≠ .nil):(Tms.cons n c g r).good q=(c=st0/\g.good q/\r.good q):=by
 cases g with
 | nil=>exact absurd rfl h
 | cons=>rfl
theorem zoW (m:Int):∀(a b:Tms),a.top m->b.top m->(a.app b).top m:=by
 intro a
 induction a with
 | nil=>intro b _ h;exact h
 | cons n c g r _ ih2=>intro b h k;exact ⟨h.1,h.2.1,ih2 b h.2.2 k⟩
theorem zlR (q:St->Prop):∀(a b:Tms),a.good q->b.good q->(a.app b).good q:=by
 intro a
 induction a with
 | nil=>intro b _ h;exact h
 | cons n c g r _ ih2 =>
  intro b h k
  rw [Tms.app]
  by_cases hg:g = .nil
  ·subst hg
   rw [zmy] at h ⊢
   exact ⟨h.1,ih2 b h.2 k⟩
  ·rw [zhp _ _ _ _ _ hg] at h ⊢
   exact ⟨h.1,h.2.1,ih2 b h.2.2 k⟩
theorem zqG {a b:Tms} (h:a ≠ .nil):a.app b ≠ .nil:=by
 cases a with
 | nil=>exact absurd rfl h
 | cons=>intro e;cases e
structure IsT (l:List St) (t:Tms):Prop where
 cells:t.cells=l
 size:t.size=(ch l).size
 pos:t.pos
 ne:t ≠ .nil
 top:t.top l.length
 good:∀q:St->Prop,(∀x∈l,q x)->t.good q
 depth:∀k,l.length<2 ^ (k+1)->t.depth<=k+1
theorem zeW {m m':Int} (h:m<=m'):∀ {t:Tms},t.top m->t.top m':=by
 intro t
 induction t with
 | nil=>intro _;trivial
 | cons n c g r ih1 ih2=>intro k;exact ⟨Int.le_trans k.1 h,ih1 k.2.1,ih2 k.2.2⟩
theorem zoA:∀(f:Nat) (l:List St),l≠[]->l.length<=f->IsT l (mkT f l):=by
 intro f
 induction f with
 | zero=>intro l h1 h2;have:=zcN h1;omega
 | succ f ih =>
  intro l hne hf
  have hl:=zcN hne
  rw [mkT]
  rcases zjk hne with ⟨h1,h2⟩ | ⟨h1,h2,h3,h4,h5⟩ | ⟨h1,h2,h3,h4⟩
  ·rw [h1]
   simp only [Nat.lt_irrefl,if_false]
   refine ⟨?_,by rw [h1];rfl,⟨by omega,trivial,trivial⟩,(by intro e;cases e),⟨Int.le_refl _,trivial,trivial⟩,fun q hq=>⟨hq _ (zjW hne),trivial⟩,fun k _=>by simp [Tms.depth]⟩
   rw [zbg]
   simp only [Tms.cells,ZF,Int.toNat_natCast]
   exact (zpV hne h2).symm
  ·rw [if_neg (by omega),if_pos (by omega)]
   have hln:(l.take (ch l).period).length=(ch l).period:=by rw [Zw];omega
   have it:=ih (l.take (ch l).period) (zbN (by omega)) (by omega)
   have hdiv:2*(ch l).period<=l.length:=by
    have hm:=(zkE h4).1
    have hq:2<=l.length / (ch l).period:=by
     rcases ZX (l.length / (ch l).period) 2 with hlt | aa
     ·have e:=Nat.div_add_mod l.length (ch l).period
      rw [hm,Nat.add_zero] at e
      have:(ch l).period*(l.length / (ch l).period)<=(ch l).period*1:=Nat.mul_le_mul_left _ (by omega)
      omega
     ·exact aa
    have:=Nat.div_mul_le_self l.length (ch l).period
    have:=Nat.mul_le_mul_right (ch l).period hq
    omega
   have hq1:1<=l.length / (ch l).period:=Nat.div_pos (by omega) (by omega)
   have hq2:l.length / (ch l).period<=l.length:=Nat.div_le_self _ _
   refine ⟨?_,?_,⟨by omega,it.pos,trivial⟩,(by intro e;cases e),⟨by omega,zeW (by omega) it.top,trivial⟩,fun q hq=>?_,fun k hk=>?_⟩
   ·rw [zbf _ _ _ _ it.ne,it.cells]
    simp only [Tms.cells,ZF,Int.toNat_natCast]
    exact (zoD (by omega) h4).symm
   ·rw [Tms.size,it.size,h5];rfl
   ·rw [zhp _ _ _ _ _ it.ne]
    exact ⟨rfl,it.good q (fun x hx=>hq x (List.mem_of_mem_take hx)),trivial⟩
   ·rw [Tms.depth]
    simp only [Tms.depth]
    cases k with
    | zero=>rw [Nat.zero_add,Nat.pow_one] at hk;omega
    | succ k =>
     have:=it.depth k (by rw [Nat.pow_succ] at hk;omega)
     omega
  ·rw [if_pos (by omega)]
   have hl1:(l.take (ch l).part).length=(ch l).part:=by rw [Zw];omega
   have hl2:(l.drop (ch l).part).length=l.length-(ch l).part:=by rw [ZA]
   have i1:=ih (l.take (ch l).part) (zbN (by omega)) (by omega)
   have i2:=ih (l.drop (ch l).part) (zbN (by omega)) (by omega)
   refine ⟨by rw [zjd,i1.cells,i2.cells,Z0],by rw [zlS,i1.size,i2.size,h4],zoV _ _ i1.pos i2.pos,zqG i1.ne,zoW _ _ _ (zeW (by omega) i1.top) (zeW (by omega) i2.top),
    fun q hq=>zlR _ _ _ (i1.good q (fun x hx=>hq x (List.mem_of_mem_take hx))) (i2.good q (fun x hx=>hq x (List.mem_of_mem_drop hx))),fun k hk=>?_⟩
   rw [zje]
   have:=i1.depth k (by omega)
   have:=i2.depth k (by omega)
   omega
def findT (l:List St):Tms:=if l=[] then .nil else mkT l.length l
theorem zjC {l:List St} (h:l≠[]):IsT l (findT l):=by rw [findT,if_neg h];exact zoA _ _ h (Zb _)
theorem zmk (a:List St):(findT a).size<=a.length:=by
 by_cases h:a=[]
 ·subst h;simp [findT,Tms.size]
 ·rw [(zjC h).size];exact (zl2 a.length rfl h).2
end Go.Proofs.YtbjgpbojjhldaaaGreatDoor
/- What Check,Size and Expand of terms say,in plain Lean. -/
namespace Go.Proofs.YtbjgpbojjhldaaaGreatDoor
set_option maxRecDepth 100000
def szM (t:Tms):Int:=min (t.size:Int) 201
def fineT:Tms->Bool
 | .nil=>true
 | .cons n c .nil r=>inR n 1 200 && okSt c && fineT r
 | .cons n c g r=>inR n 1 200 && decide (c=st0) && fineT g && fineT r
theorem zaT (n:Int) (c:St) (r:Tms):fineT (.cons n c .nil r)=(inR n 1 200 && okSt c && fineT r):=rfl
theorem zaS (n:Int) (c:St) (g r:Tms) (h:g ≠ .nil):fineT (.cons n c g r)=(inR n 1 200 && decide (c=st0) && fineT g && fineT r):=by
 cases g with
 | nil=>exact absurd rfl h
 | cons=>rfl
def lenT:Tms->Int->Int
 | .nil,m=>m
 | .cons n _ .nil r,m=>lenT r (min (m+1*n) 201)
 | .cons n _ g r,m=>lenT r (min (m+lenT g 0*n) 201)
theorem zgA (n:Int) (c:St) (r:Tms) (m:Int):lenT (.cons n c .nil r) m=lenT r (min (m+1*n) 201):=rfl
theorem zgz (n:Int) (c:St) (g r:Tms) (m:Int) (h:g ≠ .nil):lenT (.cons n c g r) m=lenT r (min (m+lenT g 0*n) 201):=by
 cases g with
 | nil=>exact absurd rfl h
 | cons=>rfl
def tchkE (t:Tms):Int:=if 200<t.size∨8<t.depth then 4 else if fineT t then (if 200<lenT t 0 then 4 else 0) else 8
theorem zmn:∀ {t:Tms},fineT t=true->t.pos:=by
 intro t
 induction t with
 | nil=>intro _;trivial
 | cons n c g r ih1 ih2 =>
  intro h
  by_cases hg:g = .nil
  ·subst hg
   rw [zaT] at h
   simp only [Zp] at h
   exact ⟨(zaq h.1.1).1,trivial,ih2 h.2⟩
  ·rw [zaS _ _ _ _ hg] at h
   simp only [Zp] at h
   exact ⟨(zaq h.1.1.1).1,ih1 h.1.2,ih2 h.2⟩
theorem zq7:∀ {t:Tms},t.pos->∀m:Int,0<=m->lenT t (min m 201)=min (m+t.cells.length) 201:=by
 intro t
 induction t with
 | nil=>intro _ m _;simp [lenT,Tms.cells]
 | cons n c g r ih1 ih2 =>
  intro hp m hm
  have hn:=hp.1
  by_cases hg:g = .nil
  ·subst hg
   rw [zgA,zbg,Zc,ZH]
   have e:min (min m 201+1*n) 201=min (m+n) 201:=by omega
   rw [e,ih2 hp.2.2 _ (by omega)]
   omega
  ·rw [zgz _ _ _ _ _ hg,zbf _ _ _ _ hg,Zc,zbX]
   have h0:=ih1 hp.2.1 0 (Int.le_refl _)
   rw [show min (0:Int) 201=0 by omega,Int.zero_add] at h0
   rw [h0]
   have hc:=zji hp.2.1 hg
   generalize hL:g.cells.length=L at *
   have aa:(((n.toNat*L:Nat)):Int)=L*n:=by rw [Int.natCast_mul,Int.mul_comm];congr 1;omega
   have e:min (min m 201+min (L:Int) 201*n) 201=min (m+((n.toNat*L:Nat):Int)) 201:=by
    rw [aa]
    rcases ZX L 201 with h | h
    ·rw [show min (L:Int) 201=L by omega]
     have:0<=(L:Int)*n:=Int.mul_nonneg (by omega) (by omega)
     omega
    ·rw [show min (L:Int) 201=201 by omega]
     have h1:(L:Int)*1<=L*n:=Int.mul_le_mul_of_nonneg_left hn (by omega)
     omega
   rw [e,ih2 hp.2.2 _ (by omega)]
   rw [Int.natCast_add]
   omega
theorem zmP {t:Tms} (h:t.pos):lenT t 0=min (t.cells.length:Int) 201:=by
 have:=zq7 h 0 (Int.le_refl _)
 rwa [show min (0:Int) 201=0 by omega,Int.zero_add] at this
theorem zoM {t:Tms} (h:tchkE t=0):t.size<=200/\t.depth<=8/\fineT t=true/\t.cells.length<=200:=by
 unfold tchkE at h
 split at h
 ·omega
 ·rename_i h1
  split at h
  ·rename_i h2
   split at h
   ·omega
   ·rename_i h3
    rw [zmP (zmn h2)] at h3
    exact ⟨by omega,by omega,h2,by omega⟩
  ·omega
theorem zii {l:List St} (h:l≠[]) (hl:l.length<=60):(findT l).size<=60/\(findT l).depth<=6:=by
 have hi:=zjC h
 have h1:=zmk l
 exact ⟨by omega,by have:=hi.depth 5 (by omega);omega⟩
end Go.Proofs.YtbjgpbojjhldaaaGreatDoor
/- The texts of terms in plain Lean: what is written,and what the program's reader reads. -/
namespace Go.Proofs.YtbjgpbojjhldaaaGreatDoor
set_option maxRecDepth 100000
def isStop (c:UInt8):Bool:=c==32 || c==40 || c==41 || c==42
def untilS:List UInt8->List UInt8×List UInt8
 | []=>([],[])
 | x::l=>if isStop x then ([],x::l) else (x::(untilS l).1,(untilS l).2)
theorem zeq {w r:List UInt8} (h:∀x∈w,isStop x=false) (hr:r=[]∨∃c s,r=c::s/\isStop c=true):untilS (w++r)=(w,r):=by
 induction w with
 | nil =>
  rcases hr with rfl | ⟨c,s,rfl,hc⟩
  ·rfl
  ·simp [untilS,hc]
 | cons x w ih =>
  rw [ZM,untilS,if_neg (by rw [h x (by simp)];simp),ih (fun y hy=>h y (by simp [hy]))]
def timesW (n:Int):List UInt8:=if 1<n then 42::decD n.toNat else []
def wT:Tms->List UInt8
 | .nil=>[]
 | .cons n c .nil .nil=>textL [c]++timesW n
 | .cons n c .nil r=>textL [c]++timesW n++32::wT r
 | .cons n _ g .nil=>(40::(wT g++[41]))++timesW n
 | .cons n _ g r=>(40::(wT g++[41]))++timesW n++32::wT r
def headW (c:St) (g:Tms):List UInt8:=match g with
 | .nil=>textL [c]
 | g=>40::(wT g++[41])
theorem zcZ {c:St} {g:Tms} (h:g ≠ .nil):headW c g=40::(wT g++[41]):=by
 cases g with
 | nil=>exact absurd rfl h
 | cons=>rfl
theorem zh3 (n:Int) (c:St) (g:Tms):wT (.cons n c g .nil)=headW c g++timesW n:=by
 cases g <;> simp [wT,headW]
theorem ze0 (n:Int) (c:St) (g r:Tms) (h:r ≠ .nil):wT (.cons n c g r)=headW c g++timesW n++32::wT r:=by
 cases g <;> cases r <;> first | exact absurd rfl h | simp [wT,headW]
def rdN (at_:List UInt8->Option Int) (c:St) (g:Tms):List UInt8->Option ((Int×St×Tms)×List UInt8)
 | 42::s=>match at_ (untilS s).1 with
  | none=>none
  | some n=>some ((n,c,g),(untilS s).2)
 | s=>some ((1,c,g),s)
mutual
def rdL (at_:List UInt8->Option Int):Nat->Nat->List UInt8->Option (Tms×List UInt8)
 | 0,_,_=>none
 | f+1,d,s=>match rdT at_ f d s with
  | none=>none
  | some ((n,c,g),32::s2)=>(rdL at_ f d s2).map fun x=>(.cons n c g x.1,x.2)
  | some ((n,c,g),s1)=>some (.cons n c g .nil,s1)
def rdT (at_:List UInt8->Option Int):Nat->Nat->List UInt8->Option ((Int×St×Tms)×List UInt8)
 | 0,_,_=>none
 | f+1,d,s=>match s with
  | 40::s1=>if 8<d+1 then none else match rdL at_ f (d+1) s1 with
   | some (g,41::s2)=>rdN at_ st0 g s2
   | _=>none
  | s=>match parseL (untilS s).1 with
   | some [c]=>rdN at_ c .nil (untilS s).2
   | _=>none
end
def cellOk (s:St):Bool:=decide (allE [s]=0) && (wordT s).all (fun x => !isStop x) && !(wordT s).isEmpty
theorem zl0:allSt.all cellOk=true:=by decide +kernel
theorem zfS (c:St):textL [c]=wordT c:=by simp [textL,grp,joinB,wordG]
theorem zct {c:St} (h:okSt c=true):allE [c]=0/\(∀x∈textL [c],isStop x=false)/\textL [c]≠[]:=by
 have h1:=Zu.1 zl0 c (zdz h)
 simp only [cellOk,Zp,Zy,Zu,Bool.not_eq_true',List.isEmpty_eq_false_iff] at h1
 rw [zfS]
 exact ⟨h1.1.1,h1.1.2,h1.2⟩
def digOk (n:Nat):Bool:=(decD n).all (fun x => !isStop x)
theorem zo9:(List.range 201).all digOk=true:=by decide +kernel
theorem zqR {n:Nat} (h:n<=200):∀x∈decD n,isStop x=false:=by
 have h1:=Zu.1 zo9 n (ZG.2 (by omega))
 simpa [digOk] using h1
def Behind (s:List UInt8):Prop:=s=[]∨∃r,s=32::r∨s=41::r
theorem Behind.stop {s:List UInt8} (h:Behind s):s=[]∨∃c r,s=c::r/\isStop c=true:=by
 rcases h with rfl | ⟨r,rfl | rfl⟩
 ·exact .inl rfl
 ·exact .inr ⟨32,r,rfl,rfl⟩
 ·exact .inr ⟨41,r,rfl,rfl⟩
theorem zp3 {at_:List UInt8->Option Int} {c:St} {g:Tms} {s:List UInt8} (h:Behind s):rdN at_ c g s=some ((1,c,g),s):=by
 rcases h with rfl | ⟨r,rfl | rfl⟩ <;> rfl
theorem zhL {at_:List UInt8->Option Int} (hat:∀k:Nat,2<=k->k<=200->at_ (decD k)=some (k:Int)) {c:St} {g:Tms} {n:Int} (h1:1<=n) (h2:n<=200) {s:List UInt8} (h:Behind s):rdN at_ c g (timesW n++s)=some ((n,c,g),s):=by
 unfold timesW
 by_cases hn:1<n
 ·rw [if_pos hn,ZM,rdN,zeq (zqR (by omega)) h.stop]
  simp only
  rw [hat n.toNat (by omega) (by omega)]
  have e:((n.toNat:Nat):Int)=n:=by omega
  rw [e]
 ·rw [if_neg hn,List.nil_append,zp3 h]
  have e:n=1:=by omega
  rw [e]
theorem zi1 {n:Int} {s:List UInt8} (h:Behind s):timesW n++s=[]∨∃c r,timesW n++s=c::r/\isStop c=true:=by
 unfold timesW
 split
 ·exact .inr ⟨42,_,rfl,rfl⟩
 ·exact h.stop
theorem zlq {c:St} (h:okSt c=true) (s:List UInt8):∃x r,textL [c]++s=x::r/\isStop x=false:=by
 obtain ⟨_,h2,h3⟩:=zct h
 cases e:textL [c] with
 | nil=>exact absurd e h3
 | cons x r=>exact ⟨x,r++s,rfl,h2 x (by rw [e];simp)⟩
theorem znj (at_:List UInt8->Option Int) (f d:Nat) {x:UInt8} {r:List UInt8} (hx:isStop x=false):rdT at_ (f+1) d (x::r)=match parseL (untilS (x::r)).1 with
  | some [c]=>rdN at_ c .nil (untilS (x::r)).2
  | _=>none:=by
 have hx2:x≠40:=by rintro rfl;simp [isStop] at hx
 rw [rdT]
 intro s1 e
 cases e
 exact hx2 rfl
theorem zp7 {at_:List UInt8->Option Int} (hat:∀k:Nat,2<=k->k<=200->at_ (decD k)=some (k:Int)):∀(M:Nat) (t:Tms),t.size<=M->t ≠ .nil->fineT t=true->∀(d f:Nat),t.depth+d<=8->2*t.size<=f->∀s:List UInt8,(s=[]∨∃r,s=41::r)->rdL at_ f d (wT t++s)=some (t,s):=by
 intro M
 induction M with
 | zero =>
  intro t h h0
  have:=zhV h0
  omega
 | succ M ih =>
  intro t hs h0 hf d f hd ac s hb
  cases t with
  | nil=>exact absurd rfl h0
  | cons n c g r =>
   simp only [Tms.size] at hs ac
   simp only [Tms.depth] at hd
   obtain ⟨f,rfl⟩:∃k,f=k+2:=⟨f-2,by omega⟩
   have hn:1<=n/\n<=200:=by
    by_cases hg:g = .nil
    ·subst hg
     rw [zaT] at hf
     simp only [Zp] at hf
     exact zaq hf.1.1
    ·rw [zaS _ _ _ _ hg] at hf
     simp only [Zp] at hf
     exact zaq hf.1.1.1
   have ad:fineT r=true:=by
    by_cases hg:g = .nil
    ·subst hg
     rw [zaT] at hf
     simp only [Zp] at hf
     exact hf.2
    ·rw [zaS _ _ _ _ hg] at hf
     simp only [Zp] at hf
     exact hf.2
   have aa:∀q:List UInt8,Behind q->rdT at_ (f+1) d (headW c g++timesW n++q)=some ((n,c,g),q):=by
    intro q hq
    by_cases hg:g = .nil
    ·subst hg
     rw [zaT] at hf
     simp only [Zp] at hf
     obtain ⟨k1,k2,k3⟩:=zct hf.1.2
     obtain ⟨x,w,e,hx⟩:=zlq hf.1.2 (timesW n++q)
     show rdT at_ (f+1) d (textL [c]++timesW n++q)=_
     rw [Zr,e,znj _ _ _ hx,<-e,zeq k2 (zi1 hq)]
     simp only
     rw [zee k1]
     exact zhL hat hn.1 hn.2 hq
    ·rw [zcZ hg]
     rw [zaS _ _ _ _ hg] at hf
     simp only [Zp,Zy] at hf
     obtain ⟨⟨⟨_,hc⟩,ab⟩,_⟩:=hf
     have e:40::(wT g++[41])++timesW n++q=40::(wT g++(41::(timesW n++q))):=by simp
     rw [e,rdT,if_neg (by omega)]
     rw [ih g (by omega) hg ab (d+1) f (by omega) (by omega) (41::(timesW n++q)) (.inr ⟨_,rfl⟩)]
     simp only
     rw [hc]
     exact zhL hat hn.1 hn.2 hq
   by_cases hr:r = .nil
   ·subst hr
    rw [zh3,rdL,aa s (by rcases hb with rfl | ⟨x,rfl⟩;exact .inl rfl;exact .inr ⟨x,.inr rfl⟩)]
    rcases hb with rfl | ⟨x,rfl⟩ <;> rfl
   ·rw [ze0 _ _ _ _ hr]
    have e:headW c g++timesW n++32::wT r++s=headW c g++timesW n++(32::(wT r++s)):=by simp
    rw [e,rdL,aa _ (.inr ⟨_,.inl rfl⟩)]
    simp only
    rw [ih r (by omega) hr ad d (f+1) (by omega) (by omega) s hb]
    rfl
end Go.Proofs.YtbjgpbojjhldaaaGreatDoor
