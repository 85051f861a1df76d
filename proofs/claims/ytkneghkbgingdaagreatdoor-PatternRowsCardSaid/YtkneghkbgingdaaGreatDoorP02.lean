/- The reference's Parse of terms in plain Lean: it reads what Parse reads. -/
import Derived.Test.YtkneghkbgingdaaGreatDoorP01
import Derived.WalkKit
import Derived.IntWalk
import Derived.WalkSpells
import Derived.Lib.Hide
import Derived.Deep.Draws
namespace Go.Proofs.YtkneghkbgingdaaGreatDoor
set_option maxRecDepth 100000
def endP:Int→List UInt8→List UInt8×List UInt8
 | _,[]=>([],[])
 | o,x::l =>
  let o2:=o+(if x=40 then 1 else 0)-(if x=41 then 1 else 0)
  if o2<0∨(o2=0∧x=32) then ([],x::l) else (x::(endP o2 l).1,(endP o2 l).2)
def cutD (s:List UInt8):List UInt8×List UInt8:=((s.reverse.dropWhile isDg).reverse,(s.reverse.takeWhile isDg).reverse)
mutual
def rlL:Nat→Nat→Nat→List UInt8→Option Tms
 | 0,_,_,_=>none
 | f+1,d,k,s=>match rlT f d (endP 0 s).1 with
  | none=>none
  | some (n,c,g)=>if 200<k then none else match (endP 0 s).2 with
   | []=>some (.cons n c g .nil)
   | x::s2=>if x=32 then (rlL f d (k+1) s2).map fun r => .cons n c g r else none
def rlT:Nat→Nat→List UInt8→Option (Int×St×Tms)
 | 0,_,_=>none
 | f+1,d,s =>
  if (cutD s).1≠[]∧(cutD s).2≠[]∧(cutD s).1.getLast?=some 42 then match numS (cutD s).2 with
   | none=>none
   | some n=>if n<2 then none else rlB f d (n:Int) (cutD s).1.dropLast
  else rlB f d 1 s
def rlB:Nat→Nat→Int→List UInt8→Option (Int×St×Tms)
 | 0,_,_,_=>none
 | f+1,d,n,s =>
  if 1<s.length∧s.getD 0 0=40∧s.getLast?=some 41∧0<d then
   (if (s.drop 1).dropLast=[] then none else (rlL f (d-1) 0 (s.drop 1).dropLast).map fun g=>(n,st0,g))
  else match parseL s with
   | some [c]=>some (n,c,.nil)
   | _=>none
end
def Pass (o:Int) (w:List UInt8):Prop:=∀q,endP o (w++q)=(w++(endP o q).1,(endP o q).2)
theorem Pass.app {o:Int} {a b:List UInt8} (h:Pass o a) (k:Pass o b):Pass o (a++b):=fun q=>by
 rw [List.append_assoc,h,k]
 simp
theorem Pass.nil (o:Int):Pass o []:=fun _=>rfl
theorem Pass.byte {o:Int} {x:UInt8} (h0:0≤o) (h1:x≠32) (h2:x≠40) (h3:x≠41):Pass o [x]:=fun q=>by
 show endP o (x::q)=_
 rw [endP]
 simp only [h2,h3,if_false]
 rw [if_neg (by rintro (h | h);omega;exact h1 h.2)]
 simp
theorem Pass.word {o:Int} {w:List UInt8} (h0:0≤o) (h:∀x∈w,x≠32∧x≠40∧x≠41):Pass o w:=by
 induction w with
 | nil=>exact Pass.nil o
 | cons x w ih =>
  obtain ⟨h1,h2,h3⟩:=h x (by simp)
  exact Pass.app (a:=[x]) (Pass.byte h0 h1 h2 h3) (ih fun y hy=>h y (by simp [hy]))
theorem Pass.space {o:Int} (h0:1≤o):Pass o [32]:=fun q=>by
 show endP o (32::q)=_
 rw [endP]
 simp only [show ((32:UInt8)=40)=False by simp,show ((32:UInt8)=41)=False by simp,if_false]
 rw [if_neg (by rintro (h | h) <;> omega)]
 simp
theorem Pass.grp {o:Int} {w:List UInt8} (h0:0≤o) (h:Pass (o+1) w):Pass o (40::(w++[41])):=fun q=>by
 show endP o (40::(w++[41]++q))=_
 rw [endP]
 simp only [show ((40:UInt8)=41)=False by simp,if_false,if_true]
 rw [if_neg (by rintro (h | h);omega;exact absurd h.2 (by decide)),Int.sub_zero,List.append_assoc,h]
 have e:endP (o+1) ([41]++q)=(41::(endP o q).1,(endP o q).2):=by
  show endP (o+1) (41::q)=_
  rw [endP]
  simp only [show ((41:UInt8)=40)=False by simp,if_false,if_true]
  rw [show o+1+0-1=o by omega,if_neg (by rintro (h | h);omega;exact absurd h.2 (by decide))]
 rw [e]
 simp
theorem zc0 {x:UInt8} (h:isStop x=false):x≠32∧x≠40∧x≠41∧x≠42:=by
 refine ⟨?_,?_,?_,?_⟩ <;> (rintro rfl;simp [isStop] at h)
theorem zce {n:Int} (h:n≤200) {o:Int} (h0:0≤o):Pass o (timesW n):=by
 unfold timesW
 split
 ·refine Pass.word h0 fun x hx=>?_
  rcases List.mem_cons.1 hx with rfl | hx
  ·decide
  ·obtain ⟨h1,h2,h3,_⟩:=zc0 (zlB (by omega) x hx)
   exact ⟨h1,h2,h3⟩
 ·exact Pass.nil o
theorem zaK {n:Int} {c:St} {g r:Tms} (h:fineT (.cons n c g r)=true):(1≤n∧n≤200)∧fineT g=true∧fineT r=true∧(g = .nil→okSt c=true)∧(g ≠ .nil→c=st0):=by
 by_cases hg:g = .nil
 ·subst hg
  rw [zaE] at h
  simp only [Bool.and_eq_true] at h
  exact ⟨za8 h.1.1,rfl,h.2,fun _=>h.1.2,fun h9=>absurd rfl h9⟩
 ·rw [zaJ _ _ _ _ hg] at h
  simp only [Bool.and_eq_true,decide_eq_true_eq] at h
  exact ⟨za8 h.1.1.1,h.1.2,h.2,fun h9=>absurd h9 hg,fun _=>h.1.1.2⟩
theorem zis:∀(M:Nat) (t:Tms),t.size≤M→fineT t=true→∀o:Int,1≤o→Pass o (wT t):=by
 intro M
 induction M with
 | zero =>
  intro t h _ o _
  cases t with
  | nil=>exact Pass.nil o
  | cons n c g r=>simp [Tms.size] at h
 | succ M ih =>
  intro t h hf o ho
  cases t with
  | nil=>exact Pass.nil o
  | cons n c g r =>
   simp only [Tms.size] at h
   obtain ⟨hn,hg,hr,hc,_⟩:=zaK hf
   have hh:Pass o (headW c g):=by
    by_cases h0:g = .nil
    ·subst h0
     refine Pass.word (w:=textL [c]) (by omega) fun x hx=>?_
     obtain ⟨h1,h2,h3,_⟩:=zc0 ((zbc (hc rfl)).2.1 x hx)
     exact ⟨h1,h2,h3⟩
    ·rw [zaW h0]
     exact Pass.grp (by omega) (ih g (by omega) hg (o+1) (by omega))
   by_cases h0:r = .nil
   ·subst h0
    rw [zcr]
    exact hh.app (zce hn.2 (by omega))
   ·rw [zbE _ _ _ _ h0]
    exact (hh.app (zce hn.2 (by omega))).app (Pass.app (a:=[32]) (Pass.space ho) (ih r (by omega) hr o ho))
theorem zfg {n:Int} {c:St} {g r:Tms} (hf:fineT (.cons n c g r)=true):Pass 0 (headW c g++timesW n):=by
 obtain ⟨hn,hg,hr,hc,_⟩:=zaK hf
 refine Pass.app ?_ (zce hn.2 (by omega))
 by_cases h0:g = .nil
 ·subst h0
  refine Pass.word (w:=textL [c]) (by omega) fun x hx=>?_
  obtain ⟨h1,h2,h3,_⟩:=zc0 ((zbc (hc rfl)).2.1 x hx)
  exact ⟨h1,h2,h3⟩
 ·rw [zaW h0]
  exact Pass.grp (by omega) (zis _ g (Nat.le_refl _) hg 1 (by omega))
theorem ziL (q:List UInt8):endP 0 (32::q)=([],32::q):=by
 rw [endP]
 simp
theorem zgu (s:List UInt8):(cutD s).1++(cutD s).2=s:=by
 unfold cutD
 rw [←List.reverse_append,List.takeWhile_append_dropWhile,List.reverse_reverse]
theorem zfF {a d:List UInt8} {x:UInt8} (hx:isDg x=false) (hd:∀y∈d,isDg y=true):cutD (a++x::d)=(a++[x],d):=by
 unfold cutD
 have e:(a++x::d).reverse=d.reverse++(x::a.reverse):=by simp
 rw [e]
 have h1:(d.reverse++(x::a.reverse)).takeWhile isDg=d.reverse:=by
  rw [List.takeWhile_append_of_pos (by intro y hy;exact hd y (by simpa using hy)),List.takeWhile_cons,hx]
  simp
 have h2:(d.reverse++(x::a.reverse)).dropWhile isDg=x::a.reverse:=by
  rw [List.dropWhile_append_of_pos (by intro y hy;exact hd y (by simpa using hy)),List.dropWhile_cons,hx]
  simp
 rw [h1,h2]
 simp
def dgOk (n:Nat):Bool:=(decD n).all isDg && decide (numS (decD n)=some n) && !(decD n).isEmpty
theorem zm0:(List.range 201).all dgOk=true:=by decide +kernel
theorem zl2 {n:Nat} (h:n≤200):(∀y∈decD n,isDg y=true)∧numS (decD n)=some n∧decD n≠[]:=by
 have h1:=List.all_eq_true.1 zm0 n (List.mem_range.2 (by omega))
 simp only [dgOk,Bool.and_eq_true,decide_eq_true_eq,List.all_eq_true,Bool.not_eq_true',List.isEmpty_eq_false_iff] at h1
 exact ⟨h1.1.1,h1.1.2,h1.2⟩
theorem zk6 {f d:Nat} {n:Int} {c:St} (h:okSt c=true):rlB (f+1) d n (textL [c])=some (n,c,.nil):=by
 obtain ⟨h1,h2,h3⟩:=zbc h
 obtain ⟨x,r,e,hx⟩:=zex h []
 rw [List.append_nil] at e
 rw [rlB,if_neg,zcd h1]
 rintro ⟨_,h9,_⟩
 rw [e,List.getD_cons_zero] at h9
 exact (zc0 hx).2.1 h9
theorem zmq {f d:Nat} {n:Int} {g:Tms} (h0:wT g≠[]) (hd:0<d) (h:rlL f (d-1) 0 (wT g)=some g):rlB (f+1) d n (40::(wT g++[41]))=some (n,st0,g):=by
 have e:((40::(wT g++[41])).drop 1).dropLast=wT g:=by simp
 have hl:(40::(wT g++[41])).getLast?=some 41:=by
  rw [List.getLast?_cons,List.getLast?_append]
  rfl
 rw [rlB,if_pos ⟨by simp,rfl,hl,hd⟩,e,if_neg h0,h]
 rfl
theorem zkG {f d:Nat} {n:Int} {c:St} {g r:Tms} (hf:fineT (.cons n c g r)=true) (hb:∀m:Int,rlB f d m (headW c g)=some (m,c,g)):rlT (f+1) d (headW c g++timesW n)=some (n,c,g):=by
 obtain ⟨hn,hg,hr,hc,_⟩:=zaK hf
 unfold timesW
 by_cases h1:1<n
 ·rw [if_pos h1]
  obtain ⟨d1,d2,d3⟩:=zl2 (n:=n.toNat) (by omega)
  rw [rlT,zfF (by decide) d1,if_pos ⟨by simp,d3,by simp⟩,d2]
  simp only
  rw [if_neg (by omega),List.dropLast_concat,hb]
  have e:((n.toNat:Nat):Int)=n:=by omega
  rw [e]
 ·rw [if_neg h1,List.append_nil]
  have e1:n=1:=by omega
  subst e1
  rw [rlT,if_neg,hb]
  rintro ⟨k1,k2,k3⟩
  by_cases h0:g = .nil
  ·subst h0
   have hm:(42:UInt8)∈textL [c]:=by
    have h9:=zgu (textL [c])
    rw [←h9]
    exact List.mem_append_left _ (List.mem_of_getLast? k3)
   exact (zc0 ((zbc (hc rfl)).2.1 42 hm)).2.2.2 rfl
  ·rw [zaW h0] at k2
   have h9:=zfF (a:=40::wT g) (d:=[]) (x:=41) (by decide) (by simp)
   rw [List.cons_append] at h9
   rw [h9] at k2
   exact k2 rfl
theorem zeC:∀(t:Tms),t.cnt≤t.size:=by
 intro t
 induction t with
 | nil=>exact Nat.le_refl _
 | cons n c g r _ ih2=>simp only [Tms.cnt,Tms.size];omega
theorem zmc:∀(M:Nat) (t:Tms),M≤200→t.size≤M→t ≠ .nil→fineT t=true→∀(d f k:Nat),t.depth≤d+1→3*t.size≤f→k+t.cnt≤201→rlL f d k (wT t)=some t:=by
 intro M
 induction M with
 | zero =>
  intro t _ h h0
  have:=zdM h0
  omega
 | succ M ih =>
  intro t hM hs h0 hf d f k hd hfl hk
  cases t with
  | nil=>exact absurd rfl h0
  | cons n c g r =>
   simp only [Tms.size] at hs hfl
   simp only [Tms.depth] at hd
   simp only [Tms.cnt] at hk
   obtain ⟨f,rfl⟩:∃j,f=j+3:=⟨f-3,by omega⟩
   obtain ⟨hn,hg,hr,hc,hc0⟩:=zaK hf
   have hT:rlT (f+2) d (headW c g++timesW n)=some (n,c,g):=by
    refine zkG hf fun m=>?_
    by_cases hg0:g = .nil
    ·subst hg0
     exact zk6 (hc rfl)
    ·rw [zaW hg0,hc0 hg0]
     have hgd:1≤g.depth:=by
      cases g with
      | nil=>exact absurd rfl hg0
      | cons=>simp [Tms.depth];omega
     refine zmq (zl3 hg hg0) (by omega) (ih g (by omega) (by omega) hg0 hg (d-1) f 0 (by omega) (by omega) (by have:=zeC g;omega))
   by_cases hr0:r = .nil
   ·subst hr0
    have hp:=zfg hf []
    rw [List.append_nil] at hp
    have e0:endP 0 []=([],[]):=rfl
    rw [e0,List.append_nil] at hp
    rw [zcr,rlL,hp,hT]
    simp only
    rw [if_neg (by omega)]
   ·have hp:=zfg hf (32::wT r)
    rw [ziL,List.append_nil] at hp
    rw [zbE _ _ _ _ hr0,rlL,hp,hT]
    simp only
    rw [if_neg (by omega),if_pos trivial,ih r (by omega) (by omega) hr0 hr d (f+2) (k+1) (by omega) (by omega) (by omega)]
    rfl
def rparseT (s:List UInt8):Option Tms:=if 3000<s.length then none else
 (if s=[] then some Tms.nil else rlL (3*s.length+3) 8 0 s).bind fun t=>if tchkE t=0∧wT t=s then some t else none
theorem zf7 {s:List UInt8} {t:Tms}:rparseT s=some t↔s.length≤3000∧tchkE t=0∧wT t=s:=by
 constructor
 ·intro h
  unfold rparseT at h
  split at h
  ·cases h
  ·obtain ⟨t',_,h3⟩:=Option.bind_eq_some_iff.1 h
   split at h3
   ·rename_i h4
    cases h3
    exact ⟨by omega,h4⟩
   ·cases h3
 ·rintro ⟨h1,h2,rfl⟩
  rw [rparseT,if_neg (by omega)]
  obtain ⟨g1,g2,g3⟩:=zaG h2
  by_cases h0:t = .nil
  ·subst h0
   rw [if_pos (show wT Tms.nil=[] from rfl),Option.bind_some,if_pos ⟨h2,rfl⟩]
  ·have hl:=zie g3
   have hc:=zeC t
   rw [if_neg (zl3 g3 h0),zmc 200 t (Nat.le_refl _) g1 h0 g3 8 _ 0 (by omega) (by omega) (by omega),Option.bind_some,if_pos ⟨h2,rfl⟩]
theorem zhY {at_:List UInt8→Option Int} (hat:∀k:Nat,2≤k→k≤200→at_ (decD k)=some (k:Int)) (s:List UInt8):rparseT s=parseT at_ s:=by
 apply Option.ext
 intro t
 rw [zf7,zaT hat]
end Go.Proofs.YtkneghkbgingdaaGreatDoor
/- Written instructions,plain: the reference's reader;both readers accept just what is written. -/
namespace Go.Proofs.YtkneghkbgingdaaGreatDoor
set_option maxRecDepth 100000
def rowR (at_:List UInt8→Option Int) (s:List UInt8):Option Ro :=
 if s=sideB false∨s.take 6=sideB false++[32] then
  (if s.drop 5=[] then some ⟨false,[]⟩ else (parseT at_ ((s.drop 5).drop 1)).map fun t=>⟨false,t.cells⟩)
 else if s=sideB true∨s.take 5=sideB true++[32] then
  (if s.drop 4=[] then some ⟨true,[]⟩ else (parseT at_ ((s.drop 4).drop 1)).map fun t=>⟨true,t.cells⟩)
 else none
def agn5:List UInt8:=[97,103,97,105,110]
def linesR (at_:List UInt8→Option Int):List (List UInt8)→List Ro→Option (List Ro)
 | [],acc=>some acc
 | s::r,acc =>
  if (spl 32 s).getD 0 []≠agn5 then match rowR at_ s with
   | none=>none
   | some x=>if 100≤acc.length then none else linesR at_ r (acc++[x])
  else if (spl 32 s).length≠3 then none
  else match numS ((spl 32 s).getD 1 []),numS ((spl 32 s).getD 2 []) with
   | some k,some m=>if k<1∨2<k∨m<1∨100<m∨acc.length<k∨100<acc.length+k*m then none else linesR at_ r (copies k (k*m) acc)
   | _,_=>none
def unl (ls:List (List UInt8)):List UInt8:=ls.flatMap fun s=>s++[10]
theorem zeo (s:List UInt8) (ls:List (List UInt8)):unl (s::ls)=s++10::unl ls:=by simp [unl]
theorem zkE:∀ {ls:List (List UInt8)},ls≠[]→unl ls=joinB 10 ls++[10]:=by
 intro ls
 induction ls with
 | nil=>intro h;exact absurd rfl h
 | cons s r ih =>
  intro _
  rw [zeo]
  cases r with
  | nil=>simp [unl,joinB]
  | cons s2 r2 =>
   rw [ih (by simp)]
   simp [joinB]
def cutR (s:List UInt8):Option (List (List UInt8)):=if s=[] then some [] else if s.getLast?≠some 10 then none else some (spl 10 s.dropLast)
theorem zl7 {ls:List (List UInt8)} (h:∀s∈ls,∀x∈s,x≠10):cutR (unl ls)=some ls:=by
 by_cases h0:ls=[]
 ·subst h0
  rfl
 ·have e:=zkE h0
  have hn:unl ls≠[]:=by rw [e];simp
  rw [cutR,if_neg hn,if_neg (by rw [e];simp),e,List.dropLast_concat,zgp h0 (fun w hw h9=>h w hw 10 h9 rfl)]
theorem zh9 {at_:List UInt8→Option Int} (hat:∀k:Nat,k≤200→at_ (decD k)=some (k:Int)) {t:Tms} (h:parseT at_ []=some t):t = .nil:=by
 have h2:parseT at_ []=some .nil:=(zaT (fun k _ h5=>hat k h5)).2 ⟨by simp,by decide,rfl⟩
 rw [h] at h2
 exact Option.some.inj h2
theorem zkx {at_:List UInt8→Option Int} (hat:∀k:Nat,k≤200→at_ (decD k)=some (k:Int)) {b:Bool} {t:Tms} (h:parseT at_ (wT t)=some t) :
  rowR at_ (sideB b++if wT t=[] then [] else 32::wT t)=some ⟨b,t.cells⟩:=by
 by_cases h0:wT t=[]
 ·rw [if_pos h0,List.append_nil]
  rw [h0] at h
  rw [zh9 hat h]
  cases b
  ·rw [rowR,if_pos (.inl rfl)];rfl
  ·rw [rowR,if_neg (by decide),if_pos (.inl rfl)];rfl
 ·rw [if_neg h0]
  cases b
  ·have e1:(sideB false++32::wT t).take 6=sideB false++[32]:=rfl
   have e2:(sideB false++32::wT t).drop 5=32::wT t:=rfl
   rw [rowR,if_pos (.inr e1),e2,if_neg (by simp),List.drop_one,List.tail_cons,h]
   rfl
  ·have e0:(sideB true++32::wT t).take 6≠sideB false++[32]:=by
    intro h9
    have:=congrArg List.head? h9
    simp [sideB] at this
   have e3:sideB true++32::wT t≠sideB false:=by
    intro h9
    have:=congrArg List.head? h9
    simp [sideB] at this
   have e1:(sideB true++32::wT t).take 5=sideB true++[32]:=rfl
   have e2:(sideB true++32::wT t).drop 4=32::wT t:=rfl
   rw [rowR,if_neg (by rintro (h9 | h9);exact e3 h9;exact e0 h9),if_pos (.inr e1),e2,if_neg (by simp),List.drop_one,List.tail_cons,h]
   rfl
theorem zhc (b:Bool):32 ∉ sideB b:=fun h=>(zcU b 32 h).2 rfl
theorem zgo (b:Bool) (t:List UInt8):(spl 32 (sideB b++if t=[] then [] else 32::t)).getD 0 []=sideB b:=by
 by_cases h0:t=[]
 ·rw [if_pos h0,List.append_nil,zcD (zhc b)]
  rfl
 ·rw [if_neg h0,zbL (zhc b)]
  rfl
theorem ziQ {at_:List UInt8→Option Int} (hat:∀k:Nat,k≤200→at_ (decD k)=some (k:Int)) {acc:List Ro} {b:Bool} {t:Tms} {r:List (List UInt8)} (h:parseT at_ (wT t)=some t) (h6:acc.length<100) :
  linesR at_ ((sideB b++if wT t=[] then [] else 32::wT t)::r) acc=linesR at_ r (acc++[⟨b,t.cells⟩]):=by
 rw [linesR,if_pos (by rw [zgo];cases b <;> decide),zkx hat h]
 simp only
 rw [if_neg (by omega)]
theorem zfY {at_:List UInt8→Option Int} {acc:List Ro} {k m:Nat} {r:List (List UInt8)} (h1:1≤k) (h2:k≤2) (h3:k≤acc.length) (h4:1≤m) (h5:m≤100) (h6:acc.length+k*m≤100) :
  linesR at_ ((agnB++decD k++32::decD m)::r) acc=linesR at_ r (copies k (k*m) acc):=by
 have hd:∀ {n:Nat},n≤200→32 ∉ decD n:=fun h h9=>(zcO h 32 h9).2 rfl
 have e:spl 32 (agnB++decD k++32::decD m)=[agn5,decD k,decD m]:=by
  rw [show agnB++decD k++32::decD m=agn5++32::(decD k++32::decD m) by rw [List.append_assoc];rfl,zbL (by decide),zbL (hd (by omega)),zcD (hd (by omega))]
 rw [linesR,e,if_neg (by simp),if_neg (by simp)]
 simp only [List.getD_cons_zero,List.getD_cons_succ]
 rw [(zl2 (n:=k) (by omega)).2.1,(zl2 (n:=m) (by omega)).2.1]
 simp only
 rw [if_neg (by omega)]
def linesP (at_:List UInt8→Option Int):List (List UInt8)→List Ro→Option (List Ro)
 | [],acc=>some acc
 | s::r,acc=>(addP at_ acc s).bind fun l=>linesP at_ r l
def headOk (s:List UInt8):Prop:=(spl 32 s).getD 0 []=sideB false∨(spl 32 s).getD 0 []=sideB true∨(spl 32 s).getD 0 []=agn5
theorem zhT {at_:List UInt8→Option Int} (hat:∀k:Nat,k≤200→at_ (decD k)=some (k:Int)) {l:List Ro} (hl:l.length≤100) (hv:∀i,i<l.length→allB (l.getD i ro0).cells=true∧(l.getD i ro0).cells.length≤200) :
  ∀(f i:Nat) (T:List UInt8),i≤l.length→rowsT l f i=some T→l.length-i<f→∃ls,T=unl ls∧(∀s∈ls,∀x∈s,x≠10)∧linesR at_ ls (l.take i)=some l∧linesP at_ ls (l.take i)=some l∧∀s∈ls,headOk s:=by
 intro f
 induction f with
 | zero=>intro i T _ _ h;omega
 | succ f ih =>
  intro i T hi h hf
  rw [rowsT] at h
  split at h
  ·cases h
   exact ⟨[],rfl,fun s hs=>(by cases hs),by rw [List.take_of_length_le (by omega)];rfl,by rw [List.take_of_length_le (by omega)];rfl,fun s hs=>(by cases hs)⟩
  ·rename_i h0
   split at h
   ·rename_i h1
    obtain ⟨r,hr,rfl⟩:=Option.map_eq_some_iff.1 h
    have hk:1≤(agnT l i).1∧(agnT l i).1≤2:=by unfold agnT;split <;> simp
    have hrp:(agnT l i).2=repT l i (agnT l i).1:=by unfold agnT;split <;> rfl
    obtain ⟨k,hkk⟩:∃k,(agnT l i).1=k:=⟨_,rfl⟩
    obtain ⟨m,hmm⟩:∃m,(agnT l i).2=m:=⟨_,rfl⟩
    rw [hkk] at hk hrp hr
    rw [hmm] at h1 hr hrp
    rw [hkk,hmm]
    have hkm:∀j,j<k*m→k≤i∧i+j<l.length∧l.getD (i+j) ro0=l.getD (i+j-k) ro0:=fun j hj=>zjo hi (by rw [←hrp];exact hj)
    have hp:0<k*m:=Nat.mul_pos (by omega) h1
    have hx:=hkm (k*m-1) (by omega)
    have hm1:m≤k*m:=by
     calc m=1*m:=(Nat.one_mul m).symm
      _≤k*m:=Nat.mul_le_mul_right m hk.1
    have hlt:(l.take i).length=i:=by rw [List.length_take];omega
    obtain ⟨ls,e1,e2,e3,e4,e5⟩:=ih (i+k*m) r (by omega) hr (by omega)
    refine ⟨(agnB++decD k++32::decD m)::ls,by rw [zeo,e1],?_,?_,?_,?_⟩
    ·intro s hs
     rcases List.mem_cons.1 hs with rfl | hs
     ·intro x hx9
      rcases List.mem_append.1 hx9 with hx9 | hx9
      ·rcases List.mem_append.1 hx9 with hx9 | hx9
       ·exact (show ∀x∈agnB,x≠10 by decide) x hx9
       ·exact (zcO (by omega) x hx9).1
      ·rcases List.mem_cons.1 hx9 with rfl | hx9
       ·decide
       ·exact (zcO (by omega) x hx9).1
     ·exact e2 s hs
    ·rw [zfY hk.1 hk.2 (by rw [hlt];omega) h1 (by omega) (by rw [hlt];omega),zbQ hk.1 (k*m) i hx.1 (by omega) (fun j hj=>(hkm j hj).2.2)]
     exact e3
    ·rw [linesP,ze4 hat hk.1 hk.2 (by rw [hlt];omega) h1 (by omega) (by rw [hlt];omega),Option.bind_some,zbQ hk.1 (k*m) i hx.1 (by omega) (fun j hj=>(hkm j hj).2.2)]
     exact e4
    ·intro s hs
     rcases List.mem_cons.1 hs with rfl | hs
     ·refine .inr (.inr ?_)
      rw [show agnB++decD k++32::decD m=agn5++32::(decD k++32::decD m) by rw [List.append_assoc];rfl,zbL (by decide)]
      rfl
     ·exact e5 s hs
   ·obtain ⟨s,hs,h2⟩:=Option.bind_eq_some_iff.1 h
    obtain ⟨r,hr,rfl⟩:=Option.map_eq_some_iff.1 h2
    have hii:i<l.length:=by omega
    obtain ⟨hv1,hv2⟩:=hv i hii
    obtain ⟨ht1,ht2⟩:=zbY hv1 hv2
    unfold lineT at hs
    split at hs
    ·cases hs
    ·rename_i h3
     cases hs
     have hE:ttextE (termsT (l.getD i ro0).cells)=0:=Classical.not_not.1 h3
     have hlen:(wT (termsT (l.getD i ro0).cells)).length≤3000:=by
      rw [ttextE,if_neg (fun h9=>h9 ht1)] at hE
      split at hE
      ·cases hE
      ·omega
     have hp:=(zaT (at_:=at_) (fun k h4 h5=>hat k h5)).2 ⟨hlen,ht1,rfl⟩
     have hlt:(l.take i).length=i:=by rw [List.length_take];omega
     obtain ⟨ls,e1,e2,e3,e4,e5⟩:=ih (i+1) r (by omega) hr (by omega)
     refine ⟨_::ls,by rw [zeo,e1],?_,?_,?_,?_⟩
     ·intro s hs
      rcases List.mem_cons.1 hs with rfl | hs
      ·intro x hx9
       rcases List.mem_append.1 hx9 with hx9 | hx9
       ·exact (zcU _ x hx9).1
       ·split at hx9
        ·cases hx9
        ·rcases List.mem_cons.1 hx9 with rfl | hx9
         ·decide
         ·exact zlH _ _ (Nat.le_refl _) (zaG ht1).2.2 x hx9
      ·exact e2 s hs
     ·rw [ziQ hat hp (by rw [hlt];omega),ht2]
      have e8:(⟨(l.getD i ro0).back,(l.getD i ro0).cells⟩:Ro)=l.getD i ro0:=rfl
      rw [e8,←zcA hii]
      exact e3
     ·rw [linesP,zgQ hp (by rw [hlt];omega),ht2,Option.bind_some]
      have e8:(⟨(l.getD i ro0).back,(l.getD i ro0).cells⟩:Ro)=l.getD i ro0:=rfl
      rw [e8,←zcA hii]
      exact e4
     ·intro s hs
      rcases List.mem_cons.1 hs with rfl | hs
      ·unfold headOk
       rw [zgo]
       cases (l.getD i ro0).back
       ·exact .inl rfl
       ·exact .inr (.inl rfl)
      ·exact e5 s hs
def rdP (at_:List UInt8→Option Int) (start:Int) (s:List UInt8):Option (List Ro) :=
 if 60000<s.length then none else (readP at_ (s.length+100) [] s).bind fun l=>if rowsE start l=0∧rowsV start l=s then some l else none
def rdR (at_:List UInt8→Option Int) (start:Int) (s:List UInt8):Option (List Ro) :=
 if 60000<s.length then none else ((cutR s).bind fun ls=>linesR at_ ls []).bind fun l=>if rowsE start l=0∧rowsV start l=s then some l else none
theorem zlq {start:Int} {l:List Ro} (h:rowsE start l=0):chkC start l=0∧∃T,rowsT l (l.length+1) 0=some T∧T.length≤60000∧rowsV start l=T:=by
 have h0:=h
 unfold rowsE at h
 split at h
 ·rename_i h1;exact absurd h h1
 ·rename_i h1
  refine ⟨Classical.not_not.1 h1,?_⟩
  split at h
  ·cases h
  ·rename_i T hT
   split at h
   ·cases h
   ·exact ⟨T,hT,by omega,by rw [rowsV,if_pos h0,hT];rfl⟩
theorem zcI {start:Int} {l:List Ro} (h:chkC start l=0):l.length≤100∧∀i,i<l.length→allB (l.getD i ro0).cells=true∧(l.getD i ro0).cells.length≤200:=by
 obtain ⟨h1,_,_,h4⟩:=zmN h
 exact ⟨h1,fun i hi=>by
  have h9:=za6 (zj0 h4 i hi).1
  exact ⟨h9.2.1,h9.1⟩⟩
theorem zmy {at_:List UInt8→Option Int} (hat:∀k:Nat,k≤200→at_ (decD k)=some (k:Int)) {start:Int} {s:List UInt8} {l:List Ro}:rdP at_ start s=some l↔rowsE start l=0∧rowsV start l=s:=by
 constructor
 ·intro h
  unfold rdP at h
  split at h
  ·cases h
  ·obtain ⟨l',_,h2⟩:=Option.bind_eq_some_iff.1 h
   split at h2
   ·rename_i h3
    cases h2
    exact h3
   ·cases h2
 ·rintro ⟨h1,rfl⟩
  obtain ⟨h2,T,h3,h4,h5⟩:=zlq h1
  obtain ⟨h6,h7⟩:=zcI h2
  rw [rdP,h5,if_neg (by omega)]
  have h8:=zjh hat h6 h7 (l.length+1) 0 T (Nat.zero_le _) h3 (by omega) (T.length+100) (by omega)
  rw [List.take_zero] at h8
  rw [h8,Option.bind_some,if_pos ⟨h1,h5⟩]
theorem zmI {at_:List UInt8→Option Int} (hat:∀k:Nat,k≤200→at_ (decD k)=some (k:Int)) {start:Int} {s:List UInt8} {l:List Ro}:rdR at_ start s=some l↔rowsE start l=0∧rowsV start l=s:=by
 constructor
 ·intro h
  unfold rdR at h
  split at h
  ·cases h
  ·obtain ⟨l',_,h2⟩:=Option.bind_eq_some_iff.1 h
   split at h2
   ·rename_i h3
    cases h2
    exact h3
   ·cases h2
 ·rintro ⟨h1,rfl⟩
  obtain ⟨h2,T,h3,h4,h5⟩:=zlq h1
  obtain ⟨h6,h7⟩:=zcI h2
  obtain ⟨ls,e1,e2,e3, -, -⟩:=zhT hat h6 h7 (l.length+1) 0 T (Nat.zero_le _) h3 (by omega)
  rw [rdR,h5,if_neg (by omega),e1,zl7 e2,Option.bind_some]
  rw [List.take_zero] at e3
  rw [e3,Option.bind_some,←e1,if_pos ⟨h1,h5⟩]
theorem zny {at_:List UInt8→Option Int} (hat:∀k:Nat,k≤200→at_ (decD k)=some (k:Int)) (start:Int) (s:List UInt8):rdR at_ start s=rdP at_ start s:=by
 apply Option.ext
 intro l
 rw [zmI hat,zmy hat]
end Go.Proofs.YtkneghkbgingdaaGreatDoor
/- The counts that the iterator over rows hands out,in plain Lean. -/
namespace Go.Proofs.YtkneghkbgingdaaGreatDoor
set_option maxRecDepth 100000
structure Cn where
 i:Nat
 b:Int
 a:Int
 e:Int
def cnE (i:Nat) (n:Int) (r:Ro):Cn:=if allE r.cells≠0 then ⟨i,n,0,allE r.cells⟩ else if usL r.cells≠n then ⟨i,n,0,26⟩ else ⟨i,n,mkL r.cells,0⟩
def visG:Nat→Int→List Ro→List Cn
 | _,_,[]=>[]
 | i,n,r::rs=>if (cnE i n r).e≠0 then [cnE i n r] else cnE i n r::visG (i+1) (cnE i n r).a rs
theorem zlz (i:Nat) (n:Int) (r:Ro) (rs:List Ro):chkGo n (r::rs)=if (cnE i n r).e≠0 then (cnE i n r).e else chkGo (cnE i n r).a rs:=by
 rw [chkGo]
 unfold cnE
 by_cases h:allE r.cells≠0
 ·rw [if_pos h,if_pos h,if_pos h]
 ·rw [if_neg h,if_neg h]
  by_cases h2:usL r.cells≠n
  ·rw [if_pos h2,if_pos h2,if_pos (by simp)]
  ·rw [if_neg h2,if_neg h2,if_neg (by simp)]
theorem zm6:∀ {l:List Ro} {i:Nat} {n:Int},(∀x∈visG i n l,x.e=0)→chkGo n l=0:=by
 intro l
 induction l with
 | nil=>intro i n _;rfl
 | cons r rs ih =>
  intro i n h
  rw [visG] at h
  rw [zlz i]
  split at h
  ·rename_i h1
   exact absurd (h _ (by simp)) h1
  ·rename_i h1
   rw [if_neg h1]
   exact ih (i:=i+1) (fun x hx=>h x (by simp [hx]))
theorem zmf:∀ {l:List Ro} {i:Nat} {n:Int} {x:Cn},x∈visG i n l→x.e≠0→chkGo n l=x.e:=by
 intro l
 induction l with
 | nil=>intro i n x h;simp [visG] at h
 | cons r rs ih =>
  intro i n x h he
  rw [visG] at h
  rw [zlz i]
  split at h
  ·rename_i h1
   simp at h
   subst h
   rw [if_pos h1]
  ·rename_i h1
   rw [if_neg h1]
   rcases List.mem_cons.1 h with rfl | h
   ·exact absurd he (by simpa using h1)
   ·exact ih h he
theorem zkt (i:Nat) (n:Int) (r:Ro):(allE r.cells≠0∧cnE i n r=⟨i,n,0,allE r.cells⟩)∨(allE r.cells=0∧usL r.cells≠n∧cnE i n r=⟨i,n,0,26⟩)∨(allE r.cells=0∧usL r.cells=n∧cnE i n r=⟨i,n,mkL r.cells,0⟩):=by
 unfold cnE
 by_cases h:allE r.cells≠0
 ·exact .inl ⟨h,if_pos h⟩
 ·rw [if_neg h]
  by_cases h2:usL r.cells≠n
  ·exact .inr (.inl ⟨by omega,h2,if_pos h2⟩)
  ·exact .inr (.inr ⟨by omega,by omega,if_neg h2⟩)
end Go.Proofs.YtkneghkbgingdaaGreatDoor
/- Patterns,plain: words,names,the errors of Check. -/
namespace Go.Proofs.YtkneghkbgingdaaGreatDoor
set_option maxRecDepth 100000
structure Stf where
 nm:List UInt8
 g:Int
def stf0:Stf:=⟨[],0⟩
structure Sec where
 nm:List UInt8
 s:Int
 rows:List Ro
def stN (st:List Stf) (i:Nat):List UInt8:=(st.getD i stf0).nm
end Go.Proofs.YtkneghkbgingdaaGreatDoor
/- Numbers in decimal,of any size that a pattern has: what is written is read. -/
namespace Go.Proofs.YtkneghkbgingdaaGreatDoor
set_option maxRecDepth 100000
theorem zjb:∀n:Nat,n<10→isDg (dg n)=true∧(dg n).toNat-48=n∧(0<n→dg n≠48):=by decide
theorem zgw (l:List UInt8) (x:UInt8):valD (l++[x])=10*valD l+(x.toNat-48):=by
 unfold valD
 rw [List.foldl_append]
 rfl
theorem zka:∀(f n:Nat),∀x∈decF f n,isDg x=true:=by
 intro f
 induction f with
 | zero=>intro n x hx;cases hx
 | succ f ih =>
  intro n x hx
  rw [decF] at hx
  split at hx
  ·rename_i h
   simp at hx
   subst hx
   exact (zjb n h).1
  ·rcases List.mem_append.1 hx with hx | hx
   ·exact ih _ x hx
   ·simp at hx
    subst hx
    exact (zjb _ (Nat.mod_lt _ (by decide))).1
theorem zk0:∀(f n:Nat),n<10 ^ f→valD (decF f n)=n:=by
 intro f
 induction f with
 | zero=>intro n h;simp at h;subst h;rfl
 | succ f ih =>
  intro n h
  rw [decF]
  split
  ·rename_i h1
   have:=(zjb n h1).2.1
   have e:=zgw [] (dg n)
   rw [List.nil_append] at e
   rw [e,this]
   show 10*0+n=n
   omega
  ·rw [zgw,ih (n / 10) (by rw [Nat.pow_succ] at h;omega),(zjb (n % 10) (Nat.mod_lt _ (by decide))).2.1]
   omega
theorem ziU:∀(f k n:Nat),n<10 ^ (k+1)→(decF f n).length≤k+1:=by
 intro f
 induction f with
 | zero=>intro k n _;simp [decF]
 | succ f ih =>
  intro k n h
  rw [decF]
  split
  ·simp
  ·rename_i h1
   cases k with
   | zero=>simp at h;omega
   | succ k =>
    have:=ih k (n / 10) (by rw [Nat.pow_succ] at h;omega)
    rw [List.length_append]
    simp only [List.length_cons,List.length_nil]
    omega
theorem zjT:∀(f n:Nat),0<n→n<10 ^ f→(decF f n).head?≠some 48∧decF f n≠[]:=by
 intro f
 induction f with
 | zero=>intro n h0 h;simp at h;omega
 | succ f ih =>
  intro n h0 h
  rw [decF]
  split
  ·rename_i h1
   exact ⟨fun h9=>(zjb n h1).2.2 h0 (by simpa using h9),by simp⟩
  ·obtain ⟨h2,h3⟩:=ih (n / 10) (by omega) (by rw [Nat.pow_succ] at h;omega)
   refine ⟨?_,by simp⟩
   cases hq:decF f (n / 10) with
   | nil=>exact absurd hq h3
   | cons x r =>
    rw [hq] at h2
    simpa using h2
theorem zgt {n:Nat} (h:n<10 ^ 20):valD (decD n)=n:=zk0 20 n h
theorem zgG (n:Nat):∀x∈decD n,isDg x=true:=zka 20 n
theorem zfh {n:Nat} (h:n<10000000):(decD n).length≤7:=ziU 20 6 n h
def num7 (l:List UInt8):Option Nat :=
 if l.length=0∨7<l.length∨(1<l.length∧l.head?=some 48) then none else if l.all isDg then some (valD l) else none
theorem zkJ {n:Nat} (h:n<10000000):num7 (decD n)=some n:=by
 by_cases h0:n=0
 ·subst h0
  decide
 ·have h1:=zjT 20 n (by omega) (by omega)
  have h2:decD n≠[]:=h1.2
  have h3:=zfh h
  have h4:(decD n).length≠0:=fun e=>h2 (List.eq_nil_of_length_eq_zero e)
  rw [num7,if_neg (by rintro (h9 | h9 | h9);exact h4 h9;omega;exact h1.1 h9.2),if_pos (List.all_eq_true.2 (zgG n)),zgt (by omega)]
end Go.Proofs.YtkneghkbgingdaaGreatDoor
/- The text of a pattern,plain: what is written is read (the program's reader). -/
namespace Go.Proofs.YtkneghkbgingdaaGreatDoor
set_option maxRecDepth 100000
section
variable {at_:List UInt8→Option Int} (hat:∀k:Nat,k≤100000→at_ (decD k)=some (k:Int))
include hat
end
end Go.Proofs.YtkneghkbgingdaaGreatDoor
/- The program's Parse of patterns,plain: it accepts just what is written. -/
namespace Go.Proofs.YtkneghkbgingdaaGreatDoor
set_option maxRecDepth 100000
end Go.Proofs.YtkneghkbgingdaaGreatDoor
/- Small facts on worlds that have only grown,for the walks of this claim. -/
namespace Go.Proofs.YtkneghkbgingdaaGreatDoor
set_option maxRecDepth 100000
open Go.RowKit
def Ext (w w':World):Prop:=Below w.heap.size w w'
theorem Ext.refl (w:World):Ext w w:=Below.refl _ _
theorem Ext.trans {a b c:World} (h:Ext a b) (k:Ext b c):Ext a c:=Below.trans h (Below.mono k (Below.size h))
theorem Ext.alloc {a b:World} (h:Ext a b) (o:Obj):Ext a (b.alloc o):=Below.alloc h (Below.size h) o
theorem Ext.drew {a b:World} (h:Ext a b):Ext a b.drew:=Below.drew h
theorem Ext.drewN {a b:World} (h:Ext a b) (n:Nat):Ext a (b.drewN n):=⟨h.os,h.tape,h.output,h.size,h.block⟩
theorem zr (w : World) : Ext w w := Ext.refl w
theorem za {a b : World} (h : Ext a b) (o : Obj) : Ext a (b.alloc o) := h.alloc o
theorem zd {a b : World} (h : Ext a b) : Ext a b.drew := h.drew
theorem zn {a b : World} (h : Ext a b) (n : Nat) : Ext a (b.drewN n) := h.drewN n
theorem zt {a b c : World} (h : Ext a b) (k : Ext b c) : Ext a c := Ext.trans h k
theorem Ext.facts {W w1:World} (hb:Ext W w1):(∀b o,b<W.heap.size→w1.cell? ⟨b,o,none⟩=W.cell? ⟨b,o,none⟩)∧(∀b o,b<W.heap.size→w1.frozen? ⟨b,o,none⟩=W.frozen? ⟨b,o,none⟩)∧(∀b,b<W.heap.size→b<w1.heap.size) :=
 ⟨fun b o h=>Below.cell (p:=⟨b,o,none⟩) hb h,fun b o h=>Below.frozen (p:=⟨b,o,none⟩) hb h,fun _ h=>Nat.lt_of_lt_of_le h (Below.size hb)⟩
end Go.Proofs.YtkneghkbgingdaaGreatDoor
