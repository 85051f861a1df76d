/- The texts of terms in plain Lean: what is written, and what the program's reader reads. -/
import Derived.Test.YtkneghkbgingdaaGreatDoorK00
namespace Go.Proofs.YtkneghkbgingdaaGreatDoor
set_option maxRecDepth 100000
def isStop (c:UInt8):Bool:=c==32 || c==40 || c==41 || c==42
def untilS:List UInt8→List UInt8×List UInt8
 | []=>([],[])
 | x::l=>if isStop x then ([],x::l) else (x::(untilS l).1,(untilS l).2)
theorem zdP {w r:List UInt8} (h:∀x∈w,isStop x=false) (hr:r=[]∨∃c s,r=c::s∧isStop c=true):untilS (w++r)=(w,r):=by
 induction w with
 | nil =>
  rcases hr with rfl | ⟨c,s,rfl,hc⟩
  ·rfl
  ·simp [untilS,hc]
 | cons x w ih =>
  rw [ZU,untilS,if_neg (by rw [h x (by simp)];simp),ih (fun y hy=>h y (by simp [hy]))]
def timesW (n:Int):List UInt8:=if 1<n then 42::decD n.toNat else []
def wT:Tms→List UInt8
 | .nil=>[]
 | .cons n c .nil .nil=>textL [c]++timesW n
 | .cons n c .nil r=>textL [c]++timesW n++32::wT r
 | .cons n _ g .nil=>(40::(wT g++[41]))++timesW n
 | .cons n _ g r=>(40::(wT g++[41]))++timesW n++32::wT r
def headW (c:St) (g:Tms):List UInt8:=match g with
 | .nil=>textL [c]
 | g=>40::(wT g++[41])
theorem zce {c:St} {g:Tms} (h:g ≠ .nil):headW c g=40::(wT g++[41]):=by
 cases g with
 | nil=>exact absurd rfl h
 | cons=>rfl
theorem zft (n:Int) (c:St) (g:Tms):wT (.cons n c g .nil)=headW c g++timesW n:=by
 cases g <;> simp [wT,headW]
theorem zdq (n:Int) (c:St) (g r:Tms) (h:r ≠ .nil):wT (.cons n c g r)=headW c g++timesW n++32::wT r:=by
 cases g <;> cases r <;> first | exact absurd rfl h | simp [wT,headW]
def rdN (at_:List UInt8→Option Int) (c:St) (g:Tms):List UInt8→Option ((Int×St×Tms)×List UInt8)
 | 42::s=>match at_ (untilS s).1 with
  | none=>none
  | some n=>some ((n,c,g),(untilS s).2)
 | s=>some ((1,c,g),s)
mutual
def rdL (at_:List UInt8→Option Int):Nat→Nat→List UInt8→Option (Tms×List UInt8)
 | 0,_,_=>none
 | f+1,d,s=>match rdT at_ f d s with
  | none=>none
  | some ((n,c,g),32::s2)=>(rdL at_ f d s2).map fun x=>(.cons n c g x.1,x.2)
  | some ((n,c,g),s1)=>some (.cons n c g .nil,s1)
def rdT (at_:List UInt8→Option Int):Nat→Nat→List UInt8→Option ((Int×St×Tms)×List UInt8)
 | 0,_,_=>none
 | f+1,d,s=>match s with
  | 40::s1=>if 8<d+1 then none else match rdL at_ f (d+1) s1 with
   | some (g,41::s2)=>rdN at_ st0 g s2
   | _=>none
  | s=>match parseL (untilS s).1 with
   | some [c]=>rdN at_ c .nil (untilS s).2
   | _=>none
end
def cellOk (s:St):Bool:=decide (allE [s]=0) && (wordT s).all (fun x => !isStop x) && !(wordT s).isEmpty
theorem zj5:allSt.all cellOk=true:=by decide +kernel
theorem zdp (c:St):textL [c]=wordT c:=by simp [textL,grp,joinB,wordG]
theorem zcw {c:St} (h:okSt c=true):allE [c]=0∧(∀x∈textL [c],isStop x=false)∧textL [c]≠[]:=by
 have h1:=Zq.1 zj5 c (zbD h)
 simp only [cellOk,Zs,Zx,Zq,Bool.not_eq_true',List.isEmpty_eq_false_iff] at h1
 rw [zdp]
 exact ⟨h1.1.1,h1.1.2,h1.2⟩
def digOk (n:Nat):Bool:=(decD n).all (fun x => !isStop x)
theorem zmi:(List.range 201).all digOk=true:=by decide +kernel
theorem znr {n:Nat} (h:n≤200):∀x∈decD n,isStop x=false:=by
 have h1:=Zq.1 zmi n (ZE.2 (by omega))
 simpa [digOk] using h1
def Behind (s:List UInt8):Prop:=s=[]∨∃r,s=32::r∨s=41::r
theorem Behind.stop {s:List UInt8} (h:Behind s):s=[]∨∃c r,s=c::r∧isStop c=true:=by
 rcases h with rfl | ⟨r,rfl | rfl⟩
 ·exact .inl rfl
 ·exact .inr ⟨32,r,rfl,rfl⟩
 ·exact .inr ⟨41,r,rfl,rfl⟩
theorem zmN {at_:List UInt8→Option Int} {c:St} {g:Tms} {s:List UInt8} (h:Behind s):rdN at_ c g s=some ((1,c,g),s):=by
 rcases h with rfl | ⟨r,rfl | rfl⟩ <;> rfl
theorem zgY {at_:List UInt8→Option Int} (hat:∀k:Nat,2≤k→k≤200→at_ (decD k)=some (k:Int)) {c:St} {g:Tms} {n:Int} (h1:1≤n) (h2:n≤200) {s:List UInt8} (h:Behind s):rdN at_ c g (timesW n++s)=some ((n,c,g),s):=by
 unfold timesW
 by_cases hn:1<n
 ·rw [if_pos hn,ZU,rdN,zdP (znr (by omega)) h.stop]
  simp only
  rw [hat n.toNat (by omega) (by omega)]
  have e:((n.toNat:Nat):Int)=n:=by omega
  rw [e]
 ·rw [if_neg hn,List.nil_append,zmN h]
  have e:n=1:=by omega
  rw [e]
theorem zhZ {n:Int} {s:List UInt8} (h:Behind s):timesW n++s=[]∨∃c r,timesW n++s=c::r∧isStop c=true:=by
 unfold timesW
 split
 ·exact .inr ⟨42,_,rfl,rfl⟩
 ·exact h.stop
theorem zjQ {c:St} (h:okSt c=true) (s:List UInt8):∃x r,textL [c]++s=x::r∧isStop x=false:=by
 obtain ⟨_,h2,h3⟩:=zcw h
 cases e:textL [c] with
 | nil=>exact absurd e h3
 | cons x r=>exact ⟨x,r++s,rfl,h2 x (by rw [e];simp)⟩
theorem zk9 (at_:List UInt8→Option Int) (f d:Nat) {x:UInt8} {r:List UInt8} (hx:isStop x=false):rdT at_ (f+1) d (x::r)=match parseL (untilS (x::r)).1 with
  | some [c]=>rdN at_ c .nil (untilS (x::r)).2
  | _=>none:=by
 have hx2:x≠40:=by rintro rfl;simp [isStop] at hx
 rw [rdT]
 intro s1 e
 cases e
 exact hx2 rfl
theorem zmS {at_:List UInt8→Option Int} (hat:∀k:Nat,2≤k→k≤200→at_ (decD k)=some (k:Int)):∀(M:Nat) (t:Tms),t.size≤M→t ≠ .nil→fineT t=true→∀(d f:Nat),t.depth+d≤8→2*t.size≤f→∀s:List UInt8,(s=[]∨∃r,s=41::r)→rdL at_ f d (wT t++s)=some (t,s):=by
 intro M
 induction M with
 | zero =>
  intro t h h0
  have:=zg4 h0
  omega
 | succ M ih =>
  intro t hs h0 hf d f hd hfl s hb
  cases t with
  | nil=>exact absurd rfl h0
  | cons n c g r =>
   simp only [Tms.size] at hs hfl
   simp only [Tms.depth] at hd
   obtain ⟨f,rfl⟩:∃k,f=k+2:=⟨f-2,by omega⟩
   have hn:1≤n∧n≤200:=by
    by_cases hg:g = .nil
    ·subst hg
     rw [zaD] at hf
     simp only [Zs] at hf
     exact zbf hf.1.1
    ·rw [zaK _ _ _ _ hg] at hf
     simp only [Zs] at hf
     exact zbf hf.1.1.1
   have hfr:fineT r=true:=by
    by_cases hg:g = .nil
    ·subst hg
     rw [zaD] at hf
     simp only [Zs] at hf
     exact hf.2
    ·rw [zaK _ _ _ _ hg] at hf
     simp only [Zs] at hf
     exact hf.2
   have hterm:∀q:List UInt8,Behind q→rdT at_ (f+1) d (headW c g++timesW n++q)=some ((n,c,g),q):=by
    intro q hq
    by_cases hg:g = .nil
    ·subst hg
     rw [zaD] at hf
     simp only [Zs] at hf
     obtain ⟨k1,k2,k3⟩:=zcw hf.1.2
     obtain ⟨x,w,e,hx⟩:=zjQ hf.1.2 (timesW n++q)
     show rdT at_ (f+1) d (textL [c]++timesW n++q)=_
     rw [ZJ,e,zk9 _ _ _ hx,←e,zdP k2 (zhZ hq)]
     simp only
     rw [zdF k1]
     exact zgY hat hn.1 hn.2 hq
    ·rw [zce hg]
     rw [zaK _ _ _ _ hg] at hf
     simp only [Zs,Zx] at hf
     obtain ⟨⟨⟨_,hc⟩,hfg⟩,_⟩:=hf
     have e:40::(wT g++[41])++timesW n++q=40::(wT g++(41::(timesW n++q))):=by simp
     rw [e,rdT,if_neg (by omega)]
     rw [ih g (by omega) hg hfg (d+1) f (by omega) (by omega) (41::(timesW n++q)) (.inr ⟨_,rfl⟩)]
     simp only
     rw [hc]
     exact zgY hat hn.1 hn.2 hq
   by_cases hr:r = .nil
   ·subst hr
    rw [zft,rdL,hterm s (by rcases hb with rfl | ⟨x,rfl⟩;exact .inl rfl;exact .inr ⟨x,.inr rfl⟩)]
    rcases hb with rfl | ⟨x,rfl⟩ <;> rfl
   ·rw [zdq _ _ _ _ hr]
    have e:headW c g++timesW n++32::wT r++s=headW c g++timesW n++(32::(wT r++s)):=by simp
    rw [e,rdL,hterm _ (.inr ⟨_,.inl rfl⟩)]
    simp only
    rw [ih r (by omega) hr hfr d (f+1) (by omega) (by omega) s hb]
    rfl
end Go.Proofs.YtkneghkbgingdaaGreatDoor
/- Parse of terms in plain Lean: it accepts just the texts of valid lists. -/
namespace Go.Proofs.YtkneghkbgingdaaGreatDoor
set_option maxRecDepth 100000
theorem zl1:∀ {t:Tms},fineT t=true→t.size≤(wT t).length:=by
 intro t
 induction t with
 | nil=>intro _;simp [Tms.size]
 | cons n c g r ih1 ih2 =>
  intro h
  have hh:g.size+1≤(headW c g).length∧fineT r=true:=by
   by_cases hg:g = .nil
   ·subst hg
    rw [zaD] at h
    simp only [Zs] at h
    have h3:=(zcw h.1.2).2.2
    refine ⟨?_,h.2⟩
    show 0+1≤(textL [c]).length
    have:=ZW.2 h3
    omega
   ·rw [zaK _ _ _ _ hg] at h
    simp only [Zs] at h
    refine ⟨?_,h.2⟩
    rw [zce hg]
    have:=ih1 h.1.2
    simp only [Zk,Zh,List.length_nil]
    omega
  rw [Tms.size]
  by_cases hr:r = .nil
  ·subst hr
   rw [zft,Zh]
   simp only [Tms.size]
   omega
  ·rw [zdq _ _ _ _ hr,Zh,Zh,Zk]
   have:=ih2 hh.2
   omega
theorem zoB {t:Tms} (h:fineT t=true) (h0:t ≠ .nil):wT t≠[]:=by
 intro e
 have h1:=zl1 h
 have h2:=zg4 h0
 rw [e] at h1
 simp at h1
 omega
def readT (at_:List UInt8→Option Int) (s:List UInt8):Option Tms:=if s=[] then some .nil else match rdL at_ (2*s.length+2) 0 s with
 | some (t,[])=>some t
 | _=>none
def ttextE (t:Tms):Int:=if tchkE t≠0 then tchkE t else if 3000<(wT t).length then 4 else 0
def ttextV (t:Tms):List UInt8:=if ttextE t=0 then wT t else []
def parseT (at_:List UInt8→Option Int) (s:List UInt8):Option Tms:=if 3000<s.length then none else (readT at_ s).bind fun t=>if ttextE t=0∧ttextV t=s then some t else none
theorem za5 {t:Tms} (h:tchkE t=0):t.size≤200∧t.depth≤8∧fineT t=true:=by
 unfold tchkE at h
 split at h
 ·cases h
 ·split at h
  ·rename_i h1 h2
   exact ⟨by omega,by omega,h2⟩
  ·cases h
theorem zjl {at_:List UInt8→Option Int} (hat:∀k:Nat,2≤k→k≤200→at_ (decD k)=some (k:Int)) {t:Tms} (h:tchkE t=0):readT at_ (wT t)=some t:=by
 obtain ⟨h1,h2,h3⟩:=za5 h
 by_cases h0:t = .nil
 ·subst h0
  rfl
 ·rw [readT,if_neg (zoB h3 h0)]
  have h4:=zl1 h3
  have h5:=zmS hat t.size t (Zf _) h0 h3 0 (2*(wT t).length+2) (by omega) (by omega) [] (.inl rfl)
  rw [ZH] at h5
  rw [h5]
theorem zhe {t:Tms} {s:List UInt8} (hs:s.length≤3000):(ttextE t=0∧ttextV t=s)↔(tchkE t=0∧wT t=s):=by
 constructor
 ·rintro ⟨h1,h2⟩
  rw [ttextV,if_pos h1] at h2
  refine ⟨?_,h2⟩
  unfold ttextE at h1
  split at h1
  ·exact h1
  ·rename_i h3
   simpa using h3
 ·rintro ⟨h1,rfl⟩
  have h3:ttextE t=0:=by rw [ttextE,if_neg (by simpa using h1),if_neg (by omega)]
  exact ⟨h3,by rw [ttextV,if_pos h3]⟩
theorem zbQ {at_:List UInt8→Option Int} (hat:∀k:Nat,2≤k→k≤200→at_ (decD k)=some (k:Int)) {s:List UInt8} {t:Tms}:parseT at_ s=some t↔s.length≤3000∧tchkE t=0∧wT t=s:=by
 constructor
 ·intro h
  unfold parseT at h
  split at h
  ·cases h
  ·rename_i hs
   obtain ⟨t',_,h3⟩:=ZM.1 h
   split at h3
   ·rename_i h4
    cases h3
    exact ⟨by omega,(zhe (by omega)).1 h4⟩
   ·cases h3
 ·rintro ⟨h1,h2,rfl⟩
  rw [parseT,if_neg (by omega),zjl hat h2,ZA,if_pos ((zhe h1).2 ⟨h2,rfl⟩)]
end Go.Proofs.YtkneghkbgingdaaGreatDoor
/- Written instructions,plain: the terms of a row,its line,the lines of rows. -/
namespace Go.Proofs.YtkneghkbgingdaaGreatDoor
set_option maxRecDepth 100000
def consR (c:St):Tms→Tms
 | .cons n d .nil r=>if c=d then .cons (n+1) c .nil r else .cons 1 c .nil (.cons n d .nil r)
 | t => .cons 1 c .nil t
def runsT:List St→Tms
 | [] => .nil
 | c::l=>consR c (runsT l)
def RunI:Tms→Prop
 | .nil=>True
 | .cons n _ .nil r=>1≤n∧RunI r
 | .cons _ _ _ _=>False
theorem zdL {t:Tms} (h:RunI t):t = .nil∨∃n c r,t = .cons n c .nil r∧1≤n∧RunI r:=by
 cases t with
 | nil=>exact .inl rfl
 | cons n c g r =>
  cases g with
  | nil=>exact .inr ⟨n,c,r,rfl,h.1,h.2⟩
  | cons=>exact h.elim
theorem zkd {c:St} {t:Tms} (h:RunI t):RunI (consR c t)∧(consR c t).cells=c::t.cells∧(consR c t).size≤t.size+1∧(consR c t).depth≤1:=by
 rcases zdL h with rfl | ⟨n,d,r,rfl,h1,h2⟩
 ·refine ⟨⟨by omega,trivial⟩,?_,?_,?_⟩ <;> simp [consR,Tms.cells,Tms.size,Tms.depth]
 ·have hr:r.depth≤1:=by
   clear h
   induction r with
   | nil=>simp [Tms.depth]
   | cons n2 c2 g2 r2 _ ih =>
    cases g2 with
    | nil=>have:=ih h2.2;simp only [Tms.depth];omega
    | cons=>exact h2.elim
  by_cases e:c=d
  ·subst e
   have e2:consR c (.cons n c .nil r) = .cons (n+1) c .nil r:=by simp [consR]
   rw [e2]
   refine ⟨⟨by omega,h2⟩,?_,by simp only [Tms.size];omega,by simp only [Tms.depth];omega⟩
   rw [zaB,zaB,show (n+1).toNat=n.toNat+1 by omega,List.replicate_succ]
   rfl
  ·have e2:consR c (.cons n d .nil r) = .cons 1 c .nil (.cons n d .nil r):=by simp [consR,e]
   rw [e2]
   refine ⟨⟨by omega,h1,h2⟩,?_,by simp only [Tms.size];omega,by simp only [Tms.depth];omega⟩
   rw [zaB]
   rfl
theorem zel:∀l:List St,RunI (runsT l)∧(runsT l).cells=l∧(runsT l).size≤l.length∧(runsT l).depth≤1:=by
 intro l
 induction l with
 | nil=>exact ⟨trivial,rfl,Zf _,by simp [runsT,Tms.depth]⟩
 | cons c l ih =>
  obtain ⟨h1,h2,h3,h4⟩:=zkd (c:=c) ih.1
  refine ⟨h1,?_,?_,h4⟩
  ·rw [runsT,h2,ih.2.1]
  ·rw [runsT,Zk];omega
theorem zjz:∀ {t:Tms},RunI t→allB t.cells=true→t.cells.length≤200→fineT t=true:=by
 intro t
 induction t with
 | nil=>intro _ _ _;rfl
 | cons n c g r _ ih =>
  intro h ha hl
  cases g with
  | cons=>exact h.elim
  | nil =>
   rw [zaB] at ha hl
   rw [Zh,ZZ] at hl
   unfold allB at ha
   rw [List.all_append,Zs] at ha
   have hn:=h.1
   have hc:okSt c=true:=Zq.1 ha.1 c (by
    rw [List.mem_replicate]
    exact ⟨by omega,rfl⟩)
   rw [zaD,zkH hn (by omega),hc,ih h.2 ha.2 (by omega)]
   rfl
def termsT (l:List St):Tms:=if l.length≤60 then findT l else runsT l
theorem zcr {l:List St} (ha:allB l=true) (hl:l.length≤200):tchkE (termsT l)=0∧(termsT l).cells=l:=by
 unfold termsT
 by_cases h:l.length≤60
 ·rw [if_pos h]
  exact ⟨zku ha h,zhl l⟩
 ·rw [if_neg h]
  obtain ⟨h1,h2,h3,h4⟩:=zel l
  exact ⟨zlZ (by omega) (by omega) (zjz h1 (by rw [h2];exact ha) (by rw [h2];exact hl)) (by rw [h2];exact hl),h2⟩
theorem zhV (c:St):∀(n:Nat) (l:List St),l.head?≠some c→runsT (List.replicate (n+1) c++l) = .cons ((n:Int)+1) c .nil (runsT l):=by
 intro n
 induction n with
 | zero =>
  intro l hl
  rw [show List.replicate (0+1) c++l=c::l from rfl,runsT]
  have h1:=(zel l).1
  rcases zdL h1 with e | ⟨m,d,r,e,h2,h3⟩
  ·rw [e];rfl
  ·have hd:c≠d:=by
    intro h4
    apply hl
    have h5:=(zel l).2.1
    rw [e,zaB] at h5
    rw [←h5,h4]
    obtain ⟨j,hj⟩:∃j,m.toNat=j+1:=⟨m.toNat-1,by omega⟩
    rw [hj,List.replicate_succ]
    rfl
   rw [e]
   simp [consR,hd]
 | succ n ih =>
  intro l hl
  rw [show List.replicate (n+1+1) c++l=c::(List.replicate (n+1) c++l) by rw [List.replicate_succ];rfl,runsT,ih l hl]
  simp [consR]
def sideB (b:Bool):List UInt8:=if b=true then [98,97,99,107] else [102,114,111,110,116]
def lineT (r:Ro):Option (List UInt8):=if ttextE (termsT r.cells)≠0 then none else some (sideB r.back++if wT (termsT r.cells)=[] then [] else 32::wT (termsT r.cells))
def eqRun (l:List Ro) (k:Nat):Nat→Nat→Nat
 | 0,_=>0
 | f+1,i=>if l.getD i ro0=l.getD (i-k) ro0 then eqRun l k f (i+1)+1 else 0
def repT (l:List Ro) (i k:Nat):Nat:=if i<k then 0 else eqRun l k (l.length-i) i / k
theorem zgH (l:List Ro) (k:Nat):∀f i,eqRun l k f i≤f:=by
 intro f
 induction f with
 | zero=>intro i;exact Zf _
 | succ f ih =>
  intro i
  rw [eqRun]
  split
  ·have:=ih (i+1);omega
  ·omega
theorem zkm (l:List Ro) (k:Nat):∀f i j,j<eqRun l k f i→l.getD (i+j) ro0=l.getD (i+j-k) ro0:=by
 intro f
 induction f with
 | zero=>intro i j h;rw [eqRun] at h;omega
 | succ f ih =>
  intro i j h
  rw [eqRun] at h
  split at h
  ·rename_i h0
   cases j with
   | zero=>simpa using h0
   | succ j =>
    have:=ih (i+1) j (by omega)
    rw [show i+(j+1)=i+1+j by omega]
    exact this
  ·omega
theorem zjn {l:List Ro} {i k j:Nat} (hi:i≤l.length) (hj:j<k*repT l i k):k≤i∧i+j<l.length∧l.getD (i+j) ro0=l.getD (i+j-k) ro0:=by
 unfold repT at hj
 split at hj
 ·simp at hj
 ·have h1:=zgH l k (l.length-i) i
  have h2:k*(eqRun l k (l.length-i) i / k)≤eqRun l k (l.length-i) i:=Nat.mul_div_le _ _
  exact ⟨by omega,by omega,zkm l k (l.length-i) i j (by omega)⟩
def agnT (l:List Ro) (i:Nat):Nat×Nat:=if 2*repT l i 2 > repT l i 1 then (2,repT l i 2) else (1,repT l i 1)
def agnB:List UInt8:=[97,103,97,105,110,32]
def rowsT (l:List Ro):Nat→Nat→Option (List UInt8)
 | 0,_=>some []
 | f+1,i=>if l.length≤i then some []
  else if 0<(agnT l i).2 then (rowsT l f (i+(agnT l i).1*(agnT l i).2)).map fun r=>agnB++decD (agnT l i).1++32::decD (agnT l i).2++10::r
  else (lineT (l.getD i ro0)).bind fun s=>(rowsT l f (i+1)).map fun r=>s++10::r
def rowsE (s:Int) (l:List Ro):Int:=if chkC s l≠0 then chkC s l else match rowsT l (l.length+1) 0 with
 | none=>4
 | some r=>if 60000<r.length then 4 else 0
def rowsV (s:Int) (l:List Ro):List UInt8:=if rowsE s l=0 then (rowsT l (l.length+1) 0).getD [] else []
end Go.Proofs.YtkneghkbgingdaaGreatDoor
/- Written instructions,plain: what is written is read. -/
namespace Go.Proofs.YtkneghkbgingdaaGreatDoor
set_option maxRecDepth 100000
def cutA (c:UInt8):List UInt8→List UInt8×List UInt8
 | []=>([],[])
 | x::l=>if x=c then ([],l) else (x::(cutA c l).1,(cutA c l).2)
theorem zkf {c:UInt8}:∀ {s:List UInt8},(∀x∈s,x≠c)→cutA c s=(s,[]):=by
 intro s
 induction s with
 | nil=>intro _;rfl
 | cons x l ih =>
  intro h
  rw [cutA,if_neg (h x (by simp)),ih (fun y hy=>h y (by simp [hy]))]
theorem zik {c:UInt8}:∀ {s:List UInt8} {r:List UInt8},(∀x∈s,x≠c)→cutA c (s++c::r)=(s,r):=by
 intro s
 induction s with
 | nil=>intro r _;rw [List.nil_append,cutA,if_pos rfl]
 | cons x l ih =>
  intro r h
  rw [ZU,cutA,if_neg (h x (by simp)),ih (fun y hy=>h y (by simp [hy]))]
theorem zlI (c:UInt8):∀s:List UInt8,s≠[]→(cutA c s).2.length<s.length:=by
 intro s
 induction s with
 | nil=>intro h;exact absurd rfl h
 | cons x l ih =>
  intro _
  rw [cutA]
  split
  ·simp
  ·by_cases h:l=[]
   ·subst h;simp [cutA]
   ·have:=ih h;simp only [Zk];omega
def cellN (c:St):Bool:=(wordT c).all fun x=>decide (x≠10)
theorem zid:allSt.all cellN=true:=by decide +kernel
theorem zmf {c:St} (h:okSt c=true):∀x∈textL [c],x≠10:=by
 have h1:=Zq.1 zid c (zbD h)
 rw [zdp]
 intro x hx
 have:=Zq.1 h1 x hx
 simpa using this
def digN (n:Nat):Bool:=(decD n).all (fun x=>decide (x≠10) && decide (x≠32)) && !(decD n).isEmpty
theorem zkk:(List.range 201).all digN=true:=by decide +kernel
theorem zc9 {n:Nat} (h:n≤200):∀x∈decD n,x≠10∧x≠32:=by
 have h1:=Zq.1 zkk n (ZE.2 (by omega))
 simp only [digN,Zs] at h1
 intro x hx
 have h2:=Zq.1 h1.1 x hx
 simpa using h2
theorem zhd {n:Int} (h:n≤200):∀x∈timesW n,x≠10:=by
 unfold timesW
 split
 ·intro x hx
  rcases ZG.1 hx with rfl | hx
  ·decide
  ·exact (zc9 (by omega) x hx).1
 ·intro x hx
  cases hx
theorem zl0:∀(M:Nat) (t:Tms),t.size≤M→fineT t=true→∀x∈wT t,x≠10:=by
 intro M
 induction M with
 | zero =>
  intro t h _ x hx
  cases t with
  | nil=>cases hx
  | cons n c g r=>simp [Tms.size] at h
 | succ M ih =>
  intro t h hf
  cases t with
  | nil=>intro x hx;cases hx
  | cons n c g r =>
   simp only [Tms.size] at h
   have hn:n≤200∧fineT g=true∧fineT r=true∧(g = .nil→okSt c=true):=by
    by_cases hg:g = .nil
    ·subst hg
     rw [zaD] at hf
     simp only [Zs] at hf
     exact ⟨(zbf hf.1.1).2,rfl,hf.2,fun _=>hf.1.2⟩
    ·rw [zaK _ _ _ _ hg] at hf
     simp only [Zs] at hf
     exact ⟨(zbf hf.1.1.1).2,hf.1.2,hf.2,fun h9=>absurd h9 hg⟩
   have hh:∀x∈headW c g,x≠10:=by
    by_cases h0:g = .nil
    ·subst h0
     exact zmf (hn.2.2.2 rfl)
    ·rw [zce h0]
     intro x hx
     rcases ZG.1 hx with rfl | hx
     ·decide
     ·rcases Zw.1 hx with hx | hx
      ·exact ih g (by omega) hn.2.1 x hx
      ·simp at hx;subst hx;decide
   by_cases h0:r = .nil
   ·subst h0
    rw [zft]
    intro x hx
    rcases Zw.1 hx with hx | hx
    ·exact hh x hx
    ·exact zhd hn.1 x hx
   ·rw [zdq _ _ _ _ h0]
    intro x hx
    rcases Zw.1 hx with hx | hx
    ·rcases Zw.1 hx with hx | hx
     ·exact hh x hx
     ·exact zhd hn.1 x hx
    ·rcases ZG.1 hx with rfl | hx
     ·decide
     ·exact ih r (by omega) hn.2.2.1 x hx
theorem zdm (b:Bool):∀x∈sideB b,x≠10∧x≠32:=by
 cases b <;> decide
def numP (at_:List UInt8→Option Int) (s:List UInt8):Int:=match at_ s with
 | some v=>if v<0 then -1 else v
 | none => -1
def copies (k:Nat):Nat→List Ro→List Ro
 | 0,l=>l
 | n+1,l=>copies k n (l++[l.getD (l.length-k) ro0])
theorem zhj (k:Nat):∀(n:Nat) (l:List Ro),(copies k n l).length=l.length+n:=by
 intro n
 induction n with
 | zero=>intro l;rfl
 | succ n ih=>intro l;rw [copies,ih,Zh];simp only [Zk,List.length_nil];omega
theorem zc0 {l:List Ro} {i:Nat} (h:i<l.length):l.take (i+1)=l.take i++[l.getD i ro0]:=by
 rw [List.take_add_one,Zg h,Zc,Zg h]
 rfl
theorem zkC {l:List Ro} {i j:Nat} (h:j<i):(l.take i).getD j ro0=l.getD j ro0:=by
 rw [Zc,List.getElem?_take,if_pos h,←Zc]
theorem zb2 {L:List Ro} {k:Nat} (hk:1≤k):∀(n i:Nat),k≤i→i+n≤L.length→(∀j,j<n→L.getD (i+j) ro0=L.getD (i+j-k) ro0)→copies k n (L.take i)=L.take (i+n):=by
 intro n
 induction n with
 | zero=>intro i _ _ _;rfl
 | succ n ih =>
  intro i h1 h2 h3
  have h4:=h3 0 (by omega)
  rw [Nat.add_zero] at h4
  rw [copies,Zy,show min i L.length=i by omega,zkC (by omega),←h4,←zc0 (by omega),ih (i+1) (by omega) (by omega) (fun j hj=>by
   have:=h3 (j+1) (by omega)
   rw [show i+1+j=i+(j+1) by omega]
   exact this)]
  rw [show i+1+n=i+(n+1) by omega]
def addP (at_:List UInt8→Option Int) (acc:List Ro) (s:List UInt8):Option (List Ro) :=
 if s.take 6=agnB then
  let k:=numP at_ (cutA 32 (s.drop 6)).1
  let m:=numP at_ (cutA 32 (s.drop 6)).2
  if k<1∨2<k∨(acc.length:Int)<k∨m<1∨100<m then none
  else if (acc.length:Int)+k*m≤100 then some (copies k.toNat (k*m).toNat acc) else none
 else if (cutA 32 s).1≠sideB false∧(cutA 32 s).1≠sideB true then none
 else match parseT at_ (cutA 32 s).2 with
  | none=>none
  | some t=>if acc.length<100 then some (acc++[⟨decide ((cutA 32 s).1=sideB true),t.cells⟩]) else none
theorem ziU {at_:List UInt8→Option Int} (hat:∀k:Nat,k≤200→at_ (decD k)=some (k:Int)) {k:Nat} (h:k≤200):numP at_ (decD k)=(k:Int):=by
 rw [numP,hat k h]
 simp only
 rw [if_neg (by omega)]
theorem zeJ {at_:List UInt8→Option Int} (hat:∀k:Nat,k≤200→at_ (decD k)=some (k:Int)) {acc:List Ro} {k m:Nat} (h1:1≤k) (h2:k≤2) (h3:k≤acc.length) (h4:1≤m) (h5:m≤100) (h6:acc.length+k*m≤100) :
  addP at_ acc (agnB++decD k++32::decD m)=some (copies k (k*m) acc):=by
 have e1:(agnB++decD k++32::decD m).take 6=agnB:=by rw [ZJ];rfl
 have e2:(agnB++decD k++32::decD m).drop 6=decD k++32::decD m:=by rw [ZJ];rfl
 have e3:cutA 32 (decD k++32::decD m)=(decD k,decD m):=zik fun x hx=>(zc9 (by omega) x hx).2
 have e4:((k:Int)*(m:Int))=((k*m:Nat):Int):=by rw [Int.natCast_mul]
 rw [addP,if_pos e1,e2,e3]
 simp only
 rw [ziU hat (by omega),ziU hat (by omega),if_neg (by omega),e4,if_pos (by omega),Int.toNat_natCast,Int.toNat_natCast]
theorem zjE (b:Bool) (r:List UInt8):(sideB b++r).take 6≠agnB:=by
 cases b
 ·intro h
  have:=congrArg List.head? h
  simp [sideB,agnB] at this
 ·intro h
  have:=congrArg List.head? h
  simp [sideB,agnB] at this
theorem zgs {at_:List UInt8→Option Int} {acc:List Ro} {b:Bool} {t:Tms} (h:parseT at_ (wT t)=some t) (h6:acc.length<100) :
  addP at_ acc (sideB b++if wT t=[] then [] else 32::wT t)=some (acc++[⟨b,t.cells⟩]):=by
 have e3:cutA 32 (sideB b++if wT t=[] then [] else 32::wT t)=(sideB b,wT t):=by
  by_cases h0:wT t=[]
  ·rw [if_pos h0,ZH,zkf (fun x hx=>(zdm b x hx).2),h0]
  ·rw [if_neg h0]
   exact zik fun x hx=>(zdm b x hx).2
 rw [addP,if_neg (zjE b _),e3]
 simp only
 rw [if_neg (by cases b <;> simp),h]
 simp only
 rw [if_pos h6]
 congr 3
 cases b <;> simp [sideB]
def readP (at_:List UInt8→Option Int):Nat→List Ro→List UInt8→Option (List Ro)
 | _,acc,[]=>some acc
 | 0,_,_::_=>none
 | f+1,acc,x::s=>(addP at_ acc (cutA 10 (x::s)).1).bind fun l=>readP at_ f l (cutA 10 (x::s)).2
theorem zfa {at_:List UInt8→Option Int} {f:Nat} {acc l:List Ro} {s r:List UInt8} (hs:∀x∈s,x≠10) (h:addP at_ acc s=some l):readP at_ (f+1) acc (s++10::r)=readP at_ f l r:=by
 have e:=zik (r:=r) hs
 cases hq:s++10::r with
 | nil=>simp at hq
 | cons x q =>
  rw [readP,←hq,e]
  simp only
  rw [h,ZA]
theorem zjh {at_:List UInt8→Option Int} (hat:∀k:Nat,k≤200→at_ (decD k)=some (k:Int)) {l:List Ro} (hl:l.length≤100) (hv:∀i,i<l.length→allB (l.getD i ro0).cells=true∧(l.getD i ro0).cells.length≤200) :
  ∀(f i:Nat) (T:List UInt8),i≤l.length→rowsT l f i=some T→l.length-i<f→∀g,l.length-i≤g→readP at_ g (l.take i) T=some l:=by
 intro f
 induction f with
 | zero=>intro i T _ _ h;omega
 | succ f ih =>
  intro i T hi h hf g hg
  rw [rowsT] at h
  split at h
  ·cases h
   rw [Zz (by omega)]
   cases g <;> rfl
  ·rename_i h0
   obtain ⟨g,rfl⟩:∃g',g=g'+1:=⟨g-1,by omega⟩
   split at h
   ·rename_i h1
    obtain ⟨r,hr,rfl⟩:=ZF.1 h
    have hk:1≤(agnT l i).1∧(agnT l i).1≤2:=by unfold agnT;split <;> simp
    have hrp:(agnT l i).2=repT l i (agnT l i).1:=by unfold agnT;split <;> rfl
    obtain ⟨k,hkk⟩:∃k,(agnT l i).1=k:=⟨_,rfl⟩
    obtain ⟨m,hmm⟩:∃m,(agnT l i).2=m:=⟨_,rfl⟩
    rw [hkk] at hk hrp hr
    rw [hmm] at h1 hr hrp
    rw [hkk,hmm]
    have hkm:∀j,j<k*m→k≤i∧i+j<l.length∧l.getD (i+j) ro0=l.getD (i+j-k) ro0:=fun j hj=>zjn hi (by rw [←hrp];exact hj)
    have hp:0<k*m:=Nat.mul_pos (by omega) h1
    have hx:=hkm (k*m-1) (by omega)
    have hm1:m≤k*m:=by
     calc m=1*m:=(Nat.one_mul m).symm
      _≤k*m:=Nat.mul_le_mul_right m hk.1
    have hlt:(l.take i).length=i:=by rw [Zy];omega
    have ha:=zeJ hat (acc:=l.take i) (k:=k) (m:=m) hk.1 hk.2 (by rw [hlt];omega) h1 (by omega) (by rw [hlt];omega)
    rw [zb2 hk.1 (k*m) i hx.1 (by omega) (fun j hj=>(hkm j hj).2.2)] at ha
    have hbytes:∀x∈agnB++decD k++32::decD m,x≠10:=by
     intro x hx9
     rcases Zw.1 hx9 with hx9 | hx9
     ·rcases Zw.1 hx9 with hx9 | hx9
      ·exact (show ∀x∈agnB,x≠10 by decide) x hx9
      ·exact (zc9 (by omega) x hx9).1
     ·rcases ZG.1 hx9 with rfl | hx9
      ·decide
      ·exact (zc9 (by omega) x hx9).1
    have e9:agnB++decD k++32::decD m++10::r=(agnB++decD k++32::decD m)++10::r:=rfl
    rw [e9,zfa hbytes ha]
    exact ih (i+k*m) r (by omega) hr (by omega) g (by omega)
   ·obtain ⟨s,hs,h2⟩:=ZM.1 h
    obtain ⟨r,hr,rfl⟩:=ZF.1 h2
    have hii:i<l.length:=by omega
    obtain ⟨hv1,hv2⟩:=hv i hii
    obtain ⟨ht1,ht2⟩:=zcr hv1 hv2
    unfold lineT at hs
    split at hs
    ·cases hs
    ·rename_i h3
     cases hs
     have hE:ttextE (termsT (l.getD i ro0).cells)=0:=Classical.not_not.1 h3
     have hlen:(wT (termsT (l.getD i ro0).cells)).length≤3000:=by
      rw [ttextE,if_neg (fun h9=>h9 ht1)] at hE
      split at hE
      ·cases hE
      ·omega
     have hp:=(zbQ (at_:=at_) (fun k h4 h5=>hat k h5)).2 ⟨hlen,ht1,rfl⟩
     have hlt:(l.take i).length=i:=by rw [Zy];omega
     have ha:=zgs (acc:=l.take i) (b:=(l.getD i ro0).back) hp (by rw [hlt];omega)
     rw [ht2] at ha
     have e8:(⟨(l.getD i ro0).back,(l.getD i ro0).cells⟩:Ro)=l.getD i ro0:=rfl
     rw [e8,←zc0 hii] at ha
     have hbytes:∀x∈sideB (l.getD i ro0).back++(if wT (termsT (l.getD i ro0).cells)=[] then [] else 32::wT (termsT (l.getD i ro0).cells)),x≠10:=by
      intro x hx9
      rcases Zw.1 hx9 with hx9 | hx9
      ·exact (zdm _ x hx9).1
      ·split at hx9
       ·cases hx9
       ·rcases ZG.1 hx9 with rfl | hx9
        ·decide
        ·exact zl0 _ _ (Zf _) (za5 ht1).2.2 x hx9
     rw [zfa hbytes ha]
     exact ih (i+1) r (by omega) hr (by omega) g (by omega)
end Go.Proofs.YtkneghkbgingdaaGreatDoor
/- The other side of a stitch and of a list of stitches,in plain Lean. -/
namespace Go.Proofs.YtkneghkbgingdaaGreatDoor
set_option maxRecDepth 100000
end Go.Proofs.YtkneghkbgingdaaGreatDoor
/- The reference's Parse of stitches in plain Lean: it reads what Parse reads. -/
namespace Go.Proofs.YtkneghkbgingdaaGreatDoor
set_option maxRecDepth 100000
def numS (l:List UInt8):Option Nat :=
 if l.length=0∨4<l.length∨(1<l.length∧l.head?=some 48) then none else if l.all isDg then some (valD l) else none
def kindR (c:UInt8):Int:=if c=102 then 3 else if c=108 then 4 else if c=109 then 5 else if c=120 then 6 else if c=121 then 7 else if c=115 then 8 else if c=111 then 10 else 0
def refParts (k:Int) (p:Bool) (parts:List (List UInt8)):Option (List St) :=
 if k=6∨k=7 then
  if parts.length=2 then (numS (parts.getD 1 [])).bind fun b=>(numS (parts.getD 0 [])).bind fun a=>some [⟨k,p,a,b⟩] else none
 else if k≠0∧parts.length=1 then (numS (parts.getD 0 [])).bind fun a=>some [⟨k,p,a,0⟩] else none
def refWord:List UInt8→Option (List St)
 | []=>none
 | c::rest =>
  if c=121∧rest=[111] then some [⟨2,false,0,0⟩]
  else if 1<rest.length∧c=111∧rest.head?=some 110 then (numS rest.tail).bind fun a=>some [⟨9,false,a,0⟩]
  else if ¬(c=107∨c=112) then none
  else match rest with
   | []=>some [⟨1,decide (c=112),0,0⟩]
   | d::r=>match numS (d::r) with
    | some n=>if 1<n then some (List.replicate (min n 300) ⟨1,decide (c=112),0,0⟩) else none
    | none=>if kindR d=8 then (if r=[] then some [⟨8,decide (c=112),0,0⟩] else none) else refParts (kindR d) (decide (c=112)) (spl 47 r)
def rparseGo:List St→List (List UInt8)→Option (List St)
 | acc,[]=>some acc
 | acc,w::ws=>match refWord w with
  | none=>none
  | some l=>if 200<(acc++l).length then none else rparseGo (acc++l) ws
def rparseW (s:List UInt8):Option (List St):=if s=[] then some [] else rparseGo [] (spl 32 s)
def rparseL (s:List UInt8):Option (List St) :=
 if 3000<s.length then none else (rparseW s).bind fun l=>if allE l=0∧textL l=s then some l else none
def rwordOk (s:St):Bool:=decide (refWord (wordT s)=some [s])
theorem zjB:allSt.all rwordOk=true:=by decide +kernel
def rrunOk (n:Nat):Bool:=[false,true].all (fun p=>decide (refWord (wordG (⟨1,p,0,0⟩,n+2))=some (List.replicate (n+2) ⟨1,p,0,0⟩)))
theorem zll:(List.range 199).all rrunOk=true:=by decide +kernel
theorem zle {s:St} {n:Nat} (h:okSt s=true) (h1:1≤n) (h2:n≤200) (h3:n=1∨s.k=1):refWord (wordG (s,n))=some (List.replicate n s):=by
 rcases Z1 1 n with hn | hn
 ·have hk:s.k=1:=by rcases h3 with h3 | h3 <;> first | omega | exact h3
  obtain ⟨hk1,ha,hb,hp⟩:=zlP h
  rw [hk] at ha hb
  have ha:=zbf ha
  have hb:=zbf hb
  simp [fa0,fa1,fb0,fb1] at ha hb
  obtain ⟨k,p,a,b⟩:=s
  simp only at hk ha hb
  subst hk
  obtain rfl:a=0:=by omega
  obtain rfl:b=0:=by omega
  obtain ⟨m,rfl⟩:∃m,n=m+2:=⟨n-2,by omega⟩
  have h5:=Zq.1 zll m (ZE.2 (by omega))
  have h6:=Zq.1 h5 p (by cases p <;> simp)
  exact of_decide_eq_true h6
 ·obtain rfl:n=1:=by omega
  have h5:=Zq.1 zjB s (zbD h)
  have e:wordG (s,1)=wordT s:=by simp [wordG]
  rw [e]
  exact of_decide_eq_true h5
theorem zdw {gs:List (St×Nat)}:∀ {acc:List St},(∀x∈gs,refWord (wordG x)=some (List.replicate x.2 x.1))→acc.length+(gs.map (·.2)).sum≤200 →
  rparseGo acc (gs.map wordG)=some (acc++gs.flatMap (fun x=>List.replicate x.2 x.1)):=by
 induction gs with
 | nil=>intro acc _ _;simp [rparseGo]
 | cons x gs ih =>
  intro acc h hs
  have hf:=h x (by simp)
  simp only [ZY,List.sum_cons] at hs
  rw [ZY,rparseGo,hf]
  simp only
  rw [if_neg (by simp;omega)]
  rw [ih (fun y hy=>h y (by simp [hy])) (by simp;omega)]
  simp
theorem zga {l:List St} (h:allE l=0):rparseL (textL l)=some l:=by
 have hs:=zcE h
 rw [rparseL,if_neg (by omega)]
 have hw:rparseW (textL l)=some l:=by
  rcases List.eq_nil_or_concat l with rfl | ⟨l',x,e⟩
  ·rfl
  ·have hl:l≠[]:=by rw [e];simp
   have hne:textL l≠[]:=ziN (by simpa using ziI hl) (fun w hw=>by
    obtain ⟨x,hx,rfl⟩:=List.mem_map.1 hw
    exact (zcd h hx).long)
   obtain ⟨g1,g2,_,_⟩:=za6 h
   rw [rparseW,if_neg hne,zhc h hl,zdw (fun y hy=>by
    obtain ⟨m1,m2,m3⟩:=zd3 hy
    have h4:=zlM hy
    rw [zd4] at h4
    exact zle (Zq.1 g2 _ m1) m2 (by omega) m3) (by rw [zd4];simp;omega),zdB]
   simp
 rw [hw,ZA,if_pos ⟨h,rfl⟩]
theorem zhN {s:List UInt8} {l:List St}:rparseL s=some l↔s.length≤3000∧allE l=0∧textL l=s:=by
 constructor
 ·intro h
  unfold rparseL at h
  split at h
  ·cases h
  ·obtain ⟨l',h1,h2⟩:=ZM.1 h
   split at h2
   ·rename_i h3
    cases h2
    exact ⟨by omega,h3⟩
   ·cases h2
 ·rintro ⟨h1,h2,rfl⟩
  exact zga h2
theorem zfe (s:List UInt8):rparseL s=parseL s:=by
 apply Option.ext
 intro l
 rw [zhN,zci]
theorem zjY (a b:List St):allB (a++b)=(allB a && allB b):=by simp [allB]
end Go.Proofs.YtkneghkbgingdaaGreatDoor
/- The reference's Parse of terms in plain Lean: it reads what Parse reads. -/
namespace Go.Proofs.YtkneghkbgingdaaGreatDoor
set_option maxRecDepth 100000
theorem zcy {n:Int} {c:St} {g r:Tms} (h:fineT (.cons n c g r)=true):(1≤n∧n≤200)∧fineT g=true∧fineT r=true∧(g = .nil→okSt c=true)∧(g ≠ .nil→c=st0):=by
 by_cases hg:g = .nil
 ·subst hg
  rw [zaD] at h
  simp only [Zs] at h
  exact ⟨zbf h.1.1,rfl,h.2,fun _=>h.1.2,fun h9=>absurd rfl h9⟩
 ·rw [zaK _ _ _ _ hg] at h
  simp only [Zs,Zx] at h
  exact ⟨zbf h.1.1.1,h.1.2,h.2,fun h9=>absurd h9 hg,fun _=>h.1.1.2⟩
def dgOk (n:Nat):Bool:=(decD n).all isDg && decide (numS (decD n)=some n) && !(decD n).isEmpty
theorem znq:(List.range 201).all dgOk=true:=by decide +kernel
theorem znp {n:Nat} (h:n≤200):(∀y∈decD n,isDg y=true)∧numS (decD n)=some n∧decD n≠[]:=by
 have h1:=Zq.1 znq n (ZE.2 (by omega))
 simp only [dgOk,Zs,Zx,Zq,Bool.not_eq_true',List.isEmpty_eq_false_iff] at h1
 exact ⟨h1.1.1,h1.1.2,h1.2⟩
end Go.Proofs.YtkneghkbgingdaaGreatDoor
/- Written instructions,plain: the reference's reader;both readers accept just what is written. -/
namespace Go.Proofs.YtkneghkbgingdaaGreatDoor
set_option maxRecDepth 100000
def rowR (at_:List UInt8→Option Int) (s:List UInt8):Option Ro :=
 if s=sideB false∨s.take 6=sideB false++[32] then
  (if s.drop 5=[] then some ⟨false,[]⟩ else (parseT at_ ((s.drop 5).drop 1)).map fun t=>⟨false,t.cells⟩)
 else if s=sideB true∨s.take 5=sideB true++[32] then
  (if s.drop 4=[] then some ⟨true,[]⟩ else (parseT at_ ((s.drop 4).drop 1)).map fun t=>⟨true,t.cells⟩)
 else none
def agn5:List UInt8:=[97,103,97,105,110]
def linesR (at_:List UInt8→Option Int):List (List UInt8)→List Ro→Option (List Ro)
 | [],acc=>some acc
 | s::r,acc =>
  if (spl 32 s).getD 0 []≠agn5 then match rowR at_ s with
   | none=>none
   | some x=>if 100≤acc.length then none else linesR at_ r (acc++[x])
  else if (spl 32 s).length≠3 then none
  else match numS ((spl 32 s).getD 1 []),numS ((spl 32 s).getD 2 []) with
   | some k,some m=>if k<1∨2<k∨m<1∨100<m∨acc.length<k∨100<acc.length+k*m then none else linesR at_ r (copies k (k*m) acc)
   | _,_=>none
def unl (ls:List (List UInt8)):List UInt8:=ls.flatMap fun s=>s++[10]
theorem zbV (s:List UInt8) (ls:List (List UInt8)):unl (s::ls)=s++10::unl ls:=by simp [unl]
theorem zlx:∀ {ls:List (List UInt8)},ls≠[]→unl ls=joinB 10 ls++[10]:=by
 intro ls
 induction ls with
 | nil=>intro h;exact absurd rfl h
 | cons s r ih =>
  intro _
  rw [zbV]
  cases r with
  | nil=>simp [unl,joinB]
  | cons s2 r2 =>
   rw [ih (by simp)]
   simp [joinB]
theorem zhs {at_:List UInt8→Option Int} (hat:∀k:Nat,k≤200→at_ (decD k)=some (k:Int)) {t:Tms} (h:parseT at_ []=some t):t = .nil:=by
 have h2:parseT at_ []=some .nil:=(zbQ (fun k _ h5=>hat k h5)).2 ⟨by simp,by decide,rfl⟩
 rw [h] at h2
 exact ZV h2
theorem zlj {at_:List UInt8→Option Int} (hat:∀k:Nat,k≤200→at_ (decD k)=some (k:Int)) {b:Bool} {t:Tms} (h:parseT at_ (wT t)=some t) :
  rowR at_ (sideB b++if wT t=[] then [] else 32::wT t)=some ⟨b,t.cells⟩:=by
 by_cases h0:wT t=[]
 ·rw [if_pos h0,ZH]
  rw [h0] at h
  rw [zhs hat h]
  cases b
  ·rw [rowR,if_pos (.inl rfl)];rfl
  ·rw [rowR,if_neg (by decide),if_pos (.inl rfl)];rfl
 ·rw [if_neg h0]
  cases b
  ·have e1:(sideB false++32::wT t).take 6=sideB false++[32]:=rfl
   have e2:(sideB false++32::wT t).drop 5=32::wT t:=rfl
   rw [rowR,if_pos (.inr e1),e2,if_neg (by simp),List.drop_one,List.tail_cons,h]
   rfl
  ·have e0:(sideB true++32::wT t).take 6≠sideB false++[32]:=by
    intro h9
    have:=congrArg List.head? h9
    simp [sideB] at this
   have e3:sideB true++32::wT t≠sideB false:=by
    intro h9
    have:=congrArg List.head? h9
    simp [sideB] at this
   have e1:(sideB true++32::wT t).take 5=sideB true++[32]:=rfl
   have e2:(sideB true++32::wT t).drop 4=32::wT t:=rfl
   rw [rowR,if_neg (by rintro (h9 | h9);exact e3 h9;exact e0 h9),if_pos (.inr e1),e2,if_neg (by simp),List.drop_one,List.tail_cons,h]
   rfl
theorem zg3 (b:Bool):32 ∉ sideB b:=fun h=>(zdm b 32 h).2 rfl
theorem zg7 (b:Bool) (t:List UInt8):(spl 32 (sideB b++if t=[] then [] else 32::t)).getD 0 []=sideB b:=by
 by_cases h0:t=[]
 ·rw [if_pos h0,ZH,zbB (zg3 b)]
  rfl
 ·rw [if_neg h0,zaF (zg3 b)]
  rfl
theorem ziQ {at_:List UInt8→Option Int} (hat:∀k:Nat,k≤200→at_ (decD k)=some (k:Int)) {acc:List Ro} {b:Bool} {t:Tms} {r:List (List UInt8)} (h:parseT at_ (wT t)=some t) (h6:acc.length<100) :
  linesR at_ ((sideB b++if wT t=[] then [] else 32::wT t)::r) acc=linesR at_ r (acc++[⟨b,t.cells⟩]):=by
 rw [linesR,if_pos (by rw [zg7];cases b <;> decide),zlj hat h]
 simp only
 rw [if_neg (by omega)]
theorem zfU {at_:List UInt8→Option Int} {acc:List Ro} {k m:Nat} {r:List (List UInt8)} (h1:1≤k) (h2:k≤2) (h3:k≤acc.length) (h4:1≤m) (h5:m≤100) (h6:acc.length+k*m≤100) :
  linesR at_ ((agnB++decD k++32::decD m)::r) acc=linesR at_ r (copies k (k*m) acc):=by
 have hd:∀ {n:Nat},n≤200→32 ∉ decD n:=fun h h9=>(zc9 h 32 h9).2 rfl
 have e:spl 32 (agnB++decD k++32::decD m)=[agn5,decD k,decD m]:=by
  rw [show agnB++decD k++32::decD m=agn5++32::(decD k++32::decD m) by rw [ZJ];rfl,zaF (by decide),zaF (hd (by omega)),zbB (hd (by omega))]
 rw [linesR,e,if_neg (by simp),if_neg (by simp)]
 simp only [Z0,List.getD_cons_succ]
 rw [(znp (n:=k) (by omega)).2.1,(znp (n:=m) (by omega)).2.1]
 simp only
 rw [if_neg (by omega)]
def linesP (at_:List UInt8→Option Int):List (List UInt8)→List Ro→Option (List Ro)
 | [],acc=>some acc
 | s::r,acc=>(addP at_ acc s).bind fun l=>linesP at_ r l
def headOk (s:List UInt8):Prop:=(spl 32 s).getD 0 []=sideB false∨(spl 32 s).getD 0 []=sideB true∨(spl 32 s).getD 0 []=agn5
theorem zhp {at_:List UInt8→Option Int} (hat:∀k:Nat,k≤200→at_ (decD k)=some (k:Int)) {l:List Ro} (hl:l.length≤100) (hv:∀i,i<l.length→allB (l.getD i ro0).cells=true∧(l.getD i ro0).cells.length≤200) :
  ∀(f i:Nat) (T:List UInt8),i≤l.length→rowsT l f i=some T→l.length-i<f→∃ls,T=unl ls∧(∀s∈ls,∀x∈s,x≠10)∧linesR at_ ls (l.take i)=some l∧linesP at_ ls (l.take i)=some l∧∀s∈ls,headOk s:=by
 intro f
 induction f with
 | zero=>intro i T _ _ h;omega
 | succ f ih =>
  intro i T hi h hf
  rw [rowsT] at h
  split at h
  ·cases h
   exact ⟨[],rfl,fun s hs=>(by cases hs),by rw [Zz (by omega)];rfl,by rw [Zz (by omega)];rfl,fun s hs=>(by cases hs)⟩
  ·rename_i h0
   split at h
   ·rename_i h1
    obtain ⟨r,hr,rfl⟩:=ZF.1 h
    have hk:1≤(agnT l i).1∧(agnT l i).1≤2:=by unfold agnT;split <;> simp
    have hrp:(agnT l i).2=repT l i (agnT l i).1:=by unfold agnT;split <;> rfl
    obtain ⟨k,hkk⟩:∃k,(agnT l i).1=k:=⟨_,rfl⟩
    obtain ⟨m,hmm⟩:∃m,(agnT l i).2=m:=⟨_,rfl⟩
    rw [hkk] at hk hrp hr
    rw [hmm] at h1 hr hrp
    rw [hkk,hmm]
    have hkm:∀j,j<k*m→k≤i∧i+j<l.length∧l.getD (i+j) ro0=l.getD (i+j-k) ro0:=fun j hj=>zjn hi (by rw [←hrp];exact hj)
    have hp:0<k*m:=Nat.mul_pos (by omega) h1
    have hx:=hkm (k*m-1) (by omega)
    have hm1:m≤k*m:=by
     calc m=1*m:=(Nat.one_mul m).symm
      _≤k*m:=Nat.mul_le_mul_right m hk.1
    have hlt:(l.take i).length=i:=by rw [Zy];omega
    obtain ⟨ls,e1,e2,e3,e4,e5⟩:=ih (i+k*m) r (by omega) hr (by omega)
    refine ⟨(agnB++decD k++32::decD m)::ls,by rw [zbV,e1],?_,?_,?_,?_⟩
    ·intro s hs
     rcases ZG.1 hs with rfl | hs
     ·intro x hx9
      rcases Zw.1 hx9 with hx9 | hx9
      ·rcases Zw.1 hx9 with hx9 | hx9
       ·exact (show ∀x∈agnB,x≠10 by decide) x hx9
       ·exact (zc9 (by omega) x hx9).1
      ·rcases ZG.1 hx9 with rfl | hx9
       ·decide
       ·exact (zc9 (by omega) x hx9).1
     ·exact e2 s hs
    ·rw [zfU hk.1 hk.2 (by rw [hlt];omega) h1 (by omega) (by rw [hlt];omega),zb2 hk.1 (k*m) i hx.1 (by omega) (fun j hj=>(hkm j hj).2.2)]
     exact e3
    ·rw [linesP,zeJ hat hk.1 hk.2 (by rw [hlt];omega) h1 (by omega) (by rw [hlt];omega),ZA,zb2 hk.1 (k*m) i hx.1 (by omega) (fun j hj=>(hkm j hj).2.2)]
     exact e4
    ·intro s hs
     rcases ZG.1 hs with rfl | hs
     ·refine .inr (.inr ?_)
      rw [show agnB++decD k++32::decD m=agn5++32::(decD k++32::decD m) by rw [ZJ];rfl,zaF (by decide)]
      rfl
     ·exact e5 s hs
   ·obtain ⟨s,hs,h2⟩:=ZM.1 h
    obtain ⟨r,hr,rfl⟩:=ZF.1 h2
    have hii:i<l.length:=by omega
    obtain ⟨hv1,hv2⟩:=hv i hii
    obtain ⟨ht1,ht2⟩:=zcr hv1 hv2
    unfold lineT at hs
    split at hs
    ·cases hs
    ·rename_i h3
     cases hs
     have hE:ttextE (termsT (l.getD i ro0).cells)=0:=Classical.not_not.1 h3
     have hlen:(wT (termsT (l.getD i ro0).cells)).length≤3000:=by
      rw [ttextE,if_neg (fun h9=>h9 ht1)] at hE
      split at hE
      ·cases hE
      ·omega
     have hp:=(zbQ (at_:=at_) (fun k h4 h5=>hat k h5)).2 ⟨hlen,ht1,rfl⟩
     have hlt:(l.take i).length=i:=by rw [Zy];omega
     obtain ⟨ls,e1,e2,e3,e4,e5⟩:=ih (i+1) r (by omega) hr (by omega)
     refine ⟨_::ls,by rw [zbV,e1],?_,?_,?_,?_⟩
     ·intro s hs
      rcases ZG.1 hs with rfl | hs
      ·intro x hx9
       rcases Zw.1 hx9 with hx9 | hx9
       ·exact (zdm _ x hx9).1
       ·split at hx9
        ·cases hx9
        ·rcases ZG.1 hx9 with rfl | hx9
         ·decide
         ·exact zl0 _ _ (Zf _) (za5 ht1).2.2 x hx9
      ·exact e2 s hs
     ·rw [ziQ hat hp (by rw [hlt];omega),ht2]
      have e8:(⟨(l.getD i ro0).back,(l.getD i ro0).cells⟩:Ro)=l.getD i ro0:=rfl
      rw [e8,←zc0 hii]
      exact e3
     ·rw [linesP,zgs hp (by rw [hlt];omega),ht2,ZA]
      have e8:(⟨(l.getD i ro0).back,(l.getD i ro0).cells⟩:Ro)=l.getD i ro0:=rfl
      rw [e8,←zc0 hii]
      exact e4
     ·intro s hs
      rcases ZG.1 hs with rfl | hs
      ·unfold headOk
       rw [zg7]
       cases (l.getD i ro0).back
       ·exact .inl rfl
       ·exact .inr (.inl rfl)
      ·exact e5 s hs
def rdP (at_:List UInt8→Option Int) (start:Int) (s:List UInt8):Option (List Ro) :=
 if 60000<s.length then none else (readP at_ (s.length+100) [] s).bind fun l=>if rowsE start l=0∧rowsV start l=s then some l else none
theorem zg1 {start:Int} {l:List Ro} (h:rowsE start l=0):chkC start l=0∧∃T,rowsT l (l.length+1) 0=some T∧T.length≤60000∧rowsV start l=T:=by
 have h0:=h
 unfold rowsE at h
 split at h
 ·rename_i h1;exact absurd h h1
 ·rename_i h1
  refine ⟨Classical.not_not.1 h1,?_⟩
  split at h
  ·cases h
  ·rename_i T hT
   split at h
   ·cases h
   ·exact ⟨T,hT,by omega,by rw [rowsV,if_pos h0,hT];rfl⟩
theorem zdU {start:Int} {l:List Ro} (h:chkC start l=0):l.length≤100∧∀i,i<l.length→allB (l.getD i ro0).cells=true∧(l.getD i ro0).cells.length≤200:=by
 obtain ⟨h1,_,_,h4⟩:=zb1 h
 exact ⟨h1,fun i hi=>by
  have h9:=za6 (zgy h4 i hi).1
  exact ⟨h9.2.1,h9.1⟩⟩
theorem zei {at_:List UInt8→Option Int} (hat:∀k:Nat,k≤200→at_ (decD k)=some (k:Int)) {start:Int} {s:List UInt8} {l:List Ro}:rdP at_ start s=some l↔rowsE start l=0∧rowsV start l=s:=by
 constructor
 ·intro h
  unfold rdP at h
  split at h
  ·cases h
  ·obtain ⟨l',_,h2⟩:=ZM.1 h
   split at h2
   ·rename_i h3
    cases h2
    exact h3
   ·cases h2
 ·rintro ⟨h1,rfl⟩
  obtain ⟨h2,T,h3,h4,h5⟩:=zg1 h1
  obtain ⟨h6,h7⟩:=zdU h2
  rw [rdP,h5,if_neg (by omega)]
  have h8:=zjh hat h6 h7 (l.length+1) 0 T (Zu _) h3 (by omega) (T.length+100) (by omega)
  rw [List.take_zero] at h8
  rw [h8,ZA,if_pos ⟨h1,h5⟩]
end Go.Proofs.YtkneghkbgingdaaGreatDoor
