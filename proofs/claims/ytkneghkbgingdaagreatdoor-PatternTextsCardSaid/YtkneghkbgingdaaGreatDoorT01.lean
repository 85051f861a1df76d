/- The texts of terms in plain Lean: what is written, and what the program's reader reads. -/
import Derived.Test.YtkneghkbgingdaaGreatDoorT00
namespace Go.Proofs.YtkneghkbgingdaaGreatDoor
set_option maxRecDepth 100000
def isStop (c:UInt8):Bool:=c==32 || c==40 || c==41 || c==42
def untilS:List UInt8->List UInt8×List UInt8
 | []=>([],[])
 | x::l=>if isStop x then ([],x::l) else (x::(untilS l).1,(untilS l).2)
theorem zek {w r:List UInt8} (h:∀x∈w,isStop x=false) (hr:r=[]∨∃c s,r=c::s/\isStop c=true):untilS (w++r)=(w,r):=by
 induction w with
 | nil =>
  rcases hr with rfl | ⟨c,s,rfl,hc⟩
  ·rfl
  ·simp [untilS,hc]
 | cons x w ih =>
  rw [ZU,untilS,if_neg (by rw [h x (by simp)];simp),ih (fun y hy=>h y (by simp [hy]))]
def timesW (n:Int):List UInt8:=if 1<n then 42::decD n.toNat else []
def wT:Tms->List UInt8
 | .nil=>[]
 | .cons n c .nil .nil=>textL [c]++timesW n
 | .cons n c .nil r=>textL [c]++timesW n++32::wT r
 | .cons n _ g .nil=>(40::(wT g++[41]))++timesW n
 | .cons n _ g r=>(40::(wT g++[41]))++timesW n++32::wT r
def headW (c:St) (g:Tms):List UInt8:=match g with
 | .nil=>textL [c]
 | g=>40::(wT g++[41])
theorem zaX {c:St} {g:Tms} (h:g ≠ .nil):headW c g=40::(wT g++[41]):=by
 cases g with
 | nil=>exact absurd rfl h
 | cons=>rfl
theorem zcZ (n:Int) (c:St) (g:Tms):wT (.cons n c g .nil)=headW c g++timesW n:=by
 cases g <;> simp [wT,headW]
theorem zbW (n:Int) (c:St) (g r:Tms) (h:r ≠ .nil):wT (.cons n c g r)=headW c g++timesW n++32::wT r:=by
 cases g <;> cases r <;> first | exact absurd rfl h | simp [wT,headW]
def rdN (at_:List UInt8->Option Int) (c:St) (g:Tms):List UInt8->Option ((Int×St×Tms)×List UInt8)
 | 42::s=>match at_ (untilS s).1 with
  | none=>none
  | some n=>some ((n,c,g),(untilS s).2)
 | s=>some ((1,c,g),s)
mutual
def rdL (at_:List UInt8->Option Int):Nat->Nat->List UInt8->Option (Tms×List UInt8)
 | 0,_,_=>none
 | f+1,d,s=>match rdT at_ f d s with
  | none=>none
  | some ((n,c,g),32::s2)=>(rdL at_ f d s2).map fun x=>(.cons n c g x.1,x.2)
  | some ((n,c,g),s1)=>some (.cons n c g .nil,s1)
def rdT (at_:List UInt8->Option Int):Nat->Nat->List UInt8->Option ((Int×St×Tms)×List UInt8)
 | 0,_,_=>none
 | f+1,d,s=>match s with
  | 40::s1=>if 8<d+1 then none else match rdL at_ f (d+1) s1 with
   | some (g,41::s2)=>rdN at_ st0 g s2
   | _=>none
  | s=>match parseL (untilS s).1 with
   | some [c]=>rdN at_ c .nil (untilS s).2
   | _=>none
end
def cellOk (s:St):Bool:=decide (allE [s]=0) && (wordT s).all (fun x => !isStop x) && !(wordT s).isEmpty
theorem zlE:allSt.all cellOk=true:=by decide +kernel
theorem zdP (c:St):textL [c]=wordT c:=by simp [textL,grp,joinB,wordG]
theorem zbj {c:St} (h:okSt c=true):allE [c]=0/\(∀x∈textL [c],isStop x=false)/\textL [c]≠[]:=by
 have h1:=Zq.1 zlE c (zbM h)
 simp only [cellOk,Zt,ZG,Zq,Bool.not_eq_true',List.isEmpty_eq_false_iff] at h1
 rw [zdP]
 exact ⟨h1.1.1,h1.1.2,h1.2⟩
def digOk (n:Nat):Bool:=(decD n).all (fun x => !isStop x)
theorem znR:(List.range 201).all digOk=true:=by decide +kernel
theorem znf {n:Nat} (h:n<=200):∀x∈decD n,isStop x=false:=by
 have h1:=Zq.1 znR n (ZP.2 (by omega))
 simpa [digOk] using h1
def Behind (s:List UInt8):Prop:=s=[]∨∃r,s=32::r∨s=41::r
theorem Behind.stop {s:List UInt8} (h:Behind s):s=[]∨∃c r,s=c::r/\isStop c=true:=by
 rcases h with rfl | ⟨r,rfl | rfl⟩
 ·exact .inl rfl
 ·exact .inr ⟨32,r,rfl,rfl⟩
 ·exact .inr ⟨41,r,rfl,rfl⟩
theorem zof {at_:List UInt8->Option Int} {c:St} {g:Tms} {s:List UInt8} (h:Behind s):rdN at_ c g s=some ((1,c,g),s):=by
 rcases h with rfl | ⟨r,rfl | rfl⟩ <;> rfl
theorem zh4 {at_:List UInt8->Option Int} (hat:∀k:Nat,2<=k->k<=200->at_ (decD k)=some (k:Int)) {c:St} {g:Tms} {n:Int} (h1:1<=n) (h2:n<=200) {s:List UInt8} (h:Behind s):rdN at_ c g (timesW n++s)=some ((n,c,g),s):=by
 unfold timesW
 by_cases hn:1<n
 ·rw [if_pos hn,ZU,rdN,zek (znf (by omega)) h.stop]
  simp only
  rw [hat n.toNat (by omega) (by omega)]
  have e:((n.toNat:Nat):Int)=n:=by omega
  rw [e]
 ·rw [if_neg hn,List.nil_append,zof h]
  have e:n=1:=by omega
  rw [e]
theorem zji {n:Int} {s:List UInt8} (h:Behind s):timesW n++s=[]∨∃c r,timesW n++s=c::r/\isStop c=true:=by
 unfold timesW
 split
 ·exact .inr ⟨42,_,rfl,rfl⟩
 ·exact h.stop
theorem zgf {c:St} (h:okSt c=true) (s:List UInt8):∃x r,textL [c]++s=x::r/\isStop x=false:=by
 obtain ⟨_,h2,h3⟩:=zbj h
 cases e:textL [c] with
 | nil=>exact absurd e h3
 | cons x r=>exact ⟨x,r++s,rfl,h2 x (by rw [e];simp)⟩
theorem zmA (at_:List UInt8->Option Int) (f d:Nat) {x:UInt8} {r:List UInt8} (hx:isStop x=false):rdT at_ (f+1) d (x::r)=match parseL (untilS (x::r)).1 with
  | some [c]=>rdN at_ c .nil (untilS (x::r)).2
  | _=>none:=by
 have hx2:x≠40:=by rintro rfl;simp [isStop] at hx
 rw [rdT]
 intro s1 e
 cases e
 exact hx2 rfl
theorem zoi {at_:List UInt8->Option Int} (hat:∀k:Nat,2<=k->k<=200->at_ (decD k)=some (k:Int)):∀(M:Nat) (t:Tms),t.size<=M->t ≠ .nil->fineT t=true->∀(d f:Nat),t.depth+d<=8->2*t.size<=f->∀s:List UInt8,(s=[]∨∃r,s=41::r)->rdL at_ f d (wT t++s)=some (t,s):=by
 intro M
 induction M with
 | zero =>
  intro t h h0
  have:=zeS h0
  omega
 | succ M ih =>
  intro t hs h0 hf d f hd ac s hb
  cases t with
  | nil=>exact absurd rfl h0
  | cons n c g r =>
   simp only [Tms.size] at hs ac
   simp only [Tms.depth] at hd
   obtain ⟨f,rfl⟩:∃k,f=k+2:=⟨f-2,by omega⟩
   have hn:1<=n/\n<=200:=by
    by_cases hg:g = .nil
    ·subst hg
     rw [zaD] at hf
     simp only [Zt] at hf
     exact zbe hf.1.1
    ·rw [zaJ _ _ _ _ hg] at hf
     simp only [Zt] at hf
     exact zbe hf.1.1.1
   have ad:fineT r=true:=by
    by_cases hg:g = .nil
    ·subst hg
     rw [zaD] at hf
     simp only [Zt] at hf
     exact hf.2
    ·rw [zaJ _ _ _ _ hg] at hf
     simp only [Zt] at hf
     exact hf.2
   have aa:∀q:List UInt8,Behind q->rdT at_ (f+1) d (headW c g++timesW n++q)=some ((n,c,g),q):=by
    intro q hq
    by_cases hg:g = .nil
    ·subst hg
     rw [zaD] at hf
     simp only [Zt] at hf
     obtain ⟨k1,k2,k3⟩:=zbj hf.1.2
     obtain ⟨x,w,e,hx⟩:=zgf hf.1.2 (timesW n++q)
     show rdT at_ (f+1) d (textL [c]++timesW n++q)=_
     rw [ZB,e,zmA _ _ _ hx,<-e,zek k2 (zji hq)]
     simp only
     rw [zcF k1]
     exact zh4 hat hn.1 hn.2 hq
    ·rw [zaX hg]
     rw [zaJ _ _ _ _ hg] at hf
     simp only [Zt,ZG] at hf
     obtain ⟨⟨⟨_,hc⟩,ab⟩,_⟩:=hf
     have e:40::(wT g++[41])++timesW n++q=40::(wT g++(41::(timesW n++q))):=by simp
     rw [e,rdT,if_neg (by omega)]
     rw [ih g (by omega) hg ab (d+1) f (by omega) (by omega) (41::(timesW n++q)) (.inr ⟨_,rfl⟩)]
     simp only
     rw [hc]
     exact zh4 hat hn.1 hn.2 hq
   by_cases hr:r = .nil
   ·subst hr
    rw [zcZ,rdL,aa s (by rcases hb with rfl | ⟨x,rfl⟩;exact .inl rfl;exact .inr ⟨x,.inr rfl⟩)]
    rcases hb with rfl | ⟨x,rfl⟩ <;> rfl
   ·rw [zbW _ _ _ _ hr]
    have e:headW c g++timesW n++32::wT r++s=headW c g++timesW n++(32::(wT r++s)):=by simp
    rw [e,rdL,aa _ (.inr ⟨_,.inl rfl⟩)]
    simp only
    rw [ih r (by omega) hr ad d (f+1) (by omega) (by omega) s hb]
    rfl
end Go.Proofs.YtkneghkbgingdaaGreatDoor
/- Parse of terms in plain Lean: it accepts just the texts of valid lists. -/
namespace Go.Proofs.YtkneghkbgingdaaGreatDoor
set_option maxRecDepth 100000
theorem zlu:∀ {t:Tms},fineT t=true->t.size<=(wT t).length:=by
 intro t
 induction t with
 | nil=>intro _;simp [Tms.size]
 | cons n c g r ih1 ih2 =>
  intro h
  have hh:g.size+1<=(headW c g).length/\fineT r=true:=by
   by_cases hg:g = .nil
   ·subst hg
    rw [zaD] at h
    simp only [Zt] at h
    have h3:=(zbj h.1.2).2.2
    refine ⟨?_,h.2⟩
    show 0+1<=(textL [c]).length
    have:=ZM.2 h3
    omega
   ·rw [zaJ _ _ _ _ hg] at h
    simp only [Zt] at h
    refine ⟨?_,h.2⟩
    rw [zaX hg]
    have:=ih1 h.1.2
    simp only [Zk,Zb,List.length_nil]
    omega
  rw [Tms.size]
  by_cases hr:r = .nil
  ·subst hr
   rw [zcZ,Zb]
   simp only [Tms.size]
   omega
  ·rw [zbW _ _ _ _ hr,Zb,Zb,Zk]
   have:=ih2 hh.2
   omega
theorem zoB {t:Tms} (h:fineT t=true) (h0:t ≠ .nil):wT t≠[]:=by
 intro e
 have h1:=zlu h
 have h2:=zeS h0
 rw [e] at h1
 simp at h1
 omega
def readT (at_:List UInt8->Option Int) (s:List UInt8):Option Tms:=if s=[] then some .nil else match rdL at_ (2*s.length+2) 0 s with
 | some (t,[])=>some t
 | _=>none
def ttextE (t:Tms):Int:=if tchkE t≠0 then tchkE t else if 3000<(wT t).length then 4 else 0
def ttextV (t:Tms):List UInt8:=if ttextE t=0 then wT t else []
def parseT (at_:List UInt8->Option Int) (s:List UInt8):Option Tms:=if 3000<s.length then none else (readT at_ s).bind fun t=>if ttextE t=0/\ttextV t=s then some t else none
theorem zaN {t:Tms} (h:tchkE t=0):t.size<=200/\t.depth<=8/\fineT t=true:=by
 unfold tchkE at h
 split at h
 ·cases h
 ·split at h
  ·rename_i h1 h2
   exact ⟨by omega,by omega,h2⟩
  ·cases h
theorem zkO {at_:List UInt8->Option Int} (hat:∀k:Nat,2<=k->k<=200->at_ (decD k)=some (k:Int)) {t:Tms} (h:tchkE t=0):readT at_ (wT t)=some t:=by
 obtain ⟨h1,h2,h3⟩:=zaN h
 by_cases h0:t = .nil
 ·subst h0
  rfl
 ·rw [readT,if_neg (zoB h3 h0)]
  have h4:=zlu h3
  have h5:=zoi hat t.size t (Zg _) h0 h3 0 (2*(wT t).length+2) (by omega) (by omega) [] (.inl rfl)
  rw [ZC] at h5
  rw [h5]
theorem zig {t:Tms} {s:List UInt8} (hs:s.length<=3000):(ttextE t=0/\ttextV t=s)↔(tchkE t=0/\wT t=s):=by
 constructor
 ·rintro ⟨h1,h2⟩
  rw [ttextV,if_pos h1] at h2
  refine ⟨?_,h2⟩
  unfold ttextE at h1
  split at h1
  ·exact h1
  ·rename_i h3
   simpa using h3
 ·rintro ⟨h1,rfl⟩
  have h3:ttextE t=0:=by rw [ttextE,if_neg (by simpa using h1),if_neg (by omega)]
  exact ⟨h3,by rw [ttextV,if_pos h3]⟩
theorem za6 {at_:List UInt8->Option Int} (hat:∀k:Nat,2<=k->k<=200->at_ (decD k)=some (k:Int)) {s:List UInt8} {t:Tms}:parseT at_ s=some t↔s.length<=3000/\tchkE t=0/\wT t=s:=by
 constructor
 ·intro h
  unfold parseT at h
  split at h
  ·cases h
  ·rename_i hs
   obtain ⟨t',_,h3⟩:=ZO.1 h
   split at h3
   ·rename_i h4
    cases h3
    exact ⟨by omega,(zig (by omega)).1 h4⟩
   ·cases h3
 ·rintro ⟨h1,h2,rfl⟩
  rw [parseT,if_neg (by omega),zkO hat h2,Zz,if_pos ((zig h1).2 ⟨h2,rfl⟩)]
end Go.Proofs.YtkneghkbgingdaaGreatDoor
/- Written instructions,plain: the terms of a row,its line,the lines of rows. -/
namespace Go.Proofs.YtkneghkbgingdaaGreatDoor
set_option maxRecDepth 100000
def consR (c:St):Tms->Tms
 | .cons n d .nil r=>if c=d then .cons (n+1) c .nil r else .cons 1 c .nil (.cons n d .nil r)
 | t => .cons 1 c .nil t
def runsT:List St->Tms
 | [] => .nil
 | c::l=>consR c (runsT l)
def RunI:Tms->Prop
 | .nil=>True
 | .cons n _ .nil r=>1<=n/\RunI r
 | .cons _ _ _ _=>False
theorem zb5 {t:Tms} (h:RunI t):t = .nil∨∃n c r,t = .cons n c .nil r/\1<=n/\RunI r:=by
 cases t with
 | nil=>exact .inl rfl
 | cons n c g r =>
  cases g with
  | nil=>exact .inr ⟨n,c,r,rfl,h.1,h.2⟩
  | cons=>exact h.elim
theorem zlK {c:St} {t:Tms} (h:RunI t):RunI (consR c t)/\(consR c t).cells=c::t.cells/\(consR c t).size<=t.size+1/\(consR c t).depth<=1:=by
 rcases zb5 h with rfl | ⟨n,d,r,rfl,h1,h2⟩
 ·refine ⟨⟨by omega,trivial⟩,?_,?_,?_⟩ <;> simp [consR,Tms.cells,Tms.size,Tms.depth]
 ·have hr:r.depth<=1:=by
   clear h
   induction r with
   | nil=>simp [Tms.depth]
   | cons n2 c2 g2 r2 _ ih =>
    cases g2 with
    | nil=>have:=ih h2.2;simp only [Tms.depth];omega
    | cons=>exact h2.elim
  by_cases e:c=d
  ·subst e
   have e2:consR c (.cons n c .nil r) = .cons (n+1) c .nil r:=by simp [consR]
   rw [e2]
   refine ⟨⟨by omega,h2⟩,?_,by simp only [Tms.size];omega,by simp only [Tms.depth];omega⟩
   rw [zaz,zaz,show (n+1).toNat=n.toNat+1 by omega,List.replicate_succ]
   rfl
  ·have e2:consR c (.cons n d .nil r) = .cons 1 c .nil (.cons n d .nil r):=by simp [consR,e]
   rw [e2]
   refine ⟨⟨by omega,h1,h2⟩,?_,by simp only [Tms.size];omega,by simp only [Tms.depth];omega⟩
   rw [zaz]
   rfl
theorem zcq:∀l:List St,RunI (runsT l)/\(runsT l).cells=l/\(runsT l).size<=l.length/\(runsT l).depth<=1:=by
 intro l
 induction l with
 | nil=>exact ⟨trivial,rfl,Zg _,by simp [runsT,Tms.depth]⟩
 | cons c l ih =>
  obtain ⟨h1,h2,h3,h4⟩:=zlK (c:=c) ih.1
  refine ⟨h1,?_,?_,h4⟩
  ·rw [runsT,h2,ih.2.1]
  ·rw [runsT,Zk];omega
theorem zk5:∀ {t:Tms},RunI t->allB t.cells=true->t.cells.length<=200->fineT t=true:=by
 intro t
 induction t with
 | nil=>intro _ _ _;rfl
 | cons n c g r _ ih =>
  intro h ha hl
  cases g with
  | cons=>exact h.elim
  | nil =>
   rw [zaz] at ha hl
   rw [Zb,ZZ] at hl
   unfold allB at ha
   rw [List.all_append,Zt] at ha
   have hn:=h.1
   have hc:okSt c=true:=Zq.1 ha.1 c (by
    rw [List.mem_replicate]
    exact ⟨by omega,rfl⟩)
   rw [zaD,zj7 hn (by omega),hc,ih h.2 ha.2 (by omega)]
   rfl
def termsT (l:List St):Tms:=if l.length<=60 then findT l else runsT l
theorem zdf {l:List St} (ha:allB l=true) (hl:l.length<=200):tchkE (termsT l)=0/\(termsT l).cells=l:=by
 unfold termsT
 by_cases h:l.length<=60
 ·rw [if_pos h]
  exact ⟨zlW ha h,zit l⟩
 ·rw [if_neg h]
  obtain ⟨h1,h2,h3,h4⟩:=zcq l
  exact ⟨znA (by omega) (by omega) (zk5 h1 (by rw [h2];exact ha) (by rw [h2];exact hl)) (by rw [h2];exact hl),h2⟩
theorem zjd (c:St):∀(n:Nat) (l:List St),l.head?≠some c->runsT (List.replicate (n+1) c++l) = .cons ((n:Int)+1) c .nil (runsT l):=by
 intro n
 induction n with
 | zero =>
  intro l hl
  rw [show List.replicate (0+1) c++l=c::l from rfl,runsT]
  have h1:=(zcq l).1
  rcases zb5 h1 with e | ⟨m,d,r,e,h2,h3⟩
  ·rw [e];rfl
  ·have hd:c≠d:=by
    intro h4
    apply hl
    have h5:=(zcq l).2.1
    rw [e,zaz] at h5
    rw [<-h5,h4]
    obtain ⟨j,hj⟩:∃j,m.toNat=j+1:=⟨m.toNat-1,by omega⟩
    rw [hj,List.replicate_succ]
    rfl
   rw [e]
   simp [consR,hd]
 | succ n ih =>
  intro l hl
  rw [show List.replicate (n+1+1) c++l=c::(List.replicate (n+1) c++l) by rw [List.replicate_succ];rfl,runsT,ih l hl]
  simp [consR]
def sideB (b:Bool):List UInt8:=if b=true then [98,97,99,107] else [102,114,111,110,116]
def lineT (r:Ro):Option (List UInt8):=if ttextE (termsT r.cells)≠0 then none else some (sideB r.back++if wT (termsT r.cells)=[] then [] else 32::wT (termsT r.cells))
def eqRun (l:List Ro) (k:Nat):Nat->Nat->Nat
 | 0,_=>0
 | f+1,i=>if l.getD i ro0=l.getD (i-k) ro0 then eqRun l k f (i+1)+1 else 0
def repT (l:List Ro) (i k:Nat):Nat:=if i<k then 0 else eqRun l k (l.length-i) i / k
theorem zhx (l:List Ro) (k:Nat):∀f i,eqRun l k f i<=f:=by
 intro f
 induction f with
 | zero=>intro i;exact Zg _
 | succ f ih =>
  intro i
  rw [eqRun]
  split
  ·have:=ih (i+1);omega
  ·omega
theorem zlT (l:List Ro) (k:Nat):∀f i j,j<eqRun l k f i->l.getD (i+j) ro0=l.getD (i+j-k) ro0:=by
 intro f
 induction f with
 | zero=>intro i j h;rw [eqRun] at h;omega
 | succ f ih =>
  intro i j h
  rw [eqRun] at h
  split at h
  ·rename_i h0
   cases j with
   | zero=>simpa using h0
   | succ j =>
    have:=ih (i+1) j (by omega)
    rw [show i+(j+1)=i+1+j by omega]
    exact this
  ·omega
theorem znv {l:List Ro} {i k j:Nat} (hi:i<=l.length) (hj:j<k*repT l i k):k<=i/\i+j<l.length/\l.getD (i+j) ro0=l.getD (i+j-k) ro0:=by
 unfold repT at hj
 split at hj
 ·simp at hj
 ·have h1:=zhx l k (l.length-i) i
  have h2:k*(eqRun l k (l.length-i) i / k)<=eqRun l k (l.length-i) i:=Nat.mul_div_le _ _
  exact ⟨by omega,by omega,zlT l k (l.length-i) i j (by omega)⟩
def agnT (l:List Ro) (i:Nat):Nat×Nat:=if 2*repT l i 2 > repT l i 1 then (2,repT l i 2) else (1,repT l i 1)
def agnB:List UInt8:=[97,103,97,105,110,32]
def rowsT (l:List Ro):Nat->Nat->Option (List UInt8)
 | 0,_=>some []
 | f+1,i=>if l.length<=i then some []
  else if 0<(agnT l i).2 then (rowsT l f (i+(agnT l i).1*(agnT l i).2)).map fun r=>agnB++decD (agnT l i).1++32::decD (agnT l i).2++10::r
  else (lineT (l.getD i ro0)).bind fun s=>(rowsT l f (i+1)).map fun r=>s++10::r
def rowsE (s:Int) (l:List Ro):Int:=if chkC s l≠0 then chkC s l else match rowsT l (l.length+1) 0 with
 | none=>4
 | some r=>if 60000<r.length then 4 else 0
def rowsV (s:Int) (l:List Ro):List UInt8:=if rowsE s l=0 then (rowsT l (l.length+1) 0).getD [] else []
end Go.Proofs.YtkneghkbgingdaaGreatDoor
/- Written instructions,plain: what is written is read. -/
namespace Go.Proofs.YtkneghkbgingdaaGreatDoor
set_option maxRecDepth 100000
def cutA (c:UInt8):List UInt8->List UInt8×List UInt8
 | []=>([],[])
 | x::l=>if x=c then ([],l) else (x::(cutA c l).1,(cutA c l).2)
theorem zlM {c:UInt8}:∀ {s:List UInt8},(∀x∈s,x≠c)->cutA c s=(s,[]):=by
 intro s
 induction s with
 | nil=>intro _;rfl
 | cons x l ih =>
  intro h
  rw [cutA,if_neg (h x (by simp)),ih (fun y hy=>h y (by simp [hy]))]
theorem zne {c:UInt8}:∀ {s:List UInt8} {r:List UInt8},(∀x∈s,x≠c)->cutA c (s++c::r)=(s,r):=by
 intro s
 induction s with
 | nil=>intro r _;rw [List.nil_append,cutA,if_pos rfl]
 | cons x l ih =>
  intro r h
  rw [ZU,cutA,if_neg (h x (by simp)),ih (fun y hy=>h y (by simp [hy]))]
def cellN (c:St):Bool:=(wordT c).all fun x=>decide (x≠10)
theorem zjy:allSt.all cellN=true:=by decide +kernel
theorem znM {c:St} (h:okSt c=true):∀x∈textL [c],x≠10:=by
 have h1:=Zq.1 zjy c (zbM h)
 rw [zdP]
 intro x hx
 have:=Zq.1 h1 x hx
 simpa using this
def digN (n:Nat):Bool:=(decD n).all (fun x=>decide (x≠10) && decide (x≠32)) && !(decD n).isEmpty
theorem zlR:(List.range 201).all digN=true:=by decide +kernel
theorem zfq {n:Nat} (h:n<=200):∀x∈decD n,x≠10/\x≠32:=by
 have h1:=Zq.1 zlR n (ZP.2 (by omega))
 simp only [digN,Zt] at h1
 intro x hx
 have h2:=Zq.1 h1.1 x hx
 simpa using h2
theorem zif {n:Int} (h:n<=200):∀x∈timesW n,x≠10:=by
 unfold timesW
 split
 ·intro x hx
  rcases ZI.1 hx with rfl | hx
  ·decide
  ·exact (zfq (by omega) x hx).1
 ·intro x hx
  cases hx
theorem zpg:∀(M:Nat) (t:Tms),t.size<=M->fineT t=true->∀x∈wT t,x≠10:=by
 intro M
 induction M with
 | zero =>
  intro t h _ x hx
  cases t with
  | nil=>cases hx
  | cons n c g r=>simp [Tms.size] at h
 | succ M ih =>
  intro t h hf
  cases t with
  | nil=>intro x hx;cases hx
  | cons n c g r =>
   simp only [Tms.size] at h
   have hn:n<=200/\fineT g=true/\fineT r=true/\(g = .nil->okSt c=true):=by
    by_cases hg:g = .nil
    ·subst hg
     rw [zaD] at hf
     simp only [Zt] at hf
     exact ⟨(zbe hf.1.1).2,rfl,hf.2,fun _=>hf.1.2⟩
    ·rw [zaJ _ _ _ _ hg] at hf
     simp only [Zt] at hf
     exact ⟨(zbe hf.1.1.1).2,hf.1.2,hf.2,fun h9=>absurd h9 hg⟩
   have hh:∀x∈headW c g,x≠10:=by
    by_cases h0:g = .nil
    ·subst h0
     exact znM (hn.2.2.2 rfl)
    ·rw [zaX h0]
     intro x hx
     rcases ZI.1 hx with rfl | hx
     ·decide
     ·rcases ZA.1 hx with hx | hx
      ·exact ih g (by omega) hn.2.1 x hx
      ·simp at hx;subst hx;decide
   by_cases h0:r = .nil
   ·subst h0
    rw [zcZ]
    intro x hx
    rcases ZA.1 hx with hx | hx
    ·exact hh x hx
    ·exact zif hn.1 x hx
   ·rw [zbW _ _ _ _ h0]
    intro x hx
    rcases ZA.1 hx with hx | hx
    ·rcases ZA.1 hx with hx | hx
     ·exact hh x hx
     ·exact zif hn.1 x hx
    ·rcases ZI.1 hx with rfl | hx
     ·decide
     ·exact ih r (by omega) hn.2.2.1 x hx
theorem zeR (b:Bool):∀x∈sideB b,x≠10/\x≠32:=by
 cases b <;> decide
def numP (at_:List UInt8->Option Int) (s:List UInt8):Int:=match at_ s with
 | some v=>if v<0 then -1 else v
 | none => -1
def copies (k:Nat):Nat->List Ro->List Ro
 | 0,l=>l
 | n+1,l=>copies k n (l++[l.getD (l.length-k) ro0])
theorem zir (k:Nat):∀(n:Nat) (l:List Ro),(copies k n l).length=l.length+n:=by
 intro n
 induction n with
 | zero=>intro l;rfl
 | succ n ih=>intro l;rw [copies,ih,Zb];simp only [Zk,List.length_nil];omega
theorem zeY {l:List Ro} {i:Nat} (h:i<l.length):l.take (i+1)=l.take i++[l.getD i ro0]:=by
 rw [List.take_add_one,Zd h,Zc,Zd h]
 rfl
theorem zl1 {l:List Ro} {i j:Nat} (h:j<i):(l.take i).getD j ro0=l.getD j ro0:=by
 rw [Zc,List.getElem?_take,if_pos h,<-Zc]
theorem zdr {L:List Ro} {k:Nat} (hk:1<=k):∀(n i:Nat),k<=i->i+n<=L.length->(∀j,j<n->L.getD (i+j) ro0=L.getD (i+j-k) ro0)->copies k n (L.take i)=L.take (i+n):=by
 intro n
 induction n with
 | zero=>intro i _ _ _;rfl
 | succ n ih =>
  intro i h1 h2 h3
  have h4:=h3 0 (by omega)
  rw [Nat.add_zero] at h4
  rw [copies,Zx,show min i L.length=i by omega,zl1 (by omega),<-h4,<-zeY (by omega),ih (i+1) (by omega) (by omega) (fun j hj=>by
   have:=h3 (j+1) (by omega)
   rw [show i+1+j=i+(j+1) by omega]
   exact this)]
  rw [show i+1+n=i+(n+1) by omega]
def addP (at_:List UInt8->Option Int) (acc:List Ro) (s:List UInt8):Option (List Ro) :=
 if s.take 6=agnB then
  let k:=numP at_ (cutA 32 (s.drop 6)).1
  let m:=numP at_ (cutA 32 (s.drop 6)).2
  if k<1∨2<k∨(acc.length:Int)<k∨m<1∨100<m then none
  else if (acc.length:Int)+k*m<=100 then some (copies k.toNat (k*m).toNat acc) else none
 else if (cutA 32 s).1≠sideB false/\(cutA 32 s).1≠sideB true then none
 else match parseT at_ (cutA 32 s).2 with
  | none=>none
  | some t=>if acc.length<100 then some (acc++[⟨decide ((cutA 32 s).1=sideB true),t.cells⟩]) else none
theorem zkn {at_:List UInt8->Option Int} (hat:∀k:Nat,k<=200->at_ (decD k)=some (k:Int)) {k:Nat} (h:k<=200):numP at_ (decD k)=(k:Int):=by
 rw [numP,hat k h]
 simp only
 rw [if_neg (by omega)]
theorem zjo {at_:List UInt8->Option Int} (hat:∀k:Nat,k<=200->at_ (decD k)=some (k:Int)) {acc:List Ro} {k m:Nat} (h1:1<=k) (h2:k<=2) (h3:k<=acc.length) (h4:1<=m) (h5:m<=100) (h6:acc.length+k*m<=100) :
  addP at_ acc (agnB++decD k++32::decD m)=some (copies k (k*m) acc):=by
 have e1:(agnB++decD k++32::decD m).take 6=agnB:=by rw [ZB];rfl
 have e2:(agnB++decD k++32::decD m).drop 6=decD k++32::decD m:=by rw [ZB];rfl
 have e3:cutA 32 (decD k++32::decD m)=(decD k,decD m):=zne fun x hx=>(zfq (by omega) x hx).2
 have e4:((k:Int)*(m:Int))=((k*m:Nat):Int):=by rw [Int.natCast_mul]
 rw [addP,if_pos e1,e2,e3]
 simp only
 rw [zkn hat (by omega),zkn hat (by omega),if_neg (by omega),e4,if_pos (by omega),Int.toNat_natCast,Int.toNat_natCast]
theorem zlb (b:Bool) (r:List UInt8):(sideB b++r).take 6≠agnB:=by
 cases b
 ·intro h
  have:=congrArg List.head? h
  simp [sideB,agnB] at this
 ·intro h
  have:=congrArg List.head? h
  simp [sideB,agnB] at this
theorem zlx {at_:List UInt8->Option Int} {acc:List Ro} {b:Bool} {t:Tms} (h:parseT at_ (wT t)=some t) (h6:acc.length<100) :
  addP at_ acc (sideB b++if wT t=[] then [] else 32::wT t)=some (acc++[⟨b,t.cells⟩]):=by
 have e3:cutA 32 (sideB b++if wT t=[] then [] else 32::wT t)=(sideB b,wT t):=by
  by_cases h0:wT t=[]
  ·rw [if_pos h0,ZC,zlM (fun x hx=>(zeR b x hx).2),h0]
  ·rw [if_neg h0]
   exact zne fun x hx=>(zeR b x hx).2
 rw [addP,if_neg (zlb b _),e3]
 simp only
 rw [if_neg (by cases b <;> simp),h]
 simp only
 rw [if_pos h6]
 congr 3
 cases b <;> simp [sideB]
end Go.Proofs.YtkneghkbgingdaaGreatDoor
/- The other side of a stitch and of a list of stitches,in plain Lean. -/
namespace Go.Proofs.YtkneghkbgingdaaGreatDoor
set_option maxRecDepth 100000
end Go.Proofs.YtkneghkbgingdaaGreatDoor
/- The reference's Parse of stitches in plain Lean: it reads what Parse reads. -/
namespace Go.Proofs.YtkneghkbgingdaaGreatDoor
set_option maxRecDepth 100000
def numS (l:List UInt8):Option Nat :=
 if l.length=0∨4<l.length∨(1<l.length/\l.head?=some 48) then none else if l.all isDg then some (valD l) else none
def kindR (c:UInt8):Int:=if c=102 then 3 else if c=108 then 4 else if c=109 then 5 else if c=120 then 6 else if c=121 then 7 else if c=115 then 8 else if c=111 then 10 else 0
def refParts (k:Int) (p:Bool) (parts:List (List UInt8)):Option (List St) :=
 if k=6∨k=7 then
  if parts.length=2 then (numS (parts.getD 1 [])).bind fun b=>(numS (parts.getD 0 [])).bind fun a=>some [⟨k,p,a,b⟩] else none
 else if k≠0/\parts.length=1 then (numS (parts.getD 0 [])).bind fun a=>some [⟨k,p,a,0⟩] else none
def refWord:List UInt8->Option (List St)
 | []=>none
 | c::rest =>
  if c=121/\rest=[111] then some [⟨2,false,0,0⟩]
  else if 1<rest.length/\c=111/\rest.head?=some 110 then (numS rest.tail).bind fun a=>some [⟨9,false,a,0⟩]
  else if ¬(c=107∨c=112) then none
  else match rest with
   | []=>some [⟨1,decide (c=112),0,0⟩]
   | d::r=>match numS (d::r) with
    | some n=>if 1<n then some (List.replicate (min n 300) ⟨1,decide (c=112),0,0⟩) else none
    | none=>if kindR d=8 then (if r=[] then some [⟨8,decide (c=112),0,0⟩] else none) else refParts (kindR d) (decide (c=112)) (spl 47 r)
def rparseGo:List St->List (List UInt8)->Option (List St)
 | acc,[]=>some acc
 | acc,w::ws=>match refWord w with
  | none=>none
  | some l=>if 200<(acc++l).length then none else rparseGo (acc++l) ws
def rparseW (s:List UInt8):Option (List St):=if s=[] then some [] else rparseGo [] (spl 32 s)
def rparseL (s:List UInt8):Option (List St) :=
 if 3000<s.length then none else (rparseW s).bind fun l=>if allE l=0/\textL l=s then some l else none
def rwordOk (s:St):Bool:=decide (refWord (wordT s)=some [s])
theorem zk9:allSt.all rwordOk=true:=by decide +kernel
def rrunOk (n:Nat):Bool:=[false,true].all (fun p=>decide (refWord (wordG (⟨1,p,0,0⟩,n+2))=some (List.replicate (n+2) ⟨1,p,0,0⟩)))
theorem zmQ:(List.range 199).all rrunOk=true:=by decide +kernel
theorem zmE {s:St} {n:Nat} (h:okSt s=true) (h1:1<=n) (h2:n<=200) (h3:n=1∨s.k=1):refWord (wordG (s,n))=some (List.replicate n s):=by
 rcases Z0 1 n with hn | hn
 ·have hk:s.k=1:=by rcases h3 with h3 | h3 <;> first | omega | exact h3
  obtain ⟨hk1,ha,hb,hp⟩:=zml h
  rw [hk] at ha hb
  have ha:=zbe ha
  have hb:=zbe hb
  simp [fa0,fa1,fb0,fb1] at ha hb
  obtain ⟨k,p,a,b⟩:=s
  simp only at hk ha hb
  subst hk
  obtain rfl:a=0:=by omega
  obtain rfl:b=0:=by omega
  obtain ⟨m,rfl⟩:∃m,n=m+2:=⟨n-2,by omega⟩
  have h5:=Zq.1 zmQ m (ZP.2 (by omega))
  have h6:=Zq.1 h5 p (by cases p <;> simp)
  exact of_decide_eq_true h6
 ·obtain rfl:n=1:=by omega
  have h5:=Zq.1 zk9 s (zbM h)
  have e:wordG (s,1)=wordT s:=by simp [wordG]
  rw [e]
  exact of_decide_eq_true h5
theorem zdU {gs:List (St×Nat)}:∀ {acc:List St},(∀x∈gs,refWord (wordG x)=some (List.replicate x.2 x.1))->acc.length+(gs.map (·.2)).sum<=200 ->
  rparseGo acc (gs.map wordG)=some (acc++gs.flatMap (fun x=>List.replicate x.2 x.1)):=by
 induction gs with
 | nil=>intro acc _ _;simp [rparseGo]
 | cons x gs ih =>
  intro acc h hs
  have hf:=h x (by simp)
  simp only [Z6,List.sum_cons] at hs
  rw [Z6,rparseGo,hf]
  simp only
  rw [if_neg (by simp;omega)]
  rw [ih (fun y hy=>h y (by simp [hy])) (by simp;omega)]
  simp
theorem zgW {l:List St} (h:allE l=0):rparseL (textL l)=some l:=by
 have hs:=zcO h
 rw [rparseL,if_neg (by omega)]
 have hw:rparseW (textL l)=some l:=by
  rcases List.eq_nil_or_concat l with rfl | ⟨l',x,e⟩
  ·rfl
  ·have hl:l≠[]:=by rw [e];simp
   have hne:textL l≠[]:=zj9 (by simpa using zj2 hl) (fun w hw=>by
    obtain ⟨x,hx,rfl⟩:=List.mem_map.1 hw
    exact (zck h hx).long)
   obtain ⟨g1,g2,_,_⟩:=za8 h
   rw [rparseW,if_neg hne,zie h hl,zdU (fun y hy=>by
    obtain ⟨m1,m2,m3⟩:=zew hy
    have h4:=znk hy
    rw [zex] at h4
    exact zmE (Zq.1 g2 _ m1) m2 (by omega) m3) (by rw [zex];simp;omega),zdZ]
   simp
 rw [hw,Zz,if_pos ⟨h,rfl⟩]
theorem zi2 {s:List UInt8} {l:List St}:rparseL s=some l↔s.length<=3000/\allE l=0/\textL l=s:=by
 constructor
 ·intro h
  unfold rparseL at h
  split at h
  ·cases h
  ·obtain ⟨l',h1,h2⟩:=ZO.1 h
   split at h2
   ·rename_i h3
    cases h2
    exact ⟨by omega,h3⟩
   ·cases h2
 ·rintro ⟨h1,h2,rfl⟩
  exact zgW h2
theorem zfY (s:List UInt8):rparseL s=parseL s:=by
 apply Option.ext
 intro l
 rw [zi2,zcn]
theorem zlz (a b:List St):allB (a++b)=(allB a && allB b):=by simp [allB]
end Go.Proofs.YtkneghkbgingdaaGreatDoor
/- The reference's Parse of terms in plain Lean: it reads what Parse reads. -/
namespace Go.Proofs.YtkneghkbgingdaaGreatDoor
set_option maxRecDepth 100000
def endP:Int->List UInt8->List UInt8×List UInt8
 | _,[]=>([],[])
 | o,x::l =>
  let o2:=o+(if x=40 then 1 else 0)-(if x=41 then 1 else 0)
  if o2<0∨(o2=0/\x=32) then ([],x::l) else (x::(endP o2 l).1,(endP o2 l).2)
def cutD (s:List UInt8):List UInt8×List UInt8:=((s.reverse.dropWhile isDg).reverse,(s.reverse.takeWhile isDg).reverse)
mutual
def rlL:Nat->Nat->Nat->List UInt8->Option Tms
 | 0,_,_,_=>none
 | f+1,d,k,s=>match rlT f d (endP 0 s).1 with
  | none=>none
  | some (n,c,g)=>if 200<k then none else match (endP 0 s).2 with
   | []=>some (.cons n c g .nil)
   | x::s2=>if x=32 then (rlL f d (k+1) s2).map fun r => .cons n c g r else none
def rlT:Nat->Nat->List UInt8->Option (Int×St×Tms)
 | 0,_,_=>none
 | f+1,d,s =>
  if (cutD s).1≠[]/\(cutD s).2≠[]/\(cutD s).1.getLast?=some 42 then match numS (cutD s).2 with
   | none=>none
   | some n=>if n<2 then none else rlB f d (n:Int) (cutD s).1.dropLast
  else rlB f d 1 s
def rlB:Nat->Nat->Int->List UInt8->Option (Int×St×Tms)
 | 0,_,_,_=>none
 | f+1,d,n,s =>
  if 1<s.length/\s.getD 0 0=40/\s.getLast?=some 41/\0<d then
   (if (s.drop 1).dropLast=[] then none else (rlL f (d-1) 0 (s.drop 1).dropLast).map fun g=>(n,st0,g))
  else match parseL s with
   | some [c]=>some (n,c,.nil)
   | _=>none
end
def Pass (o:Int) (w:List UInt8):Prop:=∀q,endP o (w++q)=(w++(endP o q).1,(endP o q).2)
theorem Pass.app {o:Int} {a b:List UInt8} (h:Pass o a) (k:Pass o b):Pass o (a++b):=fun q=>by
 rw [ZB,h,k]
 simp
theorem Pass.nil (o:Int):Pass o []:=fun _=>rfl
theorem Pass.byte {o:Int} {x:UInt8} (h0:0<=o) (h1:x≠32) (h2:x≠40) (h3:x≠41):Pass o [x]:=fun q=>by
 show endP o (x::q)=_
 rw [endP]
 simp only [h2,h3,if_false]
 rw [if_neg (by rintro (h | h);omega;exact h1 h.2)]
 simp
theorem Pass.word {o:Int} {w:List UInt8} (h0:0<=o) (h:∀x∈w,x≠32/\x≠40/\x≠41):Pass o w:=by
 induction w with
 | nil=>exact Pass.nil o
 | cons x w ih =>
  obtain ⟨h1,h2,h3⟩:=h x (by simp)
  exact Pass.app (a:=[x]) (Pass.byte h0 h1 h2 h3) (ih fun y hy=>h y (by simp [hy]))
theorem Pass.space {o:Int} (h0:1<=o):Pass o [32]:=fun q=>by
 show endP o (32::q)=_
 rw [endP]
 simp only [show ((32:UInt8)=40)=False by simp,show ((32:UInt8)=41)=False by simp,if_false]
 rw [if_neg (by rintro (h | h) <;> omega)]
 simp
theorem Pass.grp {o:Int} {w:List UInt8} (h0:0<=o) (h:Pass (o+1) w):Pass o (40::(w++[41])):=fun q=>by
 show endP o (40::(w++[41]++q))=_
 rw [endP]
 simp only [show ((40:UInt8)=41)=False by simp,if_false,if_true]
 rw [if_neg (by rintro (h | h);omega;exact absurd h.2 (by decide)),Int.sub_zero,ZB,h]
 have e:endP (o+1) ([41]++q)=(41::(endP o q).1,(endP o q).2):=by
  show endP (o+1) (41::q)=_
  rw [endP]
  simp only [show ((41:UInt8)=40)=False by simp,if_false,if_true]
  rw [show o+1+0-1=o by omega,if_neg (by rintro (h | h);omega;exact absurd h.2 (by decide))]
 rw [e]
 simp
theorem zdO {x:UInt8} (h:isStop x=false):x≠32/\x≠40/\x≠41/\x≠42:=by
 refine ⟨?_,?_,?_,?_⟩ <;> (rintro rfl;simp [isStop] at h)
theorem zcP {n:Int} (h:n<=200) {o:Int} (h0:0<=o):Pass o (timesW n):=by
 unfold timesW
 split
 ·refine Pass.word h0 fun x hx=>?_
  rcases ZI.1 hx with rfl | hx
  ·decide
  ·obtain ⟨h1,h2,h3,_⟩:=zdO (znf (by omega) x hx)
   exact ⟨h1,h2,h3⟩
 ·exact Pass.nil o
theorem zaM {n:Int} {c:St} {g r:Tms} (h:fineT (.cons n c g r)=true):(1<=n/\n<=200)/\fineT g=true/\fineT r=true/\(g = .nil->okSt c=true)/\(g ≠ .nil->c=st0):=by
 by_cases hg:g = .nil
 ·subst hg
  rw [zaD] at h
  simp only [Zt] at h
  exact ⟨zbe h.1.1,rfl,h.2,fun _=>h.1.2,fun h9=>absurd rfl h9⟩
 ·rw [zaJ _ _ _ _ hg] at h
  simp only [Zt,ZG] at h
  exact ⟨zbe h.1.1.1,h.1.2,h.2,fun h9=>absurd h9 hg,fun _=>h.1.1.2⟩
theorem zlo:∀(M:Nat) (t:Tms),t.size<=M->fineT t=true->∀o:Int,1<=o->Pass o (wT t):=by
 intro M
 induction M with
 | zero =>
  intro t h _ o _
  cases t with
  | nil=>exact Pass.nil o
  | cons n c g r=>simp [Tms.size] at h
 | succ M ih =>
  intro t h hf o ho
  cases t with
  | nil=>exact Pass.nil o
  | cons n c g r =>
   simp only [Tms.size] at h
   obtain ⟨hn,hg,hr,hc,_⟩:=zaM hf
   have hh:Pass o (headW c g):=by
    by_cases h0:g = .nil
    ·subst h0
     refine Pass.word (w:=textL [c]) (by omega) fun x hx=>?_
     obtain ⟨h1,h2,h3,_⟩:=zdO ((zbj (hc rfl)).2.1 x hx)
     exact ⟨h1,h2,h3⟩
    ·rw [zaX h0]
     exact Pass.grp (by omega) (ih g (by omega) hg (o+1) (by omega))
   by_cases h0:r = .nil
   ·subst h0
    rw [zcZ]
    exact hh.app (zcP hn.2 (by omega))
   ·rw [zbW _ _ _ _ h0]
    exact (hh.app (zcP hn.2 (by omega))).app (Pass.app (a:=[32]) (Pass.space ho) (ih r (by omega) hr o ho))
theorem zgc {n:Int} {c:St} {g r:Tms} (hf:fineT (.cons n c g r)=true):Pass 0 (headW c g++timesW n):=by
 obtain ⟨hn,hg,hr,hc,_⟩:=zaM hf
 refine Pass.app ?_ (zcP hn.2 (by omega))
 by_cases h0:g = .nil
 ·subst h0
  refine Pass.word (w:=textL [c]) (by omega) fun x hx=>?_
  obtain ⟨h1,h2,h3,_⟩:=zdO ((zbj (hc rfl)).2.1 x hx)
  exact ⟨h1,h2,h3⟩
 ·rw [zaX h0]
  exact Pass.grp (by omega) (zlo _ g (Zg _) hg 1 (by omega))
theorem zjL (q:List UInt8):endP 0 (32::q)=([],32::q):=by
 rw [endP]
 simp
theorem zhq (s:List UInt8):(cutD s).1++(cutD s).2=s:=by
 unfold cutD
 rw [<-List.reverse_append,List.takeWhile_append_dropWhile,List.reverse_reverse]
theorem zgz {a d:List UInt8} {x:UInt8} (hx:isDg x=false) (hd:∀y∈d,isDg y=true):cutD (a++x::d)=(a++[x],d):=by
 unfold cutD
 have e:(a++x::d).reverse=d.reverse++(x::a.reverse):=by simp
 rw [e]
 have h1:(d.reverse++(x::a.reverse)).takeWhile isDg=d.reverse:=by
  rw [List.takeWhile_append_of_pos (by intro y hy;exact hd y (by simpa using hy)),List.takeWhile_cons,hx]
  simp
 have h2:(d.reverse++(x::a.reverse)).dropWhile isDg=x::a.reverse:=by
  rw [List.dropWhile_append_of_pos (by intro y hy;exact hd y (by simpa using hy)),List.dropWhile_cons,hx]
  simp
 rw [h1,h2]
 simp
def dgOk (n:Nat):Bool:=(decD n).all isDg && decide (numS (decD n)=some n) && !(decD n).isEmpty
theorem zoP:(List.range 201).all dgOk=true:=by decide +kernel
theorem znQ {n:Nat} (h:n<=200):(∀y∈decD n,isDg y=true)/\numS (decD n)=some n/\decD n≠[]:=by
 have h1:=Zq.1 zoP n (ZP.2 (by omega))
 simp only [dgOk,Zt,ZG,Zq,Bool.not_eq_true',List.isEmpty_eq_false_iff] at h1
 exact ⟨h1.1.1,h1.1.2,h1.2⟩
theorem zmJ {f d:Nat} {n:Int} {c:St} (h:okSt c=true):rlB (f+1) d n (textL [c])=some (n,c,.nil):=by
 obtain ⟨h1,h2,h3⟩:=zbj h
 obtain ⟨x,r,e,hx⟩:=zgf h []
 rw [ZC] at e
 rw [rlB,if_neg,zcF h1]
 rintro ⟨_,h9,_⟩
 rw [e,ZR] at h9
 exact (zdO hx).2.1 h9
theorem zoo {f d:Nat} {n:Int} {g:Tms} (h0:wT g≠[]) (hd:0<d) (h:rlL f (d-1) 0 (wT g)=some g):rlB (f+1) d n (40::(wT g++[41]))=some (n,st0,g):=by
 have e:((40::(wT g++[41])).drop 1).dropLast=wT g:=by simp
 have hl:(40::(wT g++[41])).getLast?=some 41:=by
  rw [List.getLast?_cons,List.getLast?_append]
  rfl
 rw [rlB,if_pos ⟨by simp,rfl,hl,hd⟩,e,if_neg h0,h]
 rfl
theorem zmK {f d:Nat} {n:Int} {c:St} {g r:Tms} (hf:fineT (.cons n c g r)=true) (hb:∀m:Int,rlB f d m (headW c g)=some (m,c,g)):rlT (f+1) d (headW c g++timesW n)=some (n,c,g):=by
 obtain ⟨hn,hg,hr,hc,_⟩:=zaM hf
 unfold timesW
 by_cases h1:1<n
 ·rw [if_pos h1]
  obtain ⟨d1,d2,d3⟩:=znQ (n:=n.toNat) (by omega)
  rw [rlT,zgz (by decide) d1,if_pos ⟨by simp,d3,by simp⟩,d2]
  simp only
  rw [if_neg (by omega),List.dropLast_concat,hb]
  have e:((n.toNat:Nat):Int)=n:=by omega
  rw [e]
 ·rw [if_neg h1,ZC]
  have e1:n=1:=by omega
  subst e1
  rw [rlT,if_neg,hb]
  rintro ⟨k1,k2,k3⟩
  by_cases h0:g = .nil
  ·subst h0
   have hm:(42:UInt8)∈textL [c]:=by
    have h9:=zhq (textL [c])
    rw [<-h9]
    exact List.mem_append_left _ (List.mem_of_getLast? k3)
   exact (zdO ((zbj (hc rfl)).2.1 42 hm)).2.2.2 rfl
  ·rw [zaX h0] at k2
   have h9:=zgz (a:=40::wT g) (d:=[]) (x:=41) (by decide) (by simp)
   rw [ZU] at h9
   rw [h9] at k2
   exact k2 rfl
theorem zfm:∀(t:Tms),t.cnt<=t.size:=by
 intro t
 induction t with
 | nil=>exact Zg _
 | cons n c g r _ ih2=>simp only [Tms.cnt,Tms.size];omega
theorem zot:∀(M:Nat) (t:Tms),M<=200->t.size<=M->t ≠ .nil->fineT t=true->∀(d f k:Nat),t.depth<=d+1->3*t.size<=f->k+t.cnt<=201->rlL f d k (wT t)=some t:=by
 intro M
 induction M with
 | zero =>
  intro t _ h h0
  have:=zeS h0
  omega
 | succ M ih =>
  intro t hM hs h0 hf d f k hd ab hk
  cases t with
  | nil=>exact absurd rfl h0
  | cons n c g r =>
   simp only [Tms.size] at hs ab
   simp only [Tms.depth] at hd
   simp only [Tms.cnt] at hk
   obtain ⟨f,rfl⟩:∃j,f=j+3:=⟨f-3,by omega⟩
   obtain ⟨hn,hg,hr,hc,aa⟩:=zaM hf
   have hT:rlT (f+2) d (headW c g++timesW n)=some (n,c,g):=by
    refine zmK hf fun m=>?_
    by_cases hg0:g = .nil
    ·subst hg0
     exact zmJ (hc rfl)
    ·rw [zaX hg0,aa hg0]
     have hgd:1<=g.depth:=by
      cases g with
      | nil=>exact absurd rfl hg0
      | cons=>simp [Tms.depth];omega
     refine zoo (zoB hg hg0) (by omega) (ih g (by omega) (by omega) hg0 hg (d-1) f 0 (by omega) (by omega) (by have:=zfm g;omega))
   by_cases hr0:r = .nil
   ·subst hr0
    have hp:=zgc hf []
    rw [ZC] at hp
    have e0:endP 0 []=([],[]):=rfl
    rw [e0,ZC] at hp
    rw [zcZ,rlL,hp,hT]
    simp only
    rw [if_neg (by omega)]
   ·have hp:=zgc hf (32::wT r)
    rw [zjL,ZC] at hp
    rw [zbW _ _ _ _ hr0,rlL,hp,hT]
    simp only
    rw [if_neg (by omega),if_pos trivial,ih r (by omega) (by omega) hr0 hr d (f+2) (k+1) (by omega) (by omega) (by omega)]
    rfl
def rparseT (s:List UInt8):Option Tms:=if 3000<s.length then none else
 (if s=[] then some Tms.nil else rlL (3*s.length+3) 8 0 s).bind fun t=>if tchkE t=0/\wT t=s then some t else none
theorem zgT {s:List UInt8} {t:Tms}:rparseT s=some t↔s.length<=3000/\tchkE t=0/\wT t=s:=by
 constructor
 ·intro h
  unfold rparseT at h
  split at h
  ·cases h
  ·obtain ⟨t',_,h3⟩:=ZO.1 h
   split at h3
   ·rename_i h4
    cases h3
    exact ⟨by omega,h4⟩
   ·cases h3
 ·rintro ⟨h1,h2,rfl⟩
  rw [rparseT,if_neg (by omega)]
  obtain ⟨g1,g2,g3⟩:=zaN h2
  by_cases h0:t = .nil
  ·subst h0
   rw [if_pos (show wT Tms.nil=[] from rfl),Zz,if_pos ⟨h2,rfl⟩]
  ·have hl:=zlu g3
   have hc:=zfm t
   rw [if_neg (zoB g3 h0),zot 200 t (Zg _) g1 h0 g3 8 _ 0 (by omega) (by omega) (by omega),Zz,if_pos ⟨h2,rfl⟩]
theorem ziZ {at_:List UInt8->Option Int} (hat:∀k:Nat,2<=k->k<=200->at_ (decD k)=some (k:Int)) (s:List UInt8):rparseT s=parseT at_ s:=by
 apply Option.ext
 intro t
 rw [zgT,za6 hat]
end Go.Proofs.YtkneghkbgingdaaGreatDoor
/- Written instructions,plain: the reference's reader;both readers accept just what is written. -/
namespace Go.Proofs.YtkneghkbgingdaaGreatDoor
set_option maxRecDepth 100000
def rowR (at_:List UInt8->Option Int) (s:List UInt8):Option Ro :=
 if s=sideB false∨s.take 6=sideB false++[32] then
  (if s.drop 5=[] then some ⟨false,[]⟩ else (parseT at_ ((s.drop 5).drop 1)).map fun t=>⟨false,t.cells⟩)
 else if s=sideB true∨s.take 5=sideB true++[32] then
  (if s.drop 4=[] then some ⟨true,[]⟩ else (parseT at_ ((s.drop 4).drop 1)).map fun t=>⟨true,t.cells⟩)
 else none
def agn5:List UInt8:=[97,103,97,105,110]
def linesR (at_:List UInt8->Option Int):List (List UInt8)->List Ro->Option (List Ro)
 | [],acc=>some acc
 | s::r,acc =>
  if (spl 32 s).getD 0 []≠agn5 then match rowR at_ s with
   | none=>none
   | some x=>if 100<=acc.length then none else linesR at_ r (acc++[x])
  else if (spl 32 s).length≠3 then none
  else match numS ((spl 32 s).getD 1 []),numS ((spl 32 s).getD 2 []) with
   | some k,some m=>if k<1∨2<k∨m<1∨100<m∨acc.length<k∨100<acc.length+k*m then none else linesR at_ r (copies k (k*m) acc)
   | _,_=>none
def unl (ls:List (List UInt8)):List UInt8:=ls.flatMap fun s=>s++[10]
theorem za5 (s:List UInt8) (ls:List (List UInt8)):unl (s::ls)=s++10::unl ls:=by simp [unl]
theorem zih:∀ {ls:List (List UInt8)},ls≠[]->unl ls=joinB 10 ls++[10]:=by
 intro ls
 induction ls with
 | nil=>intro h;exact absurd rfl h
 | cons s r ih =>
  intro _
  rw [za5]
  cases r with
  | nil=>simp [unl,joinB]
  | cons s2 r2 =>
   rw [ih (by simp)]
   simp [joinB]
def cutR (s:List UInt8):Option (List (List UInt8)):=if s=[] then some [] else if s.getLast?≠some 10 then none else some (spl 10 s.dropLast)
theorem znO {ls:List (List UInt8)} (h:∀s∈ls,∀x∈s,x≠10):cutR (unl ls)=some ls:=by
 by_cases h0:ls=[]
 ·subst h0
  rfl
 ·have e:=zih h0
  have hn:unl ls≠[]:=by rw [e];simp
  rw [cutR,if_neg hn,if_neg (by rw [e];simp),e,List.dropLast_concat,zeT h0 (fun w hw h9=>h w hw 10 h9 rfl)]
theorem ziH {at_:List UInt8->Option Int} (hat:∀k:Nat,k<=200->at_ (decD k)=some (k:Int)) {t:Tms} (h:parseT at_ []=some t):t = .nil:=by
 have h2:parseT at_ []=some .nil:=(za6 (fun k _ h5=>hat k h5)).2 ⟨by simp,by decide,rfl⟩
 rw [h] at h2
 exact Z8 h2
theorem zmM {at_:List UInt8->Option Int} (hat:∀k:Nat,k<=200->at_ (decD k)=some (k:Int)) {b:Bool} {t:Tms} (h:parseT at_ (wT t)=some t) :
  rowR at_ (sideB b++if wT t=[] then [] else 32::wT t)=some ⟨b,t.cells⟩:=by
 by_cases h0:wT t=[]
 ·rw [if_pos h0,ZC]
  rw [h0] at h
  rw [ziH hat h]
  cases b
  ·rw [rowR,if_pos (.inl rfl)];rfl
  ·rw [rowR,if_neg (by decide),if_pos (.inl rfl)];rfl
 ·rw [if_neg h0]
  cases b
  ·have e1:(sideB false++32::wT t).take 6=sideB false++[32]:=rfl
   have e2:(sideB false++32::wT t).drop 5=32::wT t:=rfl
   rw [rowR,if_pos (.inr e1),e2,if_neg (by simp),List.drop_one,List.tail_cons,h]
   rfl
  ·have e0:(sideB true++32::wT t).take 6≠sideB false++[32]:=by
    intro h9
    have:=congrArg List.head? h9
    simp [sideB] at this
   have e3:sideB true++32::wT t≠sideB false:=by
    intro h9
    have:=congrArg List.head? h9
    simp [sideB] at this
   have e1:(sideB true++32::wT t).take 5=sideB true++[32]:=rfl
   have e2:(sideB true++32::wT t).drop 4=32::wT t:=rfl
   rw [rowR,if_neg (by rintro (h9 | h9);exact e3 h9;exact e0 h9),if_pos (.inr e1),e2,if_neg (by simp),List.drop_one,List.tail_cons,h]
   rfl
theorem zh8 (b:Bool):32 ∉ sideB b:=fun h=>(zeR b 32 h).2 rfl
theorem zia (b:Bool) (t:List UInt8):(spl 32 (sideB b++if t=[] then [] else 32::t)).getD 0 []=sideB b:=by
 by_cases h0:t=[]
 ·rw [if_pos h0,ZC,zbh (zh8 b)]
  rfl
 ·rw [if_neg h0,zaw (zh8 b)]
  rfl
theorem zkf {at_:List UInt8->Option Int} (hat:∀k:Nat,k<=200->at_ (decD k)=some (k:Int)) {acc:List Ro} {b:Bool} {t:Tms} {r:List (List UInt8)} (h:parseT at_ (wT t)=some t) (h6:acc.length<100) :
  linesR at_ ((sideB b++if wT t=[] then [] else 32::wT t)::r) acc=linesR at_ r (acc++[⟨b,t.cells⟩]):=by
 rw [linesR,if_pos (by rw [zia];cases b <;> decide),zmM hat h]
 simp only
 rw [if_neg (by omega)]
theorem zgJ {at_:List UInt8->Option Int} {acc:List Ro} {k m:Nat} {r:List (List UInt8)} (h1:1<=k) (h2:k<=2) (h3:k<=acc.length) (h4:1<=m) (h5:m<=100) (h6:acc.length+k*m<=100) :
  linesR at_ ((agnB++decD k++32::decD m)::r) acc=linesR at_ r (copies k (k*m) acc):=by
 have hd:∀ {n:Nat},n<=200->32 ∉ decD n:=fun h h9=>(zfq h 32 h9).2 rfl
 have e:spl 32 (agnB++decD k++32::decD m)=[agn5,decD k,decD m]:=by
  rw [show agnB++decD k++32::decD m=agn5++32::(decD k++32::decD m) by rw [ZB];rfl,zaw (by decide),zaw (hd (by omega)),zbh (hd (by omega))]
 rw [linesR,e,if_neg (by simp),if_neg (by simp)]
 simp only [ZR,List.getD_cons_succ]
 rw [(znQ (n:=k) (by omega)).2.1,(znQ (n:=m) (by omega)).2.1]
 simp only
 rw [if_neg (by omega)]
def linesP (at_:List UInt8->Option Int):List (List UInt8)->List Ro->Option (List Ro)
 | [],acc=>some acc
 | s::r,acc=>(addP at_ acc s).bind fun l=>linesP at_ r l
def headOk (s:List UInt8):Prop:=(spl 32 s).getD 0 []=sideB false∨(spl 32 s).getD 0 []=sideB true∨(spl 32 s).getD 0 []=agn5
theorem zd1 {at_:List UInt8->Option Int} (hat:∀k:Nat,k<=200->at_ (decD k)=some (k:Int)) {l:List Ro} (hl:l.length<=100) (hv:∀i,i<l.length->allB (l.getD i ro0).cells=true/\(l.getD i ro0).cells.length<=200) :
  ∀(f i:Nat) (T:List UInt8),i<=l.length->rowsT l f i=some T->l.length-i<f->∃ls,T=unl ls/\(∀s∈ls,∀x∈s,x≠10)/\linesR at_ ls (l.take i)=some l/\linesP at_ ls (l.take i)=some l/\∀s∈ls,headOk s:=by
 intro f
 induction f with
 | zero=>intro i T _ _ h;omega
 | succ f ih =>
  intro i T hi h hf
  rw [rowsT] at h
  split at h
  ·cases h
   exact ⟨[],rfl,fun s hs=>(by cases hs),by rw [ZE (by omega)];rfl,by rw [ZE (by omega)];rfl,fun s hs=>(by cases hs)⟩
  ·rename_i h0
   split at h
   ·rename_i h1
    obtain ⟨r,hr,rfl⟩:=ZH.1 h
    have hk:1<=(agnT l i).1/\(agnT l i).1<=2:=by unfold agnT;split <;> simp
    have ae:(agnT l i).2=repT l i (agnT l i).1:=by unfold agnT;split <;> rfl
    obtain ⟨k,ag⟩:∃k,(agnT l i).1=k:=⟨_,rfl⟩
    obtain ⟨m,ah⟩:∃m,(agnT l i).2=m:=⟨_,rfl⟩
    rw [ag] at hk ae hr
    rw [ah] at h1 hr ae
    rw [ag,ah]
    have ac:∀j,j<k*m->k<=i/\i+j<l.length/\l.getD (i+j) ro0=l.getD (i+j-k) ro0:=fun j hj=>znv hi (by rw [<-ae];exact hj)
    have hp:0<k*m:=Nat.mul_pos (by omega) h1
    have hx:=ac (k*m-1) (by omega)
    have hm1:m<=k*m:=by
     calc m=1*m:=(Nat.one_mul m).symm
      _<=k*m:=Nat.mul_le_mul_right m hk.1
    have hlt:(l.take i).length=i:=by rw [Zx];omega
    obtain ⟨ls,e1,e2,e3,e4,e5⟩:=ih (i+k*m) r (by omega) hr (by omega)
    refine ⟨(agnB++decD k++32::decD m)::ls,by rw [za5,e1],?_,?_,?_,?_⟩
    ·intro s hs
     rcases ZI.1 hs with rfl | hs
     ·intro x aa
      rcases ZA.1 aa with aa | aa
      ·rcases ZA.1 aa with aa | aa
       ·exact (show ∀x∈agnB,x≠10 by decide) x aa
       ·exact (zfq (by omega) x aa).1
      ·rcases ZI.1 aa with rfl | aa
       ·decide
       ·exact (zfq (by omega) x aa).1
     ·exact e2 s hs
    ·rw [zgJ hk.1 hk.2 (by rw [hlt];omega) h1 (by omega) (by rw [hlt];omega),zdr hk.1 (k*m) i hx.1 (by omega) (fun j hj=>(ac j hj).2.2)]
     exact e3
    ·rw [linesP,zjo hat hk.1 hk.2 (by rw [hlt];omega) h1 (by omega) (by rw [hlt];omega),Zz,zdr hk.1 (k*m) i hx.1 (by omega) (fun j hj=>(ac j hj).2.2)]
     exact e4
    ·intro s hs
     rcases ZI.1 hs with rfl | hs
     ·refine .inr (.inr ?_)
      rw [show agnB++decD k++32::decD m=agn5++32::(decD k++32::decD m) by rw [ZB];rfl,zaw (by decide)]
      rfl
     ·exact e5 s hs
   ·obtain ⟨s,hs,h2⟩:=ZO.1 h
    obtain ⟨r,hr,rfl⟩:=ZH.1 h2
    have ab:i<l.length:=by omega
    obtain ⟨hv1,hv2⟩:=hv i ab
    obtain ⟨af,ai⟩:=zdf hv1 hv2
    unfold lineT at hs
    split at hs
    ·cases hs
    ·rename_i h3
     cases hs
     have hE:ttextE (termsT (l.getD i ro0).cells)=0:=Classical.not_not.1 h3
     have ad:(wT (termsT (l.getD i ro0).cells)).length<=3000:=by
      rw [ttextE,if_neg (fun h9=>h9 af)] at hE
      split at hE
      ·cases hE
      ·omega
     have hp:=(za6 (at_:=at_) (fun k h4 h5=>hat k h5)).2 ⟨ad,af,rfl⟩
     have hlt:(l.take i).length=i:=by rw [Zx];omega
     obtain ⟨ls,e1,e2,e3,e4,e5⟩:=ih (i+1) r (by omega) hr (by omega)
     refine ⟨_::ls,by rw [za5,e1],?_,?_,?_,?_⟩
     ·intro s hs
      rcases ZI.1 hs with rfl | hs
      ·intro x aa
       rcases ZA.1 aa with aa | aa
       ·exact (zeR _ x aa).1
       ·split at aa
        ·cases aa
        ·rcases ZI.1 aa with rfl | aa
         ·decide
         ·exact zpg _ _ (Zg _) (zaN af).2.2 x aa
      ·exact e2 s hs
     ·rw [zkf hat hp (by rw [hlt];omega),ai]
      have e8:(⟨(l.getD i ro0).back,(l.getD i ro0).cells⟩:Ro)=l.getD i ro0:=rfl
      rw [e8,<-zeY ab]
      exact e3
     ·rw [linesP,zlx hp (by rw [hlt];omega),ai,Zz]
      have e8:(⟨(l.getD i ro0).back,(l.getD i ro0).cells⟩:Ro)=l.getD i ro0:=rfl
      rw [e8,<-zeY ab]
      exact e4
     ·intro s hs
      rcases ZI.1 hs with rfl | hs
      ·unfold headOk
       rw [zia]
       cases (l.getD i ro0).back
       ·exact .inl rfl
       ·exact .inr (.inl rfl)
      ·exact e5 s hs
theorem zkY {start:Int} {l:List Ro} (h:rowsE start l=0):chkC start l=0/\∃T,rowsT l (l.length+1) 0=some T/\T.length<=60000/\rowsV start l=T:=by
 have h0:=h
 unfold rowsE at h
 split at h
 ·rename_i h1;exact absurd h h1
 ·rename_i h1
  refine ⟨Classical.not_not.1 h1,?_⟩
  split at h
  ·cases h
  ·rename_i T hT
   split at h
   ·cases h
   ·exact ⟨T,hT,by omega,by rw [rowsV,if_pos h0,hT];rfl⟩
theorem zc3 {start:Int} {l:List Ro} (h:chkC start l=0):l.length<=100/\∀i,i<l.length->allB (l.getD i ro0).cells=true/\(l.getD i ro0).cells.length<=200:=by
 obtain ⟨h1,_,_,h4⟩:=zdp h
 exact ⟨h1,fun i hi=>by
  have h9:=za8 (zlH h4 i hi).1
  exact ⟨h9.2.1,h9.1⟩⟩
end Go.Proofs.YtkneghkbgingdaaGreatDoor
/- Numbers in decimal,of any size that a pattern has: what is written is read. -/
namespace Go.Proofs.YtkneghkbgingdaaGreatDoor
set_option maxRecDepth 100000
theorem zjK:∀n:Nat,n<10->isDg (dg n)=true/\(dg n).toNat-48=n/\(0<n->dg n≠48):=by decide
theorem zij (l:List UInt8) (x:UInt8):valD (l++[x])=10*valD l+(x.toNat-48):=by
 unfold valD
 rw [List.foldl_append]
 rfl
theorem zlN:∀(f n:Nat),∀x∈decF f n,isDg x=true:=by
 intro f
 induction f with
 | zero=>intro n x hx;cases hx
 | succ f ih =>
  intro n x hx
  rw [decF] at hx
  split at hx
  ·rename_i h
   simp at hx
   subst hx
   exact (zjK n h).1
  ·rcases ZA.1 hx with hx | hx
   ·exact ih _ x hx
   ·simp at hx
    subst hx
    exact (zjK _ (Nat.mod_lt _ (by decide))).1
theorem zlP:∀(f n:Nat),n<10 ^ f->valD (decF f n)=n:=by
 intro f
 induction f with
 | zero=>intro n h;simp at h;subst h;rfl
 | succ f ih =>
  intro n h
  rw [decF]
  split
  ·rename_i h1
   have:=(zjK n h1).2.1
   have e:=zij [] (dg n)
   rw [List.nil_append] at e
   rw [e,this]
   show 10*0+n=n
   omega
  ·rw [zij,ih (n / 10) (by rw [Nat.pow_succ] at h;omega),(zjK (n % 10) (Nat.mod_lt _ (by decide))).2.1]
   omega
theorem zjH:∀(f k n:Nat),n<10 ^ (k+1)->(decF f n).length<=k+1:=by
 intro f
 induction f with
 | zero=>intro k n _;simp [decF]
 | succ f ih =>
  intro k n h
  rw [decF]
  split
  ·simp
  ·rename_i h1
   cases k with
   | zero=>simp at h;omega
   | succ k =>
    have:=ih k (n / 10) (by rw [Nat.pow_succ] at h;omega)
    rw [Zb]
    simp only [Zk,List.length_nil]
    omega
theorem zjG:∀(f n:Nat),0<n->n<10 ^ f->(decF f n).head?≠some 48/\decF f n≠[]:=by
 intro f
 induction f with
 | zero=>intro n h0 h;simp at h;omega
 | succ f ih =>
  intro n h0 h
  rw [decF]
  split
  ·rename_i h1
   exact ⟨fun h9=>(zjK n h1).2.2 h0 (by simpa using h9),by simp⟩
  ·obtain ⟨h2,h3⟩:=ih (n / 10) (by omega) (by rw [Nat.pow_succ] at h;omega)
   refine ⟨?_,by simp⟩
   cases hq:decF f (n / 10) with
   | nil=>exact absurd hq h3
   | cons x r =>
    rw [hq] at h2
    simpa using h2
theorem zhs {n:Nat} (h:n<10 ^ 20):valD (decD n)=n:=zlP 20 n h
theorem zes (n:Nat):∀x∈decD n,isDg x=true:=zlN 20 n
theorem zfn {n:Nat} (h:n<10000000):(decD n).length<=7:=zjH 20 6 n h
def num7 (l:List UInt8):Option Nat :=
 if l.length=0∨7<l.length∨(1<l.length/\l.head?=some 48) then none else if l.all isDg then some (valD l) else none
theorem zeF {n:Nat} (h:n<10000000):num7 (decD n)=some n:=by
 by_cases h0:n=0
 ·subst h0
  decide
 ·have h1:=zjG 20 n (by omega) (by omega)
  have h2:decD n≠[]:=h1.2
  have h3:=zfn h
  have h4:(decD n).length≠0:=fun e=>h2 (ZT e)
  rw [num7,if_neg (by rintro (h9 | h9 | h9);exact h4 h9;omega;exact h1.1 h9.2),if_pos (Zq.2 (zes n)),zhs (by omega)]
theorem zcA (n:Nat):∀x∈decD n,x≠10/\x≠32:=by
 intro x hx
 have h:=zes n x hx
 refine ⟨?_,?_⟩ <;> (rintro rfl;simp [isDg] at h)
end Go.Proofs.YtkneghkbgingdaaGreatDoor
