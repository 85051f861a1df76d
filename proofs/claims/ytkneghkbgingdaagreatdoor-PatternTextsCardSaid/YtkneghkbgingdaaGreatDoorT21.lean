/- The reference's Parse of patterns, plain: it accepts just what is written; so both read the same. -/
import Derived.Test.YtkneghkbgingdaaGreatDoorT07
set_option maxHeartbeats 16000000
namespace Go.Proofs.YtkneghkbgingdaaGreatDoor
set_option maxRecDepth 100000
def numsR:List (List UInt8)->Option (List Int)
 | []=>some []
 | w::r=>(num7 w).bind fun n=>(numsR r).map fun l=>(n:Int)::l
def hdrR (s word:List UInt8) (name:Bool) (n:Nat):Option (List UInt8×List Int) :=
 if (spl 32 s).getD 0 []≠word∨(spl 32 s).length≠(if name=true then 2 else 1)+n then none
 else (numsR ((spl 32 s).drop (if name=true then 2 else 1))).map fun l=>((spl 32 s).getD ((if name=true then 2 else 1)-1) [],l)
def secB (s:List UInt8):Bool:=decide (s.take 8=cw++[32])
def loopR (at_:List UInt8->Option Int):Nat->List (List UInt8)->PSt->Option PSt
 | _,[],p=>some p
 | 0,_::_,_=>none
 | f+1,s::r,p=>match hdrR s sw true 1,decide (p.se=[]) with
  | some (nm,n),true=>loopR at_ f r { p with st:=p.st++[⟨nm,n.getD 0 0⟩] }
  | _,_=>match hdrR s cw true 1 with
   | none=>none
   | some (nm,n)=>match linesR at_ (r.takeWhile fun x => !secB x) [] with
    | none=>none
    | some rows=>loopR at_ f (r.dropWhile fun x => !secB x) { p with se:=p.se++[⟨nm,n.getD 0 0,rows⟩] }
theorem zoU {a b:List UInt8} {n:Int} (ha:32 ∉ a) (hb:NameOk b) (h0:0<=n) (h1:n<=100000):hdrR (line3 a b n) a true 1=some (b,[n]):=by
 rw [hdrR,zct ha hb,if_neg (by simp)]
 have e:num7 (decD n.toNat)=some n.toNat:=zeF (by omega)
 have e2:((n.toNat:Nat):Int)=n:=by omega
 simp [numsR,e,e2]
theorem zoV {a b c:List UInt8} {n:Int} (ha:32 ∉ a) (hb:NameOk b) (hac:a≠c):hdrR (line3 a b n) c true 1=none:=by
 rw [hdrR,zct ha hb,if_pos (.inl (by simpa using hac))]
theorem zmS {b:List UInt8} {n:Int}:secB (line3 cw b n)=true:=by
 unfold secB line3
 exact ZW rfl
theorem zov {s:List UInt8} (h:headOk s):secB s=false:=by
 unfold secB
 refine ZF (fun h9=>?_)
 have e:s=cw++32::s.drop 8:=by
  have h8:=Z4 8 s
  rw [h9] at h8
  exact h8.symm.trans (by rw [ZB];rfl)
 unfold headOk at h
 rw [e,zaw (by decide)] at h
 rcases h with h | h | h <;> (simp only [ZR] at h;revert h;decide)
theorem zmU {ls2 ls:List (List UInt8)} (h:∀s∈ls2,headOk s) (h2:ls=[]∨∃s r,ls=s::r/\secB s=true):(ls2++ls).takeWhile (fun x => !secB x)=ls2/\(ls2++ls).dropWhile (fun x => !secB x)=ls:=by
 have h3:∀s∈ls2,(!secB s)=true:=fun s hs=>by rw [zov (h s hs)];rfl
 rw [List.takeWhile_append_of_pos h3,List.dropWhile_append_of_pos h3]
 rcases h2 with rfl | ⟨s,r,rfl,h4⟩
 ·simp
 ·simp [h4]
theorem zkh {at_:List UInt8->Option Int}:∀(st:List Stf) (ls:List (List UInt8)) (f:Nat) (p:PSt),p.se=[]->(∀x∈st,NameOk x.nm/\0<=x.g/\x.g<=100000)->st.length+ls.length<=f ->
  loopR at_ f ((st.map fun x=>line3 sw x.nm x.g)++ls) p=loopR at_ (f-st.length) ls { p with st:=p.st++st }:=by
 intro st
 induction st with
 | nil=>intro ls f p _ _ _;simp
 | cons x r ih =>
  intro ls f p hp hx hf
  obtain ⟨h1,h2,h3⟩:=hx x (by simp)
  rw [Zk] at hf
  obtain ⟨f,rfl⟩:∃j,f=j+1:=⟨f-1,by omega⟩
  rw [Z6,ZU,loopR,zoU (by decide) h1 h2 h3,ZW hp]
  simp only
  rw [ih ls f { p with st:=p.st++[⟨x.nm,([x.g]:List Int).getD 0 0⟩] } hp (fun y hy=>hx y (by simp [hy])) (by omega),Zk]
  simp
section
variable {at_:List UInt8->Option Int} (hat:∀k:Nat,k<=100000->at_ (decD k)=some (k:Int))
include hat
theorem zkg:∀(se:List Sec) (T:List UInt8),secsT se=some T->(∀x∈se,NameOk x.nm)->∃ls,T=unl ls/\(∀s∈ls,∀x∈s,x≠10)/\(ls=[]∨∃s r,ls=s::r/\secB s=true) /\
  ∀(f:Nat) (p:PSt),ls.length<=f->loopR at_ f ls p=some { p with se:=p.se++se }:=by
 intro se
 induction se with
 | nil =>
  intro T h _
  cases h
  refine ⟨[],rfl,fun s hs=>(by cases hs),.inl rfl,fun f p _=>?_⟩
  cases f <;> simp [loopR]
 | cons x r ih =>
  intro T h hx
  rw [secsT] at h
  split at h
  ·cases h
  ·rename_i h0
   have aa:rowsE x.s x.rows=0:=Classical.not_not.1 h0
   obtain ⟨t,ht,rfl⟩:=ZH.1 h
   obtain ⟨ls,e1,e2,e3,e4⟩:=ih t ht (fun y hy=>hx y (by simp [hy]))
   obtain ⟨h2,T2,h3,h4,h5⟩:=zkY aa
   obtain ⟨h6,h7⟩:=zc3 h2
   obtain ⟨_,ab,hs1,_⟩:=zdp h2
   obtain ⟨ls2,f1,f2,f3, -,f5⟩:=zd1 (at_:=at_) (fun k hk=>hat k (by omega)) h6 h7 (x.rows.length+1) 0 T2 (Zy _) h3 (by omega)
   rw [List.take_zero] at f3
   have hn:=hx x (by simp)
   obtain ⟨g1,g2⟩:=zmU f5 e3
   refine ⟨line3 cw x.nm x.s::(ls2++ls),?_,?_,.inr ⟨_,_,rfl,zmS⟩,?_⟩
   ·rw [za5,h5,f1,e1]
    simp [unl]
   ·intro s hs
    rcases ZI.1 hs with rfl | hs
    ·exact zc7 (by decide) hn
    ·rcases ZA.1 hs with hs | hs
     ·exact f2 s hs
     ·exact e2 s hs
   ·intro f p hf
    rw [Zk,Zb] at hf
    obtain ⟨f,rfl⟩:∃j,f=j+1:=⟨f-1,by omega⟩
    rw [loopR,zoV (by decide) hn (by decide),zoU (by decide) hn ab (by omega)]
    simp only
    rw [g1,f3,g2]
    simp only
    rw [e4 f _ (by omega)]
    simp
end
def patR (at_:List UInt8->Option Int) (ge:Int->Int->Int->Int->Int) (s:List UInt8):Option PSt :=
 if 60000<s.length then none else match cutR s with
  | none=>none
  | some ls=>if ls.length<3 then none else match hdrR (ls.getD 0 []) pw true 0,hdrR (ls.getD 1 []) gw false 4 with
   | some (nm,_),some (_,g)=>(loopR at_ ls.length (ls.drop 2) ⟨nm,g.getD 0 0,g.getD 1 0,g.getD 2 0,g.getD 3 0,[],[]⟩).bind fun p =>
     if patE p.nm (ge p.g1 p.g2 p.g3 p.g4) p.st p.se=0/\patX p.nm p.g1 p.g2 p.g3 p.g4 p.st p.se=some s then some p else none
   | _,_=>none
theorem zms {nm:List UInt8} {ge:Int} {st:List Stf} {se:List Sec} (h:patE nm ge st se=0):se≠[]:=by
 unfold patE at h
 split at h
 ·cases h
 ·split at h
  ·rename_i h2
   unfold fineP at h2
   simp only [Zt,ZG] at h2
   rintro rfl
   exact h2.1.1.2 rfl
  ·cases h
theorem zmr {at_:List UInt8->Option Int} (hat:∀k:Nat,k<=100000->at_ (decD k)=some (k:Int)) {ge:Int->Int->Int->Int->Int} (hge:∀a b c d,ge a b c d=0->(0<=a/\a<=100000)/\(0<=b/\b<=100000)/\(0<=c/\c<=100000)/\(0<=d/\d<=100000))
  {p:PSt} {s:List UInt8}:patR at_ ge s=some p↔s.length<=60000/\patE p.nm (ge p.g1 p.g2 p.g3 p.g4) p.st p.se=0/\patX p.nm p.g1 p.g2 p.g3 p.g4 p.st p.se=some s:=by
 constructor
 ·intro h
  unfold patR at h
  split at h
  ·cases h
  ·split at h
   ·cases h
   ·split at h
    ·cases h
    ·split at h
     ·obtain ⟨p',_,h2⟩:=ZO.1 h
      split at h2
      ·rename_i h3
       cases h2
       exact ⟨by omega,h3⟩
      ·cases h2
     ·cases h
 ·rintro ⟨h0,h1,h2⟩
  have aa:=h2
  obtain ⟨a1,a2,a3,a4⟩:=zd4 h1
  obtain ⟨b1,b2,b3,b4⟩:=hge _ _ _ _ a2
  have ac:=zms h1
  obtain ⟨t,ht,rfl⟩:=ZH.1 h2
  obtain ⟨ls,e1,e2,e3,e4⟩:=zkg hat p.se t ht a4
  have ab:ls≠[]:=by
   rintro rfl
   have h9:=e4 0 pst0 (Zg _)
   rw [loopR] at h9
   have:=congrArg (fun q=>q.map PSt.se) h9
   simp [pst0] at this
   exact ac this
  obtain ⟨L,hL⟩:∃L,(pw++32::p.nm)::gaugeL p.g1 p.g2 p.g3 p.g4::((p.st.map fun x=>line3 sw x.nm x.g)++ls)=L:=⟨_,rfl⟩
  have eL:pw++32::p.nm++10::(gaugeL p.g1 p.g2 p.g3 p.g4++10::(stufT p.st++t))=unl L:=by
   rw [<-hL,za5,za5,stufT,e1]
   simp [unl]
  have nL:∀s∈L,∀x∈s,x≠10:=by
   intro s hs
   rw [<-hL] at hs
   simp only [ZI,ZA,List.mem_map] at hs
   rcases hs with rfl | rfl | ⟨x,hx,rfl⟩ | hs
   ·exact zkm a1
   ·exact zhH _ _ _ _
   ·exact zc7 (by decide) (a3 x hx).1
   ·exact e2 s hs
  have hlen:L.length=p.st.length+ls.length+2:=by rw [<-hL];simp
  have hl0:0<ls.length:=ZM.2 ab
  have s0:hdrR (pw++32::p.nm) pw true 0=some (p.nm,[]):=by
   rw [hdrR,zaw (by decide),zbh a1.no,if_neg (by simp)]
   rfl
  have q:∀ {n:Int},0<=n->n<=100000->num7 (decD n.toNat)=some n.toNat:=fun h3 h4=>zeF (by omega)
  have s1:hdrR (gaugeL p.g1 p.g2 p.g3 p.g4) gw false 4=some (gw,[p.g1,p.g2,p.g3,p.g4]):=by
   rw [hdrR,zfv,if_neg (by simp)]
   have c1:((p.g1.toNat:Nat):Int)=p.g1:=by omega
   have c2:((p.g2.toNat:Nat):Int)=p.g2:=by omega
   have c3:((p.g3.toNat:Nat):Int)=p.g3:=by omega
   have c4:((p.g4.toNat:Nat):Int)=p.g4:=by omega
   simp [numsR,q b1.1 b1.2,q b2.1 b2.2,q b3.1 b3.2,q b4.1 b4.2,c1,c2,c3,c4]
  rw [patR,if_neg (by omega),eL,znO nL]
  simp only
  rw [if_neg (by omega),<-hL]
  simp only [ZR,List.getD_cons_succ]
  rw [s0,s1]
  simp only [ZR,List.getD_cons_succ]
  rw [show ((pw++32::p.nm)::gaugeL p.g1 p.g2 p.g3 p.g4::((p.st.map fun x=>line3 sw x.nm x.g)++ls)).drop 2=(p.st.map fun x=>line3 sw x.nm x.g)++ls from rfl,hL,
   zkh p.st ls L.length ⟨p.nm,p.g1,p.g2,p.g3,p.g4,[],[]⟩ rfl a3 (by omega),e4 _ _ (by omega),Zz]
  simp only [List.nil_append]
  rw [if_pos ⟨h1,by rw [aa,eL]⟩]
theorem zhY {at_:List UInt8->Option Int} (hat:∀k:Nat,k<=100000->at_ (decD k)=some (k:Int)) {ge:Int->Int->Int->Int->Int} (hge:∀a b c d,ge a b c d=0->(0<=a/\a<=100000)/\(0<=b/\b<=100000)/\(0<=c/\c<=100000)/\(0<=d/\d<=100000)) (s:List UInt8):patR at_ ge s=patP at_ ge s:=by
 apply Option.ext
 intro p
 rw [zmr hat hge,zhX hat hge]
end Go.Proofs.YtkneghkbgingdaaGreatDoor
/- Patterns,plain: what Text returns;one of the sections alone. -/
namespace Go.Proofs.YtkneghkbgingdaaGreatDoor
set_option maxRecDepth 100000
def ptxE (nm:List UInt8) (ge:Int) (g1 g2 g3 g4:Int) (st:List Stf) (se:List Sec):Int:=if patE nm ge st se≠0 then patE nm ge st se else match patX nm g1 g2 g3 g4 st se with
 | none=>4
 | some t=>if 60000<t.length then 4 else 0
def ptxV (nm:List UInt8) (ge:Int) (g1 g2 g3 g4:Int) (st:List Stf) (se:List Sec):List UInt8:=if ptxE nm ge g1 g2 g3 g4 st se=0 then (patX nm g1 g2 g3 g4 st se).getD [] else []
section
variable {nm:List UInt8} {ge x g1 g2 g3 g4:Int} {st:List Stf} {se:List Sec} {T:List UInt8}
theorem zkF (h:patE nm ge st se=x) (h0:x≠0):ptxE nm ge g1 g2 g3 g4 st se=x/\ptxV nm ge g1 g2 g3 g4 st se=[]:=by
 have h1:ptxE nm ge g1 g2 g3 g4 st se=x:=by rw [ptxE,h,if_pos h0]
 exact ⟨h1,by rw [ptxV,h1,if_neg h0]⟩
theorem zh1 (h:patE nm ge st se=0) (hr:patX nm g1 g2 g3 g4 st se=none):ptxE nm ge g1 g2 g3 g4 st se=4/\ptxV nm ge g1 g2 g3 g4 st se=[]:=by
 have h1:ptxE nm ge g1 g2 g3 g4 st se=4:=by rw [ptxE,h,if_neg (by simp),hr]
 exact ⟨h1,by rw [ptxV,h1,if_neg (by decide)]⟩
theorem zh0 (h:patE nm ge st se=0) (hr:patX nm g1 g2 g3 g4 st se=some T) (hT:60000<T.length):ptxE nm ge g1 g2 g3 g4 st se=4/\ptxV nm ge g1 g2 g3 g4 st se=[]:=by
 have h1:ptxE nm ge g1 g2 g3 g4 st se=4:=by rw [ptxE,h,if_neg (by simp),hr];simp only;rw [if_pos hT]
 exact ⟨h1,by rw [ptxV,h1,if_neg (by decide)]⟩
theorem zeN (h:patE nm ge st se=0) (hr:patX nm g1 g2 g3 g4 st se=some T) (hT:¬60000<T.length):ptxE nm ge g1 g2 g3 g4 st se=0/\ptxV nm ge g1 g2 g3 g4 st se=T:=by
 have h1:ptxE nm ge g1 g2 g3 g4 st se=0:=by rw [ptxE,h,if_neg (by simp),hr];simp only;rw [if_neg hT]
 exact ⟨h1,by rw [ptxV,if_pos h1,hr];rfl⟩
theorem zmz (h:ptxE nm ge g1 g2 g3 g4 st se=0):patE nm ge st se=0/\patX nm g1 g2 g3 g4 st se=some (ptxV nm ge g1 g2 g3 g4 st se)/\(ptxV nm ge g1 g2 g3 g4 st se).length<=60000:=by
 have h0:=h
 unfold ptxE at h
 split at h
 ·rename_i h1;exact absurd h h1
 ·rename_i h1
  split at h
  ·cases h
  ·rename_i t ht
   split at h
   ·cases h
   ·have e:ptxV nm ge g1 g2 g3 g4 st se=t:=by rw [ptxV,if_pos h0,ht];rfl
    rw [e]
    exact ⟨Classical.not_not.1 h1,ht,by omega⟩
theorem zeO {s:List UInt8}:(s.length<=60000/\patE nm ge st se=0/\patX nm g1 g2 g3 g4 st se=some s)↔(ptxE nm ge g1 g2 g3 g4 st se=0/\ptxV nm ge g1 g2 g3 g4 st se=s):=by
 constructor
 ·rintro ⟨h1,h2,h3⟩
  exact zeN h2 h3 (by omega)
 ·rintro ⟨h1,rfl⟩
  obtain ⟨h2,h3,h4⟩:=zmz h1
  exact ⟨h4,h2,h3⟩
end
theorem zjP {se:List Sec}:∀(n k:Nat),firstE se n k=0->∀i,k<=i->i<k+n->chkC (se.getD i sec0).s (se.getD i sec0).rows=0:=by
 intro n
 induction n with
 | zero=>intro k _ i h1 h2;omega
 | succ n ih =>
  intro k h i h1 h2
  rw [firstE] at h
  split at h
  ·rename_i h3;exact absurd h h3
  ·rename_i h3
   by_cases hk:k=i
   ·subst hk;exact Classical.not_not.1 h3
   ·exact ih (k+1) h i (by omega) (by omega)
end Go.Proofs.YtkneghkbgingdaaGreatDoor
/- The reference's Parse of patterns,plain: its steps. -/
namespace Go.Proofs.YtkneghkbgingdaaGreatDoor
set_option maxRecDepth 100000
theorem zox {α:Type} {P:α->Bool} (d:α):∀(L:List α) (i:Nat),i<=L.length->(∀j,j<i->P (L.getD j d)=true)->(i=L.length∨P (L.getD i d)=false)->L.takeWhile P=L.take i/\L.dropWhile P=L.drop i:=by
 intro L
 induction L with
 | nil=>intro i h _ _;simp at h;subst h;simp
 | cons x r ih =>
  intro i h1 h2 h3
  cases i with
  | zero =>
   have hx:P x=false:=by
    rcases h3 with h3 | h3
    ·simp at h3
    ·simpa using h3
   constructor <;> simp [hx]
  | succ i =>
   have hx:P x=true:=by simpa using h2 0 (by omega)
   obtain ⟨e1,e2⟩:=ih i (by simpa using h1) (fun j hj=>by simpa using h2 (j+1) (by omega)) (by simpa using h3)
   rw [List.takeWhile_cons,List.dropWhile_cons,if_pos hx,if_pos hx,e1,e2]
   exact ⟨rfl,rfl⟩
theorem zpE {p:Prop} (h:p:=by
 rw [Z5 hk,Zc,Zd hk]
 rfl):p:=h
theorem zdt {ls:List (List UInt8)} {k:Nat} (hk:k<ls.length):ls.drop k=ls.getD k []::ls.drop (k+1):=by
 exact zpE
def p0R (nm:List UInt8) (g:List Int):PSt:=⟨nm,g.getD 0 0,g.getD 1 0,g.getD 2 0,g.getD 3 0,[],[]⟩
section
variable {at_:List UInt8->Option Int} {ge:Int->Int->Int->Int->Int} {s:List UInt8} {ls:List (List UInt8)}
theorem zmp (h:cutR s=none):patR at_ ge s=none:=by
 unfold patR
 rw [h]
 split <;> rfl
theorem zmq (h:cutR s=some ls) (hl:ls.length<3):patR at_ ge s=none:=by
 unfold patR
 rw [h]
 simp only
 rw [if_pos hl]
 split <;> rfl
theorem zn5 (h:cutR s=some ls) (hn:hdrR (ls.getD 0 []) pw true 0=none∨hdrR (ls.getD 1 []) gw false 4=none):patR at_ ge s=none:=by
 unfold patR
 rw [h]
 simp only
 split
 ·rfl
 ·split
  ·rfl
  ·rcases hn with hn | hn
   ·rw [hn]
   ·rw [hn]
    cases hdrR (ls.getD 0 []) pw true 0 <;> rfl
theorem zkt (hs:s.length<=60000) (h:cutR s=some ls) (hl:3<=ls.length) {nm y:List UInt8} {x g:List Int} (h0:hdrR (ls.getD 0 []) pw true 0=some (nm,x)) (h1:hdrR (ls.getD 1 []) gw false 4=some (y,g)) :
  patR at_ ge s=(loopR at_ ls.length (ls.drop 2) (p0R nm g)).bind fun p=>if ptxE p.nm (ge p.g1 p.g2 p.g3 p.g4) p.g1 p.g2 p.g3 p.g4 p.st p.se=0/\ptxV p.nm (ge p.g1 p.g2 p.g3 p.g4) p.g1 p.g2 p.g3 p.g4 p.st p.se=s then some p else none:=by
 unfold patR
 rw [h,if_neg (by omega)]
 simp only
 rw [if_neg (by omega),h0,h1]
 simp only
 show (loopR at_ ls.length (ls.drop 2) (p0R nm g)).bind _=_
 cases loopR at_ ls.length (ls.drop 2) (p0R nm g) with
 | none=>rfl
 | some p =>
  simp only [Zz]
  by_cases h1:ptxE p.nm (ge p.g1 p.g2 p.g3 p.g4) p.g1 p.g2 p.g3 p.g4 p.st p.se=0/\ptxV p.nm (ge p.g1 p.g2 p.g3 p.g4) p.g1 p.g2 p.g3 p.g4 p.st p.se=s
  ·rw [if_pos h1,if_pos (zeO.2 h1).2]
  ·rw [if_neg h1,if_neg (fun h2=>h1 (zeO.1 ⟨hs,h2⟩))]
def LP (at_:List UInt8->Option Int) (ls:List (List UInt8)) (p0:PSt) (k:Nat) (p:PSt):Prop:=∃f,ls.length-k<=f/\loopR at_ f (ls.drop k) p=loopR at_ ls.length (ls.drop 2) p0
variable {p0 p:PSt} {k:Nat}
theorem LP.start:LP at_ ls p0 2 p0:=⟨ls.length,by omega,rfl⟩
theorem LP.fin (h:LP at_ ls p0 k p) (hk:ls.length<=k):loopR at_ ls.length (ls.drop 2) p0=some p:=by
 obtain ⟨f, -,h2⟩:=h
 rw [<-h2,Z3 hk]
 cases f <;> rfl
theorem LP.stuff (h:LP at_ ls p0 k p) (hk:k<ls.length) {nm:List UInt8} {n:List Int} (hh:hdrR (ls.getD k []) sw true 1=some (nm,n)) (hp:p.se=[]):LP at_ ls p0 (k+1) { p with st:=p.st++[⟨nm,n.getD 0 0⟩] }:=by
 obtain ⟨f,h1,h2⟩:=h
 obtain ⟨f,rfl⟩:∃j,f=j+1:=⟨f-1,by omega⟩
 refine ⟨f,by omega,?_⟩
 rw [<-h2,zdt hk,loopR,hh,ZW hp]
theorem zhR {f:Nat} {r:List (List UInt8)} (hn:hdrR s sw true 1=none∨p.se≠[]):loopR at_ (f+1) (s::r) p=match hdrR s cw true 1 with
   | none=>none
   | some (nm,n)=>match linesR at_ (r.takeWhile fun x => !secB x) [] with
    | none=>none
    | some rows=>loopR at_ f (r.dropWhile fun x => !secB x) { p with se:=p.se++[⟨nm,n.getD 0 0,rows⟩] }:=by
 rw [loopR]
 rcases hn with hn | hn
 ·first
   | (rw [hn];done)
   | (rw [hn];cases decide (p.se=[]) <;> rfl)
 ·rw [ZF hn]
  cases hdrR s sw true 1 with
  | none=>rfl
  | some v=>cases v;rfl
theorem LP.bad (h:LP at_ ls p0 k p) (hk:k<ls.length) (hn:hdrR (ls.getD k []) sw true 1=none∨p.se≠[]) (h2:hdrR (ls.getD k []) cw true 1=none):loopR at_ ls.length (ls.drop 2) p0=none:=by
 obtain ⟨f,h1,h3⟩:=h
 obtain ⟨f,rfl⟩:∃j,f=j+1:=⟨f-1,by omega⟩
 rw [<-h3,zdt hk,zhR hn,h2]
theorem LP.lines (h:LP at_ ls p0 k p) (hk:k<ls.length) (hn:hdrR (ls.getD k []) sw true 1=none∨p.se≠[]) {nm:List UInt8} {n:List Int} (h2:hdrR (ls.getD k []) cw true 1=some (nm,n)) {m:Nat} (hm:k+1<=m) (hm2:m<=ls.length)
  (hz:∀j,k+1<=j->j<m->secB (ls.getD j [])=false) (he:m=ls.length∨secB (ls.getD m [])=true) :
  (linesR at_ ((ls.drop (k+1)).take (m-(k+1))) []=none->loopR at_ ls.length (ls.drop 2) p0=none)/\∀rows,linesR at_ ((ls.drop (k+1)).take (m-(k+1))) []=some rows->LP at_ ls p0 m { p with se:=p.se++[⟨nm,n.getD 0 0,rows⟩] }:=by
 obtain ⟨f,h1,h3⟩:=h
 obtain ⟨f,rfl⟩:∃j,f=j+1:=⟨f-1,by omega⟩
 have hg:∀j,(ls.drop (k+1)).getD j []=ls.getD (k+1+j) []:=fun j=>by
  rw [Zc,ZV,Zc]
 obtain ⟨e1,e2⟩:=zox (P:=fun x => !secB x) [] (ls.drop (k+1)) (m-(k+1)) (by rw [Zu];omega) (fun j hj=>by
   rw [hg,hz _ (by omega) (by omega)];rfl) (by
   rcases he with he | he
   ·left;rw [Zu];omega
   ·right;rw [hg,show k+1+(m-(k+1))=m by omega,he];rfl)
 rw [List.drop_drop,show k+1+(m-(k+1))=m by omega] at e2
 rw [zdt hk,zhR hn,h2] at h3
 simp only at h3
 rw [e1,e2] at h3
 refine ⟨fun h4=>?_,fun rows h4=>⟨f,by omega,?_⟩⟩
 ·rw [h4] at h3
  exact h3.symm
 ·rw [h4] at h3
  exact h3
end
def PBR (k:Nat) (p:PSt):Prop:=p.st.length+p.se.length<=k/\p.nm.length<=10000/\(∀x∈p.st,x.nm.length<=10000)/\∀x∈p.se,x.nm.length<=10000/\x.rows.length<=100
theorem PBR.start {nm:List UInt8} {g:List Int} (h:nm.length<=10000):PBR 2 (p0R nm g):=⟨by simp [p0R],h,(fun x hx=>by cases hx),fun x hx=>by cases hx⟩
theorem PBR.stuff {k:Nat} {p:PSt} (h:PBR k p) {nm:List UInt8} {n:Int} (hn:nm.length<=10000):PBR (k+1) { p with st:=p.st++[⟨nm,n⟩] }:=by
 obtain ⟨h1,h2,h3,h4⟩:=h
 refine ⟨by simp;omega,h2,fun x hx=>?_,h4⟩
 rcases ZA.1 hx with hx | hx
 ·exact h3 x hx
 ·rw [ZY] at hx
  rw [hx]
  exact hn
theorem PBR.sec {k m:Nat} {p:PSt} (h:PBR k p) (hm:k+1<=m) {nm:List UInt8} {n:Int} {rows:List Ro} (hn:nm.length<=10000) (hr:rows.length<=100):PBR m { p with se:=p.se++[⟨nm,n,rows⟩] }:=by
 obtain ⟨h1,h2,h3,h4⟩:=h
 refine ⟨by simp;omega,h2,h3,fun x hx=>?_⟩
 rcases ZA.1 hx with hx | hx
 ·exact h4 x hx
 ·rw [ZY] at hx
  rw [hx]
  exact ⟨hn,hr⟩
end Go.Proofs.YtkneghkbgingdaaGreatDoor
/- The reference's Cut,Number and kind. -/
namespace Go.Proofs.YtkneghkbgingdaaGreatDoor
set_option maxRecDepth 100000
open Go.RowKit
theorem zg4 (l:List UInt8) (f k:Nat):(⟨l.toArray⟩:ByteArray).extract f k=⟨((l.drop f).take (k-f)).toArray⟩:=by
 apply ByteArray.ext
 apply Array.toList_inj.1
 rw [Lib.extract_data]
theorem zmV {c:UInt8} {l:List UInt8} {f:Nat} (h:c ∉ (l.drop f).take (l.length-f)):spl c (l.drop f)=[(l.drop f).take (l.length-f)]:=by
 have e:(l.drop f).take (l.length-f)=l.drop f:=ZE (by simp)
 rw [e] at h ⊢
 exact zbh h
theorem zpe {c:UInt8} {l:List UInt8} {f k:Nat} (hf:f<=k) (hk:k<l.length) (h:c ∉ (l.drop f).take (k-f)) (hc:l.getD k 0=c):spl c (l.drop f)=(l.drop f).take (k-f)::spl c (l.drop (k+1)):=by
 have e:l.drop f=(l.drop f).take (k-f)++c::l.drop (k+1):=by
  conv=>lhs;rw [<-Z4 (k-f) (l.drop f)]
  rw [List.drop_drop,show f+(k-f)=k by omega,Z5 hk]
  rw [Zc,Zd hk] at hc
  have hc:l[k]=c:=hc
  rw [hc]
 conv=>lhs;rw [e]
 rw [zaw h]
theorem zlk {c:UInt8} {l:List UInt8} {f k:Nat} (hf:f<=k) (hk:k<l.length) (h:c ∉ (l.drop f).take (k-f)) (hc:¬l.getD k 0=c):c ∉ (l.drop f).take (k+1-f):=by
 rw [show k+1-f=(k-f)+1 by omega,List.take_add_one]
 intro h9
 rcases ZA.1 h9 with h9 | h9
 ·exact h h9
 ·rw [ZV,show f+(k-f)=k by omega,Zd hk] at h9
  apply hc
  rw [Zc,Zd hk]
  simp at h9
  exact h9.symm
structure CutAt (c:UInt8) (l:List UInt8) (k f:Nat) (ws:List (List UInt8)):Prop where
 mid:k<=l.length->f<=k/\ws++spl c (l.drop f)=spl c l/\c ∉ (l.drop f).take (k-f)
 fin:k=l.length+1->ws=spl c l
theorem zbL (c:UInt8) (l:List UInt8) (hl:l.length<=100000) (w:World) :
  Calls Tryz.prog 31 #[.string ⟨l.toArray⟩,.int .u8 (c.toNat:Int)] w fun e w'=>∃v,e = .returned v/\OwnV shStr w' w.heap.size 9 v (spl c l).length (spl c l)/\Ext w w':=by
 have hx:=fun f k=>zg4 l f k
 go_enter Tryz.func31,Tryz.ntmps31
 go_wp2_with fail
 go_loopw [5,6,7] (fun u i j wr=>∃(V:Value) (f k m:Nat) (ws:List (List UInt8)),V=u/\i = .int .i64 f/\j = .int .i64 k/\k<=l.length+1/\f<=k/\m<=k/\Hid (OwnV shStr wr w.heap.size 9 V m ws)/\Hid (CutAt c l k f ws)/\Hid (Ext w wr)) (fun _ _ j _=>l.length+1-(intOf j).toNat)
 case atStart=>exact ⟨_,0,0,0,[],rfl,rfl,rfl,by omega,by omega,by omega,Za (OwnV.nil _ _ _ _),Za ⟨fun _=>⟨by omega,rfl,by simp⟩,fun h=>by omega⟩,Za (Zf _)⟩
 case round =>
  obtain ⟨V,f,k,m,ws,rfl,rfl,rfl,hk,hfk,hmk,HV,HC,HE⟩:=hrel
  have q0:(0:Int)<=(f:Int):=by omega
  have q1:(f:Int)<=(k:Int):=by omega
  have q9:(0:Int)<=(k:Int):=by omega
  by_cases h1:k=l.length+1
  ·subst h1
   have HF:=Za (HC.out.fin rfl)
   obtain rfl:m=ws.length:=(OwnV.len HV.out).symm
   have hno:¬((l.length:Int)+1<=(l.length:Int)):=by omega
   go_wp2_with fail
   go_ret
   exact ⟨V,rfl,by rw [<-HF.out];exact HV.out,HE.out⟩
  ·obtain ⟨hf,hm,hn⟩:=HC.out.mid (by omega)
   have q2:(k:Int)<=(l.length:Int):=by omega
   by_cases h2:k=l.length
   ·subst h2
    have HL:=Za (zmV hn)
    rw [HL.out] at hm
    have HM:=Za hm
    clear hm hn HC HL hf
    go_wp2_with (at_builtin;(refine zab (S:=shStr) (w:=w) (m:=1) (xs:=[(l.drop f).take (l.length-f)]) 67 9 (.string ⟨#[]⟩) 16 (by rfl) (by rfl) Tryz.underlying67 zbC (by rfl) (by omega) (by rfl) (by rfl) (OwnV.ext HV.out (by repeat (first | exact Zf _ | refine Zp ?_ _))) (HE.out.trans (by repeat (first | exact Zf _ | refine Zp ?_ _))) (Vec.lit2 (by simp) rfl rfl) (by omega) ?_;intro v' w6 aa ab ac))
    have HN:=Za aa
    clear aa ac
    go_roundw
    case rel=>exact ⟨v',l.length+1,l.length+1,m+1,_,rfl,by go_num,by go_num,by omega,by omega,by omega,HN,Za ⟨fun h=>by omega,fun _=>HM.out⟩,ab⟩
    case measure=>simp [intOf] <;> omega
   ·have q3:(k:Int)<(l.length:Int):=by omega
    have h5:=zam l k
    have q7:((k:Int)==(l.length:Int))=false:=by rw [Ze];omega
    by_cases hc:l.getD k 0=c
    ·have HL:=Za (zpe hf (by omega) hn hc)
     rw [HL.out] at hm
     have HM:=Za hm
     rw [hc] at h5
     clear hm hn HC HL hf hc
     go_wp2_with (at_builtin;(refine zab (S:=shStr) (w:=w) (m:=1) (xs:=[(l.drop f).take (k-f)]) 67 9 (.string ⟨#[]⟩) 16 (by rfl) (by rfl) Tryz.underlying67 zbC (by rfl) (by omega) (by rfl) (by rfl) (OwnV.ext HV.out (by repeat (first | exact Zf _ | refine Zp ?_ _))) (HE.out.trans (by repeat (first | exact Zf _ | refine Zp ?_ _))) (Vec.lit2 (by simp) rfl rfl) (by omega) ?_;intro v' w6 aa ab ac))
     have HN:=Za aa
     clear aa ac
     go_roundw
     case rel=>exact ⟨v',k+1,k+1,m+1,_,rfl,by go_num,by go_num,by omega,by omega,by omega,HN,Za ⟨fun h=>⟨by omega,by rw [ZB];exact HM.out,by simp⟩,fun h=>by omega⟩,ab⟩
     case measure=>simp [intOf] <;> omega
    ·have hne:(((l.getD k 0).toNat:Int)==(c.toNat:Int))=false:=by rw [Ze];exact fun h=>hc (ZQ.1 (by omega))
     have HN:=Za (zlk hf (by omega) hn hc)
     have HM:=Za hm
     generalize l.getD k 0=d at *
     clear hm hn HC hc
     go_wp2_with fail
     go_roundw
     case rel=>exact ⟨V,f,k+1,m,ws,rfl,rfl,by go_num,by omega,by omega,by omega,HV,Za ⟨fun h=>⟨by omega,HM.out,HN.out⟩,fun h=>by omega⟩,HE⟩
     case measure=>simp [intOf] <;> omega
end Go.Proofs.YtkneghkbgingdaaGreatDoor
/- The reference's Number and kind. -/
namespace Go.Proofs.YtkneghkbgingdaaGreatDoor
set_option maxRecDepth 100000
open Go.RowKit
theorem zdQ {l:List UInt8} {k:Nat} (hk:k<l.length):valD (l.take (k+1))=10*valD (l.take k)+((l.getD k 0).toNat-48):=by
 rw [List.take_add_one,Zd hk,Zc,Zd hk]
 unfold valD
 rw [List.foldl_append]
 rfl
theorem zen {l:List UInt8} {k:Nat} (hk:k<l.length):(l.take (k+1)).all isDg=((l.take k).all isDg && isDg (l.getD k 0)):=by
 rw [List.take_add_one,Zd hk,Zc,Zd hk]
 rw [List.all_append,show (some l[k]).toList=[l[k]] from rfl,List.all_cons,List.all_nil,Bool.and_true]
 rfl
theorem zgr {l:List UInt8} {k:Nat} (hk:k<l.length) (h:isDg (l.getD k 0)=false):l.all isDg=false:=by
 rw [Bool.eq_false_iff]
 intro h9
 rw [Zc,Zd hk] at h
 have:=Zq.1 h9 l[k] (List.getElem_mem _)
 rw [show (some l[k]).getD 0=l[k] from rfl] at h
 rw [h] at this
 cases this
def numN (l:List UInt8):Int:=(((numS l).getD 0:Nat):Int)
def NumR (l:List UInt8) (w:World) (e:Ending) (w':World):Prop:=e = .returned (.tuple #[.int .i64 (numN l),.bool (numS l).isSome])/\Ext w w'
theorem zdB {l:List UInt8} {w w':World} (h:numS l=none) (hb:Ext w w'):NumR l w (.returned (.tuple #[.int .i64 0,.bool false])) w':=by
 refine ⟨?_,hb⟩
 unfold numN
 rw [h]
 rfl
theorem zko {l:List UInt8} {n:Nat} {w w':World} (h:numS l=some n) (hb:Ext w w'):NumR l w (.returned (.tuple #[.int .i64 (n:Int),.bool true])) w':=by
 refine ⟨?_,hb⟩
 unfold numN
 rw [h]
 rfl
theorem zae (l:List UInt8) (hl:l.length<=100000) (w:World):Calls Tryz.prog 83 #[.string ⟨l.toArray⟩] w (NumR l w):=by
 by_cases h0:l.length=0
 ·have HN:=Za (show numS l=none by rw [numS,if_pos (.inl h0)])
  have q:(l.length:Int)=0:=by omega
  go_enter Tryz.func83,Tryz.ntmps83
  go_wp2_with fail
  go_ret2
  exact zdB HN.out (Zf _)
 by_cases h4:4<l.length
 ·have HN:=Za (show numS l=none by rw [numS,if_pos (.inr (.inl h4))])
  have q:(4:Int)<(l.length:Int):=by omega
  have q0:¬((l.length:Int)=0):=by omega
  go_enter Tryz.func83,Tryz.ntmps83
  go_wp2_with fail
  go_ret2
  exact zdB HN.out (Zf _)
 have p0:¬((l.length:Int)=0):=by omega
 have p4:¬((4:Int)<(l.length:Int)):=by omega
 have ae:=zam l 0
 by_cases h1:1<l.length
 ·have p1:(1:Int)<(l.length:Int):=by omega
  by_cases hz:l.getD 0 0=48
  ·have hh:l.head?=some 48:=by
    rw [List.head?_eq_getElem?,Zd (by omega)]
    rw [Zc,Zd (by omega)] at hz
    exact congrArg some hz
   have HN:=Za (show numS l=none by rw [numS,if_pos (.inr (.inr ⟨h1,hh⟩))])
   clear hh
   rw [hz] at ae
   clear hz
   go_enter Tryz.func83,Tryz.ntmps83
   go_wp2_with fail
   go_ret2
   exact zdB HN.out (Zf _)
  ·have ab:¬(l.length=0∨4<l.length∨(1<l.length/\l.head?=some 48)):=by
    rintro (h | h | ⟨-,h⟩)
    ·omega
    ·omega
    ·apply hz
     rw [List.head?_eq_getElem?,Zd (by omega)] at h
     rw [Zc,Zd (by omega)]
     exact Z8 h
   have aa:=Za (fun (h:l.all isDg=true)=>(show numS l=some (valD l) by rw [numS,if_neg ab,if_pos h]))
   have HNO:=Za (fun (h:l.all isDg=false)=>(show numS l=none by rw [numS,if_neg ab,if_neg (by rw [h];simp)]))
   have hne:(((l.getD 0 0).toNat:Int)==48)=false:=by
    rw [Ze]
    intro h
    exact hz (ZQ.1 (by rw [show (48:UInt8).toNat=48 from rfl];omega))
   clear ab hz
   generalize l.getD 0 0=z0 at *
   go_enter Tryz.func83,Tryz.ntmps83
   go_wp2_with fail
   go_loopw [4,5] (fun x i wr=>∃k:Nat,x = .int .i64 (valD (l.take k):Int)/\i = .int .i64 k/\k<=l.length/\Hid ((l.take k).all isDg=true)/\Hid (Ext w wr)) (fun _ i _=>l.length-(intOf i).toNat)
   case atStart=>exact ⟨0,rfl,rfl,by omega,Za rfl,Za (Zf _)⟩
   case round =>
    obtain ⟨k,rfl,rfl,hk,HA,HE⟩:=hrel
    have af:=zcQ HA.out (by rw [Zx];omega)
    have q0:(0:Int)<=(k:Int):=by omega
    by_cases h1:k<l.length
    ·have q1:(k:Int)<(l.length:Int):=by omega
     have h5:=zam l k
     by_cases hd:isDg (l.getD k 0)=true
     ·have hv:=zdQ h1
      have ha:=zen h1
      rw [HA.out,hd] at ha
      have ac:=Za ha
      obtain ⟨d1,d2⟩:=zds hd
      have HV:=Za hv
      generalize l.getD k 0=d at *
      generalize valD (l.take k)=V at *
      clear hv ha hd
      have e1:((d.toNat:Int)<48)=False:=by simp <;> omega
      have e2:((57:Int)<(d.toNat:Int))=False:=by simp <;> omega
      have i1:=Zh (10*(V:Int)) ⟨by omega,by omega⟩
      have i2:=Zh (10*(V:Int)+((d.toNat:Int)-48)) ⟨by omega,by omega⟩
      have i3:IntKind.u8.wrap ((d.toNat:Int)-48)=(d.toNat:Int)-48:=by rw [IntKind.wrap_u8];omega
      have i4:=Zh ((d.toNat:Int)-48) ⟨by omega,by omega⟩
      go_wp2_with fail
      go_roundw
      case rel=>exact ⟨k+1,by rw [HV.out];congr 1;omega,by go_num,by omega,ac,HE⟩
      case measure=>simp [intOf] <;> omega
     ·have hd:isDg (l.getD k 0)=false:=by simpa using hd
      have HN:=Za (HNO.out (zgr h1 hd))
      have ad:((l.getD k 0).toNat:Int)<48∨(57:Int)<((l.getD k 0).toNat:Int):=by
       rw [isDg,Bool.and_eq_false_iff,ZX,ZX,UInt8.le_iff_toNat_le,UInt8.le_iff_toNat_le] at hd
       have e48:(48:UInt8).toNat=48:=rfl
       have e57:(57:UInt8).toNat=57:=rfl
       omega
      generalize l.getD k 0=d at *
      clear hd
      rcases ad with e1 | e1
      ·go_wp2_with fail
       go_ret2
       exact zdB HN.out HE.out
      ·have e2:¬((d.toNat:Int)<48):=by omega
       go_wp2_with fail
       go_ret2
       exact zdB HN.out HE.out
    ·obtain rfl:k=l.length:=by omega
     have e9:l.take l.length=l:=ZE (Zg _)
     rw [e9] at HA ⊢
     have HY:=Za (aa.out HA.out)
     go_wp2_with fail
     go_ret2
     exact zko HY.out HE.out
 ·have p1:¬((1:Int)<(l.length:Int)):=by omega
  have ab:¬(l.length=0∨4<l.length∨(1<l.length/\l.head?=some 48)):=by
   rintro (h | h | ⟨h, -⟩) <;> omega
  have aa:=Za (fun (h:l.all isDg=true)=>(show numS l=some (valD l) by rw [numS,if_neg ab,if_pos h]))
  have HNO:=Za (fun (h:l.all isDg=false)=>(show numS l=none by rw [numS,if_neg ab,if_neg (by rw [h];simp)]))
  clear ab ae
  go_enter Tryz.func83,Tryz.ntmps83
  go_wp2_with fail
  go_loopw [4,5] (fun x i wr=>∃k:Nat,x = .int .i64 (valD (l.take k):Int)/\i = .int .i64 k/\k<=l.length/\Hid ((l.take k).all isDg=true)/\Hid (Ext w wr)) (fun _ i _=>l.length-(intOf i).toNat)
  case atStart=>exact ⟨0,rfl,rfl,by omega,Za rfl,Za (Zf _)⟩
  case round =>
   obtain ⟨k,rfl,rfl,hk,HA,HE⟩:=hrel
   have af:=zcQ HA.out (by rw [Zx];omega)
   have q0:(0:Int)<=(k:Int):=by omega
   by_cases h1:k<l.length
   ·have q1:(k:Int)<(l.length:Int):=by omega
    have h5:=zam l k
    by_cases hd:isDg (l.getD k 0)=true
    ·have hv:=zdQ h1
     have ha:=zen h1
     rw [HA.out,hd] at ha
     have ac:=Za ha
     obtain ⟨d1,d2⟩:=zds hd
     have HV:=Za hv
     generalize l.getD k 0=d at *
     generalize valD (l.take k)=V at *
     clear hv ha hd
     have e1:((d.toNat:Int)<48)=False:=by simp <;> omega
     have e2:((57:Int)<(d.toNat:Int))=False:=by simp <;> omega
     have i1:=Zh (10*(V:Int)) ⟨by omega,by omega⟩
     have i2:=Zh (10*(V:Int)+((d.toNat:Int)-48)) ⟨by omega,by omega⟩
     have i3:IntKind.u8.wrap ((d.toNat:Int)-48)=(d.toNat:Int)-48:=by rw [IntKind.wrap_u8];omega
     have i4:=Zh ((d.toNat:Int)-48) ⟨by omega,by omega⟩
     go_wp2_with fail
     go_roundw
     case rel=>exact ⟨k+1,by rw [HV.out];congr 1;omega,by go_num,by omega,ac,HE⟩
     case measure=>simp [intOf] <;> omega
    ·have hd:isDg (l.getD k 0)=false:=by simpa using hd
     have HN:=Za (HNO.out (zgr h1 hd))
     have ad:((l.getD k 0).toNat:Int)<48∨(57:Int)<((l.getD k 0).toNat:Int):=by
      rw [isDg,Bool.and_eq_false_iff,ZX,ZX,UInt8.le_iff_toNat_le,UInt8.le_iff_toNat_le] at hd
      have e48:(48:UInt8).toNat=48:=rfl
      have e57:(57:UInt8).toNat=57:=rfl
      omega
     generalize l.getD k 0=d at *
     clear hd
     rcases ad with e1 | e1
     ·go_wp2_with fail
      go_ret2
      exact zdB HN.out HE.out
     ·have e2:¬((d.toNat:Int)<48):=by omega
      go_wp2_with fail
      go_ret2
      exact zdB HN.out HE.out
   ·obtain rfl:k=l.length:=by omega
    have e9:l.take l.length=l:=ZE (Zg _)
    rw [e9] at HA ⊢
    have HY:=Za (aa.out HA.out)
    go_wp2_with fail
    go_ret2
    exact zko HY.out HE.out
theorem zba (c:UInt8) (w:World):Calls Tryz.prog 154 #[.int .u8 (c.toNat:Int)] w fun e w'=>e = .returned (.int .u8 (kindR c))/\Ext w w':=by
 go_enter Tryz.func154,Tryz.ntmps154
 go_wp2_with fail
 go_loopw [5] (fun i wr=>∃k:Nat,i = .int .i64 k/\k<=7/\Hid (∀x∈([102,108,109,120,121,115,111]:List UInt8).take k,c≠x)/\wr=w.alloc (.cells #[.int .u8 3,.int .u8 4,.int .u8 5,.int .u8 6,.int .u8 7,.int .u8 8,.int .u8 10] 5)) (fun i _=>7-(intOf i).toNat)
 case atStart=>exact ⟨0,rfl,by omega,Za (by simp),rfl⟩
 case round =>
  obtain ⟨k,rfl,hk,HN,rfl⟩:=hrel
  have hb:Ext w (w.alloc (.cells #[.int .u8 3,.int .u8 4,.int .u8 5,.int .u8 6,.int .u8 7,.int .u8 8,.int .u8 10] 5)):=(Zf _).alloc _
  by_cases e0:k=0
  ·subst e0
   have hs:∀h,(⟨#[102,108,109,120,121,115,111]⟩:ByteArray)[0]'h=(102:UInt8):=fun _=>rfl
   by_cases hc:c=102
   ·have hv:=Za (show kindR c=3 by rw [hc];decide)
    have hn:((102:Int)==(c.toNat:Int))=true:=by rw [hc];rfl
    clear hc
    go_wp2_with fail
    go_ret
    exact ⟨by rw [hv.out];rfl,hb⟩
   ·have hne:((c.toNat:Int)==102)=false:=by
     rw [Ze]
     intro h
     exact hc (ZQ.1 (by rw [show (102:UInt8).toNat=102 from rfl];omega))
    have ab:((102:Int)==(c.toNat:Int))=false:=by rw [Ze] at hne ⊢;omega
    have aa:=Za (show ∀x∈([102,108,109,120,121,115,111]:List UInt8).take (0+1),c≠x from by
     intro x hx
     rw [show ([102,108,109,120,121,115,111]:List UInt8).take (0+1)=([102,108,109,120,121,115,111]:List UInt8).take 0++[102] from rfl] at hx
     rcases ZA.1 hx with h | h
     ·exact HN.out x h
     ·rw [ZY.1 h];exact hc)
    clear hc HN
    go_wp2_with fail
    go_roundw
    case rel=>exact ⟨0+1,rfl,by omega,aa,by first | rfl | trivial⟩
    case measure=>simp [intOf]
  by_cases e1:k=1
  ·subst e1
   have hs:∀h,(⟨#[102,108,109,120,121,115,111]⟩:ByteArray)[1]'h=(108:UInt8):=fun _=>rfl
   by_cases hc:c=108
   ·have hv:=Za (show kindR c=4 by rw [hc];decide)
    have hn:((108:Int)==(c.toNat:Int))=true:=by rw [hc];rfl
    clear hc
    go_wp2_with fail
    go_ret
    exact ⟨by rw [hv.out];rfl,hb⟩
   ·have hne:((c.toNat:Int)==108)=false:=by
     rw [Ze]
     intro h
     exact hc (ZQ.1 (by rw [show (108:UInt8).toNat=108 from rfl];omega))
    have ab:((108:Int)==(c.toNat:Int))=false:=by rw [Ze] at hne ⊢;omega
    have aa:=Za (show ∀x∈([102,108,109,120,121,115,111]:List UInt8).take (1+1),c≠x from by
     intro x hx
     rw [show ([102,108,109,120,121,115,111]:List UInt8).take (1+1)=([102,108,109,120,121,115,111]:List UInt8).take 1++[108] from rfl] at hx
     rcases ZA.1 hx with h | h
     ·exact HN.out x h
     ·rw [ZY.1 h];exact hc)
    clear hc HN
    go_wp2_with fail
    go_roundw
    case rel=>exact ⟨1+1,rfl,by omega,aa,by first | rfl | trivial⟩
    case measure=>simp [intOf]
  by_cases e2:k=2
  ·subst e2
   have hs:∀h,(⟨#[102,108,109,120,121,115,111]⟩:ByteArray)[2]'h=(109:UInt8):=fun _=>rfl
   by_cases hc:c=109
   ·have hv:=Za (show kindR c=5 by rw [hc];decide)
    have hn:((109:Int)==(c.toNat:Int))=true:=by rw [hc];rfl
    clear hc
    go_wp2_with fail
    go_ret
    exact ⟨by rw [hv.out];rfl,hb⟩
   ·have hne:((c.toNat:Int)==109)=false:=by
     rw [Ze]
     intro h
     exact hc (ZQ.1 (by rw [show (109:UInt8).toNat=109 from rfl];omega))
    have ab:((109:Int)==(c.toNat:Int))=false:=by rw [Ze] at hne ⊢;omega
    have aa:=Za (show ∀x∈([102,108,109,120,121,115,111]:List UInt8).take (2+1),c≠x from by
     intro x hx
     rw [show ([102,108,109,120,121,115,111]:List UInt8).take (2+1)=([102,108,109,120,121,115,111]:List UInt8).take 2++[109] from rfl] at hx
     rcases ZA.1 hx with h | h
     ·exact HN.out x h
     ·rw [ZY.1 h];exact hc)
    clear hc HN
    go_wp2_with fail
    go_roundw
    case rel=>exact ⟨2+1,rfl,by omega,aa,by first | rfl | trivial⟩
    case measure=>simp [intOf]
  by_cases e3:k=3
  ·subst e3
   have hs:∀h,(⟨#[102,108,109,120,121,115,111]⟩:ByteArray)[3]'h=(120:UInt8):=fun _=>rfl
   by_cases hc:c=120
   ·have hv:=Za (show kindR c=6 by rw [hc];decide)
    have hn:((120:Int)==(c.toNat:Int))=true:=by rw [hc];rfl
    clear hc
    go_wp2_with fail
    go_ret
    exact ⟨by rw [hv.out];rfl,hb⟩
   ·have hne:((c.toNat:Int)==120)=false:=by
     rw [Ze]
     intro h
     exact hc (ZQ.1 (by rw [show (120:UInt8).toNat=120 from rfl];omega))
    have ab:((120:Int)==(c.toNat:Int))=false:=by rw [Ze] at hne ⊢;omega
    have aa:=Za (show ∀x∈([102,108,109,120,121,115,111]:List UInt8).take (3+1),c≠x from by
     intro x hx
     rw [show ([102,108,109,120,121,115,111]:List UInt8).take (3+1)=([102,108,109,120,121,115,111]:List UInt8).take 3++[120] from rfl] at hx
     rcases ZA.1 hx with h | h
     ·exact HN.out x h
     ·rw [ZY.1 h];exact hc)
    clear hc HN
    go_wp2_with fail
    go_roundw
    case rel=>exact ⟨3+1,rfl,by omega,aa,by first | rfl | trivial⟩
    case measure=>simp [intOf]
  by_cases e4:k=4
  ·subst e4
   have hs:∀h,(⟨#[102,108,109,120,121,115,111]⟩:ByteArray)[4]'h=(121:UInt8):=fun _=>rfl
   by_cases hc:c=121
   ·have hv:=Za (show kindR c=7 by rw [hc];decide)
    have hn:((121:Int)==(c.toNat:Int))=true:=by rw [hc];rfl
    clear hc
    go_wp2_with fail
    go_ret
    exact ⟨by rw [hv.out];rfl,hb⟩
   ·have hne:((c.toNat:Int)==121)=false:=by
     rw [Ze]
     intro h
     exact hc (ZQ.1 (by rw [show (121:UInt8).toNat=121 from rfl];omega))
    have ab:((121:Int)==(c.toNat:Int))=false:=by rw [Ze] at hne ⊢;omega
    have aa:=Za (show ∀x∈([102,108,109,120,121,115,111]:List UInt8).take (4+1),c≠x from by
     intro x hx
     rw [show ([102,108,109,120,121,115,111]:List UInt8).take (4+1)=([102,108,109,120,121,115,111]:List UInt8).take 4++[121] from rfl] at hx
     rcases ZA.1 hx with h | h
     ·exact HN.out x h
     ·rw [ZY.1 h];exact hc)
    clear hc HN
    go_wp2_with fail
    go_roundw
    case rel=>exact ⟨4+1,rfl,by omega,aa,by first | rfl | trivial⟩
    case measure=>simp [intOf]
  by_cases e5:k=5
  ·subst e5
   have hs:∀h,(⟨#[102,108,109,120,121,115,111]⟩:ByteArray)[5]'h=(115:UInt8):=fun _=>rfl
   by_cases hc:c=115
   ·have hv:=Za (show kindR c=8 by rw [hc];decide)
    have hn:((115:Int)==(c.toNat:Int))=true:=by rw [hc];rfl
    clear hc
    go_wp2_with fail
    go_ret
    exact ⟨by rw [hv.out];rfl,hb⟩
   ·have hne:((c.toNat:Int)==115)=false:=by
     rw [Ze]
     intro h
     exact hc (ZQ.1 (by rw [show (115:UInt8).toNat=115 from rfl];omega))
    have ab:((115:Int)==(c.toNat:Int))=false:=by rw [Ze] at hne ⊢;omega
    have aa:=Za (show ∀x∈([102,108,109,120,121,115,111]:List UInt8).take (5+1),c≠x from by
     intro x hx
     rw [show ([102,108,109,120,121,115,111]:List UInt8).take (5+1)=([102,108,109,120,121,115,111]:List UInt8).take 5++[115] from rfl] at hx
     rcases ZA.1 hx with h | h
     ·exact HN.out x h
     ·rw [ZY.1 h];exact hc)
    clear hc HN
    go_wp2_with fail
    go_roundw
    case rel=>exact ⟨5+1,rfl,by omega,aa,by first | rfl | trivial⟩
    case measure=>simp [intOf]
  by_cases e6:k=6
  ·subst e6
   have hs:∀h,(⟨#[102,108,109,120,121,115,111]⟩:ByteArray)[6]'h=(111:UInt8):=fun _=>rfl
   by_cases hc:c=111
   ·have hv:=Za (show kindR c=10 by rw [hc];decide)
    have hn:((111:Int)==(c.toNat:Int))=true:=by rw [hc];rfl
    clear hc
    go_wp2_with fail
    go_ret
    exact ⟨by rw [hv.out];rfl,hb⟩
   ·have hne:((c.toNat:Int)==111)=false:=by
     rw [Ze]
     intro h
     exact hc (ZQ.1 (by rw [show (111:UInt8).toNat=111 from rfl];omega))
    have ab:((111:Int)==(c.toNat:Int))=false:=by rw [Ze] at hne ⊢;omega
    have aa:=Za (show ∀x∈([102,108,109,120,121,115,111]:List UInt8).take (6+1),c≠x from by
     intro x hx
     rw [show ([102,108,109,120,121,115,111]:List UInt8).take (6+1)=([102,108,109,120,121,115,111]:List UInt8).take 6++[111] from rfl] at hx
     rcases ZA.1 hx with h | h
     ·exact HN.out x h
     ·rw [ZY.1 h];exact hc)
    clear hc HN
    go_wp2_with fail
    go_roundw
    case rel=>exact ⟨6+1,rfl,by omega,aa,by first | rfl | trivial⟩
    case measure=>simp [intOf]
  obtain rfl:k=7:=by omega
  have hv:kindR c=0:=by
   have h9:=HN.out
   simp at h9
   obtain ⟨n1,n2,n3,n4,n5,n6,n7⟩:=h9
   simp [kindR,n1,n2,n3,n4,n5,n6,n7]
  have HV:=Za hv
  clear hv
  go_wp2_with fail
  go_ret
  exact ⟨by rw [HV.out];rfl,hb⟩
end Go.Proofs.YtkneghkbgingdaaGreatDoor
/- The reference's Number of zcK digits. -/
namespace Go.Proofs.YtkneghkbgingdaaGreatDoor
set_option maxRecDepth 100000
open Go.RowKit
theorem zm4 {l:List UInt8} (h:l.all isDg=true):valD l<10 ^ l.length:=by
 have h1:=zls l 0 h
 unfold valD
 omega
def num7I (l:List UInt8):Int:=(((num7 l).getD 0:Nat):Int)
def Num7R (l:List UInt8) (w:World) (e:Ending) (w':World):Prop:=e = .returned (.tuple #[.int .i64 (num7I l),.bool (num7 l).isSome])/\Ext w w'
theorem zdA {l:List UInt8} {w w':World} (h:num7 l=none) (hb:Ext w w'):Num7R l w (.returned (.tuple #[.int .i64 0,.bool false])) w':=by
 refine ⟨?_,hb⟩
 unfold num7I
 rw [h]
 rfl
theorem zmi {l:List UInt8} {n:Nat} {w w':World} (h:num7 l=some n) (hb:Ext w w'):Num7R l w (.returned (.tuple #[.int .i64 (n:Int),.bool true])) w':=by
 refine ⟨?_,hb⟩
 unfold num7I
 rw [h]
 rfl
theorem zfT (l:List UInt8) (hl:l.length<=100000) (w:World):Calls Tryz.prog 32 #[.string ⟨l.toArray⟩] w (Num7R l w):=by
 by_cases h0:l.length=0
 ·have HN:=Za (show num7 l=none by rw [num7,if_pos (.inl h0)])
  have q:((l.length:Int)==0)=true:=by simp [h0]
  have q2:(l.length:Int)=0:=by omega
  go_enter Tryz.func32,Tryz.ntmps32
  go_wp2_with fail
  go_ret2
  exact zdA HN.out (Zf _)
 have p0:((l.length:Int)==0)=false:=by rw [Ze];omega
 have p00:¬((l.length:Int)=0):=by omega
 by_cases h4:7<l.length
 ·have HN:=Za (show num7 l=none by rw [num7,if_pos (.inr (.inl h4))])
  have q:(7:Int)<(l.length:Int):=by omega
  go_enter Tryz.func32,Tryz.ntmps32
  go_wp2_with fail
  go_ret2
  exact zdA HN.out (Zf _)
 have p4:¬((7:Int)<(l.length:Int)):=by omega
 have af:=zam l 0
 by_cases hz:1<l.length/\l.getD 0 0=48
 ·obtain ⟨h1,hz⟩:=hz
  have p1:(1:Int)<(l.length:Int):=by omega
  have hh:l.head?=some 48:=by
   rw [List.head?_eq_getElem?,Zd (by omega)]
   rw [Zc,Zd (by omega)] at hz
   exact congrArg some hz
  have HN:=Za (show num7 l=none by rw [num7,if_pos (.inr (.inr ⟨h1,hh⟩))])
  clear hh
  rw [hz] at af
  clear hz
  go_enter Tryz.func32,Tryz.ntmps32
  go_wp2_with fail
  go_ret2
  exact zdA HN.out (Zf _)
 have ac:¬(l.length=0∨7<l.length∨(1<l.length/\l.head?=some 48)):=by
  rintro (h | h | ⟨h3,h⟩)
  ·omega
  ·omega
  ·refine hz ⟨h3,?_⟩
   rw [List.head?_eq_getElem?,Zd (by omega)] at h
   rw [Zc,Zd (by omega)]
   exact Z8 h
 have ab:=Za (fun (h:l.all isDg=true)=>(show num7 l=some (valD l) by rw [num7,if_neg ac,if_pos h]))
 have HNO:=Za (fun (h:l.all isDg=false)=>(show num7 l=none by rw [num7,if_neg ac,if_neg (by rw [h];simp)]))
 have aa:¬((1:Int)<(l.length:Int))∨((1:Int)<(l.length:Int)/\(((l.getD 0 0).toNat:Int)==48)=false):=by
  by_cases h1:1<l.length
  ·refine .inr ⟨by omega,?_⟩
   rw [Ze]
   intro h
   exact hz ⟨h1,ZQ.1 (by rw [show (48:UInt8).toNat=48 from rfl];omega)⟩
  ·exact .inl (by omega)
 clear ac hz
 generalize l.getD 0 0=z0 at *
 rcases aa with p1 | ⟨p1,hne⟩
 all_goals
  go_enter Tryz.func32,Tryz.ntmps32
  go_wp2_with fail
  go_loopw [4,5] (fun x i wr=>∃k:Nat,x = .int .i64 (valD (l.take k):Int)/\i = .int .i64 k/\k<=l.length/\Hid ((l.take k).all isDg=true)/\Hid (Ext w wr)) (fun _ i _=>l.length-(intOf i).toNat)
  case atStart=>exact ⟨0,rfl,rfl,by omega,Za rfl,Za (Zf _)⟩
  case round =>
   obtain ⟨k,rfl,rfl,hk,HA,HE⟩:=hrel
   have ad:=zm4 HA.out
   rw [Zx] at ad
   have ah:10 ^ min k l.length<=10 ^ 7:=Nat.pow_le_pow_right (by omega) (by omega)
   have hvs2:valD (l.take k)<10000000:=by omega
   clear ad ah
   have q0:(0:Int)<=(k:Int):=by omega
   by_cases h1:k<l.length
   ·have q1:(k:Int)<(l.length:Int):=by omega
    have h5:=zam l k
    by_cases hd:isDg (l.getD k 0)=true
    ·have hv:=zdQ h1
     have ha:=zen h1
     rw [HA.out,hd] at ha
     have ae:=Za ha
     obtain ⟨d1,d2⟩:=zds hd
     have HV:=Za hv
     generalize l.getD k 0=d at *
     generalize valD (l.take k)=V at *
     clear hv ha hd
     have e1:((d.toNat:Int)<48)=False:=by simp <;> omega
     have e2:((57:Int)<(d.toNat:Int))=False:=by simp <;> omega
     have i1:=Zh (10*(V:Int)) ⟨by omega,by omega⟩
     have i2:=Zh (10*(V:Int)+((d.toNat:Int)-48)) ⟨by omega,by omega⟩
     have i3:IntKind.u8.wrap ((d.toNat:Int)-48)=(d.toNat:Int)-48:=by rw [IntKind.wrap_u8];omega
     have i4:=Zh ((d.toNat:Int)-48) ⟨by omega,by omega⟩
     go_wp2_with fail
     go_roundw
     case rel=>exact ⟨k+1,by rw [HV.out];congr 1;omega,by go_num,by omega,ae,HE⟩
     case measure=>simp [intOf] <;> omega
    ·have hd:isDg (l.getD k 0)=false:=by simpa using hd
     have HN:=Za (HNO.out (zgr h1 hd))
     have ag:((l.getD k 0).toNat:Int)<48∨(57:Int)<((l.getD k 0).toNat:Int):=by
      rw [isDg,Bool.and_eq_false_iff,ZX,ZX,UInt8.le_iff_toNat_le,UInt8.le_iff_toNat_le] at hd
      have e48:(48:UInt8).toNat=48:=rfl
      have e57:(57:UInt8).toNat=57:=rfl
      omega
     generalize l.getD k 0=d at *
     clear hd
     rcases ag with e1 | e1
     ·go_wp2_with fail
      go_ret2
      exact zdA HN.out HE.out
     ·have e2:¬((d.toNat:Int)<48):=by omega
      go_wp2_with fail
      go_ret2
      exact zdA HN.out HE.out
   ·obtain rfl:k=l.length:=by omega
    have e9:l.take l.length=l:=ZE (Zg _)
    rw [e9] at HA ⊢
    have HY:=Za (ab.out HA.out)
    go_wp2_with fail
    go_ret2
    exact zmi HY.out HE.out
end Go.Proofs.YtkneghkbgingdaaGreatDoor
/- The reference's reader of terms,plain: what its steps do. -/
namespace Go.Proofs.YtkneghkbgingdaaGreatDoor
set_option maxRecDepth 100000
theorem zim:∀a b c:Tms,(a.app b).app c=a.app (b.app c):=by
 intro a
 induction a with
 | nil=>intros;rfl
 | cons n c g r _ ih=>intro b c;simp only [Tms.app,ih]
theorem zlB:∀(t r:Tms),(t.app r).cnt=t.cnt+r.cnt:=by
 intro t r
 induction t with
 | nil=>simp [Tms.app,Tms.cnt]
 | cons n c g q _ ih=>simp only [Tms.app,Tms.cnt,ih];omega
theorem zhw:∀(s:List UInt8) (o:Int),(endP o s).1++(endP o s).2=s:=by
 intro s
 induction s with
 | nil=>intro o;rfl
 | cons x l ih =>
  intro o
  rw [endP]
  generalize o+(if x=40 then (1:Int) else 0)-(if x=41 then (1:Int) else 0)=q
  by_cases h:q<0∨(q=0/\x=32)
  ·rw [if_pos h]
   rfl
  ·rw [if_neg h]
   simp [ih]
theorem zeZ {s:List UInt8} {j:Nat} (h0:0<j) (hj:j<=s.length):s.take j=s.take (j-1)++[s.getD (j-1) 0]:=by
 obtain ⟨k,rfl⟩:∃k,j=k+1:=⟨j-1,by omega⟩
 rw [Nat.add_sub_cancel,List.take_add_one,Zd (by omega),Zc,Zd (by omega)]
 rfl
theorem zjE {s:List UInt8} {j:Nat} (hj:j<=s.length) (hd:∀y∈s.drop j,isDg y=true) (h0:j=0∨isDg (s.getD (j-1) 0)=false):cutD s=(s.take j,s.drop j):=by
 by_cases hz:j=0
 ·subst hz
  rw [List.drop_zero] at hd
  have h1:s.reverse.takeWhile isDg=s.reverse:=by
   have h2:=List.takeWhile_append_of_pos (p:=isDg) (l₁:=s.reverse) (l₂:=[]) (by intro y hy;exact hd y (by simpa using hy))
   simpa using h2
  have h2:s.reverse.dropWhile isDg=[]:=by
   have h3:=List.dropWhile_append_of_pos (p:=isDg) (l₁:=s.reverse) (l₂:=[]) (by intro y hy;exact hd y (by simpa using hy))
   simpa using h3
  unfold cutD
  rw [h1,h2]
  simp
 ·have h1:isDg (s.getD (j-1) 0)=false:=by
   rcases h0 with h | h
   ·exact absurd h hz
   ·exact h
  have e2:=zeZ (s:=s) (j:=j) (by omega) hj
  have e:s=s.take (j-1)++s.getD (j-1) 0::s.drop j:=by
   have h3:=Z4 j s
   rw [e2,ZB] at h3
   exact h3.symm
  rw [e2]
  have h4:=zgz (a:=s.take (j-1)) (d:=s.drop j) (x:=s.getD (j-1) 0) h1 hd
  rw [<-e] at h4
  exact h4
theorem zor {f d:Nat} {s:List UInt8} {j:Nat} (h0:0<j) (hj:j<s.length) (hd:∀y∈s.drop j,isDg y=true) (h42:s.getD (j-1) 0=42) :
  rlT (f+1) d s=match numS (s.drop j) with
   | none=>none
   | some n=>if n<2 then none else rlB f d (n:Int) (s.take (j-1)):=by
 have hc:=zjE (by omega) hd (.inr (by rw [h42];decide))
 have e2:=zeZ (s:=s) (j:=j) h0 (by omega)
 rw [h42] at e2
 have hn:s.drop j≠[]:=by
  intro e
  have:=congrArg List.length e
  simp at this
  omega
 rw [rlT,hc,if_pos ⟨by rw [e2];simp,hn,by rw [e2];simp⟩]
 rw [show (s.take j,s.drop j).1.dropLast=s.take (j-1) from by rw [e2];simp]
 all_goals rfl
theorem zpa {f d:Nat} {s:List UInt8} {j:Nat} (hj:j<=s.length) (hd:∀y∈s.drop j,isDg y=true) (h0:j=0∨isDg (s.getD (j-1) 0)=false) (h:j=0∨j=s.length∨s.getD (j-1) 0≠42) :
  rlT (f+1) d s=rlB f d 1 s:=by
 have hc:=zjE hj hd h0
 rw [rlT,hc,if_neg]
 rintro ⟨k1,k2,k3⟩
 rcases h with rfl | rfl | h
 ·exact k1 rfl
 ·exact k2 (by simp)
 ·by_cases hz:j=0
  ·subst hz
   exact k1 rfl
  ·have e2:=zeZ (s:=s) (j:=j) (by omega) hj
   simp only at k3
   rw [e2] at k3
   simp at k3
   exact h (by simpa using k3)
theorem zl6 (S:List UInt8):(S.drop 1).dropLast=(S.drop 1).take (S.length-1-1):=by
 rw [List.dropLast_eq_take,Zu]
theorem zkb {S:List UInt8} (h:1<S.length) (x:UInt8):S.getLast?=some x↔S.getD (S.length-1) 0=x:=by
 rw [List.getLast?_eq_getElem?,Zc,Zd (by omega)]
 simp
def listP (f d:Nat) (s:List UInt8):Option Tms:=if s=[] then some .nil else rlL f d 0 s
theorem zop {f d:Nat} {n:Int} {S:List UInt8} (h1:1<S.length) (h2:S.getD 0 0=40) (h3:S.getD (S.length-1) 0=41) (hd:0<d) :
  rlB (f+1) d n S=(listP f (d-1) ((S.drop 1).take (S.length-1-1))).bind fun g=>if g.cnt=0 then none else some (n,st0,g):=by
 rw [rlB,if_pos ⟨h1,h2,(zkb h1 41).2 h3,hd⟩,zl6,listP]
 by_cases h0:(S.drop 1).take (S.length-1-1)=[]
 ·rw [if_pos h0,if_pos h0]
  rfl
 ·rw [if_neg h0,if_neg h0]
  cases hq:rlL f (d-1) 0 ((S.drop 1).take (S.length-1-1)) with
  | none=>rfl
  | some g =>
   have hp:0<g.cnt:=by
    cases f with
    | zero=>rw [rlL] at hq;cases hq
    | succ f =>
     rw [rlL] at hq
     split at hq
     ·cases hq
     ·split at hq
      ·cases hq
      ·split at hq
       ·cases hq
        simp [Tms.cnt]
       ·split at hq
        ·obtain ⟨r,_,rfl⟩:=ZH.1 hq
         simp [Tms.cnt]
        ·cases hq
   rw [Option.map_some,Zz,if_neg (by omega)]
theorem zo9 {f d:Nat} {n:Int} {S:List UInt8} (h:¬(1<S.length/\S.getD 0 0=40/\S.getD (S.length-1) 0=41/\0<d)) :
  rlB (f+1) d n S=match parseL S with
   | some [c]=>some (n,c,.nil)
   | _=>none:=by
 rw [rlB]
 refine (if_neg ?_).trans rfl
 rintro ⟨k1,k2,k3,k4⟩
 exact h ⟨k1,k2,(zkb k1 41).1 k3,k4⟩
def contL (F d:Nat) (done:Tms) (s:List UInt8):Option Tms:=(rlL F d done.cnt s).map fun r=>done.app r
theorem ziq {F d:Nat} {done:Tms} {s:List UInt8} (h:rlT F d (endP 0 s).1=none):contL (F+1) d done s=none:=by
 rw [contL,rlL,h]
 rfl
theorem zio {F d:Nat} {done:Tms} {s:List UInt8} (h:200<done.cnt):contL (F+1) d done s=none:=by
 rw [contL,rlL]
 split
 ·rfl
 ·rw [if_pos h]
  rfl
theorem zin {F d:Nat} {done:Tms} {s:List UInt8} {n:Int} {c:St} {g:Tms} (h:rlT F d (endP 0 s).1=some (n,c,g)) (h2:¬200<done.cnt) (h3:(endP 0 s).2=[]):contL (F+1) d done s=some (done.app (.cons n c g .nil)):=by
 rw [contL,rlL,h]
 simp only
 rw [if_neg h2,h3]
 rfl
theorem zjC {F d:Nat} {done:Tms} {s:List UInt8} {x:UInt8} {s2:List UInt8} (h3:(endP 0 s).2=x::s2) (hx:x≠32):contL (F+1) d done s=none:=by
 rw [contL,rlL]
 split
 ·rfl
 ·split
  ·rfl
  ·rw [h3]
   simp only
   rw [if_neg hx]
   rfl
theorem zip {F d:Nat} {done:Tms} {s:List UInt8} {s2:List UInt8} {n:Int} {c:St} {g:Tms} (h:rlT F d (endP 0 s).1=some (n,c,g)) (h2:¬200<done.cnt) (h3:(endP 0 s).2=32::s2):contL (F+1) d done s=contL F d (done.app (.cons n c g .nil)) s2:=by
 have hc:(done.app (.cons n c g .nil)).cnt=done.cnt+1:=by rw [zlB];rfl
 rw [contL,contL,hc,rlL,h]
 simp only
 rw [if_neg h2,h3]
 simp only [if_true]
 rw [Option.map_map]
 congr 1
 funext r
 simp only [Function.comp]
 rw [zim]
 rfl
theorem zgw (F d:Nat) (s:List UInt8):contL F d .nil s=rlL F d 0 s:=by
 rw [contL,show Tms.nil.cnt=0 from rfl]
 cases rlL F d 0 s <;> rfl
theorem zoq:∀(f d k:Nat) (s:List UInt8) (t:Tms),rlL f d k s=some t->t.cnt+k<=202:=by
 intro f
 induction f with
 | zero=>intro d k s t h;rw [rlL] at h;cases h
 | succ f ih =>
  intro d k s t h
  rw [rlL] at h
  split at h
  ·cases h
  ·split at h
   ·cases h
   ·split at h
    ·cases h
     simp only [Tms.cnt]
     omega
    ·split at h
     ·obtain ⟨r,h9,rfl⟩:=ZH.1 h
      have:=ih _ _ _ _ h9
      simp only [Tms.cnt]
      omega
     ·cases h
theorem zfA {f d:Nat} {s:List UInt8} {t:Tms} (h:listP f d s=some t):t.cnt<=202:=by
 unfold listP at h
 split at h
 ·cases h
  simp [Tms.cnt]
 ·have:=zoq _ _ _ _ _ h
  omega
end Go.Proofs.YtkneghkbgingdaaGreatDoor
/- The reference's end: the place behind a word or a group. -/
namespace Go.Proofs.YtkneghkbgingdaaGreatDoor
set_option maxRecDepth 100000
open Go.RowKit
theorem zjX {s:List UInt8} {j:Nat} (hj:j<s.length):s.drop j=s.getD j 0::s.drop (j+1):=by
 rw [Z5 hj,Zc,Zd hj]
 rfl
theorem zfr {o:Int} {x:UInt8} {l:List UInt8} (o2:Int) (h0:o+(if x=40 then 1 else 0)-(if x=41 then 1 else 0)=o2) (h:o2<0∨(o2=0/\x=32)):endP o (x::l)=([],x::l):=by
 rw [endP,h0]
 exact if_pos h
theorem zdu {o:Int} {x:UInt8} {l:List UInt8} (o2:Int) (h0:o+(if x=40 then 1 else 0)-(if x=41 then 1 else 0)=o2) (h:¬(o2<0∨(o2=0/\x=32))):endP o (x::l)=(x::(endP o2 l).1,(endP o2 l).2):=by
 rw [endP,h0]
 exact if_neg h
theorem znT (s:List UInt8) (hs:s.length<=100000) (k:Nat) (hk:k<=s.length) (w:World) :
  Calls Tryz.prog 176 #[.string ⟨s.toArray⟩,.int .i64 (k:Int)] w fun e w'=>e = .returned (.int .i64 ((k+(endP 0 (s.drop k)).1.length:Nat):Int))/\Ext w w':=by
 go_enter Tryz.func176,Tryz.ntmps176
 go_wp2_with fail
 go_loopw [1,5] (fun i u wr=>∃(j:Nat) (o:Int),i = .int .i64 j/\u = .int .i64 o/\j<=s.length/\0<=o/\o<=j/\Hid (j+(endP o (s.drop j)).1.length=k+(endP 0 (s.drop k)).1.length)/\Hid (Ext w wr)) (fun i _ _=>s.length-(intOf i).toNat)
 case atStart=>exact ⟨k,0,rfl,rfl,hk,by omega,by omega,Za rfl,Za (Zf _)⟩
 case round =>
  obtain ⟨j,o,rfl,rfl,hj,ho0,ho1,HH,HE⟩:=hrel
  have q0:(0:Int)<=(j:Int):=by omega
  by_cases h1:j<s.length
  ·have q1:(j:Int)<(s.length:Int):=by omega
   have h5:=zam s j
   have hd:=zjX h1
   have HO:=HH.out
   rw [hd] at HO
   have i1:=Zh (o+1) (by omega)
   have i2:=Zh (o-1) (by omega)
   generalize s.getD j 0=x at *
   clear hd
   by_cases h40:x=40
   ·subst h40
    have e0:=zdu (l:=s.drop (j+1)) (o:=o) (x:=40) (o+1) (by simp) (by simp <;> omega)
    rw [e0] at HO
    have HN:=Za (show j+1+(endP (o+1) (s.drop (j+1))).1.length=k+(endP 0 (s.drop k)).1.length from (by rw [<-HO];simp <;> omega))
    have g1:¬(o+1<0):=by omega
    have g2:((o+1)==0)=false:=by rw [Ze];omega
    clear HO e0
    go_wp2_with fail
    go_roundw
    case rel=>exact ⟨j+1,o+1,by go_num,by go_num,by omega,by omega,by omega,HN,HE⟩
    case measure=>simp [intOf] <;> omega
   ·by_cases h41:x=41
    ·subst h41
     by_cases hz:o=0
     ·subst hz
      have e0:=zfr (l:=s.drop (j+1)) (o:=0) (x:=41) (-1) (by simp) (.inl (by omega))
      rw [e0] at HO
      have HN:=Za (show j=k+(endP 0 (s.drop k)).1.length from (by rw [<-HO];simp))
      clear HO e0
      go_wp2_with fail
      go_ret
      exact ⟨congrArg (fun x:Nat=>Ending.returned (Value.int .i64 (x:Int))) HN.out,HE.out⟩
     ·have e0:=zdu (l:=s.drop (j+1)) (o:=o) (x:=41) (o-1) (by simp) (by simp <;> omega)
      rw [e0] at HO
      have HN:=Za (show j+1+(endP (o-1) (s.drop (j+1))).1.length=k+(endP 0 (s.drop k)).1.length from (by rw [<-HO];simp <;> omega))
      have g1:¬(o-1<0):=by omega
      clear HO e0
      go_wp2_with fail
      all_goals
       go_roundw
       case rel=>exact ⟨j+1,o-1,by go_num,by go_num,by omega,by omega,by omega,HN,HE⟩
       case measure=>simp [intOf] <;> omega
    ·have hx:o+(if x=40 then 1 else 0)-(if x=41 then 1 else 0)=o:=by rw [if_neg h40,if_neg h41];omega
     have b40:((x.toNat:Int)==40)=false:=by rw [Ze];intro e;exact h40 (ZQ.1 (by rw [show ((40:UInt8).toNat)=40 from rfl];omega))
     have b41:((x.toNat:Int)==41)=false:=by rw [Ze];intro e;exact h41 (ZQ.1 (by rw [show ((41:UInt8).toNat)=41 from rfl];omega))
     have g1:¬(o<0):=by omega
     by_cases hst:o=0/\x=32
     ·obtain ⟨rfl,rfl⟩:=hst
      have e0:=zfr (l:=s.drop (j+1)) (o:=0) (x:=32) 0 hx (.inr ⟨rfl,rfl⟩)
      rw [e0] at HO
      have HN:=Za (show j=k+(endP 0 (s.drop k)).1.length from (by rw [<-HO];simp))
      clear HO e0 hx
      go_wp2_with fail
      go_ret
      exact ⟨congrArg (fun x:Nat=>Ending.returned (Value.int .i64 (x:Int))) HN.out,HE.out⟩
     ·have e0:=zdu (l:=s.drop (j+1)) (o:=o) (x:=x) o hx (by rintro (h | h);omega;exact hst h)
      rw [e0] at HO
      have HN:=Za (show j+1+(endP o (s.drop (j+1))).1.length=k+(endP 0 (s.drop k)).1.length from (by rw [<-HO];simp <;> omega))
      clear HO e0 hx
      by_cases hz:o=0
      ·subst hz
       have b32:((x.toNat:Int)==32)=false:=by rw [Ze];intro e;exact hst ⟨rfl,ZQ.1 (by rw [show ((32:UInt8).toNat)=32 from rfl];omega)⟩
       go_wp2_with fail
       go_roundw
       case rel=>exact ⟨j+1,0,by go_num,rfl,by omega,by omega,by omega,HN,HE⟩
       case measure=>simp [intOf] <;> omega
      ·have bz:(o==0)=false:=by rw [Ze];exact hz
       go_wp2_with fail
       go_roundw
       case rel=>exact ⟨j+1,o,by go_num,rfl,by omega,by omega,by omega,HN,HE⟩
       case measure=>simp [intOf] <;> omega
  ·obtain rfl:j=s.length:=by omega
   have HN:=Za (show s.length=k+(endP 0 (s.drop k)).1.length from (by rw [<-HH.out,List.drop_length];rfl))
   go_wp2_with fail
   go_ret
   exact ⟨congrArg (fun x:Nat=>Ending.returned (Value.int .i64 (x:Int))) HN.out,HE.out⟩
end Go.Proofs.YtkneghkbgingdaaGreatDoor
