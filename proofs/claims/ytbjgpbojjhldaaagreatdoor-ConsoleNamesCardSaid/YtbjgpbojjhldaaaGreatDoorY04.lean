/- What is read of the words of stitches: just what was written. -/
import Derived.Test.YtbjgpbojjhldaaaGreatDoorY01
namespace Go.Proofs.YtbjgpbojjhldaaaGreatDoor
set_option maxRecDepth 100000
def nrm:Bool->List UInt8->List UInt8
 | _,[]=>[]
 | b,c::l=>if isDg c then (if b then nrm true l else 35::nrm true l) else c::nrm false l
def nms:Option Nat->List UInt8->List Nat
 | o,[]=>o.toList
 | o,c::l=>if isDg c then nms (some (10*o.getD 0+(c.toNat-48))) l else o.toList++nms none l
theorem zm8:∀(d v:List UInt8),(∀x∈d,isDg x=true)->nrm true (d++v)=nrm true v:=by
 intro d
 induction d with
 | nil=>intro v _;rfl
 | cons c d ih=>intro v h;rw [ZM,nrm,if_pos (h c (by simp)),if_pos rfl,ih v (fun x hx=>h x (by simp [hx]))]
theorem zez (n:Nat):∃c d,decD n=c::d:=by
 rcases h:decD n with _ | ⟨c,d⟩
 ·exfalso
  by_cases h0:n<10
  ·rw [decD,decF,if_pos h0] at h;simp at h
  ·rw [decD,decF,if_neg h0] at h;simp at h
 ·exact ⟨c,d,rfl⟩
theorem zgJ (n:Nat) (v:List UInt8):nrm false (decD n++v)=35::nrm true v:=by
 have hd:=zbo n
 obtain ⟨c,d,e⟩:=zez n
 rw [e] at hd ⊢
 rw [ZM,nrm,if_pos (hd c (by simp)),if_neg (by simp),zm8 d v (fun x hx=>hd x (by simp [hx]))]
theorem zm7:∀(d v:List UInt8) (a:Nat),(∀x∈d,isDg x=true)->nms (some a) (d++v)=nms (some (d.foldl (fun v c=>10*v+(c.toNat-48)) a)) v:=by
 intro d
 induction d with
 | nil=>intro v a _;rfl
 | cons c d ih=>intro v a h;rw [ZM,nms,if_pos (h c (by simp)),ih v _ (fun x hx=>h x (by simp [hx]))];rfl
theorem zeL {n:Nat} (hn:n<10 ^ 20) {v:List UInt8} (hv:v=[]∨∃c r,v=c::r/\isDg c=false):nms none (decD n++v)=n::nms none v:=by
 have hd:=zbo n
 have aa:=zeA hn
 obtain ⟨c,d,e⟩:=zez n
 rw [e] at hd aa ⊢
 rw [ZM,nms,if_pos (hd c (by simp)),zm7 d v _ (fun x hx=>hd x (by simp [hx]))]
 have h2:d.foldl (fun v c=>10*v+(c.toNat-48)) (10*(none:Option Nat).getD 0+(c.toNat-48))=n:=by
  rw [<-aa];rfl
 rw [h2]
 rcases hv with rfl | ⟨x,r,rfl,hx⟩
 ·rfl
 ·rw [nms,hx];simp [nms,hx]
theorem zcg {n:Nat} (hn:n<10 ^ 20) {c:UInt8} (hc:isDg c=false) (v:List UInt8):nms none (decD n++c::v)=n::nms none (c::v):=zeL hn (.inr ⟨c,v,rfl,hc⟩)
theorem zku {n:Nat} (hn:n<10 ^ 20):nms none (decD n++timesB)=[n]:=by
 rw [timesB,zcg hn (by decide)]
 rfl
def shW (k:Int) (p t:Bool):List UInt8:=nrm false (phW ⟨k,p,1,1⟩ (if t then 2 else 1))
def kindsL:List Int:=[1,2,3,4,5,6,7,8,9,10]
def boolsL:List Bool:=[false,true]
theorem zrC:(kindsL.all fun k=>boolsL.all fun p=>boolsL.all fun t=>kindsL.all fun j=>boolsL.all fun q=>boolsL.all fun u =>
  decide (shW k p t=shW j q u->(p=true->fsd k=true)->(q=true->fsd j=true)->k=j/\p=q/\(t=u∨cntB k=true)))=true:=by decide +kernel
theorem zrB {k j:Int} {p q t u:Bool} (hk:kindB k=true) (hj:kindB j=true) (hp:p=true->fsd k=true) (hq:q=true->fsd j=true) (h:shW k p t=shW j q u):k=j/\p=q/\(t=u∨cntB k=true):=by
 have mk:∀x:Int,kindB x=true->x∈kindsL:=fun x hx=>by
  rcases zad hx with e | e | e | e | e | e | e | e | e | e <;> subst e <;> simp [kindsL]
 have mb:∀x:Bool,x∈boolsL:=fun x=>by cases x <;> simp [boolsL]
 have h0:=zrC
 simp only [Zu,Zy] at h0
 exact h0 k (mk k hk) p (mb p) t (mb t) j (mk j hj) q (mb q) u (mb u) h hp hq
theorem zkz {x:St} (h:okSt x=true):x.p=true->fsd x.k=true:=by
 obtain ⟨_,_,_,hp⟩:=zhG h
 intro hx
 rw [hx] at hp
 simpa using hp
theorem zhE (x:St) (n:Nat):nrm true (tailW x n)=nrm false (tailW x n):=by
 unfold tailW
 split
 ·rfl
 ·rfl
theorem zfR (x:St) (n:Nat):tailW x n=[]∨∃c r,tailW x n=c::r/\isDg c=false:=by
 unfold tailW
 split
 ·exact .inr ⟨_,_,rfl,by decide⟩
 ·exact .inl rfl
theorem znM {x y:St} {n m:Nat} (h:cntB x.k=cntB y.k) (hn:1<n↔1<m):nrm false (tailW x n)=nrm false (tailW y m):=by
 unfold tailW
 rw [h]
 by_cases hc:cntB y.k=false/\1<m
 ·rw [if_pos hc,if_pos ⟨hc.1,hn.2 hc.2⟩,nrm,if_neg (by decide),nrm,if_neg (by decide),zgJ,zgJ]
 ·rw [if_neg hc,if_neg (fun e=>hc ⟨e.1,hn.1 e.2⟩)]
theorem zfL {x:St} {n:Nat} (h:okSt x=true):nrm false (phW x n)=shW x.k x.p (decide (1<n)):=by
 obtain ⟨k,p,a,b⟩:=x
 have hk:=(zhG h).1
 simp only at hk ⊢
 unfold shW
 have ht:=znM (x:=⟨k,p,a,b⟩) (y:=⟨k,p,1,1⟩) (n:=n) (m:=if decide (1<n) then 2 else 1) rfl (by by_cases hn:1<n <;> simp [hn])
 generalize (if decide (1<n) then 2 else 1)=m at ht ⊢
 unfold phW
 generalize h1:tailW ⟨k,p,a,b⟩ n=t1 at ht ⊢
 generalize h2:tailW ⟨k,p,1,1⟩ m=t2 at ht ⊢
 have e1:nrm true t1=nrm false t1:=by rw [<-h1];exact zhE _ _
 have e2:nrm true t2=nrm false t2:=by rw [<-h2];exact zhE _ _
 rcases zad hk with e | e | e | e | e | e | e | e | e | e <;> subst e <;> cases p <;>
  simp [segs,parW,cntB,ilv,nrm,zgJ,isDg,ht,e1,e2]
theorem zhF {x:St} {n:Nat} (h:okSt x=true) (h2:n<=200):nms none (phW x n)=(if x.k=5 then [x.a.toNat,1] else parW x n)++(if cntB x.k=false/\1<n then [n] else []):=by
 have hb:=zky h
 obtain ⟨k,p,a,b⟩:=x
 have hk:=(zhG h).1
 simp only at hk hb ⊢
 have hT:nms none (tailW ⟨k,p,a,b⟩ n)=if cntB k=false/\1<n then [n] else []:=by
  unfold tailW
  split
  ·rw [nms,if_neg (by decide),zku (by omega)]
   rfl
  ·rfl
 have hC:=zfR ⟨k,p,a,b⟩ n
 unfold phW
 simp only
 rw [<-hT]
 generalize tailW ⟨k,p,a,b⟩ n=t at *
 have ha:a.toNat<10 ^ 20:=by omega
 have aa:b.toNat<10 ^ 20:=by omega
 have hn:n<10 ^ 20:=by omega
 have q1:=zeL ha hC
 have q2:=zeL aa hC
 have q3:=zeL hn hC
 have one:nms (some 1) t=1::nms none t:=by
  rcases hC with e | ⟨c,r,e,hc⟩
  ·subst e;rfl
  ·subst e;simp [nms,hc]
 rcases zad hk with e | e | e | e | e | e | e | e | e | e <;> subst e <;> cases p <;>
  simp [segs,parW,cntB,ilv,nms,isDg,one,q1,q2,q3,zcg ha,zcg aa,zcg hn]
theorem zro {x y:St} {n m:Nat} (hx:okSt x=true) (hy:okSt y=true) (hn:1<=n) (hn2:n<=200) (hm:1<=m) (hm2:m<=200) (h:phW x n=phW y m):x=y/\n=m:=by
 have h1:=zfL hx (n:=n)
 rw [h,zfL hy] at h1
 obtain ⟨e1,e2,e3⟩:=zrB (zaK hy) (zaK hx) (zkz hy) (zkz hx) h1
 have h2:=zhF hx hn2
 rw [h,zhF hy hm2] at h2
 have hk:=zaK hx
 have ax:=zhG hx
 have ay:=zhG hy
 have bx:=zaq ax.2.1
 have cx:=zaq ax.2.2.1
 have by':=zaq ay.2.1
 have cy:=zaq ay.2.2.1
 obtain ⟨k,p,a,b⟩:=x
 obtain ⟨k2,p2,a2,b2⟩:=y
 simp only at e1 e2 e3 h2 hk bx cx by' cy
 subst e1;subst e2
 rcases zad hk with e | e | e | e | e | e | e | e | e | e <;> subst e <;> cases p2 <;>
  simp [segs,parW,cntB,fa0,fa1,fb0,fb1] at h2 e3 bx cx by' cy ⊢ <;>
  (by_cases c1:1<n <;> by_cases c2:1<m <;> (try simp [c1,c2] at h2) <;> (try simp [c1,c2] at e3) <;> omega)
theorem zj2:∀(d:List UInt8) (k:Nat) (v:List UInt8),(∀x∈d,isDg x=true)->d.length<=k->(v=[]∨∃c r,v=c::r/\isDg c=false)->headD k (d++v)=d.length:=by
 intro d
 induction d with
 | nil =>
  intro k v _ _ hv
  rcases hv with rfl | ⟨c,r,rfl,hc⟩
  ·cases k <;> rfl
  ·cases k with
   | zero=>rfl
   | succ k=>rw [List.nil_append,headD,hc];rfl
 | cons c d ih =>
  intro k v h hk hv
  cases k with
  | zero=>simp at hk
  | succ k =>
   rw [ZM,headD,if_pos (h c (by simp)),ih k v (fun x hx=>h x (by simp [hx])) (by simpa using hk) hv]
   rfl
theorem zmd {n:Nat} (h:n<=9999):(decD n).length<=4:=zdi 20 3 n (by omega)
theorem zhu {n:Nat} (h:n<=9999) {v:List UInt8} (hv:v=[]∨∃c r,v=c::r/\isDg c=false) :
  headD 4 (decD n++v)≠0/\valD ((decD n++v).take (headD 4 (decD n++v)))=n/\(decD n++v).drop (headD 4 (decD n++v))=v:=by
 rw [zj2 _ _ _ (zbo n) (zmd h) hv]
 obtain ⟨c,d,e⟩:=zez n
 refine ⟨by rw [e];simp,?_,?_⟩
 ·rw [List.take_left' rfl,zeA (by omega)]
 ·rw [List.drop_left' rfl]
theorem zey (p v:List UInt8):cutP p (p++v)=some v:=by
 rw [cutP,List.take_left' rfl,List.drop_left' rfl,if_pos rfl]
theorem zm3 (p:List UInt8) (ps:List (List UInt8)) (v:List UInt8) (acc:List Nat):mtG (p::ps) false (p++v) acc=mtG ps true v acc:=by
 rw [mtG,zey]
theorem zec {n:Nat} (h:n<=9999) (p:List UInt8) (ps:List (List UInt8)) (v:List UInt8) (acc:List Nat) (hv:p++v=[]∨∃c r,p++v=c::r/\isDg c=false) :
  mtG (p::ps) true (decD n++(p++v)) acc=mtG ps true v (acc++[n]):=by
 obtain ⟨h1,h2,h3⟩:=zhu h hv
 rw [mtG,if_neg h1,h2,h3,zey]
theorem zrg {x:St} {n:Nat} (h:okSt x=true) (h2:n<=200) (t:List UInt8) (ht:t=[]∨∃c r,t=c::r/\isDg c=false):mtG (segs x.k x.p) false (ilv (segs x.k x.p) (parW x n)++t) []=some (parW x n,t):=by
 have hb:=zky h
 obtain ⟨k,p,a,b⟩:=x
 have hk:=(zhG h).1
 simp only at hk hb ⊢
 have ha:a.toNat<=9999:=by omega
 have aa:b.toNat<=9999:=by omega
 have hn:n<=9999:=by omega
 have hz:∀(c:UInt8) (p v:List UInt8),isDg c=false->(c::p)++v=[]∨∃d r,(c::p)++v=d::r/\isDg d=false:=fun c p v hc => .inr ⟨c,p++v,rfl,hc⟩
 have h0:([]:List UInt8)++t=[]∨∃d r,([]:List UInt8)++t=d::r/\isDg d=false:=ht
 rcases zad hk with e | e | e | e | e | e | e | e | e | e <;> subst e <;> cases p <;>
  simp only [segs,parW,cntB,ilv,Zr,if_true,if_false,Int.reduceEq,decide_true,decide_false,or_false,or_true,Bool.false_eq_true,Zk,List.length_nil,Nat.reduceAdd,Nat.reduceEqDiff] <;>
  (rw [zm3];repeat (first | rw [zec hn _ _ _ _ h0] | rw [zec ha _ _ _ _ h0] | rw [zec aa _ _ _ _ h0] | rw [zec hn _ _ _ _ (hz _ _ _ (by decide))] | rw [zec ha _ _ _ _ (hz _ _ _ (by decide))] | rw [zec aa _ _ _ _ (hz _ _ _ (by decide))])) <;> rfl
theorem zl6 (p v:List UInt8):cutS p (v++p)=some v:=by
 rw [cutS,Zc,Nat.add_sub_cancel,List.drop_left' rfl,List.take_left' rfl,if_pos ⟨rfl,by omega⟩]
theorem zpc {x:St} {n:Nat} (h1:1<=n) (h2:n<=200):endW x.k (parW x n) (tailW x n)=(n,[]):=by
 unfold endW tailW
 cases hc:cntB x.k
 ·simp only [Bool.false_eq_true,if_false,true_and]
  by_cases h3:1<n
  ·rw [if_pos h3,show (32::(decD n++timesB))=(32::decD n)++timesB from rfl,zl6]
   simp only
   rw [show cutP [32] (32::decD n)=some (decD n) from zey [32] (decD n)]
   obtain ⟨g1,g2,g3⟩:=zhu (n:=n) (by omega) (v:=[]) (.inl rfl)
   rw [ZF] at g2 g3
   simp only [Option.getD_some]
   rw [g2,g3]
  ·obtain rfl:n=1:=by omega
   rw [if_neg h3]
   rfl
 ·simp [parW,hc]
theorem zrG {x:St} {n:Nat} (h:okSt x=true):stW x.k x.p (parW x n)=x:=by
 have ax:=zhG h
 have hk:=zaK h
 have bx:=zaq ax.2.1
 have cx:=zaq ax.2.2.1
 obtain ⟨k,p,a,b⟩:=x
 simp only at hk bx cx ⊢
 rcases zad hk with e | e | e | e | e | e | e | e | e | e <;> subst e <;> cases p <;>
  simp [segs,parW,cntB,stW,fa0,fa1,fb0,fb1] at bx cx ⊢ <;> omega
theorem zrO {x:St} {n:Nat} (h:okSt x=true) (h1:1<=n) (h2:n<=200):tryW (phW x n) x.k x.p=some (x,n):=by
 have hm:=zrg h h2 (tailW x n) (zfR x n)
 rw [tryW]
 unfold phW at *
 rw [hm]
 simp only
 rw [zpc h1 h2,zrG h]
 simp only
 rw [if_pos ⟨trivial,h1,h2,h,trivial⟩]
theorem zhZ {s:List UInt8} {k:Int} {p:Bool} {y:St} {m:Nat} (h:tryW s k p=some (y,m)):okSt y=true/\1<=m/\m<=200/\phW y m=s:=by
 rw [tryW] at h
 split at h
 ·cases h
 ·split at h
  ·rename_i hc
   simp only [Option.some.injEq,Prod.mk.injEq] at h
   rw [<-h.1,<-h.2]
   exact ⟨hc.2.2.2.1,hc.2.1,hc.2.2.1,hc.2.2.2.2⟩
  ·cases h
theorem zeo {s:List UInt8} {y:St} {m:Nat}:∀(f:Nat) (k:Int),triesW s f k=some (y,m)->okSt y=true/\1<=m/\m<=200/\phW y m=s:=by
 intro f
 induction f with
 | zero=>intro k h;cases h
 | succ f ih =>
  intro k h
  rw [triesW] at h
  split at h
  ·rename_i x h1;cases h;exact zhZ h1
  ·split at h
   ·rename_i x h1;cases h;exact zhZ h1
   ·exact ih _ h
theorem zls {s:List UInt8} {i:Nat} {p:Bool}:∀(f:Nat) (k:Int),i<f->tryW s (k+i) p≠none->triesW s f k≠none:=by
 induction i with
 | zero =>
  intro f k hf h
  obtain ⟨f,rfl⟩:∃g,f=g+1:=⟨f-1,by omega⟩
  rw [triesW]
  rw [show k+((0:Nat):Int)=k by omega] at h
  split
  ·simp
  ·split
   ·simp
   ·rename_i h1 _ h2
    cases p
    ·exact absurd h1 h
    ·exact absurd h2 h
 | succ i ih =>
  intro f k hf h
  obtain ⟨f,rfl⟩:∃g,f=g+1:=⟨f-1,by omega⟩
  rw [triesW]
  split
  ·simp
  ·split
   ·simp
   ·exact ih f (k+1) (by omega) (by rwa [show k+1+(i:Int)=k+((i+1:Nat):Int) by omega])
theorem zgR {x:St} {n:Nat} (h:okSt x=true) (h1:1<=n) (h2:n<=200):readPh (phW x n)=some (x,n):=by
 have hk:=zaq (zaK h)
 have h3:readPh (phW x n)≠none:=zls (i:=(x.k-1).toNat) (p:=x.p) 10 1 (by omega) (by rw [show 1+(((x.k-1).toNat:Nat):Int)=x.k by omega,zrO h h1 h2];simp)
 rcases h4:readPh (phW x n) with _ | ⟨y,m⟩
 ·exact absurd h4 h3
 ·obtain ⟨g1,g2,g3,g4⟩:=zeo 10 1 h4
  obtain ⟨rfl,rfl⟩:=zro g1 h g2 g3 h1 h2 g4
  rfl
theorem znn {s:List UInt8} {x:St} {n:Nat}:readPh s=some (x,n)↔okSt x=true/\1<=n/\n<=200/\phW x n=s :=
 ⟨fun h=>zeo 10 1 h,fun ⟨h1,h2,h3,h4⟩=>by rw [<-h4];exact zgR h1 h2 h3⟩
theorem zca (s:St) (l:List St):(∃n g,grpA l=(s,n)::g/\grpA (s::l)=(s,n+1)::g)∨(grpA (s::l)=(s,1)::grpA l/\∀n g,grpA l≠(s,n)::g):=by
 rw [grpA]
 rcases h:grpA l with _ | ⟨⟨t,n⟩,g⟩
 ·exact .inr ⟨rfl,by simp⟩
 ·by_cases e:s=t
  ·subst e
   exact .inl ⟨n,g,rfl,by simp⟩
  ·refine .inr ⟨by simp [e],fun m g' h'=>?_⟩
   simp only [List.cons.injEq,Prod.mk.injEq] at h'
   exact e h'.1.1.symm
theorem zbV:∀l:List St,(grpA l).flatMap (fun x=>List.replicate x.2 x.1)=l:=by
 intro l
 induction l with
 | nil=>rfl
 | cons s l ih =>
  rcases zca s l with ⟨n,g,h1,h2⟩ | ⟨h2,_⟩
  ·rw [h2];rw [h1] at ih
   simp only [List.flatMap_cons,List.replicate_succ,ZM] at ih ⊢
   rw [ih]
  ·rw [h2]
   simp only [List.flatMap_cons,ih]
   rfl
theorem zeE (l:List St):((grpA l).map (·.2)).sum=l.length:=by
 have h:=congrArg List.length (zbV l)
 rw [List.length_flatMap] at h
 rw [<-h]
 congr 1
 apply List.map_congr_left
 intro x _
 simp
theorem zcX {l:List St}:∀ {x:St×Nat},x∈grpA l->x.1∈l/\1<=x.2:=by
 induction l with
 | nil=>intro x h;simp [grpA] at h
 | cons s l ih =>
  intro x hx
  rcases zca s l with ⟨n,g,h1,h2⟩ | ⟨h2,_⟩
  ·rw [h2] at hx
   rcases Zx.1 hx with rfl | h
   ·exact ⟨by simp,by omega⟩
   ·have:=ih (x:=x) (by rw [h1];simp [h])
    exact ⟨by simp [this.1],this.2⟩
  ·rw [h2] at hx
   rcases Zx.1 hx with rfl | h
   ·exact ⟨by simp,by omega⟩
   ·have:=ih h
    exact ⟨by simp [this.1],this.2⟩
theorem zpk {l:List St} (h:l≠[]):grpA l≠[]:=by
 intro e
 have:=zbV l
 rw [e] at this
 exact h this.symm
theorem zfP {w:List UInt8} (h:(44:UInt8) ∉ w):splC w=[w]:=by
 induction w with
 | nil=>rfl
 | cons x w ih =>
  cases w with
  | nil=>rfl
  | cons y w =>
   have h1:¬(x=44/\y=32):=fun e=>h (by simp [e.1])
   have h2:=ih (fun e=>h (by simp at e ⊢;exact .inr e))
   rw [splC,if_neg h1,h2]
theorem zld {w l:List UInt8} (h:(44:UInt8) ∉ w):splC (w++44::32::l)=w::splC l:=by
 induction w with
 | nil=>rw [List.nil_append,splC,if_pos ⟨rfl,rfl⟩]
 | cons x w ih =>
  have h1:¬x=44:=fun e=>h (by simp [e])
  have h2:=ih (fun e=>h (by simp [e]))
  obtain ⟨y,r,hy⟩:∃y r,w++44::32::l=y::r:=by cases w <;> exact ⟨_,_,rfl⟩
  rw [ZM]
  rw [hy] at h2 ⊢
  rw [splC,if_neg (fun e=>h1 e.1),h2]
theorem zle:∀ {ws:List (List UInt8)},ws≠[]->(∀w∈ws,(44:UInt8) ∉ w)->splC (joinC ws)=ws:=by
 intro ws
 induction ws with
 | nil=>intro h;exact absurd rfl h
 | cons x ws ih =>
  intro _ h
  cases ws with
  | nil=>exact zfP (h x (by simp))
  | cons y ws =>
   rw [joinC,zld (h x (by simp)),ih (by simp) (fun w hw=>h w (by simp at hw ⊢;exact .inr hw))]
theorem zpp {c:UInt8} (hc:isDg c=false) (h35:c≠35):∀(ss:List (List UInt8)) (ns:List Nat),(∀s∈ss,c ∉ s)->c ∉ ilv ss ns:=by
 have hd:∀n,c ∉ decD n:=fun n h=>by rw [zbo n c h] at hc;cases hc
 intro ss
 induction ss with
 | nil=>intro ns _;simp [ilv]
 | cons s ss ih =>
  intro ns h
  cases ss with
  | nil=>rw [ilv];exact h s (by simp)
  | cons t r =>
   have h2:=ih
   cases ns with
   | nil =>
    rw [ilv]
    intro e
    rcases ZQ.1 e with e | e
    ·exact h s (by simp) e
    ·rcases Zx.1 e with e | e
     ·exact h35 e
     ·exact ih [] (fun w hw=>h w (by simp at hw ⊢;exact .inr hw)) e
   | cons n ns =>
    rw [ilv]
    intro e
    rcases ZQ.1 e with e | e
    ·rcases ZQ.1 e with e | e
     ·exact h s (by simp) e
     ·exact hd n e
    ·exact ih ns (fun w hw=>h w (by simp at hw ⊢;exact .inr hw)) e
theorem znE:(kindsL.all fun k=>boolsL.all fun p=>(segs k p).all fun s => !s.contains 44 && !s.contains 10)=true:=by decide +kernel
theorem zqj {k:Int} (p:Bool) (hk:kindB k=true) {c:UInt8} (hc:c=44∨c=10):∀s∈segs k p,c ∉ s:=by
 have h0:=znE
 simp only [Zu,Zp,Bool.not_eq_true',List.contains_eq_mem,decide_eq_false_iff_not] at h0
 have mk:k∈kindsL:=by rcases zad hk with e | e | e | e | e | e | e | e | e | e <;> subst e <;> simp [kindsL]
 have mb:p∈boolsL:=by cases p <;> simp [boolsL]
 intro s hs
 have:=h0 k mk p mb s hs
 rcases hc with rfl | rfl
 ·exact this.1
 ·exact this.2
theorem zsi {x:St} (n:Nat) (h:okSt x=true) {c:UInt8} (hc:c=44∨c=10):c ∉ phW x n:=by
 have hd:isDg c=false/\c≠35/\c≠32/\c ∉ timesB:=by rcases hc with rfl | rfl <;> decide
 intro e
 rcases ZQ.1 e with e | e
 ·exact zpp hd.1 hd.2.1 _ _ (zqj x.p (zaK h) hc) e
 ·unfold tailW at e
  split at e
  ·rcases Zx.1 e with e | e
   ·exact hd.2.2.1 e
   ·rcases ZQ.1 e with e | e
    ·have:=zbo n c e
     rw [hd.1] at this;cases this
    ·exact hd.2.2.2 e
  ·cases e
theorem zpO:readPh nothB=none:=by decide +kernel
theorem ziK {gs:List (St×Nat)}:∀ {acc:List St},(∀x∈gs,okSt x.1=true/\1<=x.2/\x.2<=200)->acc.length+(gs.map (·.2)).sum<=200 ->
  pcGo acc (gs.map (fun x=>phW x.1 x.2))=some (acc++gs.flatMap (fun x=>List.replicate x.2 x.1)):=by
 induction gs with
 | nil=>intro acc _ _;simp [pcGo]
 | cons x gs ih =>
  intro acc h hl
  obtain ⟨h1,h2,h3⟩:=h x (by simp)
  rw [List.map_cons,List.sum_cons] at hl
  rw [List.map_cons,pcGo,zgR h1 h2 h3]
  simp only
  rw [if_neg (by omega),ih (fun y hy=>h y (by simp [hy])) (by simp;omega)]
  simp
theorem zoq {l:List St} (h:allB l=true) (hn:l.length<=200) (hl:l≠[]):wordsL l≠nothB/\splC (wordsL l)=(grpA l).map (fun x=>phW x.1 x.2):=by
 have hne:(grpA l).map (fun x=>phW x.1 x.2)≠[]:=by simpa using zpk hl
 have hok:∀x∈grpA l,okSt x.1=true/\1<=x.2/\x.2<=200:=fun x hx=>by
  have hm:=zcX hx
  have hs:=zeE l
  have hle:x.2<=((grpA l).map (·.2)).sum:=zkg hx
  exact ⟨Zu.1 h _ hm.1,hm.2,by omega⟩
 have hs:splC (wordsL l)=(grpA l).map (fun x=>phW x.1 x.2):=by
  rw [wordsL,if_neg hl]
  exact zle hne (fun w hw=>by
   obtain ⟨x,hx,rfl⟩:=List.mem_map.1 hw
   exact zsi _ (hok x hx).1 (.inl rfl))
 refine ⟨fun e=>?_,hs⟩
 rw [e,zfP (by decide)] at hs
 obtain ⟨x,hx,e2⟩:∃x∈grpA l,phW x.1 x.2=nothB:=by
  have:nothB∈(grpA l).map (fun x=>phW x.1 x.2):=by rw [<-hs];simp
  obtain ⟨x,hx,e⟩:=List.mem_map.1 this
  exact ⟨x,hx,e⟩
 obtain ⟨g1,g2,g3⟩:=hok x hx
 have:=zgR g1 g2 g3
 rw [e2,zpO] at this
 cases this
theorem zni {l:List St} (h:allE l=0) (h2:(wordsL l).length<=2000):pcL (wordsL l)=some l:=by
 obtain ⟨h3,h4,_,_⟩:=zaZ h
 rw [pcL,if_neg (by omega)]
 by_cases hl:l=[]
 ·subst hl;rfl
 ·obtain ⟨g1,g2⟩:=zoq h4 h3 hl
  rw [if_neg g1,g2]
  have hs:=zeE l
  rw [ziK (fun x hx=>?_) (by simp;omega),List.nil_append,zbV]
  ·simp only
   rw [if_pos ⟨h,trivial⟩]
  ·have hm:=zcX hx
   have hle:x.2<=((grpA l).map (·.2)).sum:=zkg hx
   exact ⟨Zu.1 h4 _ hm.1,hm.2,by omega⟩
theorem zoB {s:List UInt8} {l:List St}:pcL s=some l↔s.length<=2000/\allE l=0/\wordsL l=s:=by
 constructor
 ·intro h
  rw [pcL] at h
  split at h
  ·cases h
  ·split at h
   ·rename_i h1 h2
    cases h
    exact ⟨by omega,by decide,by rw [h2];rfl⟩
   ·split at h
    ·cases h
    ·split at h
     ·rename_i h1 h2 x l2 h3 h4
      cases h
      exact ⟨by omega,h4.1,h4.2⟩
     ·cases h
 ·rintro ⟨h1,h2,rfl⟩
  exact zni h2 h1
end Go.Proofs.YtbjgpbojjhldaaaGreatDoor
/- What gauge computes,in plain Lean. -/
namespace Go.Proofs.YtbjgpbojjhldaaaGreatDoor
set_option maxRecDepth 100000
def ginR (n lo hi:Int):Bool:=decide (lo<=n) && decide (n<=hi)
def near (num den:Int):Int:=(2*num+den) / (2*den)
def gok (a b c d:Int):Bool:=ginR a 1 10000 && ginR b 1 10000 && ginR c 1 10000 && ginR d 1 10000
def gerr (a b c d:Int):Int:=if gok a b c d then 0 else 8
def scaled (n most m result:Int):Int×Int:=if ginR n 0 most then (if m > result then (0,16) else (m,0)) else (0,2)
def scaleG (ok:Bool) (n most m result:Int):Int×Int:=if ok then scaled n most m result else (0,8)
theorem ziS (n most m result:Int):scaleG false n most m result=(0,8):=rfl
theorem ziR {n most:Int} (h:ginR n 0 most=false) (m result:Int):scaleG true n most m result=(0,2):=by simp [scaleG,scaled,h]
theorem zfH {n most m result:Int} (h:ginR n 0 most=true) (k:result<m):scaleG true n most m result=(0,16):=by
 simp only [scaleG,scaled,h,if_true];rw [if_pos k]
theorem zk5 {n most m result:Int} (h:ginR n 0 most=true) (k:¬result<m):scaleG true n most m result=(m,0):=by
 simp only [scaleG,scaled,h,if_true];rw [if_neg k]
theorem zq1 {n lo hi:Int} (h:n<lo∨hi<n):ginR n lo hi=false:=by simp [ginR];omega
theorem zbx {n lo hi:Int} (h:ginR n lo hi=true):lo<=n/\n<=hi:=by simpa [ginR] using h
theorem zio {a b c d:Int} (h:gok a b c d=true):(1<=a/\a<=10000)/\(1<=b/\b<=10000)/\(1<=c/\c<=10000)/\(1<=d/\d<=10000):=by
 simp only [gok,Zp] at h
 exact ⟨zbx h.1.1.1,zbx h.1.1.2,zbx h.1.2,zbx h.2⟩
def fitN (a b width every extra:Int):Int :=
 if 0<width*a-extra*b then extra+every*((2*(width*a-extra*b)+every*b-1) / (2*(every*b))) else extra
def fitG (ok:Bool) (a b width every extra:Int):Int×Int :=
 if ok then (if ginR width 0 1000000 && ginR every 1 1000 && ginR extra 0 1000 then (if 1000000<fitN a b width every extra then (0,16) else (fitN a b width every extra,0)) else (0,2)) else (0,8)
theorem zeC (a b width every extra:Int) (h:(ginR width 0 1000000 && ginR every 1 1000 && ginR extra 0 1000)=false):fitG true a b width every extra=(0,2):=by simp [fitG,h]
theorem zij {a b width every extra:Int} (h:(ginR width 0 1000000 && ginR every 1 1000 && ginR extra 0 1000)=true) (k:1000000<fitN a b width every extra):fitG true a b width every extra=(0,16):=by
 simp only [fitG,h,if_true];rw [if_pos k]
theorem zjH {a b width every extra:Int} (h:(ginR width 0 1000000 && ginR every 1 1000 && ginR extra 0 1000)=true) (k:¬1000000<fitN a b width every extra):fitG true a b width every extra=(fitN a b width every extra,0):=by
 simp only [fitG,h,if_true];rw [if_neg k]
end Go.Proofs.YtbjgpbojjhldaaaGreatDoor
/- What slope computes,in plain Lean. -/
namespace Go.Proofs.YtbjgpbojjhldaaaGreatDoor
set_option maxRecDepth 100000
def spOk (rows changes:Int):Bool:=inR rows 1 1000 && inR changes 1 rows
def spE (rows changes:Int):Int:=if spOk rows changes then 0 else 2
def lnOk (a b rows:Int):Bool:=inR a (-1000) 1000 && inR b (-1000) 1000 && inR rows 1 1000
def lnE (a b rows:Int):Int:=if lnOk a b rows then 0 else 2
def atV (a b rows i:Int):Int:=(2*((a+1000)*(rows-i)+(b+1000)*i)+rows) / (2*rows)-1000
def lineL (a b rows:Int):List Int:=if lnOk a b rows then (List.range (rows.toNat+1)).map (fun i:Nat=>atV a b rows (i:Int)) else []
theorem zoI {rows changes:Int} (h:spOk rows changes=true):1<=rows/\rows<=1000/\1<=changes/\changes<=rows:=by
 simp only [spOk,Zp] at h
 have h1:=zaq h.1
 have h2:=zaq h.2
 omega
theorem zoy {a b rows:Int} (h:lnOk a b rows=true) : -1000<=a/\a<=1000 /\ -1000<=b/\b<=1000/\1<=rows/\rows<=1000:=by
 simp only [lnOk,Zp] at h
 have h1:=zaq h.1.1
 have h2:=zaq h.1.2
 have h3:=zaq h.2
 omega
theorem zoX {a b:Int} {r k:Nat} (hr:1<=r):a+(2*(b-a)*(k:Int)+(r:Int)) / (2*(r:Int))=atV a b r k:=by
 unfold atV
 have e:2*((a+1000)*((r:Int)-(k:Int))+(b+1000)*(k:Int))+(r:Int)=(2*(b-a)*(k:Int)+(r:Int))+(a+1000)*(2*(r:Int)):=by
  rw [Int.mul_sub,Int.mul_left_comm (a+1000),Int.mul_assoc 2,Int.sub_mul,Int.add_mul b,Int.add_mul a,Int.add_mul a];omega
 rw [e,Int.add_mul_ediv_right _ _ (by omega)]
 omega
theorem zr5 {a b:Int} {r k:Nat} (a0 : -1000<=a) (a1:a<=1000) (b0 : -1000<=b) (b1:b<=1000) (hr:1<=r) (hk:k<=r) :
  -3000<=(2*(b-a)*(k:Int)+(r:Int)) / (2*(r:Int))/\(2*(b-a)*(k:Int)+(r:Int)) / (2*(r:Int))<=3000:=by
 have e1:=Int.mul_le_mul_of_nonneg_right (show b-a<=2000 by omega) (show 0<=(k:Int) by omega)
 have e2:=Int.mul_le_mul_of_nonneg_right (show -2000<=b-a by omega) (show 0<=(k:Int) by omega)
 have e3:2*(b-a)*(k:Int)=2*((b-a)*(k:Int)):=Int.mul_assoc _ _ _
 constructor
 ·exact (Int.le_ediv_iff_mul_le (by omega)).2 (by omega)
 ·exact Int.lt_add_one_iff.1 ((Int.ediv_lt_iff_lt_mul (by omega)).2 (by omega))
def words (rows changes:Int):Int×Int×Int:=if spOk rows changes then (rows / changes,changes-rows % changes,rows % changes) else (0,0,0)
end Go.Proofs.YtbjgpbojjhldaaaGreatDoor
/- What seam computes,in plain Lean. -/
namespace Go.Proofs.YtbjgpbojjhldaaaGreatDoor
set_option maxRecDepth 100000
def edOk (a b:Int):Bool:=inR a 1 1000 && inR b 1 1000
def edE (l:List Int):Int:=if l.all (fun x=>inR x 1 1000) then 0 else 2
def edB (a b:Int):Int:=if edOk a b then 0 else 2
theorem zpb (a b:Int):edE [a,b]=edB a b:=by simp [edE,edB,edOk]
theorem zd0 {a b:Int} (h:edOk a b=true):1<=a/\a<=1000/\1<=b/\b<=1000:=by
 simp only [edOk,Zp] at h
 have h1:=zaq h.1
 have h2:=zaq h.2
 omega
theorem zpa {l:List Int} {n k:Nat} (hl:l.length=n) (hk:k<n) (h:inR (l.getD k 0) 1 1000=false):edE l=2:=by
 rw [edE,if_neg]
 intro ha
 rw [Zu] at ha
 have:=ha (l.getD k 0) (by rw [Zd,Zf (by omega)];exact List.getElem_mem _)
 rw [h] at this
 cases this
theorem zqU {l:List Int} {n:Nat} (hl:l.length=n) (h:∀j,j<n->inR (l.getD j 0) 1 1000=true):edE l=0:=by
 rw [edE,if_pos]
 rw [Zu]
 intro x hx
 obtain ⟨j,hj,e⟩:=List.getElem_of_mem hx
 have:=h j (by omega)
 rwa [Zd,Zf hj,Option.getD_some,e] at this
theorem zmw {a b g:Nat} (h:Nat.gcd a b=g):Nat.gcd b (a % b)=g:=by
 rw [Nat.gcd_comm,<-Nat.gcd_rec,Nat.gcd_comm];exact h
def secV (x a y b:Int) (k:Nat):Int×Int:=(x+k*a / max a b,y+k*b / max a b)
def secL (x a y b:Int):List (Int×Int):=(List.range (max a b).toNat).map (secV x a y b)
def joinL (a b:Int):List (Int×Int):=if edOk a b then secL 0 a 0 b else []
def mkAt (l:List Int) (n:Int) (k:Nat):Bool:=decide ((0::l).getD k 0<l.getD k 0) && decide (l.getD k 0<n)
def mkOk (l:List Int) (n:Int):Bool:=(List.range l.length).all (mkAt l n)
theorem zmY {l:List Int} {a:Int} {n k:Nat} (hl:l.length=n) (hk:k<n) (h:mkAt l a k=false):mkOk l a=false:=by
 cases e:mkOk l a
 ·rfl
 ·rw [mkOk,Zu] at e
  have:=e k (ZG.2 (by omega))
  rw [h] at this;cases this
theorem zpD {l:List Int} {a:Int} {n:Nat} (hl:l.length=n) (h:∀j,j<n->mkAt l a j=true):mkOk l a=true:=by
 rw [mkOk,Zu]
 intro k hk
 exact h k (by have:=ZG.1 hk;omega)
theorem zhB {l:List Int} {a:Int} (h:mkOk l a=true):∀k,k<l.length->(0::l).getD k 0<l.getD k 0/\l.getD k 0<a:=by
 intro k hk
 rw [mkOk,Zu] at h
 have:=h k (ZG.2 hk)
 simpa [mkAt] using this
theorem zkr {l:List Int} {a:Int} (h:mkOk l a=true):∀k,k<l.length->0<=(0::l).getD k 0/\(0::l).getD k 0<a:=by
 intro k
 induction k with
 | zero=>intro hk;have:=zhB h 0 hk;simp at this ⊢;omega
 | succ k ih =>
  intro hk
  have h1:=zhB h k (by omega)
  have h2:=ih (by omega)
  simp only [List.getD_cons_succ]
  omega
def mkE (a b:Int) (am bm:List Int):Int :=
 if edOk a b then (if 50<am.length∨50<bm.length then 4 else if mkOk am a && mkOk bm b then (if am.length=bm.length then 0 else 26) else 8) else 2
def mkdS (a b:Int) (am bm:List Int) (i:Nat):List (Int×Int) :=
 secL ((0::am).getD i 0) ((am++[a]).getD i 0-(0::am).getD i 0) ((0::bm).getD i 0) ((bm++[b]).getD i 0-(0::bm).getD i 0)
def mkdN (a b:Int) (am bm:List Int) (n:Nat):List (Int×Int):=(List.range n).flatMap (mkdS a b am bm)
def mkdL (a b:Int) (am bm:List Int):List (Int×Int):=if mkE a b am bm=0 then mkdN a b am bm (am.length+1) else []
theorem zdA (a b:Int) (am bm:List Int) (n:Nat):mkdN a b am bm (n+1)=mkdN a b am bm n++mkdS a b am bm n:=by
 simp [mkdN,List.range_succ,List.flatMap_append]
theorem zkq (a b:Int):mkE a b [] []=edB a b:=by
 unfold mkE edB
 split
 ·rw [if_neg (by simp),if_pos (by simp [mkOk]),if_pos rfl]
 ·rfl
theorem zmZ (a b:Int):mkdL a b [] []=joinL a b:=by
 unfold mkdL joinL
 rw [zkq,edB]
 split
 ·rename_i h
  rw [if_pos rfl]
  simp [mkdN,mkdS]
 ·rw [if_neg (by omega)]
def stepB (p q:Int×Int):Bool:=decide (q=(p.1+1,p.2)) || decide (q=(p.1,p.2+1)) || decide (q=(p.1+1,p.2+1))
def stepAt (l:List (Int×Int)) (i:Nat):Bool:=stepB (l.getD (i-1) (0,0)) (l.getD i (0,0))
def seamB (l:List (Int×Int)) (a b:Int):Bool :=
 decide (0<l.length) && decide (l.getD 0 (0,0)=(0,0)) && decide (l.getD (l.length-1) (0,0)=(a-1,b-1)) && (List.range (l.length-1)).all (fun i=>stepAt l (i+1))
def chkE (l:List (Int×Int)) (a b:Int):Int:=if edOk a b then (if seamB l a b then 0 else 30) else 2
theorem zk6 {l:List (Int×Int)} {a b:Int} (h:seamB l a b=true):0<l.length/\l.getD 0 (0,0)=(0,0)/\l.getD (l.length-1) (0,0)=(a-1,b-1)/\∀i,1<=i->i<l.length->stepAt l i=true:=by
 simp only [seamB,Zp,Zy,Zu] at h
 refine ⟨h.1.1.1,h.1.1.2,h.1.2,fun i h1 h2=>?_⟩
 have:=h.2 (i-1) (ZG.2 (by omega))
 rwa [show i-1+1=i by omega] at this
theorem zqg {l:List (Int×Int)} {a b:Int} {n:Nat} (hl:l.length=n) (h0:0<n) (h1:l.getD 0 (0,0)=(0,0)) (h2:l.getD (n-1) (0,0)=(a-1,b-1)) (h3:∀i,1<=i->i<n->stepAt l i=true):seamB l a b=true:=by
 simp only [seamB,Zp,Zy,Zu]
 subst hl
 exact ⟨⟨⟨h0,h1⟩,h2⟩,fun i hi=>h3 (i+1) (by omega) (by have:=ZG.1 hi;omega)⟩
theorem znD {l:List (Int×Int)} {a b:Int} {i:Nat} (h1:1<=i) (h2:i<l.length) (h:stepAt l i=false):seamB l a b=false:=by
 cases e:seamB l a b
 ·rfl
 ·have:=(zk6 e).2.2.2 i h1 h2
  rw [h] at this;cases this
theorem zoK {p q:Int×Int} (h:stepB p q=true):p.1<=q.1/\q.1<=p.1+1/\p.2<=q.2/\q.2<=p.2+1/\(p.1<q.1∨p.2<q.2):=by
 simp only [stepB,Bool.or_eq_true,Zy] at h
 rcases h with (h | h) | h <;> subst h <;> simp <;> omega
theorem zk7 {l:List (Int×Int)} {n:Nat} (h0:l.getD 0 (0,0)=(0,0)) (h:∀i,1<=i->i<n->stepAt l i=true) :
  ∀i,i<n->0<=(l.getD i (0,0)).1/\(l.getD i (0,0)).1<=i/\0<=(l.getD i (0,0)).2/\(l.getD i (0,0)).2<=i:=by
 intro i
 induction i with
 | zero=>intro _;rw [h0];simp
 | succ i ih =>
  intro hi
  have h1:=ih (by omega)
  have h2:=zoK (h (i+1) (by omega) hi)
  rw [show i+1-1=i by omega] at h2
  omega
theorem zqi {l:List (Int×Int)} {n:Nat} (h:∀i,1<=i->i<n->stepAt l i=true) :
  ∀d i,i+d<n->(l.getD i (0,0)).1<=(l.getD (i+d) (0,0)).1/\(l.getD i (0,0)).2<=(l.getD (i+d) (0,0)).2:=by
 intro d
 induction d with
 | zero=>intro i _;simp
 | succ d ih =>
  intro i hi
  have h1:=ih i (by omega)
  have h2:=zoK (h (i+d+1) (by omega) (by omega))
  rw [show i+d+1-1=i+d by omega] at h2
  rw [show i+(d+1)=i+d+1 by omega]
  omega
theorem zqh {l:List (Int×Int)} {a b:Int} (h:seamB l a b=true):∀i,i<l.length->0<=(l.getD i (0,0)).1/\(l.getD i (0,0)).1<a/\0<=(l.getD i (0,0)).2/\(l.getD i (0,0)).2<b:=by
 intro i hi
 obtain ⟨h0,h1,h2,h3⟩:=zk6 h
 have hu:=zk7 h1 h3 i hi
 have hl:=zqi h3 (l.length-1-i) i (by omega)
 rw [show i+(l.length-1-i)=l.length-1 by omega,h2] at hl
 simp only at hl
 omega
def shX (l:List (Int×Int)) (j:Nat):Int:=(l.countP (fun p=>p.1==(j:Int)):Int)
def shY (l:List (Int×Int)) (j:Nat):Int:=(l.countP (fun p=>p.2==(j:Int)):Int)
def shXL (l:List (Int×Int)) (a b:Int):List Int:=if chkE l a b=0 then (List.range a.toNat).map (shX l) else []
def shYL (l:List (Int×Int)) (a b:Int):List Int:=if chkE l a b=0 then (List.range b.toNat).map (shY l) else []
theorem zbP {l:List (Int×Int)} {k:Nat} (h:k<l.length):l.take (k+1)=l.take k++[l.getD k (0,0)]:=by
 rw [List.take_succ_eq_append_getElem h,Zd,Zf h];rfl
theorem zhT {l:List (Int×Int)} {k:Nat} (h:k<l.length) (j:Nat):shX (l.take (k+1)) j=shX (l.take k) j+if (l.getD k (0,0)).1=(j:Int) then 1 else 0:=by
 rw [zbP h]
 unfold shX
 rw [List.countP_append,List.countP_singleton]
 generalize l.getD k (0,0)=q
 by_cases e:q.1=(j:Int) <;> simp [e]
theorem zhU {l:List (Int×Int)} {k:Nat} (h:k<l.length) (j:Nat):shY (l.take (k+1)) j=shY (l.take k) j+if (l.getD k (0,0)).2=(j:Int) then 1 else 0:=by
 rw [zbP h]
 unfold shY
 rw [List.countP_append,List.countP_singleton]
 generalize l.getD k (0,0)=q
 by_cases e:q.2=(j:Int) <;> simp [e]
theorem znG (l:List (Int×Int)) (j:Nat):0<=shX l j/\shX l j<=l.length/\0<=shY l j/\shY l j<=l.length:=by
 unfold shX shY
 have h1:=List.countP_le_length (p:=fun p:Int×Int=>p.1==(j:Int)) (l:=l)
 have h2:=List.countP_le_length (p:=fun p:Int×Int=>p.2==(j:Int)) (l:=l)
 omega
end Go.Proofs.YtbjgpbojjhldaaaGreatDoor
/- The console: cutting strings,and the turns of short rows,in plain Lean. -/
namespace Go.Proofs.YtbjgpbojjhldaaaGreatDoor
set_option maxRecDepth 100000
def cutF (c:UInt8):List UInt8->List UInt8×List UInt8×Bool
 | []=>([],[],false)
 | x::l=>if x=c then ([],l,true) else (x::(cutF c l).1,(cutF c l).2.1,(cutF c l).2.2)
def trnOk (n rise:Int):Bool:=inR n 1 200 && inR rise 0 (min n 50)
def trnE (n rise:Int):Int:=if trnOk n rise then 0 else 2
def trnV (n rise:Int) (i:Nat):Int:=(n*(2*(rise-i)-1)+rise) / (2*rise)
def trnL (n rise:Int):List Int:=if trnOk n rise then (List.range rise.toNat).map (trnV n rise) else []
end Go.Proofs.YtbjgpbojjhldaaaGreatDoor
/- The console in plain Lean: what a command answers,and what a script prints. -/
namespace Go.Proofs.YtbjgpbojjhldaaaGreatDoor
set_option maxRecDepth 100000
def kWords:List UInt8:=[119,111,114,100,115]
def kCells:List UInt8:=[99,101,108,108,115]
def kShortest:List UInt8:=[115,104,111,114,116,101,115,116]
def kExpand:List UInt8:=[101,120,112,97,110,100]
def kCloth:List UInt8:=[99,108,111,116,104]
def kHangs:List UInt8:=[104,97,110,103,115]
def kFactor:List UInt8:=[102,97,99,116,111,114]
def kFloats:List UInt8:=[102,108,111,97,116,115]
def kRepeat:List UInt8:=[114,101,112,101,97,116]
def kGauge:List UInt8:=[103,97,117,103,101]
def kStitches:List UInt8:=[115,116,105,116,99,104,101,115]
def kRows:List UInt8:=[114,111,119,115]
def kFit:List UInt8:=[102,105,116]
def kLine:List UInt8:=[108,105,110,101]
def kSpread:List UInt8:=[115,112,114,101,97,100]
def kShort:List UInt8:=[115,104,111,114,116]
def kJoin:List UInt8:=[106,111,105,110]
def kTwill:List UInt8:=[116,119,105,108,108]
def kSatin:List UInt8:=[115,97,116,105,110]
def okB:List UInt8:=[111,107]
structure Cs where
 g:Option (Int×Int×Int×Int)
 c:Option Gd
def cs0:Cs:=⟨none,none⟩
def itoaZ (n:Int):List UInt8:=if n<0 then 45::decD (-n).toNat else decD n.toNat
def numC (at_:List UInt8->Option Int) (s:List UInt8):Option Int:=match at_ s with
 | some n=>if -9999999<=n/\n<=9999999/\itoaZ n=s then some n else none
 | none=>none
def numsC (at_:List UInt8->Option Int):List (List UInt8)->Option (List Int)
 | []=>some []
 | s::r=>match numC at_ s with
  | none=>none
  | some n=>match numsC at_ r with
   | none=>none
   | some l=>some (n::l)
def listV (l:List Int):List UInt8:=joinB 32 (l.map itoaZ)
abbrev Ans:=List UInt8×Int
def oneV (p:Int×Int):Ans:=(itoaZ p.1,p.2)
def measV (st:Cs) (word:List UInt8) (l:List Int):Cs×Ans :=
 if word=kGauge then (if gerr (l.getD 0 0) (l.getD 1 0) (l.getD 2 0) (l.getD 3 0)≠0 then (st,([],gerr (l.getD 0 0) (l.getD 1 0) (l.getD 2 0) (l.getD 3 0))) else (⟨some (l.getD 0 0,l.getD 1 0,l.getD 2 0,l.getD 3 0),st.c⟩,(okB,0)))
 else match st.g with
  | none=>(st,([],6))
  | some (a,b,c,d)=>(st,if word=kStitches then oneV (scaleG (gok a b c d) (l.getD 0 0) 1000000 (near (l.getD 0 0*a) b) 1000000)
   else if word=kRows then oneV (scaleG (gok a b c d) (l.getD 0 0) 1000000 (near (l.getD 0 0*c) d) 1000000)
   else oneV (fitG (gok a b c d) a b (l.getD 0 0) (l.getD 1 0) (l.getD 2 0)))
def cntV_ (word:List UInt8) (l:List Int):Ans :=
 if word=kLine then (listV (lineL (l.getD 0 0) (l.getD 1 0) (l.getD 2 0)),lnE (l.getD 0 0) (l.getD 1 0) (l.getD 2 0))
 else if word=kSpread then (listV [(words (l.getD 0 0) (l.getD 1 0)).1,(words (l.getD 0 0) (l.getD 1 0)).2.1,(words (l.getD 0 0) (l.getD 1 0)).2.2],spE (l.getD 0 0) (l.getD 1 0))
 else if word=kShort then (listV (trnL (l.getD 0 0) (l.getD 1 0)),trnE (l.getD 0 0) (l.getD 1 0))
 else if edB (l.getD 0 0) (l.getD 1 0)≠0 then ([],edB (l.getD 0 0) (l.getD 1 0))
 else (listV (shXL (joinL (l.getD 0 0) (l.getD 1 0)) (l.getD 0 0) (l.getD 1 0))++[32,47,32]++listV (shYL (joinL (l.getD 0 0) (l.getD 1 0)) (l.getD 0 0) (l.getD 1 0)),chkE (joinL (l.getD 0 0) (l.getD 1 0)) (l.getD 0 0) (l.getD 1 0))
def fndV (l:List St):Ans:=if 60<l.length then ([],4) else (ttextV (findT l),ttextE (findT l))
def wrtV (at_:List UInt8->Option Int) (word text:List UInt8):Ans :=
 if word=kCells then (match pcL text with
  | none=>([],12)
  | some l=>(textL l,0))
 else if word=kExpand then (match parseT at_ text with
  | none=>([],12)
  | some t=>if tchkE t≠0 then ([],tchkE t) else if allE t.cells≠0 then ([],allE t.cells) else (textL t.cells,0))
 else match parseL text with
  | none=>([],12)
  | some l=>if word=kWords then (wcV l,wcE l) else fndV l
def wevV (st:Cs) (word:List UInt8) (l:List Int):Cs×Ans :=
 if word=kTwill then (match twV (l.drop 1) (l.getD 0 0) with
  | none=>(st,([],8))
  | some g=>(⟨st.g,some g⟩,(okB,0)))
 else match satV (l.getD 0 0) (l.getD 1 0) with
  | none=>(st,([],2))
  | some g=>(⟨st.g,some g⟩,(okB,0))
def lookV (c:Option Gd) (word:List UInt8):Ans:=match c with
 | none=>([],6)
 | some g=>if word=kCloth then (exB 10 47 (gtxV g),0)
  else if word=kHangs then (if hangV g then [121,101,115] else [110,111],0)
  else if word=kFactor then (listV [((facV g).1:Int),((facV g).2:Int)],0)
  else if word=kFloats then (listV [(longV g true:Int),(longV g false:Int)],0)
  else (listV [((latV g).1:Int),((latV g).2.1:Int),((latV g).2.2:Int)],0)
def kindC (word:List UInt8) (n:Nat):Nat :=
 if (word=kGauge/\n=4)∨((word=kStitches∨word=kRows)/\n=1)∨(word=kFit/\n=3) then 0
 else if (word=kLine/\n=3)∨((word=kSpread∨word=kShort∨word=kJoin)/\n=2) then 1
 else if (word=kTwill/\2<=n)∨(word=kSatin/\n=2) then 2 else 3
def nmbV (st:Cs) (word:List UInt8) (l:List Int):Cs×Ans :=
 if kindC word l.length=0 then measV st word l
 else if kindC word l.length=1 then (st,cntV_ word l)
 else if kindC word l.length=2 then wevV st word l else (st,([],12))
def doV (at_:List UInt8->Option Int) (st:Cs) (line:List UInt8):Cs×Ans :=
 if (cutF 32 line).1∈[kWords,kCells,kShortest,kExpand] then (st,if (cutF 32 line).2.2=false then ([],12) else wrtV at_ (cutF 32 line).1 (cutF 32 line).2.1)
 else if (cutF 32 line).1∈[kCloth,kHangs,kFactor,kFloats,kRepeat] then (st,if (cutF 32 line).2.2=true then ([],12) else lookV st.c (cutF 32 line).1)
 else match (if (cutF 32 line).2.2=true then numsC at_ (spl 32 (cutF 32 line).2.1) else some []) with
  | none=>(st,([],12))
  | some l=>nmbV st (cutF 32 line).1 l
def errB:List UInt8:=[101,114,114,111,114,32]
def ansV (a:Ans):List UInt8:=if a.2≠0 then errB++itoaZ a.2 else a.1
def outs (at_:List UInt8->Option Int):Cs->List (List UInt8)->List (List UInt8)
 | _,[]=>[]
 | st,x::l=>ansV (doV at_ st x).2::outs at_ (doV at_ st x).1 l
def unlB:List (List UInt8)->List UInt8
 | []=>[]
 | x::l=>x++10::unlB l
def lnsB (s:List UInt8):List (List UInt8):=if s=[] then [] else spl 10 s.dropLast
def runE (s:List UInt8):Int:=if 20000<s.length∨200<s.count 10 then 4 else if s≠[]/\s.getLast?≠some 10 then 12 else 0
def runV (at_:List UInt8->Option Int) (s:List UInt8):List UInt8:=if runE s≠0 then [] else unlB (outs at_ cs0 (lnsB s))
end Go.Proofs.YtbjgpbojjhldaaaGreatDoor
/- Charts in plain Lean. -/
namespace Go.Proofs.YtbjgpbojjhldaaaGreatDoor
set_option maxRecDepth 100000
structure Ro where
 back:Bool
 cells:List St
theorem Ro.ext_ {x y:Ro} (h1:x.back=y.back) (h2:x.cells=y.cells):x=y:=by
 cases x;cases y;simp only at h1 h2;subst h1;subst h2;rfl
instance:DecidableEq Ro:=fun x y =>
 if h:x.back=y.back/\x.cells=y.cells then isTrue (Ro.ext_ h.1 h.2) else isFalse (fun e=>h (by subst e;exact ⟨rfl,rfl⟩))
end Go.Proofs.YtbjgpbojjhldaaaGreatDoor
/- Written instructions,plain: the terms of a row,its line,the lines of rows. -/
namespace Go.Proofs.YtbjgpbojjhldaaaGreatDoor
set_option maxRecDepth 100000

end Go.Proofs.YtbjgpbojjhldaaaGreatDoor
