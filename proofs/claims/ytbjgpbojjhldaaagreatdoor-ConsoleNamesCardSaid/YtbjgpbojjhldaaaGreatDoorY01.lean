/- Parse of terms in plain Lean: it accepts just the texts of valid lists. -/
import Derived.Test.YtbjgpbojjhldaaaGreatDoorY00
import Derived.Lib.Replace
import Derived.WalkKit
import Derived.IntWalk
import Derived.WalkSpells
import Derived.Lib.Hide
import Derived.Deep.Draws
import Derived.Test.YtbjgpbojjhldaaaGreatDoorRows
import Derived.ProofKit
import Derived.OpenShut
import Derived.Lib.SmallJoins
namespace Go.Proofs.YtbjgpbojjhldaaaGreatDoor
set_option maxRecDepth 100000
theorem zoP:∀ {t:Tms},fineT t=true->t.size<=(wT t).length:=by
 intro t
 induction t with
 | nil=>intro _;simp [Tms.size]
 | cons n c g r ih1 ih2 =>
  intro h
  have hh:g.size+1<=(headW c g).length/\fineT r=true:=by
   by_cases hg:g = .nil
   ·subst hg
    rw [zaT] at h
    simp only [Zp] at h
    have h3:=(zct h.1.2).2.2
    refine ⟨?_,h.2⟩
    show 0+1<=(textL [c]).length
    have:=List.length_pos_iff.2 h3
    omega
   ·rw [zaS _ _ _ _ hg] at h
    simp only [Zp] at h
    refine ⟨?_,h.2⟩
    rw [zcZ hg]
    have:=ih1 h.1.2
    simp only [Zk,Zc,List.length_nil]
    omega
  rw [Tms.size]
  by_cases hr:r = .nil
  ·subst hr
   rw [zh3,Zc]
   simp only [Tms.size]
   omega
  ·rw [ze0 _ _ _ _ hr,Zc,Zc,Zk]
   have:=ih2 hh.2
   omega
theorem zsl {t:Tms} (h:fineT t=true) (h0:t ≠ .nil):wT t≠[]:=by
 intro e
 have h1:=zoP h
 have h2:=zhV h0
 rw [e] at h1
 simp at h1
 omega
def readT (at_:List UInt8->Option Int) (s:List UInt8):Option Tms:=if s=[] then some .nil else match rdL at_ (2*s.length+2) 0 s with
 | some (t,[])=>some t
 | _=>none
def ttextE (t:Tms):Int:=if tchkE t≠0 then tchkE t else if 3000<(wT t).length then 4 else 0
def ttextV (t:Tms):List UInt8:=if ttextE t=0 then wT t else []
def parseT (at_:List UInt8->Option Int) (s:List UInt8):Option Tms:=if 3000<s.length then none else (readT at_ s).bind fun t=>if ttextE t=0/\ttextV t=s then some t else none
theorem zen {t:Tms} (h:tchkE t=0):t.size<=200/\t.depth<=8/\fineT t=true:=by
 unfold tchkE at h
 split at h
 ·cases h
 ·split at h
  ·rename_i h1 h2
   exact ⟨by omega,by omega,h2⟩
  ·cases h
theorem zkN {at_:List UInt8->Option Int} (hat:∀k:Nat,2<=k->k<=200->at_ (decD k)=some (k:Int)) {t:Tms} (h:tchkE t=0):readT at_ (wT t)=some t:=by
 obtain ⟨h1,h2,h3⟩:=zen h
 by_cases h0:t = .nil
 ·subst h0
  rfl
 ·rw [readT,if_neg (zsl h3 h0)]
  have h4:=zoP h3
  have h5:=zp7 hat t.size t (Zb _) h0 h3 0 (2*(wT t).length+2) (by omega) (by omega) [] (.inl rfl)
  rw [ZF] at h5
  rw [h5]
theorem zh0 {t:Tms} {s:List UInt8} (hs:s.length<=3000):(ttextE t=0/\ttextV t=s)↔(tchkE t=0/\wT t=s):=by
 constructor
 ·rintro ⟨h1,h2⟩
  rw [ttextV,if_pos h1] at h2
  refine ⟨?_,h2⟩
  unfold ttextE at h1
  split at h1
  ·exact h1
  ·rename_i h3
   simpa using h3
 ·rintro ⟨h1,rfl⟩
  have h3:ttextE t=0:=by rw [ttextE,if_neg (by simpa using h1),if_neg (by omega)]
  exact ⟨h3,by rw [ttextV,if_pos h3]⟩
theorem ziE {at_:List UInt8->Option Int} (hat:∀k:Nat,2<=k->k<=200->at_ (decD k)=some (k:Int)) {s:List UInt8} {t:Tms}:parseT at_ s=some t↔s.length<=3000/\tchkE t=0/\wT t=s:=by
 constructor
 ·intro h
  unfold parseT at h
  split at h
  ·cases h
  ·rename_i hs
   obtain ⟨t',_,h3⟩:=Option.bind_eq_some_iff.1 h
   split at h3
   ·rename_i h4
    cases h3
    exact ⟨by omega,(zh0 (by omega)).1 h4⟩
   ·cases h3
 ·rintro ⟨h1,h2,rfl⟩
  rw [parseT,if_neg (by omega),zkN hat h2,ZV,if_pos ((zh0 h1).2 ⟨h2,rfl⟩)]
end Go.Proofs.YtbjgpbojjhldaaaGreatDoor
/- The other side of a stitch and of a list of stitches,in plain Lean. -/
namespace Go.Proofs.YtbjgpbojjhldaaaGreatDoor
set_option maxRecDepth 100000
end Go.Proofs.YtbjgpbojjhldaaaGreatDoor
/- The reference's Parse of stitches in plain Lean: it reads what Parse reads. -/
namespace Go.Proofs.YtbjgpbojjhldaaaGreatDoor
set_option maxRecDepth 100000
theorem zes (a b:List St):allB (a++b)=(allB a && allB b):=by simp [allB]
end Go.Proofs.YtbjgpbojjhldaaaGreatDoor
/- The reference's Parse of terms in plain Lean: it reads what Parse reads. -/
namespace Go.Proofs.YtbjgpbojjhldaaaGreatDoor
set_option maxRecDepth 100000
theorem zcw {n:Int} {c:St} {g r:Tms} (h:fineT (.cons n c g r)=true):(1<=n/\n<=200)/\fineT g=true/\fineT r=true/\(g = .nil->okSt c=true)/\(g ≠ .nil->c=st0):=by
 by_cases hg:g = .nil
 ·subst hg
  rw [zaT] at h
  simp only [Zp] at h
  exact ⟨zaq h.1.1,rfl,h.2,fun _=>h.1.2,fun h9=>absurd rfl h9⟩
 ·rw [zaS _ _ _ _ hg] at h
  simp only [Zp,Zy] at h
  exact ⟨zaq h.1.1.1,h.1.2,h.2,fun h9=>absurd h9 hg,fun _=>h.1.1.2⟩
end Go.Proofs.YtbjgpbojjhldaaaGreatDoor
/- Numbers in decimal,of any size that a pattern has: what is written is read. -/
namespace Go.Proofs.YtbjgpbojjhldaaaGreatDoor
set_option maxRecDepth 100000
theorem zme:∀n:Nat,n<10->isDg (dg n)=true/\(dg n).toNat-48=n/\(0<n->dg n≠48):=by decide
theorem zeZ (l:List UInt8) (x:UInt8):valD (l++[x])=10*valD l+(x.toNat-48):=by
 unfold valD
 rw [List.foldl_append]
 rfl
theorem zl8:∀(f n:Nat),∀x∈decF f n,isDg x=true:=by
 intro f
 induction f with
 | zero=>intro n x hx;cases hx
 | succ f ih =>
  intro n x hx
  rw [decF] at hx
  split at hx
  ·rename_i h
   simp at hx
   subst hx
   exact (zme n h).1
  ·rcases ZQ.1 hx with hx | hx
   ·exact ih _ x hx
   ·simp at hx
    subst hx
    exact (zme _ (Nat.mod_lt _ (by decide))).1
theorem zmb:∀(f n:Nat),n<10 ^ f->valD (decF f n)=n:=by
 intro f
 induction f with
 | zero=>intro n h;simp at h;subst h;rfl
 | succ f ih =>
  intro n h
  rw [decF]
  split
  ·rename_i h1
   have:=(zme n h1).2.1
   have e:=zeZ [] (dg n)
   rw [List.nil_append] at e
   rw [e,this]
   show 10*0+n=n
   omega
  ·rw [zeZ,ih (n / 10) (by rw [Nat.pow_succ] at h;omega),(zme (n % 10) (Nat.mod_lt _ (by decide))).2.1]
   omega
theorem zdi:∀(f k n:Nat),n<10 ^ (k+1)->(decF f n).length<=k+1:=by
 intro f
 induction f with
 | zero=>intro k n _;simp [decF]
 | succ f ih =>
  intro k n h
  rw [decF]
  split
  ·simp
  ·rename_i h1
   cases k with
   | zero=>simp at h;omega
   | succ k =>
    have:=ih k (n / 10) (by rw [Nat.pow_succ] at h;omega)
    rw [Zc]
    simp only [Zk,List.length_nil]
    omega
theorem zeA {n:Nat} (h:n<10 ^ 20):valD (decD n)=n:=zmb 20 n h
theorem zbo (n:Nat):∀x∈decD n,isDg x=true:=zl8 20 n
theorem zjx {n:Nat} (h:n<10000000):(decD n).length<=7:=zdi 20 6 n h
end Go.Proofs.YtbjgpbojjhldaaaGreatDoor
/- The words of stitches in plain Lean: what is written,and what is read. -/
namespace Go.Proofs.YtbjgpbojjhldaaaGreatDoor
set_option maxRecDepth 100000
def segs (k:Int) (p:Bool):List (List UInt8) :=
 if k=1 then (if p then [[112,117,114,108,32],[]] else [[107,110,105,116,32],[]]) else
 if k=2 then [[121,97,114,110,32,111,118,101,114]] else
 if k=3 then (if p then [[112,117,114,108,32],[32,116,111,103,101,116,104,101,114,32,40,102,105,114,115,116,32,111,110,32,116,111,112,41]] else [[107,110,105,116,32],[32,116,111,103,101,116,104,101,114,32,40,102,105,114,115,116,32,111,110,32,116,111,112,41]]) else
 if k=4 then (if p then [[112,117,114,108,32],[32,116,111,103,101,116,104,101,114]] else [[107,110,105,116,32],[32,116,111,103,101,116,104,101,114]]) else
 if k=5 then (if p then [[109,97,107,101,32],[32,111,117,116,32,111,102,32,49,32,112,117,114,108,119,105,115,101]] else [[109,97,107,101,32],[32,111,117,116,32,111,102,32,49]]) else
 if k=6 then (if p then [[99,114,111,115,115,32],[32,105,110,32,102,114,111,110,116,32,111,102,32],[32,112,117,114,108,119,105,115,101]] else [[99,114,111,115,115,32],[32,105,110,32,102,114,111,110,116,32,111,102,32],[]]) else
 if k=7 then (if p then [[99,114,111,115,115,32],[32,98,101,104,105,110,100,32],[32,112,117,114,108,119,105,115,101]] else [[99,114,111,115,115,32],[32,98,101,104,105,110,100,32],[]]) else
 if k=8 then (if p then [[115,108,105,112,32],[32,119,105,116,104,32,121,97,114,110,32,105,110,32,102,114,111,110,116]] else [[115,108,105,112,32],[]]) else
 if k=9 then [[99,97,115,116,32,111,110,32],[]] else
 if p then [[98,105,110,100,32,111,102,102,32],[32,112,117,114,108,119,105,115,101]] else [[98,105,110,100,32,111,102,102,32],[]]
def cntB (k:Int):Bool:=decide (k=1∨k=8)
def ilv:List (List UInt8)->List Nat->List UInt8
 | [],_=>[]
 | [s],_=>s
 | s::t::r,[]=>s++35::ilv (t::r) []
 | s::t::r,n::ns=>s++decD n++ilv (t::r) ns
def timesB:List UInt8:=[32,116,105,109,101,115]
def nothB:List UInt8:=[110,111,116,104,105,110,103]
def parW (s:St) (n:Nat):List Nat:=if cntB s.k then [n] else if (segs s.k s.p).length=3 then [s.a.toNat,s.b.toNat] else if (segs s.k s.p).length=2 then [s.a.toNat] else []
def tailW (s:St) (n:Nat):List UInt8:=if cntB s.k=false/\1<n then 32::(decD n++timesB) else []
def phW (s:St) (n:Nat):List UInt8:=ilv (segs s.k s.p) (parW s n)++tailW s n
def grpA:List St->List (St×Nat)
 | []=>[]
 | s::l=>match grpA l with
  | (t,n)::g=>if s=t then (t,n+1)::g else (s,1)::(t,n)::g
  | []=>[(s,1)]
def joinC:List (List UInt8)->List UInt8
 | []=>[]
 | [x]=>x
 | x::y::l=>x++44::32::joinC (y::l)
def wordsL (l:List St):List UInt8:=if l=[] then nothB else joinC ((grpA l).map (fun x=>phW x.1 x.2))
def wcE (l:List St):Int:=if allE l≠0 then allE l else if 2000<(wordsL l).length then 4 else 0
def wcV (l:List St):List UInt8:=if wcE l=0 then wordsL l else []
def cutP (p s:List UInt8):Option (List UInt8):=if s.take p.length=p then some (s.drop p.length) else none
def cutS (p s:List UInt8):Option (List UInt8):=if s.drop (s.length-p.length)=p/\p.length<=s.length then some (s.take (s.length-p.length)) else none
def mtG:List (List UInt8)->Bool->List UInt8->List Nat->Option (List Nat×List UInt8)
 | [],_,s,acc=>some (acc,s)
 | p::ps,true,s,acc=>if headD 4 s=0 then none else match cutP p (s.drop (headD 4 s)) with
  | none=>none
  | some r=>mtG ps true r (acc++[valD (s.take (headD 4 s))])
 | p::ps,false,s,acc=>match cutP p s with
  | none=>none
  | some r=>mtG ps true r acc
def endW (k:Int) (l:List Nat) (r:List UInt8):Nat×List UInt8 :=
 if cntB k then (l.headD 0,r) else match cutS timesB r with
  | none=>(1,r)
  | some t=>let u:=(cutP [32] t).getD t;(valD (u.take (headD 4 u)),u.drop (headD 4 u))
def stW (k:Int) (p:Bool) (l:List Nat):St:=if cntB k then ⟨k,p,0,0⟩ else match l with
 | [a,b]=>⟨k,p,a,b⟩
 | [a]=>⟨k,p,a,0⟩
 | _=>⟨k,p,0,0⟩
def tryW (s:List UInt8) (k:Int) (p:Bool):Option (St×Nat):=match mtG (segs k p) false s [] with
 | none=>none
 | some (l,r)=>if (endW k l r).2=[]/\1<=(endW k l r).1/\(endW k l r).1<=200/\okSt (stW k p l)=true/\phW (stW k p l) (endW k l r).1=s then some (stW k p l,(endW k l r).1) else none
def triesW (s:List UInt8):Nat->Int->Option (St×Nat)
 | 0,_=>none
 | f+1,k=>match tryW s k false with
  | some x=>some x
  | none=>match tryW s k true with
   | some x=>some x
   | none=>triesW s f (k+1)
def readPh (s:List UInt8):Option (St×Nat):=triesW s 10 1
def splC:List UInt8->List (List UInt8)
 | []=>[[]]
 | [x]=>[[x]]
 | x::y::l=>if x=44/\y=32 then []::splC l else match splC (y::l) with
  | h::t=>(x::h)::t
  | []=>[[x]]
def pcGo:List St->List (List UInt8)->Option (List St)
 | acc,[]=>some acc
 | acc,w::ws=>match readPh w with
  | none=>none
  | some (x,n)=>if 200<acc.length+n then none else pcGo (acc++List.replicate n x) ws
def pcL (s:List UInt8):Option (List St):=if 2000<s.length then none else if s=nothB then some [] else match pcGo [] (splC s) with
 | none=>none
 | some l=>if allE l=0/\wordsL l=s then some l else none
end Go.Proofs.YtbjgpbojjhldaaaGreatDoor
/- Grids in plain Lean: satins,twills,what is asked about a cloth. -/
namespace Go.Proofs.YtbjgpbojjhldaaaGreatDoor
set_option maxRecDepth 100000
structure Gd where
 w:Nat
 h:Nat
 b:List Bool
def okG (g:Gd):Prop:=1<=g.w/\g.w<=64/\1<=g.h/\g.h<=64/\g.b.length=g.w*g.h
def Gd.at (g:Gd) (x y:Nat):Bool:=g.b.getD (y*g.w+x) false
def Gd.row (g:Gd) (y:Nat):List Bool:=(g.b.drop (y*g.w)).take g.w
def rowGo:List Int->Nat->List Bool->Option (List Bool)
 | [],_,out=>some out
 | n::l,i,out=>if n<1∨64-(out.length:Int)<n then none else rowGo l (i+1) (out++List.replicate n.toNat (decide (i % 2=0)))
def rowR (l:List Int):Option (List Bool):=if l.length<2∨64<l.length∨l.length % 2=1 then none else rowGo l 0 []
def turnR (r:List Bool) (k:Nat):List Bool:=r.drop (r.length-k)++r.take (r.length-k)
def twGo (r:List Bool) (step:Nat):Nat->Nat->List Bool->Nat->Gd
 | 0,_,b,h=>⟨r.length,h,b⟩
 | f+1,k,b,h=>if (k+step) % r.length=0 then ⟨r.length,h+1,b++turnR r k⟩ else twGo r step f ((k+step) % r.length) (b++turnR r k) (h+1)
def modZ (a:Int) (n:Nat):Nat:=(Int.tmod (Int.tmod a n+n) n).toNat
def twV (l:List Int) (step:Int):Option Gd:=match rowR l with
 | none=>none
 | some r=>some (twGo r (modZ step r.length) r.length 0 [] 0)
def moveB (n m:Int):Bool:=decide (5<=n) && decide (n<=64) && decide (1<m) && decide (m<n-1) && decide (Nat.gcd n.toNat m.toNat=1)
def satV (n m:Int):Option Gd:=if moveB n m then some ⟨n.toNat,n.toNat,(List.range (n.toNat*n.toNat)).map (fun i=>decide (i % n.toNat=(i / n.toNat*m.toNat) % n.toNat))⟩ else none
def cellB (x:Bool):UInt8:=if x then 120 else 46
def gtxGo (g:Gd):Nat->List UInt8
 | 0=>[]
 | y+1=>(g.row y).map cellB++10::gtxGo g y
def gtxV (g:Gd):List UInt8:=gtxGo g g.h
def exB (a b:UInt8) (l:List UInt8):List UInt8:=l.map (fun x=>if x=a then b else x)
def upOf (g:Gd) (a:Nat):List Nat:=if a<g.w then ((List.range g.h).filter (fun y => !g.at a y)).map (fun y=>g.w+y) else (List.range g.w).filter (fun x=>g.at x (a-g.w))
def bfsIn (d:Int):List Nat->List Int->List Nat->List Int×List Nat
 | [],far,q=>(far,q)
 | b::l,far,q=>if far.getD b 0<0 then bfsIn d l (far.set b (d+1)) (q++[b]) else bfsIn d l far q
def bfsGo (next:Nat->List Nat):Nat->List Int->List Nat->List Int
 | 0,far,_=>far
 | _+1,far,[]=>far
 | f+1,far,a::q=>bfsGo next f (bfsIn (far.getD a 0) (next a) far q).1 (bfsIn (far.getD a 0) (next a) far q).2
def farV (next:Nat->List Nat) (n k:Nat):List Int:=bfsGo next n ((List.replicate n (-1)).set k 0) [k]
def reachV (next:Nat->List Nat) (n k:Nat):List Nat:=(List.range n).filter (fun i=>decide (0<=(farV next n k).getD i 0))
def lessS (l best:List Nat):Bool:=decide (l.length<best.length) || (decide (l.length=best.length) && decide (l.headD 0<best.headD 0))
def firstV (g:Gd):List Nat:=(List.range (g.w+g.h)).foldl (fun best a=>if best=[]∨lessS (reachV (upOf g) (g.w+g.h) a) best=true then reachV (upOf g) (g.w+g.h) a else best) []
def hangV (g:Gd):Bool:=decide ((firstV g).length=g.w+g.h)
def kindsV:List (List Bool)->List (List Bool)->List (List Bool)
 | [],seen=>seen
 | l::r,seen=>if l∈seen then kindsV r seen else kindsV r (seen++[l])
def rowsG (g:Gd):List (List Bool):=(List.range g.h).map g.row
def turnG (g:Gd):Gd:=⟨g.h,g.w,(List.range (g.w*g.h)).map (fun i=>g.at (i / g.h) (i % g.h))⟩
def facV (g:Gd):Nat×Nat:=((kindsV (rowsG (turnG g)) []).length,(kindsV (rowsG g) []).length)
def rturn (a b:List Bool) (dx:Nat):Bool:=decide (a.drop dx=b.take (b.length-dx)) && decide (a.take dx=b.drop (b.length-dx))
def repB (g:Gd) (dx dy:Nat):Bool:=(List.range g.h).all (fun y=>rturn (g.row ((y+dy % g.h) % g.h)) (g.row y) (dx % g.w))
def latA (g:Gd):Nat->Nat->Nat
 | 0,a=>a
 | f+1,a=>if repB g a 0 then a else latA g f (a+1)
def latB (g:Gd) (c:Nat):Nat->Nat->Option Nat
 | 0,_=>none
 | f+1,b=>if repB g b c then some b else latB g c f (b+1)
def latC (g:Gd) (a:Nat):Nat->Nat->Nat×Nat
 | 0,c=>(a-1,c)
 | f+1,c=>match latB g c a 0 with
  | some b=>(b,c)
  | none=>latC g a f (c+1)
def latV (g:Gd):Nat×Nat×Nat:=(latA g g.w 1,latC g (latA g g.w 1) g.h 1)
def floGo (face:Bool):List Bool->Nat->List Nat
 | [],0=>[]
 | [],n+1=>[n+1]
 | c::l,n=>if c=face then floGo face l (n+1) else (if n=0 then floGo face l 0 else n::floGo face l 0)
def floV (face:Bool) (l:List Bool):List Nat:=match l.idxOf? (!face) with
 | none=>[l.length]
 | some k=>floGo face (l.drop k++l.take k) 0
def thrG (g:Gd):List (List Bool):=(rowsG (turnG g))++(rowsG g).map (fun l=>l.map (fun x => !x))
def longV (g:Gd) (face:Bool):Nat:=(((thrG g).flatMap (floV face))).foldl max 0
end Go.Proofs.YtbjgpbojjhldaaaGreatDoor
/- strings.Replace and ReplaceAll of one byte,in plain words. -/
namespace Go.Proofs.YtbjgpbojjhldaaaGreatDoor
set_option maxRecDepth 100000
open Go
def rep1 (x:List UInt8):List UInt8->List UInt8
 | []=>[]
 | c::l=>if c=35 then x++l else c::rep1 x l
theorem znr (x:List UInt8):∀l,(Lib.index l [35] = -1/\rep1 x l=l/\(35:UInt8) ∉ l)∨∃i:Nat,Lib.index l [35]=i/\rep1 x l=l.take i++x++l.drop (i+1):=by
 intro l
 induction l with
 | nil=>exact .inl ⟨rfl,rfl,by simp⟩
 | cons c l ih =>
  rw [zaH,rep1]
  by_cases h:c=35
  ·subst h
   right
   exact ⟨0,by simp,by simp⟩
  ·have h2:¬(35:UInt8)=c:=fun e=>h e.symm
   rw [if_neg h2,if_neg h]
   rcases ih with ⟨h3,h4,h5⟩ | ⟨i,h3,h4⟩
   ·left
    rw [h3,h4]
    exact ⟨rfl,rfl,by simp [h2,h5]⟩
   ·right
    rw [h3,h4]
    refine ⟨i+1,?_,by simp⟩
    rw [if_neg (by first | (simp;done) | (simp;omega))]
    omega
theorem zkP:∀l,rep1 [35] l=l:=by
 intro l
 induction l with
 | nil=>rfl
 | cons c l ih =>
  rw [rep1,ih]
  split
  ·rename_i h;rw [h];rfl
  ·rfl
theorem zns (x l:List UInt8):Lib.replace l [35] x 1=rep1 x l:=by
 rw [Lib.replace]
 by_cases hx:([35]==x)=true
 ·rw [if_pos hx]
  have:x=[35]:=by simpa using (beq_iff_eq.1 hx).symm
  subst this
  exact (zkP l).symm
 ·rw [if_neg hx]
  rcases znr x l with ⟨h1,h2,_⟩ | ⟨i,h1,h2⟩
  ·rw [h2,Lib.replaceNum,Lib.count_miss h1]
   rfl
  ·rw [h2,Lib.replaceNum,Lib.count_hit (by simp) h1]
   rw [if_neg (by omega)]
   show Lib.replaceK [35] x 1 l=_
   rw [Lib.replaceK_hit _ _ _ _ i h1]
   rfl
theorem znt (a b:UInt8):∀(m:Nat) (l:List UInt8),l.length<=m->Lib.replaceK [a] [b] (Lib.count l [a]) l=exB a b l:=by
 intro m
 induction m with
 | zero =>
  intro l h
  obtain rfl:l=[]:=Zz (by omega)
  rw [Lib.count_miss (zcy a)]
  rfl
 | succ m ih =>
  intro l h
  rcases hi:l with _ | ⟨x,t⟩
  ·rw [Lib.count_miss (zcy a)];rfl
  ·subst hi
   have ht:t.length<=m:=by simpa using h
   have h9:=ih t ht
   by_cases hx:x=a
   ·subst hx
    have h0:Lib.index (x::t) [x]=(0:Nat):=by rw [zaH];simp
    rw [Lib.count_hit (by simp) h0,Nat.add_comm 1,Lib.replaceK_hit _ _ _ _ 0 h0]
    have h3:List.drop (0+([x]:List UInt8).length) (x::t)=t:=rfl
    rw [h3,h9]
    simp [exB]
   ·have aa:¬a=x:=fun e=>hx e.symm
    have he:exB a b (x::t)=x::exB a b t:=by simp [exB,hx]
    rw [he,<-h9]
    rcases Lib.index_spec t [a] with ⟨hm,_⟩ | ⟨i,hm,_⟩
    ·have h1:Lib.index (x::t) [a] = -1:=by rw [zaH,if_neg aa,hm];rfl
     rw [Lib.count_miss hm,Lib.count_miss h1]
     rfl
    ·have h1:Lib.index (x::t) [a]=((i+1:Nat):Int):=by
      rw [zaH,if_neg aa,hm,if_neg (by first | (simp;done) | (simp;omega))];rfl
     rw [Lib.count_hit (by simp) hm,Lib.count_hit (by simp) h1,Nat.add_comm 1,Nat.add_comm 1,Lib.replaceK_hit _ _ _ _ _ h1,Lib.replaceK_hit _ _ _ _ _ hm]
     simp only [List.take_succ_cons,Zk,List.length_nil,Nat.zero_add,List.drop_succ_cons,ZM]
theorem zqW {a b:UInt8} (hab:a≠b) (l:List UInt8):Lib.replaceAll l [a] [b]=exB a b l:=by
 rw [Lib.replaceAll,Lib.replace,if_neg (by simp [hab]),Lib.replaceNum,if_pos (by omega)]
 exact znt a b l.length l (Zb _)
theorem zjm (c:UInt8) (l:List UInt8):Lib.count l [c]<=l.length:=by
 have h1:=zfQ c l.length l (Zb _)
 have key:∀l:List UInt8,(spl c l).length<=l.length+1:=by
  intro l
  induction l with
  | nil=>simp [spl]
  | cons x l ih =>
   rw [zcQ]
   simp only [Zk]
   split <;> omega
 have h2:=key l
 omega
def sepC:List UInt8:=[44,32]
theorem zcb (x:UInt8) (l:List UInt8):Lib.index (x::l) sepC=if (sepC.isPrefixOf (x::l))=true then 0 else if Lib.index l sepC == -1 then -1 else Lib.index l sepC+1:=by
 rw [Lib.index]
theorem zsh (x:UInt8) (l:List UInt8):sepC.isPrefixOf (x::l)=true↔x=44/\l.head?=some 32:=by
 cases l with
 | nil=>simp [sepC,List.isPrefixOf]
 | cons y r =>
  simp only [sepC,List.isPrefixOf,Bool.and_true,Zp,beq_iff_eq,List.head?_cons,Option.some.injEq]
  exact ⟨fun h=>⟨h.1.symm,h.2.symm⟩,fun h=>⟨h.1.symm,h.2.symm⟩⟩
theorem zrD:∀(m:Nat) (l:List UInt8),l.length<=m->Lib.splitK sepC 0 (Lib.count l sepC) l=splC l/\(splC l).length=Lib.count l sepC+1:=by
 intro m
 induction m using Nat.strongRecOn with
 | ind m ih =>
  intro l h
  rcases hi:l with _ | ⟨x,t⟩
  ·rw [Lib.count_miss (show Lib.index [] sepC = -1 from rfl)]
   exact ⟨rfl,rfl⟩
  ·subst hi
   rcases ht:t with _ | ⟨y,r⟩
   ·subst ht
    have h0:Lib.index [x] sepC = -1:=by
     rw [zcb,if_neg (by rw [zsh];simp)]
     rfl
    rw [Lib.count_miss h0]
    exact ⟨rfl,rfl⟩
   ·subst ht
    by_cases hx:x=44/\y=32
    ·have h0:Lib.index (x::y::r) sepC=(0:Nat):=by
      rw [zcb,if_pos (by rw [zsh];exact ⟨hx.1,by rw [hx.2];rfl⟩)]
      rfl
     have hd:(x::y::r).drop (0+sepC.length)=r:=rfl
     obtain ⟨g1,g2⟩:=ih r.length (by simp only [Zk] at h;omega) r (Zb _)
     rw [Lib.count_hit (by simp [sepC]) h0,hd,Nat.add_comm 1,Lib.splitK,h0,splC,if_pos hx]
     refine ⟨?_,by rw [Zk,g2]⟩
     rw [if_neg (by simp)]
     have aa:(x::y::r).drop (((0:Nat):Int).toNat+sepC.length)=r:=rfl
     rw [aa,g1]
     rfl
    ·have hp:¬(sepC.isPrefixOf (x::y::r))=true:=by
      rw [zsh]
      simpa using hx
     obtain ⟨g1,g2⟩:=ih (y::r).length (by simp only [Zk] at h ⊢;omega) (y::r) (Zb _)
     rw [splC,if_neg hx]
     rcases Lib.index_spec (y::r) sepC with ⟨hm,_⟩ | ⟨i,hm,_⟩
     ·have h1:Lib.index (x::y::r) sepC = -1:=by rw [zcb,if_neg hp,hm];rfl
      rw [Lib.count_miss hm] at g1 g2
      rw [Lib.count_miss h1,<-g1]
      exact ⟨rfl,rfl⟩
     ·have h1:Lib.index (x::y::r) sepC=((i+1:Nat):Int):=by
       rw [zcb,if_neg hp,hm,if_neg (by first | (simp;done) | (simp;omega))];rfl
      rw [Lib.count_hit (by simp [sepC]) hm,Nat.add_comm 1,Lib.splitK,hm,if_neg (by first | (simp;done) | (simp;omega))] at g1
      rw [Lib.count_hit (by simp [sepC]) hm] at g2
      have ab:(x::y::r).drop (i+1+sepC.length)=(y::r).drop (i+sepC.length):=by
       rw [show i+1+sepC.length=(i+sepC.length)+1 by omega,List.drop_succ_cons]
      rw [Lib.count_hit (by simp [sepC]) h1,Nat.add_comm 1,Lib.splitK,h1,if_neg (by first | (simp;done) | (simp;omega)),<-g1]
      simp only [Int.toNat_natCast,Nat.add_zero,List.take_succ_cons]
      rw [ab]
      refine ⟨rfl,?_⟩
      rw [<-g1] at g2
      simp only [Int.toNat_natCast,Nat.add_zero] at g2
      rw [Zk] at g2 ⊢
      omega
theorem ziZ (s:ByteArray):(Lib.splitB ⟨#[44,32]⟩ 0 (Lib.countB s ⟨#[44,32]⟩) s).map (·.data.toList)=splC s.data.toList:=by
 rw [Lib.splitB_data]
 exact (zrD _ _ (Zb _)).1
theorem zkb:∀(ws:List (List UInt8)),Lib.join ws [44,32]=joinC ws:=by
 intro ws
 induction ws with
 | nil=>rfl
 | cons x ws ih =>
  cases ws with
  | nil=>simp [Lib.join_one,joinC]
  | cons y ws =>
   rw [Lib.join_cons]
   rw [Lib.join_cons] at ih
   rw [joinC,<-ih]
   simp [Lib.joinTail]
theorem zhs (p l:List UInt8):Lib.hasPrefix l p=(cutP p l).isSome:=by
 rw [Lib.hasPrefix,cutP,Bool.eq_iff_iff,List.isPrefixOf_iff_prefix,List.prefix_iff_eq_take]
 by_cases h:l.take p.length=p
 ·rw [if_pos h];simp [h]
 ·rw [if_neg h];simp;exact fun e=>h e.symm
theorem zht (p l:List UInt8):Lib.hasSuffix l p=(cutS p l).isSome:=by
 rw [Lib.hasSuffix,cutS,Bool.eq_iff_iff,List.isSuffixOf_iff_suffix,List.suffix_iff_eq_drop]
 by_cases h:l.drop (l.length-p.length)=p/\p.length<=l.length
 ·rw [if_pos h];simp [h.1]
 ·rw [if_neg h]
  simp only [Option.isSome_none,Bool.false_eq_true,iff_false]
  intro e
  apply h
  refine ⟨e.symm,?_⟩
  have h1:=congrArg List.length e
  rw [ZA] at h1
  omega
end Go.Proofs.YtbjgpbojjhldaaaGreatDoor
/- Small facts on worlds that have only grown,for the walks of this claim. -/
namespace Go.Proofs.YtbjgpbojjhldaaaGreatDoor
set_option maxRecDepth 100000
open Go.RowKit
def Ext (w w':World):Prop:=Below w.heap.size w w'
theorem Ext.refl (w:World):Ext w w:=Below.refl _ _
theorem Ext.trans {a b c:World} (h:Ext a b) (k:Ext b c):Ext a c:=Below.trans h (Below.mono k (Below.size h))
theorem Ext.alloc {a b:World} (h:Ext a b) (o:Obj):Ext a (b.alloc o):=Below.alloc h (Below.size h) o
theorem Ext.drew {a b:World} (h:Ext a b):Ext a b.drew:=Below.drew h
theorem Ext.drewN {a b:World} (h:Ext a b) (n:Nat):Ext a (b.drewN n):=⟨h.os,h.tape,h.output,h.size,h.block⟩
theorem zr (w : World) : Ext w w := Ext.refl w
theorem za {a b : World} (h : Ext a b) (o : Obj) : Ext a (b.alloc o) := h.alloc o
theorem zd {a b : World} (h : Ext a b) : Ext a b.drew := h.drew
theorem zn {a b : World} (h : Ext a b) (n : Nat) : Ext a (b.drewN n) := h.drewN n
theorem zt {a b c : World} (h : Ext a b) (k : Ext b c) : Ext a c := Ext.trans h k
theorem zx {a b:World} (h:Ext a b:=by repeat (first|exact zr _|assumption|refine za ?_ _|refine zd ?_|refine zn ?_ _|refine zt ?_ (by assumption))):Ext a b:=h
theorem Za:∀ {p:Prop},p->Go.RowKit.Hid p:=@Lib.hid
theorem Ze:∀ (w:World),Ext w w:=@Ext.refl
theorem Zg:∀ (w:World) (a b:Addr) (v:Value),a≠b->(w.setCell a v).cell? b=w.cell? b:=@World.cell?_setCell_other
theorem Zj:∀ (n:Int), -9223372036854775808<=n/\n<=9223372036854775807->IntKind.i64.wrap n=n:=@IntWalk.i64_in
theorem Zl:∀ {B:Nat} {w w' : World},Below B w w' -> ∀ {p:Addr},p.block<B->w'.cell? p=w.cell? p:=@Below.cell
theorem Zm:∀ {a b c:World},Ext a b->Ext b c->Ext a c:=@Ext.trans
theorem Zn:∀ (w:World) (a:Addr) {u:Value},w.cell? a=some u->a.block<w.heap.size:=@World.block_lt_of_cell?
theorem Zo:∀ (w:World) (a b:Addr) (v:Value),(w.setCell a v).frozen? b=w.frozen? b:=@World.frozen?_setCell
theorem Zq:∀ (w:World) (a:Addr) (v:Value) {u:Value},w.cell? a=some u->(w.setCell a v).cell? a=some v:=@World.cell?_setCell_same
theorem Zt:∀ {B:Nat} {w w' : World},Below B w w' -> w.heap.size<=w'.heap.size:=@Below.size
theorem ZD:∀ {a b:World},Ext a b->∀ (o:Obj),Ext a (b.alloc o):=@Ext.alloc
theorem ZJ:∀ {B:Nat} {a w:World},Below B a w->∀ {p:Addr},B<=p.block->∀ (u:Value),Below B a (w.setCell p u):=@Below.setCell
theorem ZP:∀ (w:World) (o:Obj),(w.alloc o).heap.size=w.heap.size+1:=@World.size_alloc
theorem ZR:∀ {a b:World},Ext a b->Ext a b.drew:=@Ext.drew
theorem Ext.facts {W w1:World} (hb:Ext W w1):(∀b o,b<W.heap.size->w1.cell? ⟨b,o,none⟩=W.cell? ⟨b,o,none⟩)/\(∀b o,b<W.heap.size->w1.frozen? ⟨b,o,none⟩=W.frozen? ⟨b,o,none⟩)/\(∀b,b<W.heap.size->b<w1.heap.size) :=
 ⟨fun b o h=>Below.cell (p:=⟨b,o,none⟩) hb h,fun b o h=>Below.frozen (p:=⟨b,o,none⟩) hb h,fun _ h=>Zi h (Below.size hb)⟩
theorem zbd {a b A B:Int} (h0:0<=a) (h1:a<=A) (h2:0<=b) (h3:b<=B):0<=a*b/\a*b<=A*B :=
 ⟨Int.mul_nonneg h0 h2,Int.mul_le_mul h1 h3 h2 (by omega)⟩
end Go.Proofs.YtbjgpbojjhldaaaGreatDoor
/- The frame of a law's row: what it returns is true,and what was in memory before the call reads as it did. -/
namespace Go.Proofs.YtbjgpbojjhldaaaGreatDoor
set_option maxRecDepth 100000
open Go.ChangeShapes Go.WideShapes Go.ChangeAt Go.RowKit
theorem zmL:laidOutB Tryz.prog=true:=by kernel_rfl
theorem own:ownKnob Tryz.prog.godebug=none:=by kernel_rfl
section
variable {H:Type} {enc:TypeId×Value->H} {P:Program}
theorem zeX (hl:laidOutB P=true) {W W':World} (hb:Below W.heap.size W W') {sp:Nat->Bool} :
  ∀ {ts:List TypeId} {vs:List Value} {ds:List (DataW H)} {ps:List MemPlace},(∀t∈ts,P.readableRec t=true/\t<P.types.size) ->
   DataW.TrodAll enc P W 0 (fun _=>true) true ts vs ds ps->(∀x∈ps,x.block<W.heap.size)->(∀x∈ps,sp x.block=true)->DataW.TrodAll enc P W' 0 sp true ts vs ds ps:=by
 intro ts
 induction ts with
 | nil =>
  intro vs ds ps _ h _ _
  obtain ⟨rfl,rfl,rfl⟩:=trodAll_nil h
  exact trodAll_mk0
 | cons t ts ih =>
  intro vs ds ps hr h hlt aa
  obtain ⟨v,vs',d,ds',p,q,rfl,rfl,rfl,h1,h2⟩:=trodAll_cons h
  obtain ⟨ab,ac⟩:=hr t (by simp)
  refine trodAll_cons_mk (WideElems.Trod_stays hl ab ac h1 (fun x hx=>hb.same (hlt x (by simp [hx]))) (fun x hx=>aa x (by simp [hx]))) ?_
  exact ih (fun t ht=>hr t (by simp [ht])) h2 (fun x hx=>hlt x (by simp [hx])) (fun x hx=>aa x (by simp [hx]))
theorem zeO {f:Func} {s:ChangeSpec} {apart fresh handsOn again:Bool} {W W':World} {args:Array Value} {v:Value} {ds gs:List (DataW H)} {before pa pv:List MemPlace}
  (hW:DataW.Whole enc P f.params.toList s.vars apart W args.toList ds gs before)
  (hres:∀(b:Nat) (sp:Nat->Bool) (hd:Bool),DataW.TrodAll enc P W' b sp hd f.resultTypes.toList (v.resultList f.resultTypes.size) (s.fn H (ds++gs)).results [])
  (hargs:∀sp:Nat->Bool,(∀p∈before,sp p.block=true)->DataW.TrodAll enc P W' 0 sp true f.params.toList args.toList (s.fn H (ds++gs)).args pa)
  (hvars:∀sp:Nat->Bool,(∀p∈before,sp p.block=true)->DataW.TrodVars enc P W' sp s.vars (s.fn H (ds++gs)).vars pv)
  (hps:before=pa++pv) (hb:Below W.heap.size W W')
  (hok:∀(j:Nat) (t:TypeId) (r:Value),f.resultTypes[j]?=some t->(v.resultList f.resultTypes.size)[j]?=some r->Value.okWide P W' .any 0 t r) :
  s.post enc P f apart fresh handsOn again W args v W':=by
 have hlt:∀p∈before,p.block<W.heap.size:=fun p hp=>hW.lt p hp
 have aa:∀p∈before,(fun b=>decide (b<W.heap.size)) p.block=true:=fun p hp=>by simpa using hlt p hp
 refine ⟨ds,gs,before,[],pa,pv,hW,hres _ _ _,hargs _ aa,hvars _ aa,World.keptBut_mono (fun p hp=>⟨hp,?_⟩) (hb.frame (· ∈ before)),fun _=>?_⟩
 ·rw [hps,ZQ] at hp
  exact Or.inr hp
 ·obtain ⟨_,_,_,_,_,hz,hn⟩:=hW
  refine ⟨hok,_,_,([]++pa)++pv,⟨[]++pa,pv,trodAll_append (hargs _ (fun _ _=>rfl)) (hres _ _ _),hvars _ (fun _ _=>rfl),rfl,?_,?_⟩,?_⟩
  ·intro b off hp
   have ab:MemPlace.cell b off∈before:=by rw [hps];simpa using hp
   rw [hb.frozen (hlt _ ab)]
   exact hz b off ab
  ·intro ha
   have:=hn ha
   rw [hps] at this
   simpa using this
  ·intro p hp _
   rw [hps]
   simpa using hp
theorem zmO {f:Func} {s:ChangeSpec} {apart fresh handsOn again:Bool} {tb:TypeId} (hl:laidOutB P=true) (hf:f.resultTypes=#[tb]) (hu:P.underlying tb=some .bool)
  (hr:f.params.toList.all (fun t=>P.readableRec t && decide (t<P.types.size))=true) (hs0:s.vars=[])
  {W W':World} {args:Array Value} {ds gs:List (DataW H)} {before:List MemPlace} (hW:DataW.Whole enc P f.params.toList s.vars apart W args.toList ds gs before)
  (hs:s.fn H (ds++gs)={ results:=[.lit (.bool true)],args:=ds }) (hb:Ext W W'):s.post enc P f apart fresh handsOn again W args (.bool true) W':=by
 have hlt:∀p∈before,p.block<W.heap.size:=fun p hp=>hW.lt p hp
 have ab:=hW
 obtain ⟨p,q,hA,hV,ac,_,_⟩:=hW
 rw [hs0] at hV
 obtain ⟨rfl,rfl⟩:=trodVars_none hV
 have aa:before=p:=by rw [ac];simp
 subst aa
 refine zeO (pa:=before) (pv:=[]) ab (fun b sp hd=>?_) (fun sp hsp=>?_) (fun sp hsp=>?_) (by simp) hb (fun j t r h1 h2=>?_)
 ·rw [hs,hf]
  exact trodAll_mk1 (shut_bool hu true)
 ·rw [hs]
  refine zeX hl hb (fun t ht=>?_) hA hlt hsp
  have:=Zu.1 hr t ht
  simpa using this
 ·rw [hs,hs0]
  rfl
 ·rw [hf] at h1 h2
  match j,h1,h2 with
  | 0,h1,h2 =>
   obtain rfl:tb=t:=by simpa using h1
   obtain rfl:Value.bool true=r:=by simpa [Value.resultList] using h2
   exact okWide_bool_mk hu true
end

end Go.Proofs.YtbjgpbojjhldaaaGreatDoor
