/- The text of a pattern, plain: what is written is read (the program's reader). -/
import Derived.Test.YtkneghkbgingdaaGreatDoorT01
import Derived.WalkKit
import Derived.IntWalk
import Derived.WalkSpells
import Derived.Lib.Hide
import Derived.Deep.Draws
import Derived.Test.YtkneghkbgingdaaGreatDoorProg
import Derived.Shelf.Strings.BuilderK
import Derived.Laws.OwnMore
import Derived.Laws.Rows
import Derived.Deep.AppendLies
import Derived.RegionTactic
import Derived.Maps.AppendAt
import Derived.OwnWalk
import Derived.Deep.RegionHeld3
import Derived.Deep.Slices
import Derived.Test.YtkneghkbgingdaaGreatDoorRows
import Derived.OpenShut
import Derived.Laws.StructEq
import Derived.Lib.SmallJoins
namespace Go.Proofs.YtkneghkbgingdaaGreatDoor
set_option maxRecDepth 100000
def pw:List UInt8:=[112,97,116,116,101,114,110]
def gw:List UInt8:=[103,97,117,103,101]
def sw:List UInt8:=[115,116,117,102,102]
def cw:List UInt8:=[115,101,99,116,105,111,110]
def line3 (a b:List UInt8) (n:Int):List UInt8:=a++32::(b++32::decD n.toNat)
def gaugeL (g1 g2 g3 g4:Int):List UInt8:=gw++32::(decD g1.toNat++32::(decD g2.toNat++32::(decD g3.toNat++32::decD g4.toNat)))
def secsT:List Sec->Option (List UInt8)
 | []=>some []
 | x::r=>if rowsE x.s x.rows≠0 then none else (secsT r).map fun t=>line3 cw x.nm x.s++10::(rowsV x.s x.rows++t)
def stufT (st:List Stf):List UInt8:=unl (st.map fun x=>line3 sw x.nm x.g)
def patX (nm:List UInt8) (g1 g2 g3 g4:Int) (st:List Stf) (se:List Sec):Option (List UInt8) :=
 (secsT se).map fun t=>pw++32::nm++10::(gaugeL g1 g2 g3 g4++10::(stufT st++t))
structure PSt where
 nm:List UInt8
 g1:Int
 g2:Int
 g3:Int
 g4:Int
 st:List Stf
 se:List Sec
def readL (at_:List UInt8->Option Int) (p:PSt) (i:Nat) (s:List UInt8):Option PSt :=
 if i=0 then (if (spl 32 s).length=2 then some { p with nm:=(spl 32 s).getD 1 [] } else none)
 else if i=1 then (if (spl 32 s).length=5 then some { p with g1:=numP at_ ((spl 32 s).getD 1 []),g2:=numP at_ ((spl 32 s).getD 2 []),g3:=numP at_ ((spl 32 s).getD 3 []),g4:=numP at_ ((spl 32 s).getD 4 []) } else none)
 else if (spl 32 s).getD 0 []=sw/\(spl 32 s).length=3/\p.se=[] then some { p with st:=p.st++[⟨(spl 32 s).getD 1 [],numP at_ ((spl 32 s).getD 2 [])⟩] }
 else if (spl 32 s).getD 0 []=cw/\(spl 32 s).length=3 then some { p with se:=p.se++[⟨(spl 32 s).getD 1 [],numP at_ ((spl 32 s).getD 2 []),[]⟩] }
 else match p.se.getLast? with
  | none=>none
  | some x=>(addP at_ x.rows s).map fun l=>{ p with se:=p.se.dropLast++[{ x with rows:=l }] }
def readAll (at_:List UInt8->Option Int):List (List UInt8)->Nat->PSt->Option PSt
 | [],_,p=>some p
 | s::r,i,p=>(readL at_ p i s).bind fun q=>readAll at_ r (i+1) q
theorem zbG (at_:List UInt8->Option Int):∀(a b:List (List UInt8)) (i:Nat) (p:PSt),readAll at_ (a++b) i p=(readAll at_ a i p).bind fun q=>readAll at_ b (i+a.length) q:=by
 intro a
 induction a with
 | nil=>intro b i p;simp [readAll]
 | cons s r ih =>
  intro b i p
  rw [ZU,readAll,readAll]
  cases readL at_ p i s with
  | none=>rfl
  | some q =>
   rw [Zz,Zz,ih,Zk]
   rw [show i+1+r.length=i+(r.length+1) by omega]
def NameOk (s:List UInt8):Prop:=∀x∈s,x≠10/\x≠32
theorem zdR {s:List UInt8} (h:wordS s=true):NameOk s:=by
 intro x hx
 unfold wordS at h
 simp only [Zt] at h
 have h1:=Zq.1 h.2 x hx
 simp only [okC,ZG] at h1
 refine ⟨?_,?_⟩
 ·rintro rfl
  revert h1
  decide
 ·rintro rfl
  revert h1
  decide
theorem NameOk.no {s:List UInt8} (h:NameOk s):32 ∉ s:=fun h9=>(h 32 h9).2 rfl
theorem zfp (n:Nat):32 ∉ decD n:=fun h9=>(zcA n 32 h9).2 rfl
theorem zct {a b:List UInt8} {n:Int} (ha:32 ∉ a) (hb:NameOk b):spl 32 (line3 a b n)=[a,b,decD n.toNat]:=by
 unfold line3
 rw [zaw ha,zaw hb.no,zbh (zfp _)]
theorem zc7 {a b:List UInt8} {n:Int} (ha:∀x∈a,x≠10) (hb:NameOk b):∀x∈line3 a b n,x≠10:=by
 intro x hx
 unfold line3 at hx
 rcases ZA.1 hx with hx | hx
 ·exact ha x hx
 ·rcases ZI.1 hx with rfl | hx
  ·decide
  ·rcases ZA.1 hx with hx | hx
   ·exact (hb x hx).1
   ·rcases ZI.1 hx with rfl | hx
    ·decide
    ·exact (zcA _ x hx).1
theorem ziU {at_:List UInt8->Option Int}:∀(ls:List (List UInt8)) (i:Nat) (p:PSt) (pre:List Sec) (x:Sec) (l:List Ro),2<=i->p.se=pre++[x]->(∀s∈ls,headOk s)->linesP at_ ls x.rows=some l->readAll at_ ls i p=some { p with se:=pre++[{ x with rows:=l }] }:=by
 intro ls
 induction ls with
 | nil =>
  intro i p pre x l _ hp _ h
  cases h
  rw [readAll,<-hp]
 | cons s r ih =>
  intro i p pre x l hi hp hh h
  rw [linesP] at h
  obtain ⟨l1,h1,h2⟩:=ZO.1 h
  have hs:=hh s (by simp)
  have n1:(spl 32 s).getD 0 []≠sw:=by
   rcases hs with e | e | e <;> (rw [e];decide)
  have n2:(spl 32 s).getD 0 []≠cw:=by
   rcases hs with e | e | e <;> (rw [e];decide)
  have e1:readL at_ p i s=some { p with se:=pre++[{ x with rows:=l1 }] }:=by
   rw [readL,if_neg (by omega),if_neg (by omega),if_neg (fun h9=>n1 h9.1),if_neg (fun h9=>n2 h9.1),hp,List.getLast?_concat]
   simp only
   rw [h1,List.dropLast_concat]
   rfl
  rw [readAll,e1,Zz,ih (i+1) { p with se:=pre++[{ x with rows:=l1 }] } pre { x with rows:=l1 } l (by omega) rfl (fun y hy=>hh y (by simp [hy])) h2]
section
variable {at_:List UInt8->Option Int} (hat:∀k:Nat,k<=100000->at_ (decD k)=some (k:Int))
include hat
theorem zb0 {n:Int} (h0:0<=n) (h1:n<=100000):numP at_ (decD n.toNat)=n:=by
 rw [numP,hat n.toNat (by omega)]
 simp only
 rw [if_neg (by omega)]
 omega
theorem zkN:∀(st:List Stf) (i:Nat) (p:PSt),2<=i->p.se=[]->(∀x∈st,NameOk x.nm/\0<=x.g/\x.g<=100000)->readAll at_ (st.map fun x=>line3 sw x.nm x.g) i p=some { p with st:=p.st++st }:=by
 intro st
 induction st with
 | nil=>intro i p _ _ _;simp [readAll]
 | cons x r ih =>
  intro i p hi hp hx
  obtain ⟨h1,h2,h3⟩:=hx x (by simp)
  have e:=zct (a:=sw) (n:=x.g) (by decide) h1
  have e1:readL at_ p i (line3 sw x.nm x.g)=some { p with st:=p.st++[x] }:=by
   rw [readL,if_neg (by omega),if_neg (by omega),e,if_pos ⟨rfl,rfl,hp⟩]
   simp only [List.getD_cons_succ,ZR]
   rw [zb0 hat h2 h3]
  rw [Z6,readAll,e1,Zz,ih (i+1) { p with st:=p.st++[x] } (by omega) hp (fun y hy=>hx y (by simp [hy]))]
  simp
theorem zkL:∀(se:List Sec) (T:List UInt8),secsT se=some T->(∀x∈se,NameOk x.nm)->∃ls,T=unl ls/\(∀s∈ls,∀x∈s,x≠10)/\∀(i:Nat) (p:PSt),2<=i->readAll at_ ls i p=some { p with se:=p.se++se }:=by
 intro se
 induction se with
 | nil =>
  intro T h _
  cases h
  exact ⟨[],rfl,fun s hs=>(by cases hs),fun i p _=>by simp [readAll]⟩
 | cons x r ih =>
  intro T h hx
  rw [secsT] at h
  split at h
  ·cases h
  ·rename_i h0
   have aa:rowsE x.s x.rows=0:=Classical.not_not.1 h0
   obtain ⟨t,ht,rfl⟩:=ZH.1 h
   obtain ⟨ls,e1,e2,e3⟩:=ih t ht (fun y hy=>hx y (by simp [hy]))
   obtain ⟨h2,T2,h3,h4,h5⟩:=zkY aa
   obtain ⟨h6,h7⟩:=zc3 h2
   obtain ⟨_,ab,hs1,_⟩:=zdp h2
   obtain ⟨ls2,f1,f2, -,f4,f5⟩:=zd1 (at_:=at_) (fun k hk=>hat k (by omega)) h6 h7 (x.rows.length+1) 0 T2 (Zy _) h3 (by omega)
   rw [List.take_zero] at f4
   have hn:=hx x (by simp)
   refine ⟨line3 cw x.nm x.s::(ls2++ls),?_,?_,?_⟩
   ·rw [za5,h5,f1,e1]
    simp [unl]
   ·intro s hs
    rcases ZI.1 hs with rfl | hs
    ·exact zc7 (by decide) hn
    ·rcases ZA.1 hs with hs | hs
     ·exact f2 s hs
     ·exact e2 s hs
   ·intro i p hi
    have e:=zct (a:=cw) (n:=x.s) (by decide) hn
    have g1:readL at_ p i (line3 cw x.nm x.s)=some { p with se:=p.se++[⟨x.nm,x.s,[]⟩] }:=by
     rw [readL,if_neg (by omega),if_neg (by omega),e,if_neg (fun h9=>absurd h9.1 (by simp;decide)),if_pos ⟨rfl,rfl⟩]
     simp only [List.getD_cons_succ,ZR]
     rw [zb0 hat ab (by omega)]
    rw [readAll,g1,Zz,zbG,ziU ls2 (i+1) _ p.se ⟨x.nm,x.s,[]⟩ x.rows (by omega) rfl f5 f4,Zz,e3 _ _ (by omega)]
    simp
end
end Go.Proofs.YtkneghkbgingdaaGreatDoor
/- The program's Parse of patterns,plain: it accepts just what is written. -/
namespace Go.Proofs.YtkneghkbgingdaaGreatDoor
set_option maxRecDepth 100000
def pst0:PSt:=⟨[],0,0,0,0,[],[]⟩
def linesOf (s:List UInt8):List (List UInt8):=spl 10 (if s.getLast?=some 10 then s.dropLast else s)
theorem zgI {ls:List (List UInt8)} (h0:ls≠[]) (h:∀s∈ls,∀x∈s,x≠10):linesOf (unl ls)=ls:=by
 have e:=zih h0
 rw [linesOf,if_pos (by rw [e];simp),e,List.dropLast_concat,zeT h0 (fun w hw h9=>h w hw 10 h9 rfl)]
theorem zfv (g1 g2 g3 g4:Int):spl 32 (gaugeL g1 g2 g3 g4)=[gw,decD g1.toNat,decD g2.toNat,decD g3.toNat,decD g4.toNat]:=by
 unfold gaugeL
 rw [zaw (by decide),zaw (zfp _),zaw (zfp _),zaw (zfp _),zbh (zfp _)]
theorem zhH (g1 g2 g3 g4:Int):∀x∈gaugeL g1 g2 g3 g4,x≠10:=by
 intro x hx
 unfold gaugeL at hx
 simp only [ZA,ZI] at hx
 rcases hx with hx | rfl | hx | rfl | hx | rfl | hx | rfl | hx
 ·exact (show ∀x∈gw,x≠10 by decide) x hx
 ·decide
 ·exact (zcA _ x hx).1
 ·decide
 ·exact (zcA _ x hx).1
 ·decide
 ·exact (zcA _ x hx).1
 ·decide
 ·exact (zcA _ x hx).1
theorem zkm {nm:List UInt8} (h:NameOk nm):∀x∈pw++32::nm,x≠10:=by
 intro x hx
 simp only [ZA,ZI] at hx
 rcases hx with hx | rfl | hx
 ·exact (show ∀x∈pw,x≠10 by decide) x hx
 ·decide
 ·exact (h x hx).1
theorem zd4 {nm:List UInt8} {ge:Int} {st:List Stf} {se:List Sec} (h:patE nm ge st se=0):NameOk nm/\ge=0/\(∀x∈st,NameOk x.nm/\0<=x.g/\x.g<=100000)/\∀x∈se,NameOk x.nm:=by
 unfold patE at h
 split at h
 ·cases h
 ·split at h
  ·rename_i h2
   unfold fineP at h2
   simp only [Zt,ZG] at h2
   obtain ⟨⟨⟨⟨⟨a1,a2⟩,a3⟩,_⟩,a5⟩,a6⟩:=h2
   refine ⟨zdR a1,a5,fun x hx=>?_,fun x hx=>?_⟩
   ·obtain ⟨k,hk,rfl⟩:=List.getElem_of_mem hx
    have b1:=Zq.1 a2 k (ZP.2 hk)
    have b2:=Zq.1 a6 k (ZP.2 hk)
    rw [stN,Zc,Zd hk] at b1
    rw [Zc,Zd hk] at b2
    simp only [Option.getD_some,ZG] at b1 b2
    exact ⟨zdR b1,by omega,by omega⟩
   ·obtain ⟨k,hk,rfl⟩:=List.getElem_of_mem hx
    have b1:=Zq.1 a3 k (ZP.2 hk)
    rw [seN,Zc,Zd hk] at b1
    exact zdR b1
  ·cases h
def patP (at_:List UInt8->Option Int) (ge:Int->Int->Int->Int->Int) (s:List UInt8):Option PSt :=
 if 60000<s.length then none else (readAll at_ (linesOf s) 0 pst0).bind fun p =>
  if patE p.nm (ge p.g1 p.g2 p.g3 p.g4) p.st p.se=0/\patX p.nm p.g1 p.g2 p.g3 p.g4 p.st p.se=some s then some p else none
theorem zku {at_:List UInt8->Option Int} (hat:∀k:Nat,k<=100000->at_ (decD k)=some (k:Int)) {ge:Int->Int->Int->Int->Int} (hge:∀a b c d,ge a b c d=0->(0<=a/\a<=100000)/\(0<=b/\b<=100000)/\(0<=c/\c<=100000)/\(0<=d/\d<=100000))
  {p:PSt} {s:List UInt8} (h1:patE p.nm (ge p.g1 p.g2 p.g3 p.g4) p.st p.se=0) (h2:patX p.nm p.g1 p.g2 p.g3 p.g4 p.st p.se=some s) :
  ∃ls,s=unl ls/\ls≠[]/\(∀s∈ls,∀x∈s,x≠10)/\readAll at_ ls 0 pst0=some p:=by
 obtain ⟨a1,a2,a3,a4⟩:=zd4 h1
 obtain ⟨b1,b2,b3,b4⟩:=hge _ _ _ _ a2
 obtain ⟨t,ht,rfl⟩:=ZH.1 h2
 obtain ⟨ls,e1,e2,e3⟩:=zkL hat p.se t ht a4
 refine ⟨(pw++32::p.nm)::gaugeL p.g1 p.g2 p.g3 p.g4::((p.st.map fun x=>line3 sw x.nm x.g)++ls),?_,by simp,?_,?_⟩
 ·rw [za5,za5,stufT,e1]
  simp [unl]
 ·intro s hs
  simp only [ZI,ZA,List.mem_map] at hs
  rcases hs with rfl | rfl | ⟨x,hx,rfl⟩ | hs
  ·exact zkm a1
  ·exact zhH _ _ _ _
  ·exact zc7 (by decide) (a3 x hx).1
  ·exact e2 s hs
 ·have s0:spl 32 (pw++32::p.nm)=[pw,p.nm]:=by rw [zaw (by decide),zbh a1.no]
  have r0:readL at_ pst0 0 (pw++32::p.nm)=some { pst0 with nm:=p.nm }:=by
   rw [readL,if_pos rfl,s0]
   rfl
  have r1:readL at_ { pst0 with nm:=p.nm } (0+1) (gaugeL p.g1 p.g2 p.g3 p.g4)=some { pst0 with nm:=p.nm,g1:=p.g1,g2:=p.g2,g3:=p.g3,g4:=p.g4 }:=by
   rw [readL,if_neg (by omega),if_pos (by omega),zfv,if_pos (show [gw,decD p.g1.toNat,decD p.g2.toNat,decD p.g3.toNat,decD p.g4.toNat].length=5 from rfl)]
   simp only [List.getD_cons_succ,ZR]
   rw [zb0 hat b1.1 b1.2,zb0 hat b2.1 b2.2,zb0 hat b3.1 b3.2,zb0 hat b4.1 b4.2]
  rw [readAll,r0,Zz,readAll,r1,Zz,zbG,zkN hat p.st (0+1+1) _ (by omega) rfl a3,Zz,e3 _ _ (by omega)]
  simp [pst0]
theorem zhX {at_:List UInt8->Option Int} (hat:∀k:Nat,k<=100000->at_ (decD k)=some (k:Int)) {ge:Int->Int->Int->Int->Int} (hge:∀a b c d,ge a b c d=0->(0<=a/\a<=100000)/\(0<=b/\b<=100000)/\(0<=c/\c<=100000)/\(0<=d/\d<=100000))
  {p:PSt} {s:List UInt8}:patP at_ ge s=some p↔s.length<=60000/\patE p.nm (ge p.g1 p.g2 p.g3 p.g4) p.st p.se=0/\patX p.nm p.g1 p.g2 p.g3 p.g4 p.st p.se=some s:=by
 constructor
 ·intro h
  unfold patP at h
  split at h
  ·cases h
  ·obtain ⟨p',_,h2⟩:=ZO.1 h
   split at h2
   ·rename_i h3
    cases h2
    exact ⟨by omega,h3⟩
   ·cases h2
 ·rintro ⟨h0,h1,h2⟩
  obtain ⟨ls,e1,e2,e3,e4⟩:=zku hat hge h1 h2
  rw [patP,if_neg (by omega),show linesOf s=ls by rw [e1];exact zgI e2 e3,e4,Zz,if_pos ⟨h1,h2⟩]
end Go.Proofs.YtkneghkbgingdaaGreatDoor
/- Small facts on worlds that have only grown,for the walks of this claim. -/
namespace Go.Proofs.YtkneghkbgingdaaGreatDoor
set_option maxRecDepth 100000
open Go.RowKit
def Ext (w w':World):Prop:=Below w.heap.size w w'
theorem Ext.refl (w:World):Ext w w:=Below.refl _ _
theorem Ext.trans {a b c:World} (h:Ext a b) (k:Ext b c):Ext a c:=Below.trans h (Below.mono k (Below.size h))
theorem Ext.alloc {a b:World} (h:Ext a b) (o:Obj):Ext a (b.alloc o):=Below.alloc h (Below.size h) o
theorem Ext.drew {a b:World} (h:Ext a b):Ext a b.drew:=Below.drew h
theorem Ext.drewN {a b:World} (h:Ext a b) (n:Nat):Ext a (b.drewN n):=⟨h.os,h.tape,h.output,h.size,h.block⟩
theorem zr (w : World) : Ext w w := Ext.refl w
theorem za {a b : World} (h : Ext a b) (o : Obj) : Ext a (b.alloc o) := h.alloc o
theorem zd {a b : World} (h : Ext a b) : Ext a b.drew := h.drew
theorem zn {a b : World} (h : Ext a b) (n : Nat) : Ext a (b.drewN n) := h.drewN n
theorem zt {a b c : World} (h : Ext a b) (k : Ext b c) : Ext a c := Ext.trans h k
theorem zx {a b:World} (h:Ext a b:=by repeat (first|exact zr _|assumption|refine za ?_ _|refine zd ?_|refine zn ?_ _|refine zt ?_ (by assumption))):Ext a b:=h
theorem Za:∀ {p:Prop},p->Go.RowKit.Hid p:=@Lib.hid
theorem Zf:∀ (w:World),Ext w w:=@Ext.refl
theorem Zh:∀ (n:Int), -9223372036854775808<=n/\n<=9223372036854775807->IntKind.i64.wrap n=n:=@IntWalk.i64_in
theorem Zi:∀ {a b c:World},Ext a b->Ext b c->Ext a c:=@Ext.trans
theorem Zj:∀ (w:World) (a b:Addr) (v:Value),a≠b->(w.setCell a v).cell? b=w.cell? b:=@World.cell?_setCell_other
theorem Zl:∀ {B:Nat} {w w' : World},Below B w w' -> w.heap.size<=w'.heap.size:=@Below.size
theorem Zn:∀ (w:World) (a:Addr) {u:Value},w.cell? a=some u->a.block<w.heap.size:=@World.block_lt_of_cell?
theorem Zp:∀ {a b:World},Ext a b->∀ (o:Obj),Ext a (b.alloc o):=@Ext.alloc
theorem Zr:∀ {B:Nat} {a w:World},Below B a w->∀ {p:Addr},B<=p.block->∀ (u:Value),Below B a (w.setCell p u):=@Below.setCell
theorem Zs:∀ {B:Nat} {w w' : World},Below B w w' -> ∀ {p:Addr},p.block<B->w'.cell? p=w.cell? p:=@Below.cell
theorem Zw:∀ (w:World) (a b:Addr) (v:Value),(w.setCell a v).frozen? b=w.frozen? b:=@World.frozen?_setCell
theorem ZJ:∀ (w:World) (a:Addr) (v:Value) {u:Value},w.cell? a=some u->(w.setCell a v).cell? a=some v:=@World.cell?_setCell_same
theorem Z2:∀ {a b:World},Ext a b->Ext a b.drew:=@Ext.drew
theorem Ext.facts {W w1:World} (hb:Ext W w1):(∀b o,b<W.heap.size->w1.cell? ⟨b,o,none⟩=W.cell? ⟨b,o,none⟩)/\(∀b o,b<W.heap.size->w1.frozen? ⟨b,o,none⟩=W.frozen? ⟨b,o,none⟩)/\(∀b,b<W.heap.size->b<w1.heap.size) :=
 ⟨fun b o h=>Below.cell (p:=⟨b,o,none⟩) hb h,fun b o h=>Below.frozen (p:=⟨b,o,none⟩) hb h,fun _ h=>Zo h (Below.size hb)⟩
end Go.Proofs.YtkneghkbgingdaaGreatDoor
/- strings.Builder: WriteString,laid by hand (the kit's tool passes over it: no body of the closure names the types string and interface). -/
namespace Go.Proofs.YtkneghkbgingdaaGreatDoor
set_option maxRecDepth 100000
open Go.RowKit Go.Shelf
def bldRen:Go.Shelf.Ren:=⟨fun | 166=>36 | 240=>69 | 276=>99 | n=>n,fun | 0=>0 | 3=>3 | 4=>4 | 5=>5 | 9=>9 | 20=>20 | 37=>78 | 70=>77 | 72=>80 | 75=>83 | 80=>89 | 164=>157 | n=>n,fun | n=>n⟩
theorem znH:Lays.n166 Tryz.prog bldRen where
 mixed:=by kernel_rfl
 f166:=Tryz.func36.trans (congrArg some (by kernel_rfl))
 f240:=Tryz.func69.trans (congrArg some (by kernel_rfl))
 f276:=Tryz.func99.trans (congrArg some (by kernel_rfl))
 t0:=Tryz.underlying0
 a0:=Tryz.isAgg0
 z0:=Tryz.sizeOf0
 v0:=Tryz.zeroValue0
 t3:=Tryz.underlying3
 a3:=Tryz.isAgg3
 z3:=Tryz.sizeOf3
 v3:=Tryz.zeroValue3
 t4:=Tryz.underlying4
 a4:=Tryz.isAgg4
 z4:=Tryz.sizeOf4
 v4:=Tryz.zeroValue4
 t9:=Tryz.underlying9
 a9:=Tryz.isAgg9
 z9:=Tryz.sizeOf9
 v9:=Tryz.zeroValue9
 t20:=Tryz.underlying20
 a20:=Tryz.isAgg20
 z20:=Tryz.sizeOf20
 v20:=Tryz.zeroValue20
 t37:=Tryz.underlying78
 a37:=Tryz.isAgg78
 z37:=Tryz.sizeOf78
 v37:=Tryz.zeroValue78
 t70:=Tryz.underlying77
 a70:=Tryz.isAgg77
 z70:=Tryz.sizeOf77
 v70:=Tryz.zeroValue77
 t72:=Tryz.underlying80
 a72:=Tryz.isAgg80
 z72:=Tryz.sizeOf80
 v72:=Tryz.zeroValue80
 t75:=Tryz.underlying83
 a75:=Tryz.isAgg83
 z75:=Tryz.sizeOf83
 v75:=Tryz.zeroValue83
 t164:=Tryz.underlying157
 a164:=Tryz.isAgg157
 z164:=Tryz.sizeOf157
 v164:=Tryz.zeroValue157
theorem zpL:Builder.Extra Tryz.prog bldRen where
 sizeBuilder:=by kernel_rfl
 liesBuilder:=by kernel_rfl
 t5:=Tryz.underlying5
 a5:=Tryz.isAgg5
 z5:=Tryz.sizeOf5
 v5:=Tryz.zeroValue5
 infoByte:=by kernel_rfl
 cellsByte:=by kernel_rfl
 sizeByte:=by kernel_rfl
 neB5:=by decide
theorem znI {T e:TypeId} {B b:Nat} {bs:List Value} {w w':World} (h:Lib.IsBuilderF T e B b bs w) (hb:Ext w w'):Lib.IsBuilderF T e B b bs w':=by
 have key:∀(k:Nat) (o:Obj),w.heap[k]?=some o->w'.heap[k]?=some o:=fun k o hk=>by
  rw [hb.block k (Zm.1 hk).1]
  exact hk
 have at_:∀p,Lib.BuilderAtF T e B b p bs w->Lib.BuilderAtF T e B b p bs w':=fun p ⟨hB,v,hbk,hown,hne⟩ =>
  ⟨hB,v,key _ _ hbk,⟨hown.1,hown.2.imp id fun ⟨g,cap,cur,fz,a,c,d,r⟩=>⟨g,cap,cur,fz,a,c,key _ _ d,r⟩⟩,hne⟩
 exact h.elim (fun x => .inl (at_ _ x)) (fun x => .inr (at_ _ x))
theorem znJ (w:World) (T e:TypeId) (B:Nat) (hB:B<=w.heap.size):Lib.IsBuilderF T e B w.heap.size (Lib.byteCells []) (w.alloc (.cells #[.pointer none,.slice none 0 0] T)) :=
 .inl ⟨hB,.slice none 0 0,heap_alloc_new w _,⟨by simp [Lib.byteCells],.inl ⟨rfl,rfl⟩⟩,by simp [Value.ownBlock]⟩
end Go.Proofs.YtkneghkbgingdaaGreatDoor
/- strings.Builder: WriteByte,laid by hand as WriteString is;what both leave as it was;a builder that a call writes to. -/
namespace Go.Proofs.YtkneghkbgingdaaGreatDoor
set_option maxRecDepth 100000
open Go.RowKit Go.Shelf
def bytRen:Go.Shelf.Ren:=⟨fun | 167=>135 | 240=>69 | 276=>99 | n=>n,fun | 0=>0 | 3=>3 | 4=>4 | 5=>5 | 9=>9 | 20=>20 | 37=>78 | 70=>77 | 72=>80 | 75=>83 | 80=>89 | 164=>157 | n=>n,fun | n=>n⟩
theorem znL:Lays.n167 Tryz.prog bytRen where
 mixed:=by kernel_rfl
 f167:=Tryz.func135.trans (congrArg some (by kernel_rfl))
 f240:=Tryz.func69.trans (congrArg some (by kernel_rfl))
 f276:=Tryz.func99.trans (congrArg some (by kernel_rfl))
 t0:=Tryz.underlying0
 a0:=Tryz.isAgg0
 z0:=Tryz.sizeOf0
 v0:=Tryz.zeroValue0
 t4:=Tryz.underlying4
 a4:=Tryz.isAgg4
 z4:=Tryz.sizeOf4
 v4:=Tryz.zeroValue4
 t5:=Tryz.underlying5
 a5:=Tryz.isAgg5
 z5:=Tryz.sizeOf5
 v5:=Tryz.zeroValue5
 t9:=Tryz.underlying9
 a9:=Tryz.isAgg9
 z9:=Tryz.sizeOf9
 v9:=Tryz.zeroValue9
 t20:=Tryz.underlying20
 a20:=Tryz.isAgg20
 z20:=Tryz.sizeOf20
 v20:=Tryz.zeroValue20
 t37:=Tryz.underlying78
 a37:=Tryz.isAgg78
 z37:=Tryz.sizeOf78
 v37:=Tryz.zeroValue78
 t70:=Tryz.underlying77
 a70:=Tryz.isAgg77
 z70:=Tryz.sizeOf77
 v70:=Tryz.zeroValue77
 t72:=Tryz.underlying80
 a72:=Tryz.isAgg80
 z72:=Tryz.sizeOf80
 v72:=Tryz.zeroValue80
 t75:=Tryz.underlying83
 a75:=Tryz.isAgg83
 z75:=Tryz.sizeOf83
 v75:=Tryz.zeroValue83
 t164:=Tryz.underlying157
 a164:=Tryz.isAgg157
 z164:=Tryz.sizeOf157
 v164:=Tryz.zeroValue157
theorem zpN:Builder.Extra Tryz.prog bytRen where
 sizeBuilder:=by kernel_rfl
 liesBuilder:=by kernel_rfl
 t5:=Tryz.underlying5
 a5:=Tryz.isAgg5
 z5:=Tryz.sizeOf5
 v5:=Tryz.zeroValue5
 infoByte:=by kernel_rfl
 cellsByte:=by kernel_rfl
 sizeByte:=by kernel_rfl
 neB5:=by decide
structure WSt (W0 w0:World) (b:Nat) (l:List UInt8) (w:World):Prop where
 bl:Lib.IsBuilderF 80 5 W0.heap.size b (Lib.byteCells l) w
 ex:Ext W0 w
 kp:Lib.OthersKept 5 (some b) w0 w
theorem zma {e:TypeId} {b:Option Nat} {w w':World} (h:Ext w w'):Lib.OthersKept e b w w':=fun k o hk _ _=>by
 rw [h.block k (Zm.1 hk).1]
 exact hk
theorem WSt.ext {W0 w0 w w':World} {b:Nat} {l:List UInt8} (h:WSt W0 w0 b l w) (hb:Ext w w'):WSt W0 w0 b l w':=⟨znI h.bl hb,h.ex.trans hb,h.kp.trans (zma hb)⟩
theorem WSt.base {W0 w0 w1 w:World} {b:Nat} {l:List UInt8} (h:WSt W0 w1 b l w) (k:Lib.OthersKept 5 (some b) w0 w1):WSt W0 w0 b l w:=⟨h.bl,h.ex,k.trans h.kp⟩
theorem WSt.here {W0 w0 w:World} {b:Nat} {l:List UInt8} (h:WSt W0 w0 b l w):WSt W0 w b l w:=⟨h.bl,h.ex,Lib.OthersKept.refl _ _ _⟩
theorem zaZ (l:List UInt8):(Lib.byteCells l).length=l.length:=by simp [Lib.byteCells]
theorem zha {W0 w0 w:World} {b:Nat} {l:List UInt8} (x:UInt8) (c:Int) (hc:(x.toNat:Int)=c) (h:WSt W0 w0 b l w) (hl:l.length<=1000000000) :
  Calls Tryz.prog 135 #[.pointer (some ⟨b,0,none⟩),.int .u8 c] w fun e w'=>e = .returned .nilIface/\WSt W0 w0 b (l++[x]) w':=by
 subst hc
 refine (Any.Builder_WriteByte_k znL zpN W0.heap.size b (Lib.byteCells l) (x.toNat:Int) w h.bl (by rw [zaZ];omega) (Below.size h.ex)).mono ?_
 rintro e w' ⟨rfl,h2,h3,h4⟩
 refine ⟨rfl,.inr ?_,Below.trans h.ex h3,h.kp.trans h4⟩
 have e:Lib.byteCells (l++[x])=Lib.byteCells l++[.int .u8 (x.toNat:Int)]:=by simp [Lib.byteCells]
 rw [e]
 exact h2
theorem zbK {W0 w0 w:World} {b:Nat} {l:List UInt8} (x:List UInt8) (h:WSt W0 w0 b l w) (hl:l.length+x.length<=1000000000) :
  Calls Tryz.prog 36 #[.pointer (some ⟨b,0,none⟩),.string ⟨x.toArray⟩] w fun e w'=>e = .returned (.tuple #[.int .i64 x.length,.nilIface])/\WSt W0 w0 b (l++x) w':=by
 have h1:=Any.Builder_WriteString_k znH zpL W0.heap.size b (Lib.byteCells l) ⟨x.toArray⟩ w h.bl (by rw [zaZ,show (⟨x.toArray⟩:ByteArray).size=x.length by simp [ByteArray.size]];omega) (Below.size h.ex)
 refine h1.mono ?_
 rintro e w' ⟨rfl,h2,h3,h4⟩
 refine ⟨by simp [ByteArray.size],.inr ?_,Below.trans h.ex h3,h.kp.trans h4⟩
 have e:Lib.byteCells (l++x)=Lib.byteCells l++Lib.strCells ⟨x.toArray⟩:=by simp [Lib.byteCells,Lib.strCells]
 rw [e]
 exact h2
end Go.Proofs.YtkneghkbgingdaaGreatDoor
/- Slices that read as lists of numbers,for the walks of this claim. -/
namespace Go.Proofs.YtkneghkbgingdaaGreatDoor
set_option maxRecDepth 100000
open Go.RowKit
def Ints (w:World) (A:Option Addr) (n:Nat) (xs:List Int):Prop :=
 xs.length=n/\(0<n->∃b off,A=some ⟨b,off,none⟩/\b<w.heap.size/\∀j,j<n->w.cell? ⟨b,off+j,none⟩=some (.int .i64 (xs.getD j 0)))
theorem Ints.len {w:World} {A:Option Addr} {n:Nat} {xs:List Int} (h:Ints w A n xs):xs.length=n:=h.1
theorem Ints.none_ (w:World) (A:Option Addr):Ints w A 0 []:=⟨rfl,fun h=>absurd h (by omega)⟩
theorem Ints.keep {w w':World} {A:Option Addr} {n:Nat} {xs:List Int} (h:Ints w A n xs) (hz:w.heap.size<=w'.heap.size) (hk:∀p:Addr,p.block<w.heap.size->w'.cell? p=w.cell? p):Ints w' A n xs :=
 ⟨h.1,fun hn=>by
  obtain ⟨b,off,e,hb,hc⟩:=h.2 hn
  exact ⟨b,off,e,by omega,fun j hj=>(hk ⟨b,off+j,none⟩ hb).trans (hc j hj)⟩⟩
theorem Ints.ext {w w':World} {A:Option Addr} {n:Nat} {xs:List Int} (h:Ints w A n xs) (hb:Ext w w'):Ints w' A n xs :=
 h.keep (Below.size hb) fun _ hp=>Below.cell hb hp
theorem Ints.of_add {w:World} {A:Option Addr} {n:Nat} {xs:List Int} (hl:xs.length=n) (h:0<n->∃ad,A=some ad/\ad.block<w.heap.size/\∀j,j<n->w.cell? (ad.add j)=some (.int .i64 (xs.getD j 0))):Ints w A n xs:=by
 refine ⟨hl,fun hn=>?_⟩
 obtain ⟨⟨b,off,spot⟩,e,hb,hc⟩:=h hn
 have h0:=hc 0 hn
 have hs:spot=none:=by
  cases spot with
  | none=>rfl
  | some s =>
   simp only [Addr.add,if_true,World.cell?] at h0
   split at h0 <;> simp at h0
 subst hs
 refine ⟨b,off,e,hb,fun j hj=>?_⟩
 rw [<-hc j hj]
 unfold Addr.add
 split <;> simp_all
theorem Ints.of_own {w:World} {base:Nat} {e:TypeId} {n c:Nat} {A:Option Addr} {xs:List Int} (h:w.ownsRow base e 1 (.slice A n c) n (xs.map (Value.int .i64))):Ints w A n xs:=by
 have hl:xs.length=n:=by simpa using h.1
 refine ⟨hl,fun hn=>?_⟩
 obtain ⟨g,cap,hv,_,hlt⟩:=h.form hn
 simp only [Value.slice.injEq,true_and] at hv
 obtain ⟨hA,hc⟩:=hv
 subst hA
 refine ⟨g,0,rfl,hlt,fun j hj=>?_⟩
 have aa:j<xs.length:=by omega
 have:=h.cellAt j (by omega)
 rw [Nat.zero_add,this,List.getElem?_map,Zd aa,Zc,Zd aa]
 rfl
def But (E:Option Nat) (w w':World):Prop:=w.grownBy w' E
theorem But.size {E:Option Nat} {w w':World} (h:But E w w'):w.heap.size<=w'.heap.size:=World.grownBy.size h
theorem But.refl (E:Option Nat) (w:World):But E w w:=World.grownBy.refl w _
theorem But.trans {E:Option Nat} {a b c:World} (h:But E a b) (k:But E b c):But E a c :=
 ⟨k.os.trans h.os,k.tape.trans h.tape,k.output.trans h.output,ZD h.size k.size,fun i hi hne=>(k.block i (Zo hi h.size) hne).trans (h.block i hi hne)⟩
theorem But.of_ext {a b:World} (h:Ext a b) (E:Option Nat):But E a b:=⟨h.os,h.tape,h.output,h.size,fun i hi _=>h.block i hi⟩
theorem But.ext_none {a b:World} (h:But none a b):Ext a b:=⟨h.os,h.tape,h.output,h.size,fun i hi=>h.block i hi (by simp)⟩
theorem But.alloc {E:Option Nat} {a w:World} (h:But E a w) (o:Obj):But E a (w.alloc o):=h.trans (But.of_ext ((Ext.refl _).alloc o) E)
theorem But.setCell {E:Option Nat} {a w:World} (h:But E a w) {p:Addr} (hp:a.heap.size<=p.block) (u:Value):But E a (w.setCell p u) :=
 ⟨h.os,h.tape,h.output,by simpa [World.setCell] using h.size,fun i hi hne=>(Below.heap_setCell w p u i (by rintro rfl;omega)).trans (h.block i hi hne)⟩
theorem But.own {a w:World} {g:Nat} (h:But (some g) a w) {p:Addr} (hp:p.block=g) (u:Value):But (some g) a (w.setCell p u) :=
 ⟨h.os,h.tape,h.output,by simpa [World.setCell] using h.size,fun i hi hne=>(Below.heap_setCell w p u i (by rintro rfl;exact hne (by rw [hp]))).trans (h.block i hi hne)⟩
theorem But.cell {E:Option Nat} {w w':World} (h:But E w w') {p:Addr} (hp:p.block<w.heap.size) (hne:some p.block≠E):w'.cell? p=w.cell? p:=World.cell?_of_block (h.block p.block hp hne)
theorem But.below {E:Option Nat} {w w':World} {B:Nat} (h:But E w w') (hB:B<=w.heap.size) (hE:∀k,E=some k->B<=k):Below B w w' :=
 ⟨h.os,h.tape,h.output,h.size,fun k hk=>h.block k (by omega) (fun e=>by have:=hE k e.symm;omega)⟩
theorem zeI {w:World} {base:Nat} {e:TypeId} {size:Nat} {v:Value} {n:Nat} {xs:List Value} (h:w.ownsRow base e size v n xs):∀k,v.ownBlock=some k->base<=k:=by
 intro k hk
 rcases h.2 with ⟨h1,_⟩ | ⟨g,cap,cur,h1,hb,_⟩
 ·subst h1;simp [Value.ownBlock] at hk
 ·subst h1;simp [Value.ownBlock] at hk;omega
theorem zb8 {P:Program} {o:Oper} {a:Act} {K:Act->World->Prop} {Q:Exit->Act->World->Prop} {w wx:World} (T e:TypeId) (z:Value) (size bytes:Nat) {s x:Operand} {v:Value} {k:Nat} (g:Nat) {L:List Value} (news:List Value)
  (ho:o.op = .call { callee := .builtin .append,args:=#[s,x],argTypes:=#[T,T] })
  (ht:P.underlying T=some (.slice e)) (hinfo:(P.info? e).map (fun i=>(i.zero,i.size,i.bytes))=some (some z,size,bytes)) (hzs:z.cells.size=size) (hsz:0<size) (hby:bytes<=1000)
  (hs:a.eval s=v) (hx:a.eval x = .slice (some ⟨g,0,none⟩) 1 1) (hown:wx.ownsRow w.heap.size e size v k L) (hext:Ext w wx)
  (hl:news.length=size) (hc:∀j u,news[j]?=some u->wx.cell? ⟨g,j,none⟩=some u) (h1:∀u∈news,u.oneCell'=true) (hk:k<=1000000)
  (h:∀v' w1,w1.ownsRow w.heap.size e size v' (k+1) (L++news)->Ext w w1->wx.grownBy w1 v.ownBlock->K (a.put o.dst v') w1):o.wp P a wx K Q:=by
 obtain ⟨i0,hi,ac,hz1,ad⟩:=info_parts hinfo
 refine wp_append_own _ s x T ho w.heap.size e i0 z size bytes ht hi ac hz1 ad hzs hsz v k _ hs hown ⟨g,0,none⟩ 1 1 news hx (by omega) ?_ h1 ?_ ?_ (Below.size hext) ?_
 ·intro j u hj
  have:=hc j u hj
  rwa [show ((⟨g,0,none⟩:Addr).add j)=⟨g,j,none⟩ by unfold Addr.add;split <;> simp_all]
 ·unfold maxLen;omega
 ·have:=Nat.mul_le_mul (show k+1<=1000001 by omega) hby
  omega
 ·intro v' w1 ab aa _
  exact h v' w1 ab (Below.grown hext aa (Below.size hext) (zeI hown)) aa
def OwnI (w:World) (B:Nat) (e:TypeId) (v:Value) (k:Nat) (L:List Int):Prop:=w.ownsRow B e 1 v k (L.map (Value.int .i64))
theorem OwnI.nil (w:World) (B:Nat) (e:TypeId):OwnI w B e (.slice none 0 0) 0 []:=World.ownsRow_nil _ _ _ _
theorem OwnI.alloc {w:World} {B:Nat} {e:TypeId} {v:Value} {k:Nat} {L:List Int} (h:OwnI w B e v k L) (o:Obj):OwnI (w.alloc o) B e v k L:=World.ownsRow.alloc h o
theorem OwnI.drew {w:World} {B:Nat} {e:TypeId} {v:Value} {k:Nat} {L:List Int} (h:OwnI w B e v k L):OwnI w.drew B e v k L:=World.ownsRow.drew h
theorem ze8 {P:Program} {o:Oper} {a:Act} {K:Act->World->Prop} {Q:Exit->Act->World->Prop} {w wx:World} (T e:TypeId) {s x:Operand} {v:Value} {k:Nat} (g:Nat) {L:List Int} (X:Int)
  (ho:o.op = .call { callee := .builtin .append,args:=#[s,x],argTypes:=#[T,T] })
  (ht:P.underlying T=some (.slice e)) (hinfo:(P.info? e).map (fun i=>(i.zero,i.size,i.bytes))=some (some (.int .i64 0),1,8))
  (hs:a.eval s=v) (hx:a.eval x = .slice (some ⟨g,0,none⟩) 1 1) (hown:OwnI wx w.heap.size e v k L) (hext:Ext w wx) (hc:wx.cell? ⟨g,0,none⟩=some (.int .i64 X)) (hk:k<=1000000)
  (h:∀v' w1,OwnI w1 w.heap.size e v' (k+1) (L++[X])->Hid (Ext w w1)->wx.grownBy w1 v.ownBlock->K (a.put o.dst v') w1):o.wp P a wx K Q:=by
 refine zb8 T e (.int .i64 0) 1 8 g [.int .i64 X] ho ht hinfo rfl (by omega) (by omega) hs hx hown hext rfl ?_ ?_ hk ?_
 ·intro j u hj
  match j,hj with
  | 0,hj=>simp at hj;subst hj;exact hc
 ·intro u hu;simp at hu;subst hu;rfl
 ·intro v' w1 h1 h2 h3
  exact h v' w1 (by unfold OwnI;rw [List.map_append];exact h1) h2 h3
theorem zbv {P:Program} {ops:Array Oper} {rest:List Oper} {o:Oper} {a:Act} {Q:Exit->Act->World->Prop} {w wx:World} (T e:TypeId) {s x:Operand} {v:Value} {k:Nat} (g:Nat) {L:List Int} (X:Int)
  (hgd:o.guard=none) (ho:o.op = .call { callee := .builtin .append,args:=#[s,x],argTypes:=#[T,T] })
  (ht:P.underlying T=some (.slice e)) (hinfo:(P.info? e).map (fun i=>(i.zero,i.size,i.bytes))=some (some (.int .i64 0),1,8))
  (hs:a.eval s=v) (hx:a.eval x = .slice (some ⟨g,0,none⟩) 1 1) (hown:OwnI wx w.heap.size e v k L) (hext:Ext w wx) (hc:wx.cell? ⟨g,0,none⟩=some (.int .i64 X)) (hk:k<=1000000)
  (h:∀v' w1,OwnI w1 w.heap.size e v' (k+1) (L++[X])->Hid (Ext w w1)->wpList P ops Q rest (a.put o.dst v') w1) :
  wpList P ops Q (o::rest) a wx :=
 wpList_plain hgd fun _ hK=>ze8 T e g X ho ht hinfo hs hx hown hext hc hk fun v' w' h2 h3 _=>hK _ _ (h v' w' h2 h3)
theorem zcJ {P:Program} (w:World) (base:Nat) (t ty e:TypeId) (i:TypeInfo) (size:Nat) (ht:P.underlying t=some (.slice e)) (hi:P.info? e=some i)
  (v:Value) (n:Nat) (xs:List Value) (hown:w.ownsRow base e size v n xs) (c:Nat):(Builtin.append_ #[t,t] ty #[v,.slice none 0 c]).run P w = .ok v w:=by
 rcases hown.2 with ⟨rfl,rfl⟩ | ⟨g,cap,cur,rfl,_,_,aa,_⟩
 ·simp [Builtin.append_,run_underlying ht,sizeOf,typeInfo,hi,Builtin.lenOf,Builtin.firstCells]
 ·simp [Builtin.append_,run_underlying ht,sizeOf,typeInfo,hi,Builtin.lenOf,Builtin.firstCells,aa,storeCells]
theorem OwnI.empty (w:World) (e:TypeId):OwnI (w.alloc (.cells #[] e)) w.heap.size e (.slice (some ⟨w.heap.size,0,none⟩) 0 0) 0 [] :=
 ⟨rfl,.inr ⟨w.heap.size,0,#[],rfl,Zg _,heap_alloc_new w _,Zg _,by simp,rfl,rfl⟩⟩
theorem zc8 {w:World} {B k:Nat} {e:TypeId} {v:Value} {xs:List Int} (h:OwnI w B e v k xs):∃A c,v = .slice A k c/\Ints w A k xs:=by
 rcases h.2 with ⟨h1,h2⟩ | ⟨g,cap,cur,h1,_⟩
 ·subst h2
  subst h1
  exact ⟨none,0,rfl,Ints.of_own h⟩
 ·subst h1
  exact ⟨_,_,rfl,Ints.of_own h⟩
end Go.Proofs.YtkneghkbgingdaaGreatDoor
/- Slices whose elements are some cells each,for the walks of this claim. -/
namespace Go.Proofs.YtkneghkbgingdaaGreatDoor
set_option maxRecDepth 100000
open Go.RowKit Go.ChangeShapes Go.WideShapes
structure Shp (α:Type) where
 size:Nat
 cells:α->List Value
 pos:0<size
 len:∀x,(cells x).length=size
 one:∀x u,u∈cells x->u.oneCell'=true
section
variable {α:Type} {S:Shp α}
theorem zbf (xs:List α):(xs.flatMap S.cells).length=xs.length*S.size:=by
 induction xs with
 | nil=>simp
 | cons x xs ih=>rw [List.flatMap_cons,Zb,ih,S.len,Zk,Nat.add_mul,Nat.one_mul,Nat.add_comm]
theorem zc5:∀(xs:List α) (k i:Nat),i<S.size->(xs.flatMap S.cells)[k*S.size+i]?=xs[k]?.bind (fun x=>(S.cells x)[i]?):=by
 intro xs
 induction xs with
 | nil=>intro k i _;simp
 | cons x xs ih =>
  intro k i hi
  rw [List.flatMap_cons]
  cases k with
  | zero=>rw [Nat.zero_mul,Nat.zero_add,ZN (by rw [S.len];exact hi)];rfl
  | succ k =>
   have e:(k+1)*S.size+i=S.size+(k*S.size+i):=by rw [Nat.add_mul,Nat.one_mul];omega
   rw [ZL (by rw [S.len,e];omega),S.len,e,Nat.add_sub_cancel_left,ih k i hi];rfl
def Vec (S:Shp α) (w:World) (A:Option Addr) (n:Nat) (xs:List α):Prop :=
 xs.length=n/\(0<n->∃b off,A=some ⟨b,off,none⟩/\b<w.heap.size/\∀k x,xs[k]?=some x->∀i u,(S.cells x)[i]?=some u->w.cell? ⟨b,off+(k*S.size+i),none⟩=some u)
variable {w w':World} {A:Option Addr} {n:Nat} {xs:List α}
theorem Vec.len (h:Vec S w A n xs):xs.length=n:=h.1
theorem Vec.none_ (S:Shp α) (w:World) (A:Option Addr):Vec S w A 0 []:=⟨rfl,fun h=>absurd h (by omega)⟩
theorem Vec.keep (h:Vec S w A n xs) (hz:w.heap.size<=w'.heap.size) (hk:∀b off,A=some ⟨b,off,none⟩->∀o,w'.cell? ⟨b,o,none⟩=w.cell? ⟨b,o,none⟩):Vec S w' A n xs :=
 ⟨h.1,fun hn=>by
  obtain ⟨b,off,e,hb,hc⟩:=h.2 hn
  exact ⟨b,off,e,by omega,fun k x hx i u hu=>(hk b off e _).trans (hc k x hx i u hu)⟩⟩
theorem Vec.ext (h:Vec S w A n xs) (hb:Ext w w'):Vec S w' A n xs :=
 ⟨h.1,fun hn=>by
  obtain ⟨b,off,e,hlt,hc⟩:=h.2 hn
  exact ⟨b,off,e,Zo hlt (Below.size hb),fun k x hx i u hu=>(Below.cell (p:=⟨b,off+(k*S.size+i),none⟩) hb hlt).trans (hc k x hx i u hu)⟩⟩
theorem Vec.but {g:Nat} (h:Vec S w A n xs) (hb:But (some g) w w') (hne:∀off,0<n->A≠some ⟨g,off,none⟩):Vec S w' A n xs :=
 ⟨h.1,fun hn=>by
  obtain ⟨b,off,e,hlt,hc⟩:=h.2 hn
  have hg:some b≠some g:=by rintro e2;cases e2;exact hne off hn e
  exact ⟨b,off,e,Zo hlt hb.size,fun k x hx i u hu=>(hb.cell (p:=⟨b,off+(k*S.size+i),none⟩) hlt hg).trans (hc k x hx i u hu)⟩⟩
theorem zle {a:Addr} {u:Value} (h:w.cell? a=some u):a.spot=none:=by
 obtain ⟨b,o,s⟩:=a
 cases s with
 | none=>rfl
 | some s =>
  simp only [World.cell?] at h
  split at h <;> simp at h
theorem zce (b off j:Nat):((⟨b,off,none⟩:Addr).add j)=⟨b,off+j,none⟩:=by
 unfold Addr.add;split <;> simp_all
theorem Vec.of_add (hl:xs.length=n) (h:0<n->∃ad,A=some ad/\ad.block<w.heap.size/\∀k x,xs[k]?=some x->∀i u,(S.cells x)[i]?=some u->w.cell? (ad.add (k*S.size+i))=some u):Vec S w A n xs:=by
 refine ⟨hl,fun hn=>?_⟩
 obtain ⟨ad,e,hb,hc⟩:=h hn
 obtain ⟨x0,h0⟩:∃x,xs[0]?=some x:=⟨xs[0]'(by omega),Zd (by omega)⟩
 obtain ⟨u0,aa⟩:∃u,(S.cells x0)[0]?=some u:=⟨(S.cells x0)[0]'(by rw [S.len];exact S.pos),Zd (by rw [S.len];exact S.pos)⟩
 have h1:=hc 0 x0 h0 0 u0 aa
 rw [show ad.add (0*S.size+0)=ad by simp [Addr.add]] at h1
 have hs:=zle h1
 obtain ⟨b,off,spot⟩:=ad
 obtain rfl:spot=none:=hs
 exact ⟨b,off,e,hb,fun k x hx i u hu=>by rw [<-zce];exact hc k x hx i u hu⟩
def OwnV (S:Shp α) (w:World) (B:Nat) (e:TypeId) (v:Value) (k:Nat) (L:List α):Prop:=w.ownsRow B e S.size v k (L.flatMap S.cells)
theorem OwnV.nil (S:Shp α) (w:World) (B:Nat) (e:TypeId):OwnV S w B e (.slice none 0 0) 0 []:=World.ownsRow_nil _ _ _ _
theorem OwnV.alloc {B:Nat} {e:TypeId} {v:Value} {k:Nat} {L:List α} (h:OwnV S w B e v k L) (o:Obj):OwnV S (w.alloc o) B e v k L:=World.ownsRow.alloc h o
theorem OwnV.drew {B:Nat} {e:TypeId} {v:Value} {k:Nat} {L:List α} (h:OwnV S w B e v k L):OwnV S w.drew B e v k L:=World.ownsRow.drew h
theorem OwnV.drewN {B:Nat} {e:TypeId} {v:Value} {k:Nat} {L:List α} (h:OwnV S w B e v k L) (n:Nat):OwnV S (w.drewN n) B e v k L:=h
theorem OwnV.ext {B:Nat} {e:TypeId} {v:Value} {k:Nat} {L:List α} (h:OwnV S w B e v k L) (hb:Ext w w'):OwnV S w' B e v k L :=
 World.ownsRow.kept h (But.of_ext hb none) (by cases v.ownBlock <;> simp)
theorem OwnV.len {B:Nat} {e:TypeId} {v:Value} {k:Nat} {L:List α} (h:OwnV S w B e v k L):L.length=k:=by
 have:=h.1
 rw [zbf] at this
 exact Nat.eq_of_mul_eq_mul_right S.pos this
theorem Vec.of_own {B:Nat} {e:TypeId} {k c:Nat} {A:Option Addr} {L:List α} (h:OwnV S w B e (.slice A k c) k L):Vec S w A k L:=by
 refine ⟨h.len,fun hn=>?_⟩
 obtain ⟨g,cap,hv,_,hlt⟩:=World.ownsRow.form h hn
 simp only [Value.slice.injEq,true_and] at hv
 obtain ⟨hA,hc⟩:=hv
 subst hA
 refine ⟨g,0,rfl,hlt,fun j x hx i u hu=>?_⟩
 have hi:i<S.size:=by rw [<-S.len x];exact (ZK.1 hu).1
 have hj:j<k:=by rw [<-h.len];exact (ZK.1 hx).1
 have hb:j*S.size+i<k*S.size:=by
  have:=Nat.mul_le_mul_right S.size (show j+1<=k by omega)
  rw [Nat.add_mul,Nat.one_mul] at this
  omega
 rw [Nat.zero_add,World.ownsRow.cellAt h _ hb,zc5 _ _ _ hi,hx]
 exact hu
theorem zav {B k:Nat} {e:TypeId} {v:Value} {L:List α} (h:OwnV S w B e v k L):∃A c,v = .slice A k c/\Vec S w A k L:=by
 rcases h.2 with ⟨h1,h2⟩ | ⟨g,cap,cur,h1,_⟩
 ·subst h2
  subst h1
  exact ⟨none,0,rfl,Vec.of_own h⟩
 ·subst h1
  exact ⟨_,_,rfl,Vec.of_own h⟩
section
variable {P:Program} {ops:Array Oper} {rest:List Oper} {o:Oper} {a:Act} {K:Act->World->Prop} {Q:Exit->Act->World->Prop} {E:Prop} {wx:World}
theorem zfd (T e:TypeId) (z:Value) (bytes:Nat) {s x:Operand} {v:Value} {k:Nat} (g:Nat) {L:List α} (X:α)
  (ho:o.op = .call { callee := .builtin .append,args:=#[s,x],argTypes:=#[T,T] })
  (ht:P.underlying T=some (.slice e)) (hinfo:(P.info? e).map (fun i=>(i.zero,i.size,i.bytes))=some (some z,S.size,bytes)) (hzs:z.cells.size=S.size) (hby:bytes<=1000)
  (hs:a.eval s=v) (hx:a.eval x = .slice (some ⟨g,0,none⟩) 1 1) (hown:OwnV S wx w.heap.size e v k L) (hext:Ext w wx)
  (hc:∀j u,(S.cells X)[j]?=some u->wx.cell? ⟨g,j,none⟩=some u) (hk:k<=1000000)
  (h:∀v' w1,OwnV S w1 w.heap.size e v' (k+1) (L++[X])->Hid (Ext w w1)->wx.grownBy w1 v.ownBlock->K (a.put o.dst v') w1):o.wp P a wx K Q:=by
 refine zb8 T e z S.size bytes g (S.cells X) ho ht hinfo hzs S.pos hby hs hx hown hext (S.len X) hc (S.one X) hk ?_
 intro v' w1 h1 h2 h3
 exact h v' w1 (by unfold OwnV;rw [Z1];simpa using h1) h2 h3
theorem zaW (T e:TypeId) (z:Value) (bytes:Nat) {s x:Operand} {v:Value} {k:Nat} (g:Nat) {L:List α} (X:α)
  (hgd:o.guard=none) (ho:o.op = .call { callee := .builtin .append,args:=#[s,x],argTypes:=#[T,T] })
  (ht:P.underlying T=some (.slice e)) (hinfo:(P.info? e).map (fun i=>(i.zero,i.size,i.bytes))=some (some z,S.size,bytes)) (hzs:z.cells.size=S.size) (hby:bytes<=1000)
  (hs:a.eval s=v) (hx:a.eval x = .slice (some ⟨g,0,none⟩) 1 1) (hown:OwnV S wx w.heap.size e v k L) (hext:Ext w wx)
  (hc:∀j u,(S.cells X)[j]?=some u->wx.cell? ⟨g,j,none⟩=some u) (hk:k<=1000000)
  (h:∀v' w1,OwnV S w1 w.heap.size e v' (k+1) (L++[X])->Hid (Ext w w1)->wpList P ops Q rest (a.put o.dst v') w1):wpList P ops Q (o::rest) a wx :=
 wpList_plain hgd fun _ hK=>zfd T e z bytes g X ho ht hinfo hzs hby hs hx hown hext hc hk fun v' w' h2 h3 _=>hK _ _ (h v' w' h2 h3)
theorem Vec.cells_at {ad:Addr} (hxs:Vec S wx (some ad) n xs):∀j u,(xs.flatMap S.cells)[j]?=some u->wx.cell? (ad.add j)=some u:=by
 intro j u hu
 have hj:=(ZK.1 hu).1
 rw [zbf,hxs.1] at hj
 have hn:0<n:=Nat.pos_of_ne_zero (by rintro rfl;rw [Nat.zero_mul] at hj;exact absurd hj (Nat.not_lt_zero _))
 obtain ⟨b,off,hA,_,hc⟩:=hxs.2 hn
 cases hA
 have e:j=j / S.size*S.size+j % S.size:=by rw [Nat.mul_comm];exact (Nat.div_add_mod j S.size).symm
 have hi:=Nat.mod_lt j S.pos
 rw [e,zc5 _ _ _ hi] at hu
 obtain ⟨x,hx,hu⟩:=ZO.1 hu
 rw [zce,e]
 exact hc _ x hx _ u hu
end
theorem Vec.lit (w:World) (L:List α) (t:TypeId):Vec S (w.alloc (.cells (L.flatMap S.cells).toArray t)) (some ⟨w.heap.size,0,none⟩) L.length L:=by
 refine ⟨rfl,fun hn=>⟨w.heap.size,0,rfl,by simp,fun k x hx i u hu=>?_⟩⟩
 have hi:i<S.size:=by rw [<-S.len x];exact (ZK.1 hu).1
 have h:(w.alloc (.cells (L.flatMap S.cells).toArray t)).heap[w.heap.size]?=some (.cells (L.flatMap S.cells).toArray t):=heap_alloc_new w _
 rw [Nat.zero_add,cell_of_row _ w.heap.size _ _ t (0,0) h,List.getElem?_toArray,zc5 _ _ _ hi,hx]
 exact hu
theorem Vec.lit2 {L:List α} {t:TypeId} {g n:Nat} {cs:Array Value} (hg:g=w.heap.size) (hc:cs=(L.flatMap S.cells).toArray) (hn:n=L.length):Vec S (w.alloc (.cells cs t)) (some ⟨g,0,none⟩) n L:=by
 subst hg;subst hc;subst hn;exact Vec.lit w L t
end
section
variable {α:Type} {S:Shp α} {H:Type} {enc:TypeId×Value->H} {P:Program} {w:World} {base:Nat} {spare:Nat->Bool} {held:Bool}
end
end Go.Proofs.YtkneghkbgingdaaGreatDoor
/- Lists of stitches in memory. -/
namespace Go.Proofs.YtkneghkbgingdaaGreatDoor
set_option maxRecDepth 100000
open Go.RowKit Go.ChangeShapes Go.WideShapes Go.Joins
def stc (s:St):List Value:=[.int .u8 s.k,.bool s.p,.int .i64 s.a,.int .i64 s.b]
def shSt:Shp St where
 size:=4
 cells:=stc
 pos:=by omega
 len _:=rfl
 one p u h:=by
  simp [stc] at h
  rcases h with h | h | h | h <;> subst h <;> rfl
theorem za2:(Tryz.prog.info? 132).map (fun i=>(i.zero,i.size,i.bytes))=some (some (.agg #[.int .u8 0,.bool false,.int .i64 0,.int .i64 0]),4,24):=by kernel_rfl
theorem Sts.all {w:World} {A:Option Addr} {n:Nat} {xs:List St} (h:Vec shSt w A n xs) (hn:0<n) :
  ∃b off,A=some ⟨b,off,none⟩/\b<w.heap.size/\∀k,k<n->w.cell? ⟨b,off+k*4,none⟩=some (.int .u8 (xs.getD k st0).k)/\w.cell? ⟨b,off+k*4+1,none⟩=some (.bool (xs.getD k st0).p) /\
   w.cell? ⟨b,off+k*4+2,none⟩=some (.int .i64 (xs.getD k st0).a)/\w.cell? ⟨b,off+k*4+3,none⟩=some (.int .i64 (xs.getD k st0).b):=by
 obtain ⟨b,off,e,hb,hc⟩:=h.2 hn
 have hl:=h.1
 refine ⟨b,off,e,hb,fun k hk=>?_⟩
 have hx:=zpr (l:=xs) (k:=k) (by omega)
 exact ⟨hc k _ hx 0 _ rfl,hc k _ hx 1 _ rfl,hc k _ hx 2 _ rfl,hc k _ hx 3 _ rfl⟩
theorem zaq (x:Int) (y:Bool) (z t x':Int) (y':Bool) (z' t':Int) (w:World) :
  (Op.equalIn 10000 132 (.agg #[.int .u8 x,.bool y,.int .i64 z,.int .i64 t]) (.agg #[.int .u8 x',.bool y',.int .i64 z',.int .i64 t'])).run Tryz.prog w = .ok (x==x' && (y==y' && (z==z' && t==t'))) w:=by
 rw [run_equalIn_agg (P:=Tryz.prog) w 9999 132 _ _ (by kernel_rfl) (by kernel_rfl)]
 simp [Op.eqFields,Program.fieldsOf,Tryz.underlying132,go_sem,part,Tryz.underlying5,Tryz.underlying4,Tryz.underlying3]
 by_cases h1:x=x' <;> by_cases h2:y=y' <;> by_cases h3:z=z' <;> by_cases h4:t=t' <;> simp [h1,h2,h3,h4]
theorem zpI {p:Prop} (h:p:=by
 have:(x==x' && (y==y' && (z==z' && t==t')))=false:=by
  cases e:(x==x' && (y==y' && (z==z' && t==t')))
  ·rfl
  ·simp at e
   obtain ⟨rfl,rfl,rfl,rfl⟩:=e
   exact absurd rfl h
 rw [this]
 rfl):p:=h
theorem zbq {x:Int} {y:Bool} {z t x':Int} {y':Bool} {z' t':Int} (h:¬(⟨x,y,z,t⟩:St)=⟨x',y',z',t'⟩) (w:World) :
  (binOp .neq 132 (.agg #[.int .u8 x,.bool y,.int .i64 z,.int .i64 t]) (.agg #[.int .u8 x',.bool y',.int .i64 z',.int .i64 t'])).run Tryz.prog w = .ok (.bool true) w:=by
 rw [run_neq_struct,zaq]
 exact zpI
theorem zbS {x:Int} {y:Bool} {z t x':Int} {y':Bool} {z' t':Int} (h:¬(⟨x,y,z,t⟩:St)=⟨x',y',z',t'⟩) (w:World) :
  (binOp .eql 132 (.agg #[.int .u8 x,.bool y,.int .i64 z,.int .i64 t]) (.agg #[.int .u8 x',.bool y',.int .i64 z',.int .i64 t'])).run Tryz.prog w = .ok (.bool false) w:=by
 rw [run_eql_struct,zaq]
 exact zpI
section
variable {H:Type} {enc:TypeId×Value->H} {w:World} {base:Nat} {spare:Nat->Bool} {held:Bool}
end

end Go.Proofs.YtkneghkbgingdaaGreatDoor
