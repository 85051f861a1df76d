/- How slices.SortFunc lies in this program, laid by the kit (shelf_lay_g, lay-plain). -/
import Derived.Shelf.SlSortCmp.NoneTotal
import Derived.Sort.OwnSorted
import Derived.Test.YtbjgpbojjhldaaaGreatDoorY31
import Derived.OwnWalkIn
import Derived.RangeFuncLeaves
import Derived.LoopNIn
import Derived.LoopIn
namespace Go.Proofs
open Go.Shelf
def Tryz.laysSF_ren:Go.Shelf.Ren:=⟨fun | 6=>241 | 15=>175 | 14=>247 | 28=>216 | 29=>201 | 20=>252 | 21=>253 | 22=>254 | 23=>255 | 24=>256 | 25=>257 | 26=>258 | 27=>259 | 46=>261 | 47=>231 | 48=>232 | 49=>262 | 50=>263 | 57=>264 | n=>n,fun | 22=>214 | 24=>218 | 25=>310 | 3=>3 | 39=>191 | 0=>0 | 53=>237 | 55=>228 | 4=>4 | 46=>275 | 45=>274 | 50=>118 | 5=>5 | 9=>9 | 66=>301 | 70=>305 | 76=>316 | 77=>93 | n=>n,fun | n=>n⟩
theorem Tryz.laysSF:Go.Proofs.SlLaysF0.n6 Tryz.prog Tryz.laysSF_ren:={
 mixed:=by kernel_rfl
 f6:=⟨Tryz.f241.name,by decide,Tryz.func241.trans (congrArg some (by kernel_rfl))⟩
 f14:=⟨Tryz.f247.name,by decide,Tryz.func247.trans (congrArg some (by kernel_rfl))⟩
 f15:=Tryz.func175.trans (congrArg some (by kernel_rfl))
 f20:=⟨Tryz.f252.name,by decide,Tryz.func252.trans (congrArg some (by kernel_rfl))⟩
 f21:=⟨Tryz.f253.name,by decide,Tryz.func253.trans (congrArg some (by kernel_rfl))⟩
 f22:=⟨Tryz.f254.name,by decide,Tryz.func254.trans (congrArg some (by kernel_rfl))⟩
 f23:=⟨Tryz.f255.name,by decide,Tryz.func255.trans (congrArg some (by kernel_rfl))⟩
 f24:=⟨Tryz.f256.name,by decide,Tryz.func256.trans (congrArg some (by kernel_rfl))⟩
 f25:=⟨Tryz.f257.name,by decide,Tryz.func257.trans (congrArg some (by kernel_rfl))⟩
 f26:=⟨Tryz.f258.name,by decide,Tryz.func258.trans (congrArg some (by kernel_rfl))⟩
 f27:=⟨Tryz.f259.name,by decide,Tryz.func259.trans (congrArg some (by kernel_rfl))⟩
 f28:=Tryz.func216.trans (congrArg some (by kernel_rfl))
 f29:=Tryz.func201.trans (congrArg some (by kernel_rfl))
 f46:=⟨Tryz.f261.name,by decide,Tryz.func261.trans (congrArg some (by kernel_rfl))⟩
 f47:=Tryz.func231.trans (congrArg some (by kernel_rfl))
 f48:=Tryz.func232.trans (congrArg some (by kernel_rfl))
 f49:=⟨Tryz.f262.name,by decide,Tryz.func262.trans (congrArg some (by kernel_rfl))⟩
 f50:=⟨Tryz.f263.name,by decide,Tryz.func263.trans (congrArg some (by kernel_rfl))⟩
 f57:=⟨Tryz.f264.name,by decide,Tryz.func264.trans (congrArg some (by kernel_rfl))⟩
 t0:=Tryz.underlying0
 a0:=Tryz.isAgg0
 z0:=Tryz.sizeOf0
 v0:=Tryz.zeroValue0
 t3:=Tryz.underlying3
 a3:=Tryz.isAgg3
 z3:=Tryz.sizeOf3
 v3:=Tryz.zeroValue3
 t4:=Tryz.underlying4
 a4:=Tryz.isAgg4
 z4:=Tryz.sizeOf4
 v4:=Tryz.zeroValue4
 t5:=Tryz.underlying5
 a5:=Tryz.isAgg5
 z5:=Tryz.sizeOf5
 v5:=Tryz.zeroValue5
 t9:=Tryz.underlying9
 a9:=Tryz.isAgg9
 z9:=Tryz.sizeOf9
 v9:=Tryz.zeroValue9
 t22:=Tryz.underlying214
 a22:=Tryz.isAgg214
 z22:=Tryz.sizeOf214
 v22:=Tryz.zeroValue214
 t25:=Tryz.underlying310
 a25:=Tryz.isAgg310
 z25:=Tryz.sizeOf310
 v25:=Tryz.zeroValue310
 t39:=Tryz.underlying191
 a39:=Tryz.isAgg191
 z39:=Tryz.sizeOf191
 v39:=Tryz.zeroValue191
 t45:=Tryz.underlying274
 a45:=Tryz.isAgg274
 z45:=Tryz.sizeOf274
 v45:=Tryz.zeroValue274
 t46:=Tryz.underlying275
 a46:=Tryz.isAgg275
 z46:=Tryz.sizeOf275
 v46:=Tryz.zeroValue275
 t50:=Tryz.underlying118
 a50:=Tryz.isAgg118
 z50:=Tryz.sizeOf118
 v50:=Tryz.zeroValue118
 t53:=Tryz.underlying237
 a53:=Tryz.isAgg237
 z53:=Tryz.sizeOf237
 v53:=Tryz.zeroValue237
 t55:=Tryz.underlying228
 a55:=Tryz.isAgg228
 z55:=Tryz.sizeOf228
 v55:=Tryz.zeroValue228
 t66:=Tryz.underlying301
 a66:=Tryz.isAgg301
 z66:=Tryz.sizeOf301
 v66:=Tryz.zeroValue301
 t70:=Tryz.underlying305
 a70:=Tryz.isAgg305
 z70:=Tryz.sizeOf305
 v70:=Tryz.zeroValue305
 t76:=Tryz.underlying316
 a76:=Tryz.isAgg316
 z76:=Tryz.sizeOf316
 v76:=Tryz.zeroValue316
 t77:=Tryz.underlying93
 a77:=Tryz.isAgg93
 z77:=Tryz.sizeOf93
 v77:=Tryz.zeroValue93 }
end Go.Proofs
/- Floats in memory,and how they are sorted. -/
set_option maxHeartbeats 16000000
namespace Go.Proofs.YtbjgpbojjhldaaaGreatDoor
set_option maxRecDepth 100000
open Go.RowKit Go.ChangeShapes Go.WideShapes Go.Joins Go.Sort
structure FlE where
 warp:Bool
 at_:Nat
 from_:Fin 64
 len:Nat
 whole:Bool
instance:Inhabited FlE:=⟨⟨false,0,0,0,false⟩⟩
def flC (x:FlE):List Value:=[.bool x.warp,.int .i64 (x.at_:Int),.int .i64 (x.from_.val:Int),.int .i64 (x.len:Int),.bool x.whole]
def shFl:Shp FlE where
 size:=5
 cells:=flC
 pos:=by omega
 len _:=rfl
 one x u h:=by
  simp [flC] at h
  rcases h with rfl | rfl | rfl | rfl | rfl <;> rfl
theorem zgy:(Tryz.prog.info? 218).map (fun i=>(i.zero,i.size,i.bytes))=some (some (.agg #[.bool false,.int .i64 0,.int .i64 0,.int .i64 0,.bool false]),5,40):=by kernel_rfl
def cmpF (x y:FlE):Int:=(x.from_.val:Int)-(y.from_.val:Int)
theorem zsJ:SWO (ltOf cmpF) where
 irrefl x:=by simp [ltOf,cmpF]
 trans x y z h1 h2:=by unfold ltOf cmpF at *;simp only [Zy] at *;omega
 ntrans x y z h1 h2:=by unfold ltOf cmpF at *;simp only [decide_eq_false_iff_not] at *;omega
theorem zjL (x y:FlE) (w:World):Calls Tryz.prog 242 #[.agg (flC x).toArray,.agg (flC y).toArray] w fun e w'=>e = .returned (.int .i64 (cmpF x y))/\∃q os',w'=grow (w.drewN q) os':=by
 have hx:=x.from_.isLt
 have hy:=y.from_.isLt
 have i1:=Zj ((x.from_.val:Int)-(y.from_.val:Int)) (by omega)
 unfold cmpF flC
 go_enter Tryz.func242,Tryz.ntmps242
 go_wp2
 go_ret
 exact ⟨rfl,0,_,by rw [alloc_eq_grow,alloc_eq_grow,grow_grow];rfl⟩
theorem zfm {w:World} {g n:Nat} {os:Array Obj} {cur:Array Value} {e:TypeId} {fr:Nat×Nat} (F:Array Value) (hb:w.heap[g]?=some (.cells cur e fr)) :
  (grow (putRow id (Sort.ahead w n) g 0 F) os).heap[g]?=some (.cells (putCells id 0 F cur) e fr):=by
 have hg:g<w.heap.size:=(Zh.1 hb).1
 rw [heap_grow_old _ _ (by simpa using hg)]
 simp [putRow,mapBlock,Sort.ahead,Array.getElem?_modify,hb,onCells]
theorem zdr {w:World} {g n:Nat} {os:Array Obj} (F:Array Value):w.grownBy (grow (putRow id (Sort.ahead w n) g 0 F) os) (some g):=by
 refine ⟨rfl,rfl,rfl,by simp,fun k hk hne=>?_⟩
 rw [heap_grow_old _ _ (by simpa using hk)]
 have:g≠k:=fun e=>hne (by rw [e])
 simp [putRow,mapBlock,Sort.ahead,Array.getElem?_modify,this]
theorem zjK {d:Array FlE} {k i:Nat} {x:FlE} {u:Value} (hx:d.toList[k]?=some x) (hu:(flC x)[i]?=some u):((flatK flC 5 d)[k*5+i]!)=u/\k*5+i<d.size*5:=by
 obtain ⟨hk,e⟩:=ZB.1 hx
 have hi:i<5:=(ZB.1 hu).1
 have aa:k<d.size:=by simpa using hk
 have h1:k*5+i<d.size*5:=by omega
 refine ⟨?_,h1⟩
 rw [get_flatK _ _ _ _ h1,show (k*5+i) / 5=k by omega,show (k*5+i) % 5=i by omega]
 have e2:(d[k]!)=x:=by rw [getElem!_pos d k aa,<-e];simp
 rw [e2]
 simp [hu]
theorem zin {B k:Nat} {v:Value} {l:List FlE} (hk:k<=100000) (w:World) (h:OwnV shFl w B 218 v k l) :
  Calls Tryz.prog 241 #[v,.func (.func 242) #[] #[]] w fun e w'=>e = .returned (.tuple #[])/\But v.ownBlock w w'/\∃A c l',v = .slice A k c/\l'.Perm l/\Vec shFl w' A k l':=by
 have hl:l.length=k:=OwnV.len h
 obtain ⟨A0,c0,ae,aa⟩:=zao h
 rcases h.2 with ⟨h1,h2⟩ | ⟨g,cap,cur,h1,hb,hg,hn,hm,hs,ht⟩
 ·subst h1
  refine (AnyF.slices_SortFunc_none Tryz.laysSF none 0 _ w).mono ?_
  rintro e w' ⟨rfl,rfl⟩
  cases ae
  exact ⟨rfl,But.refl _ _,none,0,l,rfl,List.Perm.refl _,aa⟩
 ·subst h1
  clear aa ae
  have ab:=(Zh.1 hg).1
  have af:cur.toList.take (k*5)=l.flatMap flC:=ht
  have hH:HoldsK flC 5 w g 0 l.toArray:=by
   intro j hj
   rw [size_flatK] at hj
   have hj':j<l.length*5:=by simpa using hj
   refine ⟨?_,by simp [World.frozen?,hg]⟩
   have h5:(l.flatMap flC)[j]?=some ((flatK flC 5 l.toArray)[j]!):=by
    have e5:j=j / 5*shFl.size+j % 5:=by show j=j / 5*5+j % 5;omega
    have h9:=zb6 (S:=shFl) l (j / 5) (j % 5) (by show j % 5<5;omega)
    rw [<-e5] at h9
    have hq:j / 5<l.length:=by omega
    rw [Zf hq] at h9
    have hu:(flC l[j / 5])[j % 5]?=some ((flC l[j / 5])[j % 5]'(by show j % 5<5;omega)):=Zf _
    have h8:=(zjK (d:=l.toArray) (k:=j / 5) (i:=j % 5) (by simp [List.getElem?_eq_getElem hq]) hu).1
    rw [show j / 5*5+j % 5=j by omega] at h8
    rw [h8]
    exact h9.trans hu
   rw [<-af,List.getElem?_take_of_lt (by omega)] at h5
   simp only [World.cell?,hg,Nat.zero_add]
   simp only [Option.isSome_none,Bool.false_eq_true,if_false]
   rw [<-Array.getElem?_toList,h5]
   rfl
  have hc:=AnyQ.slices_SortFunc Tryz.laysSF 5 (fun w=>by kernel_rfl) (fun w=>by kernel_rfl) flC (fun _=>rfl) (fun x u hu=>shFl.one x u hu) cmpF zsJ 242 #[] g 0 cap l.toArray w (enters_of Tryz.func242 (by kernel_rfl) rfl)
   (fun _ _ _ _ x y=>zjL x y _) hH ab (by simp;omega)
  change Calls Tryz.prog 241 _ _ _ at hc
  rw [List.size_toArray,hl] at hc
  refine hc.mono ?_
  rintro e w' ⟨rfl,d',n,os,⟨p1,p2,p3⟩, -,rfl⟩
  have ac:d'.size=k:=by rw [p1];simpa using hl
  have ad:=zfm (w:=w) (n:=n) (os:=os) (flatK flC 5 d') hg
  refine ⟨rfl,zdr _,some ⟨g,0,none⟩,cap,d'.toList,rfl,?_,by simpa using ac,fun hp=>⟨g,0,rfl,(Zh.1 ad).1,fun j x hx i u hu=>?_⟩⟩
  ·rw [Array.extract_eq_self_of_le (by omega),Array.extract_eq_self_of_le (by simp;omega)] at p3
   simpa using p3
  ·obtain ⟨e1,e2⟩:=zjK hx hu
   show (grow (putRow id (Sort.ahead w n) g 0 (flatK flC 5 d')) os).cell? ⟨g,0+(j*5+i),none⟩=some u
   rw [cell_of_row _ g _ _ _ _ ad,Nat.zero_add]
   have hlt:j*5+i<cur.size:=by
    have h9:cur.size=cap*5:=hs
    have:k*5<=cap*5:=Nat.mul_le_mul_right _ hn
    omega
   rw [getElem!_pos _ _ (by rw [size_flatK];exact e2)] at e1
   simp [putCells,hlt,ac,show j*5+i<k*5 by omega]
   exact e1
end Go.Proofs.YtbjgpbojjhldaaaGreatDoor
/- float.floats$1: the floats of one side of a thread. -/
namespace Go.Proofs.YtbjgpbojjhldaaaGreatDoor
set_option maxRecDepth 100000
open Go.RowKit Go.ChangeShapes Go.WideShapes Go.Joins
theorem zmF {v:Bool}:∀ {l:List Bool} {k:Nat},l.idxOf? v=some k->k<l.length/\l.getD k false=v:=by
 intro l
 induction l with
 | nil=>intro k h;simp at h
 | cons x l ih =>
  intro k h
  rw [List.idxOf?_cons] at h
  by_cases e:x=v
  ·subst e
   simp at h
   subst h
   exact ⟨by simp,rfl⟩
  ·have e2:(x==v)=false:=by simpa using e
   rw [e2] at h
   simp only [Bool.false_eq_true,if_false,ZS] at h
   obtain ⟨j,hj,rfl⟩:=h
   obtain ⟨h1,h2⟩:=ih hj
   exact ⟨by simp;omega,by simpa using h2⟩
def Owned (OB:Nat) (A:World) (k:Nat):Prop:=∃off fld n c,A.cell? ⟨OB,0,none⟩=some (.slice (some ⟨k,off,fld⟩) n c)
structure KpO (OB:Nat) (A B:World):Prop where
 size:A.heap.size<=B.heap.size
 keep:∀k o,k≠OB->¬Owned OB A k->A.heap[k]?=some o->o.isCells=true->B.heap[k]?=some o
 own:∀k,Owned OB B k->Owned OB A k∨A.heap.size<=k
theorem KpO.trans {OB:Nat} {A B C:World} (h:KpO OB A B) (k:KpO OB B C):KpO OB A C :=
 ⟨Zv h.size k.size,fun i o h1 h2 h3 h4=>k.keep i o h1 (fun e=>by
  rcases h.own i e with e | e
  ·exact h2 e
  ·have:=(Zh.1 h3).1;omega) (h.keep i o h1 h2 h3 h4) h4,fun i e=>by
  rcases k.own i e with e | e
  ·exact h.own i e
  ·have:=h.size;exact .inr (by omega)⟩
theorem KpO.put {OB l:Nat} {W:World} {o o':Obj} (hl:OB<l) (h:W.heap[l]?=some o) (ho:o.isCells=false):KpO OB W (W.putObj l o'):=by
 refine ⟨by simp,fun k p _ _ h3 h4=>?_,fun k ⟨off,fld,n,c,e⟩ => .inl ⟨off,fld,n,c,?_⟩⟩
 ·exact (World.putObj_heap_other (fun e=>by subst e;rw [h] at h3;cases h3;rw [ho] at h4;cases h4)).trans h3
 ·have h9:(W.putObj l o').heap[OB]?=W.heap[OB]?:=World.putObj_heap_other (by omega)
  exact (zal h9 0).symm.trans e
def LnB (w:World) (G:Nat) (x:Ln):Prop:=w.cell? ⟨G,0,none⟩=some (.bool x.warp)/\w.cell? ⟨G,1,none⟩=some (.int .i64 (x.at_:Int))/\w.cell? ⟨G,2,none⟩=some (.slice x.A x.face.length x.c)
theorem LnB.ext {w w':World} {G:Nat} {x:Ln} (h:LnB w G x) (hb:Ext w w'):LnB w' G x:=by
 have hl:=Zn w _ h.1
 exact ⟨(Zl (p:=⟨G,0,none⟩) hb hl).trans h.1,(Zl (p:=⟨G,1,none⟩) hb hl).trans h.2.1,(Zl (p:=⟨G,2,none⟩) hb hl).trans h.2.2⟩
def flE (y:FlE):Array Value:=#[.agg (flC y).toArray]
structure FlB (w:World) (B:Nat) (y:FlE):Prop where
 c0:w.cell? ⟨B,0,none⟩=some (.bool y.warp)
 c1:w.cell? ⟨B,1,none⟩=some (.int .i64 (y.at_:Int))
 c2:w.cell? ⟨B,2,none⟩=some (.int .i64 (y.from_.val:Int))
 c3:w.cell? ⟨B,3,none⟩=some (.int .i64 (y.len:Int))
 c4:w.cell? ⟨B,4,none⟩=some (.bool y.whole)
 fr:∀o,w.frozen? ⟨B,o,none⟩=false
theorem FlB.lt {w:World} {B:Nat} {y:FlE} (h:FlB w B y):B<w.heap.size:=Zn w _ h.c0
theorem FlB.new (w:World) (y:FlE) (t:TypeId):FlB (w.alloc (.cells (flC y).toArray t)) w.heap.size y:=by
 have h1:(w.alloc (.cells (flC y).toArray t)).heap[w.heap.size]?=some (.cells (flC y).toArray t):=heap_alloc_new w _
 refine ⟨?_,?_,?_,?_,?_,fun o=>by simp only [World.frozen?];rw [h1];simp⟩
 all_goals (rw [cell_of_row _ w.heap.size _ _ t (0,0) h1];rfl)
theorem FlB.ext {w w':World} {B:Nat} {y:FlE} (h:FlB w B y) (hb:Ext w w'):FlB w' B y:=by
 have hl:=h.lt
 exact ⟨(Zl (p:=⟨B,0,none⟩) hb hl).trans h.c0,(Zl (p:=⟨B,1,none⟩) hb hl).trans h.c1,(Zl (p:=⟨B,2,none⟩) hb hl).trans h.c2,(Zl (p:=⟨B,3,none⟩) hb hl).trans h.c3,(Zl (p:=⟨B,4,none⟩) hb hl).trans h.c4,
  fun o=>(hb.facts.2.1 _ _ hl).trans (h.fr o)⟩
theorem FlB.set3 {w:World} {B:Nat} {y:FlE} (h:FlB w B y) (n:Nat):FlB (w.setCell ⟨B,3,none⟩ (.int .i64 (n:Int))) B { y with len:=n } :=
 ⟨(Zg _ _ _ _ (by simp)).trans h.c0,(Zg _ _ _ _ (by simp)).trans h.c1,(Zg _ _ _ _ (by simp)).trans h.c2,Zq _ _ _ h.c3,(Zg _ _ _ _ (by simp)).trans h.c4,
  fun o=>(Zo _ _ _ _).trans (h.fr o)⟩
theorem zhm {w:World} {b off n:Nat} {L:List FlE} (h:Vec shFl w (some ⟨b,off,none⟩) n L) {k:Nat} {r:FlE} (hr:L[k]?=some r):∀i u,(flC r)[i]?=some u->w.cell? ⟨b,off+k*5+i,none⟩=some u:=by
 have hk:k<n:=by rw [<-h.1];exact (ZB.1 hr).1
 obtain ⟨b',off',e,_,hc⟩:=h.2 (by omega)
 cases e
 intro i u hu
 rw [Nat.add_assoc]
 exact hc k r hr i u hu
theorem zbr {w:World} {b o:Nat} {v:Value} (h:w.cell? ⟨b,o,none⟩=some v):∃p,w.heap[b]?=some p/\p.isCells=true:=by
 unfold World.cell? at h
 simp only [Option.isSome_none,Bool.false_eq_true,if_false] at h
 split at h
 ·rename_i h9
  exact ⟨_,h9,rfl⟩
 ·cases h
structure SafeR (OB:Nat) (w:World) (A:Option Addr) (q:Nat) (ys:List FlE):Prop where
 v:Vec shFl w A q ys
 ob:OB<w.heap.size
 ok:∀b off,0<q->A=some ⟨b,off,none⟩->b≠OB/\¬Owned OB w b
theorem SafeR.ext {OB q:Nat} {w w':World} {A:Option Addr} {ys:List FlE} (h:SafeR OB w A q ys) (hb:Ext w w'):SafeR OB w' A q ys :=
 ⟨Vec.ext h.v hb,Zi h.ob (Zt hb),fun b off h1 h2=>⟨(h.ok b off h1 h2).1,fun ⟨o,fld,n,c,e⟩=>(h.ok b off h1 h2).2 ⟨o,fld,n,c,(Zl (p:=⟨OB,0,none⟩) hb h.ob).symm.trans e⟩⟩⟩
theorem SafeR.step {OB q:Nat} {w w':World} {A:Option Addr} {ys:List FlE} (h:SafeR OB w A q ys) (hb:KpO OB w w'):SafeR OB w' A q ys:=by
 refine ⟨⟨h.v.1,fun hq=>?_⟩,Zi h.ob hb.size,fun b off h1 h2=>?_⟩
 ·obtain ⟨b,off,e,hlt,hc⟩:=h.v.2 hq
  refine ⟨b,off,e,Zi hlt hb.size,fun k x hx i u hu=>?_⟩
  have h9:=hc k x hx i u hu
  obtain ⟨p,h8,h7⟩:=zbr h9
  have h6:=hb.keep b p (h.ok b off hq e).1 (h.ok b off hq e).2 h8 h7
  exact (zal (h6.trans h8.symm) _).trans h9
 ·refine ⟨(h.ok b off h1 h2).1,fun e=>?_⟩
  rcases hb.own b e with h9 | h9
  ·exact (h.ok b off h1 h2).2 h9
  ·obtain ⟨b',off',e',hlt, -⟩:=h.v.2 h1
   rw [h2] at e'
   cases e'
   omega
section
variable (m l:Nat) (J:List FlE->World->Prop) (hJ:∀s A B,J s A->Ext A B->J s B) (G Fb OB:Nat) (x:Ln) (f:Bool) (W:World) (hG:LnB W G x) (hA:LnA x W) (hF:W.cell? ⟨Fb,0,none⟩=some (.bool f)) (hOB:OB<W.heap.size) (hown:∀k,Owned OB W k->k<W.heap.size)
 (hY:∀pre y W1,J pre W1->1<=y.len/\y.len<=64->pre.length<66->YieldAt Fence.wide m Tryz.prog l (flE y) W1 fun e W'=>e = .returned (.bool true)/\J (pre++[y]) W'/\KpO OB W1 W') (h0:J [] W)
include hJ hG hA hF hOB hown hY h0
theorem zjM :
  Calls Tryz.prog 239 #[.func (.yield l) #[] #[],.pointer (some ⟨G,0,none⟩),.pointer (some ⟨Fb,0,none⟩)] W fun e W'=>(∃v,e = .returned v)/\∃xs:List FlE,(xs.map (·.len)).Perm (floV f x.face)/\J xs W':=by
 have HJ:=Za hJ
 have HY:=Za hY
 have aQ:=Za h0
 have HG:=Za hG
 have HA:=Za hA
 have HF:=Za hF
 have a8:=Za hown
 obtain ⟨e0,e1,e2⟩:=hG
 obtain ⟨N,hN⟩:∃N,x.face.length=N:=⟨_,rfl⟩
 have HN:=Za hN
 have n1:1<=N:=by rw [<-hN];exact hA.2.1
 have n2:N<=64:=by rw [<-hN];exact hA.2.2.1
 have ai:=Za (fun w' (h:Ext W w')=>zh6 N x.c x.A x.face (!f) w' (by rw [<-hN];exact Vec.ext hA.1 h) (by omega))
 rw [hN] at e2
 rcases hi:x.face.idxOf? (!f) with _ | k
 ·have HV:=Za (show floV f x.face=[N] by rw [zil hi,hN])
  rw [show idxV (!f) x.face = -1 by rw [idxV,hi]] at ai
  clear hJ hY h0 hA hown hN hi
  go_enter Tryz.func239,Tryz.ntmps239
  go_upto_region 3 with (go_at_call 240;((with_reducible refine (ai.out _ zx).mono ?_);rintro e w1 ⟨rfl,bi⟩;have au:=Za (show Ext W w1 from zx);obtain ⟨f0,f1,f2⟩:=HG.out.ext au.out))
  obtain ⟨fn,tmps,assign,body,aB,hR⟩:=HY.out [] ⟨x.warp,x.at_,0,N,true⟩ w1 (HJ.out _ _ _ aQ.out au.out) ⟨n1,n2⟩ (by simp)
  change (Instr.yield l #[.agg #[.bool x.warp,.int .i64 (x.at_:Int),.int .i64 0,.int .i64 (N:Int),.bool true]]).run Tryz.prog w1=_ at aB
  refine wpIn_wide.1 (?_:Code.wpIn Fence.wide (m+1) _ _ _ _ _)
  gi_wp2
  refine hR.mono ?_
  rintro e W3 ⟨rfl,bg,hk3⟩
  gi_wp2
  go_wp2_with fail
  refine bodyPost_ret (results_none rfl _ _ _) rfl ?_
  exact ⟨⟨_,rfl⟩,[⟨x.warp,x.at_,0,N,true⟩],by rw [HV.out];exact List.Perm.refl _,bg⟩
 ·obtain ⟨k1,k2⟩:=zmF hi
  have HV:=Za (show floV f x.face=floGo f ((cycL x.face k).drop 1) 0 from zjO hi k1 k2)
  rw [show idxV (!f) x.face=(k:Int) by rw [idxV,hi]] at ai
  have ag:=Za (show (cycL x.face k).length=N by rw [zgi,hN])
  have aC:=Za (show ∀i,i<N->(cycL x.face k).getD i false=x.face.getD ((k+i) % N) false from fun i h=>by rw [zou k1 (by omega),hN])
  obtain ⟨b,off,aw, -, -⟩:=zaX hA.1 (by omega)
  have aN:=Za aw
  have aP:=Za (show ∀w',Ext W w'->b<w'.heap.size/\∀j,j<N->w'.cell? ⟨b,off+j,none⟩=some (.bool (x.face.getD j false)) from fun w' h=>by
   obtain ⟨b',off',e9,h8,h9⟩:=zaX (Vec.ext hA.1 h) (by omega)
   rw [aw] at e9
   cases e9
   rw [hN] at h9
   exact ⟨h8,h9⟩)
  rw [aw] at ai e2
  rw [hN] at k1
  clear aw
  obtain ⟨C,hC⟩:∃C,cycL x.face k=C:=⟨_,rfl⟩
  rw [hC] at HV ag aC
  clear hJ hY h0 hA hown hN hi k2 hC
  go_enter Tryz.func239,Tryz.ntmps239
  go_wp2_with (go_at_call 240;((with_reducible refine (ai.out _ zx).mono ?_);rintro e w1 ⟨rfl,bi⟩;have au:=Za (show Ext W w1 from zx)))
  go_loopw [6,7] (fun u i wr=>∃(V:Value) (j:Nat) (xs:List FlE),V=u/\i = .int .i64 j/\1<=j/\j<=N+1/\xs.length<=j/\Hid (OwnV shFl wr W.heap.size 218 V xs.length xs)/\Hid (Ext W wr)/\Hid (xs.map (·.len)++floGo f (C.drop j) 0=floV f x.face)/\Hid (∀y∈xs,1<=y.len/\y.len<=64)) (fun _ i _=>N+1-(intOf i).toNat)
  case atStart=>exact ⟨_,1,[],rfl,rfl,Zb _,by omega,by simp,Za (OwnV.nil _ _ _ _),au,Za HV.out.symm,Za (fun y hy=>by cases hy)⟩
  case round =>
   obtain ⟨V,j,xs,rfl,rfl,hj1,hjN,bj,HO,HE,HL,HB⟩:=hrel
   by_cases hlt:j<N
   ·have q1:(j:Int)<(N:Int):=by omega
    obtain ⟨p,hp⟩:∃p,(k+j) % N=p:=⟨_,rfl⟩
    have bh:p<N:=by rw [<-hp];exact Nat.mod_lt _ (by omega)
    have am:((k:Int)+(j:Int)) % (N:Int)=(p:Int):=by rw [<-hp];simp
    have a1:Int.tmod ((k:Int)+(j:Int)) (N:Int)=(p:Int):=by rw [Int.tmod_eq_emod_of_nonneg (by omega)];exact am
    have aD:=Za (show C.getD j false=x.face.getD p false by rw [aC.out j hlt,hp])
    have i1:=Zj ((k:Int)+(j:Int)) (by omega)
    have i2:=Zj (p:Int) (by omega)
    have z0:((N:Int)==0)=false:=by simp;omega
    obtain ⟨az,al⟩:=aP.out wr HE.out
    have ab:=al p bh
    obtain ⟨f0,f1,f2⟩:=HG.out.ext HE.out
    rw [aN.out,HN.out] at f2
    have ax:wr.cell? ⟨Fb,0,none⟩=some (.bool f):=(Zl (p:=⟨Fb,0,none⟩) HE.out (Zn W _ HF.out)).trans HF.out
    have q3:(0:Int)<=(p:Int):=by omega
    have q4:(p:Int)<(N:Int):=by omega
    obtain ⟨t,ht⟩:∃t,x.face.getD p false=t:=⟨_,rfl⟩
    rw [ht] at ab aD
    clear al ht am hp
    by_cases hc:t=f
    ·subst hc
     have hne:(t != t)=false:=by simp
     go_wp2_with fail
     go_quiet (fail)
     have ak:=Za (show Ext W (wr.drewN nq) from HE.out.trans ((Ze wr).drewN nq))
     obtain ⟨w2,hw2⟩:∃w2,wr.drewN nq=w2:=⟨_,rfl⟩
     rw [hw2] at ak ⊢
     have aU:=Za (show OwnV shFl w2 W.heap.size 218 V xs.length xs from by rw [<-hw2];exact HO.out.ext ((Ze wr).drewN nq))
     clear hw2 ab f0 f1 f2 ax az HO HE
     obtain ⟨f0,f1,f2⟩:=HG.out.ext ak.out
     go_wp2_with fail
     clear f0 f1 f2 i1 i2 a1 hne
     have aa:p<64:=by omega
     have ap:=Za (show FlB (w2.alloc (.cells #[.bool x.warp,.int .i64 (x.at_:Int),.int .i64 (p:Int),.int .i64 0,.bool false] 218)) w2.heap.size ⟨x.warp,x.at_,⟨p,aa⟩,0,false⟩ from FlB.new w2 ⟨x.warp,x.at_,⟨p,aa⟩,0,false⟩ _)
     have ah:=Za (show Ext w2 (w2.alloc (.cells #[.bool x.warp,.int .i64 (x.at_:Int),.int .i64 (p:Int),.int .i64 0,.bool false] 218)) from (Ze w2).alloc _)
     obtain ⟨B,hB⟩:∃B,w2.heap.size=B:=⟨_,rfl⟩
     obtain ⟨W3,aZ⟩:∃W3,w2.alloc (.cells #[.bool x.warp,.int .i64 (x.at_:Int),.int .i64 (p:Int),.int .i64 0,.bool false] 218)=W3:=⟨_,rfl⟩
     rw [aZ] at ap ah ⊢
     rw [hB] at ap ⊢
     have a3:=Za hB
     clear aZ hB
     go_loopw [7] (fun ii wr=>∃i:Nat,ii = .int .i64 i/\j<=i/\i<=N/\Hid (FlB wr B ⟨x.warp,x.at_,⟨p,aa⟩,i-j,false⟩)/\Hid (Ext w2 wr)/\Hid (floGo t (C.drop i) (i-j)=floGo t (C.drop j) 0)) (fun ii _=>N-(intOf ii).toNat)
     case atStart=>exact ⟨j,rfl,Zb _,by omega,by rw [Nat.sub_self];exact ap,ah,Za (by rw [Nat.sub_self])⟩
     case round =>
      clear ap ah
      obtain ⟨i,rfl,hji,hiN,aq,av,ar⟩:=hrel
      obtain ⟨mm,hmm⟩:∃mm,i-j=mm:=⟨_,rfl⟩
      rw [hmm] at aq ar
      have HX5:=Za (ak.out.trans av.out)
      by_cases hi:i<N
      ·obtain ⟨p2,aA⟩:∃p,(k+i) % N=p:=⟨_,rfl⟩
       have aK:p2<N:=by rw [<-aA];exact Nat.mod_lt _ (by omega)
       have am:((k:Int)+(i:Int)) % (N:Int)=(p2:Int):=by rw [<-aA];simp
       have a1:Int.tmod ((k:Int)+(i:Int)) (N:Int)=(p2:Int):=by rw [Int.tmod_eq_emod_of_nonneg (by omega)];exact am
       have ao:=Za (show C.getD i false=x.face.getD p2 false by rw [aC.out i hi,aA])
       have i1:=Zj ((k:Int)+(i:Int)) (by omega)
       have i2:=Zj (p2:Int) (by omega)
       obtain ⟨az,al⟩:=aP.out wr HX5.out
       have ab:=al p2 aK
       obtain ⟨f0,f1,f2⟩:=HG.out.ext HX5.out
       rw [aN.out,HN.out] at f2
       have ax:wr.cell? ⟨Fb,0,none⟩=some (.bool t):=(Zl (p:=⟨Fb,0,none⟩) HX5.out (Zn W _ HF.out)).trans HF.out
       have q5:(0:Int)<=(p2:Int):=by omega
       have q6:(p2:Int)<(N:Int):=by omega
       obtain ⟨t2,ht⟩:∃t,x.face.getD p2 false=t:=⟨_,rfl⟩
       rw [ht] at ab ao
       clear al ht am aA
       have d1:decide ((i:Int)<(N:Int))=true:=by simp;omega
       by_cases hc2:t2=t
       ·have hq:(t2==t)=true:=by simpa using hc2
        have a4:=Za (show floGo t (C.drop (i+1)) (mm+1)=floGo t (C.drop j) 0 by rw [<-ar.out];exact (zmp (by rw [ag.out];exact hi) (by rw [ao.out];exact hc2)).symm)
        clear hc2
        go_wp2_with fail
        go_quiet (fail)
        have HX6:=Za (show Ext w2 (wr.drewN nq) from av.out.trans ((Ze wr).drewN nq))
        have af:=Za (aq.out.ext ((Ze wr).drewN nq))
        obtain ⟨w5,hw5⟩:∃w5,wr.drewN nq=w5:=⟨_,rfl⟩
        rw [hw5] at HX6 af ⊢
        clear hw5 ab f0 f1 f2 ax az
        have b3:=af.out.c3
        have bf:=af.out.fr
        simp only at b3
        have i3:=Zj ((mm:Int)+1) (by omega)
        have i4:=Zj ((i:Int)+1) (by omega)
        have aO:=Za (af.out.set3 (mm+1))
        simp only [Int.natCast_add,Int.cast_ofNat_Int] at aO
        go_wp2_with fail
        go_roundw
        case rel=>exact ⟨i+1,by go_num,by omega,by omega,by rw [show i+1-j=mm+1 by omega];exact aO,Za (HX6.out.set (Nat.le_of_eq a3.out) _),by rw [show i+1-j=mm+1 by omega];exact a4⟩
        case measure=>simp [intOf];omega
       ·have hq:(t2==t)=false:=by simpa using hc2
        have ad:1<=mm:=by
         rcases Nat.eq_zero_or_pos mm with h0 | h0
         ·obtain rfl:i=j:=by omega
          exact absurd (ao.out.symm.trans (aD.out)) hc2
         ·exact h0
        have aE:=Za (show floGo t (C.drop i) mm=mm::floGo t (C.drop (i+1)) 0 from zmr (by rw [ag.out];exact hi) ad (by rw [ao.out];exact hc2))
        clear hc2
        go_wp2_with fail
        go_quiet (fail)
        have HX6:=Za (show Ext w2 (wr.drewN nq) from av.out.trans ((Ze wr).drewN nq))
        have af:=Za (aq.out.ext ((Ze wr).drewN nq))
        obtain ⟨w5,hw5⟩:∃w5,wr.drewN nq=w5:=⟨_,rfl⟩
        rw [hw5] at HX6 af ⊢
        clear hw5 ab f0 f1 f2 ax az
        have aH:=Za (ak.out.trans HX6.out)
        obtain ⟨b0,b1,b2,b3,b4, -⟩:=af.out
        simp only at b0 b1 b2 b3 b4
        have aj:=Za (aU.out.ext HX6.out)
        have i4:=Zj ((i:Int)+1) (by omega)
        obtain ⟨A1,c1,rfl, -⟩:=zao aj.out
        go_wp2_with (at_builtin;(refine zaa (S:=shFl) (w:=W) (m:=1) (xs:=[(⟨x.warp,x.at_,⟨p,aa⟩,mm,false⟩:FlE)]) 214 218 (.agg #[.bool false,.int .i64 0,.int .i64 0,.int .i64 0,.bool false]) 40 (by rfl) (by rfl) Tryz.underlying214 zgy (by rfl) (by omega) (by rfl) (by rfl) (aj.out.ext ((Ze _).alloc _)) (aH.out.trans ((Ze _).alloc _)) (Vec.lit2 (by rfl) (by rfl) (by rfl)) (by omega) ?_;intro v' w6 ae ac aJ))
        refine ⟨?_,by simp [intOf];omega⟩
        refine ⟨v',i+1,xs++[(⟨x.warp,x.at_,⟨p,aa⟩,mm,false⟩:FlE)],rfl,by go_num,by omega,by omega,by simp only [Zc,ZW];omega,?_,ac,?_,?_⟩
        ·simp only [Zc,ZW];exact Za ae
        ·rw [List.map_append,Zr]
         exact Za (by rw [<-HL.out,<-ar.out,aE.out];rfl)
        ·exact Za (fun y hy=>by
          rcases ZQ.1 hy with h | h
          ·exact HB.out y h
          ·simp only [List.mem_singleton] at h
           subst h
           exact ⟨ad,by show mm<=64;omega⟩)
      ·have hiE:i=N:=by omega
       have ad:1<=mm:=by omega
       have d1:decide ((i:Int)<(N:Int))=false:=by simp;omega
       have aE:=Za (show floGo t (C.drop i) mm=mm::floGo t (C.drop (i+1)) 0 from zph (by rw [ag.out];omega) ad)
       go_wp2_with fail
       go_quiet (fail)
       have HX6:=Za (show Ext w2 (wr.drewN nq) from av.out.trans ((Ze wr).drewN nq))
       have af:=Za (aq.out.ext ((Ze wr).drewN nq))
       obtain ⟨w5,hw5⟩:∃w5,wr.drewN nq=w5:=⟨_,rfl⟩
       rw [hw5] at HX6 af ⊢
       clear hw5
       have aH:=Za (ak.out.trans HX6.out)
       obtain ⟨b0,b1,b2,b3,b4, -⟩:=af.out
       simp only at b0 b1 b2 b3 b4
       have aj:=Za (aU.out.ext HX6.out)
       have i4:=Zj ((i:Int)+1) (by omega)
       obtain ⟨A1,c1,rfl, -⟩:=zao aj.out
       go_wp2_with (at_builtin;(refine zaa (S:=shFl) (w:=W) (m:=1) (xs:=[(⟨x.warp,x.at_,⟨p,aa⟩,mm,false⟩:FlE)]) 214 218 (.agg #[.bool false,.int .i64 0,.int .i64 0,.int .i64 0,.bool false]) 40 (by rfl) (by rfl) Tryz.underlying214 zgy (by rfl) (by omega) (by rfl) (by rfl) (aj.out.ext ((Ze _).alloc _)) (aH.out.trans ((Ze _).alloc _)) (Vec.lit2 (by rfl) (by rfl) (by rfl)) (by omega) ?_;intro v' w6 ae ac aJ))
       refine ⟨?_,by simp [intOf];omega⟩
       refine ⟨v',i+1,xs++[(⟨x.warp,x.at_,⟨p,aa⟩,mm,false⟩:FlE)],rfl,by go_num,by omega,by omega,by simp only [Zc,ZW];omega,?_,ac,?_,?_⟩
       ·simp only [Zc,ZW];exact Za ae
       ·rw [List.map_append,Zr]
        exact Za (by rw [<-HL.out,<-ar.out,aE.out];rfl)
       ·exact Za (fun y hy=>by
         rcases ZQ.1 hy with h | h
         ·exact HB.out y h
         ·simp only [List.mem_singleton] at h
          subst h
          exact ⟨ad,by show mm<=64;omega⟩)
    ·have hne:(t != f)=true:=by simpa using hc
     have hne2:(t==f)=false:=by simpa using hc
     go_wp2_with fail
     go_quiet (fail)
     go_wp2_with fail
     exact ⟨⟨V,j+1,xs,rfl,by go_num,by omega,by omega,by omega,Za (HO.out.ext ((Ze wr).drewN nq)),Za (HE.out.trans ((Ze wr).drewN nq)),Za ((congrArg (fun z=>xs.map (·.len)++z) (zhn (by rw [ag.out];exact hlt) (by rw [aD.out];exact hc)).symm).trans HL.out),HB⟩,by simp [intOf];omega⟩
   ·have aT:=Za (show xs.map (·.len)=floV f x.face by rw [<-HL.out,zmq (by rw [ag.out];omega),ZF])
    have aG:=Za (fun w' (h:Ext wr w')=>zin (k:=xs.length) (by omega) w' (HO.out.ext h))
    obtain ⟨q,hq⟩:∃q,xs.length=q:=⟨_,rfl⟩
    rw [hq] at aG HO bj
    have hnl:¬(j:Int)<(N:Int):=by omega
    go_wp2_with (go_at_call 241;((with_reducible refine (aG.out _ zx).mono ?_);rintro e w2 ⟨rfl,ay,A,c,ys,rfl,aM,aL⟩))
    have aI:=Za (show Ext W w2 from Below.trans HE.out (ay.below (Zt HE.out) (fun b e=>(zas HO.out b e).1)))
    have aV:=Za (show SafeR OB w2 A q ys from ⟨aL,Zi hOB (Zt aI.out),fun b off h1 h2=>by
     have h3:W.heap.size<=b:=by
      subst h2
      exact (zas HO.out b (by simp [Value.ownBlock])).1
     refine ⟨by omega,fun ⟨o,fld,n,c,e⟩=>?_⟩
     have h4:=a8.out b ⟨o,fld,n,c,(Zl (p:=⟨OB,0,none⟩) aI.out hOB).symm.trans e⟩
     omega⟩)
    have aR:=Za (HJ.out _ _ _ aQ.out aI.out)
    have be:=Za (show (ys.map (·.len)).Perm (floV f x.face) by rw [<-aT.out];exact aM.map _)
    have bc:=Za (show ∀y∈ys,1<=y.len/\y.len<=64 from fun y hy=>HB.out y (aM.subset hy))
    have a2:ys.length=q:=aL.1
    have hq64:q<=64+1:=by omega
    have aW:=Za a2
    clear ay aL aM aG HO aT HE HL HB hq a2
    go_loopw [83] (fun u wr=>∃i:Nat,u = .int .i64 i/\i<=q/\Hid (J (ys.take i) wr)/\Hid (SafeR OB wr A q ys)) (fun u _=>q-(intOf u).toNat)
    case atStart=>exact ⟨0,rfl,ZK _,aR,aV⟩
    case round =>
     clear aR aV
     obtain ⟨i,rfl,hi,aS,aF⟩:=hrel
     by_cases hiq:i<q
     ·obtain ⟨y,hy⟩:∃y,ys[i]?=some y:=⟨_,Zf (by rw [aW.out];exact hiq)⟩
      obtain ⟨b2,off2,aX,ay, -⟩:=aF.out.v.2 (by omega)
      have HR:=Za (zhm (by rw [<-aX];exact aF.out.v) hy)
      have c0:=HR.out 0 _ rfl
      have c1:=HR.out 1 _ rfl
      have c2:=HR.out 2 _ rfl
      have c3:=HR.out 3 _ rfl
      have c4:=HR.out 4 _ rfl
      simp only [Nat.add_zero] at c0
      subst aX
      have q1:(i:Int)<(q:Int):=by omega
      have q2:(0:Int)<=(i:Int):=by omega
      have i4:=Zj ((i:Int)+1) (by omega)
      go_upto_region 19 with fail
      have ah:=Za (show Ext wr (wr.alloc (.cells #[.bool y.warp,.int .i64 (y.at_:Int),.int .i64 (y.from_.val:Int),.int .i64 (y.len:Int),.bool y.whole] 218)) from (Ze wr).alloc _)
      have a5:=Za (HJ.out _ _ _ aS.out ah.out)
      have a9:=Za (aF.out.ext ah.out)
      have bb:=Za (show ys.take (i+1)=ys.take i++[y] by rw [List.take_add_one,hy];rfl)
      obtain ⟨fn,tmps,assign,body,aB,hR⟩:=HY.out _ y _ a5.out (bc.out y (List.mem_of_getElem? hy)) (by rw [Zw];omega)
      change (Instr.yield l #[.agg #[.bool y.warp,.int .i64 (y.at_:Int),.int .i64 (y.from_.val:Int),.int .i64 (y.len:Int),.bool y.whole]]).run Tryz.prog _=_ at aB
      clear c0 c1 c2 c3 c4 hy ay
      refine wpIn_wide.1 (?_:Code.wpIn Fence.wide (m+1) _ _ _ _ _)
      gi_wp2
      refine hR.mono ?_
      rintro e W3 ⟨rfl,aY,a0⟩
      have a6:=Za (show J (ys.take (i+1)) W3 by rw [bb.out];exact aY)
      have ba:=Za (a9.out.step a0)
      clear aY a0 hR aB
      gi_wp2
      go_wp2_with fail
      exact ⟨⟨i+1,by go_num,by omega,a6,ba⟩,by simp [intOf];omega⟩
     ·obtain rfl:i=q:=by omega
      have a7:=Za (show J ys wr by have h9:=aS.out;rwa [Zs (Nat.le_of_eq aW.out)] at h9)
      go_wp2_with fail
      go_end0
      exact ⟨⟨_,rfl⟩,ys,be.out,a7.out⟩
end
end Go.Proofs.YtbjgpbojjhldaaaGreatDoor
/- float.side: what a range over threads and their floats keeps. -/
namespace Go.Proofs.YtbjgpbojjhldaaaGreatDoor
set_option maxRecDepth 100000
open Go.RowKit Go.ChangeShapes Go.WideShapes Go.Joins
section
variable {α:Type} {S:Shp α} {F:Fence} {n:Nat} {P:Program} {ops:Array Oper} {rest:List Oper} {o:Oper} {a:Act} {Q:Exit->Act->World->Prop} {wx:World}
theorem zbM (T e:TypeId) (z:Value) (bytes:Nat) {s x:Operand} {v:Value} {k m c:Nat} {A:Option Addr} {L xs:List α}
  (hgd:o.guard=none) (ho:o.op = .call { callee := .builtin .append,args:=#[s,x],argTypes:=#[T,T] })
  (ht:P.underlying T=some (.slice e)) (hinfo:(P.info? e).map (fun i=>(i.zero,i.size,i.bytes))=some (some z,S.size,bytes)) (hzs:z.cells.size=S.size) (hby:bytes<=1000)
  (hs:a.eval s=v) (hx:a.eval x = .slice A m c) (B:Nat) (hown:OwnV S wx B e v k L) (hB:B<=wx.heap.size) (hxs:Vec S wx A m xs) (hm:0<m) (hk:k+m<=1000000)
  (h:∀v' w1,OwnV S w1 B e v' (k+m) (L++xs)->Hid (wx.grownBy w1 v.ownBlock/\(v'.ownBlock=v.ownBlock∨v'.ownBlock=some wx.heap.size))->wpListIn F n P ops Q rest (a.put o.dst v') w1):wpListIn F n P ops Q (o::rest) a wx:=by
 obtain ⟨i0,hi,ac,hz1,ad⟩:=info_parts hinfo
 obtain ⟨b,off,rfl,hlt,hcx⟩:=hxs.2 hm
 obtain ⟨v',w',aa,h2,h3,h4⟩:=run_append_own_at (P:=P) wx B T o.type e i0 z S.size bytes ht hi ac hz1 ad hzs S.pos v k _ hown ⟨b,off,none⟩ m c (xs.flatMap S.cells) (by rw [zaU,hxs.1]) hxs.cells_at
  (fun u hu=>by obtain ⟨y,_,hy⟩:=ZI.1 hu;exact S.one y u hy) (by unfold maxLen;omega) (by have:=Nat.mul_le_mul (show k+m<=1000000 by omega) hby;omega) hB
 refine wpListIn_plain hgd fun K hK'=>?_
 unfold Oper.wpIn
 refine ⟨?_,?_⟩
 ·simp [Oper.about,ho,resolve,Target.leads,Sem.run_pure]
 ·rw [Oper.semAt_plain F _ _ (by rw [ho];intro c ab;cases ab)]
  simp [execOp,ho,resolve,invoke,builtin,hs,hx,aa,Result.andThen]
  exact hK' _ _ (h v' w' (by unfold OwnV;rw [ZO];exact h2) ⟨h3,h4.2⟩)
end
structure SdI (w:World) (s:Nat) (f:Bool) (V:Value) (ys:List FlE) (W:World):Prop where
 ex:Ext w W
 ws:w.heap.size=s
 fc:W.cell? ⟨s+1,0,none⟩=some (.bool f)
 wc:W.cell? ⟨s+1+1,0,none⟩=some (.func (.func 189) #[] #[])
 oc:W.cell? ⟨s+1+1+1,0,none⟩=some V
 fr:W.frozen? ⟨s+1+1+1,0,none⟩=false
 ow:OwnV shFl W (s+5) 218 V ys.length ys
 sz:s+5<=W.heap.size
theorem SdI.but {w W W':World} {s:Nat} {f:Bool} {V:Value} {ys:List FlE} {E:Option Nat} (h:SdI w s f V ys W) (hb:But E W W') (hE:∀r,E=some r->s+5<=r/\V.ownBlock≠some r):SdI w s f V ys W':=by
 have key:∀k,k<s+5->some k≠E:=fun k hk e=>by have:=(hE k e.symm).1;omega
 have hz:=h.sz
 refine ⟨Below.trans h.ex (hb.below (Zt h.ex) (fun k e=>by have:=(hE k e).1;have:=h.ws;omega)),h.ws,?_,?_,?_,?_,?_,Zv h.sz hb.size⟩
 ·exact (zal (hb.block (s+1) (by omega) (key (s+1) (by omega))) 0).trans h.fc
 ·exact (zal (hb.block (s+1+1) (by omega) (key (s+1+1) (by omega))) 0).trans h.wc
 ·exact (zal (hb.block (s+1+1+1) (by omega) (key (s+1+1+1) (by omega))) 0).trans h.oc
 ·exact (World.frozen?_of_block (a:=⟨s+1+1+1,0,none⟩) (hb.block (s+1+1+1) (by omega) (key (s+1+1+1) (by omega)))).trans h.fr
 ·refine World.ownsRow.kept h.ow hb ?_
  rcases hv:V.ownBlock with _ | b
  ·exact .inl rfl
  ·refine .inr fun e=>?_
   exact (hE b e.symm).2 hv
theorem SdI.ext {w W W':World} {s:Nat} {f:Bool} {V:Value} {ys:List FlE} (h:SdI w s f V ys W) (hb:Ext W W'):SdI w s f V ys W':=h.but (But.of_ext hb none) (by simp)
theorem SdI.grown {w W W':World} {s:Nat} {f:Bool} {V:Value} {ys:List FlE} {E:Option Nat} (h:SdI w s f V ys W) (hb:But E W W') (hE:∀r,E=some r->s+5<=r/\∃o:Obj,W.heap[r]?=some o/\o.isCells=false):SdI w s f V ys W':=by
 refine h.but hb fun r e=>⟨(hE r e).1,fun e2=>?_⟩
 obtain ⟨o,h1,h2⟩:=(hE r e).2
 rcases h.ow.2 with ⟨h3, -⟩ | ⟨g,cap,cur,h3, -,hg, -⟩
 ·rw [h3] at e2;simp [Value.ownBlock] at e2
 ·rw [h3] at e2
  simp [Value.ownBlock] at e2
  subst e2
  rw [hg] at h1
  cases h1
  cases h2
theorem SdI.owned {w W:World} {s:Nat} {f:Bool} {V:Value} {ys:List FlE} (h:SdI w s f V ys W):∀k,Owned (s+1+1+1) W k->V.ownBlock=some k/\s+5<=k/\k<W.heap.size:=by
 rintro k ⟨off,fld,n,c,e⟩
 rw [h.oc] at e
 cases e
 have h1:(Value.slice (some ⟨k,off,fld⟩) n c).ownBlock=some k:=by simp [Value.ownBlock]
 exact ⟨h1,zas h.ow k h1⟩
theorem SdI.put {w W Wx W6:World} {s:Nat} {f:Bool} {V V':Value} {ys:List FlE} {y:FlE} (h:SdI w s f V ys W) (hx:Ext W Wx)
  (ho:OwnV shFl W6 (s+5) 218 V' (ys.length+1) (ys++[y])) (hg:Wx.grownBy W6 V.ownBlock/\(V'.ownBlock=V.ownBlock∨V'.ownBlock=some Wx.heap.size)) :
  SdI w s f V' (ys++[y]) (W6.setCell ⟨s+1+1+1,0,none⟩ V')/\KpO (s+1+1+1) W (W6.setCell ⟨s+1+1+1,0,none⟩ V') /\
  (∀k,k<s+5->k≠s+1+1+1->(W6.setCell ⟨s+1+1+1,0,none⟩ V').heap[k]?=W.heap[k]?)/\(∀(k:Nat) (o:Obj),W.heap[k]?=some o->o.isCells=false->(W6.setCell ⟨s+1+1+1,0,none⟩ V').heap[k]?=some o)/\W.heap.size<=(W6.setCell ⟨s+1+1+1,0,none⟩ V').heap.size:=by
 have h0:=h.ext hx
 have aa:But V.ownBlock Wx W6:=hg.1
 have hz:=h.sz
 have hzx:=Zt hx
 have hz6:=aa.size
 have hb:But (some (s+1+1+1)) W6 (W6.setCell ⟨s+1+1+1,0,none⟩ V'):=(But.refl _ _).own rfl _
 have ac:∀r,V.ownBlock=some r->s+5<=r/\r<Wx.heap.size:=fun r e=>zas h0.ow r e
 have hne:∀k,k<s+5->some k≠V.ownBlock:=fun k hk e=>by have:=(ac k e.symm).1;omega
 have blk:∀k,k<Wx.heap.size->some k≠V.ownBlock->k≠s+1+1+1->(W6.setCell ⟨s+1+1+1,0,none⟩ V').heap[k]?=Wx.heap[k]?:=fun k h1 h2 h3 =>
  (hb.block k (by omega) (by simpa using h3)).trans (aa.block k h1 h2)
 have blk2:∀k,k<W.heap.size->some k≠V.ownBlock->k≠s+1+1+1->(W6.setCell ⟨s+1+1+1,0,none⟩ V').heap[k]?=W.heap[k]?:=fun k h1 h2 h3=>(blk k (by omega) h2 h3).trans (hx.block k h1)
 have ab:(ys++[y]).length=ys.length+1:=by simp
 have c6:W6.cell? ⟨s+1+1+1,0,none⟩=some V:=(zal (aa.block (s+1+1+1) (by omega) (hne (s+1+1+1) (by omega))) 0).trans h0.oc
 have hsz:(W6.setCell ⟨s+1+1+1,0,none⟩ V').heap.size=W6.heap.size:=by simp
 have oc':(W6.setCell ⟨s+1+1+1,0,none⟩ V').cell? ⟨s+1+1+1,0,none⟩=some V':=Zq _ _ _ c6
 refine ⟨⟨?_,h.ws,?_,?_,oc',?_,?_,by omega⟩,⟨by omega,fun k o h1 h2 h3 h4=>?_,fun k e=>?_⟩,fun k h1 h2=>blk2 k (by omega) (hne k h1) h2,fun k o h1 h2=>?_,by omega⟩
 ·refine Below.trans h0.ex (Below.trans (aa.below (Zt h0.ex) (fun k e=>by have:=(ac k e).1;have:=h.ws;omega)) (hb.below (by have:=Zt h0.ex;omega) (fun k e=>by cases e;have:=h.ws;omega)))
 ·exact (zal (blk (s+1) (by omega) (hne (s+1) (by omega)) (by omega)) 0).trans h0.fc
 ·exact (zal (blk (s+1+1) (by omega) (hne (s+1+1) (by omega)) (by omega)) 0).trans h0.wc
 ·rw [Zo]
  exact (World.frozen?_of_block (a:=⟨s+1+1+1,0,none⟩) (aa.block (s+1+1+1) (by omega) (hne (s+1+1+1) (by omega)))).trans h0.fr
 ·rw [ab]
  refine World.ownsRow.kept ho hb (.inr fun e=>?_)
  have:=(zas ho _ e).1
  omega
 ·refine (blk2 k (Zh.1 h3).1 (fun e=>?_) h1).trans h3
  rcases h.ow.2 with ⟨h9, -⟩ | ⟨g,cap,cur,h9, -⟩
  ·rw [h9] at e;simp [Value.ownBlock] at e
  ·rw [h9] at e
   simp [Value.ownBlock] at e
   subst e
   exact h2 ⟨_,_,_,_,by rw [h.oc,h9]⟩
 ·obtain ⟨off,fld,n,c,e⟩:=e
  rw [oc'] at e
  cases e
  have h1:(Value.slice (some ⟨k,off,fld⟩) n c).ownBlock=some k:=by simp [Value.ownBlock]
  rcases hg.2 with h2 | h2
  ·refine .inl ?_
   rw [h1] at h2
   rcases h.ow.2 with ⟨h9, -⟩ | ⟨g,cap,cur,h9, -⟩
   ·rw [h9] at h2;simp [Value.ownBlock] at h2
   ·rw [h9] at h2
    simp [Value.ownBlock] at h2
    subst h2
    exact ⟨_,_,_,_,by rw [h.oc,h9]⟩
  ·rw [h1] at h2
   simp at h2
   exact .inr (by omega)
 ·have hlt:=(Zh.1 h1).1
  refine (blk2 k hlt (fun e=>?_) (fun e=>?_)).trans h1
  ·rcases h.ow.2 with ⟨h9, -⟩ | ⟨g,cap,cur,h9, -,ad, -⟩
   ·rw [h9] at e;simp [Value.ownBlock] at e
   ·rw [h9] at e
    simp [Value.ownBlock] at e
    subst e
    rw [ad] at h1
    cases h1
    cases h2
  ·subst e
   obtain ⟨p,h8,h7⟩:=zbr h.oc
   rw [h8] at h1
   cases h1
   rw [h7] at h2
   cases h2
end Go.Proofs.YtbjgpbojjhldaaaGreatDoor
/- float.side. -/
namespace Go.Proofs.YtbjgpbojjhldaaaGreatDoor
set_option maxRecDepth 100000
open Go.RowKit Go.ChangeShapes Go.WideShapes Go.Joins
attribute [local go_sem] Oper.semAt_some
theorem zgn (y:FlE) (hy:1<=y.len) (w:World):Calls Tryz.prog 189 #[.agg (flC y).toArray] w fun e w'=>e = .returned (.bool true)/\Ext w w':=by
 have h1:((y.len:Int)==0)=false:=by simp;omega
 unfold flC
 go_enter Tryz.func189,Tryz.ntmps189
 go_wp2
 go_ret
 exact ⟨rfl,zx⟩
theorem zgm (A:Option Addr) (c:Nat) (g:Gd) (w:World):Calls Tryz.prog 223 #[gridV A c g] w fun e w'=>e = .returned (.func (.func 238) #[] #[.pointer (some ⟨w.heap.size,0,none⟩)])/\w'=w.alloc (.cells #[.int .i64 (g.w:Int),.int .i64 (g.h:Int),.slice A g.b.length c] 54):=by
 unfold gridV
 go_enter Tryz.func223,Tryz.ntmps223
 go_wp2
 go_ret
 exact ⟨rfl,rfl⟩
theorem zfh (x:Ln) (f:Bool) (w:World):Calls Tryz.prog 224 #[.agg #[.bool x.warp,.int .i64 (x.at_:Int),.slice x.A x.face.length x.c],.bool f] w fun e w'=>e = .returned (.func (.func 239) #[] #[.pointer (some ⟨w.heap.size,0,none⟩),.pointer (some ⟨w.heap.size+1,0,none⟩)]) /\
  w'=(w.alloc (.cells #[.bool x.warp,.int .i64 (x.at_:Int),.slice x.A x.face.length x.c] 287)).alloc (.cells #[.bool f] 4):=by
 go_enter Tryz.func224,Tryz.ntmps224
 go_wp2
 go_ret
 exact ⟨rfl,rfl⟩
theorem Vec.grownN {α:Type} {S:Shp α} {w w':World} {A:Option Addr} {n:Nat} {l:List α} {E:Option Nat} (h:Vec S w A n l) (hb:w.grownBy w' E) (hE:∀r,E=some r->∃o:Obj,w.heap[r]?=some o/\o.isCells=false):Vec S w' A n l:=by
 refine ⟨h.1,fun hn=>?_⟩
 obtain ⟨b,off,e,hlt,hc⟩:=h.2 hn
 refine ⟨b,off,e,Zi hlt hb.size,fun k x hx i u hu=>?_⟩
 have h9:=hc k x hx i u hu
 obtain ⟨p,h8,h7⟩:=zbr h9
 refine (zal (hb.block b hlt (fun e2=>?_)) _).trans h9
 obtain ⟨o,h1,h2⟩:=hE b e2.symm
 rw [h8] at h1
 cases h1
 rw [h7] at h2
 cases h2
theorem zot {w w':World} {b o:Nat} {v:Value} {E:Option Nat} (h:w.cell? ⟨b,o,none⟩=some v) (hb:w.grownBy w' E) (hE:∀r,E=some r->∃o:Obj,w.heap[r]?=some o/\o.isCells=false):w'.heap[b]?=w.heap[b]?:=by
 obtain ⟨p,h8,h7⟩:=zbr h
 refine hb.block b (Zh.1 h8).1 (fun e2=>?_)
 obtain ⟨o,h1,h2⟩:=hE b e2.symm
 rw [h8] at h1
 cases h1
 rw [h7] at h2
 cases h2
theorem LnB.grown {w w':World} {B:Nat} {x:Ln} {E:Option Nat} (h:LnB w B x) (hb:w.grownBy w' E) (hE:∀r,E=some r->∃o:Obj,w.heap[r]?=some o/\o.isCells=false):LnB w' B x:=by
 have e:=zot h.1 hb hE
 exact ⟨(zal e 0).trans h.1,(zal e 1).trans h.2.1,(zal e 2).trans h.2.2⟩
theorem FlB.grown {w w':World} {B:Nat} {y:FlE} {E:Option Nat} (h:FlB w B y) (hb:w.grownBy w' E) (hE:∀r,E=some r->∃o:Obj,w.heap[r]?=some o/\o.isCells=false):FlB w' B y:=by
 have e:=zot h.c0 hb hE
 exact ⟨(zal e 0).trans h.c0,(zal e 1).trans h.c1,(zal e 2).trans h.c2,(zal e 3).trans h.c3,(zal e 4).trans h.c4,fun o=>(World.frozen?_of_block (a:=⟨B,o,none⟩) e).trans (h.fr o)⟩
theorem KpL.refl (G b:Nat) (A:World):KpL G b A A:=⟨Zb _,rfl,rfl⟩
theorem KpL.trans {G b:Nat} {A B C:World} (h:KpL G b A B) (k:KpL G b B C):KpL G b A C:=⟨Zv h.1 k.1,k.2.1.trans h.2.1,k.2.2.trans h.2.2⟩
theorem KpL.grown {G b n:Nat} {A B C:World} {E:Option Nat} (h:KpL G b A B) (hb:B.grownBy C E) (hG:G<n) (hbn:b<n) (hn:n<=B.heap.size) (hE:∀r,E=some r->n<=r):KpL G b A C :=
 ⟨Zv h.1 hb.size,(hb.block G (by omega) (fun e=>by have:=hE _ e.symm;omega)).trans h.2.1,(hb.block b (by omega) (fun e=>by have:=hE _ e.symm;omega)).trans h.2.2⟩
theorem zjN:∀(l:List Bool) (f:Bool) (n:Nat),(floGo f l n).length<=l.length+1:=by
 intro l
 induction l with
 | nil=>intro f n;cases n <;> simp [floGo]
 | cons x l ih =>
  intro f n
  rw [floGo]
  split
  ·have:=ih f (n+1);simp only [Zk];omega
  ·split
   ·have:=ih f 0;simp only [Zk];omega
   ·have:=ih f 0;simp only [Zk];omega
theorem zmo (l:List Bool) (f:Bool):(floV f l).length<=l.length+1:=by
 rw [floV]
 split
 ·simp
 ·have:=zjN (cycL l (by assumption)) f 0
  rw [zgi] at this
  exact this
theorem KpO.of_ext {OB:Nat} {A B:World} (h:Ext A B) (hOB:OB<A.heap.size):KpO OB A B :=
 ⟨Zt h,fun _ _ _ _ h8 _=>(h.block _ (Zh.1 h8).1).trans h8,fun _ ⟨off,fld,n,c,e⟩ => .inl ⟨off,fld,n,c,(Zl (p:=⟨OB,0,none⟩) h hOB).symm.trans e⟩⟩
theorem SdI.at6 {w W W6:World} {s:Nat} {f:Bool} {V:Value} {ys:List FlE} (h:SdI w s f V ys W) (hg:But V.ownBlock W W6):W6.cell? ⟨s+1+1+1,0,none⟩=some V/\W6.frozen? ⟨s+1+1+1,0,none⟩=false:=by
 have hz:=h.sz
 have e:=hg.block (s+1+1+1) (by omega) (fun e=>by have:=(zas h.ow _ e.symm).1;omega)
 exact ⟨(zal e 0).trans h.oc,(World.frozen?_of_block (a:=⟨s+1+1+1,0,none⟩) e).trans h.fr⟩
theorem znd {α:Type} {S:Shp α} {w:World} {B B':Nat} {e:TypeId} {v:Value} {k:Nat} {L:List α} (h:OwnV S w B e v k L) (hB:B'<=B):OwnV S w B' e v k L:=by
 refine ⟨h.1,?_⟩
 rcases h.2 with h1 | ⟨g,cap,cur,h1,h2,h3⟩
 ·exact .inl h1
 ·exact .inr ⟨g,cap,cur,h1,Zv hB h2,h3⟩
theorem zqr {g:Gd}:(endsG g++picksG g).length=g.w+g.h:=by simp [endsG,picksG]
theorem zjP (b off c:Nat) (g:Gd) (hg:okG g) (f:Bool) (w:World) (hv:GridAt w (some ⟨b,off,none⟩) g) :
  CallsIn Fence.wide 6 Tryz.prog 188 #[gridV (some ⟨b,off,none⟩) c g,.bool f,.func (.func 189) #[] #[]] w fun e w'=>∃V ys,e = .returned V/\OwnV shFl w' w.heap.size 218 V ys.length ys/\(ys.map (·.len)).Perm ((endsG g++picksG g).flatMap (floV f))/\ys.length<=10000/\Ext w w':=by
 have HV:=Za hv
 have ao:=Za hg
 obtain ⟨b9,off9,e9,aG, -⟩:=zbC hv hg
 cases e9
 clear hv hg
 have HL:=Za (fun w'=>zgm (some ⟨b,off,none⟩) c g w')
 unfold gridV at HL ⊢
 refine callsIn_of_wp_marks Tryz.func188 rfl trivial ?_ rfl
 simp only [Tryz.ntmps188,List.size_toArray,Zk,List.length_nil,Nat.reduceAdd,Nat.reduceSub,Array.replicate_succ,Array.replicate_zero,List.push_toArray,List.append_toArray,List.nil_append,ZM]
 gi_wp2_with (refine ⟨trivial,(callsIn_wide.2 (HL.out _)).mono ?_⟩;rintro e w' ⟨rfl,rfl⟩)
 have ai:=Za (show SdI w w.heap.size f (.slice none 0 0) [] (((((w.alloc (.cells #[.int .i64 (g.w:Int),.int .i64 (g.h:Int),.slice (some ⟨b,off,none⟩) g.b.length c] 54)).alloc (.cells #[.bool f] 4)).alloc (.cells #[.func (.func 189) #[] #[]] 260)).alloc (.cells #[.slice none 0 0] 214)).alloc (.cells #[.int .i64 (g.w:Int),.int .i64 (g.h:Int),.slice (some ⟨b,off,none⟩) g.b.length c] 54)) from by
  have e1:=heap_alloc_new w (.cells #[.int .i64 (g.w:Int),.int .i64 (g.h:Int),.slice (some ⟨b,off,none⟩) g.b.length c] 54)
  refine ⟨((((((Ze w).alloc _).alloc _).alloc _).alloc _).alloc _),rfl,?_,?_,?_,?_,OwnV.nil _ _ _ _,by simp⟩
  all_goals simp [go_sem])
 have am:=Za (show GBox (((((w.alloc (.cells #[.int .i64 (g.w:Int),.int .i64 (g.h:Int),.slice (some ⟨b,off,none⟩) g.b.length c] 54)).alloc (.cells #[.bool f] 4)).alloc (.cells #[.func (.func 189) #[] #[]] 260)).alloc (.cells #[.slice none 0 0] 214)).alloc (.cells #[.int .i64 (g.w:Int),.int .i64 (g.h:Int),.slice (some ⟨b,off,none⟩) g.b.length c] 54)) (w.heap.size+1+1+1+1) (some ⟨b,off,none⟩) c g from by
  have h9:=GBox.new ((((w.alloc (.cells #[.int .i64 (g.w:Int),.int .i64 (g.h:Int),.slice (some ⟨b,off,none⟩) g.b.length c] 54)).alloc (.cells #[.bool f] 4)).alloc (.cells #[.func (.func 189) #[] #[]] 260)).alloc (.cells #[.slice none 0 0] 214)) (some ⟨b,off,none⟩) c g 54
  simpa using h9)
 obtain ⟨s,hs⟩:∃s,w.heap.size=s:=⟨_,rfl⟩
 have az:(((((w.alloc (.cells #[.int .i64 (g.w:Int),.int .i64 (g.h:Int),.slice (some ⟨b,off,none⟩) g.b.length c] 54)).alloc (.cells #[.bool f] 4)).alloc (.cells #[.func (.func 189) #[] #[]] 260)).alloc (.cells #[.slice none 0 0] 214)).alloc (.cells #[.int .i64 (g.w:Int),.int .i64 (g.h:Int),.slice (some ⟨b,off,none⟩) g.b.length c] 54)).heap.size=s+5:=by simp;omega
 obtain ⟨W0,ah⟩:∃W0,((((w.alloc (.cells #[.int .i64 (g.w:Int),.int .i64 (g.h:Int),.slice (some ⟨b,off,none⟩) g.b.length c] 54)).alloc (.cells #[.bool f] 4)).alloc (.cells #[.func (.func 189) #[] #[]] 260)).alloc (.cells #[.slice none 0 0] 214)).alloc (.cells #[.int .i64 (g.w:Int),.int .i64 (g.h:Int),.slice (some ⟨b,off,none⟩) g.b.length c] 54)=W0:=⟨_,rfl⟩
 rw [ah,hs] at ai am
 rw [ah] at az
 rw [hs] at aG
 rw [ah,hs]
 clear ah
 have aC:=Za (HV.out.ext ai.out.ex)
 have ax:b<s+5:=by omega
 refine ziM (F:=Fence.wide) (n:=6) (V:=LnA) (Kp:=KpL (s+1+1+1+1) b) (encs:=lnEF) (S:=fun xs=>xs.map (·.face)=endsG g++picksG g) (N:=129) (w0:=W0) rfl (by omega) (gf:=238) (lb:=#[.pointer (some ⟨s+1+1+1+1,0,none⟩)]) rfl trivial (enters_of Tryz.func238 (by kernel_rfl) rfl)
  (fun l J W hB hJ hY h0=>callsIn_wide.2 (zfi _ l J hJ (s+1+1+1+1) b off c g ao.out W (am.out.ext hB) (aC.out.ext hB) hY h0)) (Below.refl _ _) (fun _=>rfl) KpL.trans
  (fun W l o o' hl h ho _=>(KpL.refl _ _ W).grown (n:=s+5) (grownBy_putObj' W l o') (by omega) ax (by have:=(Zh.1 h).1;omega) (fun r e=>by cases e;omega))
  (fun pre W=>∃V ys,(ys.map (·.len)).Perm ((pre.map (·.face)).flatMap (floV f))/\ys.length<=65*pre.length/\SdI w s f V ys W)
  (fun pre X Y row hs' hg' hr=>by
   obtain ⟨V,ys,h1,h2,h3⟩:=hs'
   exact ⟨V,ys,h1,h2,h3.grown hg' (fun r e=>by have:=hr r e;rw [az] at this;exact this)⟩)
  (fun x X Y row hs' hg' hr=>⟨Vec.grownN hs'.1 hg' (fun r e=>(hr r e).2),hs'.2⟩)
  ⟨_,[],by simp,by simp,ai.out⟩
  (fun x a' W=>∃Bx,s+5<=Bx/\LnB W Bx x/\a'={ tmps:=#[.agg #[.int .i64 (g.w:Int),.int .i64 (g.h:Int),.slice (some ⟨b,off,none⟩) g.b.length c],.bool f,.func (.func 189) #[] #[],.pointer (some ⟨s,0,none⟩),.pointer (some ⟨s+1,0,none⟩),.pointer (some ⟨s+1+1,0,none⟩),.slice none 0 0,.pointer (some ⟨s+1+1+1,0,none⟩),.pointer (some ⟨Bx,0,none⟩),undef,.agg #[.int .i64 (g.w:Int),.int .i64 (g.h:Int),.slice (some ⟨b,off,none⟩) g.b.length c],.func (.func 238) #[] #[.pointer (some ⟨s+1+1+1+1,0,none⟩)],.agg #[.bool x.warp,.int .i64 (x.at_:Int),.slice x.A x.face.length x.c],undef,undef,undef,undef,undef,undef,undef,undef,undef,undef,undef,undef],defers:=[] })
  (fun x a' _ X Y row hs' hg' hr=>by obtain ⟨Bx,h1,h2,h3⟩:=hs';exact ⟨Bx,h1,h2.grown hg' (fun r e=>(hr r e).2),h3⟩)
  ?assign ?body ?done
 case assign =>
  rintro l pre x W K ⟨V,ys,h1,h2,h3⟩ hv hK
  unfold lnEF
  gi_wp2
  have hx:Ext W (W.alloc (.cells #[.bool x.warp,.int .i64 (x.at_:Int),.slice x.A x.face.length x.c] 287)):=(Ze W).alloc _
  have hz:=h3.sz
  have t3:=Tb.new W (.bool x.warp) (.int .i64 (x.at_:Int)) (.slice x.A x.face.length x.c) 287
  exact hK _ _ ((KeepsOthers.alloc _ _).from _) ⟨by simp,hx.block _ (by omega),hx.block _ (by omega)⟩ ⟨V,ys,h1,h2,h3.ext hx⟩ ⟨Vec.ext hv.1 hx,hv.2⟩ ⟨W.heap.size,hz,t3.1,rfl⟩
 case body =>
  rintro l pre x a' W hl ⟨r,hr⟩ ⟨V,ys,hp,hyl,hS⟩ hv ⟨Bx,hBx,aF,rfl⟩ hlen
  have aE:1<=6-1-1:=by omega
  have z:=hS.sz
  have cf:=hS.fc
  obtain ⟨l0,l1,l2⟩:=aF
  have aB:=Za (fun w'=>zfh x f w')
  gi_wp2_with (refine ⟨trivial,CallsIn.mono (CallsIn.inRound l (callsIn_wide.2 (aB.out _))) ?_⟩;rintro e w' ⟨rfl,rfl⟩)
  clear l0 l1 l2 cf
  have t3:=Tb.new W (.bool x.warp) (.int .i64 (x.at_:Int)) (.slice x.A x.face.length x.c) 287
  have t1:=Boxed.new (W.alloc (.cells #[.bool x.warp,.int .i64 (x.at_:Int),.slice x.A x.face.length x.c] 287)) 4 (.bool f)
  have hx2:Ext W ((W.alloc (.cells #[.bool x.warp,.int .i64 (x.at_:Int),.slice x.A x.face.length x.c] 287)).alloc (.cells #[.bool f] 4)):=((Ze W).alloc _).alloc _
  have aH:((W.alloc (.cells #[.bool x.warp,.int .i64 (x.at_:Int),.slice x.A x.face.length x.c] 287)).alloc (.cells #[.bool f] 4)).heap.size=W.heap.size+2:=by simp
  have ar:LnB ((W.alloc (.cells #[.bool x.warp,.int .i64 (x.at_:Int),.slice x.A x.face.length x.c] 287)).alloc (.cells #[.bool f] 4)) W.heap.size x:=LnB.ext t3.1 ((Ze _).alloc _)
  have aj:=t1.cell
  rw [ZP] at aj
  have af:KeepsFrom W0.heap.size W ((W.alloc (.cells #[.bool x.warp,.int .i64 (x.at_:Int),.slice x.A x.face.length x.c] 287)).alloc (.cells #[.bool f] 4)):=((KeepsOthers.alloc _ _).from _).trans ((KeepsOthers.alloc _ _).from _)
  obtain ⟨W2,av⟩:∃W2,(W.alloc (.cells #[.bool x.warp,.int .i64 (x.at_:Int),.slice x.A x.face.length x.c] 287)).alloc (.cells #[.bool f] 4)=W2:=⟨_,rfl⟩
  rw [av] at hx2 aH ar aj af ⊢
  clear av t3 t1
  have ad:W2.heap[l]?=some (.loop r):=(hx2.block _ (Zh.1 hr).1).trans hr
  have au:=hS.ext hx2
  have aA:LnA x W2:=⟨Vec.ext hv.1 hx2,hv.2⟩
  have hfl:=zmo x.face f
  have hx64:=hv.2.2.1
  refine zgP (F:=Fence.wide.inRound l) (n:=6-1-1) (l₀:=l) (r₀:=r) (V:=fun y _=>1<=y.len/\y.len<=64) (Kp:=KpO (s+1+1+1)) (encs:=flE) (S:=fun zs=>(zs.map (·.len)).Perm (floV f x.face)) (N:=66) (w0:=W2) rfl ad aE (gf:=239) (lb:=#[.pointer (some ⟨W.heap.size,0,none⟩),.pointer (some ⟨W.heap.size+1,0,none⟩)]) rfl trivial (enters_of Tryz.func239 (by kernel_rfl) rfl)
   (fun l2 J Wy hB hJ hY h0=>CallsIn.inRound l (callsIn_wide.2 (zjM _ l2 J hJ W.heap.size (W.heap.size+1) (s+1+1+1) x f Wy (ar.ext hB) ⟨Vec.ext aA.1 hB,aA.2⟩ ((Zl (p:=⟨W.heap.size+1,0,none⟩) hB (show W.heap.size+1<_ by omega)).trans aj) (by have:=Zt hB;omega)
    (fun k hk=>((au.ext hB).owned k hk).2.2) hY h0))) (Below.refl _ _) (fun _=>rfl) KpO.trans
   (fun Wa la oa oa' hla ha hoa _=>KpO.put (by omega) ha hoa)
   (fun zs W'=>∃V',SdI w s f V' (ys++zs) W'/\KpL (s+1+1+1+1) b W W'/\KeepsFrom W0.heap.size W W')
   (fun zs X Y row hs' hg' ad=>by
    obtain ⟨V',h1,h2,h3⟩:=hs'
    exact ⟨V',h1.grown hg' (fun q e=>⟨by have:=(ad q e).1;omega,(ad q e).2⟩),h2.grown (n:=s+5) hg' (by omega) ax h1.sz (fun q e=>by have:=(ad q e).1;omega),
     ownFrom_keepsFrom (β:=Unit) (B:=W0.heap.size) (B':=W2.heap.size) (w₀:=W) (by omega) () X Y row h3 hg' ad⟩)
   (fun y X Y row hs' _ _=>hs')
   ⟨V,by rw [ZF];exact au,⟨by omega,hx2.block _ (by omega),hx2.block _ (by omega)⟩,af⟩
   (fun y a'' W'=>∃By,s+5<=By/\FlB W' By y/\a''={ tmps:=#[.agg #[.int .i64 (g.w:Int),.int .i64 (g.h:Int),.slice (some ⟨b,off,none⟩) g.b.length c],.bool f,.func (.func 189) #[] #[],.pointer (some ⟨s,0,none⟩),.pointer (some ⟨s+1,0,none⟩),.pointer (some ⟨s+1+1,0,none⟩),.slice none 0 0,.pointer (some ⟨s+1+1+1,0,none⟩),.pointer (some ⟨Bx,0,none⟩),.pointer (some ⟨By,0,none⟩),.agg #[.int .i64 (g.w:Int),.int .i64 (g.h:Int),.slice (some ⟨b,off,none⟩) g.b.length c],.func (.func 238) #[] #[.pointer (some ⟨s+1+1+1+1,0,none⟩)],.agg #[.bool x.warp,.int .i64 (x.at_:Int),.slice x.A x.face.length x.c],.agg #[.bool x.warp,.int .i64 (x.at_:Int),.slice x.A x.face.length x.c],.bool f,.func (.func 239) #[] #[.pointer (some ⟨W.heap.size,0,none⟩),.pointer (some ⟨W.heap.size+1,0,none⟩)],.agg (flC y).toArray,undef,undef,undef,undef,undef,undef,undef,undef],defers:=[] })
   (fun y a'' _ X Y row hs' hg' ad=>by obtain ⟨By,h1,h2,h3⟩:=hs';exact ⟨By,h1,h2.grown hg' (fun q e=>(ad q e).2),h3⟩)
   ?assign2 ?body2 ?done2
  case assign2 =>
   rintro l2 zs y W' K ⟨V',h1,h2,h3⟩ hv' hK
   unfold flE flC
   gi_wp2
   have hx:Ext W' (W'.alloc (.cells #[.bool y.warp,.int .i64 (y.at_:Int),.int .i64 (y.from_.val:Int),.int .i64 (y.len:Int),.bool y.whole] 218)):=(Ze W').alloc _
   have hz:=h1.sz
   exact hK _ _ ((KeepsOthers.alloc _ _).from _) ⟨by simp,fun k o _ _ h8 _=>(hx.block _ (Zh.1 h8).1).trans h8,fun k ⟨off,fld,n,c,e⟩ => .inl ⟨off,fld,n,c,(Zl (p:=⟨s+1+1+1,0,none⟩) hx (show s+1+1+1<_ by omega)).symm.trans e⟩⟩
    ⟨V',h1.ext hx,h2.trans ⟨by simp,hx.block _ (by omega),hx.block _ (by omega)⟩,h3.trans ((KeepsOthers.alloc _ _).from _)⟩ hv' ⟨W'.heap.size,hz,FlB.new W' y _,rfl⟩
  case body2 =>
   rintro l2 zs y a'' W' _ _ ⟨V',ab,al,ak⟩ hv' ⟨By,hBy,aq,rfl⟩ hzl
   have z:=ab.sz
   have ap:=ab.wc
   obtain ⟨c0,c1,c2,c3,c4, -⟩:=id aq
   have hlY:(ys++zs).length<=100000:=by rw [Zc];omega
   have aD:=Za (show ∀w',Calls Tryz.prog 189 #[.agg #[.bool y.warp,.int .i64 (y.at_:Int),.int .i64 (y.from_.val:Int),.int .i64 (y.len:Int),.bool y.whole]] w' fun e w''=>e = .returned (.bool true)/\Ext w' w'' from fun w'=>zgn y hv'.1 w')
   gi_wp2_with (first
    | (refine ⟨trivial,CallsIn.mono (CallsIn.inRound l2 (CallsIn.inRound l (callsIn_wide.2 (aD.out _)))) ?_⟩;rintro e w3 ⟨rfl,ay⟩;have aa:=Za (show Ext W' w3 from ay);clear ay c0 c1 c2 c3 c4 ap;have ap:=(ab.ext aa.out).oc;obtain ⟨c0,c1,c2,c3,c4, -⟩:=aq.ext aa.out)
    | (gi_at_builtin;refine zbM (S:=shFl) (m:=1) (xs:=[y]) 214 218 (.agg #[.bool false,.int .i64 0,.int .i64 0,.int .i64 0,.bool false]) 40 (by rfl) (by rfl) Tryz.underlying214 zgy (by rfl) (by omega) (by rfl) (by rfl) (s+5) (((ab.ext aa.out).ext ((Ze _).alloc _)).ow) (((ab.ext aa.out).ext ((Ze _).alloc _)).sz) (Vec.lit2 (by rfl) (by rfl) (by rfl)) (by omega) (by omega) ?_;intro v' w6 ac ae;obtain ⟨A6,q6,rfl, -⟩:=zao ac;obtain ⟨c6,f6⟩:=((ab.ext aa.out).ext ((Ze _).alloc _)).at6 ae.out.1))
   obtain ⟨p1,p2,p3,p4,p5⟩:=SdI.put (ab.ext aa.out) ((Ze _).alloc _) ac ae.out
   have hw3:=Zt aa.out
   have aw:∀k,k<s+5->k≠s+1+1+1->(w6.setCell ⟨s+1+1+1,0,none⟩ (.slice A6 ((ys++zs).length+1) q6)).heap[k]?=W'.heap[k]?:=fun k h1 h2=>(p3 k h1 h2).trans (aa.out.block k (by omega))
   have ag:∀B9,KeepsFrom B9 W' (w6.setCell ⟨s+1+1+1,0,none⟩ (.slice A6 ((ys++zs).length+1) q6)):=fun B9=>⟨by omega,fun _ _ _ h1 h2=>p4 _ _ ((aa.out.block _ (Zh.1 h1).1).trans h1) h2⟩
   have elen:ys.length+zs.length=(ys++zs).length:=by rw [Zc]
   rw [elen]
   exact ⟨ag _,(KpO.of_ext aa.out (by omega)).trans p2,.slice A6 ((ys++zs).length+1) q6,by rw [<-Zr];exact p1,al.trans ⟨by omega,aw _ (by omega) (by omega),aw _ (by omega) (by omega)⟩,ak.trans (ag _)⟩
  case done2 =>
   rintro zs W' hzs ⟨V',ab,al,ak⟩
   gi_wp2
   refine ⟨ak,al,V',ys++zs,?_,?_,ab⟩
   ·rw [List.map_append,List.map_append,ZO]
    exact hp.append (by simpa using hzs)
   ·have h9:=hzs.length_eq
    rw [List.length_map] at h9
    simp only [Zc,ZW]
    omega
 case done =>
  rintro D xs W hD hxs ⟨V,ys,h1,h2,h3⟩ hK
  have cS:=h3.oc
  gi_wp2
  refine ⟨by simp,.inl ⟨_,_,rfl,run_takeDeferred hK,?_⟩⟩
  have h4:=h3.grown (grownBy_putObj' W D (.deferred none)) (fun r e=>by cases e;exact ⟨by omega,_,hK,rfl⟩)
  have h5:xs.length=g.w+g.h:=by rw [<-zqr,<-hxs,List.length_map]
  obtain ⟨o1,o2,o3,o4, -⟩:=ao.out
  exact ⟨_,results_tmp rfl _ _ _,V,ys,rfl,znd h4.ow (by omega),by rw [<-hxs];exact h1,by omega,h4.ex⟩
theorem zim (b off c:Nat) (g:Gd) (hg:okG g) (f:Bool) (w:World) (hv:GridAt w (some ⟨b,off,none⟩) g) :
  Calls Tryz.prog 188 #[gridV (some ⟨b,off,none⟩) c g,.bool f,.func (.func 189) #[] #[]] w fun e w'=>∃V ys,e = .returned V/\OwnV shFl w' w.heap.size 218 V ys.length ys/\(ys.map (·.len)).Perm ((endsG g++picksG g).flatMap (floV f))/\ys.length<=10000/\Ext w w' :=
 callsIn_wide.1 (zjP b off c g hg f w hv)
end Go.Proofs.YtbjgpbojjhldaaaGreatDoor
