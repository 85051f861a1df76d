/- The reference's reader of terms in memory: what list and term return, the boxes of term. -/
import Derived.Test.YtkneghkbgingdaaGreatDoorT26
namespace Go.Proofs.YtkneghkbgingdaaGreatDoor
set_option maxRecDepth 100000
open Go.RowKit Go.ChangeShapes Go.WideShapes Go.Joins
def RListR (R:Option Tms) (w:World) (e:Ending) (w':World):Prop :=
 Ext w w'/\(R=none->e = .returned (.tuple #[.slice none 0 0,.bool false]))/\∀t,R=some t->∃v,e = .returned (.tuple #[v,.bool true])/\OwnT w' w.heap.size 134 v t.cnt t
theorem RListR.no {R:Option Tms} {w w':World} (h:R=none) (hb:Ext w w'):RListR R w (.returned (.tuple #[.slice none 0 0,.bool false])) w' :=
 ⟨hb,fun _=>rfl,fun t e=>by rw [h] at e;cases e⟩
theorem RListR.yes {R:Option Tms} {t:Tms} {v:Value} {w w':World} (h:R=some t) (hb:Ext w w') (ho:OwnT w' w.heap.size 134 v t.cnt t):RListR R w (.returned (.tuple #[v,.bool true])) w' :=
 ⟨hb,fun e=>(by rw [h] at e;cases e),fun t' e=>by rw [h] at e;cases e;exact ⟨v,rfl,ho⟩⟩
def RTermR (R:Option (Int×St×Tms)) (w:World) (e:Ending) (w':World):Prop :=
 Ext w w'/\(R=none->∃(n:Int) (A:Option Addr) (m cap:Nat),e = .returned (.tuple #[.agg #[.int .i64 n,.int .u8 0,.bool false,.int .i64 0,.int .i64 0,.slice A m cap],.bool false]))/\∀n c t,R=some (n,c,t)->∃(A:Option Addr) (cap:Nat),e = .returned (.tuple #[.agg #[.int .i64 n,.int .u8 c.k,.bool c.p,.int .i64 c.a,.int .i64 c.b,.slice A t.cnt cap],.bool true])/\TvK w' (fun b=>w.heap.size<=b) A t.cnt t/\(0<=c.k/\c.k<=255)
theorem RTermR.no {R:Option (Int×St×Tms)} {n:Int} {A:Option Addr} {m cap:Nat} {w w':World} (h:R=none) (hb:Ext w w'):RTermR R w (.returned (.tuple #[.agg #[.int .i64 n,.int .u8 0,.bool false,.int .i64 0,.int .i64 0,.slice A m cap],.bool false])) w' :=
 ⟨hb,fun _=>⟨n,A,m,cap,rfl⟩,fun n c t e=>by rw [h] at e;cases e⟩
theorem RTermR.yes {R:Option (Int×St×Tms)} {n:Int} {c:St} {t:Tms} {A:Option Addr} {cap:Nat} {w w':World} (h:R=some (n,c,t)) (hb:Ext w w') (ht:TvK w' (fun b=>w.heap.size<=b) A t.cnt t) (hk:0<=c.k/\c.k<=255) :
  RTermR R w (.returned (.tuple #[.agg #[.int .i64 n,.int .u8 c.k,.bool c.p,.int .i64 c.a,.int .i64 c.b,.slice A t.cnt cap],.bool true])) w' :=
 ⟨hb,fun e=>(by rw [h] at e;cases e),fun n' c' t' e=>by rw [h] at e;cases e;exact ⟨A,cap,rfl,ht,hk⟩⟩
abbrev zsR:Array Value:=#[.int .i64 1,.int .u8 0,.bool false,.int .i64 0,.int .i64 0,.slice none 0 0]
abbrev zsQ:Array Value:=#[.int .i64 0,.int .u8 0,.bool false,.int .i64 0,.int .i64 0,.slice none 0 0]
structure SB (W0:World) (cs:Array Value) (A:Option Addr) (t:Tms) (w:World):Prop where
 rx:w.heap[W0.heap.size]?=some (.cells zsQ 134 (0,0))
 bx:w.heap[W0.heap.size+1]?=some (.cells cs 134 (0,0))
 ex:Ext W0 w
 tv:TvK w (fun b=>W0.heap.size+2<=b) A t.cnt t
section
variable {W0 w w':World} {cs:Array Value} {A:Option Addr} {t:Tms}
theorem SB.ext (h:SB W0 cs A t w) (hb:Ext w w'):SB W0 cs A t w' :=
 ⟨by rw [hb.block _ (Zm.1 h.rx).1];exact h.rx,by rw [hb.block _ (Zm.1 h.bx).1];exact h.bx,h.ex.trans hb,h.tv.ext hb⟩
theorem SB.put (h:SB W0 cs A t w) (i:Nat) (v:Value):SB W0 (cs.setIfInBounds i v) A t (w.setCell ⟨W0.heap.size+1,i,none⟩ v):=by
 refine ⟨?_,heap_setCell_same w _ i cs _ v h.bx,((But.of_ext h.ex none).setCell (by simp) v).ext_none,h.tv.keep (by simp [World.setCell]) fun b _ hk=>⟨hk,fun o=>Zj _ _ _ _ ?_⟩⟩
 ·rw [Below.heap_setCell _ _ _ _ (by simp)];exact h.rx
 ·have hk2:W0.heap.size+2<=b:=hk
  intro e
  simp at e <;> omega
theorem SB.six {v0 v1 v2 v3 v4 v5:Value} (h:SB W0 #[v0,v1,v2,v3,v4,v5] A t w) :
  w.cell? ⟨W0.heap.size+1,0,none⟩=some v0/\w.cell? ⟨W0.heap.size+1,1,none⟩=some v1/\w.cell? ⟨W0.heap.size+1,2,none⟩=some v2/\w.cell? ⟨W0.heap.size+1,3,none⟩=some v3/\w.cell? ⟨W0.heap.size+1,4,none⟩=some v4/\w.cell? ⟨W0.heap.size+1,5,none⟩=some v5/\(∀j,w.frozen? ⟨W0.heap.size+1,j,none⟩=false)/\W0.heap.size+1<w.heap.size :=
 ⟨(cell_of_row w _ 0 _ _ (0,0) h.bx).trans rfl,(cell_of_row w _ 1 _ _ (0,0) h.bx).trans rfl,(cell_of_row w _ 2 _ _ (0,0) h.bx).trans rfl,(cell_of_row w _ 3 _ _ (0,0) h.bx).trans rfl,(cell_of_row w _ 4 _ _ (0,0) h.bx).trans rfl,(cell_of_row w _ 5 _ _ (0,0) h.bx).trans rfl,fun j=>frozen_of_row w _ j _ _ h.bx,(Zm.1 h.bx).1⟩
theorem SB.res (h:SB W0 cs A t w):w.cell? ⟨W0.heap.size,0,none⟩=some (.int .i64 0)/\w.cell? ⟨W0.heap.size,1,none⟩=some (.int .u8 0)/\w.cell? ⟨W0.heap.size,2,none⟩=some (.bool false)/\w.cell? ⟨W0.heap.size,3,none⟩=some (.int .i64 0)/\w.cell? ⟨W0.heap.size,4,none⟩=some (.int .i64 0)/\w.cell? ⟨W0.heap.size,5,none⟩=some (.slice none 0 0)/\(∀j,w.frozen? ⟨W0.heap.size,j,none⟩=false)/\W0.heap.size<w.heap.size :=
 ⟨(cell_of_row w _ 0 _ _ (0,0) h.rx).trans rfl,(cell_of_row w _ 1 _ _ (0,0) h.rx).trans rfl,(cell_of_row w _ 2 _ _ (0,0) h.rx).trans rfl,(cell_of_row w _ 3 _ _ (0,0) h.rx).trans rfl,(cell_of_row w _ 4 _ _ (0,0) h.rx).trans rfl,(cell_of_row w _ 5 _ _ (0,0) h.rx).trans rfl,fun j=>frozen_of_row w _ j _ _ h.rx,(Zm.1 h.rx).1⟩
theorem SB.grp {t':Tms} {A':Option Addr} (h:SB W0 cs A t w) (hk:TvK w (fun b=>W0.heap.size+2<=b) A' t'.cnt t'):SB W0 cs A' t' w:={ h with tv:=hk }
theorem SB.start (W0:World):SB W0 zsR none .nil ((W0.alloc (.cells zsQ 134)).alloc (.cells zsR 134)):=by
 have e1:((W0.alloc (.cells zsQ 134)).alloc (.cells zsR 134)).heap[W0.heap.size]?=(W0.alloc (.cells zsQ 134)).heap[W0.heap.size]?:=((Zf _).alloc _).block _ (by simp)
 refine ⟨e1.trans (heap_alloc_new _ _),?_,Zp (Zp (Zf _) _) _,TvK.none_ _ _ _⟩
 have:=heap_alloc_new (W0.alloc (.cells zsQ 134)) (.cells zsR 134)
 simpa using this
def sixR (w:World) (g1:Nat) (v0 v1 v2 v3 v4 v5:Value):World:=(((((w.setCell ⟨g1,0,none⟩ v0).setCell ⟨g1,1,none⟩ v1).setCell ⟨g1,2,none⟩ v2).setCell ⟨g1,3,none⟩ v3).setCell ⟨g1,4,none⟩ v4).setCell ⟨g1,5,none⟩ v5
theorem SB.fin (h:SB W0 cs A t w) (v0 v1 v2 v3 v4 v5:Value):Ext W0 (sixR w W0.heap.size v0 v1 v2 v3 v4 v5)/\TvK (sixR w W0.heap.size v0 v1 v2 v3 v4 v5) (fun b=>W0.heap.size<=b) A t.cnt t /\
  (sixR w W0.heap.size v0 v1 v2 v3 v4 v5).cell? ⟨W0.heap.size,0,none⟩=some v0/\(sixR w W0.heap.size v0 v1 v2 v3 v4 v5).cell? ⟨W0.heap.size,1,none⟩=some v1/\(sixR w W0.heap.size v0 v1 v2 v3 v4 v5).cell? ⟨W0.heap.size,2,none⟩=some v2/\(sixR w W0.heap.size v0 v1 v2 v3 v4 v5).cell? ⟨W0.heap.size,3,none⟩=some v3/\(sixR w W0.heap.size v0 v1 v2 v3 v4 v5).cell? ⟨W0.heap.size,4,none⟩=some v4/\(sixR w W0.heap.size v0 v1 v2 v3 v4 v5).cell? ⟨W0.heap.size,5,none⟩=some v5:=by
 have hB:But (some W0.heap.size) w (sixR w W0.heap.size v0 v1 v2 v3 v4 v5):=by
  unfold sixR
  exact ((((((But.refl _ _).own (p:=⟨W0.heap.size,0,none⟩) rfl _).own (p:=⟨W0.heap.size,1,none⟩) rfl _).own (p:=⟨W0.heap.size,2,none⟩) rfl _).own (p:=⟨W0.heap.size,3,none⟩) rfl _).own (p:=⟨W0.heap.size,4,none⟩) rfl _).own (p:=⟨W0.heap.size,5,none⟩) rfl _
 have hT:But none W0 (sixR w W0.heap.size v0 v1 v2 v3 v4 v5):=by
  unfold sixR
  exact ((((((But.of_ext h.ex none).setCell (p:=⟨W0.heap.size,0,none⟩) (Zg _) _).setCell (p:=⟨W0.heap.size,1,none⟩) (Zg _) _).setCell (p:=⟨W0.heap.size,2,none⟩) (Zg _) _).setCell (p:=⟨W0.heap.size,3,none⟩) (Zg _) _).setCell (p:=⟨W0.heap.size,4,none⟩) (Zg _) _).setCell (p:=⟨W0.heap.size,5,none⟩) (Zg _) _
 have hH:(sixR w W0.heap.size v0 v1 v2 v3 v4 v5).heap[W0.heap.size]?=some (.cells #[v0,v1,v2,v3,v4,v5] 134 (0,0)):=by
  have h0:=heap_setCell_same w W0.heap.size 0 _ _ v0 h.rx
  have h1:=heap_setCell_same _ W0.heap.size 1 _ _ v1 h0
  have h2:=heap_setCell_same _ W0.heap.size 2 _ _ v2 h1
  have h3:=heap_setCell_same _ W0.heap.size 3 _ _ v3 h2
  have h4:=heap_setCell_same _ W0.heap.size 4 _ _ v4 h3
  exact heap_setCell_same _ W0.heap.size 5 _ _ v5 h4
 generalize sixR w W0.heap.size v0 v1 v2 v3 v4 v5=W9 at *
 refine ⟨hT.ext_none,?_,(cell_of_row _ _ 0 _ _ (0,0) hH).trans rfl,(cell_of_row _ _ 1 _ _ (0,0) hH).trans rfl,(cell_of_row _ _ 2 _ _ (0,0) hH).trans rfl,(cell_of_row _ _ 3 _ _ (0,0) hH).trans rfl,(cell_of_row _ _ 4 _ _ (0,0) hH).trans rfl,(cell_of_row _ _ 5 _ _ (0,0) hH).trans rfl⟩
 refine h.tv.but hB fun b _ hk=>?_
 have hk2:W0.heap.size+2<=b:=hk
 exact ⟨by omega,by intro e;simp at e <;> omega⟩
end

end Go.Proofs.YtkneghkbgingdaaGreatDoor
