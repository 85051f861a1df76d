/- The reader of terms: term. -/
import Derived.Test.YtkneghkbgingdaaGreatDoorT13
namespace Go.Proofs.YtkneghkbgingdaaGreatDoor
set_option maxHeartbeats 16000000
set_option maxRecDepth 100000
open Go.RowKit Go.ChangeShapes Go.WideShapes Go.Joins
theorem zbc (g:Nat) (s:List UInt8) (d:Int) (w:World) (h:RdAt w g s d) (hl:s.length<=100000) :
  Calls Tryz.prog 175 #[.pointer (some ⟨g,0,none⟩),.int .u8 40] w (TakeR g 40 s d w):=zde 40 40 (by rfl) g s d w h hl
theorem zeX (g:Nat) (s:List UInt8) (d:Int) (w:World) (h:RdAt w g s d) (hl:s.length<=100000) :
  Calls Tryz.prog 175 #[.pointer (some ⟨g,0,none⟩),.int .u8 41] w (TakeR g 41 s d w):=zde 41 41 (by rfl) g s d w h hl
theorem zcN (g:Nat) (s:List UInt8) (d:Int) (w:World) (h:RdAt w g s d) (hl:s.length<=100000) :
  Calls Tryz.prog 175 #[.pointer (some ⟨g,0,none⟩),.int .u8 42] w (TakeR g 42 s d w):=zde 42 42 (by rfl) g s d w h hl
theorem zg5 (g:Nat) (s:List UInt8) (d:Int) (w:World) (h:RdAt w g s d) (hl:s.length<=100000) :
  Calls Tryz.prog 175 #[.pointer (some ⟨g,0,none⟩),.int .u8 32] w (TakeR g 32 s d w):=zde 32 32 (by rfl) g s d w h hl
theorem ziK {s:List UInt8} {c:St} (h:parseL s=some [c]):0<=c.k/\c.k<=255:=by
 obtain ⟨_,h1,_⟩:=zcn.1 h
 have h2:=(za8 h1).2.1
 have h3:okSt c=true:=by simpa [allB] using h2
 have h4:=zbe (zml h3).1
 omega
theorem zaI {x:UInt8} {s r:List UInt8} (h:hitR x s=r):r <:+ s:=by rw [<-h];exact zey x s
theorem zhL {x:UInt8} {s:List UInt8} (h:hitB x s=false):hitR x s=s:=by
 cases s with
 | nil=>rfl
 | cons y r =>
  have h1:(y==x)=false:=h
  rw [hitR,h1]
  rfl
def PanE (g:Nat):Ending := .panicked [{ v := .iface 204 (.pointer (some ⟨g,0,none⟩)),recovered:=false }]
def TermR (g d:Nat) (R:Option ((Int×St×Tms)×List UInt8)) (w:World) (e:Ending) (w':World):Prop :=
 But (some g) w w'/\(R=none->e=PanE g)/\∀n c t r,R=some ((n,c,t),r)->∃(A:Option Addr) (cap:Nat),e = .returned (.agg #[.int .i64 n,.int .u8 c.k,.bool c.p,.int .i64 c.a,.int .i64 c.b,.slice A t.cnt cap])/\RdAt w' g r d/\TvK w' (fun b=>w.heap.size<=b) A t.cnt t/\(0<=c.k/\c.k<=255)
theorem TermR.no {g d:Nat} {R:Option ((Int×St×Tms)×List UInt8)} {w w':World} (h:R=none) (hb:But (some g) w w'):TermR g d R w (PanE g) w':=⟨hb,fun _=>rfl,fun n c t r e=>by rw [h] at e;cases e⟩
theorem TermR.yes {g d:Nat} {R:Option ((Int×St×Tms)×List UInt8)} {n:Int} {c:St} {t:Tms} {r:List UInt8} {w w':World} {A:Option Addr} {cap:Nat} (h:R=some ((n,c,t),r)) (hb:But (some g) w w') (h1:RdAt w' g r d) (h2:TvK w' (fun b=>w.heap.size<=b) A t.cnt t) (h3:0<=c.k/\c.k<=255) :
  TermR g d R w (.returned (.agg #[.int .i64 n,.int .u8 c.k,.bool c.p,.int .i64 c.a,.int .i64 c.b,.slice A t.cnt cap])) w' :=
 ⟨hb,fun e=>(by rw [h] at e;cases e),fun n' c' t' r' e=>by rw [h] at e;cases e;exact ⟨A,cap,rfl,h1,h2,h3⟩⟩
def ListRd (g d:Nat) (R:Option (Tms×List UInt8)) (w:World) (e:Ending) (w':World):Prop :=
 But (some g) w w'/\(R=none->e=PanE g)/\∀t r,R=some (t,r)->∃v,e = .returned v/\RdAt w' g r d/\OwnT w' w.heap.size 134 v t.cnt t
theorem Ext.but {WG w w':World} {g:Nat} (h:Ext WG w) (hb:But (some g) w w') (hg:WG.heap.size<=g):Ext WG w':=Below.trans h (hb.below (Zl h) (fun k e=>by cases e;exact hg))
abbrev zsT:Array Value:=#[.int .i64 0,.int .u8 0,.bool false,.int .i64 0,.int .i64 0,.slice none 0 0]
structure St9 (S0:List UInt8) (W0:World) (g:Nat) (s:List UInt8) (d:Int) (cs:Array Value) (A:Option Addr) (t:Tms) (w:World):Prop where
 lt:g<W0.heap.size
 rd:RdAt w g s d
 rx:w.heap[W0.heap.size]?=some (.cells zsT 134 (0,0))
 bx:w.heap[W0.heap.size+1]?=some (.cells cs 134 (0,0))
 bt:But (some g) W0 w
 sf:s <:+ S0
 tv:TvK w (fun b=>W0.heap.size+2<=b) A t.cnt t
section
variable {S0:List UInt8} {W0 w w':World} {g:Nat} {s s':List UInt8} {d d':Int} {cs:Array Value} {A:Option Addr} {t:Tms}
theorem St9.ext (h:St9 S0 W0 g s d cs A t w) (hb:Ext w w'):St9 S0 W0 g s d cs A t w' :=
 ⟨h.lt,h.rd.ext hb,by rw [hb.block _ (Zm.1 h.rx).1];exact h.rx,by rw [hb.block _ (Zm.1 h.bx).1];exact h.bx,h.bt.trans (But.of_ext hb _),h.sf,h.tv.ext hb⟩
theorem St9.call (h:St9 S0 W0 g s d cs A t w) (hr:RdAt w' g s' d') (hb:But (some g) w w') (hs:s' <:+ s):St9 S0 W0 g s' d' cs A t w':=by
 have hl:=h.lt
 refine ⟨hl,hr,?_,?_,h.bt.trans hb,hs.trans h.sf,h.tv.but hb fun b _ hk=>⟨hk,?_⟩⟩
 ·rw [hb.block _ (Zm.1 h.rx).1 (by intro e;simp at e <;> omega)];exact h.rx
 ·rw [hb.block _ (Zm.1 h.bx).1 (by intro e;simp at e <;> omega)];exact h.bx
 ·have hk2:W0.heap.size+2<=b:=hk
  intro e
  simp at e <;> omega
theorem St9.deep (h:St9 S0 W0 g s d cs A t w) (e:Int):St9 S0 W0 g s e cs A t (w.setCell ⟨g,1,none⟩ (.int .i64 e)) :=
 h.call (h.rd.set1 e) ((But.refl _ _).own rfl _) (List.suffix_refl _)
theorem St9.put (h:St9 S0 W0 g s d cs A t w) (i:Nat) (v:Value):St9 S0 W0 g s d (cs.setIfInBounds i v) A t (w.setCell ⟨W0.heap.size+1,i,none⟩ v):=by
 have hl:=h.lt
 refine ⟨hl,?_,?_,heap_setCell_same w _ i cs _ v h.bx,h.bt.setCell (by simp) v,h.sf,h.tv.keep (by simp [World.setCell]) fun b _ hk=>⟨hk,fun o=>Zj _ _ _ _ ?_⟩⟩
 ·unfold RdAt;rw [Below.heap_setCell _ _ _ _ (by simp;omega)];exact h.rd
 ·rw [Below.heap_setCell _ _ _ _ (by simp)];exact h.rx
 ·have hk2:W0.heap.size+2<=b:=hk
  intro e
  simp at e <;> omega
theorem St9.six {v0 v1 v2 v3 v4 v5:Value} (h:St9 S0 W0 g s d #[v0,v1,v2,v3,v4,v5] A t w):(w.cell? ⟨g,0,none⟩=some (.string ⟨s.toArray⟩)/\w.cell? ⟨g,1,none⟩=some (.int .i64 d)/\w.frozen? ⟨g,0,none⟩=false/\w.frozen? ⟨g,1,none⟩=false/\g<w.heap.size) /\
  w.cell? ⟨W0.heap.size+1,0,none⟩=some v0/\w.cell? ⟨W0.heap.size+1,1,none⟩=some v1/\w.cell? ⟨W0.heap.size+1,2,none⟩=some v2/\w.cell? ⟨W0.heap.size+1,3,none⟩=some v3/\w.cell? ⟨W0.heap.size+1,4,none⟩=some v4/\w.cell? ⟨W0.heap.size+1,5,none⟩=some v5/\(∀j,w.frozen? ⟨W0.heap.size+1,j,none⟩=false)/\W0.heap.size+1<w.heap.size :=
 ⟨h.rd.facts,(cell_of_row w _ 0 _ _ (0,0) h.bx).trans rfl,(cell_of_row w _ 1 _ _ (0,0) h.bx).trans rfl,(cell_of_row w _ 2 _ _ (0,0) h.bx).trans rfl,(cell_of_row w _ 3 _ _ (0,0) h.bx).trans rfl,(cell_of_row w _ 4 _ _ (0,0) h.bx).trans rfl,(cell_of_row w _ 5 _ _ (0,0) h.bx).trans rfl,fun j=>frozen_of_row w _ j _ _ h.bx,(Zm.1 h.bx).1⟩
theorem St9.res (h:St9 S0 W0 g s d cs A t w):w.cell? ⟨W0.heap.size,0,none⟩=some (.int .i64 0)/\w.cell? ⟨W0.heap.size,1,none⟩=some (.int .u8 0)/\w.cell? ⟨W0.heap.size,2,none⟩=some (.bool false)/\w.cell? ⟨W0.heap.size,3,none⟩=some (.int .i64 0)/\w.cell? ⟨W0.heap.size,4,none⟩=some (.int .i64 0)/\w.cell? ⟨W0.heap.size,5,none⟩=some (.slice none 0 0)/\(∀j,w.frozen? ⟨W0.heap.size,j,none⟩=false)/\W0.heap.size<w.heap.size :=
 ⟨(cell_of_row w _ 0 _ _ (0,0) h.rx).trans rfl,(cell_of_row w _ 1 _ _ (0,0) h.rx).trans rfl,(cell_of_row w _ 2 _ _ (0,0) h.rx).trans rfl,(cell_of_row w _ 3 _ _ (0,0) h.rx).trans rfl,(cell_of_row w _ 4 _ _ (0,0) h.rx).trans rfl,(cell_of_row w _ 5 _ _ (0,0) h.rx).trans rfl,fun j=>frozen_of_row w _ j _ _ h.rx,(Zm.1 h.rx).1⟩
theorem St9.grp {t':Tms} {A':Option Addr} (h:St9 S0 W0 g s d cs A t w) (hk:TvK w (fun b=>W0.heap.size+2<=b) A' t'.cnt t'):St9 S0 W0 g s d cs A' t' w:={ h with tv:=hk }
theorem St9.start (h:RdAt W0 g S0 d) (cs:Array Value):St9 S0 W0 g S0 d cs none .nil ((W0.alloc (.cells zsT 134)).alloc (.cells cs 134)):=by
 have e1:((W0.alloc (.cells zsT 134)).alloc (.cells cs 134)).heap[W0.heap.size]?=(W0.alloc (.cells zsT 134)).heap[W0.heap.size]?:=((Zf _).alloc _).block _ (by simp)
 refine ⟨h.lt,h.ext (Zp (Zp (Zf _) _) _),e1.trans (heap_alloc_new _ _),?_,But.of_ext (Zp (Zp (Zf _) _) _) _,List.suffix_refl _,TvK.none_ _ _ _⟩
 have:=heap_alloc_new (W0.alloc (.cells zsT 134)) (.cells cs 134)
 simpa using this
def sixW (w:World) (g1:Nat) (v0 v1 v2 v3 v4 v5:Value):World:=(((((w.setCell ⟨g1,0,none⟩ v0).setCell ⟨g1,1,none⟩ v1).setCell ⟨g1,2,none⟩ v2).setCell ⟨g1,3,none⟩ v3).setCell ⟨g1,4,none⟩ v4).setCell ⟨g1,5,none⟩ v5
theorem St9.fin (h:St9 S0 W0 g s d cs A t w) (v0 v1 v2 v3 v4 v5:Value):But (some g) W0 (sixW w W0.heap.size v0 v1 v2 v3 v4 v5)/\RdAt (sixW w W0.heap.size v0 v1 v2 v3 v4 v5) g s d/\TvK (sixW w W0.heap.size v0 v1 v2 v3 v4 v5) (fun b=>W0.heap.size<=b) A t.cnt t /\
  (sixW w W0.heap.size v0 v1 v2 v3 v4 v5).cell? ⟨W0.heap.size,0,none⟩=some v0/\(sixW w W0.heap.size v0 v1 v2 v3 v4 v5).cell? ⟨W0.heap.size,1,none⟩=some v1/\(sixW w W0.heap.size v0 v1 v2 v3 v4 v5).cell? ⟨W0.heap.size,2,none⟩=some v2/\(sixW w W0.heap.size v0 v1 v2 v3 v4 v5).cell? ⟨W0.heap.size,3,none⟩=some v3/\(sixW w W0.heap.size v0 v1 v2 v3 v4 v5).cell? ⟨W0.heap.size,4,none⟩=some v4/\(sixW w W0.heap.size v0 v1 v2 v3 v4 v5).cell? ⟨W0.heap.size,5,none⟩=some v5:=by
 have hl:=h.lt
 have hB:But (some W0.heap.size) w (sixW w W0.heap.size v0 v1 v2 v3 v4 v5):=by
  unfold sixW
  exact ((((((But.refl _ _).own (p:=⟨W0.heap.size,0,none⟩) rfl _).own (p:=⟨W0.heap.size,1,none⟩) rfl _).own (p:=⟨W0.heap.size,2,none⟩) rfl _).own (p:=⟨W0.heap.size,3,none⟩) rfl _).own (p:=⟨W0.heap.size,4,none⟩) rfl _).own (p:=⟨W0.heap.size,5,none⟩) rfl _
 have hT:But (some g) W0 (sixW w W0.heap.size v0 v1 v2 v3 v4 v5):=by
  unfold sixW
  exact (((((h.bt.setCell (p:=⟨W0.heap.size,0,none⟩) (Zg _) _).setCell (p:=⟨W0.heap.size,1,none⟩) (Zg _) _).setCell (p:=⟨W0.heap.size,2,none⟩) (Zg _) _).setCell (p:=⟨W0.heap.size,3,none⟩) (Zg _) _).setCell (p:=⟨W0.heap.size,4,none⟩) (Zg _) _).setCell (p:=⟨W0.heap.size,5,none⟩) (Zg _) _
 have hH:(sixW w W0.heap.size v0 v1 v2 v3 v4 v5).heap[W0.heap.size]?=some (.cells #[v0,v1,v2,v3,v4,v5] 134 (0,0)):=by
  have h0:=heap_setCell_same w W0.heap.size 0 _ _ v0 h.rx
  have h1:=heap_setCell_same _ W0.heap.size 1 _ _ v1 h0
  have h2:=heap_setCell_same _ W0.heap.size 2 _ _ v2 h1
  have h3:=heap_setCell_same _ W0.heap.size 3 _ _ v3 h2
  have h4:=heap_setCell_same _ W0.heap.size 4 _ _ v4 h3
  exact heap_setCell_same _ W0.heap.size 5 _ _ v5 h4
 generalize sixW w W0.heap.size v0 v1 v2 v3 v4 v5=W9 at *
 refine ⟨hT,?_,?_,(cell_of_row _ _ 0 _ _ (0,0) hH).trans rfl,(cell_of_row _ _ 1 _ _ (0,0) hH).trans rfl,(cell_of_row _ _ 2 _ _ (0,0) hH).trans rfl,(cell_of_row _ _ 3 _ _ (0,0) hH).trans rfl,(cell_of_row _ _ 4 _ _ (0,0) hH).trans rfl,(cell_of_row _ _ 5 _ _ (0,0) hH).trans rfl⟩
 ·unfold RdAt
  rw [hB.block g h.rd.lt (by intro e;simp at e <;> omega)]
  exact h.rd
 ·refine h.tv.but hB fun b _ hk=>?_
  have hk2:W0.heap.size+2<=b:=hk
  exact ⟨by omega,by intro e;simp at e <;> omega⟩
end
theorem zmY (f g d:Nat) (s1:List UInt8) (WG w:World) (hgl:Glob WG) (hex:Ext WG w) (hgg:WG.heap.size<=g) (h:RdAt w g (40::s1) d) (hd:d<=20) (hl:((40::s1)).length<=10000) (ha:Asc ((40::s1)))
  (HL:∀(d':Nat) (s':List UInt8) (w':World) (di:Int),di=(d':Int)->Ext WG w'->RdAt w' g s' di->d'<=20->Asc s'->s'.length<=10000->2*s'.length+2<=f->Calls Tryz.prog 149 #[.pointer (some ⟨g,0,none⟩)] w' (ListRd g d' (rdL atoiO f d' s') w')) (hf:2*((40::s1)).length+1<=f+1) :
  Calls Tryz.prog 174 #[.pointer (some ⟨g,0,none⟩)] w (TermR g d (rdT atoiO (f+1) d ((40::s1))) w):=by
 have aw:=Za HL
 have i1:=Zh ((d:Int)+1) (by omega)
 have i2:=Zh ((d:Int)+1-1) (by omega)
 have i3:(d:Int)+1-1=(d:Int):=by omega
 have hz:=h.lt
 have ad:=Za (St9.start h #[.int .i64 1,.int .u8 0,.bool false,.int .i64 0,.int .i64 0,.slice none 0 0])
 have HA:=Za ha
 have HG:=Za hgl
 have HE:=Za hex
 have hl1:s1.length+1<=10000:=by simpa using hl
 have hf1:2*(s1.length+1)+1<=f+1:=by simpa using hf
 have HLN:(40::s1).length<=10000:=hl
 have K40:=Za (show hitB 40 (40::s1)=true from rfl)
 have R40:=Za (show hitR 40 (40::s1)=s1 from rfl)
 clear h ha HL hgl hex hl hf
 by_cases h8:8<d+1
 ·have HR:=Za (show rdT atoiO (f+1) d (40::s1)=none by rw [zkH,if_pos h8])
  have ay:(8:Int)<(d:Int)+1:=by omega
  go_enter Tryz.func174,Tryz.ntmps174
  go_wp2_with (first
   | (go_at_call 175;(((with_reducible refine (zbc g _ _ _ (ad.out).rd (by have:=(ad.out).sf.length_le;omega)).mono ?_);rintro e w1 ⟨rfl,hr,hb⟩;rw [K40.out];rw [R40.out] at hr;have aa:=(ad.out).call hr hb (zaI R40.out);have HS:=Za aa;clear hr hb aa;obtain ⟨⟨x0,x1,x2,x3,x4⟩,y0,y1,y2,y3,y4,y5,xf,xz⟩:=St9.six HS.out;have z0:=xf 0;have z1:=xf 1;have z2:=xf 2;have z3:=xf 3;have z4:=xf 4;have z5:=xf 5;clear xf;obtain ⟨u0,u1,u2,u3,u4,u5,uf,uz⟩:=St9.res HS.out;have v0:=uf 0;have v1:=uf 1;have v2:=uf 2;have v3:=uf 3;have v4:=uf 4;have v5:=uf 5;clear uf))))
  exact ⟨rfl,TermR.no HR.out (HS.out.deep _).bt⟩
 have ay:¬((8:Int)<(d:Int)+1):=by omega
 have hrd:=zkH atoiO f d s1
 rw [if_neg h8] at hrd
 have an:=Za (fun (w':World) (di:Int) (e:di=((d+1:Nat):Int)) (hx:Ext WG w') (hr:RdAt w' g s1 di)=>aw.out (d+1) s1 w' di e hx hr (by omega) (HA.out.suf (List.suffix_cons _ _)) (by omega) (by omega))
 have am:=(zkJ atoiO f).2 (d+1) s1
 cases hq:rdL atoiO f (d+1) s1 with
 | none =>
  have HR:=Za (show rdT atoiO (f+1) d (40::s1)=none by rw [hrd,hq];rfl)
  have HQ:=Za hq
  clear hrd hq am
  go_enter Tryz.func174,Tryz.ntmps174
  go_wp2_with (first
   | (go_at_call 175;(((with_reducible refine (zbc g _ _ _ (ad.out).rd (by have:=(ad.out).sf.length_le;omega)).mono ?_);rintro e w1 ⟨rfl,hr,hb⟩;rw [K40.out];rw [R40.out] at hr;have aa:=(ad.out).call hr hb (zaI R40.out);have HS:=Za aa;clear hr hb aa;obtain ⟨⟨x0,x1,x2,x3,x4⟩,y0,y1,y2,y3,y4,y5,xf,xz⟩:=St9.six HS.out;have z0:=xf 0;have z1:=xf 1;have z2:=xf 2;have z3:=xf 3;have z4:=xf 4;have z5:=xf 5;clear xf;obtain ⟨u0,u1,u2,u3,u4,u5,uf,uz⟩:=St9.res HS.out;have v0:=uf 0;have v1:=uf 1;have v2:=uf 2;have v3:=uf 3;have v4:=uf 4;have v5:=uf 5;clear uf)))
   | (go_at_call 149;((with_reducible refine (an.out _ _ (by omega) (Ext.but HE.out (HS.out.deep _).bt hgg) (HS.out.deep _).rd).mono ?_);rintro e w2 ⟨hb2,ap, -⟩;have h9:=ap HQ.out;unfold PanE at h9;subst h9;have av:=Za ((HS.out.deep ((d:Int)+1)).bt.trans hb2);clear hb2 ap)))
  exact ⟨rfl,TermR.no HR.out av.out⟩
 | some x =>
  obtain ⟨t,r⟩:=x
  obtain ⟨aq,ax⟩:=am _ hq
  simp only at aq ax
  have aj:=Za aq
  have az:t.cnt<=1000000:=by omega
  have HQ:=Za hq
  rw [hq,Zz] at hrd
  simp only at hrd
  have ak:=Za (fun (w':World) (di:Int) (e:di=((d+1:Nat):Int)) (hx:Ext WG w') (hr:RdAt w' g s1 di)=>(show Calls Tryz.prog 149 #[.pointer (some ⟨g,0,none⟩)] w' (fun e w''=>∃A c,e = .returned (.slice A t.cnt c)/\RdAt w'' g r di/\But (some g) w' w''/\TvK w'' (fun b=>w'.heap.size<=b) A t.cnt t) from by
   refine (an.out w' di e hx hr).mono ?_
   rintro e9 w2 ⟨hb2, -,aB⟩
   obtain ⟨v,rfl,ag,aA⟩:=aB t r HQ.out
   obtain ⟨A2,c2,rfl,af⟩:=zaA aA az
   exact ⟨A2,c2,rfl,by subst e;exact ag,hb2,af⟩))
  clear hq am
  obtain ⟨q,hq'⟩:∃q,hitR 41 r=q:=⟨_,rfl⟩
  have R41:=Za hq'
  cases h41:hitB 41 r with
  | false =>
   have HR:=Za (show rdT atoiO (f+1) d (40::s1)=none by rw [hrd,h41];rfl)
   have K41:=Za h41
   clear hrd h41 hq'
   go_enter Tryz.func174,Tryz.ntmps174
   go_wp2_with (first
    | (go_at_call 175;(first | (((with_reducible refine (zeX g _ _ _ (ab.out.put 5 (.slice A2 t.cnt c2)).rd (by have:=(ab.out.put 5 (.slice A2 t.cnt c2)).sf.length_le;omega)).mono ?_);rintro e w1 ⟨rfl,hr,hb⟩;rw [K41.out];rw [R41.out] at hr;have aa:=(ab.out.put 5 (.slice A2 t.cnt c2)).call hr hb (zaI R41.out);have ac:=Za aa;clear hr hb aa;obtain ⟨⟨x0,x1,x2,x3,x4⟩,y0,y1,y2,y3,y4,y5,xf,xz⟩:=St9.six ac.out;have z0:=xf 0;have z1:=xf 1;have z2:=xf 2;have z3:=xf 3;have z4:=xf 4;have z5:=xf 5;clear xf;obtain ⟨u0,u1,u2,u3,u4,u5,uf,uz⟩:=St9.res ac.out;have v0:=uf 0;have v1:=uf 1;have v2:=uf 2;have v3:=uf 3;have v4:=uf 4;have v5:=uf 5;clear uf)) | (((with_reducible refine (zbc g _ _ _ (ad.out).rd (by have:=(ad.out).sf.length_le;omega)).mono ?_);rintro e w1 ⟨rfl,hr,hb⟩;rw [K40.out];rw [R40.out] at hr;have aa:=(ad.out).call hr hb (zaI R40.out);have HS:=Za aa;clear hr hb aa;obtain ⟨⟨x0,x1,x2,x3,x4⟩,y0,y1,y2,y3,y4,y5,xf,xz⟩:=St9.six HS.out;have z0:=xf 0;have z1:=xf 1;have z2:=xf 2;have z3:=xf 3;have z4:=xf 4;have z5:=xf 5;clear xf;obtain ⟨u0,u1,u2,u3,u4,u5,uf,uz⟩:=St9.res HS.out;have v0:=uf 0;have v1:=uf 1;have v2:=uf 2;have v3:=uf 3;have v4:=uf 4;have v5:=uf 5;clear uf))))
    | (go_at_call 149;((with_reducible refine (ak.out _ _ (by omega) (Ext.but HE.out (HS.out.deep _).bt hgg) (HS.out.deep _).rd).mono ?_);rintro e w2 ⟨A2,c2,rfl,ag,hb2,af⟩;have aa:=((HS.out.deep ((d:Int)+1)).call ag hb2 aj.out).grp (af.mono fun b _ hb=>(by have h8:=(Zm.1 (HS.out.deep ((d:Int)+1)).bx).1;omega));have ab:=Za aa;clear ag hb2 af aa;obtain ⟨⟨x0,x1,x2,x3,x4⟩,y0,y1,y2,y3,y4,y5,xf,xz⟩:=St9.six ab.out;have z0:=xf 0;have z1:=xf 1;have z2:=xf 2;have z3:=xf 3;have z4:=xf 4;have z5:=xf 5;clear xf;obtain ⟨u0,u1,u2,u3,u4,u5,uf,uz⟩:=St9.res ab.out;have v0:=uf 0;have v1:=uf 1;have v2:=uf 2;have v3:=uf 3;have v4:=uf 4;have v5:=uf 5;clear uf)))
   exact ⟨rfl,TermR.no HR.out ac.out.bt⟩
  | true =>
   have K41:=Za h41
   rw [h41,if_pos rfl,hq',zkG] at hrd
   clear h41 hq'
   obtain ⟨q2,hq2⟩:∃q2,hitR 42 q=q2:=⟨_,rfl⟩
   have R42:=Za hq2
   rw [hq2] at hrd
   obtain ⟨X,hX⟩:∃X,(untilS q2).1=X:=⟨_,rfl⟩
   obtain ⟨Y,hY⟩:∃Y,(untilS q2).2=Y:=⟨_,rfl⟩
   rw [hX,hY] at hrd
   have HX:=Za hX
   have HY:=Za hY
   cases h42:hitB 42 q with
   | false =>
    have K42:=Za h42
    rw [h42,if_neg (by simp)] at hrd
    have HR:=Za hrd
    obtain rfl:q2=q:=by rw [<-hq2];exact zhL h42
    clear hrd h42 hq2 hX hY
    go_enter Tryz.func174,Tryz.ntmps174
    go_wp2_with (first
     | (go_at_call 175;(first | (((with_reducible refine (zcN g _ _ _ (ac.out.deep (d:Int)).rd (by have:=(ac.out.deep (d:Int)).sf.length_le;omega)).mono ?_);rintro e w1 ⟨rfl,hr,hb⟩;rw [K42.out];rw [R42.out] at hr;have aa:=(ac.out.deep (d:Int)).call hr hb (zaI R42.out);have ae:=Za aa;clear hr hb aa;obtain ⟨⟨x0,x1,x2,x3,x4⟩,y0,y1,y2,y3,y4,y5,xf,xz⟩:=St9.six ae.out;have z0:=xf 0;have z1:=xf 1;have z2:=xf 2;have z3:=xf 3;have z4:=xf 4;have z5:=xf 5;clear xf;obtain ⟨u0,u1,u2,u3,u4,u5,uf,uz⟩:=St9.res ae.out;have v0:=uf 0;have v1:=uf 1;have v2:=uf 2;have v3:=uf 3;have v4:=uf 4;have v5:=uf 5;clear uf)) | (((with_reducible refine (zeX g _ _ _ (ab.out.put 5 (.slice A2 t.cnt c2)).rd (by have:=(ab.out.put 5 (.slice A2 t.cnt c2)).sf.length_le;omega)).mono ?_);rintro e w1 ⟨rfl,hr,hb⟩;rw [K41.out];rw [R41.out] at hr;have aa:=(ab.out.put 5 (.slice A2 t.cnt c2)).call hr hb (zaI R41.out);have ac:=Za aa;clear hr hb aa;obtain ⟨⟨x0,x1,x2,x3,x4⟩,y0,y1,y2,y3,y4,y5,xf,xz⟩:=St9.six ac.out;have z0:=xf 0;have z1:=xf 1;have z2:=xf 2;have z3:=xf 3;have z4:=xf 4;have z5:=xf 5;clear xf;obtain ⟨u0,u1,u2,u3,u4,u5,uf,uz⟩:=St9.res ac.out;have v0:=uf 0;have v1:=uf 1;have v2:=uf 2;have v3:=uf 3;have v4:=uf 4;have v5:=uf 5;clear uf)) | (((with_reducible refine (zbc g _ _ _ (ad.out).rd (by have:=(ad.out).sf.length_le;omega)).mono ?_);rintro e w1 ⟨rfl,hr,hb⟩;rw [K40.out];rw [R40.out] at hr;have aa:=(ad.out).call hr hb (zaI R40.out);have HS:=Za aa;clear hr hb aa;obtain ⟨⟨x0,x1,x2,x3,x4⟩,y0,y1,y2,y3,y4,y5,xf,xz⟩:=St9.six HS.out;have z0:=xf 0;have z1:=xf 1;have z2:=xf 2;have z3:=xf 3;have z4:=xf 4;have z5:=xf 5;clear xf;obtain ⟨u0,u1,u2,u3,u4,u5,uf,uz⟩:=St9.res HS.out;have v0:=uf 0;have v1:=uf 1;have v2:=uf 2;have v3:=uf 3;have v4:=uf 4;have v5:=uf 5;clear uf))))
     | (go_at_call 149;((with_reducible refine (ak.out _ _ (by omega) (Ext.but HE.out (HS.out.deep _).bt hgg) (HS.out.deep _).rd).mono ?_);rintro e w2 ⟨A2,c2,rfl,ag,hb2,af⟩;have aa:=((HS.out.deep ((d:Int)+1)).call ag hb2 aj.out).grp (af.mono fun b _ hb=>(by have h8:=(Zm.1 (HS.out.deep ((d:Int)+1)).bx).1;omega));have ab:=Za aa;clear ag hb2 af aa;obtain ⟨⟨x0,x1,x2,x3,x4⟩,y0,y1,y2,y3,y4,y5,xf,xz⟩:=St9.six ab.out;have z0:=xf 0;have z1:=xf 1;have z2:=xf 2;have z3:=xf 3;have z4:=xf 4;have z5:=xf 5;clear xf;obtain ⟨u0,u1,u2,u3,u4,u5,uf,uz⟩:=St9.res ab.out;have v0:=uf 0;have v1:=uf 1;have v2:=uf 2;have v3:=uf 3;have v4:=uf 4;have v5:=uf 5;clear uf)))
    have h9:=(ae.out).fin (.int .i64 1) (.int .u8 0) (.bool false) (.int .i64 0) (.int .i64 0) (.slice A2 t.cnt c2)
    obtain ⟨k1,k2,k3,r0,r1,r2,r3,r4,r5⟩:=h9
    unfold sixW at k1 k2 k3 r0 r1 r2 r3 r4 r5
    exact bodyPost_ret (v := .agg #[.int .i64 1,.int .u8 0,.bool false,.int .i64 0,.int .i64 0,.slice A2 t.cnt c2]) (by simp [results,Tryz.f174,go_sem,r0,r1,r2,r3,r4,r5]) rfl (TermR.yes HR.out k1 k2 k3 (by decide))
   | true =>
    have K42:=Za h42
    rw [h42,if_pos rfl] at hrd
    have ao:X.length<=1000000:=by
     have h1:=zbt q2
     rw [hX,hY] at h1
     have h2:=congrArg List.length h1
     rw [Zb] at h2
     have h3:=(zey 42 q).length_le
     rw [hq2] at h3
     have h4:=(zey 41 r).length_le
     rw [R41.out] at h4
     have h5:=aj.out.length_le
     omega
    cases hat:atoiO X with
    | none =>
     have HR:=Za (show rdT atoiO (f+1) d (40::s1)=none by rw [hrd,hat];rfl)
     have ar:=Za (fun (w':World) (hg':Glob w')=>zgt hat ao w' hg')
     clear hrd h42 hq2 hX hY hat
     go_enter Tryz.func174,Tryz.ntmps174
     go_wp2_with (first
      | (go_at_call 175;(first | (((with_reducible refine (zcN g _ _ _ (ac.out.deep (d:Int)).rd (by have:=(ac.out.deep (d:Int)).sf.length_le;omega)).mono ?_);rintro e w1 ⟨rfl,hr,hb⟩;rw [K42.out];rw [R42.out] at hr;have aa:=(ac.out.deep (d:Int)).call hr hb (zaI R42.out);have ae:=Za aa;clear hr hb aa;obtain ⟨⟨x0,x1,x2,x3,x4⟩,y0,y1,y2,y3,y4,y5,xf,xz⟩:=St9.six ae.out;have z0:=xf 0;have z1:=xf 1;have z2:=xf 2;have z3:=xf 3;have z4:=xf 4;have z5:=xf 5;clear xf;obtain ⟨u0,u1,u2,u3,u4,u5,uf,uz⟩:=St9.res ae.out;have v0:=uf 0;have v1:=uf 1;have v2:=uf 2;have v3:=uf 3;have v4:=uf 4;have v5:=uf 5;clear uf)) | (((with_reducible refine (zeX g _ _ _ (ab.out.put 5 (.slice A2 t.cnt c2)).rd (by have:=(ab.out.put 5 (.slice A2 t.cnt c2)).sf.length_le;omega)).mono ?_);rintro e w1 ⟨rfl,hr,hb⟩;rw [K41.out];rw [R41.out] at hr;have aa:=(ab.out.put 5 (.slice A2 t.cnt c2)).call hr hb (zaI R41.out);have ac:=Za aa;clear hr hb aa;obtain ⟨⟨x0,x1,x2,x3,x4⟩,y0,y1,y2,y3,y4,y5,xf,xz⟩:=St9.six ac.out;have z0:=xf 0;have z1:=xf 1;have z2:=xf 2;have z3:=xf 3;have z4:=xf 4;have z5:=xf 5;clear xf;obtain ⟨u0,u1,u2,u3,u4,u5,uf,uz⟩:=St9.res ac.out;have v0:=uf 0;have v1:=uf 1;have v2:=uf 2;have v3:=uf 3;have v4:=uf 4;have v5:=uf 5;clear uf)) | (((with_reducible refine (zbc g _ _ _ (ad.out).rd (by have:=(ad.out).sf.length_le;omega)).mono ?_);rintro e w1 ⟨rfl,hr,hb⟩;rw [K40.out];rw [R40.out] at hr;have aa:=(ad.out).call hr hb (zaI R40.out);have HS:=Za aa;clear hr hb aa;obtain ⟨⟨x0,x1,x2,x3,x4⟩,y0,y1,y2,y3,y4,y5,xf,xz⟩:=St9.six HS.out;have z0:=xf 0;have z1:=xf 1;have z2:=xf 2;have z3:=xf 3;have z4:=xf 4;have z5:=xf 5;clear xf;obtain ⟨u0,u1,u2,u3,u4,u5,uf,uz⟩:=St9.res HS.out;have v0:=uf 0;have v1:=uf 1;have v2:=uf 2;have v3:=uf 3;have v4:=uf 4;have v5:=uf 5;clear uf))))
      | (go_at_call 189;(((with_reducible refine (zaQ g _ _ _ (ae.out).rd (HA.out.suf (ae.out).sf) (by have:=(ae.out).sf.length_le;omega)).mono ?_);rintro e w1 ⟨rfl,hr,hb⟩;rw [HX.out];rw [HY.out] at hr;have aa:=(ae.out).call hr hb (by rw [<-HY.out];exact zaR _);have ah:=Za aa;clear hr hb aa;obtain ⟨⟨x0,x1,x2,x3,x4⟩,y0,y1,y2,y3,y4,y5,xf,xz⟩:=St9.six ah.out;have z0:=xf 0;have z1:=xf 1;have z2:=xf 2;have z3:=xf 3;have z4:=xf 4;have z5:=xf 5;clear xf;obtain ⟨u0,u1,u2,u3,u4,u5,uf,uz⟩:=St9.res ah.out;have v0:=uf 0;have v1:=uf 1;have v2:=uf 2;have v3:=uf 3;have v4:=uf 4;have v5:=uf 5;clear uf)))
      | (go_at_call 114;((with_reducible refine (ar.out _ (HG.out.ext (Ext.but HE.out ah.out.bt hgg))).mono ?_);rintro e w1 ⟨v9,te,pe,rfl,al⟩;have ai:=Za (ah.out.ext al);obtain ⟨⟨x0,x1,x2,x3,x4⟩,y0,y1,y2,y3,y4,y5,xf,xz⟩:=St9.six ai.out;have z0:=xf 0;have z1:=xf 1;have z2:=xf 2;have z3:=xf 3;have z4:=xf 4;have z5:=xf 5;clear xf;obtain ⟨u0,u1,u2,u3,u4,u5,uf,uz⟩:=St9.res ai.out;have v0:=uf 0;have v1:=uf 1;have v2:=uf 2;have v3:=uf 3;have v4:=uf 4;have v5:=uf 5;clear uf))
      | (go_at_call 149;((with_reducible refine (ak.out _ _ (by omega) (Ext.but HE.out (HS.out.deep _).bt hgg) (HS.out.deep _).rd).mono ?_);rintro e w2 ⟨A2,c2,rfl,ag,hb2,af⟩;have aa:=((HS.out.deep ((d:Int)+1)).call ag hb2 aj.out).grp (af.mono fun b _ hb=>(by have h8:=(Zm.1 (HS.out.deep ((d:Int)+1)).bx).1;omega));have ab:=Za aa;clear ag hb2 af aa;obtain ⟨⟨x0,x1,x2,x3,x4⟩,y0,y1,y2,y3,y4,y5,xf,xz⟩:=St9.six ab.out;have z0:=xf 0;have z1:=xf 1;have z2:=xf 2;have z3:=xf 3;have z4:=xf 4;have z5:=xf 5;clear xf;obtain ⟨u0,u1,u2,u3,u4,u5,uf,uz⟩:=St9.res ab.out;have v0:=uf 0;have v1:=uf 1;have v2:=uf 2;have v3:=uf 3;have v4:=uf 4;have v5:=uf 5;clear uf)))
     exact ⟨rfl,TermR.no HR.out ai.out.bt⟩
    | some nn =>
     have HR:=Za (show rdT atoiO (f+1) d (40::s1)=some ((nn,st0,t),Y) by rw [hrd,hat];rfl)
     have au:=Za (fun (w':World)=>zep hat ao w')
     clear hrd h42 hq2 hX hY hat
     go_enter Tryz.func174,Tryz.ntmps174
     go_wp2_with (first
      | (go_at_call 175;(first | (((with_reducible refine (zcN g _ _ _ (ac.out.deep (d:Int)).rd (by have:=(ac.out.deep (d:Int)).sf.length_le;omega)).mono ?_);rintro e w1 ⟨rfl,hr,hb⟩;rw [K42.out];rw [R42.out] at hr;have aa:=(ac.out.deep (d:Int)).call hr hb (zaI R42.out);have ae:=Za aa;clear hr hb aa;obtain ⟨⟨x0,x1,x2,x3,x4⟩,y0,y1,y2,y3,y4,y5,xf,xz⟩:=St9.six ae.out;have z0:=xf 0;have z1:=xf 1;have z2:=xf 2;have z3:=xf 3;have z4:=xf 4;have z5:=xf 5;clear xf;obtain ⟨u0,u1,u2,u3,u4,u5,uf,uz⟩:=St9.res ae.out;have v0:=uf 0;have v1:=uf 1;have v2:=uf 2;have v3:=uf 3;have v4:=uf 4;have v5:=uf 5;clear uf)) | (((with_reducible refine (zeX g _ _ _ (ab.out.put 5 (.slice A2 t.cnt c2)).rd (by have:=(ab.out.put 5 (.slice A2 t.cnt c2)).sf.length_le;omega)).mono ?_);rintro e w1 ⟨rfl,hr,hb⟩;rw [K41.out];rw [R41.out] at hr;have aa:=(ab.out.put 5 (.slice A2 t.cnt c2)).call hr hb (zaI R41.out);have ac:=Za aa;clear hr hb aa;obtain ⟨⟨x0,x1,x2,x3,x4⟩,y0,y1,y2,y3,y4,y5,xf,xz⟩:=St9.six ac.out;have z0:=xf 0;have z1:=xf 1;have z2:=xf 2;have z3:=xf 3;have z4:=xf 4;have z5:=xf 5;clear xf;obtain ⟨u0,u1,u2,u3,u4,u5,uf,uz⟩:=St9.res ac.out;have v0:=uf 0;have v1:=uf 1;have v2:=uf 2;have v3:=uf 3;have v4:=uf 4;have v5:=uf 5;clear uf)) | (((with_reducible refine (zbc g _ _ _ (ad.out).rd (by have:=(ad.out).sf.length_le;omega)).mono ?_);rintro e w1 ⟨rfl,hr,hb⟩;rw [K40.out];rw [R40.out] at hr;have aa:=(ad.out).call hr hb (zaI R40.out);have HS:=Za aa;clear hr hb aa;obtain ⟨⟨x0,x1,x2,x3,x4⟩,y0,y1,y2,y3,y4,y5,xf,xz⟩:=St9.six HS.out;have z0:=xf 0;have z1:=xf 1;have z2:=xf 2;have z3:=xf 3;have z4:=xf 4;have z5:=xf 5;clear xf;obtain ⟨u0,u1,u2,u3,u4,u5,uf,uz⟩:=St9.res HS.out;have v0:=uf 0;have v1:=uf 1;have v2:=uf 2;have v3:=uf 3;have v4:=uf 4;have v5:=uf 5;clear uf))))
      | (go_at_call 189;(((with_reducible refine (zaQ g _ _ _ (ae.out).rd (HA.out.suf (ae.out).sf) (by have:=(ae.out).sf.length_le;omega)).mono ?_);rintro e w1 ⟨rfl,hr,hb⟩;rw [HX.out];rw [HY.out] at hr;have aa:=(ae.out).call hr hb (by rw [<-HY.out];exact zaR _);have ah:=Za aa;clear hr hb aa;obtain ⟨⟨x0,x1,x2,x3,x4⟩,y0,y1,y2,y3,y4,y5,xf,xz⟩:=St9.six ah.out;have z0:=xf 0;have z1:=xf 1;have z2:=xf 2;have z3:=xf 3;have z4:=xf 4;have z5:=xf 5;clear xf;obtain ⟨u0,u1,u2,u3,u4,u5,uf,uz⟩:=St9.res ah.out;have v0:=uf 0;have v1:=uf 1;have v2:=uf 2;have v3:=uf 3;have v4:=uf 4;have v5:=uf 5;clear uf)))
      | (go_at_call 114;((with_reducible refine (au.out _).mono ?_);rintro e w1 ⟨rfl,al⟩;have ai:=Za (ah.out.ext al);obtain ⟨⟨x0,x1,x2,x3,x4⟩,y0,y1,y2,y3,y4,y5,xf,xz⟩:=St9.six ai.out;have z0:=xf 0;have z1:=xf 1;have z2:=xf 2;have z3:=xf 3;have z4:=xf 4;have z5:=xf 5;clear xf;obtain ⟨u0,u1,u2,u3,u4,u5,uf,uz⟩:=St9.res ai.out;have v0:=uf 0;have v1:=uf 1;have v2:=uf 2;have v3:=uf 3;have v4:=uf 4;have v5:=uf 5;clear uf))
      | (go_at_call 149;((with_reducible refine (ak.out _ _ (by omega) (Ext.but HE.out (HS.out.deep _).bt hgg) (HS.out.deep _).rd).mono ?_);rintro e w2 ⟨A2,c2,rfl,ag,hb2,af⟩;have aa:=((HS.out.deep ((d:Int)+1)).call ag hb2 aj.out).grp (af.mono fun b _ hb=>(by have h8:=(Zm.1 (HS.out.deep ((d:Int)+1)).bx).1;omega));have ab:=Za aa;clear ag hb2 af aa;obtain ⟨⟨x0,x1,x2,x3,x4⟩,y0,y1,y2,y3,y4,y5,xf,xz⟩:=St9.six ab.out;have z0:=xf 0;have z1:=xf 1;have z2:=xf 2;have z3:=xf 3;have z4:=xf 4;have z5:=xf 5;clear xf;obtain ⟨u0,u1,u2,u3,u4,u5,uf,uz⟩:=St9.res ab.out;have v0:=uf 0;have v1:=uf 1;have v2:=uf 2;have v3:=uf 3;have v4:=uf 4;have v5:=uf 5;clear uf)))
     have h9:=(ai.out.put 0 (.int .i64 nn)).fin (.int .i64 nn) (.int .u8 0) (.bool false) (.int .i64 0) (.int .i64 0) (.slice A2 t.cnt c2)
     obtain ⟨k1,k2,k3,r0,r1,r2,r3,r4,r5⟩:=h9
     unfold sixW at k1 k2 k3 r0 r1 r2 r3 r4 r5
     exact bodyPost_ret (v := .agg #[.int .i64 nn,.int .u8 0,.bool false,.int .i64 0,.int .i64 0,.slice A2 t.cnt c2]) (by simp [results,Tryz.f174,go_sem,r0,r1,r2,r3,r4,r5]) rfl (TermR.yes HR.out k1 k2 k3 (by decide))
theorem zln (f g d:Nat) (s:List UInt8) (h40:hitB 40 s=false) (WG w:World) (hgl:Glob WG) (hex:Ext WG w) (hgg:WG.heap.size<=g) (h:RdAt w g s d) (hd:d<=20) (hl:(s).length<=10000) (ha:Asc (s))
  (HL:∀(d':Nat) (s':List UInt8) (w':World) (di:Int),di=(d':Int)->Ext WG w'->RdAt w' g s' di->d'<=20->Asc s'->s'.length<=10000->2*s'.length+2<=f->Calls Tryz.prog 149 #[.pointer (some ⟨g,0,none⟩)] w' (ListRd g d' (rdL atoiO f d' s') w')) (_:2*(s).length+1<=f+1) :
  Calls Tryz.prog 174 #[.pointer (some ⟨g,0,none⟩)] w (TermR g d (rdT atoiO (f+1) d (s)) w):=by
 have HL9:=Za HL
 have i1:=Zh ((d:Int)+1) (by omega)
 have i2:=Zh ((d:Int)+1-1) (by omega)
 have i3:(d:Int)+1-1=(d:Int):=by omega
 have hz:=h.lt
 have af:=Za (St9.start h #[.int .i64 1,.int .u8 0,.bool false,.int .i64 0,.int .i64 0,.slice none 0 0])
 have HA:=Za ha
 have HG:=Za hgl
 have HE:=Za hex
 have HLN:=hl
 have K40:=Za h40
 have R40:=Za (zhL h40)
 have hrd:=zmB atoiO f d h40
 obtain ⟨X0,ar⟩:∃X,(untilS s).1=X:=⟨_,rfl⟩
 obtain ⟨q,au⟩:∃Y,(untilS s).2=Y:=⟨_,rfl⟩
 rw [ar,au] at hrd
 have ap:=Za ar
 have ak:=Za au
 have av:=zbt s
 rw [ar,au] at av
 have aC:=congrArg List.length av
 rw [Zb] at aC
 have ao:=Za (fun (w':World) (hg':Glob w')=>zkq X0 (by omega) w' hg')
 clear h ha HL hgl hex hl h40 ar au av
 by_cases hp:∃c,parseL X0=some [c]
 case neg =>
  have HR:=Za (show rdT atoiO (f+1) d s=none by
   rw [hrd]
   split
   ·rename_i c e;exact absurd ⟨c,e⟩ hp
   ·rfl)
  cases an:parseL X0 with
  | none =>
   have ag:=Za (zcE an)
   clear hrd hp an
   go_enter Tryz.func174,Tryz.ntmps174
   go_wp2_with (first
    | (go_at_call 175;(((with_reducible refine (zbc g _ _ _ (af.out).rd (by have:=(af.out).sf.length_le;omega)).mono ?_);rintro e w1 ⟨rfl,hr,hb⟩;rw [K40.out];rw [R40.out] at hr;have aa:=(af.out).call hr hb (zaI R40.out);have HS:=Za aa;clear hr hb aa;obtain ⟨⟨x0,x1,x2,x3,x4⟩,y0,y1,y2,y3,y4,y5,xf,xz⟩:=St9.six HS.out;have z0:=xf 0;have z1:=xf 1;have z2:=xf 2;have z3:=xf 3;have z4:=xf 4;have z5:=xf 5;clear xf;obtain ⟨u0,u1,u2,u3,u4,u5,uf,uz⟩:=St9.res HS.out;have v0:=uf 0;have v1:=uf 1;have v2:=uf 2;have v3:=uf 3;have v4:=uf 4;have v5:=uf 5;clear uf)))
    | (go_at_call 189;(((with_reducible refine (zaQ g _ _ _ (HS.out).rd (HA.out.suf (HS.out).sf) (by have:=(HS.out).sf.length_le;omega)).mono ?_);rintro e w1 ⟨rfl,hr,hb⟩;rw [ap.out];rw [ak.out] at hr;have aa:=(HS.out).call hr hb (by rw [<-ak.out];exact zaR _);have ab:=Za aa;clear hr hb aa;obtain ⟨⟨x0,x1,x2,x3,x4⟩,y0,y1,y2,y3,y4,y5,xf,xz⟩:=St9.six ab.out;have z0:=xf 0;have z1:=xf 1;have z2:=xf 2;have z3:=xf 3;have z4:=xf 4;have z5:=xf 5;clear xf;obtain ⟨u0,u1,u2,u3,u4,u5,uf,uz⟩:=St9.res ab.out;have v0:=uf 0;have v1:=uf 1;have v2:=uf 2;have v3:=uf 3;have v4:=uf 4;have v5:=uf 5;clear uf)))
    | (go_at_call 188;((with_reducible refine (ao.out _ (HG.out.ext (Ext.but HE.out ab.out.bt hgg))).mono ?_);rintro e w5 ⟨v5,rfl,ae,ah⟩;rw [ag.out.2] at ae;rw [ag.out.1];obtain ⟨A5,c5,rfl,ac, -⟩:=zaf ae;have ai:=Za (ab.out.ext ah))))
   exact ⟨rfl,TermR.no HR.out ai.out.bt⟩
  | some L =>
   have ag:=Za (zbo an)
   have hL1:(((L.length:Nat):Int) != 1)=true:=by
    rw [bne_iff_ne]
    intro e
    match L,an,e with
    | [c],an,_=>exact hp ⟨c,an⟩
    | [],_,e=>simp at e
    | _::_::_,_,e=>simp at e <;> omega
   clear hrd hp an
   go_enter Tryz.func174,Tryz.ntmps174
   go_wp2_with (first
    | (go_at_call 175;(((with_reducible refine (zbc g _ _ _ (af.out).rd (by have:=(af.out).sf.length_le;omega)).mono ?_);rintro e w1 ⟨rfl,hr,hb⟩;rw [K40.out];rw [R40.out] at hr;have aa:=(af.out).call hr hb (zaI R40.out);have HS:=Za aa;clear hr hb aa;obtain ⟨⟨x0,x1,x2,x3,x4⟩,y0,y1,y2,y3,y4,y5,xf,xz⟩:=St9.six HS.out;have z0:=xf 0;have z1:=xf 1;have z2:=xf 2;have z3:=xf 3;have z4:=xf 4;have z5:=xf 5;clear xf;obtain ⟨u0,u1,u2,u3,u4,u5,uf,uz⟩:=St9.res HS.out;have v0:=uf 0;have v1:=uf 1;have v2:=uf 2;have v3:=uf 3;have v4:=uf 4;have v5:=uf 5;clear uf)))
    | (go_at_call 189;(((with_reducible refine (zaQ g _ _ _ (HS.out).rd (HA.out.suf (HS.out).sf) (by have:=(HS.out).sf.length_le;omega)).mono ?_);rintro e w1 ⟨rfl,hr,hb⟩;rw [ap.out];rw [ak.out] at hr;have aa:=(HS.out).call hr hb (by rw [<-ak.out];exact zaR _);have ab:=Za aa;clear hr hb aa;obtain ⟨⟨x0,x1,x2,x3,x4⟩,y0,y1,y2,y3,y4,y5,xf,xz⟩:=St9.six ab.out;have z0:=xf 0;have z1:=xf 1;have z2:=xf 2;have z3:=xf 3;have z4:=xf 4;have z5:=xf 5;clear xf;obtain ⟨u0,u1,u2,u3,u4,u5,uf,uz⟩:=St9.res ab.out;have v0:=uf 0;have v1:=uf 1;have v2:=uf 2;have v3:=uf 3;have v4:=uf 4;have v5:=uf 5;clear uf)))
    | (go_at_call 188;((with_reducible refine (ao.out _ (HG.out.ext (Ext.but HE.out ab.out.bt hgg))).mono ?_);rintro e w5 ⟨v5,rfl,ae,ah⟩;rw [ag.out.2] at ae;rw [ag.out.1];obtain ⟨A5,c5,rfl,ac, -⟩:=zaf ae;have ai:=Za (ab.out.ext ah))))
   exact ⟨rfl,TermR.no HR.out ai.out.bt⟩
 obtain ⟨c,hc⟩:=hp
 rw [hc] at hrd
 simp only at hrd
 rw [zkG] at hrd
 have ag:=Za (zbo hc)
 have aw:=ziK hc
 obtain ⟨ck,cp,ca,cb⟩:=c
 simp only at aw
 have ay:=Za aw
 clear hc aw
 obtain ⟨q2,hq2⟩:∃q2,hitR 42 q=q2:=⟨_,rfl⟩
 have R42:=Za hq2
 rw [hq2] at hrd
 obtain ⟨X,hX⟩:∃X,(untilS q2).1=X:=⟨_,rfl⟩
 obtain ⟨Y,hY⟩:∃Y,(untilS q2).2=Y:=⟨_,rfl⟩
 rw [hX,hY] at hrd
 have HX:=Za hX
 have HY:=Za hY
 cases h42:hitB 42 q with
 | false =>
  have K42:=Za h42
  rw [h42,if_neg (by simp)] at hrd
  have HR:=Za hrd
  obtain rfl:q2=q:=by rw [<-hq2];exact zhL h42
  clear hrd h42 hq2 hX hY
  go_enter Tryz.func174,Tryz.ntmps174
  go_wp2_with (first
   | (go_at_call 175;(first | (((with_reducible refine (zcN g _ _ _ ((((HSP.out.put 1 (.int .u8 ck)).put 2 (.bool cp)).put 3 (.int .i64 ca)).put 4 (.int .i64 cb)).rd (by have:=((((HSP.out.put 1 (.int .u8 ck)).put 2 (.bool cp)).put 3 (.int .i64 ca)).put 4 (.int .i64 cb)).sf.length_le;omega)).mono ?_);rintro e w1 ⟨rfl,hr,hb⟩;rw [K42.out];rw [R42.out] at hr;have aa:=((((HSP.out.put 1 (.int .u8 ck)).put 2 (.bool cp)).put 3 (.int .i64 ca)).put 4 (.int .i64 cb)).call hr hb (zaI R42.out);have ad:=Za aa;clear hr hb aa;obtain ⟨⟨x0,x1,x2,x3,x4⟩,y0,y1,y2,y3,y4,y5,xf,xz⟩:=St9.six ad.out;have z0:=xf 0;have z1:=xf 1;have z2:=xf 2;have z3:=xf 3;have z4:=xf 4;have z5:=xf 5;clear xf;obtain ⟨u0,u1,u2,u3,u4,u5,uf,uz⟩:=St9.res ad.out;have v0:=uf 0;have v1:=uf 1;have v2:=uf 2;have v3:=uf 3;have v4:=uf 4;have v5:=uf 5;clear uf)) | (((with_reducible refine (zbc g _ _ _ (af.out).rd (by have:=(af.out).sf.length_le;omega)).mono ?_);rintro e w1 ⟨rfl,hr,hb⟩;rw [K40.out];rw [R40.out] at hr;have aa:=(af.out).call hr hb (zaI R40.out);have HS:=Za aa;clear hr hb aa;obtain ⟨⟨x0,x1,x2,x3,x4⟩,y0,y1,y2,y3,y4,y5,xf,xz⟩:=St9.six HS.out;have z0:=xf 0;have z1:=xf 1;have z2:=xf 2;have z3:=xf 3;have z4:=xf 4;have z5:=xf 5;clear xf;obtain ⟨u0,u1,u2,u3,u4,u5,uf,uz⟩:=St9.res HS.out;have v0:=uf 0;have v1:=uf 1;have v2:=uf 2;have v3:=uf 3;have v4:=uf 4;have v5:=uf 5;clear uf))))
   | (go_at_call 189;(((with_reducible refine (zaQ g _ _ _ (HS.out).rd (HA.out.suf (HS.out).sf) (by have:=(HS.out).sf.length_le;omega)).mono ?_);rintro e w1 ⟨rfl,hr,hb⟩;rw [ap.out];rw [ak.out] at hr;have aa:=(HS.out).call hr hb (by rw [<-ak.out];exact zaR _);have ab:=Za aa;clear hr hb aa;obtain ⟨⟨x0,x1,x2,x3,x4⟩,y0,y1,y2,y3,y4,y5,xf,xz⟩:=St9.six ab.out;have z0:=xf 0;have z1:=xf 1;have z2:=xf 2;have z3:=xf 3;have z4:=xf 4;have z5:=xf 5;clear xf;obtain ⟨u0,u1,u2,u3,u4,u5,uf,uz⟩:=St9.res ab.out;have v0:=uf 0;have v1:=uf 1;have v2:=uf 2;have v3:=uf 3;have v4:=uf 4;have v5:=uf 5;clear uf)))
   | (go_at_call 188;((with_reducible refine (ao.out _ (HG.out.ext (Ext.but HE.out ab.out.bt hgg))).mono ?_);rintro e w5 ⟨v5,rfl,ae,ah⟩;rw [ag.out.2] at ae;rw [ag.out.1];obtain ⟨A5,c5,rfl,ac,aj⟩:=zaf ae;obtain ⟨b5,o5,rfl,aq,am⟩:=Sts.all ac (by simp);obtain ⟨m0,m1,m2,m3⟩:=am 0 (by simp);simp only [ZR,Nat.zero_mul,Nat.add_zero] at m0 m1 m2 m3;have HSP:=Za (ab.out.ext ah);clear ae ac aj am ah;obtain ⟨⟨x0,x1,x2,x3,x4⟩,y0,y1,y2,y3,y4,y5,xf,xz⟩:=St9.six HSP.out;have z0:=xf 0;have z1:=xf 1;have z2:=xf 2;have z3:=xf 3;have z4:=xf 4;have z5:=xf 5;clear xf;obtain ⟨u0,u1,u2,u3,u4,u5,uf,uz⟩:=St9.res HSP.out;have v0:=uf 0;have v1:=uf 1;have v2:=uf 2;have v3:=uf 3;have v4:=uf 4;have v5:=uf 5;clear uf)))
  have h9:=(ad.out).fin (.int .i64 1) (.int .u8 ck) (.bool cp) (.int .i64 ca) (.int .i64 cb) (.slice none 0 0)
  obtain ⟨k1,k2,k3,r0,r1,r2,r3,r4,r5⟩:=h9
  unfold sixW at k1 k2 k3 r0 r1 r2 r3 r4 r5
  exact bodyPost_ret (v := .agg #[.int .i64 1,.int .u8 ck,.bool cp,.int .i64 ca,.int .i64 cb,.slice none 0 0]) (by simp [results,Tryz.f174,go_sem,r0,r1,r2,r3,r4,r5]) rfl (TermR.yes HR.out k1 k2 k3 ay.out)
 | true =>
  have K42:=Za h42
  rw [h42,if_pos rfl] at hrd
  have az:X.length<=1000000:=by
   have h1:=zbt q2
   rw [hX,hY] at h1
   have h2:=congrArg List.length h1
   rw [Zb] at h2
   have h3:=(zey 42 q).length_le
   rw [hq2] at h3
   omega
  cases hat:atoiO X with
  | none =>
   have HR:=Za (show rdT atoiO (f+1) d s=none by rw [hrd,hat];rfl)
   have aA:=Za (fun (w':World) (hg':Glob w')=>zgt hat az w' hg')
   clear hrd h42 hq2 hX hY hat
   go_enter Tryz.func174,Tryz.ntmps174
   go_wp2_with (first
    | (go_at_call 175;(first | (((with_reducible refine (zcN g _ _ _ ((((HSP.out.put 1 (.int .u8 ck)).put 2 (.bool cp)).put 3 (.int .i64 ca)).put 4 (.int .i64 cb)).rd (by have:=((((HSP.out.put 1 (.int .u8 ck)).put 2 (.bool cp)).put 3 (.int .i64 ca)).put 4 (.int .i64 cb)).sf.length_le;omega)).mono ?_);rintro e w1 ⟨rfl,hr,hb⟩;rw [K42.out];rw [R42.out] at hr;have aa:=((((HSP.out.put 1 (.int .u8 ck)).put 2 (.bool cp)).put 3 (.int .i64 ca)).put 4 (.int .i64 cb)).call hr hb (zaI R42.out);have ad:=Za aa;clear hr hb aa;obtain ⟨⟨x0,x1,x2,x3,x4⟩,y0,y1,y2,y3,y4,y5,xf,xz⟩:=St9.six ad.out;have z0:=xf 0;have z1:=xf 1;have z2:=xf 2;have z3:=xf 3;have z4:=xf 4;have z5:=xf 5;clear xf;obtain ⟨u0,u1,u2,u3,u4,u5,uf,uz⟩:=St9.res ad.out;have v0:=uf 0;have v1:=uf 1;have v2:=uf 2;have v3:=uf 3;have v4:=uf 4;have v5:=uf 5;clear uf)) | (((with_reducible refine (zbc g _ _ _ (af.out).rd (by have:=(af.out).sf.length_le;omega)).mono ?_);rintro e w1 ⟨rfl,hr,hb⟩;rw [K40.out];rw [R40.out] at hr;have aa:=(af.out).call hr hb (zaI R40.out);have HS:=Za aa;clear hr hb aa;obtain ⟨⟨x0,x1,x2,x3,x4⟩,y0,y1,y2,y3,y4,y5,xf,xz⟩:=St9.six HS.out;have z0:=xf 0;have z1:=xf 1;have z2:=xf 2;have z3:=xf 3;have z4:=xf 4;have z5:=xf 5;clear xf;obtain ⟨u0,u1,u2,u3,u4,u5,uf,uz⟩:=St9.res HS.out;have v0:=uf 0;have v1:=uf 1;have v2:=uf 2;have v3:=uf 3;have v4:=uf 4;have v5:=uf 5;clear uf))))
    | (go_at_call 189;(first | (((with_reducible refine (zaQ g _ _ _ (ad.out).rd (HA.out.suf (ad.out).sf) (by have:=(ad.out).sf.length_le;omega)).mono ?_);rintro e w1 ⟨rfl,hr,hb⟩;rw [HX.out];rw [HY.out] at hr;have aa:=(ad.out).call hr hb (by rw [<-HY.out];exact zaR _);have al:=Za aa;clear hr hb aa;obtain ⟨⟨x0,x1,x2,x3,x4⟩,y0,y1,y2,y3,y4,y5,xf,xz⟩:=St9.six al.out;have z0:=xf 0;have z1:=xf 1;have z2:=xf 2;have z3:=xf 3;have z4:=xf 4;have z5:=xf 5;clear xf;obtain ⟨u0,u1,u2,u3,u4,u5,uf,uz⟩:=St9.res al.out;have v0:=uf 0;have v1:=uf 1;have v2:=uf 2;have v3:=uf 3;have v4:=uf 4;have v5:=uf 5;clear uf)) | (((with_reducible refine (zaQ g _ _ _ (HS.out).rd (HA.out.suf (HS.out).sf) (by have:=(HS.out).sf.length_le;omega)).mono ?_);rintro e w1 ⟨rfl,hr,hb⟩;rw [ap.out];rw [ak.out] at hr;have aa:=(HS.out).call hr hb (by rw [<-ak.out];exact zaR _);have ab:=Za aa;clear hr hb aa;obtain ⟨⟨x0,x1,x2,x3,x4⟩,y0,y1,y2,y3,y4,y5,xf,xz⟩:=St9.six ab.out;have z0:=xf 0;have z1:=xf 1;have z2:=xf 2;have z3:=xf 3;have z4:=xf 4;have z5:=xf 5;clear xf;obtain ⟨u0,u1,u2,u3,u4,u5,uf,uz⟩:=St9.res ab.out;have v0:=uf 0;have v1:=uf 1;have v2:=uf 2;have v3:=uf 3;have v4:=uf 4;have v5:=uf 5;clear uf))))
    | (go_at_call 114;((with_reducible refine (aA.out _ (HG.out.ext (Ext.but HE.out al.out.bt hgg))).mono ?_);rintro e w1 ⟨v9,te,pe,rfl,ax⟩;have ai:=Za (al.out.ext ax);obtain ⟨⟨x0,x1,x2,x3,x4⟩,y0,y1,y2,y3,y4,y5,xf,xz⟩:=St9.six ai.out;have z0:=xf 0;have z1:=xf 1;have z2:=xf 2;have z3:=xf 3;have z4:=xf 4;have z5:=xf 5;clear xf;obtain ⟨u0,u1,u2,u3,u4,u5,uf,uz⟩:=St9.res ai.out;have v0:=uf 0;have v1:=uf 1;have v2:=uf 2;have v3:=uf 3;have v4:=uf 4;have v5:=uf 5;clear uf))
    | (go_at_call 188;((with_reducible refine (ao.out _ (HG.out.ext (Ext.but HE.out ab.out.bt hgg))).mono ?_);rintro e w5 ⟨v5,rfl,ae,ah⟩;rw [ag.out.2] at ae;rw [ag.out.1];obtain ⟨A5,c5,rfl,ac,aj⟩:=zaf ae;obtain ⟨b5,o5,rfl,aq,am⟩:=Sts.all ac (by simp);obtain ⟨m0,m1,m2,m3⟩:=am 0 (by simp);simp only [ZR,Nat.zero_mul,Nat.add_zero] at m0 m1 m2 m3;have HSP:=Za (ab.out.ext ah);clear ae ac aj am ah;obtain ⟨⟨x0,x1,x2,x3,x4⟩,y0,y1,y2,y3,y4,y5,xf,xz⟩:=St9.six HSP.out;have z0:=xf 0;have z1:=xf 1;have z2:=xf 2;have z3:=xf 3;have z4:=xf 4;have z5:=xf 5;clear xf;obtain ⟨u0,u1,u2,u3,u4,u5,uf,uz⟩:=St9.res HSP.out;have v0:=uf 0;have v1:=uf 1;have v2:=uf 2;have v3:=uf 3;have v4:=uf 4;have v5:=uf 5;clear uf)))
   exact ⟨rfl,TermR.no HR.out ai.out.bt⟩
  | some nn =>
   have HR:=Za (show rdT atoiO (f+1) d s=some ((nn,⟨ck,cp,ca,cb⟩,.nil),Y) by rw [hrd,hat];rfl)
   have aB:=Za (fun (w':World)=>zep hat az w')
   clear hrd h42 hq2 hX hY hat
   go_enter Tryz.func174,Tryz.ntmps174
   go_wp2_with (first
    | (go_at_call 175;(first | (((with_reducible refine (zcN g _ _ _ ((((HSP.out.put 1 (.int .u8 ck)).put 2 (.bool cp)).put 3 (.int .i64 ca)).put 4 (.int .i64 cb)).rd (by have:=((((HSP.out.put 1 (.int .u8 ck)).put 2 (.bool cp)).put 3 (.int .i64 ca)).put 4 (.int .i64 cb)).sf.length_le;omega)).mono ?_);rintro e w1 ⟨rfl,hr,hb⟩;rw [K42.out];rw [R42.out] at hr;have aa:=((((HSP.out.put 1 (.int .u8 ck)).put 2 (.bool cp)).put 3 (.int .i64 ca)).put 4 (.int .i64 cb)).call hr hb (zaI R42.out);have ad:=Za aa;clear hr hb aa;obtain ⟨⟨x0,x1,x2,x3,x4⟩,y0,y1,y2,y3,y4,y5,xf,xz⟩:=St9.six ad.out;have z0:=xf 0;have z1:=xf 1;have z2:=xf 2;have z3:=xf 3;have z4:=xf 4;have z5:=xf 5;clear xf;obtain ⟨u0,u1,u2,u3,u4,u5,uf,uz⟩:=St9.res ad.out;have v0:=uf 0;have v1:=uf 1;have v2:=uf 2;have v3:=uf 3;have v4:=uf 4;have v5:=uf 5;clear uf)) | (((with_reducible refine (zbc g _ _ _ (af.out).rd (by have:=(af.out).sf.length_le;omega)).mono ?_);rintro e w1 ⟨rfl,hr,hb⟩;rw [K40.out];rw [R40.out] at hr;have aa:=(af.out).call hr hb (zaI R40.out);have HS:=Za aa;clear hr hb aa;obtain ⟨⟨x0,x1,x2,x3,x4⟩,y0,y1,y2,y3,y4,y5,xf,xz⟩:=St9.six HS.out;have z0:=xf 0;have z1:=xf 1;have z2:=xf 2;have z3:=xf 3;have z4:=xf 4;have z5:=xf 5;clear xf;obtain ⟨u0,u1,u2,u3,u4,u5,uf,uz⟩:=St9.res HS.out;have v0:=uf 0;have v1:=uf 1;have v2:=uf 2;have v3:=uf 3;have v4:=uf 4;have v5:=uf 5;clear uf))))
    | (go_at_call 189;(first | (((with_reducible refine (zaQ g _ _ _ (ad.out).rd (HA.out.suf (ad.out).sf) (by have:=(ad.out).sf.length_le;omega)).mono ?_);rintro e w1 ⟨rfl,hr,hb⟩;rw [HX.out];rw [HY.out] at hr;have aa:=(ad.out).call hr hb (by rw [<-HY.out];exact zaR _);have al:=Za aa;clear hr hb aa;obtain ⟨⟨x0,x1,x2,x3,x4⟩,y0,y1,y2,y3,y4,y5,xf,xz⟩:=St9.six al.out;have z0:=xf 0;have z1:=xf 1;have z2:=xf 2;have z3:=xf 3;have z4:=xf 4;have z5:=xf 5;clear xf;obtain ⟨u0,u1,u2,u3,u4,u5,uf,uz⟩:=St9.res al.out;have v0:=uf 0;have v1:=uf 1;have v2:=uf 2;have v3:=uf 3;have v4:=uf 4;have v5:=uf 5;clear uf)) | (((with_reducible refine (zaQ g _ _ _ (HS.out).rd (HA.out.suf (HS.out).sf) (by have:=(HS.out).sf.length_le;omega)).mono ?_);rintro e w1 ⟨rfl,hr,hb⟩;rw [ap.out];rw [ak.out] at hr;have aa:=(HS.out).call hr hb (by rw [<-ak.out];exact zaR _);have ab:=Za aa;clear hr hb aa;obtain ⟨⟨x0,x1,x2,x3,x4⟩,y0,y1,y2,y3,y4,y5,xf,xz⟩:=St9.six ab.out;have z0:=xf 0;have z1:=xf 1;have z2:=xf 2;have z3:=xf 3;have z4:=xf 4;have z5:=xf 5;clear xf;obtain ⟨u0,u1,u2,u3,u4,u5,uf,uz⟩:=St9.res ab.out;have v0:=uf 0;have v1:=uf 1;have v2:=uf 2;have v3:=uf 3;have v4:=uf 4;have v5:=uf 5;clear uf))))
    | (go_at_call 114;((with_reducible refine (aB.out _).mono ?_);rintro e w1 ⟨rfl,ax⟩;have ai:=Za (al.out.ext ax);obtain ⟨⟨x0,x1,x2,x3,x4⟩,y0,y1,y2,y3,y4,y5,xf,xz⟩:=St9.six ai.out;have z0:=xf 0;have z1:=xf 1;have z2:=xf 2;have z3:=xf 3;have z4:=xf 4;have z5:=xf 5;clear xf;obtain ⟨u0,u1,u2,u3,u4,u5,uf,uz⟩:=St9.res ai.out;have v0:=uf 0;have v1:=uf 1;have v2:=uf 2;have v3:=uf 3;have v4:=uf 4;have v5:=uf 5;clear uf))
    | (go_at_call 188;((with_reducible refine (ao.out _ (HG.out.ext (Ext.but HE.out ab.out.bt hgg))).mono ?_);rintro e w5 ⟨v5,rfl,ae,ah⟩;rw [ag.out.2] at ae;rw [ag.out.1];obtain ⟨A5,c5,rfl,ac,aj⟩:=zaf ae;obtain ⟨b5,o5,rfl,aq,am⟩:=Sts.all ac (by simp);obtain ⟨m0,m1,m2,m3⟩:=am 0 (by simp);simp only [ZR,Nat.zero_mul,Nat.add_zero] at m0 m1 m2 m3;have HSP:=Za (ab.out.ext ah);clear ae ac aj am ah;obtain ⟨⟨x0,x1,x2,x3,x4⟩,y0,y1,y2,y3,y4,y5,xf,xz⟩:=St9.six HSP.out;have z0:=xf 0;have z1:=xf 1;have z2:=xf 2;have z3:=xf 3;have z4:=xf 4;have z5:=xf 5;clear xf;obtain ⟨u0,u1,u2,u3,u4,u5,uf,uz⟩:=St9.res HSP.out;have v0:=uf 0;have v1:=uf 1;have v2:=uf 2;have v3:=uf 3;have v4:=uf 4;have v5:=uf 5;clear uf)))
   have h9:=(ai.out.put 0 (.int .i64 nn)).fin (.int .i64 nn) (.int .u8 ck) (.bool cp) (.int .i64 ca) (.int .i64 cb) (.slice none 0 0)
   obtain ⟨k1,k2,k3,r0,r1,r2,r3,r4,r5⟩:=h9
   unfold sixW at k1 k2 k3 r0 r1 r2 r3 r4 r5
   exact bodyPost_ret (v := .agg #[.int .i64 nn,.int .u8 ck,.bool cp,.int .i64 ca,.int .i64 cb,.slice none 0 0]) (by simp [results,Tryz.f174,go_sem,r0,r1,r2,r3,r4,r5]) rfl (TermR.yes HR.out k1 k2 k3 ay.out)
end Go.Proofs.YtkneghkbgingdaaGreatDoor
