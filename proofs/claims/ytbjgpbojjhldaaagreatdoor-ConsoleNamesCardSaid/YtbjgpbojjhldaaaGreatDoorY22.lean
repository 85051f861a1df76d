/- The reader of terms: term. -/
import Derived.Test.YtbjgpbojjhldaaaGreatDoorY21
namespace Go.Proofs.YtbjgpbojjhldaaaGreatDoor
set_option maxHeartbeats 16000000
set_option maxRecDepth 100000
open Go.RowKit Go.ChangeShapes Go.WideShapes Go.Joins
theorem za5 (g:Nat) (s:List UInt8) (d:Int) (w:World) (h:RdAt w g s d) (hl:s.length<=100000) :
  Calls Tryz.prog 221 #[.pointer (some ⟨g,0,none⟩),.int .u8 40] w (TakeR g 40 s d w):=zc7 40 40 (by rfl) g s d w h hl
theorem zeU (g:Nat) (s:List UInt8) (d:Int) (w:World) (h:RdAt w g s d) (hl:s.length<=100000) :
  Calls Tryz.prog 221 #[.pointer (some ⟨g,0,none⟩),.int .u8 41] w (TakeR g 41 s d w):=zc7 41 41 (by rfl) g s d w h hl
theorem zcE (g:Nat) (s:List UInt8) (d:Int) (w:World) (h:RdAt w g s d) (hl:s.length<=100000) :
  Calls Tryz.prog 221 #[.pointer (some ⟨g,0,none⟩),.int .u8 42] w (TakeR g 42 s d w):=zc7 42 42 (by rfl) g s d w h hl
theorem zg4 (g:Nat) (s:List UInt8) (d:Int) (w:World) (h:RdAt w g s d) (hl:s.length<=100000) :
  Calls Tryz.prog 221 #[.pointer (some ⟨g,0,none⟩),.int .u8 32] w (TakeR g 32 s d w):=zc7 32 32 (by rfl) g s d w h hl
theorem ziH {s:List UInt8} {c:St} (h:parseL s=some [c]):0<=c.k/\c.k<=255:=by
 obtain ⟨_,h1,_⟩:=zch.1 h
 have h2:=(zaZ h1).2.1
 have h3:okSt c=true:=by simpa [allB] using h2
 have h4:=zaq (zhG h3).1
 omega
theorem zay {x:UInt8} {s r:List UInt8} (h:hitR x s=r):r <:+ s:=by rw [<-h];exact zeH x s
theorem zhv {x:UInt8} {s:List UInt8} (h:hitB x s=false):hitR x s=s:=by
 cases s with
 | nil=>rfl
 | cons y r =>
  have h1:(y==x)=false:=h
  rw [hitR,h1]
  rfl
def PanE (g:Nat):Ending := .panicked [{ v := .iface 252 (.pointer (some ⟨g,0,none⟩)),recovered:=false }]
def TermR (g d:Nat) (R:Option ((Int×St×Tms)×List UInt8)) (w:World) (e:Ending) (w':World):Prop :=
 But (some g) w w'/\(R=none->e=PanE g)/\∀n c t r,R=some ((n,c,t),r)->∃(A:Option Addr) (cap:Nat),e = .returned (.agg #[.int .i64 n,.int .u8 c.k,.bool c.p,.int .i64 c.a,.int .i64 c.b,.slice A t.cnt cap])/\RdAt w' g r d/\TvK w' (fun b=>w.heap.size<=b) A t.cnt t/\(0<=c.k/\c.k<=255)
theorem TermR.no {g d:Nat} {R:Option ((Int×St×Tms)×List UInt8)} {w w':World} (h:R=none) (hb:But (some g) w w'):TermR g d R w (PanE g) w':=⟨hb,fun _=>rfl,fun n c t r e=>by rw [h] at e;cases e⟩
theorem TermR.yes {g d:Nat} {R:Option ((Int×St×Tms)×List UInt8)} {n:Int} {c:St} {t:Tms} {r:List UInt8} {w w':World} {A:Option Addr} {cap:Nat} (h:R=some ((n,c,t),r)) (hb:But (some g) w w') (h1:RdAt w' g r d) (h2:TvK w' (fun b=>w.heap.size<=b) A t.cnt t) (h3:0<=c.k/\c.k<=255) :
  TermR g d R w (.returned (.agg #[.int .i64 n,.int .u8 c.k,.bool c.p,.int .i64 c.a,.int .i64 c.b,.slice A t.cnt cap])) w' :=
 ⟨hb,fun e=>(by rw [h] at e;cases e),fun n' c' t' r' e=>by rw [h] at e;cases e;exact ⟨A,cap,rfl,h1,h2,h3⟩⟩
def ListRd (g d:Nat) (R:Option (Tms×List UInt8)) (w:World) (e:Ending) (w':World):Prop :=
 But (some g) w w'/\(R=none->e=PanE g)/\∀t r,R=some (t,r)->∃v,e = .returned v/\RdAt w' g r d/\OwnT w' w.heap.size 140 v t.cnt t
theorem Ext.but {WG w w':World} {g:Nat} (h:Ext WG w) (hb:But (some g) w w') (hg:WG.heap.size<=g):Ext WG w':=Below.trans h (hb.below (Zt h) (fun k e=>by cases e;exact hg))
abbrev zsT:Array Value:=#[.int .i64 0,.int .u8 0,.bool false,.int .i64 0,.int .i64 0,.slice none 0 0]
structure St9 (S0:List UInt8) (W0:World) (g:Nat) (s:List UInt8) (d:Int) (cs:Array Value) (A:Option Addr) (t:Tms) (w:World):Prop where
 lt:g<W0.heap.size
 rd:RdAt w g s d
 rx:w.heap[W0.heap.size]?=some (.cells zsT 140 (0,0))
 bx:w.heap[W0.heap.size+1]?=some (.cells cs 140 (0,0))
 bt:But (some g) W0 w
 sf:s <:+ S0
 tv:TvK w (fun b=>W0.heap.size+2<=b) A t.cnt t
section
variable {S0:List UInt8} {W0 w w':World} {g:Nat} {s s':List UInt8} {d d':Int} {cs:Array Value} {A:Option Addr} {t:Tms}
theorem St9.ext (h:St9 S0 W0 g s d cs A t w) (hb:Ext w w'):St9 S0 W0 g s d cs A t w' :=
 ⟨h.lt,h.rd.ext hb,by rw [hb.block _ (Zh.1 h.rx).1];exact h.rx,by rw [hb.block _ (Zh.1 h.bx).1];exact h.bx,h.bt.trans (But.of_ext hb _),h.sf,h.tv.ext hb⟩
theorem St9.call (h:St9 S0 W0 g s d cs A t w) (hr:RdAt w' g s' d') (hb:But (some g) w w') (hs:s' <:+ s):St9 S0 W0 g s' d' cs A t w':=by
 have hl:=h.lt
 refine ⟨hl,hr,?_,?_,h.bt.trans hb,hs.trans h.sf,h.tv.but hb fun b _ hk=>⟨hk,?_⟩⟩
 ·rw [hb.block _ (Zh.1 h.rx).1 (by intro e;simp at e <;> omega)];exact h.rx
 ·rw [hb.block _ (Zh.1 h.bx).1 (by intro e;simp at e <;> omega)];exact h.bx
 ·have hk2:W0.heap.size+2<=b:=hk
  intro e
  simp at e <;> omega
theorem St9.deep (h:St9 S0 W0 g s d cs A t w) (e:Int):St9 S0 W0 g s e cs A t (w.setCell ⟨g,1,none⟩ (.int .i64 e)) :=
 h.call (h.rd.set1 e) ((But.refl _ _).own rfl _) (List.suffix_refl _)
theorem St9.put (h:St9 S0 W0 g s d cs A t w) (i:Nat) (v:Value):St9 S0 W0 g s d (cs.setIfInBounds i v) A t (w.setCell ⟨W0.heap.size+1,i,none⟩ v):=by
 have hl:=h.lt
 refine ⟨hl,?_,?_,heap_setCell_same w _ i cs _ v h.bx,h.bt.setCell (by simp) v,h.sf,h.tv.keep (by simp [World.setCell]) fun b _ hk=>⟨hk,fun o=>Zg _ _ _ _ ?_⟩⟩
 ·unfold RdAt;rw [Below.heap_setCell _ _ _ _ (by simp;omega)];exact h.rd
 ·rw [Below.heap_setCell _ _ _ _ (by simp)];exact h.rx
 ·have hk2:W0.heap.size+2<=b:=hk
  intro e
  simp at e <;> omega
theorem St9.six {v0 v1 v2 v3 v4 v5:Value} (h:St9 S0 W0 g s d #[v0,v1,v2,v3,v4,v5] A t w):(w.cell? ⟨g,0,none⟩=some (.string ⟨s.toArray⟩)/\w.cell? ⟨g,1,none⟩=some (.int .i64 d)/\w.frozen? ⟨g,0,none⟩=false/\w.frozen? ⟨g,1,none⟩=false/\g<w.heap.size) /\
  w.cell? ⟨W0.heap.size+1,0,none⟩=some v0/\w.cell? ⟨W0.heap.size+1,1,none⟩=some v1/\w.cell? ⟨W0.heap.size+1,2,none⟩=some v2/\w.cell? ⟨W0.heap.size+1,3,none⟩=some v3/\w.cell? ⟨W0.heap.size+1,4,none⟩=some v4/\w.cell? ⟨W0.heap.size+1,5,none⟩=some v5/\(∀j,w.frozen? ⟨W0.heap.size+1,j,none⟩=false)/\W0.heap.size+1<w.heap.size :=
 ⟨h.rd.facts,(cell_of_row w _ 0 _ _ (0,0) h.bx).trans rfl,(cell_of_row w _ 1 _ _ (0,0) h.bx).trans rfl,(cell_of_row w _ 2 _ _ (0,0) h.bx).trans rfl,(cell_of_row w _ 3 _ _ (0,0) h.bx).trans rfl,(cell_of_row w _ 4 _ _ (0,0) h.bx).trans rfl,(cell_of_row w _ 5 _ _ (0,0) h.bx).trans rfl,fun j=>frozen_of_row w _ j _ _ h.bx,(Zh.1 h.bx).1⟩
theorem St9.res (h:St9 S0 W0 g s d cs A t w):w.cell? ⟨W0.heap.size,0,none⟩=some (.int .i64 0)/\w.cell? ⟨W0.heap.size,1,none⟩=some (.int .u8 0)/\w.cell? ⟨W0.heap.size,2,none⟩=some (.bool false)/\w.cell? ⟨W0.heap.size,3,none⟩=some (.int .i64 0)/\w.cell? ⟨W0.heap.size,4,none⟩=some (.int .i64 0)/\w.cell? ⟨W0.heap.size,5,none⟩=some (.slice none 0 0)/\(∀j,w.frozen? ⟨W0.heap.size,j,none⟩=false)/\W0.heap.size<w.heap.size :=
 ⟨(cell_of_row w _ 0 _ _ (0,0) h.rx).trans rfl,(cell_of_row w _ 1 _ _ (0,0) h.rx).trans rfl,(cell_of_row w _ 2 _ _ (0,0) h.rx).trans rfl,(cell_of_row w _ 3 _ _ (0,0) h.rx).trans rfl,(cell_of_row w _ 4 _ _ (0,0) h.rx).trans rfl,(cell_of_row w _ 5 _ _ (0,0) h.rx).trans rfl,fun j=>frozen_of_row w _ j _ _ h.rx,(Zh.1 h.rx).1⟩
theorem St9.grp {t':Tms} {A':Option Addr} (h:St9 S0 W0 g s d cs A t w) (hk:TvK w (fun b=>W0.heap.size+2<=b) A' t'.cnt t'):St9 S0 W0 g s d cs A' t' w:={ h with tv:=hk }
theorem St9.start (h:RdAt W0 g S0 d) (cs:Array Value):St9 S0 W0 g S0 d cs none .nil ((W0.alloc (.cells zsT 140)).alloc (.cells cs 140)):=by
 have e1:((W0.alloc (.cells zsT 140)).alloc (.cells cs 140)).heap[W0.heap.size]?=(W0.alloc (.cells zsT 140)).heap[W0.heap.size]?:=((Ze _).alloc _).block _ (by simp)
 refine ⟨h.lt,h.ext (ZD (ZD (Ze _) _) _),e1.trans (heap_alloc_new _ _),?_,But.of_ext (ZD (ZD (Ze _) _) _) _,List.suffix_refl _,TvK.none_ _ _ _⟩
 have:=heap_alloc_new (W0.alloc (.cells zsT 140)) (.cells cs 140)
 simpa using this
def sixW (w:World) (g1:Nat) (v0 v1 v2 v3 v4 v5:Value):World:=(((((w.setCell ⟨g1,0,none⟩ v0).setCell ⟨g1,1,none⟩ v1).setCell ⟨g1,2,none⟩ v2).setCell ⟨g1,3,none⟩ v3).setCell ⟨g1,4,none⟩ v4).setCell ⟨g1,5,none⟩ v5
theorem St9.fin (h:St9 S0 W0 g s d cs A t w) (v0 v1 v2 v3 v4 v5:Value):But (some g) W0 (sixW w W0.heap.size v0 v1 v2 v3 v4 v5)/\RdAt (sixW w W0.heap.size v0 v1 v2 v3 v4 v5) g s d/\TvK (sixW w W0.heap.size v0 v1 v2 v3 v4 v5) (fun b=>W0.heap.size<=b) A t.cnt t /\
  (sixW w W0.heap.size v0 v1 v2 v3 v4 v5).cell? ⟨W0.heap.size,0,none⟩=some v0/\(sixW w W0.heap.size v0 v1 v2 v3 v4 v5).cell? ⟨W0.heap.size,1,none⟩=some v1/\(sixW w W0.heap.size v0 v1 v2 v3 v4 v5).cell? ⟨W0.heap.size,2,none⟩=some v2/\(sixW w W0.heap.size v0 v1 v2 v3 v4 v5).cell? ⟨W0.heap.size,3,none⟩=some v3/\(sixW w W0.heap.size v0 v1 v2 v3 v4 v5).cell? ⟨W0.heap.size,4,none⟩=some v4/\(sixW w W0.heap.size v0 v1 v2 v3 v4 v5).cell? ⟨W0.heap.size,5,none⟩=some v5:=by
 have hl:=h.lt
 have hB:But (some W0.heap.size) w (sixW w W0.heap.size v0 v1 v2 v3 v4 v5):=by
  unfold sixW
  exact ((((((But.refl _ _).own (p:=⟨W0.heap.size,0,none⟩) rfl _).own (p:=⟨W0.heap.size,1,none⟩) rfl _).own (p:=⟨W0.heap.size,2,none⟩) rfl _).own (p:=⟨W0.heap.size,3,none⟩) rfl _).own (p:=⟨W0.heap.size,4,none⟩) rfl _).own (p:=⟨W0.heap.size,5,none⟩) rfl _
 have hT:But (some g) W0 (sixW w W0.heap.size v0 v1 v2 v3 v4 v5):=by
  unfold sixW
  exact (((((h.bt.setCell (p:=⟨W0.heap.size,0,none⟩) (Zb _) _).setCell (p:=⟨W0.heap.size,1,none⟩) (Zb _) _).setCell (p:=⟨W0.heap.size,2,none⟩) (Zb _) _).setCell (p:=⟨W0.heap.size,3,none⟩) (Zb _) _).setCell (p:=⟨W0.heap.size,4,none⟩) (Zb _) _).setCell (p:=⟨W0.heap.size,5,none⟩) (Zb _) _
 have hH:(sixW w W0.heap.size v0 v1 v2 v3 v4 v5).heap[W0.heap.size]?=some (.cells #[v0,v1,v2,v3,v4,v5] 140 (0,0)):=by
  have h0:=heap_setCell_same w W0.heap.size 0 _ _ v0 h.rx
  have h1:=heap_setCell_same _ W0.heap.size 1 _ _ v1 h0
  have h2:=heap_setCell_same _ W0.heap.size 2 _ _ v2 h1
  have h3:=heap_setCell_same _ W0.heap.size 3 _ _ v3 h2
  have h4:=heap_setCell_same _ W0.heap.size 4 _ _ v4 h3
  exact heap_setCell_same _ W0.heap.size 5 _ _ v5 h4
 generalize sixW w W0.heap.size v0 v1 v2 v3 v4 v5=W9 at *
 refine ⟨hT,?_,?_,(cell_of_row _ _ 0 _ _ (0,0) hH).trans rfl,(cell_of_row _ _ 1 _ _ (0,0) hH).trans rfl,(cell_of_row _ _ 2 _ _ (0,0) hH).trans rfl,(cell_of_row _ _ 3 _ _ (0,0) hH).trans rfl,(cell_of_row _ _ 4 _ _ (0,0) hH).trans rfl,(cell_of_row _ _ 5 _ _ (0,0) hH).trans rfl⟩
 ·unfold RdAt
  rw [hB.block g h.rd.lt (by intro e;simp at e <;> omega)]
  exact h.rd
 ·refine h.tv.but hB fun b _ hk=>?_
  have hk2:W0.heap.size+2<=b:=hk
  exact ⟨by omega,by intro e;simp at e <;> omega⟩
end
theorem znO (f g d:Nat) (s1:List UInt8) (WG w:World) (hgl:Glob WG) (hex:Ext WG w) (hgg:WG.heap.size<=g) (h:RdAt w g (40::s1) d) (hd:d<=20) (hl:((40::s1)).length<=10000) (ha:Asc ((40::s1)))
  (HL:∀(d':Nat) (s':List UInt8) (w':World) (di:Int),di=(d':Int)->Ext WG w'->RdAt w' g s' di->d'<=20->Asc s'->s'.length<=10000->2*s'.length+2<=f->Calls Tryz.prog 184 #[.pointer (some ⟨g,0,none⟩)] w' (ListRd g d' (rdL atoiO f d' s') w')) (hf:2*((40::s1)).length+1<=f+1) :
  Calls Tryz.prog 220 #[.pointer (some ⟨g,0,none⟩)] w (TermR g d (rdT atoiO (f+1) d ((40::s1))) w):=by
 have az:=Za HL
 have i1:=Zj ((d:Int)+1) (by omega)
 have i2:=Zj ((d:Int)+1-1) (by omega)
 have i3:(d:Int)+1-1=(d:Int):=by omega
 have hz:=h.lt
 have ad:=Za (St9.start h #[.int .i64 1,.int .u8 0,.bool false,.int .i64 0,.int .i64 0,.slice none 0 0])
 have HA:=Za ha
 have HG:=Za hgl
 have HE:=Za hex
 have hl1:s1.length+1<=10000:=by simpa using hl
 have hf1:2*(s1.length+1)+1<=f+1:=by simpa using hf
 have HLN:(40::s1).length<=10000:=hl
 have K40:=Za (show hitB 40 (40::s1)=true from rfl)
 have R40:=Za (show hitR 40 (40::s1)=s1 from rfl)
 clear h ha HL hgl hex hl hf
 by_cases h8:8<d+1
 ·have HR:=Za (show rdT atoiO (f+1) d (40::s1)=none by rw [zkH,if_pos h8])
  have aB:(8:Int)<(d:Int)+1:=by omega
  go_enter Tryz.func220,Tryz.ntmps220
  go_wp2_with (first
   | (go_at_call 221;(((with_reducible refine (za5 g _ _ _ (ad.out).rd (by have:=(ad.out).sf.length_le;omega)).mono ?_);rintro e w1 ⟨rfl,hr,hb⟩;rw [K40.out];rw [R40.out] at hr;have aa:=(ad.out).call hr hb (zay R40.out);have HS:=Za aa;clear hr hb aa;obtain ⟨⟨x0,x1,x2,x3,x4⟩,y0,y1,y2,y3,y4,y5,xf,xz⟩:=St9.six HS.out;have z0:=xf 0;have z1:=xf 1;have z2:=xf 2;have z3:=xf 3;have z4:=xf 4;have z5:=xf 5;clear xf;obtain ⟨u0,u1,u2,u3,u4,u5,uf,uz⟩:=St9.res HS.out;have v0:=uf 0;have v1:=uf 1;have v2:=uf 2;have v3:=uf 3;have v4:=uf 4;have v5:=uf 5;clear uf))))
  exact ⟨rfl,TermR.no HR.out (HS.out.deep _).bt⟩
 have aB:¬((8:Int)<(d:Int)+1):=by omega
 have ae:=zkH atoiO f d s1
 rw [if_neg h8] at ae
 have aq:=Za (fun (w':World) (di:Int) (e:di=((d+1:Nat):Int)) (hx:Ext WG w') (hr:RdAt w' g s1 di)=>az.out (d+1) s1 w' di e hx hr (by omega) (HA.out.suf (List.suffix_cons _ _)) (by omega) (by omega))
 have ap:=(zkK atoiO f).2 (d+1) s1
 cases hq:rdL atoiO f (d+1) s1 with
 | none =>
  have HR:=Za (show rdT atoiO (f+1) d (40::s1)=none by rw [ae,hq];rfl)
  have HQ:=Za hq
  clear ae hq ap
  go_enter Tryz.func220,Tryz.ntmps220
  go_wp2_with (first
   | (go_at_call 221;(((with_reducible refine (za5 g _ _ _ (ad.out).rd (by have:=(ad.out).sf.length_le;omega)).mono ?_);rintro e w1 ⟨rfl,hr,hb⟩;rw [K40.out];rw [R40.out] at hr;have aa:=(ad.out).call hr hb (zay R40.out);have HS:=Za aa;clear hr hb aa;obtain ⟨⟨x0,x1,x2,x3,x4⟩,y0,y1,y2,y3,y4,y5,xf,xz⟩:=St9.six HS.out;have z0:=xf 0;have z1:=xf 1;have z2:=xf 2;have z3:=xf 3;have z4:=xf 4;have z5:=xf 5;clear xf;obtain ⟨u0,u1,u2,u3,u4,u5,uf,uz⟩:=St9.res HS.out;have v0:=uf 0;have v1:=uf 1;have v2:=uf 2;have v3:=uf 3;have v4:=uf 4;have v5:=uf 5;clear uf)))
   | (go_at_call 184;((with_reducible refine (aq.out _ _ (by omega) (Ext.but HE.out (HS.out.deep _).bt hgg) (HS.out.deep _).rd).mono ?_);rintro e w2 ⟨ag,au, -⟩;have h9:=au HQ.out;unfold PanE at h9;subst h9;have ay:=Za ((HS.out.deep ((d:Int)+1)).bt.trans ag);clear ag au)))
  exact ⟨rfl,TermR.no HR.out ay.out⟩
 | some x =>
  obtain ⟨t,r⟩:=x
  obtain ⟨av,aA⟩:=ap _ hq
  simp only at av aA
  have al:=Za av
  have aC:t.cnt<=1000000:=by omega
  have HQ:=Za hq
  rw [hq,ZV] at ae
  simp only at ae
  have am:=Za (fun (w':World) (di:Int) (e:di=((d+1:Nat):Int)) (hx:Ext WG w') (hr:RdAt w' g s1 di)=>(show Calls Tryz.prog 184 #[.pointer (some ⟨g,0,none⟩)] w' (fun e w''=>∃A c,e = .returned (.slice A t.cnt c)/\RdAt w'' g r di/\But (some g) w' w''/\TvK w'' (fun b=>w'.heap.size<=b) A t.cnt t) from by
   refine (aq.out w' di e hx hr).mono ?_
   rintro e9 w2 ⟨ag, -,aE⟩
   obtain ⟨v,rfl,ai,aD⟩:=aE t r HQ.out
   obtain ⟨A2,c2,rfl,ah⟩:=zcB aD aC
   exact ⟨A2,c2,rfl,by subst e;exact ai,ag,ah⟩))
  clear hq ap
  obtain ⟨q,hq'⟩:∃q,hitR 41 r=q:=⟨_,rfl⟩
  have R41:=Za hq'
  cases h41:hitB 41 r with
  | false =>
   have HR:=Za (show rdT atoiO (f+1) d (40::s1)=none by rw [ae,h41];rfl)
   have K41:=Za h41
   clear ae h41 hq'
   go_enter Tryz.func220,Tryz.ntmps220
   go_wp2_with (first
    | (go_at_call 221;(first | (((with_reducible refine (zeU g _ _ _ (ab.out.put 5 (.slice A2 t.cnt c2)).rd (by have:=(ab.out.put 5 (.slice A2 t.cnt c2)).sf.length_le;omega)).mono ?_);rintro e w1 ⟨rfl,hr,hb⟩;rw [K41.out];rw [R41.out] at hr;have aa:=(ab.out.put 5 (.slice A2 t.cnt c2)).call hr hb (zay R41.out);have ac:=Za aa;clear hr hb aa;obtain ⟨⟨x0,x1,x2,x3,x4⟩,y0,y1,y2,y3,y4,y5,xf,xz⟩:=St9.six ac.out;have z0:=xf 0;have z1:=xf 1;have z2:=xf 2;have z3:=xf 3;have z4:=xf 4;have z5:=xf 5;clear xf;obtain ⟨u0,u1,u2,u3,u4,u5,uf,uz⟩:=St9.res ac.out;have v0:=uf 0;have v1:=uf 1;have v2:=uf 2;have v3:=uf 3;have v4:=uf 4;have v5:=uf 5;clear uf)) | (((with_reducible refine (za5 g _ _ _ (ad.out).rd (by have:=(ad.out).sf.length_le;omega)).mono ?_);rintro e w1 ⟨rfl,hr,hb⟩;rw [K40.out];rw [R40.out] at hr;have aa:=(ad.out).call hr hb (zay R40.out);have HS:=Za aa;clear hr hb aa;obtain ⟨⟨x0,x1,x2,x3,x4⟩,y0,y1,y2,y3,y4,y5,xf,xz⟩:=St9.six HS.out;have z0:=xf 0;have z1:=xf 1;have z2:=xf 2;have z3:=xf 3;have z4:=xf 4;have z5:=xf 5;clear xf;obtain ⟨u0,u1,u2,u3,u4,u5,uf,uz⟩:=St9.res HS.out;have v0:=uf 0;have v1:=uf 1;have v2:=uf 2;have v3:=uf 3;have v4:=uf 4;have v5:=uf 5;clear uf))))
    | (go_at_call 184;((with_reducible refine (am.out _ _ (by omega) (Ext.but HE.out (HS.out.deep _).bt hgg) (HS.out.deep _).rd).mono ?_);rintro e w2 ⟨A2,c2,rfl,ai,ag,ah⟩;have aa:=((HS.out.deep ((d:Int)+1)).call ai ag al.out).grp (ah.mono fun b _ hb=>(by have h8:=(Zh.1 (HS.out.deep ((d:Int)+1)).bx).1;omega));have ab:=Za aa;clear ai ag ah aa;obtain ⟨⟨x0,x1,x2,x3,x4⟩,y0,y1,y2,y3,y4,y5,xf,xz⟩:=St9.six ab.out;have z0:=xf 0;have z1:=xf 1;have z2:=xf 2;have z3:=xf 3;have z4:=xf 4;have z5:=xf 5;clear xf;obtain ⟨u0,u1,u2,u3,u4,u5,uf,uz⟩:=St9.res ab.out;have v0:=uf 0;have v1:=uf 1;have v2:=uf 2;have v3:=uf 3;have v4:=uf 4;have v5:=uf 5;clear uf)))
   exact ⟨rfl,TermR.no HR.out ac.out.bt⟩
  | true =>
   have K41:=Za h41
   rw [h41,if_pos rfl,hq',zkG] at ae
   clear h41 hq'
   obtain ⟨q2,hq2⟩:∃q2,hitR 42 q=q2:=⟨_,rfl⟩
   have R42:=Za hq2
   rw [hq2] at ae
   obtain ⟨X,hX⟩:∃X,(untilS q2).1=X:=⟨_,rfl⟩
   obtain ⟨Y,hY⟩:∃Y,(untilS q2).2=Y:=⟨_,rfl⟩
   rw [hX,hY] at ae
   have HX:=Za hX
   have HY:=Za hY
   cases h42:hitB 42 q with
   | false =>
    have K42:=Za h42
    rw [h42,if_neg (by simp)] at ae
    have HR:=Za ae
    obtain rfl:q2=q:=by rw [<-hq2];exact zhv h42
    clear ae h42 hq2 hX hY
    go_enter Tryz.func220,Tryz.ntmps220
    go_wp2_with (first
     | (go_at_call 221;(first | (((with_reducible refine (zcE g _ _ _ (ac.out.deep (d:Int)).rd (by have:=(ac.out.deep (d:Int)).sf.length_le;omega)).mono ?_);rintro e w1 ⟨rfl,hr,hb⟩;rw [K42.out];rw [R42.out] at hr;have aa:=(ac.out.deep (d:Int)).call hr hb (zay R42.out);have af:=Za aa;clear hr hb aa;obtain ⟨⟨x0,x1,x2,x3,x4⟩,y0,y1,y2,y3,y4,y5,xf,xz⟩:=St9.six af.out;have z0:=xf 0;have z1:=xf 1;have z2:=xf 2;have z3:=xf 3;have z4:=xf 4;have z5:=xf 5;clear xf;obtain ⟨u0,u1,u2,u3,u4,u5,uf,uz⟩:=St9.res af.out;have v0:=uf 0;have v1:=uf 1;have v2:=uf 2;have v3:=uf 3;have v4:=uf 4;have v5:=uf 5;clear uf)) | (((with_reducible refine (zeU g _ _ _ (ab.out.put 5 (.slice A2 t.cnt c2)).rd (by have:=(ab.out.put 5 (.slice A2 t.cnt c2)).sf.length_le;omega)).mono ?_);rintro e w1 ⟨rfl,hr,hb⟩;rw [K41.out];rw [R41.out] at hr;have aa:=(ab.out.put 5 (.slice A2 t.cnt c2)).call hr hb (zay R41.out);have ac:=Za aa;clear hr hb aa;obtain ⟨⟨x0,x1,x2,x3,x4⟩,y0,y1,y2,y3,y4,y5,xf,xz⟩:=St9.six ac.out;have z0:=xf 0;have z1:=xf 1;have z2:=xf 2;have z3:=xf 3;have z4:=xf 4;have z5:=xf 5;clear xf;obtain ⟨u0,u1,u2,u3,u4,u5,uf,uz⟩:=St9.res ac.out;have v0:=uf 0;have v1:=uf 1;have v2:=uf 2;have v3:=uf 3;have v4:=uf 4;have v5:=uf 5;clear uf)) | (((with_reducible refine (za5 g _ _ _ (ad.out).rd (by have:=(ad.out).sf.length_le;omega)).mono ?_);rintro e w1 ⟨rfl,hr,hb⟩;rw [K40.out];rw [R40.out] at hr;have aa:=(ad.out).call hr hb (zay R40.out);have HS:=Za aa;clear hr hb aa;obtain ⟨⟨x0,x1,x2,x3,x4⟩,y0,y1,y2,y3,y4,y5,xf,xz⟩:=St9.six HS.out;have z0:=xf 0;have z1:=xf 1;have z2:=xf 2;have z3:=xf 3;have z4:=xf 4;have z5:=xf 5;clear xf;obtain ⟨u0,u1,u2,u3,u4,u5,uf,uz⟩:=St9.res HS.out;have v0:=uf 0;have v1:=uf 1;have v2:=uf 2;have v3:=uf 3;have v4:=uf 4;have v5:=uf 5;clear uf))))
     | (go_at_call 184;((with_reducible refine (am.out _ _ (by omega) (Ext.but HE.out (HS.out.deep _).bt hgg) (HS.out.deep _).rd).mono ?_);rintro e w2 ⟨A2,c2,rfl,ai,ag,ah⟩;have aa:=((HS.out.deep ((d:Int)+1)).call ai ag al.out).grp (ah.mono fun b _ hb=>(by have h8:=(Zh.1 (HS.out.deep ((d:Int)+1)).bx).1;omega));have ab:=Za aa;clear ai ag ah aa;obtain ⟨⟨x0,x1,x2,x3,x4⟩,y0,y1,y2,y3,y4,y5,xf,xz⟩:=St9.six ab.out;have z0:=xf 0;have z1:=xf 1;have z2:=xf 2;have z3:=xf 3;have z4:=xf 4;have z5:=xf 5;clear xf;obtain ⟨u0,u1,u2,u3,u4,u5,uf,uz⟩:=St9.res ab.out;have v0:=uf 0;have v1:=uf 1;have v2:=uf 2;have v3:=uf 3;have v4:=uf 4;have v5:=uf 5;clear uf)))
    have h9:=(af.out).fin (.int .i64 1) (.int .u8 0) (.bool false) (.int .i64 0) (.int .i64 0) (.slice A2 t.cnt c2)
    obtain ⟨k1,k2,k3,r0,r1,r2,r3,r4,r5⟩:=h9
    unfold sixW at k1 k2 k3 r0 r1 r2 r3 r4 r5
    exact bodyPost_ret (v := .agg #[.int .i64 1,.int .u8 0,.bool false,.int .i64 0,.int .i64 0,.slice A2 t.cnt c2]) (by simp [results,Tryz.f220,go_sem,r0,r1,r2,r3,r4,r5]) rfl (TermR.yes HR.out k1 k2 k3 (by decide))
   | true =>
    have K42:=Za h42
    rw [h42,if_pos rfl] at ae
    have ar:X.length<=1000000:=by
     have h1:=zbm q2
     rw [hX,hY] at h1
     have h2:=congrArg List.length h1
     rw [Zc] at h2
     have h3:=(zeH 42 q).length_le
     rw [hq2] at h3
     have h4:=(zeH 41 r).length_le
     rw [R41.out] at h4
     have h5:=al.out.length_le
     omega
    cases hat:atoiO X with
    | none =>
     have HR:=Za (show rdT atoiO (f+1) d (40::s1)=none by rw [ae,hat];rfl)
     have aw:=Za (fun (w':World) (hg':Glob w')=>zf4 hat ar w' hg')
     clear ae h42 hq2 hX hY hat
     go_enter Tryz.func220,Tryz.ntmps220
     go_wp2_with (first
      | (go_at_call 221;(first | (((with_reducible refine (zcE g _ _ _ (ac.out.deep (d:Int)).rd (by have:=(ac.out.deep (d:Int)).sf.length_le;omega)).mono ?_);rintro e w1 ⟨rfl,hr,hb⟩;rw [K42.out];rw [R42.out] at hr;have aa:=(ac.out.deep (d:Int)).call hr hb (zay R42.out);have af:=Za aa;clear hr hb aa;obtain ⟨⟨x0,x1,x2,x3,x4⟩,y0,y1,y2,y3,y4,y5,xf,xz⟩:=St9.six af.out;have z0:=xf 0;have z1:=xf 1;have z2:=xf 2;have z3:=xf 3;have z4:=xf 4;have z5:=xf 5;clear xf;obtain ⟨u0,u1,u2,u3,u4,u5,uf,uz⟩:=St9.res af.out;have v0:=uf 0;have v1:=uf 1;have v2:=uf 2;have v3:=uf 3;have v4:=uf 4;have v5:=uf 5;clear uf)) | (((with_reducible refine (zeU g _ _ _ (ab.out.put 5 (.slice A2 t.cnt c2)).rd (by have:=(ab.out.put 5 (.slice A2 t.cnt c2)).sf.length_le;omega)).mono ?_);rintro e w1 ⟨rfl,hr,hb⟩;rw [K41.out];rw [R41.out] at hr;have aa:=(ab.out.put 5 (.slice A2 t.cnt c2)).call hr hb (zay R41.out);have ac:=Za aa;clear hr hb aa;obtain ⟨⟨x0,x1,x2,x3,x4⟩,y0,y1,y2,y3,y4,y5,xf,xz⟩:=St9.six ac.out;have z0:=xf 0;have z1:=xf 1;have z2:=xf 2;have z3:=xf 3;have z4:=xf 4;have z5:=xf 5;clear xf;obtain ⟨u0,u1,u2,u3,u4,u5,uf,uz⟩:=St9.res ac.out;have v0:=uf 0;have v1:=uf 1;have v2:=uf 2;have v3:=uf 3;have v4:=uf 4;have v5:=uf 5;clear uf)) | (((with_reducible refine (za5 g _ _ _ (ad.out).rd (by have:=(ad.out).sf.length_le;omega)).mono ?_);rintro e w1 ⟨rfl,hr,hb⟩;rw [K40.out];rw [R40.out] at hr;have aa:=(ad.out).call hr hb (zay R40.out);have HS:=Za aa;clear hr hb aa;obtain ⟨⟨x0,x1,x2,x3,x4⟩,y0,y1,y2,y3,y4,y5,xf,xz⟩:=St9.six HS.out;have z0:=xf 0;have z1:=xf 1;have z2:=xf 2;have z3:=xf 3;have z4:=xf 4;have z5:=xf 5;clear xf;obtain ⟨u0,u1,u2,u3,u4,u5,uf,uz⟩:=St9.res HS.out;have v0:=uf 0;have v1:=uf 1;have v2:=uf 2;have v3:=uf 3;have v4:=uf 4;have v5:=uf 5;clear uf))))
      | (go_at_call 237;(((with_reducible refine (zaN g _ _ _ (af.out).rd (HA.out.suf (af.out).sf) (by have:=(af.out).sf.length_le;omega)).mono ?_);rintro e w1 ⟨rfl,hr,hb⟩;rw [HX.out];rw [HY.out] at hr;have aa:=(af.out).call hr hb (by rw [<-HY.out];exact zaO _);have aj:=Za aa;clear hr hb aa;obtain ⟨⟨x0,x1,x2,x3,x4⟩,y0,y1,y2,y3,y4,y5,xf,xz⟩:=St9.six aj.out;have z0:=xf 0;have z1:=xf 1;have z2:=xf 2;have z3:=xf 3;have z4:=xf 4;have z5:=xf 5;clear xf;obtain ⟨u0,u1,u2,u3,u4,u5,uf,uz⟩:=St9.res aj.out;have v0:=uf 0;have v1:=uf 1;have v2:=uf 2;have v3:=uf 3;have v4:=uf 4;have v5:=uf 5;clear uf)))
      | (go_at_call 113;((with_reducible refine (aw.out _ (HG.out.ext (Ext.but HE.out aj.out.bt hgg))).mono ?_);rintro e w1 ⟨v9,te,pe,rfl,ao⟩;have ak:=Za (aj.out.ext ao);obtain ⟨⟨x0,x1,x2,x3,x4⟩,y0,y1,y2,y3,y4,y5,xf,xz⟩:=St9.six ak.out;have z0:=xf 0;have z1:=xf 1;have z2:=xf 2;have z3:=xf 3;have z4:=xf 4;have z5:=xf 5;clear xf;obtain ⟨u0,u1,u2,u3,u4,u5,uf,uz⟩:=St9.res ak.out;have v0:=uf 0;have v1:=uf 1;have v2:=uf 2;have v3:=uf 3;have v4:=uf 4;have v5:=uf 5;clear uf))
      | (go_at_call 184;((with_reducible refine (am.out _ _ (by omega) (Ext.but HE.out (HS.out.deep _).bt hgg) (HS.out.deep _).rd).mono ?_);rintro e w2 ⟨A2,c2,rfl,ai,ag,ah⟩;have aa:=((HS.out.deep ((d:Int)+1)).call ai ag al.out).grp (ah.mono fun b _ hb=>(by have h8:=(Zh.1 (HS.out.deep ((d:Int)+1)).bx).1;omega));have ab:=Za aa;clear ai ag ah aa;obtain ⟨⟨x0,x1,x2,x3,x4⟩,y0,y1,y2,y3,y4,y5,xf,xz⟩:=St9.six ab.out;have z0:=xf 0;have z1:=xf 1;have z2:=xf 2;have z3:=xf 3;have z4:=xf 4;have z5:=xf 5;clear xf;obtain ⟨u0,u1,u2,u3,u4,u5,uf,uz⟩:=St9.res ab.out;have v0:=uf 0;have v1:=uf 1;have v2:=uf 2;have v3:=uf 3;have v4:=uf 4;have v5:=uf 5;clear uf)))
     exact ⟨rfl,TermR.no HR.out ak.out.bt⟩
    | some nn =>
     have HR:=Za (show rdT atoiO (f+1) d (40::s1)=some ((nn,st0,t),Y) by rw [ae,hat];rfl)
     have ax:=Za (fun (w':World)=>zev hat ar w')
     clear ae h42 hq2 hX hY hat
     go_enter Tryz.func220,Tryz.ntmps220
     go_wp2_with (first
      | (go_at_call 221;(first | (((with_reducible refine (zcE g _ _ _ (ac.out.deep (d:Int)).rd (by have:=(ac.out.deep (d:Int)).sf.length_le;omega)).mono ?_);rintro e w1 ⟨rfl,hr,hb⟩;rw [K42.out];rw [R42.out] at hr;have aa:=(ac.out.deep (d:Int)).call hr hb (zay R42.out);have af:=Za aa;clear hr hb aa;obtain ⟨⟨x0,x1,x2,x3,x4⟩,y0,y1,y2,y3,y4,y5,xf,xz⟩:=St9.six af.out;have z0:=xf 0;have z1:=xf 1;have z2:=xf 2;have z3:=xf 3;have z4:=xf 4;have z5:=xf 5;clear xf;obtain ⟨u0,u1,u2,u3,u4,u5,uf,uz⟩:=St9.res af.out;have v0:=uf 0;have v1:=uf 1;have v2:=uf 2;have v3:=uf 3;have v4:=uf 4;have v5:=uf 5;clear uf)) | (((with_reducible refine (zeU g _ _ _ (ab.out.put 5 (.slice A2 t.cnt c2)).rd (by have:=(ab.out.put 5 (.slice A2 t.cnt c2)).sf.length_le;omega)).mono ?_);rintro e w1 ⟨rfl,hr,hb⟩;rw [K41.out];rw [R41.out] at hr;have aa:=(ab.out.put 5 (.slice A2 t.cnt c2)).call hr hb (zay R41.out);have ac:=Za aa;clear hr hb aa;obtain ⟨⟨x0,x1,x2,x3,x4⟩,y0,y1,y2,y3,y4,y5,xf,xz⟩:=St9.six ac.out;have z0:=xf 0;have z1:=xf 1;have z2:=xf 2;have z3:=xf 3;have z4:=xf 4;have z5:=xf 5;clear xf;obtain ⟨u0,u1,u2,u3,u4,u5,uf,uz⟩:=St9.res ac.out;have v0:=uf 0;have v1:=uf 1;have v2:=uf 2;have v3:=uf 3;have v4:=uf 4;have v5:=uf 5;clear uf)) | (((with_reducible refine (za5 g _ _ _ (ad.out).rd (by have:=(ad.out).sf.length_le;omega)).mono ?_);rintro e w1 ⟨rfl,hr,hb⟩;rw [K40.out];rw [R40.out] at hr;have aa:=(ad.out).call hr hb (zay R40.out);have HS:=Za aa;clear hr hb aa;obtain ⟨⟨x0,x1,x2,x3,x4⟩,y0,y1,y2,y3,y4,y5,xf,xz⟩:=St9.six HS.out;have z0:=xf 0;have z1:=xf 1;have z2:=xf 2;have z3:=xf 3;have z4:=xf 4;have z5:=xf 5;clear xf;obtain ⟨u0,u1,u2,u3,u4,u5,uf,uz⟩:=St9.res HS.out;have v0:=uf 0;have v1:=uf 1;have v2:=uf 2;have v3:=uf 3;have v4:=uf 4;have v5:=uf 5;clear uf))))
      | (go_at_call 237;(((with_reducible refine (zaN g _ _ _ (af.out).rd (HA.out.suf (af.out).sf) (by have:=(af.out).sf.length_le;omega)).mono ?_);rintro e w1 ⟨rfl,hr,hb⟩;rw [HX.out];rw [HY.out] at hr;have aa:=(af.out).call hr hb (by rw [<-HY.out];exact zaO _);have aj:=Za aa;clear hr hb aa;obtain ⟨⟨x0,x1,x2,x3,x4⟩,y0,y1,y2,y3,y4,y5,xf,xz⟩:=St9.six aj.out;have z0:=xf 0;have z1:=xf 1;have z2:=xf 2;have z3:=xf 3;have z4:=xf 4;have z5:=xf 5;clear xf;obtain ⟨u0,u1,u2,u3,u4,u5,uf,uz⟩:=St9.res aj.out;have v0:=uf 0;have v1:=uf 1;have v2:=uf 2;have v3:=uf 3;have v4:=uf 4;have v5:=uf 5;clear uf)))
      | (go_at_call 113;((with_reducible refine (ax.out _).mono ?_);rintro e w1 ⟨rfl,ao⟩;have ak:=Za (aj.out.ext ao);obtain ⟨⟨x0,x1,x2,x3,x4⟩,y0,y1,y2,y3,y4,y5,xf,xz⟩:=St9.six ak.out;have z0:=xf 0;have z1:=xf 1;have z2:=xf 2;have z3:=xf 3;have z4:=xf 4;have z5:=xf 5;clear xf;obtain ⟨u0,u1,u2,u3,u4,u5,uf,uz⟩:=St9.res ak.out;have v0:=uf 0;have v1:=uf 1;have v2:=uf 2;have v3:=uf 3;have v4:=uf 4;have v5:=uf 5;clear uf))
      | (go_at_call 184;((with_reducible refine (am.out _ _ (by omega) (Ext.but HE.out (HS.out.deep _).bt hgg) (HS.out.deep _).rd).mono ?_);rintro e w2 ⟨A2,c2,rfl,ai,ag,ah⟩;have aa:=((HS.out.deep ((d:Int)+1)).call ai ag al.out).grp (ah.mono fun b _ hb=>(by have h8:=(Zh.1 (HS.out.deep ((d:Int)+1)).bx).1;omega));have ab:=Za aa;clear ai ag ah aa;obtain ⟨⟨x0,x1,x2,x3,x4⟩,y0,y1,y2,y3,y4,y5,xf,xz⟩:=St9.six ab.out;have z0:=xf 0;have z1:=xf 1;have z2:=xf 2;have z3:=xf 3;have z4:=xf 4;have z5:=xf 5;clear xf;obtain ⟨u0,u1,u2,u3,u4,u5,uf,uz⟩:=St9.res ab.out;have v0:=uf 0;have v1:=uf 1;have v2:=uf 2;have v3:=uf 3;have v4:=uf 4;have v5:=uf 5;clear uf)))
     have h9:=(ak.out.put 0 (.int .i64 nn)).fin (.int .i64 nn) (.int .u8 0) (.bool false) (.int .i64 0) (.int .i64 0) (.slice A2 t.cnt c2)
     obtain ⟨k1,k2,k3,r0,r1,r2,r3,r4,r5⟩:=h9
     unfold sixW at k1 k2 k3 r0 r1 r2 r3 r4 r5
     exact bodyPost_ret (v := .agg #[.int .i64 nn,.int .u8 0,.bool false,.int .i64 0,.int .i64 0,.slice A2 t.cnt c2]) (by simp [results,Tryz.f220,go_sem,r0,r1,r2,r3,r4,r5]) rfl (TermR.yes HR.out k1 k2 k3 (by decide))
theorem zlp (f g d:Nat) (s:List UInt8) (h40:hitB 40 s=false) (WG w:World) (hgl:Glob WG) (hex:Ext WG w) (hgg:WG.heap.size<=g) (h:RdAt w g s d) (hd:d<=20) (hl:(s).length<=10000) (ha:Asc (s))
  (HL:∀(d':Nat) (s':List UInt8) (w':World) (di:Int),di=(d':Int)->Ext WG w'->RdAt w' g s' di->d'<=20->Asc s'->s'.length<=10000->2*s'.length+2<=f->Calls Tryz.prog 184 #[.pointer (some ⟨g,0,none⟩)] w' (ListRd g d' (rdL atoiO f d' s') w')) (_:2*(s).length+1<=f+1) :
  Calls Tryz.prog 220 #[.pointer (some ⟨g,0,none⟩)] w (TermR g d (rdT atoiO (f+1) d (s)) w):=by
 have HL9:=Za HL
 have i1:=Zj ((d:Int)+1) (by omega)
 have i2:=Zj ((d:Int)+1-1) (by omega)
 have i3:(d:Int)+1-1=(d:Int):=by omega
 have hz:=h.lt
 have ah:=Za (St9.start h #[.int .i64 1,.int .u8 0,.bool false,.int .i64 0,.int .i64 0,.slice none 0 0])
 have HA:=Za ha
 have HG:=Za hgl
 have HE:=Za hex
 have HLN:=hl
 have K40:=Za h40
 have R40:=Za (zhv h40)
 have af:=znk atoiO f d h40
 obtain ⟨X0,av⟩:∃X,(untilS s).1=X:=⟨_,rfl⟩
 obtain ⟨q,aw⟩:∃Y,(untilS s).2=Y:=⟨_,rfl⟩
 rw [av,aw] at af
 have ar:=Za av
 have al:=Za aw
 have ax:=zbm s
 rw [av,aw] at ax
 have aE:=congrArg List.length ax
 rw [Zc] at aE
 have aq:=Za (fun (w':World) (hg':Glob w')=>zdB X0 (by omega) w' hg')
 clear h ha HL hgl hex hl h40 av aw ax
 by_cases hp:∃c,parseL X0=some [c]
 case neg =>
  have HR:=Za (show rdT atoiO (f+1) d s=none by
   rw [af]
   split
   ·rename_i c e;exact absurd ⟨c,e⟩ hp
   ·rfl)
  cases ap:parseL X0 with
  | none =>
   have ai:=Za (zcC ap)
   clear af hp ap
   go_enter Tryz.func220,Tryz.ntmps220
   go_wp2_with (first
    | (go_at_call 221;(((with_reducible refine (za5 g _ _ _ (ah.out).rd (by have:=(ah.out).sf.length_le;omega)).mono ?_);rintro e w1 ⟨rfl,hr,hb⟩;rw [K40.out];rw [R40.out] at hr;have aa:=(ah.out).call hr hb (zay R40.out);have HS:=Za aa;clear hr hb aa;obtain ⟨⟨x0,x1,x2,x3,x4⟩,y0,y1,y2,y3,y4,y5,xf,xz⟩:=St9.six HS.out;have z0:=xf 0;have z1:=xf 1;have z2:=xf 2;have z3:=xf 3;have z4:=xf 4;have z5:=xf 5;clear xf;obtain ⟨u0,u1,u2,u3,u4,u5,uf,uz⟩:=St9.res HS.out;have v0:=uf 0;have v1:=uf 1;have v2:=uf 2;have v3:=uf 3;have v4:=uf 4;have v5:=uf 5;clear uf)))
    | (go_at_call 237;(((with_reducible refine (zaN g _ _ _ (HS.out).rd (HA.out.suf (HS.out).sf) (by have:=(HS.out).sf.length_le;omega)).mono ?_);rintro e w1 ⟨rfl,hr,hb⟩;rw [ar.out];rw [al.out] at hr;have aa:=(HS.out).call hr hb (by rw [<-al.out];exact zaO _);have ab:=Za aa;clear hr hb aa;obtain ⟨⟨x0,x1,x2,x3,x4⟩,y0,y1,y2,y3,y4,y5,xf,xz⟩:=St9.six ab.out;have z0:=xf 0;have z1:=xf 1;have z2:=xf 2;have z3:=xf 3;have z4:=xf 4;have z5:=xf 5;clear xf;obtain ⟨u0,u1,u2,u3,u4,u5,uf,uz⟩:=St9.res ab.out;have v0:=uf 0;have v1:=uf 1;have v2:=uf 2;have v3:=uf 3;have v4:=uf 4;have v5:=uf 5;clear uf)))
    | (go_at_call 107;((with_reducible refine (aq.out _ (HG.out.ext (Ext.but HE.out ab.out.bt hgg))).mono ?_);rintro e w5 ⟨v5,rfl,ag,hq5⟩;rw [ai.out.2] at ag;rw [ai.out.1];obtain ⟨A5,c5,rfl,ac, -⟩:=zan ag;have aj:=Za (ab.out.ext hq5))))
   exact ⟨rfl,TermR.no HR.out aj.out.bt⟩
  | some L =>
   have ai:=Za (zbK ap)
   have hL1:(((L.length:Nat):Int) != 1)=true:=by
    rw [bne_iff_ne]
    intro e
    match L,ap,e with
    | [c],ap,_=>exact hp ⟨c,ap⟩
    | [],_,e=>simp at e
    | _::_::_,_,e=>simp at e <;> omega
   clear af hp ap
   go_enter Tryz.func220,Tryz.ntmps220
   go_wp2_with (first
    | (go_at_call 221;(((with_reducible refine (za5 g _ _ _ (ah.out).rd (by have:=(ah.out).sf.length_le;omega)).mono ?_);rintro e w1 ⟨rfl,hr,hb⟩;rw [K40.out];rw [R40.out] at hr;have aa:=(ah.out).call hr hb (zay R40.out);have HS:=Za aa;clear hr hb aa;obtain ⟨⟨x0,x1,x2,x3,x4⟩,y0,y1,y2,y3,y4,y5,xf,xz⟩:=St9.six HS.out;have z0:=xf 0;have z1:=xf 1;have z2:=xf 2;have z3:=xf 3;have z4:=xf 4;have z5:=xf 5;clear xf;obtain ⟨u0,u1,u2,u3,u4,u5,uf,uz⟩:=St9.res HS.out;have v0:=uf 0;have v1:=uf 1;have v2:=uf 2;have v3:=uf 3;have v4:=uf 4;have v5:=uf 5;clear uf)))
    | (go_at_call 237;(((with_reducible refine (zaN g _ _ _ (HS.out).rd (HA.out.suf (HS.out).sf) (by have:=(HS.out).sf.length_le;omega)).mono ?_);rintro e w1 ⟨rfl,hr,hb⟩;rw [ar.out];rw [al.out] at hr;have aa:=(HS.out).call hr hb (by rw [<-al.out];exact zaO _);have ab:=Za aa;clear hr hb aa;obtain ⟨⟨x0,x1,x2,x3,x4⟩,y0,y1,y2,y3,y4,y5,xf,xz⟩:=St9.six ab.out;have z0:=xf 0;have z1:=xf 1;have z2:=xf 2;have z3:=xf 3;have z4:=xf 4;have z5:=xf 5;clear xf;obtain ⟨u0,u1,u2,u3,u4,u5,uf,uz⟩:=St9.res ab.out;have v0:=uf 0;have v1:=uf 1;have v2:=uf 2;have v3:=uf 3;have v4:=uf 4;have v5:=uf 5;clear uf)))
    | (go_at_call 107;((with_reducible refine (aq.out _ (HG.out.ext (Ext.but HE.out ab.out.bt hgg))).mono ?_);rintro e w5 ⟨v5,rfl,ag,hq5⟩;rw [ai.out.2] at ag;rw [ai.out.1];obtain ⟨A5,c5,rfl,ac, -⟩:=zan ag;have aj:=Za (ab.out.ext hq5))))
   exact ⟨rfl,TermR.no HR.out aj.out.bt⟩
 obtain ⟨c,hc⟩:=hp
 rw [hc] at af
 simp only at af
 rw [zkG] at af
 have ai:=Za (zbK hc)
 have ay:=ziH hc
 obtain ⟨ck,cp,ca,cb⟩:=c
 simp only at ay
 have aA:=Za ay
 clear hc ay
 obtain ⟨q2,hq2⟩:∃q2,hitR 42 q=q2:=⟨_,rfl⟩
 have R42:=Za hq2
 rw [hq2] at af
 obtain ⟨X,hX⟩:∃X,(untilS q2).1=X:=⟨_,rfl⟩
 obtain ⟨Y,hY⟩:∃Y,(untilS q2).2=Y:=⟨_,rfl⟩
 rw [hX,hY] at af
 have HX:=Za hX
 have HY:=Za hY
 cases h42:hitB 42 q with
 | false =>
  have K42:=Za h42
  rw [h42,if_neg (by simp)] at af
  have HR:=Za af
  obtain rfl:q2=q:=by rw [<-hq2];exact zhv h42
  clear af h42 hq2 hX hY
  go_enter Tryz.func220,Tryz.ntmps220
  go_wp2_with (first
   | (go_at_call 221;(first | (((with_reducible refine (zcE g _ _ _ ((((ae.out.put 1 (.int .u8 ck)).put 2 (.bool cp)).put 3 (.int .i64 ca)).put 4 (.int .i64 cb)).rd (by have:=((((ae.out.put 1 (.int .u8 ck)).put 2 (.bool cp)).put 3 (.int .i64 ca)).put 4 (.int .i64 cb)).sf.length_le;omega)).mono ?_);rintro e w1 ⟨rfl,hr,hb⟩;rw [K42.out];rw [R42.out] at hr;have aa:=((((ae.out.put 1 (.int .u8 ck)).put 2 (.bool cp)).put 3 (.int .i64 ca)).put 4 (.int .i64 cb)).call hr hb (zay R42.out);have ad:=Za aa;clear hr hb aa;obtain ⟨⟨x0,x1,x2,x3,x4⟩,y0,y1,y2,y3,y4,y5,xf,xz⟩:=St9.six ad.out;have z0:=xf 0;have z1:=xf 1;have z2:=xf 2;have z3:=xf 3;have z4:=xf 4;have z5:=xf 5;clear xf;obtain ⟨u0,u1,u2,u3,u4,u5,uf,uz⟩:=St9.res ad.out;have v0:=uf 0;have v1:=uf 1;have v2:=uf 2;have v3:=uf 3;have v4:=uf 4;have v5:=uf 5;clear uf)) | (((with_reducible refine (za5 g _ _ _ (ah.out).rd (by have:=(ah.out).sf.length_le;omega)).mono ?_);rintro e w1 ⟨rfl,hr,hb⟩;rw [K40.out];rw [R40.out] at hr;have aa:=(ah.out).call hr hb (zay R40.out);have HS:=Za aa;clear hr hb aa;obtain ⟨⟨x0,x1,x2,x3,x4⟩,y0,y1,y2,y3,y4,y5,xf,xz⟩:=St9.six HS.out;have z0:=xf 0;have z1:=xf 1;have z2:=xf 2;have z3:=xf 3;have z4:=xf 4;have z5:=xf 5;clear xf;obtain ⟨u0,u1,u2,u3,u4,u5,uf,uz⟩:=St9.res HS.out;have v0:=uf 0;have v1:=uf 1;have v2:=uf 2;have v3:=uf 3;have v4:=uf 4;have v5:=uf 5;clear uf))))
   | (go_at_call 237;(((with_reducible refine (zaN g _ _ _ (HS.out).rd (HA.out.suf (HS.out).sf) (by have:=(HS.out).sf.length_le;omega)).mono ?_);rintro e w1 ⟨rfl,hr,hb⟩;rw [ar.out];rw [al.out] at hr;have aa:=(HS.out).call hr hb (by rw [<-al.out];exact zaO _);have ab:=Za aa;clear hr hb aa;obtain ⟨⟨x0,x1,x2,x3,x4⟩,y0,y1,y2,y3,y4,y5,xf,xz⟩:=St9.six ab.out;have z0:=xf 0;have z1:=xf 1;have z2:=xf 2;have z3:=xf 3;have z4:=xf 4;have z5:=xf 5;clear xf;obtain ⟨u0,u1,u2,u3,u4,u5,uf,uz⟩:=St9.res ab.out;have v0:=uf 0;have v1:=uf 1;have v2:=uf 2;have v3:=uf 3;have v4:=uf 4;have v5:=uf 5;clear uf)))
   | (go_at_call 107;((with_reducible refine (aq.out _ (HG.out.ext (Ext.but HE.out ab.out.bt hgg))).mono ?_);rintro e w5 ⟨v5,rfl,ag,hq5⟩;rw [ai.out.2] at ag;rw [ai.out.1];obtain ⟨A5,c5,rfl,ac,ak⟩:=zan ag;obtain ⟨b5,o5,rfl,au,ao⟩:=Sts.all ac (by simp);obtain ⟨m0,m1,m2,m3⟩:=ao 0 (by simp);simp only [ZY,Nat.zero_mul,Nat.add_zero] at m0 m1 m2 m3;have ae:=Za (ab.out.ext hq5);clear ag ac ak ao hq5;obtain ⟨⟨x0,x1,x2,x3,x4⟩,y0,y1,y2,y3,y4,y5,xf,xz⟩:=St9.six ae.out;have z0:=xf 0;have z1:=xf 1;have z2:=xf 2;have z3:=xf 3;have z4:=xf 4;have z5:=xf 5;clear xf;obtain ⟨u0,u1,u2,u3,u4,u5,uf,uz⟩:=St9.res ae.out;have v0:=uf 0;have v1:=uf 1;have v2:=uf 2;have v3:=uf 3;have v4:=uf 4;have v5:=uf 5;clear uf)))
  have h9:=(ad.out).fin (.int .i64 1) (.int .u8 ck) (.bool cp) (.int .i64 ca) (.int .i64 cb) (.slice none 0 0)
  obtain ⟨k1,k2,k3,r0,r1,r2,r3,r4,r5⟩:=h9
  unfold sixW at k1 k2 k3 r0 r1 r2 r3 r4 r5
  exact bodyPost_ret (v := .agg #[.int .i64 1,.int .u8 ck,.bool cp,.int .i64 ca,.int .i64 cb,.slice none 0 0]) (by simp [results,Tryz.f220,go_sem,r0,r1,r2,r3,r4,r5]) rfl (TermR.yes HR.out k1 k2 k3 aA.out)
 | true =>
  have K42:=Za h42
  rw [h42,if_pos rfl] at af
  have aB:X.length<=1000000:=by
   have h1:=zbm q2
   rw [hX,hY] at h1
   have h2:=congrArg List.length h1
   rw [Zc] at h2
   have h3:=(zeH 42 q).length_le
   rw [hq2] at h3
   omega
  cases hat:atoiO X with
  | none =>
   have HR:=Za (show rdT atoiO (f+1) d s=none by rw [af,hat];rfl)
   have aC:=Za (fun (w':World) (hg':Glob w')=>zf4 hat aB w' hg')
   clear af h42 hq2 hX hY hat
   go_enter Tryz.func220,Tryz.ntmps220
   go_wp2_with (first
    | (go_at_call 221;(first | (((with_reducible refine (zcE g _ _ _ ((((ae.out.put 1 (.int .u8 ck)).put 2 (.bool cp)).put 3 (.int .i64 ca)).put 4 (.int .i64 cb)).rd (by have:=((((ae.out.put 1 (.int .u8 ck)).put 2 (.bool cp)).put 3 (.int .i64 ca)).put 4 (.int .i64 cb)).sf.length_le;omega)).mono ?_);rintro e w1 ⟨rfl,hr,hb⟩;rw [K42.out];rw [R42.out] at hr;have aa:=((((ae.out.put 1 (.int .u8 ck)).put 2 (.bool cp)).put 3 (.int .i64 ca)).put 4 (.int .i64 cb)).call hr hb (zay R42.out);have ad:=Za aa;clear hr hb aa;obtain ⟨⟨x0,x1,x2,x3,x4⟩,y0,y1,y2,y3,y4,y5,xf,xz⟩:=St9.six ad.out;have z0:=xf 0;have z1:=xf 1;have z2:=xf 2;have z3:=xf 3;have z4:=xf 4;have z5:=xf 5;clear xf;obtain ⟨u0,u1,u2,u3,u4,u5,uf,uz⟩:=St9.res ad.out;have v0:=uf 0;have v1:=uf 1;have v2:=uf 2;have v3:=uf 3;have v4:=uf 4;have v5:=uf 5;clear uf)) | (((with_reducible refine (za5 g _ _ _ (ah.out).rd (by have:=(ah.out).sf.length_le;omega)).mono ?_);rintro e w1 ⟨rfl,hr,hb⟩;rw [K40.out];rw [R40.out] at hr;have aa:=(ah.out).call hr hb (zay R40.out);have HS:=Za aa;clear hr hb aa;obtain ⟨⟨x0,x1,x2,x3,x4⟩,y0,y1,y2,y3,y4,y5,xf,xz⟩:=St9.six HS.out;have z0:=xf 0;have z1:=xf 1;have z2:=xf 2;have z3:=xf 3;have z4:=xf 4;have z5:=xf 5;clear xf;obtain ⟨u0,u1,u2,u3,u4,u5,uf,uz⟩:=St9.res HS.out;have v0:=uf 0;have v1:=uf 1;have v2:=uf 2;have v3:=uf 3;have v4:=uf 4;have v5:=uf 5;clear uf))))
    | (go_at_call 237;(first | (((with_reducible refine (zaN g _ _ _ (ad.out).rd (HA.out.suf (ad.out).sf) (by have:=(ad.out).sf.length_le;omega)).mono ?_);rintro e w1 ⟨rfl,hr,hb⟩;rw [HX.out];rw [HY.out] at hr;have aa:=(ad.out).call hr hb (by rw [<-HY.out];exact zaO _);have am:=Za aa;clear hr hb aa;obtain ⟨⟨x0,x1,x2,x3,x4⟩,y0,y1,y2,y3,y4,y5,xf,xz⟩:=St9.six am.out;have z0:=xf 0;have z1:=xf 1;have z2:=xf 2;have z3:=xf 3;have z4:=xf 4;have z5:=xf 5;clear xf;obtain ⟨u0,u1,u2,u3,u4,u5,uf,uz⟩:=St9.res am.out;have v0:=uf 0;have v1:=uf 1;have v2:=uf 2;have v3:=uf 3;have v4:=uf 4;have v5:=uf 5;clear uf)) | (((with_reducible refine (zaN g _ _ _ (HS.out).rd (HA.out.suf (HS.out).sf) (by have:=(HS.out).sf.length_le;omega)).mono ?_);rintro e w1 ⟨rfl,hr,hb⟩;rw [ar.out];rw [al.out] at hr;have aa:=(HS.out).call hr hb (by rw [<-al.out];exact zaO _);have ab:=Za aa;clear hr hb aa;obtain ⟨⟨x0,x1,x2,x3,x4⟩,y0,y1,y2,y3,y4,y5,xf,xz⟩:=St9.six ab.out;have z0:=xf 0;have z1:=xf 1;have z2:=xf 2;have z3:=xf 3;have z4:=xf 4;have z5:=xf 5;clear xf;obtain ⟨u0,u1,u2,u3,u4,u5,uf,uz⟩:=St9.res ab.out;have v0:=uf 0;have v1:=uf 1;have v2:=uf 2;have v3:=uf 3;have v4:=uf 4;have v5:=uf 5;clear uf))))
    | (go_at_call 113;((with_reducible refine (aC.out _ (HG.out.ext (Ext.but HE.out am.out.bt hgg))).mono ?_);rintro e w1 ⟨v9,te,pe,rfl,az⟩;have aj:=Za (am.out.ext az);obtain ⟨⟨x0,x1,x2,x3,x4⟩,y0,y1,y2,y3,y4,y5,xf,xz⟩:=St9.six aj.out;have z0:=xf 0;have z1:=xf 1;have z2:=xf 2;have z3:=xf 3;have z4:=xf 4;have z5:=xf 5;clear xf;obtain ⟨u0,u1,u2,u3,u4,u5,uf,uz⟩:=St9.res aj.out;have v0:=uf 0;have v1:=uf 1;have v2:=uf 2;have v3:=uf 3;have v4:=uf 4;have v5:=uf 5;clear uf))
    | (go_at_call 107;((with_reducible refine (aq.out _ (HG.out.ext (Ext.but HE.out ab.out.bt hgg))).mono ?_);rintro e w5 ⟨v5,rfl,ag,hq5⟩;rw [ai.out.2] at ag;rw [ai.out.1];obtain ⟨A5,c5,rfl,ac,ak⟩:=zan ag;obtain ⟨b5,o5,rfl,au,ao⟩:=Sts.all ac (by simp);obtain ⟨m0,m1,m2,m3⟩:=ao 0 (by simp);simp only [ZY,Nat.zero_mul,Nat.add_zero] at m0 m1 m2 m3;have ae:=Za (ab.out.ext hq5);clear ag ac ak ao hq5;obtain ⟨⟨x0,x1,x2,x3,x4⟩,y0,y1,y2,y3,y4,y5,xf,xz⟩:=St9.six ae.out;have z0:=xf 0;have z1:=xf 1;have z2:=xf 2;have z3:=xf 3;have z4:=xf 4;have z5:=xf 5;clear xf;obtain ⟨u0,u1,u2,u3,u4,u5,uf,uz⟩:=St9.res ae.out;have v0:=uf 0;have v1:=uf 1;have v2:=uf 2;have v3:=uf 3;have v4:=uf 4;have v5:=uf 5;clear uf)))
   exact ⟨rfl,TermR.no HR.out aj.out.bt⟩
  | some nn =>
   have HR:=Za (show rdT atoiO (f+1) d s=some ((nn,⟨ck,cp,ca,cb⟩,.nil),Y) by rw [af,hat];rfl)
   have aD:=Za (fun (w':World)=>zev hat aB w')
   clear af h42 hq2 hX hY hat
   go_enter Tryz.func220,Tryz.ntmps220
   go_wp2_with (first
    | (go_at_call 221;(first | (((with_reducible refine (zcE g _ _ _ ((((ae.out.put 1 (.int .u8 ck)).put 2 (.bool cp)).put 3 (.int .i64 ca)).put 4 (.int .i64 cb)).rd (by have:=((((ae.out.put 1 (.int .u8 ck)).put 2 (.bool cp)).put 3 (.int .i64 ca)).put 4 (.int .i64 cb)).sf.length_le;omega)).mono ?_);rintro e w1 ⟨rfl,hr,hb⟩;rw [K42.out];rw [R42.out] at hr;have aa:=((((ae.out.put 1 (.int .u8 ck)).put 2 (.bool cp)).put 3 (.int .i64 ca)).put 4 (.int .i64 cb)).call hr hb (zay R42.out);have ad:=Za aa;clear hr hb aa;obtain ⟨⟨x0,x1,x2,x3,x4⟩,y0,y1,y2,y3,y4,y5,xf,xz⟩:=St9.six ad.out;have z0:=xf 0;have z1:=xf 1;have z2:=xf 2;have z3:=xf 3;have z4:=xf 4;have z5:=xf 5;clear xf;obtain ⟨u0,u1,u2,u3,u4,u5,uf,uz⟩:=St9.res ad.out;have v0:=uf 0;have v1:=uf 1;have v2:=uf 2;have v3:=uf 3;have v4:=uf 4;have v5:=uf 5;clear uf)) | (((with_reducible refine (za5 g _ _ _ (ah.out).rd (by have:=(ah.out).sf.length_le;omega)).mono ?_);rintro e w1 ⟨rfl,hr,hb⟩;rw [K40.out];rw [R40.out] at hr;have aa:=(ah.out).call hr hb (zay R40.out);have HS:=Za aa;clear hr hb aa;obtain ⟨⟨x0,x1,x2,x3,x4⟩,y0,y1,y2,y3,y4,y5,xf,xz⟩:=St9.six HS.out;have z0:=xf 0;have z1:=xf 1;have z2:=xf 2;have z3:=xf 3;have z4:=xf 4;have z5:=xf 5;clear xf;obtain ⟨u0,u1,u2,u3,u4,u5,uf,uz⟩:=St9.res HS.out;have v0:=uf 0;have v1:=uf 1;have v2:=uf 2;have v3:=uf 3;have v4:=uf 4;have v5:=uf 5;clear uf))))
    | (go_at_call 237;(first | (((with_reducible refine (zaN g _ _ _ (ad.out).rd (HA.out.suf (ad.out).sf) (by have:=(ad.out).sf.length_le;omega)).mono ?_);rintro e w1 ⟨rfl,hr,hb⟩;rw [HX.out];rw [HY.out] at hr;have aa:=(ad.out).call hr hb (by rw [<-HY.out];exact zaO _);have am:=Za aa;clear hr hb aa;obtain ⟨⟨x0,x1,x2,x3,x4⟩,y0,y1,y2,y3,y4,y5,xf,xz⟩:=St9.six am.out;have z0:=xf 0;have z1:=xf 1;have z2:=xf 2;have z3:=xf 3;have z4:=xf 4;have z5:=xf 5;clear xf;obtain ⟨u0,u1,u2,u3,u4,u5,uf,uz⟩:=St9.res am.out;have v0:=uf 0;have v1:=uf 1;have v2:=uf 2;have v3:=uf 3;have v4:=uf 4;have v5:=uf 5;clear uf)) | (((with_reducible refine (zaN g _ _ _ (HS.out).rd (HA.out.suf (HS.out).sf) (by have:=(HS.out).sf.length_le;omega)).mono ?_);rintro e w1 ⟨rfl,hr,hb⟩;rw [ar.out];rw [al.out] at hr;have aa:=(HS.out).call hr hb (by rw [<-al.out];exact zaO _);have ab:=Za aa;clear hr hb aa;obtain ⟨⟨x0,x1,x2,x3,x4⟩,y0,y1,y2,y3,y4,y5,xf,xz⟩:=St9.six ab.out;have z0:=xf 0;have z1:=xf 1;have z2:=xf 2;have z3:=xf 3;have z4:=xf 4;have z5:=xf 5;clear xf;obtain ⟨u0,u1,u2,u3,u4,u5,uf,uz⟩:=St9.res ab.out;have v0:=uf 0;have v1:=uf 1;have v2:=uf 2;have v3:=uf 3;have v4:=uf 4;have v5:=uf 5;clear uf))))
    | (go_at_call 113;((with_reducible refine (aD.out _).mono ?_);rintro e w1 ⟨rfl,az⟩;have aj:=Za (am.out.ext az);obtain ⟨⟨x0,x1,x2,x3,x4⟩,y0,y1,y2,y3,y4,y5,xf,xz⟩:=St9.six aj.out;have z0:=xf 0;have z1:=xf 1;have z2:=xf 2;have z3:=xf 3;have z4:=xf 4;have z5:=xf 5;clear xf;obtain ⟨u0,u1,u2,u3,u4,u5,uf,uz⟩:=St9.res aj.out;have v0:=uf 0;have v1:=uf 1;have v2:=uf 2;have v3:=uf 3;have v4:=uf 4;have v5:=uf 5;clear uf))
    | (go_at_call 107;((with_reducible refine (aq.out _ (HG.out.ext (Ext.but HE.out ab.out.bt hgg))).mono ?_);rintro e w5 ⟨v5,rfl,ag,hq5⟩;rw [ai.out.2] at ag;rw [ai.out.1];obtain ⟨A5,c5,rfl,ac,ak⟩:=zan ag;obtain ⟨b5,o5,rfl,au,ao⟩:=Sts.all ac (by simp);obtain ⟨m0,m1,m2,m3⟩:=ao 0 (by simp);simp only [ZY,Nat.zero_mul,Nat.add_zero] at m0 m1 m2 m3;have ae:=Za (ab.out.ext hq5);clear ag ac ak ao hq5;obtain ⟨⟨x0,x1,x2,x3,x4⟩,y0,y1,y2,y3,y4,y5,xf,xz⟩:=St9.six ae.out;have z0:=xf 0;have z1:=xf 1;have z2:=xf 2;have z3:=xf 3;have z4:=xf 4;have z5:=xf 5;clear xf;obtain ⟨u0,u1,u2,u3,u4,u5,uf,uz⟩:=St9.res ae.out;have v0:=uf 0;have v1:=uf 1;have v2:=uf 2;have v3:=uf 3;have v4:=uf 4;have v5:=uf 5;clear uf)))
   have h9:=(aj.out.put 0 (.int .i64 nn)).fin (.int .i64 nn) (.int .u8 ck) (.bool cp) (.int .i64 ca) (.int .i64 cb) (.slice none 0 0)
   obtain ⟨k1,k2,k3,r0,r1,r2,r3,r4,r5⟩:=h9
   unfold sixW at k1 k2 k3 r0 r1 r2 r3 r4 r5
   exact bodyPost_ret (v := .agg #[.int .i64 nn,.int .u8 ck,.bool cp,.int .i64 ca,.int .i64 cb,.slice none 0 0]) (by simp [results,Tryz.f220,go_sem,r0,r1,r2,r3,r4,r5]) rfl (TermR.yes HR.out k1 k2 k3 aA.out)
end Go.Proofs.YtbjgpbojjhldaaaGreatDoor
