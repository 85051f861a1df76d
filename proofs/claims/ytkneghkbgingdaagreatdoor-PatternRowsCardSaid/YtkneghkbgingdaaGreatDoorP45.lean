/- Words: the program's and the reference's. -/
import Derived.Test.YtkneghkbgingdaaGreatDoorP44
import Derived.Test.YtkneghkbgingdaaGreatDoorP08
import Derived.RangeFuncNested
import Derived.RangeFuncBound
import Derived.RangeFuncCalls
import Derived.RangeFuncLeaves
import Derived.Shelf.Abstract
import Derived.Shelf.RegionOpen
import Derived.WalkKit
import Derived.OwnWalkIn
import Derived.TacticsInMore
import Derived.LoopNIn
import Derived.LoopIn
import Derived.Test.YtkneghkbgingdaaGreatDoorP06
import Derived.Test.YtkneghkbgingdaaGreatDoorP17
import Derived.Test.YtkneghkbgingdaaGreatDoorP02
import Derived.RangeFuncBox
import Derived.RangeFuncFrom
namespace Go.Proofs.YtkneghkbgingdaaGreatDoor
set_option maxRecDepth 100000
set_option maxRecDepth 100000
open Go.RowKit
end Go.Proofs.YtkneghkbgingdaaGreatDoor
/- Names: whether all are words,and whether two are the same;over any function value that makes names. -/
namespace Go.Proofs.YtkneghkbgingdaaGreatDoor
set_option maxRecDepth 100000
set_option maxRecDepth 100000
open Go.RowKit Go.ChangeShapes Go.WideShapes Go.Joins
end Go.Proofs.YtkneghkbgingdaaGreatDoor
/- The iterator over the rows of a chart: its contract. -/
namespace Go.Proofs.YtkneghkbgingdaaGreatDoor
set_option maxRecDepth 100000
open Go.RowKit Go.ChangeShapes Go.WideShapes Go.Joins Go.Shelf
attribute [local go_sem] Oper.semAt_some
def Typed (T:TypeId) (w:World) (b:Nat):Prop:=∃cs f,w.heap[b]?=some (Obj.cells cs T f)
theorem Typed.setCell {T:TypeId} {w:World} {b:Nat} (h:Typed T w b) (p:Addr) (u:Value):Typed T (w.setCell p u) b:=by
 obtain ⟨cs,f,h⟩:=h
 by_cases e:b=p.block
 ·refine ⟨if p.spot.isSome then cs else cs.setIfInBounds p.off u,f,?_⟩
  simp only [World.setCell,Array.getElem?_modify]
  rw [if_pos e.symm,h]
  rfl
 ·exact ⟨cs,f,by rw [Below.heap_setCell w p u b e];exact h⟩
theorem Typed.ext {T:TypeId} {w w':World} {b:Nat} (h:Typed T w b) (hb:Ext w w'):Typed T w' b:=by
 obtain ⟨cs,f,h⟩:=h
 exact ⟨cs,f,by rw [hb.block b (Array.getElem?_eq_some_iff.1 h).1];exact h⟩
theorem Typed.new_ (T:TypeId) (w:World) (cs:Array Value):Typed T (w.alloc (.cells cs T)) w.heap.size:=⟨cs,(0,0),heap_alloc_new w _⟩
theorem Typed.drew {T:TypeId} {w:World} {b:Nat} (h:Typed T w b):Typed T w.drew b:=h
def KpT (n₀:Nat) (T:TypeId) (A B:World):Prop:=Below n₀ A B∧∀b:Nat,Typed T A b→B.heap[b]?=A.heap[b]?
theorem zbR {A B:World} {b:Nat} (h:B.heap[b]?=A.heap[b]?):(∀o,B.cell? ⟨b,o,none⟩=A.cell? ⟨b,o,none⟩)∧(∀o,B.frozen? ⟨b,o,none⟩=A.frozen? ⟨b,o,none⟩) :=
 ⟨fun o=>World.cell?_of_block (a:=⟨b,o,none⟩) h,fun o=>World.frozen?_of_block (a:=⟨b,o,none⟩) h⟩
def encC (x:Cn):Array Value:=#[.int .i64 x.i,.agg #[.int .i64 x.b,.int .i64 x.a,.int .i64 x.e]]
theorem zcx {i:Nat} {n:Int} {r:Ro} {rs:List Ro}:visG i n (r::rs)=if (cnE i n r).e≠0 then [cnE i n r] else cnE i n r::visG (i+1) (cnE i n r).a rs:=rfl
theorem zdH {i:Nat} {n:Int} {r:Ro} {rs:List Ro} {x:Cn} (h:cnE i n r=x):[x] <+: visG i n (r::rs):=by
 rw [zcx,h]
 split
 ·exact List.prefix_refl _
 ·exact ⟨_,rfl⟩
theorem zdc {a b:World} (h:Ext a b):a.grownBy b none:=But.of_ext h none
theorem zg5 {l:List St} (h:allE l=0):usG l=usL l:=by rw [usG,if_pos h]
theorem zlt {l:List St} (h:allE l=0):mkG l=mkL l:=by rw [mkG,if_pos h]
set_option maxRecDepth 100000 in
set_option maxHeartbeats 4000000 in
theorem zge (n l Bc n₀:Nat) (s:Int) (A:Option Addr) (m c:Nat) (rows:List Ro) (Kp:World→World→Prop) (hn:1≤n)
  (hK1:∀A B,Kp A B→Below n₀ A B) (hK2:∀(A B:World) (b:Nat),Kp A B→Typed 123 A b→B.heap[b]?=A.heap[b]?)
  (J Jx:List Cn→World→Prop) (W:World) (hJ:AbidesFrom W.heap.size J) (hn₀:n₀≤W.heap.size)
  (hY:∀pre x W,J pre W→pre.length<rows.length→YieldAt Fence.wide (n-1) Tryz.prog l (encC x) W fun e W' =>
   (e = .returned (.bool true)∧J (pre++[x]) W'∧Kp W W')∨(e = .returned (.bool false)∧Jx (pre++[x]) W'))
  (hc0:W.cell? ⟨Bc,0,none⟩=some (.int .i64 s)) (hc1:W.cell? ⟨Bc,1,none⟩=some (.slice A m c)) (hr:Rws W (fun b=>b<n₀) A m rows) (h0:J [] W) :
  CallsIn Fence.wide n Tryz.prog 95 #[.func (.yield l) #[] #[],.pointer (some ⟨Bc,0,none⟩)] W fun e W'=>(∃v,e = .returned v) ∧
   ((∃ys,ys=visG 0 s rows∧J ys W')∨(∃pre,pre <+: visG 0 s rows∧Jx pre W')):=by
 have hml:=hr.len
 have hmm:=hr.1
 unfold maxLen at hmm
 have hm2:(m:Int)≤9223372036854775807:=by omega
 have HR:=Lib.hid hr
 have HL:=Lib.hid hml
 have HK1:=Lib.hid hK1
 have HK2:=Lib.hid hK2
 have HJ0:=Lib.hid hJ
 have HY:=Lib.hid hY
 clear hr hml hmm hK1 hK2 hJ hY
 refine callsIn_of_wp Tryz.func95 rfl trivial ?_ rfl
 simp only [Tryz.ntmps95,List.size_toArray,List.length_cons,List.length_nil,Nat.reduceAdd,Nat.reduceSub,Array.replicate_succ,Array.replicate_zero,List.push_toArray,List.append_toArray,List.nil_append,List.cons_append]
 gi_wp2
 gi_loopw [3,14] (fun u i wr=>∃(k:Nat) (q:Int) (pre:List Cn),i = .int .i64 k∧u = .int .i64 q∧k≤m∧pre.length=k∧Hid (pre++visG k q (rows.drop k)=visG 0 s rows)∧Hid (J pre wr∧Below n₀ W wr∧W.heap.size≤wr.heap.size)) (fun _ i _=>m-(intOf i).toNat)
 case atStart=>exact ⟨0,s,[],rfl,rfl,Nat.zero_le _,rfl,Lib.hid (by simp),Lib.hid ⟨h0,Below.refl _ _,Nat.le_refl _⟩⟩
 case round =>
  obtain ⟨k,q,pre,rfl,rfl,hk,hpl,HV,HJ⟩:=hrel
  by_cases hlt:k<m
  ·obtain ⟨b,off,A',m',c',rfl,hb0,hbK,d0,d1,hv,hm',hby,hbK'⟩:=HR.out.at_ hlt
   have q0:(0:Int)≤(k:Int):=by omega
   have q1:(k:Int)<(m:Int):=by omega
   have c0:=(HJ.out.2.1.cell (p:=⟨b,off+k*2,none⟩) hbK).trans d0
   have c1:=(HJ.out.2.1.cell (p:=⟨b,off+k*2+1,none⟩) hbK).trans d1
   have hz:b<wr.heap.size:=by have:=HJ.out.2.2;omega
   have HW:=Lib.hid (show Vec shSt wr A' m' (rows.getD k ro0).cells from hv.keepK hbK' (HJ.out.2.2) (fun b' _ hb' o=>HJ.out.2.1.cell (p:=⟨b',o,none⟩) hb'))
   have HD:=Lib.hid (zlu (l:=rows) (k:=k) (by rw [HL.out];exact hlt))
   have hby:=Lib.hid hby
   have hm':=Lib.hid hm'
   clear d0 d1 hv hbK'
   obtain ⟨wq,rfl⟩:∃wq:World,wq=wr:=⟨_,rfl⟩
   generalize hrow:rows.getD k ro0=row at *
   clear hrow
   have HPL:=Lib.hid (show pre.length<rows.length by rw [HL.out];omega)
   have hpl2:=Lib.hid hpl
   clear hpl
   rcases zkt k q row with ⟨h1,h2⟩ | ⟨h1,h2,h3⟩ | ⟨h1,h2,h3⟩
   ·have HNE:=Lib.hid h1
    have H2:=Lib.hid h2
    have hne:(allE row.cells != 0)=true:=by simpa using h1
    clear h1 h2
    gi_wp2_with (refine ⟨trivial,?_⟩;gi_at_call 96;refine (callsIn_wide.2 (zdW m' c' A' row.cells _ (Vec.ext HW.out (by repeat (first|exact zr _|assumption|refine za ?_ _|refine zd ?_|refine zn ?_ _|refine zt ?_ (by assumption)))) hm'.out hby.out)).mono ?_;rintro e w1 ⟨rfl,hq1⟩;obtain ⟨hf1,hf2,hf3⟩:=hq1.facts)
    have hxx:Ext wq w1:=Ext.trans (((Ext.refl wq).alloc _).alloc _) hq1
    have hxy:Ext wq (w1.setCell ⟨wq.heap.size+1,2,none⟩ (.int .i64 (allE row.cells))):=Below.setCell hxx (p:=⟨wq.heap.size+1,2,none⟩) (by simp) _
    have HT:=Lib.hid (show Typed 123 (w1.setCell ⟨wq.heap.size+1,2,none⟩ (.int .i64 (allE row.cells))) (wq.heap.size+1) from Typed.setCell (Typed.ext (by have:=Typed.new_ 123 (wq.alloc (Obj.cells #[Value.bool row.back,Value.slice A' m' c'] 75)) #[Value.int IntKind.i64 q,Value.int IntKind.i64 0,Value.int IntKind.i64 0];simpa using this) hq1) _ _)
    obtain ⟨fn,tmps,assign,body,hy,hR⟩:=HY.out pre ⟨k,q,0,allE row.cells⟩ _ (HJ0.out pre wq (w1.setCell ⟨wq.heap.size+1,2,none⟩ (.int .i64 (allE row.cells))) none HJ.out.1 (zdc hxy) (fun r e=>by cases e)) HPL.out
    have HRR:=Lib.hid hR
    have HXY:=Lib.hid hxy
    clear hR hxy hxx
    dsimp only [encC] at hy
    rw [hy]
    gi_wp2
    refine HRR.out.mono ?_
    rintro e W3 (⟨rfl,hJ3,hk3⟩ | ⟨rfl,hJx3⟩)
    ·obtain ⟨hk1,hk2⟩:=zbR (HK2.out _ _ _ hk3 HT.out)
     have HJ3:=Lib.hid hJ3
     have HB3:=Lib.hid (HK1.out _ _ hk3)
     clear hJ3 hk3 hy
     gi_wp2
     refine bodyPost_ret (results_none rfl _ _ _) rfl ?_
     refine ⟨⟨_,rfl⟩,.inl ⟨_,?_,HJ3.out⟩⟩
     rw [←HV.out,HD.out,zcx,H2.out,if_pos (by simp only;exact HNE.out)]
    ·gi_wp2
     refine bodyPost_ret (results_none rfl _ _ _) rfl ?_
     refine ⟨⟨_,rfl⟩,.inr ⟨_,?_,hJx3⟩⟩
     rw [←HV.out,HD.out]
     exact List.prefix_append_right_inj pre |>.2 (zdH H2.out)
   ·have HNE:=Lib.hid (show (26:Int)≠0 by omega)
    have H2:=Lib.hid h3
    have HA:=Lib.hid h1
    have hne:(usG row.cells != q)=true:=by rw [zg5 h1];simpa using h2
    clear h1 h2 h3
    gi_wp2_with (refine ⟨trivial,?_⟩;gi_at_call 96;refine (callsIn_wide.2 (zdW m' c' A' row.cells _ (Vec.ext HW.out (by repeat (first|exact zr _|assumption|refine za ?_ _|refine zd ?_|refine zn ?_ _|refine zt ?_ (by assumption)))) hm'.out hby.out)).mono ?_;rintro e w1 ⟨rfl,hq1⟩;obtain ⟨hf1,hf2,hf3⟩:=hq1.facts;rw [HA.out])
    have hxx:Ext wq w1:=Ext.trans (((Ext.refl wq).alloc _).alloc _) hq1
    have hxy:Ext wq (w1.setCell ⟨wq.heap.size+1,2,none⟩ (.int .i64 26)):=Below.setCell hxx (p:=⟨wq.heap.size+1,2,none⟩) (by simp) _
    have HT:=Lib.hid (show Typed 123 (w1.setCell ⟨wq.heap.size+1,2,none⟩ (.int .i64 26)) (wq.heap.size+1) from Typed.setCell (Typed.ext (by have:=Typed.new_ 123 (wq.alloc (Obj.cells #[Value.bool row.back,Value.slice A' m' c'] 75)) #[Value.int IntKind.i64 q,Value.int IntKind.i64 0,Value.int IntKind.i64 0];simpa using this) hq1) _ _)
    obtain ⟨fn,tmps,assign,body,hy,hR⟩:=HY.out pre ⟨k,q,0,26⟩ _ (HJ0.out pre wq (w1.setCell ⟨wq.heap.size+1,2,none⟩ (.int .i64 26)) none HJ.out.1 (zdc hxy) (fun r e=>by cases e)) HPL.out
    have HRR:=Lib.hid hR
    have HXY:=Lib.hid hxy
    clear hR hxy hxx
    dsimp only [encC] at hy
    rw [hy]
    gi_wp2
    refine HRR.out.mono ?_
    rintro e W3 (⟨rfl,hJ3,hk3⟩ | ⟨rfl,hJx3⟩)
    ·obtain ⟨hk1,hk2⟩:=zbR (HK2.out _ _ _ hk3 HT.out)
     have HJ3:=Lib.hid hJ3
     have HB3:=Lib.hid (HK1.out _ _ hk3)
     clear hJ3 hk3 hy
     gi_wp2
     refine bodyPost_ret (results_none rfl _ _ _) rfl ?_
     refine ⟨⟨_,rfl⟩,.inl ⟨_,?_,HJ3.out⟩⟩
     rw [←HV.out,HD.out,zcx,H2.out,if_pos (by simp only;exact HNE.out)]
    ·gi_wp2
     refine bodyPost_ret (results_none rfl _ _ _) rfl ?_
     refine ⟨⟨_,rfl⟩,.inr ⟨_,?_,hJx3⟩⟩
     rw [←HV.out,HD.out]
     exact List.prefix_append_right_inj pre |>.2 (zdH H2.out)
   ·have H2:=Lib.hid h3
    have HA:=Lib.hid h1
    have HU:=Lib.hid (show usG row.cells=q by rw [zg5 h1];exact h2)
    have HM:=Lib.hid (zlt h1)
    clear h1 h2 h3
    gi_wp2_with (first | (refine ⟨trivial,?_⟩;gi_at_call 96;refine (callsIn_wide.2 (zdW m' c' A' row.cells _ (Vec.ext HW.out (by repeat (first|exact zr _|assumption|refine za ?_ _|refine zd ?_|refine zn ?_ _|refine zt ?_ (by assumption)))) hm'.out hby.out)).mono ?_;rintro e w1 ⟨rfl,hq1⟩;obtain ⟨hf1,hf2,hf3⟩:=hq1.facts;rw [HA.out,HU.out]) | (refine ⟨trivial,?_⟩;gi_at_call 97;refine (callsIn_wide.2 (ziM m' c' A' row.cells _ (Vec.ext HW.out (by repeat (first|exact zr _|assumption|refine za ?_ _|refine zd ?_|refine zn ?_ _|refine zt ?_ (by assumption)))) hm'.out hby.out)).mono ?_;rintro e w2 ⟨rfl,hq2⟩;have hq9:=Ext.trans hq1 hq2;obtain ⟨hg1,hg2,hg3⟩:=hq9.facts;rw [HA.out,HM.out]))
    have hxx:Ext wq w2:=Ext.trans (((Ext.refl wq).alloc _).alloc _) hq9
    have hxy:Ext wq (w2.setCell ⟨wq.heap.size+1,1,none⟩ (.int .i64 (mkL row.cells))):=Below.setCell hxx (p:=⟨wq.heap.size+1,1,none⟩) (by simp) _
    have HT:=Lib.hid (show Typed 123 (w2.setCell ⟨wq.heap.size+1,1,none⟩ (.int .i64 (mkL row.cells))) (wq.heap.size+1) from Typed.setCell (Typed.ext (by have:=Typed.new_ 123 (wq.alloc (Obj.cells #[Value.bool row.back,Value.slice A' m' c'] 75)) #[Value.int IntKind.i64 q,Value.int IntKind.i64 0,Value.int IntKind.i64 0];simpa using this) hq9) _ _)
    obtain ⟨fn,tmps,assign,body,hy,hR⟩:=HY.out pre ⟨k,q,mkL row.cells,0⟩ _ (HJ0.out pre wq (w2.setCell ⟨wq.heap.size+1,1,none⟩ (.int .i64 (mkL row.cells))) none HJ.out.1 (zdc hxy) (fun r e=>by cases e)) HPL.out
    have HRR:=Lib.hid hR
    have HXY:=Lib.hid hxy
    clear hR hxy hxx
    dsimp only [encC] at hy
    rw [hy]
    gi_wp2
    refine HRR.out.mono ?_
    rintro e W3 (⟨rfl,hJ3,hk3⟩ | ⟨rfl,hJx3⟩)
    ·obtain ⟨hk1,hk2⟩:=zbR (HK2.out _ _ _ hk3 HT.out)
     have HJ3:=Lib.hid hJ3
     have HB3:=Lib.hid (HK1.out _ _ hk3)
     clear hJ3 hk3 hy
     gi_wp2
     go_roundw
     case rel =>
      refine ⟨k+1,mkL row.cells,pre++[⟨k,q,mkL row.cells,0⟩],by go_num,rfl,by omega,by have:=hpl2.out;simp;omega,Lib.hid ?_,Lib.hid ⟨HJ3.out,?_,?_⟩⟩
      ·rw [←HV.out,HD.out,zcx,H2.out,if_neg (by simp),List.append_assoc]
       rfl
      ·exact (HJ.out.2.1.trans ((Below.mono HXY.out (by have:=HJ.out.2.2;omega)))).trans HB3.out
      ·have h1:=HJ.out.2.2
       have h2:=Below.size HXY.out
       have h3:=HB3.out.size
       omega
     case measure=>simp [intOf];omega
    ·gi_wp2
     refine bodyPost_ret (results_none rfl _ _ _) rfl ?_
     refine ⟨⟨_,rfl⟩,.inr ⟨_,?_,hJx3⟩⟩
     rw [←HV.out,HD.out]
     exact List.prefix_append_right_inj pre |>.2 (zdH H2.out)
  ·obtain rfl:k=m:=by omega
   have HE:=Lib.hid (show pre=visG 0 s rows by
    have:=HV.out
    rw [List.drop_of_length_le (by rw [HL.out];omega)] at this
    simpa [visG] using this)
   gi_wp2
   go_end0
   exact ⟨⟨_,rfl⟩,.inl ⟨_,HE.out,HJ.out.1⟩⟩
end Go.Proofs.YtkneghkbgingdaaGreatDoor
/- The iterator over rows as it is ranged over;the contract of Check of charts. -/
namespace Go.Proofs.YtkneghkbgingdaaGreatDoor
set_option maxRecDepth 100000
open Go.RowKit Go.ChangeShapes Go.WideShapes Go.Joins Go.Shelf
attribute [local go_sem] Oper.semAt_some
theorem zfT (s:Int) (A:Option Addr) (m c:Nat) (w:World) :
  Calls Tryz.prog 67 #[.agg #[.int .i64 s,.slice A m c]] w fun e w'=>e = .returned (.func (.func 95) #[] #[.pointer (some ⟨w.heap.size,0,none⟩)])∧w'=w.alloc (.cells #[.int .i64 s,.slice A m c] 24):=by
 go_enter Tryz.func67,Tryz.ntmps67
 go_wp2
 go_ret
 exact ⟨rfl,rfl⟩
theorem zd3 (n Bc n₀:Nat) (s:Int) (A:Option Addr) (m c:Nat) (rows:List Ro) (Kp:World→World→Prop) (hn:1≤n)
  (hK1:∀A B,Kp A B→Below n₀ A B) (hK2:∀(A B:World) (b:Nat),Kp A B→Typed 123 A b→B.heap[b]?=A.heap[b]?) (w:World) (hBc:Bc<w.heap.size) (hn₀:n₀≤w.heap.size)
  (hc0:w.cell? ⟨Bc,0,none⟩=some (.int .i64 s)) (hc1:w.cell? ⟨Bc,1,none⟩=some (.slice A m c)) (hr:Rws w (fun b=>b<n₀) A m rows) :
  SeqStopsK Fence.wide n Tryz.prog 95 #[.pointer (some ⟨Bc,0,none⟩)] encC Kp (fun ys=>ys=visG 0 s rows) (fun pre=>pre <+: visG 0 s rows) rows.length w:=fun l J Jx W hW hJ _ hY h0 =>
 zge n l Bc n₀ s A m c rows Kp hn hK1 hK2 J Jx W hJ (Nat.le_trans hn₀ hW.size) hY ((hW.cell (p:=⟨Bc,0,none⟩) hBc).trans hc0) ((hW.cell (p:=⟨Bc,1,none⟩) hBc).trans hc1) (hr.ext hW) h0
theorem KpT.trans {n₀:Nat} {T:TypeId} {A B C:World} (h:KpT n₀ T A B) (k:KpT n₀ T B C):KpT n₀ T A C:=by
 refine ⟨h.1.trans k.1,fun b ht=>?_⟩
 have h1:=h.2 b ht
 have ht':Typed T B b:=by obtain ⟨cs,f,hc⟩:=ht;exact ⟨cs,f,by rw [h1];exact hc⟩
 rw [k.2 b ht',h1]
theorem KpT.put {n₀:Nat} {T:TypeId} {w:World} (hn:n₀≤w.heap.size) (W:World) (l:Nat) (o o':Obj) (hl:w.heap.size≤l) (h:W.heap[l]?=some o) (hc:o.isCells=false) (hw:o.isWalk=false):KpT n₀ T W (W.putObj l o'):=by
 refine ⟨belowK_b hn W l o o' hl h hc hw,fun b ht=>World.putObj_heap_other (fun e=>?_)⟩
 subst e
 obtain ⟨cs,f,ht⟩:=ht
 rw [h] at ht
 cases ht
 simp [Obj.isCells] at hc
theorem KpT.alloc {n₀:Nat} {T:TypeId} {W:World} (hn:n₀≤W.heap.size) (o:Obj):KpT n₀ T W (W.alloc o) :=
 ⟨(Below.refl _ _).alloc hn _,fun b ht=>by obtain ⟨cs,f,ht⟩:=ht;exact Below.heap_alloc _ _ _ (Array.getElem?_eq_some_iff.1 ht).1⟩
theorem KpT.refl (n₀:Nat) (T:TypeId) (W:World):KpT n₀ T W W:=⟨Below.refl _ _,fun _ _=>rfl⟩
theorem zio {W:World} {a:Addr} {v:Value} (o:Obj) (h:W.cell? a=some v):(W.alloc o).cell? a=some v:=cell_kept h (World.grownBy_alloc W o none) (fun r e=>by cases e)
theorem zf5 {W:World} {a:Addr} {v:Value} (o:Obj) (h:W.cell? a=some v) (hf:W.frozen? a=false):(W.alloc o).frozen? a=false:=(frozen_kept h (World.grownBy_alloc W o none) (fun r e=>by cases e)).trans hf
def chkF (w:World) (s:Int) (A:Option Addr) (m c:Nat) (v4 v19 v20:Value):Act :=
 { tmps:=#[.agg #[.int .i64 s,.slice A m c],.pointer (some ⟨w.heap.size,0,none⟩),.pointer (some ⟨w.heap.size+1,0,none⟩),undef,v4,.pointer (some ⟨w.heap.size,1,none⟩),.slice A m c,.int .i64 m,.bool false,
   .pointer (some ⟨w.heap.size,0,none⟩),.int .i64 s,.bool false,.bool false,.pointer (some ⟨w.heap.size,0,none⟩),.int .i64 s,.bool false,.bool false,.agg #[.int .i64 s,.slice A m c],
   .func (.func 95) #[] #[.pointer (some ⟨w.heap.size+1+1,0,none⟩)],v19,v20,undef,undef,undef,undef,undef],defers:=[] }
theorem zdg:∀args w,(callFunc 95 args).run Tryz.prog w = .ok (.enter 95 args) w:=enters_of Tryz.func95 (by kernel_rfl) rfl
theorem Typed.lt {T:TypeId} {w:World} {b:Nat} (h:Typed T w b):b<w.heap.size:=by
 obtain ⟨cs,f,h⟩:=h
 exact (Array.getElem?_eq_some_iff.1 h).1
def chkI (w:World) (pre:List Cn) (W:World):Prop:=((∀y∈pre,y.e=0)∧W.cell? ⟨w.heap.size+1,0,none⟩=some (.int .i64 0)∧W.frozen? ⟨w.heap.size+1,0,none⟩=false)∧Below w.heap.size w W
def chkX (w:World) (c:Code) (pre:List Cn) (W:World):Prop:=(∃y,c = .ret∧y∈pre∧y.e≠0∧W.cell? ⟨w.heap.size+1,0,none⟩=some (.int .i64 y.e))∧Below w.heap.size w W
def chkA (w:World) (s:Int) (A:Option Addr) (m c:Nat) (x:Cn) (a':Act) (W:World):Prop :=
 ∃Bx,w.heap.size+1<Bx∧W.cell? ⟨Bx,2,none⟩=some (.int .i64 x.e)∧a'=chkF w s A m c (.pointer (some ⟨Bx,0,none⟩)) (.int .i64 x.i) (.agg #[.int .i64 x.b,.int .i64 x.a,.int .i64 x.e])
theorem ziB (W:World) (u v x:Value) (T:TypeId):(W.alloc (.cells #[u,v,x] T)).cell? ⟨W.heap.size,2,none⟩=some x:=by
 have h:(W.alloc (.cells #[u,v,x] T)).heap[W.heap.size]?=some (.cells #[u,v,x] T):=heap_alloc_new W _
 rw [cell_of_row _ W.heap.size _ _ T (0,0) h]
 rfl
set_option maxRecDepth 100000 in
set_option maxHeartbeats 4000000 in
theorem zkL (s:Int) (A:Option Addr) (m c:Nat) (rows:List Ro) (w:World) (hr:Rws w (fun _=>True) A m rows) (hm:m≤100) (hs0:0≤s) (hs1:s≤200) :
  Calls Tryz.prog 34 #[.agg #[.int .i64 s,.slice A m c]] w fun e w'=>e = .returned (.int .i64 (chkGo s rows))∧Ext w w':=by
 have HR:=Lib.hid (hr.mono (K':=fun b=>b<w.heap.size) (fun b h _=>h))
 clear hr
 have hs2:decide (s<0)=false:=by simp;omega
 have hs3:decide (200<s)=false:=by simp;omega
 have hm3:decide ((100:Int)<(m:Int))=false:=by simp;omega
 refine (callsIn_wide (n:=3)).1 ?_
 refine callsIn_of_wp_marks Tryz.func34 rfl trivial ?_ rfl
 simp only [Tryz.ntmps34,List.size_toArray,List.length_cons,List.length_nil,Nat.reduceAdd,Nat.reduceSub,Array.replicate_succ,Array.replicate_zero,List.push_toArray,List.append_toArray,List.nil_append,List.cons_append]
 gi_wp2_with (refine ⟨trivial,?_⟩;gi_at_call 67;refine (callsIn_wide.2 (zfT s A m c _)).mono ?_;rintro e w' ⟨rfl,rfl⟩)
 clear hs2 hs3 hm3
 obtain ⟨W0,hW0⟩:∃W0,((w.alloc (Obj.cells #[Value.int IntKind.i64 s,Value.slice A m c] 24)).alloc (Obj.cells #[Value.int IntKind.i64 0] 26)).alloc (Obj.cells #[Value.int IntKind.i64 s,Value.slice A m c] 24)=W0:=⟨_,rfl⟩
 have hsz:W0.heap.size=w.heap.size+3:=by rw [←hW0];simp
 have hB0:Below w.heap.size w W0:=by rw [←hW0];exact (((Below.refl _ w).alloc (Nat.le_refl _) _).alloc (by simp) _).alloc (by simp;omega) _
 have hc0:W0.cell? ⟨w.heap.size+1+1,0,none⟩=some (.int .i64 s):=by rw [←hW0];simp [go_sem]
 have hc1:W0.cell? ⟨w.heap.size+1+1,1,none⟩=some (.slice A m c):=by rw [←hW0];simp [go_sem]
 have hc2:W0.cell? ⟨w.heap.size+1,0,none⟩=some (.int .i64 0):=by rw [←hW0];simp [go_sem]
 have hc3:W0.frozen? ⟨w.heap.size+1,0,none⟩=false:=by rw [←hW0];simp [go_sem]
 rw [hW0]
 clear hW0
 refine wpIn_rangeFunc_ownH (F:=Fence.wide) (n:=3) rfl (by omega) (gf:=95) (lb:=#[.pointer (some ⟨w.heap.size+1+1,0,none⟩)]) rfl trivial zdg
  (zd3 2 (w.heap.size+1+1) w.heap.size s A m c rows (KpT w.heap.size 123) (by omega) (fun _ _ h=>h.1) (fun _ _ b h=>h.2 b) W0 (by omega) (by omega) hc0 hc1 (HR.out.ext hB0))
  (fun h k=>KpT.trans h k) (KpT.put (by omega)) (Below.refl _ _) (fun _=>rfl)
  (chkI w) (chkX w)
  (OwnFrom.and (Own.from (fun s A B row hs hg hr=>⟨hs.1,cell_kept hs.2.1 hg hr,(frozen_kept hs.2.1 hg hr).trans hs.2.2⟩) _) (ownFrom_below (by omega) (by omega)))
  (fun c=>OwnFrom.and (Own.from (fun s A B row hs hg hr=>by obtain ⟨y,h1,h2,h3,h4⟩:=hs;exact ⟨y,h1,h2,h3,cell_kept h4 hg hr⟩) _) (ownFrom_below (by omega) (by omega)))
  ⟨⟨by simp,hc2,hc3⟩,hB0⟩
  (chkA w s A m c)
  (fun x a'=>Own.from (fun _ A B row hs hg hr=>by obtain ⟨Bx,h1,h2,h3⟩:=hs;exact ⟨Bx,h1,cell_kept h2 hg hr,h3⟩) _) ?assign ?body ?done ?stop
 case assign =>
  rintro l pre x W K ⟨⟨hp,hi1,hi2⟩,hB⟩ hK
  have hlt:=World.block_lt_of_cell? W _ hi1
  simp only at hlt
  unfold encC
  gi_wp2
  exact hK _ _ ((KeepsOthers.alloc _ _).from _) (KpT.alloc (by omega) _) ⟨⟨hp,zio _ hi1,zf5 _ hi1 hi2⟩,hB.alloc (by omega) _⟩ ⟨W.heap.size,by omega,ziB _ _ _ _ _,rfl⟩
 case body =>
  rintro l pre x a' W _ _ ⟨⟨hp,hi1,hi2⟩,hB⟩ ⟨Bx,hBx,hcx,rfl⟩ _
  unfold chkF
  by_cases hxe:x.e=0
  ·have HX:=Lib.hid hxe
   rw [hxe] at hcx
   clear hxe
   gi_wp2
   exact ⟨(KeepsOthers.refl _).from _,KpT.refl _ _ _,⟨fun y hy=>(List.mem_append.1 hy).elim (hp y) (fun e=>by simp at e;subst e;exact HX.out),hi1,hi2⟩,hB⟩
  ·have hb:(x.e != 0)=true:=by simpa using hxe
   gi_wp2
   exact ⟨(KeepsOthers.setCell _ _ _).from _,⟨x,rfl,by simp,hxe,World.cell?_setCell_same' _ _ _ (by rw [hi1];rfl)⟩,hB.setCell (p:=⟨w.heap.size+1,0,none⟩) (by simp) _⟩
 case done =>
  rintro D ys W hD rfl ⟨⟨hp,hi1,hi2⟩,hB⟩ hK
  have HG:=Lib.hid (zm6 hp)
  gi_wp2
  have hK':=(KeepsOthers.setCell W ⟨w.heap.size+1,0,none⟩ (.int .i64 0)).same D _ hK rfl
  refine ⟨by simp,.inl ⟨_,_,rfl,run_takeDeferred hK',?_⟩⟩
  have hc5:=cell_kept (World.cell?_setCell_same' W ⟨w.heap.size+1,0,none⟩ (.int .i64 0) (by rw [hi1];rfl)) (grownBy_putObj' _ D (.deferred none)) (fun r e=>by cases e;exact ⟨_,hK',rfl⟩)
  refine ⟨.int .i64 0,?_,by rw [HG.out],(hB.setCell (p:=⟨w.heap.size+1,0,none⟩) (by simp) _).trans (belowK_b (w:=w) (Nat.le_refl _) _ D _ _ (by omega) hK' rfl rfl)⟩
  simp [results,Tryz.f34,go_sem,hc5]
 case stop =>
  rintro D c pre W hD hpre ⟨⟨y,rfl,hy,hye,hi1⟩,hB⟩ hK
  have HG:=Lib.hid (zmf (hpre.subset hy) hye)
  gi_wp2
  refine ⟨by simp,.inl ⟨_,_,rfl,run_takeDeferred hK,?_⟩⟩
  have hc5:=cell_kept hi1 (grownBy_putObj' _ D (.deferred none)) (fun r e=>by cases e;exact ⟨_,hK,rfl⟩)
  refine ⟨.int .i64 y.e,?_,by rw [HG.out],hB.trans (belowK_b (w:=w) (Nat.le_refl _) W D _ _ (by omega) hK rfl rfl)⟩
  simp [results,Tryz.f34,go_sem,hc5]
set_option maxRecDepth 100000 in
set_option maxHeartbeats 1000000 in
theorem zds (s:Int) (A:Option Addr) (m c:Nat) (rows:List Ro) (w:World) (hr:Rws w (fun _=>True) A m rows) :
  Calls Tryz.prog 34 #[.agg #[.int .i64 s,.slice A m c]] w fun e w'=>e = .returned (.int .i64 (chkC s rows))∧Ext w w':=by
 have hl:=hr.len
 have hmm:=hr.1
 by_cases h1:100<m
 ·have HE:=Lib.hid (show chkC s rows=4 by rw [chkC,if_pos (by omega)])
  unfold maxLen at hmm
  clear hr hl
  go_enter Tryz.func34,Tryz.ntmps34
  go_wp2_with fail
  exact bodyPost_ret (v := .int .i64 4) (by simp [results,Tryz.f34,go_sem]) rfl ⟨by rw [HE.out],by repeat (first | exact Ext.refl _ | refine Ext.alloc ?_ _ | refine Below.setCell ?_ (by simp) _)⟩
 by_cases h2:s<0
 ·have HE:=Lib.hid (show chkC s rows=8 by rw [chkC,if_neg (by omega),if_pos (.inl h2)])
  have hm3:decide ((100:Int)<(m:Int))=false:=by simp;omega
  clear hr hl
  go_enter Tryz.func34,Tryz.ntmps34
  go_wp2_with fail
  exact bodyPost_ret (v := .int .i64 8) (by simp [results,Tryz.f34,go_sem]) rfl ⟨by rw [HE.out],by repeat (first | exact Ext.refl _ | refine Ext.alloc ?_ _ | refine Below.setCell ?_ (by simp) _)⟩
 by_cases h3:200<s
 ·have HE:=Lib.hid (show chkC s rows=8 by rw [chkC,if_neg (by omega),if_pos (.inr h3)])
  have hm3:decide ((100:Int)<(m:Int))=false:=by simp;omega
  have hs2:decide (s<0)=false:=by simp;omega
  clear hr hl
  go_enter Tryz.func34,Tryz.ntmps34
  go_wp2_with fail
  exact bodyPost_ret (v := .int .i64 8) (by simp [results,Tryz.f34,go_sem]) rfl ⟨by rw [HE.out],by repeat (first | exact Ext.refl _ | refine Ext.alloc ?_ _ | refine Below.setCell ?_ (by simp) _)⟩
 have:=zkL s A m c rows w hr (by omega) (by omega) (by omega)
 have e:chkC s rows=chkGo s rows:=by rw [chkC,if_neg (by omega),if_neg (by omega)]
 rw [e]
 exact this
end Go.Proofs.YtkneghkbgingdaaGreatDoor
/- What gauge computes,in plain Lean. -/
namespace Go.Proofs.YtkneghkbgingdaaGreatDoor
set_option maxRecDepth 100000
end Go.Proofs.YtkneghkbgingdaaGreatDoor
