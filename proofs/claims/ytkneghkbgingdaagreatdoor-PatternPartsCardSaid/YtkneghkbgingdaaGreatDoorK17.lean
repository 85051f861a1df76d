/- The iterator over the rows of a chart: its contract. -/
import Derived.RangeFuncNested
import Derived.RangeFuncBound
import Derived.RangeFuncCalls
import Derived.RangeFuncLeaves
import Derived.Shelf.Abstract
import Derived.Shelf.RegionOpen
import Derived.OwnWalkIn
import Derived.TacticsInMore
import Derived.LoopNIn
import Derived.LoopIn
import Derived.Test.YtkneghkbgingdaaGreatDoorK16
import Derived.RangeFuncBox
import Derived.RangeFuncFrom
import Derived.Laws.CopyOwn
set_option maxHeartbeats 16000000
namespace Go.Proofs.YtkneghkbgingdaaGreatDoor
set_option maxRecDepth 100000
open Go.RowKit Go.ChangeShapes Go.WideShapes Go.Joins Go.Shelf
attribute [local go_sem] Oper.semAt_some
def Typed (T:TypeId) (w:World) (b:Nat):Prop:=∃cs f,w.heap[b]?=some (Obj.cells cs T f)
theorem Typed.setCell {T:TypeId} {w:World} {b:Nat} (h:Typed T w b) (p:Addr) (u:Value):Typed T (w.setCell p u) b:=by
 obtain ⟨cs,f,h⟩:=h
 by_cases e:b=p.block
 ·refine ⟨if p.spot.isSome then cs else cs.setIfInBounds p.off u,f,?_⟩
  simp only [World.setCell,Array.getElem?_modify]
  rw [if_pos e.symm,h]
  rfl
 ·exact ⟨cs,f,by rw [Below.heap_setCell w p u b e];exact h⟩
theorem Typed.ext {T:TypeId} {w w':World} {b:Nat} (h:Typed T w b) (hb:Ext w w'):Typed T w' b:=by
 obtain ⟨cs,f,h⟩:=h
 exact ⟨cs,f,by rw [hb.block b (Zn.1 h).1];exact h⟩
theorem Typed.new_ (T:TypeId) (w:World) (cs:Array Value):Typed T (w.alloc (.cells cs T)) w.heap.size:=⟨cs,(0,0),heap_alloc_new w _⟩
theorem Typed.drew {T:TypeId} {w:World} {b:Nat} (h:Typed T w b):Typed T w.drew b:=h
def KpT (n₀:Nat) (T:TypeId) (A B:World):Prop:=Below n₀ A B∧∀b:Nat,Typed T A b→B.heap[b]?=A.heap[b]?
theorem zb0 {A B:World} {b:Nat} (h:B.heap[b]?=A.heap[b]?):(∀o,B.cell? ⟨b,o,none⟩=A.cell? ⟨b,o,none⟩)∧(∀o,B.frozen? ⟨b,o,none⟩=A.frozen? ⟨b,o,none⟩) :=
 ⟨fun o=>World.cell?_of_block (a:=⟨b,o,none⟩) h,fun o=>World.frozen?_of_block (a:=⟨b,o,none⟩) h⟩
def encC (x:Cn):Array Value:=#[.int .i64 x.i,.agg #[.int .i64 x.b,.int .i64 x.a,.int .i64 x.e]]
theorem zc3 {i:Nat} {n:Int} {r:Ro} {rs:List Ro}:visG i n (r::rs)=if (cnE i n r).e≠0 then [cnE i n r] else cnE i n r::visG (i+1) (cnE i n r).a rs:=rfl
theorem zew {i:Nat} {n:Int} {r:Ro} {rs:List Ro} {x:Cn} (h:cnE i n r=x):[x] <+: visG i n (r::rs):=by
 rw [zc3,h]
 split
 ·exact List.prefix_refl _
 ·exact ⟨_,rfl⟩
theorem zda {a b:World} (h:Ext a b):a.grownBy b none:=But.of_ext h none
theorem zhf {l:List St} (h:allE l=0):usG l=usL l:=by rw [usG,if_pos h]
theorem zlN {l:List St} (h:allE l=0):mkG l=mkL l:=by rw [mkG,if_pos h]
set_option maxRecDepth 100000 in
theorem zfG (n l Bc n₀:Nat) (s:Int) (A:Option Addr) (m c:Nat) (rows:List Ro) (Kp:World→World→Prop) (hn:1≤n)
  (hK1:∀A B,Kp A B→Below n₀ A B) (hK2:∀(A B:World) (b:Nat),Kp A B→Typed 123 A b→B.heap[b]?=A.heap[b]?)
  (J Jx:List Cn→World→Prop) (W:World) (hJ:AbidesFrom W.heap.size J) (hn₀:n₀≤W.heap.size)
  (hY:∀pre x W,J pre W→pre.length<rows.length→YieldAt Fence.wide (n-1) Tryz.prog l (encC x) W fun e W' =>
   (e = .returned (.bool true)∧J (pre++[x]) W'∧Kp W W')∨(e = .returned (.bool false)∧Jx (pre++[x]) W'))
  (hc0:W.cell? ⟨Bc,0,none⟩=some (.int .i64 s)) (hc1:W.cell? ⟨Bc,1,none⟩=some (.slice A m c)) (hr:Rws W (fun b=>b<n₀) A m rows) (h0:J [] W) :
  CallsIn Fence.wide n Tryz.prog 95 #[.func (.yield l) #[] #[],.pointer (some ⟨Bc,0,none⟩)] W fun e W'=>(∃v,e = .returned v) ∧
   ((∃ys,ys=visG 0 s rows∧J ys W')∨(∃pre,pre <+: visG 0 s rows∧Jx pre W')):=by
 have hml:=hr.len
 have hmm:=hr.1
 unfold maxLen at hmm
 have hm2:(m:Int)≤9223372036854775807:=by omega
 have HR:=Za hr
 have HL:=Za hml
 have HK1:=Za hK1
 have HK2:=Za hK2
 have HJ0:=Za hJ
 have HY:=Za hY
 clear hr hml hmm hK1 hK2 hJ hY
 refine callsIn_of_wp Tryz.func95 rfl trivial ?_ rfl
 simp only [Tryz.ntmps95,List.size_toArray,Zk,List.length_nil,Nat.reduceAdd,Nat.reduceSub,Array.replicate_succ,Array.replicate_zero,List.push_toArray,List.append_toArray,List.nil_append,ZU]
 gi_wp2
 gi_loopw [3,14] (fun u i wr=>∃(k:Nat) (q:Int) (pre:List Cn),i = .int .i64 k∧u = .int .i64 q∧k≤m∧pre.length=k∧Hid (pre++visG k q (rows.drop k)=visG 0 s rows)∧Hid (J pre wr∧Below n₀ W wr∧W.heap.size≤wr.heap.size)) (fun _ i _=>m-(intOf i).toNat)
 case atStart=>exact ⟨0,s,[],rfl,rfl,Zu _,rfl,Za (by simp),Za ⟨h0,Below.refl _ _,Zf _⟩⟩
 case round =>
  obtain ⟨k,q,pre,rfl,rfl,hk,hpl,HV,HJ⟩:=hrel
  by_cases hlt:k<m
  ·obtain ⟨b,off,A',m',c',rfl,hb0,hbK,d0,d1,hv,hm',hby,hbK'⟩:=HR.out.at_ hlt
   have q0:(0:Int)≤(k:Int):=by omega
   have q1:(k:Int)<(m:Int):=by omega
   have c0:=(HJ.out.2.1.cell (p:=⟨b,off+k*2,none⟩) hbK).trans d0
   have c1:=(HJ.out.2.1.cell (p:=⟨b,off+k*2+1,none⟩) hbK).trans d1
   have hz:b<wr.heap.size:=by have:=HJ.out.2.2;omega
   have HW:=Za (show Vec shSt wr A' m' (rows.getD k ro0).cells from hv.keepK hbK' (HJ.out.2.2) (fun b' _ hb' o=>HJ.out.2.1.cell (p:=⟨b',o,none⟩) hb'))
   have HD:=Za (zlJ (l:=rows) (k:=k) (by rw [HL.out];exact hlt))
   have hby:=Za hby
   have hm':=Za hm'
   clear d0 d1 hv hbK'
   obtain ⟨wq,rfl⟩:∃wq:World,wq=wr:=⟨_,rfl⟩
   generalize hrow:rows.getD k ro0=row at *
   clear hrow
   have HPL:=Za (show pre.length<rows.length by rw [HL.out];omega)
   have hpl2:=Za hpl
   clear hpl
   rcases zka k q row with ⟨h1,h2⟩ | ⟨h1,h2,h3⟩ | ⟨h1,h2,h3⟩
   ·have HNE:=Za h1
    have H2:=Za h2
    have hne:(allE row.cells != 0)=true:=by simpa using h1
    clear h1 h2
    gi_wp2_with (refine ⟨trivial,?_⟩;gi_at_call 96;refine (callsIn_wide.2 (zev m' c' A' row.cells _ (Vec.ext HW.out zx) hm'.out hby.out)).mono ?_;rintro e w1 ⟨rfl,hq1⟩;obtain ⟨hf1,hf2,hf3⟩:=hq1.facts)
    have hxx:Ext wq w1:=Zb (((Zd wq).alloc _).alloc _) hq1
    have hxy:Ext wq (w1.setCell ⟨wq.heap.size+1,2,none⟩ (.int .i64 (allE row.cells))):=Zi hxx (p:=⟨wq.heap.size+1,2,none⟩) (by simp) _
    have HT:=Za (show Typed 123 (w1.setCell ⟨wq.heap.size+1,2,none⟩ (.int .i64 (allE row.cells))) (wq.heap.size+1) from Typed.setCell (Typed.ext (by have:=Typed.new_ 123 (wq.alloc (Obj.cells #[Value.bool row.back,Value.slice A' m' c'] 75)) #[Value.int IntKind.i64 q,Value.int IntKind.i64 0,Value.int IntKind.i64 0];simpa using this) hq1) _ _)
    obtain ⟨fn,tmps,assign,body,hy,hR⟩:=HY.out pre ⟨k,q,0,allE row.cells⟩ _ (HJ0.out pre wq (w1.setCell ⟨wq.heap.size+1,2,none⟩ (.int .i64 (allE row.cells))) none HJ.out.1 (zda hxy) (fun r e=>by cases e)) HPL.out
    have HRR:=Za hR
    have HXY:=Za hxy
    clear hR hxy hxx
    dsimp only [encC] at hy
    rw [hy]
    gi_wp2
    refine HRR.out.mono ?_
    rintro e W3 (⟨rfl,hJ3,hk3⟩ | ⟨rfl,hJx3⟩)
    ·obtain ⟨hk1,hk2⟩:=zb0 (HK2.out _ _ _ hk3 HT.out)
     have HJ3:=Za hJ3
     have HB3:=Za (HK1.out _ _ hk3)
     clear hJ3 hk3 hy
     gi_wp2
     refine bodyPost_ret (results_none rfl _ _ _) rfl ?_
     refine ⟨⟨_,rfl⟩,.inl ⟨_,?_,HJ3.out⟩⟩
     rw [←HV.out,HD.out,zc3,H2.out,if_pos (by simp only;exact HNE.out)]
    ·gi_wp2
     refine bodyPost_ret (results_none rfl _ _ _) rfl ?_
     refine ⟨⟨_,rfl⟩,.inr ⟨_,?_,hJx3⟩⟩
     rw [←HV.out,HD.out]
     exact List.prefix_append_right_inj pre |>.2 (zew H2.out)
   ·have HNE:=Za (show (26:Int)≠0 by omega)
    have H2:=Za h3
    have HA:=Za h1
    have hne:(usG row.cells != q)=true:=by rw [zhf h1];simpa using h2
    clear h1 h2 h3
    gi_wp2_with (refine ⟨trivial,?_⟩;gi_at_call 96;refine (callsIn_wide.2 (zev m' c' A' row.cells _ (Vec.ext HW.out zx) hm'.out hby.out)).mono ?_;rintro e w1 ⟨rfl,hq1⟩;obtain ⟨hf1,hf2,hf3⟩:=hq1.facts;rw [HA.out])
    have hxx:Ext wq w1:=Zb (((Zd wq).alloc _).alloc _) hq1
    have hxy:Ext wq (w1.setCell ⟨wq.heap.size+1,2,none⟩ (.int .i64 26)):=Zi hxx (p:=⟨wq.heap.size+1,2,none⟩) (by simp) _
    have HT:=Za (show Typed 123 (w1.setCell ⟨wq.heap.size+1,2,none⟩ (.int .i64 26)) (wq.heap.size+1) from Typed.setCell (Typed.ext (by have:=Typed.new_ 123 (wq.alloc (Obj.cells #[Value.bool row.back,Value.slice A' m' c'] 75)) #[Value.int IntKind.i64 q,Value.int IntKind.i64 0,Value.int IntKind.i64 0];simpa using this) hq1) _ _)
    obtain ⟨fn,tmps,assign,body,hy,hR⟩:=HY.out pre ⟨k,q,0,26⟩ _ (HJ0.out pre wq (w1.setCell ⟨wq.heap.size+1,2,none⟩ (.int .i64 26)) none HJ.out.1 (zda hxy) (fun r e=>by cases e)) HPL.out
    have HRR:=Za hR
    have HXY:=Za hxy
    clear hR hxy hxx
    dsimp only [encC] at hy
    rw [hy]
    gi_wp2
    refine HRR.out.mono ?_
    rintro e W3 (⟨rfl,hJ3,hk3⟩ | ⟨rfl,hJx3⟩)
    ·obtain ⟨hk1,hk2⟩:=zb0 (HK2.out _ _ _ hk3 HT.out)
     have HJ3:=Za hJ3
     have HB3:=Za (HK1.out _ _ hk3)
     clear hJ3 hk3 hy
     gi_wp2
     refine bodyPost_ret (results_none rfl _ _ _) rfl ?_
     refine ⟨⟨_,rfl⟩,.inl ⟨_,?_,HJ3.out⟩⟩
     rw [←HV.out,HD.out,zc3,H2.out,if_pos (by simp only;exact HNE.out)]
    ·gi_wp2
     refine bodyPost_ret (results_none rfl _ _ _) rfl ?_
     refine ⟨⟨_,rfl⟩,.inr ⟨_,?_,hJx3⟩⟩
     rw [←HV.out,HD.out]
     exact List.prefix_append_right_inj pre |>.2 (zew H2.out)
   ·have H2:=Za h3
    have HA:=Za h1
    have HU:=Za (show usG row.cells=q by rw [zhf h1];exact h2)
    have HM:=Za (zlN h1)
    clear h1 h2 h3
    gi_wp2_with (first | (refine ⟨trivial,?_⟩;gi_at_call 96;refine (callsIn_wide.2 (zev m' c' A' row.cells _ (Vec.ext HW.out zx) hm'.out hby.out)).mono ?_;rintro e w1 ⟨rfl,hq1⟩;obtain ⟨hf1,hf2,hf3⟩:=hq1.facts;rw [HA.out,HU.out]) | (refine ⟨trivial,?_⟩;gi_at_call 97;refine (callsIn_wide.2 (ziS m' c' A' row.cells _ (Vec.ext HW.out zx) hm'.out hby.out)).mono ?_;rintro e w2 ⟨rfl,hq2⟩;have hq9:=Zb hq1 hq2;obtain ⟨hg1,hg2,hg3⟩:=hq9.facts;rw [HA.out,HM.out]))
    have hxx:Ext wq w2:=Zb (((Zd wq).alloc _).alloc _) hq9
    have hxy:Ext wq (w2.setCell ⟨wq.heap.size+1,1,none⟩ (.int .i64 (mkL row.cells))):=Zi hxx (p:=⟨wq.heap.size+1,1,none⟩) (by simp) _
    have HT:=Za (show Typed 123 (w2.setCell ⟨wq.heap.size+1,1,none⟩ (.int .i64 (mkL row.cells))) (wq.heap.size+1) from Typed.setCell (Typed.ext (by have:=Typed.new_ 123 (wq.alloc (Obj.cells #[Value.bool row.back,Value.slice A' m' c'] 75)) #[Value.int IntKind.i64 q,Value.int IntKind.i64 0,Value.int IntKind.i64 0];simpa using this) hq9) _ _)
    obtain ⟨fn,tmps,assign,body,hy,hR⟩:=HY.out pre ⟨k,q,mkL row.cells,0⟩ _ (HJ0.out pre wq (w2.setCell ⟨wq.heap.size+1,1,none⟩ (.int .i64 (mkL row.cells))) none HJ.out.1 (zda hxy) (fun r e=>by cases e)) HPL.out
    have HRR:=Za hR
    have HXY:=Za hxy
    clear hR hxy hxx
    dsimp only [encC] at hy
    rw [hy]
    gi_wp2
    refine HRR.out.mono ?_
    rintro e W3 (⟨rfl,hJ3,hk3⟩ | ⟨rfl,hJx3⟩)
    ·obtain ⟨hk1,hk2⟩:=zb0 (HK2.out _ _ _ hk3 HT.out)
     have HJ3:=Za hJ3
     have HB3:=Za (HK1.out _ _ hk3)
     clear hJ3 hk3 hy
     gi_wp2
     go_roundw
     case rel =>
      refine ⟨k+1,mkL row.cells,pre++[⟨k,q,mkL row.cells,0⟩],by go_num,rfl,by omega,by have:=hpl2.out;simp;omega,Za ?_,Za ⟨HJ3.out,?_,?_⟩⟩
      ·rw [←HV.out,HD.out,zc3,H2.out,if_neg (by simp),ZJ]
       rfl
      ·exact (HJ.out.2.1.trans ((Below.mono HXY.out (by have:=HJ.out.2.2;omega)))).trans HB3.out
      ·have h1:=HJ.out.2.2
       have h2:=Zr HXY.out
       have h3:=HB3.out.size
       omega
     case measure=>simp [intOf];omega
    ·gi_wp2
     refine bodyPost_ret (results_none rfl _ _ _) rfl ?_
     refine ⟨⟨_,rfl⟩,.inr ⟨_,?_,hJx3⟩⟩
     rw [←HV.out,HD.out]
     exact List.prefix_append_right_inj pre |>.2 (zew H2.out)
  ·obtain rfl:k=m:=by omega
   have HE:=Za (show pre=visG 0 s rows by
    have:=HV.out
    rw [Z5 (by rw [HL.out];omega)] at this
    simpa [visG] using this)
   gi_wp2
   go_end0
   exact ⟨⟨_,rfl⟩,.inl ⟨_,HE.out,HJ.out.1⟩⟩
end Go.Proofs.YtkneghkbgingdaaGreatDoor
/- The iterator over rows as it is ranged over;the contract of Check of charts. -/
namespace Go.Proofs.YtkneghkbgingdaaGreatDoor
set_option maxRecDepth 100000
open Go.RowKit Go.ChangeShapes Go.WideShapes Go.Joins Go.Shelf
attribute [local go_sem] Oper.semAt_some
theorem zc8 (s:Int) (A:Option Addr) (m c:Nat) (w:World) :
  Calls Tryz.prog 67 #[.agg #[.int .i64 s,.slice A m c]] w fun e w'=>e = .returned (.func (.func 95) #[] #[.pointer (some ⟨w.heap.size,0,none⟩)])∧w'=w.alloc (.cells #[.int .i64 s,.slice A m c] 24):=by
 go_enter Tryz.func67,Tryz.ntmps67
 go_wp2
 go_ret
 exact ⟨rfl,rfl⟩
theorem zb9 (n Bc n₀:Nat) (s:Int) (A:Option Addr) (m c:Nat) (rows:List Ro) (Kp:World→World→Prop) (hn:1≤n)
  (hK1:∀A B,Kp A B→Below n₀ A B) (hK2:∀(A B:World) (b:Nat),Kp A B→Typed 123 A b→B.heap[b]?=A.heap[b]?) (w:World) (hBc:Bc<w.heap.size) (hn₀:n₀≤w.heap.size)
  (hc0:w.cell? ⟨Bc,0,none⟩=some (.int .i64 s)) (hc1:w.cell? ⟨Bc,1,none⟩=some (.slice A m c)) (hr:Rws w (fun b=>b<n₀) A m rows) :
  SeqStopsK Fence.wide n Tryz.prog 95 #[.pointer (some ⟨Bc,0,none⟩)] encC Kp (fun ys=>ys=visG 0 s rows) (fun pre=>pre <+: visG 0 s rows) rows.length w:=fun l J Jx W hW hJ _ hY h0 =>
 zfG n l Bc n₀ s A m c rows Kp hn hK1 hK2 J Jx W hJ (ZB hn₀ hW.size) hY ((hW.cell (p:=⟨Bc,0,none⟩) hBc).trans hc0) ((hW.cell (p:=⟨Bc,1,none⟩) hBc).trans hc1) (hr.ext hW) h0
theorem KpT.trans {n₀:Nat} {T:TypeId} {A B C:World} (h:KpT n₀ T A B) (k:KpT n₀ T B C):KpT n₀ T A C:=by
 refine ⟨h.1.trans k.1,fun b ht=>?_⟩
 have h1:=h.2 b ht
 have ht':Typed T B b:=by obtain ⟨cs,f,hc⟩:=ht;exact ⟨cs,f,by rw [h1];exact hc⟩
 rw [k.2 b ht',h1]
theorem KpT.put {n₀:Nat} {T:TypeId} {w:World} (hn:n₀≤w.heap.size) (W:World) (l:Nat) (o o':Obj) (hl:w.heap.size≤l) (h:W.heap[l]?=some o) (hc:o.isCells=false) (hw:o.isWalk=false):KpT n₀ T W (W.putObj l o'):=by
 refine ⟨belowK_b hn W l o o' hl h hc hw,fun b ht=>World.putObj_heap_other (fun e=>?_)⟩
 subst e
 obtain ⟨cs,f,ht⟩:=ht
 rw [h] at ht
 cases ht
 simp [Obj.isCells] at hc
theorem KpT.alloc {n₀:Nat} {T:TypeId} {W:World} (hn:n₀≤W.heap.size) (o:Obj):KpT n₀ T W (W.alloc o) :=
 ⟨(Below.refl _ _).alloc hn _,fun b ht=>by obtain ⟨cs,f,ht⟩:=ht;exact Below.heap_alloc _ _ _ (Zn.1 ht).1⟩
theorem KpT.refl (n₀:Nat) (T:TypeId) (W:World):KpT n₀ T W W:=⟨Below.refl _ _,fun _ _=>rfl⟩
theorem zic {W:World} {a:Addr} {v:Value} (o:Obj) (h:W.cell? a=some v):(W.alloc o).cell? a=some v:=cell_kept h (World.grownBy_alloc W o none) (fun r e=>by cases e)
theorem zfL {W:World} {a:Addr} {v:Value} (o:Obj) (h:W.cell? a=some v) (hf:W.frozen? a=false):(W.alloc o).frozen? a=false:=(frozen_kept h (World.grownBy_alloc W o none) (fun r e=>by cases e)).trans hf
def chkF (w:World) (s:Int) (A:Option Addr) (m c:Nat) (v4 v19 v20:Value):Act :=
 { tmps:=#[.agg #[.int .i64 s,.slice A m c],.pointer (some ⟨w.heap.size,0,none⟩),.pointer (some ⟨w.heap.size+1,0,none⟩),undef,v4,.pointer (some ⟨w.heap.size,1,none⟩),.slice A m c,.int .i64 m,.bool false,
   .pointer (some ⟨w.heap.size,0,none⟩),.int .i64 s,.bool false,.bool false,.pointer (some ⟨w.heap.size,0,none⟩),.int .i64 s,.bool false,.bool false,.agg #[.int .i64 s,.slice A m c],
   .func (.func 95) #[] #[.pointer (some ⟨w.heap.size+1+1,0,none⟩)],v19,v20,undef,undef,undef,undef,undef],defers:=[] }
theorem zbX:∀args w,(callFunc 95 args).run Tryz.prog w = .ok (.enter 95 args) w:=enters_of Tryz.func95 (by kernel_rfl) rfl
theorem Typed.lt {T:TypeId} {w:World} {b:Nat} (h:Typed T w b):b<w.heap.size:=by
 obtain ⟨cs,f,h⟩:=h
 exact (Zn.1 h).1
def chkI (w:World) (pre:List Cn) (W:World):Prop:=((∀y∈pre,y.e=0)∧W.cell? ⟨w.heap.size+1,0,none⟩=some (.int .i64 0)∧W.frozen? ⟨w.heap.size+1,0,none⟩=false)∧Below w.heap.size w W
def chkX (w:World) (c:Code) (pre:List Cn) (W:World):Prop:=(∃y,c = .ret∧y∈pre∧y.e≠0∧W.cell? ⟨w.heap.size+1,0,none⟩=some (.int .i64 y.e))∧Below w.heap.size w W
def chkA (w:World) (s:Int) (A:Option Addr) (m c:Nat) (x:Cn) (a':Act) (W:World):Prop :=
 ∃Bx,w.heap.size+1<Bx∧W.cell? ⟨Bx,2,none⟩=some (.int .i64 x.e)∧a'=chkF w s A m c (.pointer (some ⟨Bx,0,none⟩)) (.int .i64 x.i) (.agg #[.int .i64 x.b,.int .i64 x.a,.int .i64 x.e])
theorem zoK {p:Prop} (h:p:=by
 have h:(W.alloc (.cells #[u,v,x] T)).heap[W.heap.size]?=some (.cells #[u,v,x] T):=heap_alloc_new W _
 rw [cell_of_row _ W.heap.size _ _ T (0,0) h]
 rfl):p:=h
theorem zib (W:World) (u v x:Value) (T:TypeId):(W.alloc (.cells #[u,v,x] T)).cell? ⟨W.heap.size,2,none⟩=some x:=by
 exact zoK
set_option maxRecDepth 100000 in
theorem zj9 (s:Int) (A:Option Addr) (m c:Nat) (rows:List Ro) (w:World) (hr:Rws w (fun _=>True) A m rows) (hm:m≤100) (hs0:0≤s) (hs1:s≤200) :
  Calls Tryz.prog 34 #[.agg #[.int .i64 s,.slice A m c]] w fun e w'=>e = .returned (.int .i64 (chkGo s rows))∧Ext w w':=by
 have HR:=Za (hr.mono (K':=fun b=>b<w.heap.size) (fun b h _=>h))
 clear hr
 have hs2:decide (s<0)=false:=by simp;omega
 have hs3:decide (200<s)=false:=by simp;omega
 have hm3:decide ((100:Int)<(m:Int))=false:=by simp;omega
 refine (callsIn_wide (n:=3)).1 ?_
 refine callsIn_of_wp_marks Tryz.func34 rfl trivial ?_ rfl
 simp only [Tryz.ntmps34,List.size_toArray,Zk,List.length_nil,Nat.reduceAdd,Nat.reduceSub,Array.replicate_succ,Array.replicate_zero,List.push_toArray,List.append_toArray,List.nil_append,ZU]
 gi_wp2_with (refine ⟨trivial,?_⟩;gi_at_call 67;refine (callsIn_wide.2 (zc8 s A m c _)).mono ?_;rintro e w' ⟨rfl,rfl⟩)
 clear hs2 hs3 hm3
 obtain ⟨W0,hW0⟩:∃W0,((w.alloc (Obj.cells #[Value.int IntKind.i64 s,Value.slice A m c] 24)).alloc (Obj.cells #[Value.int IntKind.i64 0] 26)).alloc (Obj.cells #[Value.int IntKind.i64 s,Value.slice A m c] 24)=W0:=⟨_,rfl⟩
 have hsz:W0.heap.size=w.heap.size+3:=by rw [←hW0];simp
 have hB0:Below w.heap.size w W0:=by rw [←hW0];exact (((Below.refl _ w).alloc (Zf _) _).alloc (by simp) _).alloc (by simp;omega) _
 have hc0:W0.cell? ⟨w.heap.size+1+1,0,none⟩=some (.int .i64 s):=by rw [←hW0];simp [go_sem]
 have hc1:W0.cell? ⟨w.heap.size+1+1,1,none⟩=some (.slice A m c):=by rw [←hW0];simp [go_sem]
 have hc2:W0.cell? ⟨w.heap.size+1,0,none⟩=some (.int .i64 0):=by rw [←hW0];simp [go_sem]
 have hc3:W0.frozen? ⟨w.heap.size+1,0,none⟩=false:=by rw [←hW0];simp [go_sem]
 rw [hW0]
 clear hW0
 refine wpIn_rangeFunc_ownH (F:=Fence.wide) (n:=3) rfl (by omega) (gf:=95) (lb:=#[.pointer (some ⟨w.heap.size+1+1,0,none⟩)]) rfl trivial zbX
  (zb9 2 (w.heap.size+1+1) w.heap.size s A m c rows (KpT w.heap.size 123) (by omega) (fun _ _ h=>h.1) (fun _ _ b h=>h.2 b) W0 (by omega) (by omega) hc0 hc1 (HR.out.ext hB0))
  (fun h k=>KpT.trans h k) (KpT.put (by omega)) (Below.refl _ _) (fun _=>rfl)
  (chkI w) (chkX w)
  (OwnFrom.and (Own.from (fun s A B row hs hg hr=>⟨hs.1,cell_kept hs.2.1 hg hr,(frozen_kept hs.2.1 hg hr).trans hs.2.2⟩) _) (ownFrom_below (by omega) (by omega)))
  (fun c=>OwnFrom.and (Own.from (fun s A B row hs hg hr=>by obtain ⟨y,h1,h2,h3,h4⟩:=hs;exact ⟨y,h1,h2,h3,cell_kept h4 hg hr⟩) _) (ownFrom_below (by omega) (by omega)))
  ⟨⟨by simp,hc2,hc3⟩,hB0⟩
  (chkA w s A m c)
  (fun x a'=>Own.from (fun _ A B row hs hg hr=>by obtain ⟨Bx,h1,h2,h3⟩:=hs;exact ⟨Bx,h1,cell_kept h2 hg hr,h3⟩) _) ?assign ?body ?done ?stop
 case assign =>
  rintro l pre x W K ⟨⟨hp,hi1,hi2⟩,hB⟩ hK
  have hlt:=Zo W _ hi1
  simp only at hlt
  unfold encC
  gi_wp2
  exact hK _ _ ((KeepsOthers.alloc _ _).from _) (KpT.alloc (by omega) _) ⟨⟨hp,zic _ hi1,zfL _ hi1 hi2⟩,hB.alloc (by omega) _⟩ ⟨W.heap.size,by omega,zib _ _ _ _ _,rfl⟩
 case body =>
  rintro l pre x a' W _ _ ⟨⟨hp,hi1,hi2⟩,hB⟩ ⟨Bx,hBx,hcx,rfl⟩ _
  unfold chkF
  by_cases hxe:x.e=0
  ·have HX:=Za hxe
   rw [hxe] at hcx
   clear hxe
   gi_wp2
   exact ⟨(KeepsOthers.refl _).from _,KpT.refl _ _ _,⟨fun y hy=>(Zw.1 hy).elim (hp y) (fun e=>by simp at e;subst e;exact HX.out),hi1,hi2⟩,hB⟩
  ·have hb:(x.e != 0)=true:=by simpa using hxe
   gi_wp2
   exact ⟨(KeepsOthers.setCell _ _ _).from _,⟨x,rfl,by simp,hxe,World.cell?_setCell_same' _ _ _ (by rw [hi1];rfl)⟩,hB.setCell (p:=⟨w.heap.size+1,0,none⟩) (by simp) _⟩
 case done =>
  rintro D ys W hD rfl ⟨⟨hp,hi1,hi2⟩,hB⟩ hK
  have HG:=Za (znY hp)
  gi_wp2
  have hK':=(KeepsOthers.setCell W ⟨w.heap.size+1,0,none⟩ (.int .i64 0)).same D _ hK rfl
  refine ⟨by simp,.inl ⟨_,_,rfl,run_takeDeferred hK',?_⟩⟩
  have hc5:=cell_kept (World.cell?_setCell_same' W ⟨w.heap.size+1,0,none⟩ (.int .i64 0) (by rw [hi1];rfl)) (grownBy_putObj' _ D (.deferred none)) (fun r e=>by cases e;exact ⟨_,hK',rfl⟩)
  refine ⟨.int .i64 0,?_,by rw [HG.out],(hB.setCell (p:=⟨w.heap.size+1,0,none⟩) (by simp) _).trans (belowK_b (w:=w) (Zf _) _ D _ _ (by omega) hK' rfl rfl)⟩
  simp [results,Tryz.f34,go_sem,hc5]
 case stop =>
  rintro D c pre W hD hpre ⟨⟨y,rfl,hy,hye,hi1⟩,hB⟩ hK
  have HG:=Za (zna (hpre.subset hy) hye)
  gi_wp2
  refine ⟨by simp,.inl ⟨_,_,rfl,run_takeDeferred hK,?_⟩⟩
  have hc5:=cell_kept hi1 (grownBy_putObj' _ D (.deferred none)) (fun r e=>by cases e;exact ⟨_,hK,rfl⟩)
  refine ⟨.int .i64 y.e,?_,by rw [HG.out],hB.trans (belowK_b (w:=w) (Zf _) W D _ _ (by omega) hK rfl rfl)⟩
  simp [results,Tryz.f34,go_sem,hc5]
set_option maxRecDepth 100000 in
theorem zbh (s:Int) (A:Option Addr) (m c:Nat) (rows:List Ro) (w:World) (hr:Rws w (fun _=>True) A m rows) :
  Calls Tryz.prog 34 #[.agg #[.int .i64 s,.slice A m c]] w fun e w'=>e = .returned (.int .i64 (chkC s rows))∧Ext w w':=by
 have hl:=hr.len
 have hmm:=hr.1
 by_cases h1:100<m
 ·have HE:=Za (show chkC s rows=4 by rw [chkC,if_pos (by omega)])
  unfold maxLen at hmm
  clear hr hl
  go_enter Tryz.func34,Tryz.ntmps34
  go_wp2_with fail
  exact bodyPost_ret (v := .int .i64 4) (by simp [results,Tryz.f34,go_sem]) rfl ⟨by rw [HE.out],by repeat (first | exact Zd _ | refine Zl ?_ _ | refine Zi ?_ (by simp) _)⟩
 by_cases h2:s<0
 ·have HE:=Za (show chkC s rows=8 by rw [chkC,if_neg (by omega),if_pos (.inl h2)])
  have hm3:decide ((100:Int)<(m:Int))=false:=by simp;omega
  clear hr hl
  go_enter Tryz.func34,Tryz.ntmps34
  go_wp2_with fail
  exact bodyPost_ret (v := .int .i64 8) (by simp [results,Tryz.f34,go_sem]) rfl ⟨by rw [HE.out],by repeat (first | exact Zd _ | refine Zl ?_ _ | refine Zi ?_ (by simp) _)⟩
 by_cases h3:200<s
 ·have HE:=Za (show chkC s rows=8 by rw [chkC,if_neg (by omega),if_pos (.inr h3)])
  have hm3:decide ((100:Int)<(m:Int))=false:=by simp;omega
  have hs2:decide (s<0)=false:=by simp;omega
  clear hr hl
  go_enter Tryz.func34,Tryz.ntmps34
  go_wp2_with fail
  exact bodyPost_ret (v := .int .i64 8) (by simp [results,Tryz.f34,go_sem]) rfl ⟨by rw [HE.out],by repeat (first | exact Zd _ | refine Zl ?_ _ | refine Zi ?_ (by simp) _)⟩
 have:=zj9 s A m c rows w hr (by omega) (by omega) (by omega)
 have e:chkC s rows=chkGo s rows:=by rw [chkC,if_neg (by omega),if_neg (by omega)]
 rw [e]
 exact this
end Go.Proofs.YtkneghkbgingdaaGreatDoor
/- The contract of Counts of charts. -/
namespace Go.Proofs.YtkneghkbgingdaaGreatDoor
set_option maxRecDepth 100000
open Go.RowKit Go.ChangeShapes Go.WideShapes Go.Joins Go.Shelf
attribute [local go_sem] Oper.semAt_some
def CntR (s:Int) (l:List Ro) (w:World) (e:Ending) (w':World):Prop:=∃(A:Option Addr) (n c:Nat),e = .returned (.tuple #[.slice A n c,.int .i64 (chkC s l)])∧Ext w w'∧Ints w' A n (if chkC s l=0 then cntC s l else [])∧∀b off,A=some ⟨b,off,none⟩→w.heap.size≤b
theorem CntR.mk {s:Int} {l:List Ro} {w:World} {e:Ending} {w':World} {x:Int} {xs:List Int} (A:Option Addr) (n c:Nat) (hx:chkC s l=x) (hl:(if chkC s l=0 then cntC s l else [])=xs) (h1:e = .returned (.tuple #[.slice A n c,.int .i64 x])) (h2:Ext w w') (h3:Ints w' A n xs) (h4:∀b off,A=some ⟨b,off,none⟩→w.heap.size≤b):CntR s l w e w' :=
 ⟨A,n,c,by rw [hx];exact h1,h2,by rw [hl];exact h3,h4⟩
def CntQ (s:Int) (l:List Ro) (w:World) (e:Ending) (w':World):Prop:=∃(A:Option Addr) (n c:Nat),e = .returned (.tuple #[.slice A n c,.int .i64 (chkC s l)])∧Ext w w'∧Ints w' A n (if chkC s l=0 then cntC s l else [])∧(∀b off,A=some ⟨b,off,none⟩→w.heap.size≤b)∧n≤c
theorem CntQ.mk {s:Int} {l:List Ro} {w:World} {e:Ending} {w':World} {x:Int} {xs:List Int} (A:Option Addr) (n c:Nat) (hx:chkC s l=x) (hl:(if chkC s l=0 then cntC s l else [])=xs) (h1:e = .returned (.tuple #[.slice A n c,.int .i64 x])) (h2:Ext w w') (h3:Ints w' A n xs) (h4:∀b off,A=some ⟨b,off,none⟩→w.heap.size≤b) (h5:n≤c):CntQ s l w e w' :=
 ⟨A,n,c,by rw [hx];exact h1,h2,by rw [hl];exact h3,h4,h5⟩
theorem CntQ.r {s:Int} {l:List Ro} {w:World} {e:Ending} {w':World} (h:CntQ s l w e w'):CntR s l w e w':=by
 obtain ⟨A,n,c,h1,h2,h3,h4, -⟩:=h
 exact ⟨A,n,c,h1,h2,h3,h4⟩
theorem zmY {w:World} {B k c:Nat} {e:TypeId} {A:Option Addr} {xs:List Value} (h:w.ownsRow B e 1 (.slice A k c) k xs):k≤c:=by
 rcases h.2 with ⟨h0,h1⟩ | ⟨g,cap,cur,h0,hB,hg,hnc,r⟩
 ·omega
 ·cases h0
  exact hnc
theorem zkI:(Tryz.prog.info? 3).map (fun i=>(i.zero,i.size,i.bytes))=some (some (.int .i64 0),1,8):=by kernel_rfl
theorem zmy (w:World) (B:Nat) (e:TypeId) (x:Int) (hB:B≤w.heap.size):(w.alloc (.cells #[.int .i64 x] e)).ownsRow B e 1 (.slice (some ⟨w.heap.size,0,none⟩) 1 1) 1 [.int .i64 x] :=
 ⟨rfl,.inr ⟨w.heap.size,1,#[.int .i64 x],rfl,hB,heap_alloc_new w _,Zf _,by unfold maxLen;omega,rfl,rfl⟩⟩
def cntF (w:World) (s:Int) (A:Option Addr) (m c g B Bc:Nat) (v7 v18 v19:Value):Act :=
 { tmps:=#[.agg #[.int .i64 s,.slice A m c],.pointer (some ⟨w.heap.size,0,none⟩),.slice none 0 0,.int .i64 0,.int .i64 0,.pointer (some ⟨B,0,none⟩),undef,v7,.agg #[.int .i64 s,.slice A m c],.int .i64 0,.int .i64 0,.bool false,undef,
   .pointer (some ⟨w.heap.size,0,none⟩),.int .i64 s,.slice (some ⟨g,0,none⟩) 1 1,.agg #[.int .i64 s,.slice A m c],.func (.func 95) #[] #[.pointer (some ⟨Bc,0,none⟩)],v18,v19,undef,undef,undef,undef,undef,undef],defers:=[] }
def cntI (w:World) (s:Int) (B:Nat) (pre:List Cn) (W:World):Prop:=(∃v,Boxed W B 106 v∧W.ownsRow w.heap.size 3 1 v (pre.length+1) ((s::pre.map (·.a)).map (Value.int .i64))∧True)∧Below w.heap.size w W
def cntA (w:World) (s:Int) (A:Option Addr) (m c g B Bc:Nat) (x:Cn) (a':Act) (W:World):Prop :=
 ∃Bx,B<Bx∧W.cell? ⟨Bx,1,none⟩=some (.int .i64 x.a)∧a'=cntF w s A m c g B Bc (.pointer (some ⟨Bx,0,none⟩)) (.int .i64 x.i) (.agg #[.int .i64 x.b,.int .i64 x.a,.int .i64 x.e])
theorem zia (W:World) (u v x:Value) (T:TypeId):(W.alloc (.cells #[u,v,x] T)).cell? ⟨W.heap.size,1,none⟩=some v:=by
 exact zoK
theorem KpT.app {n₀:Nat} {W w1:World} {v v':Value} {B k:Nat} {T t e:TypeId} {xs:List Value} {o:Obj} (hT:T≠e) (ht:T≠t) (hv:Boxed W B t v) (hr:W.ownsRow n₀ e 1 v k xs) (hg:(W.alloc o).grownBy w1 v.ownBlock) (hb:Below n₀ W (w1.setCell ⟨B,0,none⟩ v')):KpT n₀ T W (w1.setCell ⟨B,0,none⟩ v'):=by
 refine ⟨hb,fun b hty=>?_⟩
 have hlt:=hty.lt
 have h1:b≠B:=by
  rintro rfl
  obtain ⟨cs,f,hc⟩:=hty
  have h9:=(show W.heap[_]?=_ from hv).symm.trans hc
  cases h9
  exact ht rfl
 have h2:some b≠v.ownBlock:=by
  rcases hr.2 with ⟨rfl,_⟩ | ⟨g,cap,cur,rfl,_,hgb,_⟩
  ·simp [Value.ownBlock]
  ·intro e'
   obtain rfl:b=g:=by simpa [Value.ownBlock] using e'
   obtain ⟨cs,f,hc⟩:=hty
   rw [hgb] at hc
   cases hc
   exact hT rfl
 rw [Below.heap_setCell w1 ⟨B,0,none⟩ v' b h1]
 exact (hg.block b (by simp;omega) h2).trans (Below.heap_alloc _ _ _ hlt)
set_option maxRecDepth 100000 in
theorem zkc (s:Int) (A:Option Addr) (m c:Nat) (rows:List Ro) (w:World) (hr:Rws w (fun _=>True) A m rows) (h0:chkC s rows=0) :
  Calls Tryz.prog 86 #[.agg #[.int .i64 s,.slice A m c]] w (CntQ s rows w):=by
 have HR:=Za (hr.mono (K':=fun b=>b<w.heap.size) (fun b h _=>h))
 have HR0:=Za hr
 have HL:=Za (show rows.length≤100 from (zb1 h0).1)
 have HE:=Za h0
 have HCT:=Za (show (if chkC s rows=0 then cntC s rows else [])=s::(visG 0 s rows).map (·.a) by rw [if_pos h0,znb (zb1 h0).2.2.2];rfl)
 obtain ⟨i0,hi,hz0,hz1,hz2⟩:=info_parts zkI
 have HI:=Za hi
 have HZ0:=Za hz0
 have HZ1:=Za hz1
 have HZ2:=Za hz2
 clear hr h0 hi hz0 hz1 hz2
 refine (callsIn_wide (n:=3)).1 ?_
 refine callsIn_of_wp_marks Tryz.func86 rfl trivial ?_ rfl
 simp only [Tryz.ntmps86,List.size_toArray,Zk,List.length_nil,Nat.reduceAdd,Nat.reduceSub,Array.replicate_succ,Array.replicate_zero,List.push_toArray,List.append_toArray,List.nil_append,ZU]
 gi_wp2_with (first
  | (refine ⟨trivial,?_⟩;gi_at_call 34;refine (callsIn_wide.2 (zbh s A m c rows _ (HR0.out.ext zx))).mono ?_;rintro e w1 ⟨rfl,hq1⟩;obtain ⟨hf1,hf2,hf3⟩:=hq1.facts;have hlt9:=hf3 w.heap.size (by simp);rw [HE.out])
  | (refine ⟨trivial,?_⟩;gi_at_call 67;refine (callsIn_wide.2 (zc8 s A m c _)).mono ?_;rintro e w' ⟨rfl,rfl⟩))
 obtain ⟨W0,hW0⟩:∃W0,((w1.alloc (Obj.cells #[Value.int IntKind.i64 s] 3)).alloc (Obj.cells #[Value.slice (some ⟨w1.heap.size,0,none⟩) 1 1] 106)).alloc (Obj.cells #[Value.int IntKind.i64 s,Value.slice A m c] 24)=W0:=⟨_,rfl⟩
 have hsz:W0.heap.size=w1.heap.size+3:=by rw [←hW0];simp
 have hq2:Ext w w1:=zx
 have hB0:Below w.heap.size w W0:=by rw [←hW0];exact ((Zl (Zl (Zl hq2 _) _) _))
 have hc0:W0.cell? ⟨w1.heap.size+1+1,0,none⟩=some (.int .i64 s):=by rw [←hW0];simp [go_sem]
 have hc1:W0.cell? ⟨w1.heap.size+1+1,1,none⟩=some (.slice A m c):=by rw [←hW0];simp [go_sem]
 have bO:Boxed W0 (w1.heap.size+1) 106 (.slice (some ⟨w1.heap.size,0,none⟩) 1 1):=by
  rw [←hW0]
  have:=(Boxed.new (w1.alloc (Obj.cells #[Value.int IntKind.i64 s] 3)) 106 (.slice (some ⟨w1.heap.size,0,none⟩) 1 1)).alloc (Obj.cells #[Value.int IntKind.i64 s,Value.slice A m c] 24)
  simpa using this
 have rO:W0.ownsRow w.heap.size 3 1 (.slice (some ⟨w1.heap.size,0,none⟩) 1 1) 1 [.int .i64 s]:=by
  rw [←hW0]
  exact ((zmy w1 w.heap.size 3 s (by omega)).alloc _).alloc _
 clear hf1 hf2 hf3 hq1
 rw [hW0]
 clear hW0
 generalize hg:w1.heap.size=g at *
 clear hg
 have HB0:=Za hB0
 refine wpIn_rangeFunc_ownH (F:=Fence.wide) (n:=3) rfl (by omega) (gf:=95) (lb:=#[.pointer (some ⟨g+1+1,0,none⟩)]) rfl trivial zbX
  (zb9 2 (g+1+1) w.heap.size s A m c rows (KpT w.heap.size 123) (by omega) (fun _ _ h=>h.1) (fun _ _ b h=>h.2 b) W0 (by omega) (by omega) hc0 hc1 (HR.out.ext hB0))
  (fun h k=>KpT.trans h k) (KpT.put (by omega)) (Below.refl _ _) (fun _=>rfl)
  (cntI w s (g+1)) (fun _ _ _=>False)
  (OwnFrom.and (Own.from (holdsRow_own w.heap.size (g+1) 106 3 1 (fun pre:List Cn=>pre.length+1) (fun pre=>(s::pre.map (·.a)).map (Value.int .i64)) (fun _ _=>True)) _) (ownFrom_below (by omega) (by omega)))
  (fun _ _ _ _ _ hs _ _=>hs)
  ⟨⟨_,bO,rO,trivial⟩,hB0⟩
  (cntA w s A m c g (g+1) (g+1+1))
  (fun x a'=>Own.from (fun _ A B row hs hg hr=>by obtain ⟨Bx,h1,h2,h3⟩:=hs;exact ⟨Bx,h1,cell_kept h2 hg hr,h3⟩) _) ?assign ?body ?done ?stop
 case assign =>
  rintro l pre x W K ⟨⟨v,hv,hrow, -⟩,hB⟩ hK
  have hlt:=hv.lt
  unfold encC
  gi_wp2
  exact hK _ _ ((KeepsOthers.alloc _ _).from _) (KpT.alloc (by omega) _) ⟨⟨v,hv.alloc _,hrow.alloc _,trivial⟩,hB.alloc (by omega) _⟩ ⟨W.heap.size,hlt,zia _ _ _ _ _,rfl⟩
 case body =>
  rintro l pre x a' W _ _ ⟨⟨v,hv,hrow, -⟩,hB⟩ ⟨Bx,hBx,hcx,rfl⟩ hpl
  have hpl2:=HL.out
  have hc:=hv.cell
  have hz:=Zo W _ hcx
  simp only at hz
  unfold cntF
  gi_wp2_with (gi_at_builtin;refine wpListIn_append_own _ rfl _ _ 106 rfl w.heap.size 3 i0 (.int .i64 0) 1 8 Tryz.underlying106 HI.out HZ0.out HZ1.out HZ2.out rfl (by decide) _ _ _ rfl (hrow.alloc _) ⟨W.heap.size,0,none⟩ 1 1 [.int .i64 x.a] rfl rfl (cell_one_new _ _ _) (by simp [Value.oneCell']) (by unfold maxLen;omega) (by omega) (by have:=hB.size;simp;omega) ?_;intro v' w1 hown' hgrow _;obtain ⟨g',cap',rfl⟩:=ownsRow_succ hown';obtain ⟨hv1,hv2,hr2,hk2,hb2⟩:=hv.appended (by decide) hrow hB.size (by omega) hown' hgrow;have hc1:=hv1.cell;have hf1:=hv1.frozen)
  exact ⟨hk2.from _,KpT.app (by decide) (by decide) hv hrow hgrow hb2,⟨_,hv2,by simpa using hr2,trivial⟩,hB.trans hb2⟩
 case done =>
  rintro D ys W hD rfl ⟨⟨v,hv,hrow, -⟩,hB⟩ hK
  have hc:=hv.cell
  obtain ⟨A9,c9,rfl⟩:∃A9 c9,v = .slice A9 ((visG 0 s rows).length+1) c9:=by
   obtain ⟨g',cap',h⟩:=ownsRow_succ hrow
   exact ⟨_,_,h⟩
  gi_wp2
  refine ⟨by simp,.inl ⟨_,_,rfl,run_takeDeferred hK,?_⟩⟩
  refine ⟨.tuple #[.slice A9 ((visG 0 s rows).length+1) c9,.int .i64 0],by simp [results,Tryz.f86,go_sem],?_⟩
  exact CntQ.mk A9 _ c9 HE.out HCT.out rfl (hB.trans (belowK_b (w:=w) (Zf _) W D _ _ (by omega) hK rfl rfl)) (Ints.of_own (ownsRow_putObj hrow _ hK rfl)) (fun b off e=>by subst e;have h5:=(zbF hrow b (by simp [Value.ownBlock])).1;first | omega | (simp at h5;omega)) (zmY hrow)
 case stop =>
  rintro D c pre W _ _ h _
  exact h.elim
theorem zh9 (s:Int) (A:Option Addr) (m c:Nat) (rows:List Ro) (w:World) (hr:Rws w (fun _=>True) A m rows) :
  Calls Tryz.prog 86 #[.agg #[.int .i64 s,.slice A m c]] w (CntQ s rows w):=by
 by_cases h0:chkC s rows=0
 ·exact zkc s A m c rows w hr h0
 ·have HR0:=Za hr
  have HL:=Za (show (if chkC s rows=0 then cntC s rows else [])=[] by rw [if_neg h0])
  have hb:(chkC s rows != 0)=true:=by simpa using h0
  clear hr h0
  generalize hx:chkC s rows=x at *
  have HX:=Za hx
  go_enter Tryz.func86,Tryz.ntmps86
  go_wp2_with (go_at_call 34;((with_reducible refine (zbh s A m c rows _ (HR0.out.ext zx)).mono ?_);rintro e w1 ⟨rfl,hq1⟩;rw [HX.out]))
  go_ret2
  exact CntQ.mk none 0 0 HX.out (by rw [HX.out];exact HL.out) rfl zx (Ints.none_ _ _) (fun b off e=>by cases e) (Zf _)
theorem zaQ (s:Int) (A:Option Addr) (m c:Nat) (rows:List Ro) (w:World) (hr:Rws w (fun _=>True) A m rows) :
  Calls Tryz.prog 86 #[.agg #[.int .i64 s,.slice A m c]] w (CntR s rows w):=(zh9 s A m c rows w hr).mono fun _ _ h=>h.r
end Go.Proofs.YtkneghkbgingdaaGreatDoor
/- The contracts of the reference's Check,Counts,Great and SameInts of charts. -/
namespace Go.Proofs.YtkneghkbgingdaaGreatDoor
set_option maxRecDepth 100000
open Go.RowKit Go.ChangeShapes Go.WideShapes Go.Joins
theorem zf3 (s:Int) (A:Option Addr) (m c:Nat) (rows:List Ro) (w:World) (hr:Rws w (fun _=>True) A m rows) :
  Calls Tryz.prog 30 #[.agg #[.int .i64 s,.slice A m c]] w fun e w'=>e = .returned (.int .i64 (chkC s rows))∧Ext w w':=by
 have hml:=hr.len
 have hmm:=hr.1
 unfold maxLen at hmm
 have hm2:(m:Int)≤9223372036854775807:=by omega
 have HR:=Za hr
 have HL:=Za hml
 clear hr hml hmm
 by_cases h1:100<m
 ·have HE:=Za (show chkC s rows=4 by rw [chkC,if_pos (by rw [HL.out];exact h1)])
  go_enter Tryz.func30,Tryz.ntmps30
  go_wp2_with fail
  go_ret
  exact ⟨by rw [HE.out];rfl,zx⟩
 have hm3:decide ((100:Int)<(m:Int))=false:=by simp;omega
 by_cases h2:s<0
 ·have HE:=Za (show chkC s rows=8 by rw [chkC,if_neg (by rw [HL.out];exact h1),if_pos (.inl h2)])
  go_enter Tryz.func30,Tryz.ntmps30
  go_wp2_with fail
  go_ret
  exact ⟨by rw [HE.out];rfl,zx⟩
 have hs2:decide (s<0)=false:=by simp;omega
 by_cases h3:200<s
 ·have HE:=Za (show chkC s rows=8 by rw [chkC,if_neg (by rw [HL.out];exact h1),if_pos (.inr h3)])
  go_enter Tryz.func30,Tryz.ntmps30
  go_wp2_with fail
  go_ret
  exact ⟨by rw [HE.out];rfl,zx⟩
 have hs3:decide (200<s)=false:=by simp;omega
 have HE:=Za (show chkC s rows=chkGo s rows by rw [chkC,if_neg (by rw [HL.out];exact h1),if_neg (by omega)])
 go_enter Tryz.func30,Tryz.ntmps30
 go_wp2_with fail
 go_loopw [3,4] (fun u i wr=>∃(k:Nat) (q:Int),i = .int .i64 k∧u = .int .i64 q∧k≤m∧Hid (chkGo q (rows.drop k)=chkGo s rows)∧Hid (Ext (w.alloc (.cells #[.int .i64 s,.slice A m c] 24)) wr)) (fun _ i _=>m-(intOf i).toNat)
 case atStart=>exact ⟨0,s,rfl,rfl,Zu _,Za (by simp),Za zx⟩
 case round =>
  obtain ⟨k,q,rfl,rfl,hk,HG,HX⟩:=hrel
  by_cases hlt:k<m
  ·obtain ⟨b,off,A',m',c',rfl,hb0, -,d0,d1,hv,hm',hby, -⟩:=(HR.out.ext ((Zl (Zd w) _).trans HX.out)).at_ hlt
   have q0:(0:Int)≤(k:Int):=by omega
   have q1:(k:Int)<(m:Int):=by omega
   have HW:=Za hv
   have hby:=Za hby
   have hm':=Za hm'
   have hx:=HX.out
   obtain ⟨hf1,hf2,hf3⟩:=hx.facts
   have HD:=Za (zlJ (l:=rows) (k:=k) (by rw [HL.out];exact hlt))
   clear hv
   generalize hrow:rows.getD k ro0=row at *
   clear hrow
   by_cases h4:allE row.cells=0
   ·by_cases h5:usL row.cells=q
    ·have HA:=Za h4
     have HU:=Za (show usG row.cells=q by rw [zhf h4];exact h5)
     have HM:=Za (zlN h4)
     have HN:=Za (show chkGo (mkL row.cells) (rows.drop (k+1))=chkGo s rows by rw [←HG.out,HD.out,chkGo,if_neg (by simp [h4]),if_neg (by simp [h5])])
     clear h4 h5
     go_wp2_with (first
      | (go_at_call 62;((with_reducible refine (zdk m' c' A' row.cells _ (HW.out.ext zx) hm'.out).mono ?_);rintro e w1 ⟨rfl,hq1⟩;rw [HA.out,HU.out];obtain ⟨hg1,hg2,hg3⟩:=(Zb hx hq1).facts;obtain ⟨hh1,hh2,hh3⟩:=hq1.facts))
      | (go_at_call 63;((with_reducible refine (zhJ m' c' A' row.cells _ (HW.out.ext zx) hm'.out).mono ?_);rintro e w2 ⟨rfl,hq2⟩;rw [HA.out,HM.out])))
     go_roundw
     case rel=>exact ⟨k+1,mkL row.cells,by go_num,rfl,by omega,HN,Za zx⟩
     case measure=>simp [intOf];omega
    ·have HA:=Za h4
     have hb:(usG row.cells != q)=true:=by rw [zhf h4];simpa using h5
     have HN:=Za (show chkGo s rows=26 by rw [←HG.out,HD.out,chkGo,if_neg (by simp [h4]),if_pos h5])
     clear h4 h5
     go_wp2_with (first | (go_at_call 62;((with_reducible refine (zdk m' c' A' row.cells _ (HW.out.ext zx) hm'.out).mono ?_);rintro e w1 ⟨rfl,hq1⟩;rw [HA.out])))
     go_ret
     exact ⟨by rw [HE.out,HN.out];rfl,by have:=HX.out;exact (Zl (Zd w) _).trans zx⟩
   ·have hb:(allE row.cells != 0)=true:=by simpa using h4
    have HN:=Za (show chkGo s rows=allE row.cells by rw [←HG.out,HD.out,chkGo,if_pos h4])
    clear h4
    go_wp2_with (first | (go_at_call 62;((with_reducible refine (zdk m' c' A' row.cells _ (HW.out.ext zx) hm'.out).mono ?_);rintro e w1 ⟨rfl,hq1⟩)))
    go_ret
    exact ⟨by rw [HE.out,HN.out];rfl,by have:=HX.out;exact (Zl (Zd w) _).trans zx⟩
  ·obtain rfl:k=m:=by omega
   have HN:=Za (show chkGo s rows=0 by rw [←HG.out,Z5 (Nat.le_of_eq HL.out)];rfl)
   have hx:=HX.out
   obtain ⟨hf1,hf2,hf3⟩:=hx.facts
   go_wp2_with fail
   go_ret
   exact ⟨by rw [HE.out,HN.out];rfl,(Zl (Zd w) _).trans hx⟩
end Go.Proofs.YtkneghkbgingdaaGreatDoor
/- The contracts of the reference's Counts,Great,SameInts,Same,and of Same of charts. -/
namespace Go.Proofs.YtkneghkbgingdaaGreatDoor
set_option maxRecDepth 100000
open Go.RowKit Go.ChangeShapes Go.WideShapes Go.Joins
end Go.Proofs.YtkneghkbgingdaaGreatDoor
/- The contracts of Same of charts,both. -/
namespace Go.Proofs.YtkneghkbgingdaaGreatDoor
set_option maxRecDepth 100000
open Go.RowKit Go.ChangeShapes Go.WideShapes Go.Joins
theorem zov {xs ys:List Ro} {n:Nat} (hx:xs.length=n) (hy:ys.length=n) (h:∀j,j<n→xs.getD j ro0=ys.getD j ro0):xs=ys:=by
 apply List.ext_getElem (by omega)
 intro i h1 h2
 have:=h i (by omega)
 rwa [Zc,Zc,Zg h1,Zg h2] at this
def sameC (s:Int) (l:List Ro) (t:Int) (r:List Ro):Bool:=decide (s=t∧l=r)
theorem zcX {s t:Int} {l r:List Ro} (h:¬(s=t∧l=r)):sameC s l t r=false:=by simpa [sameC] using h
theorem zax (s:Int) (l:List Ro):sameC s l s l=true:=by simp [sameC]
set_option maxRecDepth 100000 in
theorem zat (s t:Int) (A B:Option Addr) (m n c d:Nat) (l r:List Ro) (w:World) (hr:Rws w (fun _=>True) A m l) (hr2:Rws w (fun _=>True) B n r) :
  Calls Tryz.prog 14 #[.agg #[.int .i64 s,.slice A m c],.agg #[.int .i64 t,.slice B n d]] w fun e w'=>e = .returned (.bool (sameC s l t r))∧Ext w w':=by
 have hml:=hr.len
 have hnl:=hr2.len
 have hmm:=hr.1
 unfold maxLen at hmm
 have hm2:(m:Int)≤9223372036854775807:=by omega
 have HR:=Za hr
 have HL:=Za hml
 have HR2:=Za hr2
 have HL2:=Za hnl
 clear hr hml hmm hr2 hnl
 by_cases hst:s=t
 ·subst hst
  by_cases hmn:m=n
  ·subst hmn
   go_enter Tryz.func14,Tryz.ntmps14
   go_wp2_with fail
   go_loopw [5] (fun i wr=>∃(k:Nat),i = .int .i64 k∧k≤m∧Hid (∀j,j<k→l.getD j ro0=r.getD j ro0)∧Hid (Ext ((w.alloc (.cells #[.int .i64 s,.slice A m c] 24)).alloc (.cells #[.int .i64 s,.slice B m d] 24)) wr)) (fun i _=>m-(intOf i).toNat)
   case atStart=>exact ⟨0,rfl,Zu _,Za (fun j hj=>absurd hj (by omega)),Za zx⟩
   case round =>
    obtain ⟨k,rfl,hk,HG,HX0⟩:=hrel
    have hx:=HX0.out
    obtain ⟨hf1,hf2,hf3⟩:=hx.facts
    by_cases hlt:k<m
    ·obtain ⟨b,off,A',m',c',rfl,hb0, -,c0,c1,hv,hm',hby, -⟩:=(HR.out.ext ((Zl (Zl (Zd w) _) _).trans hx)).at_ hlt
     obtain ⟨b',off',B',n',d',rfl,hb0', -,e0,e1,hv',hn',hby', -⟩:=(HR2.out.ext ((Zl (Zl (Zd w) _) _).trans hx)).at_ hlt
     have q0:(0:Int)≤(k:Int):=by omega
     have q1:(k:Int)<(m:Int):=by omega
     have HW:=Za hv
     have HW':=Za hv'
     have hm':=Za hm'
     clear hv hv' hn' hby hby'
     generalize hrow:l.getD k ro0=x at *
     generalize hrow':r.getD k ro0=y at *
     have HX:=Za hrow
     have HY:=Za hrow'
     clear hrow hrow'
     obtain ⟨xb,xc⟩:=x
     obtain ⟨yb,yc⟩:=y
     simp only at c0 e0
     have hz1:w.heap.size<wr.heap.size:=hf3 _ (by simp only [ZI];omega)
     have hz2:w.heap.size+1<wr.heap.size:=hf3 _ (by simp only [ZI];omega)
     obtain ⟨wq,rfl⟩:∃wq:World,wq=wr:=⟨_,rfl⟩
     have g0:wq.cell? ⟨w.heap.size,1,none⟩=some (.slice (some ⟨b,off,none⟩) m c):=by rw [hf1 _ _ (by simp only [ZI];omega)];simp [go_sem]
     have g1:wq.cell? ⟨w.heap.size+1,1,none⟩=some (.slice (some ⟨b',off',none⟩) m d):=by rw [hf1 _ _ (by simp only [ZI];omega)];simp [go_sem]
     by_cases hbb:xb=yb
     ·subst hbb
      by_cases hcc:xc=yc
      ·subst hcc
       have HN:=Za (show ∀j,j<k+1→l.getD j ro0=r.getD j ro0 from fun j hj=>by
        rcases Z1 j k with h | h
        ·exact HG.out j h
        ·obtain rfl:j=k:=by omega
         rw [HX.out,HY.out])
       go_wp2_with fail
       go_region_held3 (fun w'=>w'.cell? ⟨w.heap.size,1,none⟩=some (.slice (some ⟨b,off,none⟩) m c)∧w'.cell? ⟨w.heap.size+1,1,none⟩=some (.slice (some ⟨b',off',none⟩) m d)∧w'.cell? ⟨b,off+k*2,none⟩=some (.bool xb)∧w'.cell? ⟨b,off+k*2+1,none⟩=some (.slice A' m' c')∧w'.cell? ⟨b',off'+k*2,none⟩=some (.bool xb)∧w'.cell? ⟨b',off'+k*2+1,none⟩=some (.slice B' n' d')) (go_keep)
        (first | (go_at_call 49;((with_reducible refine (zff m' n' c' d' A' B' xc xc _ (HW.out.ext zx) (HW'.out.ext zx) hm'.out).mono ?_);rintro e w1 ⟨rfl,hq1⟩;rw [show decide (xc=xc)=true from Z8 rfl];have hq9:Ext wq w1:=(zx);obtain ⟨hg1,hg2,hg3⟩:=hq9.facts)))
       go_wp2
       go_roundw
       case rel=>exact ⟨k+1,by go_num,by omega,HN,Za (hx.trans hq9)⟩
       case measure=>simp [intOf];omega
      ·have HD:=Za (show decide (xc=yc)=false by simp [hcc])
       have HN:=Za (zcX (s:=s) (t:=s) (l:=l) (r:=r) (fun h=>by
        have h1:=HX.out
        rw [h.2,HY.out] at h1
        cases h1
        exact hcc rfl))
       clear hcc
       go_wp2_with fail
       go_region_held3 (fun w'=>w'.cell? ⟨w.heap.size,1,none⟩=some (.slice (some ⟨b,off,none⟩) m c)∧w'.cell? ⟨w.heap.size+1,1,none⟩=some (.slice (some ⟨b',off',none⟩) m d)∧w'.cell? ⟨b,off+k*2,none⟩=some (.bool xb)∧w'.cell? ⟨b,off+k*2+1,none⟩=some (.slice A' m' c')∧w'.cell? ⟨b',off'+k*2,none⟩=some (.bool xb)∧w'.cell? ⟨b',off'+k*2+1,none⟩=some (.slice B' n' d')) (go_keep)
        (first | (go_at_call 49;((with_reducible refine (zff m' n' c' d' A' B' xc yc _ (HW.out.ext zx) (HW'.out.ext zx) hm'.out).mono ?_);rintro e w1 ⟨rfl,hq1⟩;rw [HD.out];have hq9:Ext wq w1:=(zx);obtain ⟨hg1,hg2,hg3⟩:=hq9.facts)))
       go_wp2
       go_ret
       exact ⟨by rw [HN.out];rfl,(Zl (Zl (Zd w) _) _).trans (hx.trans hq9)⟩
     ·have HN:=Za (zcX (s:=s) (t:=s) (l:=l) (r:=r) (fun h=>by
       have h1:=HX.out
       rw [h.2,HY.out] at h1
       cases h1
       exact hbb rfl))
      have hb9:(xb=true∧yb=false)∨(xb=false∧yb=true):=by cases xb <;> cases yb <;> simp at hbb ⊢
      clear hbb
      rcases hb9 with ⟨rfl,rfl⟩ | ⟨rfl,rfl⟩
      all_goals
       go_wp2_with fail
       go_quiet (fail)
       go_wp2
       go_ret
       exact ⟨by rw [HN.out];rfl,(Zl (Zl (Zd w) _) _).trans zx⟩
    ·obtain rfl:k=m:=by omega
     have HE:=Za (zov HL.out HL2.out HG.out)
     have HN:=Za (show sameC s l s r=true by rw [HE.out,zax])
     go_wp2_with fail
     go_ret
     exact ⟨by rw [HN.out];rfl,(Zl (Zl (Zd w) _) _).trans hx⟩
  ·have HN:=Za (zcX (s:=s) (t:=s) (l:=l) (r:=r) (fun h=>hmn (by rw [←HL.out,h.2,HL2.out])))
   have hne:((m:Int) != (n:Int))=true:=by simp;omega
   go_enter Tryz.func14,Tryz.ntmps14
   go_wp2_with fail
   go_ret
   exact ⟨by rw [HN.out];rfl,zx⟩
 ·have HN:=Za (zcX (s:=s) (t:=t) (l:=l) (r:=r) (fun h=>hst h.1))
  have hne:(s != t)=true:=by simpa using hst
  clear hst
  go_enter Tryz.func14,Tryz.ntmps14
  go_wp2_with fail
  go_ret
  exact ⟨by rw [HN.out];rfl,zx⟩
end Go.Proofs.YtkneghkbgingdaaGreatDoor
/- Slices that a call makes at once,and copies into them;elements of any size. -/
namespace Go.Proofs.YtkneghkbgingdaaGreatDoor
set_option maxRecDepth 100000
open Go.RowKit Go.ChangeShapes Go.WideShapes Go.Joins
section
variable {P:Program} {ops:Array Oper} {rest:List Oper} {o:Oper} {a:Act} {K:Act→World→Prop} {Q:Exit→Act→World→Prop} {E:Prop} {w wx:World}
theorem zgp (T e:TypeId) (z:Value) (size bytes:Nat) {l:Operand} (n B:Nat) (hop:o.op = .makeSlice T l l) (ht:P.underlying T=some (.slice e)) (hinfo:(P.info? e).map (fun i=>(i.zero,i.size,i.bytes))=some (some z,size,bytes))
  (hl:a.eval l = .int .i64 (n:Int)) (hn:n≤1000000) (hby:bytes≤1000) (hB:B≤wx.heap.size)
  (h:∀w1,w1.ownsRow B e size (.slice (some ⟨wx.heap.size,0,none⟩) n n) n (madeCells z.cells (n*size)).toList→Ext wx w1→wx.heap.size<w1.heap.size→K (a.put o.dst (.slice (some ⟨wx.heap.size,0,none⟩) n n)) w1):o.wp P a wx K Q:=by
 obtain ⟨i0,hi,hz0,hz1,hz2⟩:=info_parts hinfo
 obtain ⟨w',hrun,r1,r2⟩:=run_make_full (P:=P) wx B T e i0 z size ht hi hz0 hz1 .i64 .i64 n (by rw [hz2];have:=Nat.mul_le_mul hby hn;omega) (by unfold maxLen;omega) hB
 unfold Oper.wp
 simp [execOp,hop,hl,hrun,Result.andThen]
 refine h w' r1 (But.ext_none r2) ?_
 obtain ⟨_,h2⟩:=zbF r1 wx.heap.size (by simp [Value.ownBlock])
 exact h2
theorem zaO (T e:TypeId) (z:Value) (size bytes:Nat) {l:Operand} (n B:Nat) (hgd:o.guard=none) (hop:o.op = .makeSlice T l l) (ht:P.underlying T=some (.slice e)) (hinfo:(P.info? e).map (fun i=>(i.zero,i.size,i.bytes))=some (some z,size,bytes))
  (hl:a.eval l = .int .i64 (n:Int)) (hn:n≤1000000) (hby:bytes≤1000) (hB:B≤wx.heap.size)
  (h:∀w1,Hid (w1.ownsRow B e size (.slice (some ⟨wx.heap.size,0,none⟩) n n) n (madeCells z.cells (n*size)).toList)→Hid (Ext wx w1)→wx.heap.size<w1.heap.size→wpList P ops Q rest (a.put o.dst (.slice (some ⟨wx.heap.size,0,none⟩) n n)) w1):wpList P ops Q (o::rest) a wx :=
 wpList_plain hgd fun _ hK=>zgp T e z size bytes n B hop ht hinfo hl hn hby hB fun w' h1 h2 h3=>hK _ _ (h w' h1 h2 h3)
theorem zcM (g:Nat) (t:TypeId):∀(vs:List Value) (off:Nat) (w:World) (cur:Array Value),w.heap[g]?=some (.cells cur t (0,0))→∃cur',(w.setCells g off vs).heap[g]?=some (.cells cur' t (0,0))∧cur'.size=cur.size:=by
 intro vs
 induction vs with
 | nil=>intro off w cur h;exact ⟨cur,h,rfl⟩
 | cons v r ih =>
  intro off w cur h
  have h1:=heap_setCell_same w g off cur t v h
  obtain ⟨cur',h2,h3⟩:=ih (off+1) _ _ h1
  exact ⟨cur',h2,by rw [h3];simp⟩
theorem zcL (g:Nat):∀(vs:List Value) (off:Nat) (w:World),But (some g) w (w.setCells g off vs):=by
 intro vs
 induction vs with
 | nil=>intro off w;exact But.refl _ _
 | cons v r ih =>
  intro off w
  exact ((But.refl (some g) w).own (p:=⟨g,off,none⟩) rfl v).trans (ih (off+1) _)
theorem zdx {g:Nat} {t:TypeId} {w:World} {cur:Array Value} {cs:List Value} (h:w.heap[g]?=some (.cells cur t (0,0))) (hl:cs.length=cur.size):(w.setCells g 0 cs).heap[g]?=some (.cells cs.toArray t (0,0)):=by
 obtain ⟨cur',h1,h2⟩:=zcM g t cs 0 w cur h
 have hex:∀j,j<cs.length→(w.cell? ⟨g,0+j,none⟩).isSome=true:=fun j hj=>by
  rw [Nat.zero_add,cell_of_row w g j cur t (0,0) h,Array.getElem?_eq_getElem (by omega)]
  rfl
 have e:cur'=cs.toArray:=by
  apply Array.ext
  ·simp [h2,hl]
  ·intro j hj hj2
   have hj3:j<cs.length:=by simpa using hj2
   have:=World.cell?_setCells_in g cs 0 w hex j hj3
   rw [Nat.zero_add,cell_of_row _ g j cur' t (0,0) h1,Array.getElem?_eq_getElem hj] at this
   simpa using this
 rw [h1,e]
theorem zfg (w:World) (dT sT ty elem:TypeId) (size:Nat) (dp sp:Option Addr) (n dc sc:Nat) (cs:List Value) (g:Nat) (hu:P.underlying dT=some (.slice elem)) (hs:(P.info? elem).map (·.size)=some size) (hn:cs.length=n*size)
  (hpos:0<n→dp=some ⟨g,0,none⟩∧∃ad,sp=some ad∧∀j v,cs[j]?=some v→w.cell? (ad.add j)=some v)
  (hc:∀j,j<cs.length→(w.cell? ⟨g,j,none⟩).isSome=true) (hf:∀j,j<cs.length→w.frozen? ⟨g,j,none⟩=false) (h1:∀v∈cs,v.oneCell'=true) :
  (Builtin.copy_ #[dT,sT] ty #[.slice dp n dc,.slice sp n sc]).run P w = .ok (goInt n) (w.setCells g 0 cs):=by
 cases hq:P.info? elem with
 | none=>simp [hq] at hs
 | some i =>
  have hi:i.size=size:=by simpa [hq] using hs
  rcases Nat.eq_zero_or_pos n with h0 | h0
  ·subst h0
   obtain rfl:cs=[]:=ZQ (by simpa using hn)
   have hl:∀(x:Addr),(loadCells x 0).run P w = .ok #[] w:=fun x=>by simpa using run_loadCells_list (P:=P) w x [] (by simp)
   cases dp <;> cases sp <;> simp [Builtin.copy_,run_underlying hu,Builtin.lenOf,Builtin.firstCells,sizeOf,typeInfo,hq,storeCells,hl,World.setCells]
  ·obtain ⟨rfl,ad,rfl,hsrc⟩:=hpos h0
   have hl:=run_loadCells_list (P:=P) w ad cs hsrc
   have hst:=run_storeCells_cells (P:=P) g 0 cs 0 w (by simpa using hc) (by simpa using hf) h1
   rw [hn] at hl
   simp [Builtin.copy_,run_underlying hu,Builtin.lenOf,Builtin.firstCells,sizeOf,typeInfo,hq,hi,hl,hst]
theorem zdu (e:TypeId) (size:Nat) {d s:Operand} (dT sT:TypeId) {g n c B:Nat} {A:Option Addr} {xs cs:List Value} (ho:o.op = .call { callee := .builtin .copy,args:=#[d,s],argTypes:=#[dT,sT] })
  (hu:P.underlying dT=some (.slice e)) (hsz:(P.info? e).map (·.size)=some size) (hd:a.eval d = .slice (some ⟨g,0,none⟩) n n) (hs:a.eval s = .slice A n c)
  (hown:wx.ownsRow B e size (.slice (some ⟨g,0,none⟩) n n) n xs) (hl:cs.length=n*size) (hA:0<n→∃ad,A=some ad∧∀j u,cs[j]?=some u→wx.cell? (ad.add j)=some u) (h1:∀v∈cs,v.oneCell'=true)
  (h:∀w1,w1.ownsRow B e size (.slice (some ⟨g,0,none⟩) n n) n cs→But (some g) wx w1→K (a.put o.dst (goInt n)) w1):o.wp P a wx K Q:=by
 have hrow:∃cur,B≤g∧wx.heap[g]?=some (.cells cur e (0,0))∧n≤maxLen∧cur.size=n*size:=by
  rcases hown.2 with ⟨h',_⟩ | ⟨g',cap',cur,h',hb,hg,hnc,hcm,hcs,_⟩
  ·simp at h'
  ·simp only [Value.slice.injEq,Option.some.injEq,Addr.mk.injEq,and_true,true_and] at h'
   obtain ⟨rfl,rfl⟩:=h'
   exact ⟨cur,hb,hg,hcm,hcs⟩
 obtain ⟨cur,hb,hg,hm,hcs⟩:=hrow
 have hrun:=zfg (P:=P) wx dT sT o.type e size (some ⟨g,0,none⟩) A n n c cs g hu hsz hl (fun hn=>⟨rfl,hA hn⟩)
  (fun j hj=>by rw [cell_of_row wx g j cur e (0,0) hg,Array.getElem?_eq_getElem (by omega)];rfl) (fun j _=>World.ownsRow.frozenAt hown j) h1
 unfold Oper.wp
 simp [execOp,ho,resolve,invoke,builtin,hd,hs,hrun,Result.andThen]
 refine h _ ⟨hl,.inr ⟨g,n,cs.toArray,rfl,hb,zdx hg (by omega),Zf _,hm,by simpa using hl,?_⟩⟩ (zcL g cs 0 wx)
 rw [Zz (by simp;omega)]
theorem zds (e:TypeId) (size:Nat) {d s:Operand} (dT sT:TypeId) {g n c B:Nat} {A:Option Addr} {xs cs:List Value} (hgd:o.guard=none) (ho:o.op = .call { callee := .builtin .copy,args:=#[d,s],argTypes:=#[dT,sT] })
  (hu:P.underlying dT=some (.slice e)) (hsz:(P.info? e).map (·.size)=some size) (hd:a.eval d = .slice (some ⟨g,0,none⟩) n n) (hs:a.eval s = .slice A n c)
  (hown:wx.ownsRow B e size (.slice (some ⟨g,0,none⟩) n n) n xs) (hl:cs.length=n*size) (hA:0<n→∃ad,A=some ad∧∀j u,cs[j]?=some u→wx.cell? (ad.add j)=some u) (h1:∀v∈cs,v.oneCell'=true)
  (h:∀w1,Hid (w1.ownsRow B e size (.slice (some ⟨g,0,none⟩) n n) n cs)→Hid (But (some g) wx w1)→wpList P ops Q rest (a.put o.dst (goInt n)) w1):wpList P ops Q (o::rest) a wx :=
 wpList_plain hgd fun _ hK=>zdu e size dT sT ho hu hsz hd hs hown hl hA h1 fun w' g1 g2=>hK _ _ (h w' g1 g2)
theorem zen (e:TypeId) (size:Nat) {d s:Operand} (dT sT:TypeId) {g n c B:Nat} {A:Option Addr} {xs cs:List Value} (hgd:o.guard=none) (ho:o.op = .call { callee := .builtin .copy,args:=#[d,s],argTypes:=#[dT,sT] })
  (hu:P.underlying dT=some (.slice e)) (hsz:(P.info? e).map (·.size)=some size) (hd:a.eval d = .slice (some ⟨g,0,none⟩) n n) (hs:a.eval s = .slice A n c)
  (hown:wx.ownsRow B e size (.slice (some ⟨g,0,none⟩) n n) n xs) (hl:cs.length=n*size) (hA:0<n→∃ad,A=some ad∧∀j u,cs[j]?=some u→wx.cell? (ad.add j)=some u) (h1:∀v∈cs,v.oneCell'=true)
  (h:∀w1,Hid (w1.ownsRow B e size (.slice (some ⟨g,0,none⟩) n n) n cs)→Hid (But (some g) wx w1)→K (a.put o.dst (goInt n)) w1) :
  if Region.wanted o (yielded ops a.tmps)=true then Oper.wp P o a wx K Q else E:=by
 have hw:Region.wanted o (yielded ops a.tmps)=true:=by simp [Region.wanted,hgd]
 rw [if_pos hw]
 exact zdu e size dT sT ho hu hsz hd hs hown hl hA h1 h
end

end Go.Proofs.YtkneghkbgingdaaGreatDoor
