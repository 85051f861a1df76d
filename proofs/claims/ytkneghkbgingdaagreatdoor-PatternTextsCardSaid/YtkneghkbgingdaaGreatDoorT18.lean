/- The iterator over the rows of a chart: its contract. -/
import Derived.RangeFuncNested
import Derived.RangeFuncBound
import Derived.RangeFuncCalls
import Derived.RangeFuncLeaves
import Derived.Shelf.Abstract
import Derived.Shelf.RegionOpen
import Derived.OwnWalkIn
import Derived.TacticsInMore
import Derived.LoopNIn
import Derived.LoopIn
import Derived.RangeFuncBox
import Derived.RangeFuncFrom
import Derived.Test.YtkneghkbgingdaaGreatDoorT17
set_option maxHeartbeats 16000000
namespace Go.Proofs.YtkneghkbgingdaaGreatDoor
set_option maxRecDepth 100000
open Go.RowKit Go.ChangeShapes Go.WideShapes Go.Joins Go.Shelf
attribute [local go_sem] Oper.semAt_some
def Typed (T:TypeId) (w:World) (b:Nat):Prop:=∃cs f,w.heap[b]?=some (Obj.cells cs T f)
theorem Typed.setCell {T:TypeId} {w:World} {b:Nat} (h:Typed T w b) (p:Addr) (u:Value):Typed T (w.setCell p u) b:=by
 obtain ⟨cs,f,h⟩:=h
 by_cases e:b=p.block
 ·refine ⟨if p.spot.isSome then cs else cs.setIfInBounds p.off u,f,?_⟩
  simp only [World.setCell,Array.getElem?_modify]
  rw [if_pos e.symm,h]
  rfl
 ·exact ⟨cs,f,by rw [Below.heap_setCell w p u b e];exact h⟩
theorem Typed.ext {T:TypeId} {w w':World} {b:Nat} (h:Typed T w b) (hb:Ext w w'):Typed T w' b:=by
 obtain ⟨cs,f,h⟩:=h
 exact ⟨cs,f,by rw [hb.block b (Zm.1 h).1];exact h⟩
theorem Typed.new_ (T:TypeId) (w:World) (cs:Array Value):Typed T (w.alloc (.cells cs T)) w.heap.size:=⟨cs,(0,0),heap_alloc_new w _⟩
theorem Typed.drew {T:TypeId} {w:World} {b:Nat} (h:Typed T w b):Typed T w.drew b:=h
def KpT (n₀:Nat) (T:TypeId) (A B:World):Prop:=Below n₀ A B/\∀b:Nat,Typed T A b->B.heap[b]?=A.heap[b]?
theorem zb9 {A B:World} {b:Nat} (h:B.heap[b]?=A.heap[b]?):(∀o,B.cell? ⟨b,o,none⟩=A.cell? ⟨b,o,none⟩)/\(∀o,B.frozen? ⟨b,o,none⟩=A.frozen? ⟨b,o,none⟩) :=
 ⟨fun o=>World.cell?_of_block (a:=⟨b,o,none⟩) h,fun o=>World.frozen?_of_block (a:=⟨b,o,none⟩) h⟩
def encC (x:Cn):Array Value:=#[.int .i64 x.i,.agg #[.int .i64 x.b,.int .i64 x.a,.int .i64 x.e]]
theorem zdi {i:Nat} {n:Int} {r:Ro} {rs:List Ro}:visG i n (r::rs)=if (cnE i n r).e≠0 then [cnE i n r] else cnE i n r::visG (i+1) (cnE i n r).a rs:=rfl
theorem ze7 {i:Nat} {n:Int} {r:Ro} {rs:List Ro} {x:Cn} (h:cnE i n r=x):[x] <+: visG i n (r::rs):=by
 rw [zdi,h]
 split
 ·exact List.prefix_refl _
 ·exact ⟨_,rfl⟩
theorem zdv {a b:World} (h:Ext a b):a.grownBy b none:=But.of_ext h none
theorem zii {l:List St} (h:allE l=0):usG l=usL l:=by rw [usG,if_pos h]
theorem znn {l:List St} (h:allE l=0):mkG l=mkL l:=by rw [mkG,if_pos h]
set_option maxRecDepth 100000 in
theorem zgx (n l Bc n₀:Nat) (s:Int) (A:Option Addr) (m c:Nat) (rows:List Ro) (Kp:World->World->Prop) (hn:1<=n)
  (hK1:∀A B,Kp A B->Below n₀ A B) (hK2:∀(A B:World) (b:Nat),Kp A B->Typed 123 A b->B.heap[b]?=A.heap[b]?)
  (J Jx:List Cn->World->Prop) (W:World) (hJ:AbidesFrom W.heap.size J) (hn₀:n₀<=W.heap.size)
  (hY:∀pre x W,J pre W->pre.length<rows.length->YieldAt Fence.wide (n-1) Tryz.prog l (encC x) W fun e W' =>
   (e = .returned (.bool true)/\J (pre++[x]) W'/\Kp W W')∨(e = .returned (.bool false)/\Jx (pre++[x]) W'))
  (hc0:W.cell? ⟨Bc,0,none⟩=some (.int .i64 s)) (hc1:W.cell? ⟨Bc,1,none⟩=some (.slice A m c)) (hr:Rws W (fun b=>b<n₀) A m rows) (h0:J [] W) :
  CallsIn Fence.wide n Tryz.prog 95 #[.func (.yield l) #[] #[],.pointer (some ⟨Bc,0,none⟩)] W fun e W'=>(∃v,e = .returned v) /\
   ((∃ys,ys=visG 0 s rows/\J ys W')∨(∃pre,pre <+: visG 0 s rows/\Jx pre W')):=by
 have aA:=hr.len
 have aB:=hr.1
 unfold maxLen at aB
 have hm2:(m:Int)<=9223372036854775807:=by omega
 have HR:=Za hr
 have HL:=Za aA
 have an:=Za hK1
 have HK2:=Za hK2
 have am:=Za hJ
 have HY:=Za hY
 clear hr aA aB hK1 hK2 hJ hY
 refine callsIn_of_wp Tryz.func95 rfl trivial ?_ rfl
 simp only [Tryz.ntmps95,List.size_toArray,Zk,List.length_nil,Nat.reduceAdd,Nat.reduceSub,Array.replicate_succ,Array.replicate_zero,List.push_toArray,List.append_toArray,List.nil_append,ZU]
 gi_wp2
 gi_loopw [3,14] (fun u i wr=>∃(k:Nat) (q:Int) (pre:List Cn),i = .int .i64 k/\u = .int .i64 q/\k<=m/\pre.length=k/\Hid (pre++visG k q (rows.drop k)=visG 0 s rows)/\Hid (J pre wr/\Below n₀ W wr/\W.heap.size<=wr.heap.size)) (fun _ i _=>m-(intOf i).toNat)
 case atStart=>exact ⟨0,s,[],rfl,rfl,Zy _,rfl,Za (by simp),Za ⟨h0,Below.refl _ _,Zg _⟩⟩
 case round =>
  obtain ⟨k,q,pre,rfl,rfl,hk,aC,HV,HJ⟩:=hrel
  by_cases hlt:k<m
  ·obtain ⟨b,off,A',m',c',rfl,hb0,au,d0,d1,hv,ag,af,aj⟩:=HR.out.at_ hlt
   have q0:(0:Int)<=(k:Int):=by omega
   have q1:(k:Int)<(m:Int):=by omega
   have c0:=(HJ.out.2.1.cell (p:=⟨b,off+k*2,none⟩) au).trans d0
   have c1:=(HJ.out.2.1.cell (p:=⟨b,off+k*2+1,none⟩) au).trans d1
   have hz:b<wr.heap.size:=by have:=HJ.out.2.2;omega
   have HW:=Za (show Vec shSt wr A' m' (rows.getD k ro0).cells from hv.keepK aj (HJ.out.2.2) (fun b' _ hb' o=>HJ.out.2.1.cell (p:=⟨b',o,none⟩) hb'))
   have HD:=Za (zng (l:=rows) (k:=k) (by rw [HL.out];exact hlt))
   have af:=Za af
   have ag:=Za ag
   clear d0 d1 hv aj
   obtain ⟨wq,rfl⟩:∃wq:World,wq=wr:=⟨_,rfl⟩
   generalize hrow:rows.getD k ro0=row at *
   clear hrow
   have ap:=Za (show pre.length<rows.length by rw [HL.out];omega)
   have aq:=Za aC
   clear aC
   rcases zlJ k q row with ⟨h1,h2⟩ | ⟨h1,h2,h3⟩ | ⟨h1,h2,h3⟩
   ·have ao:=Za h1
    have H2:=Za h2
    have hne:(allE row.cells != 0)=true:=by simpa using h1
    clear h1 h2
    gi_wp2_with (refine ⟨trivial,?_⟩;gi_at_call 96;refine (callsIn_wide.2 (ze6 m' c' A' row.cells _ (Vec.ext HW.out zx) ag.out af.out)).mono ?_;rintro e w1 ⟨rfl,hq1⟩;obtain ⟨av,aw,ax⟩:=hq1.facts)
    have ae:Ext wq w1:=Zi (((Zf wq).alloc _).alloc _) hq1
    have ac:Ext wq (w1.setCell ⟨wq.heap.size+1,2,none⟩ (.int .i64 (allE row.cells))):=Zr ae (p:=⟨wq.heap.size+1,2,none⟩) (by simp) _
    have HT:=Za (show Typed 123 (w1.setCell ⟨wq.heap.size+1,2,none⟩ (.int .i64 (allE row.cells))) (wq.heap.size+1) from Typed.setCell (Typed.ext (by have:=Typed.new_ 123 (wq.alloc (Obj.cells #[Value.bool row.back,Value.slice A' m' c'] 75)) #[Value.int IntKind.i64 q,Value.int IntKind.i64 0,Value.int IntKind.i64 0];simpa using this) hq1) _ _)
    obtain ⟨fn,tmps,assign,body,hy,hR⟩:=HY.out pre ⟨k,q,0,allE row.cells⟩ _ (am.out pre wq (w1.setCell ⟨wq.heap.size+1,2,none⟩ (.int .i64 (allE row.cells))) none HJ.out.1 (zdv ac) (fun r e=>by cases e)) ap.out
    have ai:=Za hR
    have al:=Za ac
    clear hR ac ae
    dsimp only [encC] at hy
    rw [hy]
    gi_wp2
    refine ai.out.mono ?_
    rintro e W3 (⟨rfl,ad,ab⟩ | ⟨rfl,aa⟩)
    ·obtain ⟨ay,az⟩:=zb9 (HK2.out _ _ _ ab HT.out)
     have ah:=Za ad
     have ak:=Za (an.out _ _ ab)
     clear ad ab hy
     gi_wp2
     refine bodyPost_ret (results_none rfl _ _ _) rfl ?_
     refine ⟨⟨_,rfl⟩,.inl ⟨_,?_,ah.out⟩⟩
     rw [<-HV.out,HD.out,zdi,H2.out,if_pos (by simp only;exact ao.out)]
    ·gi_wp2
     refine bodyPost_ret (results_none rfl _ _ _) rfl ?_
     refine ⟨⟨_,rfl⟩,.inr ⟨_,?_,aa⟩⟩
     rw [<-HV.out,HD.out]
     exact List.prefix_append_right_inj pre |>.2 (ze7 H2.out)
   ·have ao:=Za (show (26:Int)≠0 by omega)
    have H2:=Za h3
    have HA:=Za h1
    have hne:(usG row.cells != q)=true:=by rw [zii h1];simpa using h2
    clear h1 h2 h3
    gi_wp2_with (refine ⟨trivial,?_⟩;gi_at_call 96;refine (callsIn_wide.2 (ze6 m' c' A' row.cells _ (Vec.ext HW.out zx) ag.out af.out)).mono ?_;rintro e w1 ⟨rfl,hq1⟩;obtain ⟨av,aw,ax⟩:=hq1.facts;rw [HA.out])
    have ae:Ext wq w1:=Zi (((Zf wq).alloc _).alloc _) hq1
    have ac:Ext wq (w1.setCell ⟨wq.heap.size+1,2,none⟩ (.int .i64 26)):=Zr ae (p:=⟨wq.heap.size+1,2,none⟩) (by simp) _
    have HT:=Za (show Typed 123 (w1.setCell ⟨wq.heap.size+1,2,none⟩ (.int .i64 26)) (wq.heap.size+1) from Typed.setCell (Typed.ext (by have:=Typed.new_ 123 (wq.alloc (Obj.cells #[Value.bool row.back,Value.slice A' m' c'] 75)) #[Value.int IntKind.i64 q,Value.int IntKind.i64 0,Value.int IntKind.i64 0];simpa using this) hq1) _ _)
    obtain ⟨fn,tmps,assign,body,hy,hR⟩:=HY.out pre ⟨k,q,0,26⟩ _ (am.out pre wq (w1.setCell ⟨wq.heap.size+1,2,none⟩ (.int .i64 26)) none HJ.out.1 (zdv ac) (fun r e=>by cases e)) ap.out
    have ai:=Za hR
    have al:=Za ac
    clear hR ac ae
    dsimp only [encC] at hy
    rw [hy]
    gi_wp2
    refine ai.out.mono ?_
    rintro e W3 (⟨rfl,ad,ab⟩ | ⟨rfl,aa⟩)
    ·obtain ⟨ay,az⟩:=zb9 (HK2.out _ _ _ ab HT.out)
     have ah:=Za ad
     have ak:=Za (an.out _ _ ab)
     clear ad ab hy
     gi_wp2
     refine bodyPost_ret (results_none rfl _ _ _) rfl ?_
     refine ⟨⟨_,rfl⟩,.inl ⟨_,?_,ah.out⟩⟩
     rw [<-HV.out,HD.out,zdi,H2.out,if_pos (by simp only;exact ao.out)]
    ·gi_wp2
     refine bodyPost_ret (results_none rfl _ _ _) rfl ?_
     refine ⟨⟨_,rfl⟩,.inr ⟨_,?_,aa⟩⟩
     rw [<-HV.out,HD.out]
     exact List.prefix_append_right_inj pre |>.2 (ze7 H2.out)
   ·have H2:=Za h3
    have HA:=Za h1
    have HU:=Za (show usG row.cells=q by rw [zii h1];exact h2)
    have HM:=Za (znn h1)
    clear h1 h2 h3
    gi_wp2_with (first | (refine ⟨trivial,?_⟩;gi_at_call 96;refine (callsIn_wide.2 (ze6 m' c' A' row.cells _ (Vec.ext HW.out zx) ag.out af.out)).mono ?_;rintro e w1 ⟨rfl,hq1⟩;obtain ⟨av,aw,ax⟩:=hq1.facts;rw [HA.out,HU.out]) | (refine ⟨trivial,?_⟩;gi_at_call 97;refine (callsIn_wide.2 (zkk m' c' A' row.cells _ (Vec.ext HW.out zx) ag.out af.out)).mono ?_;rintro e w2 ⟨rfl,hq2⟩;have ar:=Zi hq1 hq2;obtain ⟨hg1,hg2,hg3⟩:=ar.facts;rw [HA.out,HM.out]))
    have ae:Ext wq w2:=Zi (((Zf wq).alloc _).alloc _) ar
    have ac:Ext wq (w2.setCell ⟨wq.heap.size+1,1,none⟩ (.int .i64 (mkL row.cells))):=Zr ae (p:=⟨wq.heap.size+1,1,none⟩) (by simp) _
    have HT:=Za (show Typed 123 (w2.setCell ⟨wq.heap.size+1,1,none⟩ (.int .i64 (mkL row.cells))) (wq.heap.size+1) from Typed.setCell (Typed.ext (by have:=Typed.new_ 123 (wq.alloc (Obj.cells #[Value.bool row.back,Value.slice A' m' c'] 75)) #[Value.int IntKind.i64 q,Value.int IntKind.i64 0,Value.int IntKind.i64 0];simpa using this) ar) _ _)
    obtain ⟨fn,tmps,assign,body,hy,hR⟩:=HY.out pre ⟨k,q,mkL row.cells,0⟩ _ (am.out pre wq (w2.setCell ⟨wq.heap.size+1,1,none⟩ (.int .i64 (mkL row.cells))) none HJ.out.1 (zdv ac) (fun r e=>by cases e)) ap.out
    have ai:=Za hR
    have al:=Za ac
    clear hR ac ae
    dsimp only [encC] at hy
    rw [hy]
    gi_wp2
    refine ai.out.mono ?_
    rintro e W3 (⟨rfl,ad,ab⟩ | ⟨rfl,aa⟩)
    ·obtain ⟨ay,az⟩:=zb9 (HK2.out _ _ _ ab HT.out)
     have ah:=Za ad
     have ak:=Za (an.out _ _ ab)
     clear ad ab hy
     gi_wp2
     go_roundw
     case rel =>
      refine ⟨k+1,mkL row.cells,pre++[⟨k,q,mkL row.cells,0⟩],by go_num,rfl,by omega,by have:=aq.out;simp;omega,Za ?_,Za ⟨ah.out,?_,?_⟩⟩
      ·rw [<-HV.out,HD.out,zdi,H2.out,if_neg (by simp),ZB]
       rfl
      ·exact (HJ.out.2.1.trans ((Below.mono al.out (by have:=HJ.out.2.2;omega)))).trans ak.out
      ·have h1:=HJ.out.2.2
       have h2:=Zl al.out
       have h3:=ak.out.size
       omega
     case measure=>simp [intOf];omega
    ·gi_wp2
     refine bodyPost_ret (results_none rfl _ _ _) rfl ?_
     refine ⟨⟨_,rfl⟩,.inr ⟨_,?_,aa⟩⟩
     rw [<-HV.out,HD.out]
     exact List.prefix_append_right_inj pre |>.2 (ze7 H2.out)
  ·obtain rfl:k=m:=by omega
   have HE:=Za (show pre=visG 0 s rows by
    have:=HV.out
    rw [Z3 (by rw [HL.out];omega)] at this
    simpa [visG] using this)
   gi_wp2
   go_end0
   exact ⟨⟨_,rfl⟩,.inl ⟨_,HE.out,HJ.out.1⟩⟩
end Go.Proofs.YtkneghkbgingdaaGreatDoor
/- The iterator over rows as it is ranged over;the contract of Check of charts. -/
namespace Go.Proofs.YtkneghkbgingdaaGreatDoor
set_option maxRecDepth 100000
open Go.RowKit Go.ChangeShapes Go.WideShapes Go.Joins Go.Shelf
attribute [local go_sem] Oper.semAt_some
theorem zgy (s:Int) (A:Option Addr) (m c:Nat) (w:World) :
  Calls Tryz.prog 67 #[.agg #[.int .i64 s,.slice A m c]] w fun e w'=>e = .returned (.func (.func 95) #[] #[.pointer (some ⟨w.heap.size,0,none⟩)])/\w'=w.alloc (.cells #[.int .i64 s,.slice A m c] 24):=by
 go_enter Tryz.func67,Tryz.ntmps67
 go_wp2
 go_ret
 exact ⟨rfl,rfl⟩
theorem zer (n Bc n₀:Nat) (s:Int) (A:Option Addr) (m c:Nat) (rows:List Ro) (Kp:World->World->Prop) (hn:1<=n)
  (hK1:∀A B,Kp A B->Below n₀ A B) (hK2:∀(A B:World) (b:Nat),Kp A B->Typed 123 A b->B.heap[b]?=A.heap[b]?) (w:World) (hBc:Bc<w.heap.size) (hn₀:n₀<=w.heap.size)
  (hc0:w.cell? ⟨Bc,0,none⟩=some (.int .i64 s)) (hc1:w.cell? ⟨Bc,1,none⟩=some (.slice A m c)) (hr:Rws w (fun b=>b<n₀) A m rows) :
  SeqStopsK Fence.wide n Tryz.prog 95 #[.pointer (some ⟨Bc,0,none⟩)] encC Kp (fun ys=>ys=visG 0 s rows) (fun pre=>pre <+: visG 0 s rows) rows.length w:=fun l J Jx W hW hJ _ hY h0 =>
 zgx n l Bc n₀ s A m c rows Kp hn hK1 hK2 J Jx W hJ (ZD hn₀ hW.size) hY ((hW.cell (p:=⟨Bc,0,none⟩) hBc).trans hc0) ((hW.cell (p:=⟨Bc,1,none⟩) hBc).trans hc1) (hr.ext hW) h0
theorem KpT.trans {n₀:Nat} {T:TypeId} {A B C:World} (h:KpT n₀ T A B) (k:KpT n₀ T B C):KpT n₀ T A C:=by
 refine ⟨h.1.trans k.1,fun b ht=>?_⟩
 have h1:=h.2 b ht
 have aa:Typed T B b:=by obtain ⟨cs,f,hc⟩:=ht;exact ⟨cs,f,by rw [h1];exact hc⟩
 rw [k.2 b aa,h1]
theorem KpT.put {n₀:Nat} {T:TypeId} {w:World} (hn:n₀<=w.heap.size) (W:World) (l:Nat) (o o':Obj) (hl:w.heap.size<=l) (h:W.heap[l]?=some o) (hc:o.isCells=false) (hw:o.isWalk=false):KpT n₀ T W (W.putObj l o'):=by
 refine ⟨belowK_b hn W l o o' hl h hc hw,fun b ht=>World.putObj_heap_other (fun e=>?_)⟩
 subst e
 obtain ⟨cs,f,ht⟩:=ht
 rw [h] at ht
 cases ht
 simp [Obj.isCells] at hc
theorem KpT.alloc {n₀:Nat} {T:TypeId} {W:World} (hn:n₀<=W.heap.size) (o:Obj):KpT n₀ T W (W.alloc o) :=
 ⟨(Below.refl _ _).alloc hn _,fun b ht=>by obtain ⟨cs,f,ht⟩:=ht;exact Below.heap_alloc _ _ _ (Zm.1 ht).1⟩
theorem KpT.refl (n₀:Nat) (T:TypeId) (W:World):KpT n₀ T W W:=⟨Below.refl _ _,fun _ _=>rfl⟩
theorem zjx {W:World} {a:Addr} {v:Value} (o:Obj) (h:W.cell? a=some v):(W.alloc o).cell? a=some v:=cell_kept h (World.grownBy_alloc W o none) (fun r e=>by cases e)
theorem zgF {W:World} {a:Addr} {v:Value} (o:Obj) (h:W.cell? a=some v) (hf:W.frozen? a=false):(W.alloc o).frozen? a=false:=(frozen_kept h (World.grownBy_alloc W o none) (fun r e=>by cases e)).trans hf
def chkF (w:World) (s:Int) (A:Option Addr) (m c:Nat) (v4 v19 v20:Value):Act :=
 { tmps:=#[.agg #[.int .i64 s,.slice A m c],.pointer (some ⟨w.heap.size,0,none⟩),.pointer (some ⟨w.heap.size+1,0,none⟩),undef,v4,.pointer (some ⟨w.heap.size,1,none⟩),.slice A m c,.int .i64 m,.bool false,
   .pointer (some ⟨w.heap.size,0,none⟩),.int .i64 s,.bool false,.bool false,.pointer (some ⟨w.heap.size,0,none⟩),.int .i64 s,.bool false,.bool false,.agg #[.int .i64 s,.slice A m c],
   .func (.func 95) #[] #[.pointer (some ⟨w.heap.size+1+1,0,none⟩)],v19,v20,undef,undef,undef,undef,undef],defers:=[] }
theorem zdT:∀args w,(callFunc 95 args).run Tryz.prog w = .ok (.enter 95 args) w:=enters_of Tryz.func95 (by kernel_rfl) rfl
theorem Typed.lt {T:TypeId} {w:World} {b:Nat} (h:Typed T w b):b<w.heap.size:=by
 obtain ⟨cs,f,h⟩:=h
 exact (Zm.1 h).1
def chkI (w:World) (pre:List Cn) (W:World):Prop:=((∀y∈pre,y.e=0)/\W.cell? ⟨w.heap.size+1,0,none⟩=some (.int .i64 0)/\W.frozen? ⟨w.heap.size+1,0,none⟩=false)/\Below w.heap.size w W
def chkX (w:World) (c:Code) (pre:List Cn) (W:World):Prop:=(∃y,c = .ret/\y∈pre/\y.e≠0/\W.cell? ⟨w.heap.size+1,0,none⟩=some (.int .i64 y.e))/\Below w.heap.size w W
def chkA (w:World) (s:Int) (A:Option Addr) (m c:Nat) (x:Cn) (a':Act) (W:World):Prop :=
 ∃Bx,w.heap.size+1<Bx/\W.cell? ⟨Bx,2,none⟩=some (.int .i64 x.e)/\a'=chkF w s A m c (.pointer (some ⟨Bx,0,none⟩)) (.int .i64 x.i) (.agg #[.int .i64 x.b,.int .i64 x.a,.int .i64 x.e])
theorem zjw (W:World) (u v x:Value) (T:TypeId):(W.alloc (.cells #[u,v,x] T)).cell? ⟨W.heap.size,2,none⟩=some x:=by
 have h:(W.alloc (.cells #[u,v,x] T)).heap[W.heap.size]?=some (.cells #[u,v,x] T):=heap_alloc_new W _
 rw [cell_of_row _ W.heap.size _ _ T (0,0) h]
 rfl
set_option maxRecDepth 100000 in
theorem zlI (s:Int) (A:Option Addr) (m c:Nat) (rows:List Ro) (w:World) (hr:Rws w (fun _=>True) A m rows) (hm:m<=100) (hs0:0<=s) (hs1:s<=200) :
  Calls Tryz.prog 34 #[.agg #[.int .i64 s,.slice A m c]] w fun e w'=>e = .returned (.int .i64 (chkGo s rows))/\Ext w w':=by
 have HR:=Za (hr.mono (K':=fun b=>b<w.heap.size) (fun b h _=>h))
 clear hr
 have am:decide (s<0)=false:=by simp;omega
 have an:decide (200<s)=false:=by simp;omega
 have al:decide ((100:Int)<(m:Int))=false:=by simp;omega
 refine (callsIn_wide (n:=3)).1 ?_
 refine callsIn_of_wp_marks Tryz.func34 rfl trivial ?_ rfl
 simp only [Tryz.ntmps34,List.size_toArray,Zk,List.length_nil,Nat.reduceAdd,Nat.reduceSub,Array.replicate_succ,Array.replicate_zero,List.push_toArray,List.append_toArray,List.nil_append,ZU]
 gi_wp2_with (refine ⟨trivial,?_⟩;gi_at_call 67;refine (callsIn_wide.2 (zgy s A m c _)).mono ?_;rintro e w' ⟨rfl,rfl⟩)
 clear am an al
 obtain ⟨W0,ab⟩:∃W0,((w.alloc (Obj.cells #[Value.int IntKind.i64 s,Value.slice A m c] 24)).alloc (Obj.cells #[Value.int IntKind.i64 0] 26)).alloc (Obj.cells #[Value.int IntKind.i64 s,Value.slice A m c] 24)=W0:=⟨_,rfl⟩
 have hsz:W0.heap.size=w.heap.size+3:=by rw [<-ab];simp
 have af:Below w.heap.size w W0:=by rw [<-ab];exact (((Below.refl _ w).alloc (Zg _) _).alloc (by simp) _).alloc (by simp;omega) _
 have ag:W0.cell? ⟨w.heap.size+1+1,0,none⟩=some (.int .i64 s):=by rw [<-ab];simp [go_sem]
 have ah:W0.cell? ⟨w.heap.size+1+1,1,none⟩=some (.slice A m c):=by rw [<-ab];simp [go_sem]
 have ai:W0.cell? ⟨w.heap.size+1,0,none⟩=some (.int .i64 0):=by rw [<-ab];simp [go_sem]
 have aj:W0.frozen? ⟨w.heap.size+1,0,none⟩=false:=by rw [<-ab];simp [go_sem]
 rw [ab]
 clear ab
 refine wpIn_rangeFunc_ownH (F:=Fence.wide) (n:=3) rfl (by omega) (gf:=95) (lb:=#[.pointer (some ⟨w.heap.size+1+1,0,none⟩)]) rfl trivial zdT
  (zer 2 (w.heap.size+1+1) w.heap.size s A m c rows (KpT w.heap.size 123) (by omega) (fun _ _ h=>h.1) (fun _ _ b h=>h.2 b) W0 (by omega) (by omega) ag ah (HR.out.ext af))
  (fun h k=>KpT.trans h k) (KpT.put (by omega)) (Below.refl _ _) (fun _=>rfl)
  (chkI w) (chkX w)
  (OwnFrom.and (Own.from (fun s A B row hs hg hr=>⟨hs.1,cell_kept hs.2.1 hg hr,(frozen_kept hs.2.1 hg hr).trans hs.2.2⟩) _) (ownFrom_below (by omega) (by omega)))
  (fun c=>OwnFrom.and (Own.from (fun s A B row hs hg hr=>by obtain ⟨y,h1,h2,h3,h4⟩:=hs;exact ⟨y,h1,h2,h3,cell_kept h4 hg hr⟩) _) (ownFrom_below (by omega) (by omega)))
  ⟨⟨by simp,ai,aj⟩,af⟩
  (chkA w s A m c)
  (fun x a'=>Own.from (fun _ A B row hs hg hr=>by obtain ⟨Bx,h1,h2,h3⟩:=hs;exact ⟨Bx,h1,cell_kept h2 hg hr,h3⟩) _) ?assign ?body ?done ?stop
 case assign =>
  rintro l pre x W K ⟨⟨hp,aa,ac⟩,hB⟩ hK
  have hlt:=Zn W _ aa
  simp only at hlt
  unfold encC
  gi_wp2
  exact hK _ _ ((KeepsOthers.alloc _ _).from _) (KpT.alloc (by omega) _) ⟨⟨hp,zjx _ aa,zgF _ aa ac⟩,hB.alloc (by omega) _⟩ ⟨W.heap.size,by omega,zjw _ _ _ _ _,rfl⟩
 case body =>
  rintro l pre x a' W _ _ ⟨⟨hp,aa,ac⟩,hB⟩ ⟨Bx,hBx,ak,rfl⟩ _
  unfold chkF
  by_cases hxe:x.e=0
  ·have HX:=Za hxe
   rw [hxe] at ak
   clear hxe
   gi_wp2
   exact ⟨(KeepsOthers.refl _).from _,KpT.refl _ _ _,⟨fun y hy=>(ZA.1 hy).elim (hp y) (fun e=>by simp at e;subst e;exact HX.out),aa,ac⟩,hB⟩
  ·have hb:(x.e != 0)=true:=by simpa using hxe
   gi_wp2
   exact ⟨(KeepsOthers.setCell _ _ _).from _,⟨x,rfl,by simp,hxe,World.cell?_setCell_same' _ _ _ (by rw [aa];rfl)⟩,hB.setCell (p:=⟨w.heap.size+1,0,none⟩) (by simp) _⟩
 case done =>
  rintro D ys W hD rfl ⟨⟨hp,aa,ac⟩,hB⟩ hK
  have HG:=Za (zph hp)
  gi_wp2
  have ad:=(KeepsOthers.setCell W ⟨w.heap.size+1,0,none⟩ (.int .i64 0)).same D _ hK rfl
  refine ⟨by simp,.inl ⟨_,_,rfl,run_takeDeferred ad,?_⟩⟩
  have ae:=cell_kept (World.cell?_setCell_same' W ⟨w.heap.size+1,0,none⟩ (.int .i64 0) (by rw [aa];rfl)) (grownBy_putObj' _ D (.deferred none)) (fun r e=>by cases e;exact ⟨_,ad,rfl⟩)
  refine ⟨.int .i64 0,?_,by rw [HG.out],(hB.setCell (p:=⟨w.heap.size+1,0,none⟩) (by simp) _).trans (belowK_b (w:=w) (Zg _) _ D _ _ (by omega) ad rfl rfl)⟩
  simp [results,Tryz.f34,go_sem,ae]
 case stop =>
  rintro D c pre W hD hpre ⟨⟨y,rfl,hy,ao,aa⟩,hB⟩ hK
  have HG:=Za (zoA (hpre.subset hy) ao)
  gi_wp2
  refine ⟨by simp,.inl ⟨_,_,rfl,run_takeDeferred hK,?_⟩⟩
  have ae:=cell_kept aa (grownBy_putObj' _ D (.deferred none)) (fun r e=>by cases e;exact ⟨_,hK,rfl⟩)
  refine ⟨.int .i64 y.e,?_,by rw [HG.out],hB.trans (belowK_b (w:=w) (Zg _) W D _ _ (by omega) hK rfl rfl)⟩
  simp [results,Tryz.f34,go_sem,ae]
set_option maxRecDepth 100000 in
theorem zcz (s:Int) (A:Option Addr) (m c:Nat) (rows:List Ro) (w:World) (hr:Rws w (fun _=>True) A m rows) :
  Calls Tryz.prog 34 #[.agg #[.int .i64 s,.slice A m c]] w fun e w'=>e = .returned (.int .i64 (chkC s rows))/\Ext w w':=by
 have hl:=hr.len
 have ab:=hr.1
 by_cases h1:100<m
 ·have HE:=Za (show chkC s rows=4 by rw [chkC,if_pos (by omega)])
  unfold maxLen at ab
  clear hr hl
  go_enter Tryz.func34,Tryz.ntmps34
  go_wp2_with fail
  exact bodyPost_ret (v := .int .i64 4) (by simp [results,Tryz.f34,go_sem]) rfl ⟨by rw [HE.out],by repeat (first | exact Zf _ | refine Zp ?_ _ | refine Zr ?_ (by simp) _)⟩
 by_cases h2:s<0
 ·have HE:=Za (show chkC s rows=8 by rw [chkC,if_neg (by omega),if_pos (.inl h2)])
  have aa:decide ((100:Int)<(m:Int))=false:=by simp;omega
  clear hr hl
  go_enter Tryz.func34,Tryz.ntmps34
  go_wp2_with fail
  exact bodyPost_ret (v := .int .i64 8) (by simp [results,Tryz.f34,go_sem]) rfl ⟨by rw [HE.out],by repeat (first | exact Zf _ | refine Zp ?_ _ | refine Zr ?_ (by simp) _)⟩
 by_cases h3:200<s
 ·have HE:=Za (show chkC s rows=8 by rw [chkC,if_neg (by omega),if_pos (.inr h3)])
  have aa:decide ((100:Int)<(m:Int))=false:=by simp;omega
  have hs2:decide (s<0)=false:=by simp;omega
  clear hr hl
  go_enter Tryz.func34,Tryz.ntmps34
  go_wp2_with fail
  exact bodyPost_ret (v := .int .i64 8) (by simp [results,Tryz.f34,go_sem]) rfl ⟨by rw [HE.out],by repeat (first | exact Zf _ | refine Zp ?_ _ | refine Zr ?_ (by simp) _)⟩
 have:=zlI s A m c rows w hr (by omega) (by omega) (by omega)
 have e:chkC s rows=chkGo s rows:=by rw [chkC,if_neg (by omega),if_neg (by omega)]
 rw [e]
 exact this
end Go.Proofs.YtkneghkbgingdaaGreatDoor
/- What gauge computes,in plain Lean. -/
namespace Go.Proofs.YtkneghkbgingdaaGreatDoor
set_option maxRecDepth 100000
def ginR (n lo hi:Int):Bool:=decide (lo<=n) && decide (n<=hi)
def gok (a b c d:Int):Bool:=ginR a 1 10000 && ginR b 1 10000 && ginR c 1 10000 && ginR d 1 10000
def gerr (a b c d:Int):Int:=if gok a b c d then 0 else 8
theorem zoR {n lo hi:Int} (h:n<lo∨hi<n):ginR n lo hi=false:=by simp [ginR];omega
theorem zhI {n lo hi:Int} (h:ginR n lo hi=true):lo<=n/\n<=hi:=by simpa [ginR] using h
theorem zhJ {n lo hi:Int} (h:ginR n lo hi=false):n<lo∨hi<n:=by simp [ginR] at h;omega
end Go.Proofs.YtkneghkbgingdaaGreatDoor
/- The contracts of Check of gauge,and of its reference. -/
namespace Go.Proofs.YtkneghkbgingdaaGreatDoor
set_option maxRecDepth 100000
open Go.RowKit
theorem zaj (n lo hi:Int) (w:World) :
  Calls Tryz.prog 89 #[.int .i64 n,.int .i64 lo,.int .i64 hi] w fun e w'=>e = .returned (.bool (ginR n lo hi))/\w=w':=by
 by_cases h:lo<=n
 ·go_enter Tryz.func89,Tryz.ntmps89
  go_wp2
  go_ret
  exact ⟨by simp [ginR,h],rfl⟩
 ·go_enter Tryz.func89,Tryz.ntmps89
  go_wp2
  go_ret
  exact ⟨by rw [zoR (by omega)];rfl,rfl⟩
theorem ziu (a b c d:Int) (w:World) :
  Calls Tryz.prog 61 #[.agg #[.int .i64 a,.int .i64 b,.int .i64 c,.int .i64 d]] w fun e w'=>e = .returned (.int .i64 (gerr a b c d))/\Ext w w':=by
 have i0:∀w,(Instr.index 101 (.agg #[.int .i64 a,.int .i64 b,.int .i64 c,.int .i64 d]) (.int .i64 0)).run Tryz.prog w = .ok (.int .i64 a) w:=fun _=>by kernel_rfl
 have i1:∀w,(Instr.index 101 (.agg #[.int .i64 a,.int .i64 b,.int .i64 c,.int .i64 d]) (.int .i64 1)).run Tryz.prog w = .ok (.int .i64 b) w:=fun _=>by kernel_rfl
 have i2:∀w,(Instr.index 101 (.agg #[.int .i64 a,.int .i64 b,.int .i64 c,.int .i64 d]) (.int .i64 2)).run Tryz.prog w = .ok (.int .i64 c) w:=fun _=>by kernel_rfl
 have i3:∀w,(Instr.index 101 (.agg #[.int .i64 a,.int .i64 b,.int .i64 c,.int .i64 d]) (.int .i64 3)).run Tryz.prog w = .ok (.int .i64 d) w:=fun _=>by kernel_rfl
 cases ha:ginR a 1 10000
 ·go_enter Tryz.func61,Tryz.ntmps61
  go_wp2_with fail
  refine wp_loop_rounds 1 ?_
  rw [rounds_succ]
  go_wp2_with (go_at_call 89;refine (zaj _ _ _ _).mono ?_;rintro e w1 ⟨rfl,rfl⟩)
  go_ret
  exact ⟨by simp [gerr,gok,ha],(Zf _).alloc _⟩
 cases hb:ginR b 1 10000
 ·go_enter Tryz.func61,Tryz.ntmps61
  go_wp2_with fail
  refine wp_loop_rounds 2 ?_
  rw [rounds_succ]
  go_wp2_with (go_at_call 89;refine (zaj _ _ _ _).mono ?_;rintro e w1 ⟨rfl,rfl⟩)
  rw [rounds_succ]
  go_wp2_with (go_at_call 89;refine (zaj _ _ _ _).mono ?_;rintro e w1 ⟨rfl,rfl⟩)
  go_ret
  exact ⟨by simp [gerr,gok,ha,hb],(Zf _).alloc _⟩
 cases hc:ginR c 1 10000
 ·go_enter Tryz.func61,Tryz.ntmps61
  go_wp2_with fail
  refine wp_loop_rounds 3 ?_
  rw [rounds_succ]
  go_wp2_with (go_at_call 89;refine (zaj _ _ _ _).mono ?_;rintro e w1 ⟨rfl,rfl⟩)
  rw [rounds_succ]
  go_wp2_with (go_at_call 89;refine (zaj _ _ _ _).mono ?_;rintro e w1 ⟨rfl,rfl⟩)
  rw [rounds_succ]
  go_wp2_with (go_at_call 89;refine (zaj _ _ _ _).mono ?_;rintro e w1 ⟨rfl,rfl⟩)
  go_ret
  exact ⟨by simp [gerr,gok,ha,hb,hc],(Zf _).alloc _⟩
 cases hd:ginR d 1 10000
 ·go_enter Tryz.func61,Tryz.ntmps61
  go_wp2_with fail
  refine wp_loop_rounds 4 ?_
  rw [rounds_succ]
  go_wp2_with (go_at_call 89;refine (zaj _ _ _ _).mono ?_;rintro e w1 ⟨rfl,rfl⟩)
  rw [rounds_succ]
  go_wp2_with (go_at_call 89;refine (zaj _ _ _ _).mono ?_;rintro e w1 ⟨rfl,rfl⟩)
  rw [rounds_succ]
  go_wp2_with (go_at_call 89;refine (zaj _ _ _ _).mono ?_;rintro e w1 ⟨rfl,rfl⟩)
  rw [rounds_succ]
  go_wp2_with (go_at_call 89;refine (zaj _ _ _ _).mono ?_;rintro e w1 ⟨rfl,rfl⟩)
  go_ret
  exact ⟨by simp [gerr,gok,ha,hb,hc,hd],(Zf _).alloc _⟩
 ·go_enter Tryz.func61,Tryz.ntmps61
  go_wp2_with fail
  refine wp_loop_rounds 5 ?_
  rw [rounds_succ]
  go_wp2_with (go_at_call 89;refine (zaj _ _ _ _).mono ?_;rintro e w1 ⟨rfl,rfl⟩)
  rw [rounds_succ]
  go_wp2_with (go_at_call 89;refine (zaj _ _ _ _).mono ?_;rintro e w1 ⟨rfl,rfl⟩)
  rw [rounds_succ]
  go_wp2_with (go_at_call 89;refine (zaj _ _ _ _).mono ?_;rintro e w1 ⟨rfl,rfl⟩)
  rw [rounds_succ]
  go_wp2_with (go_at_call 89;refine (zaj _ _ _ _).mono ?_;rintro e w1 ⟨rfl,rfl⟩)
  rw [rounds_succ]
  go_wp2_with (go_at_call 89;refine (zaj _ _ _ _).mono ?_;rintro e w1 ⟨rfl,rfl⟩)
  go_ret
  exact ⟨by simp [gerr,gok,ha,hb,hc,hd],(Zf _).alloc _⟩
theorem zgG (a b c d:Int) (w:World) :
  Calls Tryz.prog 93 #[.agg #[.int .i64 a,.int .i64 b,.int .i64 c,.int .i64 d]] w fun e w'=>e = .returned (.int .i64 (gerr a b c d))/\Ext w w':=by
 cases ha:ginR a 1 10000
 ·have hn:=zhJ ha
  rcases hn with hn | hn
  ·(go_enter Tryz.func93,Tryz.ntmps93;go_wp2;go_ret;exact ⟨by simp [gerr,gok,ha],(Zf _).alloc _⟩)
  ·(go_enter Tryz.func93,Tryz.ntmps93;go_wp2;go_ret;exact ⟨by simp [gerr,gok,ha],(Zf _).alloc _⟩)
 obtain ⟨a0,a1⟩:=zhI ha
 cases hb:ginR b 1 10000
 ·have hn:=zhJ hb
  rcases hn with hn | hn
  ·(go_enter Tryz.func93,Tryz.ntmps93;go_wp2;go_ret;exact ⟨by simp [gerr,gok,ha,hb],(Zf _).alloc _⟩)
  ·(go_enter Tryz.func93,Tryz.ntmps93;go_wp2;go_ret;exact ⟨by simp [gerr,gok,ha,hb],(Zf _).alloc _⟩)
 obtain ⟨b0,b1⟩:=zhI hb
 cases hc:ginR c 1 10000
 ·have hn:=zhJ hc
  rcases hn with hn | hn
  ·(go_enter Tryz.func93,Tryz.ntmps93;go_wp2;go_ret;exact ⟨by simp [gerr,gok,ha,hb,hc],(Zf _).alloc _⟩)
  ·(go_enter Tryz.func93,Tryz.ntmps93;go_wp2;go_ret;exact ⟨by simp [gerr,gok,ha,hb,hc],(Zf _).alloc _⟩)
 obtain ⟨c0,c1⟩:=zhI hc
 cases hd:ginR d 1 10000
 ·have hn:=zhJ hd
  rcases hn with hn | hn
  ·(go_enter Tryz.func93,Tryz.ntmps93;go_wp2;go_ret;exact ⟨by simp [gerr,gok,ha,hb,hc,hd],(Zf _).alloc _⟩)
  ·(go_enter Tryz.func93,Tryz.ntmps93;go_wp2;go_ret;exact ⟨by simp [gerr,gok,ha,hb,hc,hd],(Zf _).alloc _⟩)
 obtain ⟨d0,d1⟩:=zhI hd
 ·(go_enter Tryz.func93,Tryz.ntmps93;go_wp2;go_ret;exact ⟨by simp [gerr,gok,ha,hb,hc,hd],(Zf _).alloc _⟩)
end Go.Proofs.YtkneghkbgingdaaGreatDoor
/- The Check of patterns. -/
namespace Go.Proofs.YtkneghkbgingdaaGreatDoor
set_option maxRecDepth 100000
open Go.RowKit Go.ChangeShapes Go.WideShapes Go.Joins
theorem zjM (K:Nat) (h:((Tryz.prog.funcs[K]?).map fun f=>(f.name == "runtime.NumGoroutine",f.body.isNone))=some (false,false)):∀args w,(callFunc K args).run Tryz.prog w = .ok (.enter K args) w:=by
 intro args w
 obtain ⟨f,hf,h2⟩:=ZH.1 h
 simp only [Prod.mk.injEq] at h2
 simp [callFunc,hf]
 rw [if_neg (by simpa using h2.1),if_neg (by intro e;simp [e] at h2)]
section
variable {nm:List UInt8} {g1 g2 g3 g4:Int} {As Ac:Option Addr} {ns cs nc cc:Nat}
def BoxP (w:World) (b:Nat) (nm:List UInt8) (g1 g2 g3 g4:Int) (As:Option Addr) (ns cs:Nat) (Ac:Option Addr) (nc cc:Nat):Prop :=
 w.heap[b]?=some (.cells #[.string ⟨nm.toArray⟩,.int .i64 g1,.int .i64 g2,.int .i64 g3,.int .i64 g4,.slice As ns cs,.slice Ac nc cc] 42 (0,0))
theorem BoxP.ext {w w':World} {b:Nat} (h:BoxP w b nm g1 g2 g3 g4 As ns cs Ac nc cc) (hb:Ext w w'):BoxP w' b nm g1 g2 g3 g4 As ns cs Ac nc cc:=by
 unfold BoxP at h ⊢
 rw [hb.block _ (Zm.1 h).1]
 exact h
theorem BoxP.facts {w:World} {b:Nat} (h:BoxP w b nm g1 g2 g3 g4 As ns cs Ac nc cc) :
  w.cell? ⟨b,0,none⟩=some (.string ⟨nm.toArray⟩)/\w.cell? ⟨b,1,none⟩=some (.int .i64 g1)/\w.cell? ⟨b,2,none⟩=some (.int .i64 g2)/\w.cell? ⟨b,3,none⟩=some (.int .i64 g3)/\w.cell? ⟨b,4,none⟩=some (.int .i64 g4) /\
   w.cell? ⟨b,5,none⟩=some (.slice As ns cs)/\w.cell? ⟨b,6,none⟩=some (.slice Ac nc cc)/\b<w.heap.size :=
 ⟨(cell_of_row w _ 0 _ _ (0,0) h).trans rfl,(cell_of_row w _ 1 _ _ (0,0) h).trans rfl,(cell_of_row w _ 2 _ _ (0,0) h).trans rfl,(cell_of_row w _ 3 _ _ (0,0) h).trans rfl,(cell_of_row w _ 4 _ _ (0,0) h).trans rfl,(cell_of_row w _ 5 _ _ (0,0) h).trans rfl,(cell_of_row w _ 6 _ _ (0,0) h).trans rfl,(Zm.1 h).1⟩
theorem BoxP.start (w:World) (nm:List UInt8) (g1 g2 g3 g4:Int) (As:Option Addr) (ns cs:Nat) (Ac:Option Addr) (nc cc:Nat):BoxP (w.alloc (.cells #[.string ⟨nm.toArray⟩,.int .i64 g1,.int .i64 g2,.int .i64 g3,.int .i64 g4,.slice As ns cs,.slice Ac nc cc] 42)) w.heap.size nm g1 g2 g3 g4 As ns cs Ac nc cc:=heap_alloc_new w _
theorem zn6 {b:Nat} {st:List Stf} (i:Nat) (w:World) (hb:BoxP w b nm g1 g2 g3 g4 As ns cs Ac nc cc) (hs:Vec shStf w As ns st) (hi:i<ns) :
  Calls Tryz.prog 58 #[.int .i64 i,.pointer (some ⟨b,0,none⟩)] w fun e w'=>e = .returned (.string ⟨(stN st i).toArray⟩)/\Ext w w':=by
 obtain ⟨x0,x1,x2,x3,x4,x5,x6,xz⟩:=hb.facts
 obtain ⟨b',off,rfl,hlt,c0,c1⟩:=Stf.at_ hs hi
 have q0:(0:Int)<=(i:Int):=by omega
 have q1:(i:Int)<(ns:Int):=by omega
 generalize stN st i=Y at *
 clear hb hs
 go_enter Tryz.func58,Tryz.ntmps58
 go_wp2_with fail
 go_ret
 exact ⟨rfl,Zf _⟩
theorem zn7 {b:Nat} {se:List Sec} (i:Nat) (w:World) (hb:BoxP w b nm g1 g2 g3 g4 As ns cs Ac nc cc) (hs:Secs w Ac nc se) (hi:i<nc) :
  Calls Tryz.prog 59 #[.int .i64 i,.pointer (some ⟨b,0,none⟩)] w fun e w'=>e = .returned (.string ⟨(seN se i).toArray⟩)/\Ext w w':=by
 obtain ⟨x0,x1,x2,x3,x4,x5,x6,xz⟩:=hb.facts
 obtain ⟨b',off,A',n',c',rfl,hlt,c0,c1,c2,hr,hcap⟩:=hs.at_ hi
 have q0:(0:Int)<=(i:Int):=by omega
 have q1:(i:Int)<(nc:Int):=by omega
 generalize seN se i=Y at *
 clear hb hs hr
 go_enter Tryz.func59,Tryz.ntmps59
 go_wp2_with fail
 go_ret
 exact ⟨rfl,Zf _⟩
end
theorem zc6 {st:List Stf} {n k:Nat} (hk:k<n) (h:¬(1<=(st.getD k stf0).g/\(st.getD k stf0).g<=100000)):gramB st n=false:=by
 unfold gramB
 rw [List.all_eq_false]
 exact ⟨k,ZP.2 hk,by simp only [ZG];exact h⟩
theorem zc9 {nm:List UInt8} {ge:Int} {st:List Stf} {se:List Sec} (h:20<st.length∨20<se.length):patE nm ge st se=4:=by rw [patE,if_pos h]
theorem zbP {nm:List UInt8} {ge:Int} {st:List Stf} {se:List Sec} (h:¬(20<st.length∨20<se.length)) (h2:fineP nm ge st se=false):patE nm ge st se=8:=by
 rw [patE,if_neg h,if_neg (by rw [h2];simp)]
theorem zco {nm:List UInt8} {ge:Int} {st:List Stf} {se:List Sec} (h:¬(20<st.length∨20<se.length)) (h2:fineP nm ge st se=true) (h3:twiceB (stN st) st.length=true∨twiceB (seN se) se.length=true):patE nm ge st se=14:=by
 rw [patE,if_neg h,if_pos h2,if_pos h3]
theorem zfI {nm:List UInt8} {ge:Int} {st:List Stf} {se:List Sec} (h:¬(20<st.length∨20<se.length)) (h2:fineP nm ge st se=true) (h3:twiceB (stN st) st.length=false) (h4:twiceB (seN se) se.length=false):patE nm ge st se=firstE se se.length 0:=by
 rw [patE,if_neg h,if_pos h2,if_neg (by rw [h3,h4];simp)]
theorem zfu {se:List Sec} {n k:Nat} (h:chkC (se.getD k sec0).s (se.getD k sec0).rows≠0):firstE se (n+1) k=chkC (se.getD k sec0).s (se.getD k sec0).rows:=by rw [firstE,if_pos h]
theorem zhE {se:List Sec} {n k:Nat} (h:chkC (se.getD k sec0).s (se.getD k sec0).rows=0):firstE se (n+1) k=firstE se n (k+1):=by rw [firstE,if_neg (fun h9=>h9 h)]
theorem zd5 (nm:List UInt8) (g1 g2 g3 g4:Int) (As:Option Addr) (ns cs:Nat) (st:List Stf) (Ac:Option Addr) (nc cc:Nat) (se:List Sec) (w:World) (hs:Vec shStf w As ns st) (hc:Secs w Ac nc se)
  (hnl:nm.length<=100000) (hsl:∀i,i<ns->(stN st i).length<=100000) (hcl:∀i,i<nc->(seN se i).length<=100000) (hn1:ns<=10000) (hn2:nc<=10000) :
  Calls Tryz.prog 28 #[.agg #[.string ⟨nm.toArray⟩,.int .i64 g1,.int .i64 g2,.int .i64 g3,.int .i64 g4,.slice As ns cs,.slice Ac nc cc]] w fun e w'=>e = .returned (.int .i64 (patE nm (gerr g1 g2 g3 g4) st se))/\Ext w w':=by
 have ai:=Za hs.1
 have ah:=Za hc.len
 have av:=Za hs
 have ar:=Za hc
 have aa:=Za (BoxP.start w nm g1 g2 g3 g4 As ns cs Ac nc cc)
 have ad:=Za (show Ext w (w.alloc (.cells #[.string ⟨nm.toArray⟩,.int .i64 g1,.int .i64 g2,.int .i64 g3,.int .i64 g4,.slice As ns cs,.slice Ac nc cc] 42)) from (Zf w).alloc _)
 have af:=Za (fun (w':World) (hx:Ext (w.alloc (.cells #[.string ⟨nm.toArray⟩,.int .i64 g1,.int .i64 g2,.int .i64 g3,.int .i64 g4,.slice As ns cs,.slice Ac nc cc] 42)) w')=>zfC ns 58 #[.pointer (some ⟨w.heap.size,0,none⟩)] (stN st) w' (by omega) (zjM _ (by kernel_rfl))
  (fun i w1 hi h1=>zn6 i w1 (aa.out.ext (hx.trans h1)) (av.out.ext ((ad.out.trans hx).trans h1)) hi) (fun i hi=>by have:=hsl i hi;omega))
 have ab:=Za (fun (w':World) (hx:Ext (w.alloc (.cells #[.string ⟨nm.toArray⟩,.int .i64 g1,.int .i64 g2,.int .i64 g3,.int .i64 g4,.slice As ns cs,.slice Ac nc cc] 42)) w')=>zfC nc 59 #[.pointer (some ⟨w.heap.size,0,none⟩)] (seN se) w' (by omega) (zjM _ (by kernel_rfl))
  (fun i w1 hi h1=>zn7 i w1 (aa.out.ext (hx.trans h1)) (ar.out.ext ((ad.out.trans hx).trans h1)) hi) (fun i hi=>by have:=hcl i hi;omega))
 have ag:=Za (fun (w':World)=>zfM nm (by omega) w')
 have ao:=Za (fun (w':World)=>ziu g1 g2 g3 g4 w')
 obtain ⟨R,hR⟩:∃R,patE nm (gerr g1 g2 g3 g4) st se=R:=⟨_,rfl⟩
 have HR:=Za hR
 rw [hR]
 clear hs hc hsl hcl hR
 by_cases h20:20<ns
 ·have HN:=Za (show R=4 by rw [<-HR.out];exact zc9 (.inl (by rw [ai.out];exact h20)))
  have p1:(20:Int)<(ns:Int):=by omega
  clear h20
  go_enter Tryz.func28,Tryz.ntmps28
  go_wp2_with fail
  go_ret
  exact ⟨by rw [HN.out];rfl,zx⟩
 have p1:¬((20:Int)<(ns:Int)):=by omega
 by_cases h21:20<nc
 ·have HN:=Za (show R=4 by rw [<-HR.out];exact zc9 (.inr (by rw [ah.out];exact h21)))
  have p2:(20:Int)<(nc:Int):=by omega
  clear h20 h21
  go_enter Tryz.func28,Tryz.ntmps28
  go_wp2_with fail
  go_ret
  exact ⟨by rw [HN.out];rfl,zx⟩
 have p2:¬((20:Int)<(nc:Int)):=by omega
 have ac:=Za (show ¬(20<st.length∨20<se.length) by rw [ai.out,ah.out];omega)
 clear h20 h21
 have ae:=Za (show fineP nm (gerr g1 g2 g3 g4) st se=(wordS nm && wordsB (stN st) ns && wordsB (seN se) nc && decide (nc≠0) && decide (gerr g1 g2 g3 g4=0) && gramB st ns) by rw [fineP,ai.out,ah.out])
 obtain ⟨a1,e1⟩:∃a,wordS nm=a:=⟨_,rfl⟩
 obtain ⟨a2,e2⟩:∃a,wordsB (stN st) ns=a:=⟨_,rfl⟩
 obtain ⟨a3,e3⟩:∃a,wordsB (seN se) nc=a:=⟨_,rfl⟩
 obtain ⟨t1,e4⟩:∃a,twiceB (stN st) ns=a:=⟨_,rfl⟩
 obtain ⟨t2,e5⟩:∃a,twiceB (seN se) nc=a:=⟨_,rfl⟩
 obtain ⟨ge,e6⟩:∃a,gerr g1 g2 g3 g4=a:=⟨_,rfl⟩
 rw [e1,e2,e3,e6] at ae
 rw [e6] at ao HR
 rw [e2,e4] at af
 rw [e3,e5] at ab
 rw [e1] at ag
 have aw:=Za e4
 have ax:=Za e5
 clear e1 e2 e3 e4 e5 e6
 cases a1 with
 | false =>
  have HN:=Za (show R=8 by rw [<-HR.out];exact zbP ac.out (by rw [ae.out];simp))
  go_enter Tryz.func28,Tryz.ntmps28
  go_wp2_with (first
   | (go_at_call 57;(first | ((with_reducible refine (af.out _ zx).mono ?_);rintro e w1 ⟨rfl,hq1⟩;obtain ⟨x0,x1,x2,x3,x4,x5,x6,xz⟩:=(aa.out.ext (zx:Ext _ w1)).facts) | (((with_reducible refine (ab.out _ zx).mono ?_);rintro e w2 ⟨rfl,hq2⟩;obtain ⟨x0,x1,x2,x3,x4,x5,x6,xz⟩:=(aa.out.ext (zx:Ext _ w2)).facts))))
   | (go_at_call 60;((with_reducible refine (ag.out _).mono ?_);rintro e w3 ⟨rfl,ak⟩;obtain ⟨x0,x1,x2,x3,x4,x5,x6,xz⟩:=(aa.out.ext (zx:Ext _ w3)).facts)))
  go_ret
  exact ⟨by rw [HN.out];rfl,zx⟩
 | true =>
  cases a2 with
  | false =>
   have HN:=Za (show R=8 by rw [<-HR.out];exact zbP ac.out (by rw [ae.out];simp))
   go_enter Tryz.func28,Tryz.ntmps28
   go_wp2_with (first
    | (go_at_call 57;(first | ((with_reducible refine (af.out _ zx).mono ?_);rintro e w1 ⟨rfl,hq1⟩;obtain ⟨x0,x1,x2,x3,x4,x5,x6,xz⟩:=(aa.out.ext (zx:Ext _ w1)).facts) | (((with_reducible refine (ab.out _ zx).mono ?_);rintro e w2 ⟨rfl,hq2⟩;obtain ⟨x0,x1,x2,x3,x4,x5,x6,xz⟩:=(aa.out.ext (zx:Ext _ w2)).facts))))
    | (go_at_call 60;((with_reducible refine (ag.out _).mono ?_);rintro e w3 ⟨rfl,ak⟩;obtain ⟨x0,x1,x2,x3,x4,x5,x6,xz⟩:=(aa.out.ext (zx:Ext _ w3)).facts)))
   go_ret
   exact ⟨by rw [HN.out];rfl,zx⟩
  | true =>
   cases a3 with
   | false =>
    have HN:=Za (show R=8 by rw [<-HR.out];exact zbP ac.out (by rw [ae.out];simp))
    go_enter Tryz.func28,Tryz.ntmps28
    go_wp2_with (first
     | (go_at_call 57;(first | ((with_reducible refine (af.out _ zx).mono ?_);rintro e w1 ⟨rfl,hq1⟩;obtain ⟨x0,x1,x2,x3,x4,x5,x6,xz⟩:=(aa.out.ext (zx:Ext _ w1)).facts) | (((with_reducible refine (ab.out _ zx).mono ?_);rintro e w2 ⟨rfl,hq2⟩;obtain ⟨x0,x1,x2,x3,x4,x5,x6,xz⟩:=(aa.out.ext (zx:Ext _ w2)).facts))))
     | (go_at_call 60;((with_reducible refine (ag.out _).mono ?_);rintro e w3 ⟨rfl,ak⟩;obtain ⟨x0,x1,x2,x3,x4,x5,x6,xz⟩:=(aa.out.ext (zx:Ext _ w3)).facts)))
    go_ret
    exact ⟨by rw [HN.out];rfl,zx⟩
   | true =>
    by_cases h0:nc=0
    ·have HN:=Za (show R=8 by rw [<-HR.out];exact zbP ac.out (by rw [ae.out];simp [h0]))
     have p3:((nc:Int)==0)=true:=by simp [h0]
     clear h0
     go_enter Tryz.func28,Tryz.ntmps28
     go_wp2_with (first
      | (go_at_call 57;(first | ((with_reducible refine (af.out _ zx).mono ?_);rintro e w1 ⟨rfl,hq1⟩;obtain ⟨x0,x1,x2,x3,x4,x5,x6,xz⟩:=(aa.out.ext (zx:Ext _ w1)).facts) | (((with_reducible refine (ab.out _ zx).mono ?_);rintro e w2 ⟨rfl,hq2⟩;obtain ⟨x0,x1,x2,x3,x4,x5,x6,xz⟩:=(aa.out.ext (zx:Ext _ w2)).facts))))
      | (go_at_call 60;((with_reducible refine (ag.out _).mono ?_);rintro e w3 ⟨rfl,ak⟩;obtain ⟨x0,x1,x2,x3,x4,x5,x6,xz⟩:=(aa.out.ext (zx:Ext _ w3)).facts)))
     go_ret
     exact ⟨by rw [HN.out];rfl,zx⟩
    have p3:((nc:Int)==0)=false:=by rw [Ze];omega
    have ay:=Za h0
    clear h0
    by_cases hg:ge=0
    case neg =>
     have HN:=Za (show R=8 by rw [<-HR.out];exact zbP ac.out (by rw [ae.out];simp [hg]))
     have p4:(ge != 0)=true:=by simpa using hg
     clear hg
     go_enter Tryz.func28,Tryz.ntmps28
     go_wp2_with (first
      | (go_at_call 57;(first | ((with_reducible refine (af.out _ zx).mono ?_);rintro e w1 ⟨rfl,hq1⟩;obtain ⟨x0,x1,x2,x3,x4,x5,x6,xz⟩:=(aa.out.ext (zx:Ext _ w1)).facts) | (((with_reducible refine (ab.out _ zx).mono ?_);rintro e w2 ⟨rfl,hq2⟩;obtain ⟨x0,x1,x2,x3,x4,x5,x6,xz⟩:=(aa.out.ext (zx:Ext _ w2)).facts))))
      | (go_at_call 60;((with_reducible refine (ag.out _).mono ?_);rintro e w3 ⟨rfl,ak⟩;obtain ⟨x0,x1,x2,x3,x4,x5,x6,xz⟩:=(aa.out.ext (zx:Ext _ w3)).facts))
      | (go_at_call 61;((with_reducible refine (ao.out _).mono ?_);rintro e w4 ⟨rfl,aA⟩;obtain ⟨x0,x1,x2,x3,x4,x5,x6,xz⟩:=(aa.out.ext (zx:Ext _ w4)).facts)))
     go_ret
     exact ⟨by rw [HN.out];rfl,zx⟩
    subst hg
    go_enter Tryz.func28,Tryz.ntmps28
    go_wp2_with (first
     | (go_at_call 57;(first | ((with_reducible refine (af.out _ zx).mono ?_);rintro e w1 ⟨rfl,hq1⟩;obtain ⟨x0,x1,x2,x3,x4,x5,x6,xz⟩:=(aa.out.ext (zx:Ext _ w1)).facts) | (((with_reducible refine (ab.out _ zx).mono ?_);rintro e w2 ⟨rfl,hq2⟩;obtain ⟨x0,x1,x2,x3,x4,x5,x6,xz⟩:=(aa.out.ext (zx:Ext _ w2)).facts))))
     | (go_at_call 60;((with_reducible refine (ag.out _).mono ?_);rintro e w3 ⟨rfl,ak⟩;obtain ⟨x0,x1,x2,x3,x4,x5,x6,xz⟩:=(aa.out.ext (zx:Ext _ w3)).facts))
     | (go_at_call 61;((with_reducible refine (ao.out _).mono ?_);rintro e w4 ⟨rfl,aA⟩;obtain ⟨x0,x1,x2,x3,x4,x5,x6,xz⟩:=(aa.out.ext (zx:Ext _ w4)).facts)))
    go_loopw [65] (fun v wr=>∃k:Nat,v = .int .i64 (k:Int)/\k<=ns/\Hid (gramB st k=true)/\Hid (Ext (w.alloc (.cells #[.string ⟨nm.toArray⟩,.int .i64 g1,.int .i64 g2,.int .i64 g3,.int .i64 g4,.slice As ns cs,.slice Ac nc cc] 42)) wr)) (fun v _=>ns-(intOf v).toNat)
    case atStart=>exact ⟨0,rfl,Zy _,Za rfl,Za zx⟩
    case round =>
     obtain ⟨k,rfl,hk,HG,HE⟩:=hrel
     obtain ⟨wa,rfl⟩:∃wa:World,wa=wr:=⟨_,rfl⟩
     have q0:(0:Int)<=(k:Int):=by omega
     by_cases hlt:k<ns
     ·have q1:(k:Int)<(ns:Int):=by omega
      obtain ⟨b',off,rfl,az,c0,c1⟩:=Stf.at_ (av.out.ext (ad.out.trans HE.out)) hlt
      generalize stN st k=Y at c0
      obtain ⟨gk,aq⟩:∃gk,(st.getD k stf0).g=gk:=⟨_,rfl⟩
      rw [aq] at c1
      have ap:=Za aq
      clear aq
      by_cases hlo:gk<1
      ·have HN:=Za (show R=8 by rw [<-HR.out];exact zbP ac.out (by rw [ae.out,zc6 hlt (by rw [ap.out];omega)];simp))
       go_wp2_with fail
       go_ret
       exact ⟨by rw [HN.out];rfl,ad.out.trans (HE.out.trans zx)⟩
      ·by_cases hhi:100000<gk
       ·have HN:=Za (show R=8 by rw [<-HR.out];exact zbP ac.out (by rw [ae.out,zc6 hlt (by rw [ap.out];omega)];simp))
        go_wp2_with fail
        go_ret
        exact ⟨by rw [HN.out];rfl,ad.out.trans (HE.out.trans zx)⟩
       ·have HN:=Za (show gramB st (k+1)=true by rw [zfw,HG.out,ap.out,ZW (show 1<=gk/\gk<=100000 by omega)];rfl)
        go_wp2_with fail
        go_roundw
        case rel=>exact ⟨k+1,by go_num,by omega,HN,Za (HE.out.trans zx)⟩
        case measure=>simp [intOf] <;> omega
     ·obtain rfl:ns=k:=by omega
      have an:=Za (show fineP nm 0 st se=true by rw [ae.out,HG.out];simp [ay.out])
      obtain ⟨x0,x1,x2,x3,x4,x5,x6,xz⟩:=(aa.out.ext HE.out).facts
      cases t1 with
      | true =>
       have HN:=Za (show R=14 by rw [<-HR.out];exact zco ac.out an.out (.inl (by rw [ai.out];exact aw.out)))
       go_wp2_with fail
       go_ret
       exact ⟨by rw [HN.out];rfl,ad.out.trans (HE.out.trans zx)⟩
      | false =>
       cases t2 with
       | true =>
        have HN:=Za (show R=14 by rw [<-HR.out];exact zco ac.out an.out (.inr (by rw [ah.out];exact ax.out)))
        go_wp2_with fail
        go_ret
        exact ⟨by rw [HN.out];rfl,ad.out.trans (HE.out.trans zx)⟩
       | false =>
        have HN:=Za (show R=firstE se nc 0 by rw [<-HR.out,zfI ac.out an.out (by rw [ai.out];exact aw.out) (by rw [ah.out];exact ax.out),ah.out])
        go_wp2_with fail
        go_loopw [85] (fun v wr=>∃j:Nat,v = .int .i64 (j:Int)/\j<=nc/\Hid (R=firstE se (nc-j) j)/\Hid (Ext (w.alloc (.cells #[.string ⟨nm.toArray⟩,.int .i64 g1,.int .i64 g2,.int .i64 g3,.int .i64 g4,.slice As ns cs,.slice Ac nc cc] 42)) wr)) (fun v _=>nc-(intOf v).toNat)
        case atStart=>exact ⟨0,rfl,Zy _,HN,Za (HE.out.trans zx)⟩
        case round =>
         clear x0 x1 x2 x3 x4 x5 x6 xz HN
         obtain ⟨j,rfl,hj,HF,al⟩:=hrel
         obtain ⟨wb,rfl⟩:∃wb:World,wb=wr:=⟨_,rfl⟩
         have p5:(0:Int)<=(j:Int):=by omega
         by_cases hjl:j<nc
         ·have p6:(j:Int)<(nc:Int):=by omega
          obtain ⟨b',off,A',n',c',rfl,az,c0,c1,c2,hr,hcap⟩:=(ar.out.ext (ad.out.trans al.out)).at_ hjl
          have au:=Za hr
          obtain ⟨m,hm⟩:∃m,nc-j=m+1:=⟨nc-j-1,by omega⟩
          have HM:=Za (show nc-(j+1)=m by omega)
          have aj:=HF.out
          rw [hm] at aj
          generalize seN se j=Y at c0
          obtain ⟨S,hS⟩:∃S,(se.getD j sec0).s=S:=⟨_,rfl⟩
          obtain ⟨L,hL⟩:∃L,(se.getD j sec0).rows=L:=⟨_,rfl⟩
          rw [hS] at c1
          rw [hL] at au
          obtain ⟨x,hx⟩:∃x,chkC S L=x:=⟨_,rfl⟩
          have am:=Za (fun (w':World) (h:Ext wb w')=>zcz S A' n' c' L w' (au.out.ext h))
          rw [hx] at am
          by_cases hx0:x=0
          ·have ab:=Za (show R=firstE se (nc-(j+1)) (j+1) by rw [HM.out,aj,zhE (by rw [hS,hL,hx];exact hx0)])
           subst hx0
           clear hS hL hx hm aj hr
           go_wp2_with (first
            | (go_at_call 34;((with_reducible refine (am.out _ zx).mono ?_);rintro e w5 ⟨rfl,aB⟩)))
           go_roundw
           case rel=>exact ⟨j+1,by go_num,by omega,ab,Za (al.out.trans zx)⟩
           case measure=>simp [intOf] <;> omega
          ·have ab:=Za (show R=x by rw [aj,zfu (by rw [hS,hL,hx];exact hx0),hS,hL,hx])
           have p7:(x != 0)=true:=by simpa using hx0
           clear hS hL hx hm aj hr hx0
           go_wp2_with (first
            | (go_at_call 34;((with_reducible refine (am.out _ zx).mono ?_);rintro e w5 ⟨rfl,aB⟩)))
           go_ret
           exact ⟨by rw [ab.out];rfl,ad.out.trans (al.out.trans zx)⟩
         ·obtain rfl:j=nc:=by omega
          have ab:=Za (show R=0 by rw [HF.out,Nat.sub_self];rfl)
          go_wp2_with fail
          go_ret
          exact ⟨by rw [ab.out];rfl,ad.out.trans al.out⟩
end Go.Proofs.YtkneghkbgingdaaGreatDoor
