/- Text of a pattern. -/
import Derived.Test.YtkneghkbgingdaaGreatDoorK44
namespace Go.Proofs.YtkneghkbgingdaaGreatDoor
set_option maxHeartbeats 16000000
set_option maxRecDepth 100000
open Go.RowKit Go.ChangeShapes Go.WideShapes Go.Joins
def PtxR (nm:List UInt8) (ge g1 g2 g3 g4:Int) (st:List Stf) (se:List Sec) (w:World) (e:Ending) (w':World):Prop:=e = .returned (.tuple #[.string ⟨(ptxV nm ge g1 g2 g3 g4 st se).toArray⟩,.int .i64 (ptxE nm ge g1 g2 g3 g4 st se)])∧Ext w w'
theorem PtxR.mk_ {nm:List UInt8} {ge g1 g2 g3 g4:Int} {st:List Stf} {se:List Sec} {V:List UInt8} {E:Int} {w w':World} (h:ptxE nm ge g1 g2 g3 g4 st se=E∧ptxV nm ge g1 g2 g3 g4 st se=V) (hb:Ext w w'):PtxR nm ge g1 g2 g3 g4 st se w (.returned (.tuple #[.string ⟨V.toArray⟩,.int .i64 E])) w':=by
 obtain ⟨h1,h2⟩:=h
 subst h1
 subst h2
 exact ⟨rfl,hb⟩
theorem WSt.boxT {W0 w0 w:World} {b:Nat} {l:List UInt8} (h:WSt W0 w0 b l w) {g:Nat} {c:Array Value} {T:TypeId} {fz:Nat×Nat} (hg:w0.heap[g]?=some (.cells c T fz)) (hb:g≠b) (hT:T≠5):w.heap[g]?=some (.cells c T fz) :=
 h.kp g _ hg (by simpa using hb) (fun c' fz' e=>by cases e;exact hT rfl)
theorem WSt.boxX {W0 w0 wx w:World} {b:Nat} {l:List UInt8} (h:WSt W0 w0 b l w) (hx:Ext wx w0) {g:Nat} {c:Array Value} {T:TypeId} {fz:Nat×Nat} (hg:wx.heap[g]?=some (.cells c T fz)) (hb:g≠b) (hT:T≠5):w.heap[g]?=some (.cells c T fz) :=
 h.boxT (by rw [hx.block _ (Zn.1 hg).1];exact hg) hb hT
theorem WSt.lt {W0 w0 w:World} {b:Nat} {l:List UInt8} (h:WSt W0 w0 b l w):b<w.heap.size :=
 h.bl.elim (fun ⟨_,_,hb,_⟩=>(Zn.1 hb).1) (fun ⟨_,_,hb,_⟩=>(Zn.1 hb).1)
theorem WSt.rebase {W0 w0 w1 w:World} {b:Nat} {l l2:List UInt8} (h:WSt W0 w1 b l w) (h0:WSt W0 w0 b l2 w1):WSt W0 w0 b l w:=h.base h0.kp
def gTx (G:List Int) (k:Nat):List UInt8:=(G.take k).flatMap fun g=>32::decD g.toNat
theorem zmo (g1 g2 g3 g4:Int):gw++gTx [g1,g2,g3,g4] 4=gaugeL g1 g2 g3 g4:=by
 unfold gTx gaugeL
 simp
theorem zkA {G:List Int} {k:Nat} (hk:k<G.length):gTx G (k+1)=gTx G k++32::decD (G.getD k 0).toNat:=by
 unfold gTx
 rw [List.take_add_one,Zg hk,Z2,Zc,Zg hk]
 simp
theorem zhQ (g1 g2 g3 g4:Int) (W:World):Sem.run Tryz.prog (Instr.index 101 (.agg #[.int .i64 g1,.int .i64 g2,.int .i64 g3,.int .i64 g4]) (.int .i64 0)) W = .ok (.int .i64 g1) W:=by
 kernel_rfl
theorem zhR (g1 g2 g3 g4:Int) (W:World):Sem.run Tryz.prog (Instr.index 101 (.agg #[.int .i64 g1,.int .i64 g2,.int .i64 g3,.int .i64 g4]) (.int .i64 1)) W = .ok (.int .i64 g2) W:=by
 kernel_rfl
theorem zhS (g1 g2 g3 g4:Int) (W:World):Sem.run Tryz.prog (Instr.index 101 (.agg #[.int .i64 g1,.int .i64 g2,.int .i64 g3,.int .i64 g4]) (.int .i64 2)) W = .ok (.int .i64 g3) W:=by
 kernel_rfl
theorem zhT (g1 g2 g3 g4:Int) (W:World):Sem.run Tryz.prog (Instr.index 101 (.agg #[.int .i64 g1,.int .i64 g2,.int .i64 g3,.int .i64 g4]) (.int .i64 3)) W = .ok (.int .i64 g4) W:=by
 kernel_rfl
theorem zk4 (nm:List UInt8) (g1 g2 g3 g4:Int) (As:Option Addr) (ns cs:Nat) (st:List Stf) (Ac:Option Addr) (nc cc:Nat) (se:List Sec) (w:World) (hs:Vec shStf w As ns st) (hc:Secs w Ac nc se)
  (hnl:nm.length≤100000) (hsl:∀i,i<ns→(stN st i).length≤100000) (hcl:∀i,i<nc→(seN se i).length≤100000) (hn1:ns≤10000) (hn2:nc≤10000) {x:Int} (hx:patE nm (gerr g1 g2 g3 g4) st se=x) (h0:x≠0) :
  Calls Tryz.prog 16 #[.agg #[.string ⟨nm.toArray⟩,.int .i64 g1,.int .i64 g2,.int .i64 g3,.int .i64 g4,.slice As ns cs,.slice Ac nc cc]] w (PtxR nm (gerr g1 g2 g3 g4) g1 g2 g3 g4 st se w):=by
 have HSV:=Za hs
 have HCV:=Za hc
 have HW0:=Za (show Ext w (w.alloc (.cells #[.string ⟨nm.toArray⟩,.int .i64 g1,.int .i64 g2,.int .i64 g3,.int .i64 g4,.slice As ns cs,.slice Ac nc cc] 42)) from (Zd w).alloc _)
 have HCK:=Za (fun (w':World) (hx:Ext (w.alloc (.cells #[.string ⟨nm.toArray⟩,.int .i64 g1,.int .i64 g2,.int .i64 g3,.int .i64 g4,.slice As ns cs,.slice Ac nc cc] 42)) w')=>za2 nm g1 g2 g3 g4 As ns cs st Ac nc cc se w' (HSV.out.ext (HW0.out.trans hx)) (HCV.out.ext (HW0.out.trans hx)) hnl hsl hcl hn1 hn2)
 rw [hx] at HCK
 have HV:=Za (zmL (g1:=g1) (g2:=g2) (g3:=g3) (g4:=g4) hx h0)
 have hne:(x != 0)=true:=by simpa using h0
 clear hs hc hsl hcl hx h0
 go_enter Tryz.func16,Tryz.ntmps16
 go_wp2_with (first
  | (go_at_call 28;((with_reducible refine (HCK.out _ zx).mono ?_);rintro e w1 ⟨rfl,hq1⟩;have HE1:=Za (zx:Ext (w.alloc (.cells #[.string ⟨nm.toArray⟩,.int .i64 g1,.int .i64 g2,.int .i64 g3,.int .i64 g4,.slice As ns cs,.slice Ac nc cc] 42)) w1))))
 go_ret2
 exact PtxR.mk_ HV.out (HW0.out.trans HE1.out)
theorem zhF (nm:List UInt8) (g1 g2 g3 g4:Int) (As:Option Addr) (ns cs:Nat) (st:List Stf) (Ac:Option Addr) (nc cc:Nat) (se:List Sec) (w:World) (hs:Vec shStf w As ns st) (hc:Secs w Ac nc se)
  (hnl:nm.length≤100000) (hsl:∀i,i<ns→(stN st i).length≤100000) (hcl:∀i,i<nc→(seN se i).length≤100000) (hn1:ns≤10000) (hn2:nc≤10000) (hg:Glob w)
  (hge:gerr g1 g2 g3 g4=0→(0≤g1∧g1≤100000)∧(0≤g2∧g2≤100000)∧(0≤g3∧g3≤100000)∧(0≤g4∧g4≤100000)) (h0:patE nm (gerr g1 g2 g3 g4) st se=0) :
  Calls Tryz.prog 16 #[.agg #[.string ⟨nm.toArray⟩,.int .i64 g1,.int .i64 g2,.int .i64 g3,.int .i64 g4,.slice As ns cs,.slice Ac nc cc]] w (PtxR nm (gerr g1 g2 g3 g4) g1 g2 g3 g4 st se w):=by
 have HLS:=Za hs.1
 have HLC:=Za hc.len
 have HSV:=Za hs
 have HCV:=Za hc
 have HG:=Za hg
 have HBX:=Za (BoxP.start w nm g1 g2 g3 g4 As ns cs Ac nc cc)
 have HW0:=Za (show Ext w (w.alloc (.cells #[.string ⟨nm.toArray⟩,.int .i64 g1,.int .i64 g2,.int .i64 g3,.int .i64 g4,.slice As ns cs,.slice Ac nc cc] 42)) from (Zd w).alloc _)
 have HCK:=Za (fun (w':World) (hx:Ext (w.alloc (.cells #[.string ⟨nm.toArray⟩,.int .i64 g1,.int .i64 g2,.int .i64 g3,.int .i64 g4,.slice As ns cs,.slice Ac nc cc] 42)) w')=>za2 nm g1 g2 g3 g4 As ns cs st Ac nc cc se w' (HSV.out.ext (HW0.out.trans hx)) (HCV.out.ext (HW0.out.trans hx)) hnl hsl hcl hn1 hn2)
 rw [h0] at HCK
 obtain ⟨f1,f2,f3,f4,f5,f6⟩:=znJ h0
 obtain ⟨⟨a1,b1⟩,⟨a2,b2⟩,⟨a3,b3⟩,⟨a4,b4⟩⟩:=hge f4
 have HA:=Za (And.intro (And.intro a1 b1) (And.intro (And.intro a2 b2) (And.intro (And.intro a3 b3) (And.intro a4 b4))))
 have hns:ns≤20:=by rw [←HLS.out];exact f1
 have hnc:nc≤20:=by rw [←HLC.out];exact f2
 have H0:=Za h0
 have HF5:=Za f5
 have HF6:=Za f6
 clear hs hc hsl hcl hge h0 f1 f2 f4 f5 f6 hg a1 a2 a3 a4 b1 b2 b3 b4 hn1 hn2 hnl
 obtain ⟨S1,hS1⟩:∃S1,([112,97,116,116,101,114,110,32]:List UInt8)++nm=S1:=⟨_,rfl⟩
 obtain ⟨S2,hS2⟩:∃S2,S1++[10,103,97,117,103,101]=S2:=⟨_,rfl⟩
 have k1:(⟨#[112,97,116,116,101,114,110,32]⟩++⟨nm.toArray⟩:ByteArray)=⟨S1.toArray⟩:=by rw [←hS1];exact zag [112,97,116,116,101,114,110,32] nm
 have k2:(⟨S1.toArray⟩++⟨#[10,103,97,117,103,101]⟩:ByteArray)=⟨S2.toArray⟩:=by rw [←hS2];exact zag S1 [10,103,97,117,103,101]
 have l1:S1.length≤50:=by rw [←hS1,Zh];simp only [Zk,List.length_nil];omega
 have l2:S2.length≤60:=by rw [←hS2,Zh];simp only [Zk,List.length_nil];omega
 have HS2:=Za (show S2=pw++32::nm++10::gw by rw [←hS2,←hS1];simp [pw,gw])
 clear hS1 hS2
 go_enter Tryz.func16,Tryz.ntmps16
 go_wp2_with (first
  | (go_at_call 28;((with_reducible refine (HCK.out _ zx).mono ?_);rintro e w1 ⟨rfl,hq1⟩;have HE1:=Za (zx:Ext (w.alloc (.cells #[.string ⟨nm.toArray⟩,.int .i64 g1,.int .i64 g2,.int .i64 g3,.int .i64 g4,.slice As ns cs,.slice Ac nc cc] 42)) w1);obtain ⟨x0,x1,x2,x3,x4,x5,x6,xz⟩:=(HBX.out.ext HE1.out).facts))
  | (go_at_call 36;((with_reducible refine (zbC S2 (zeI w1) (by simp only [List.length_nil];omega)).mono ?_);rintro e w2 ⟨rfl,hs9⟩;have HS9:=Za hs9;clear hs9;obtain ⟨x0,x1,x2,x3,x4,x5,x6,xz⟩:=(HBX.out.ext (HE1.out.trans HS9.out.ex)).facts)))
 have HWS:=HS9
 clear HS9 x0 x1 x2 x3 x4 x5 x6 xz k1 k2 HCK
 go_loopw [37] (fun u wr=>∃(i:Nat) (T:List UInt8),u = .int .i64 (i:Int)∧i≤4∧T.length≤60+21*i∧Hid (T=S2++gTx [g1,g2,g3,g4] i)∧Hid (WSt w1 (w1.alloc (.cells #[.pointer none,.slice none 0 0] 80)) w1.heap.size T wr)) (fun u _=>4-(intOf u).toNat)
 case atStart=>exact ⟨0,S2,rfl,by omega,by omega,Za (by simp [gTx]),HWS⟩
 case round =>
  obtain ⟨i,T,rfl,hi,hTl,HT,HWT⟩:=hrel
  obtain ⟨wa,rfl⟩:∃wa:World,wa=wr:=⟨_,rfl⟩
  have HXR:=Za (HW0.out.trans (HE1.out.trans HWT.out.ex))
  by_cases hlt:i<4
  ·have hcase:i=0∨i=1∨i=2∨i=3:=by omega
   have hgn:=zkA (G:=[g1,g2,g3,g4]) (k:=i) (by simpa using hlt)
   have HA1:=HA.out
   rcases hcase with rfl | rfl | rfl | rfl
   ·have HIT:=Za (fun (w':World) (h:Ext w w')=>zaf g1 HA1.1.1 (by have:=HA1.1.2;omega) w' (HG.out.ext h))
    have hgn2:gTx [g1,g2,g3,g4] 1=gTx [g1,g2,g3,g4] 0++32::decD g1.toNat:=hgn
    have hdl:=zae g1.toNat
    obtain ⟨D,hD⟩:∃D,decD g1.toNat=D:=⟨_,rfl⟩
    rw [hD] at HIT hgn2 hdl
    obtain ⟨S,hS⟩:∃S,([32]:List UInt8)++D=S:=⟨_,rfl⟩
    have k1:(⟨#[32]⟩++⟨D.toArray⟩:ByteArray)=⟨S.toArray⟩:=by rw [←hS];exact zag [32] D
    have l3:S.length≤21:=by rw [←hS,Zh];simp only [Zk,List.length_nil];omega
    have HTN:=Za (show T++S=S2++gTx [g1,g2,g3,g4] 1 by rw [HT.out,hgn2,←hS];simp)
    clear hgn hgn2 hD hS HA1
    have hix:=fun (W:World)=>zhQ g1 g2 g3 g4 W
    go_wp2_with (first
     | (go_at_call 37;((with_reducible refine (HIT.out _ (HXR.out.trans zx)).mono ?_);rintro e w3 ⟨rfl,hq3⟩))
     | (go_at_call 36;((with_reducible refine (zbC S (HWT.out.ext zx) (by omega)).mono ?_);rintro e w4 ⟨rfl,hs9⟩;have HS9:=Za hs9;clear hs9)))
    go_roundw
    case rel=>exact ⟨1,T++S,by go_num,by omega,by rw [Zh];omega,HTN,HS9⟩
    case measure=>simp [intOf] <;> omega
   ·have HIT:=Za (fun (w':World) (h:Ext w w')=>zaf g2 HA1.2.1.1 (by have:=HA1.2.1.2;omega) w' (HG.out.ext h))
    have hgn2:gTx [g1,g2,g3,g4] 2=gTx [g1,g2,g3,g4] 1++32::decD g2.toNat:=hgn
    have hdl:=zae g2.toNat
    obtain ⟨D,hD⟩:∃D,decD g2.toNat=D:=⟨_,rfl⟩
    rw [hD] at HIT hgn2 hdl
    obtain ⟨S,hS⟩:∃S,([32]:List UInt8)++D=S:=⟨_,rfl⟩
    have k1:(⟨#[32]⟩++⟨D.toArray⟩:ByteArray)=⟨S.toArray⟩:=by rw [←hS];exact zag [32] D
    have l3:S.length≤21:=by rw [←hS,Zh];simp only [Zk,List.length_nil];omega
    have HTN:=Za (show T++S=S2++gTx [g1,g2,g3,g4] 2 by rw [HT.out,hgn2,←hS];simp)
    clear hgn hgn2 hD hS HA1
    have hix:=fun (W:World)=>zhR g1 g2 g3 g4 W
    go_wp2_with (first
     | (go_at_call 37;((with_reducible refine (HIT.out _ (HXR.out.trans zx)).mono ?_);rintro e w3 ⟨rfl,hq3⟩))
     | (go_at_call 36;((with_reducible refine (zbC S (HWT.out.ext zx) (by omega)).mono ?_);rintro e w4 ⟨rfl,hs9⟩;have HS9:=Za hs9;clear hs9)))
    go_roundw
    case rel=>exact ⟨2,T++S,by go_num,by omega,by rw [Zh];omega,HTN,HS9⟩
    case measure=>simp [intOf] <;> omega
   ·have HIT:=Za (fun (w':World) (h:Ext w w')=>zaf g3 HA1.2.2.1.1 (by have:=HA1.2.2.1.2;omega) w' (HG.out.ext h))
    have hgn2:gTx [g1,g2,g3,g4] 3=gTx [g1,g2,g3,g4] 2++32::decD g3.toNat:=hgn
    have hdl:=zae g3.toNat
    obtain ⟨D,hD⟩:∃D,decD g3.toNat=D:=⟨_,rfl⟩
    rw [hD] at HIT hgn2 hdl
    obtain ⟨S,hS⟩:∃S,([32]:List UInt8)++D=S:=⟨_,rfl⟩
    have k1:(⟨#[32]⟩++⟨D.toArray⟩:ByteArray)=⟨S.toArray⟩:=by rw [←hS];exact zag [32] D
    have l3:S.length≤21:=by rw [←hS,Zh];simp only [Zk,List.length_nil];omega
    have HTN:=Za (show T++S=S2++gTx [g1,g2,g3,g4] 3 by rw [HT.out,hgn2,←hS];simp)
    clear hgn hgn2 hD hS HA1
    have hix:=fun (W:World)=>zhS g1 g2 g3 g4 W
    go_wp2_with (first
     | (go_at_call 37;((with_reducible refine (HIT.out _ (HXR.out.trans zx)).mono ?_);rintro e w3 ⟨rfl,hq3⟩))
     | (go_at_call 36;((with_reducible refine (zbC S (HWT.out.ext zx) (by omega)).mono ?_);rintro e w4 ⟨rfl,hs9⟩;have HS9:=Za hs9;clear hs9)))
    go_roundw
    case rel=>exact ⟨3,T++S,by go_num,by omega,by rw [Zh];omega,HTN,HS9⟩
    case measure=>simp [intOf] <;> omega
   ·have HIT:=Za (fun (w':World) (h:Ext w w')=>zaf g4 HA1.2.2.2.1 (by have:=HA1.2.2.2.2;omega) w' (HG.out.ext h))
    have hgn2:gTx [g1,g2,g3,g4] 4=gTx [g1,g2,g3,g4] 3++32::decD g4.toNat:=hgn
    have hdl:=zae g4.toNat
    obtain ⟨D,hD⟩:∃D,decD g4.toNat=D:=⟨_,rfl⟩
    rw [hD] at HIT hgn2 hdl
    obtain ⟨S,hS⟩:∃S,([32]:List UInt8)++D=S:=⟨_,rfl⟩
    have k1:(⟨#[32]⟩++⟨D.toArray⟩:ByteArray)=⟨S.toArray⟩:=by rw [←hS];exact zag [32] D
    have l3:S.length≤21:=by rw [←hS,Zh];simp only [Zk,List.length_nil];omega
    have HTN:=Za (show T++S=S2++gTx [g1,g2,g3,g4] 4 by rw [HT.out,hgn2,←hS];simp)
    clear hgn hgn2 hD hS HA1
    have hix:=fun (W:World)=>zhT g1 g2 g3 g4 W
    go_wp2_with (first
     | (go_at_call 37;((with_reducible refine (HIT.out _ (HXR.out.trans zx)).mono ?_);rintro e w3 ⟨rfl,hq3⟩))
     | (go_at_call 36;((with_reducible refine (zbC S (HWT.out.ext zx) (by omega)).mono ?_);rintro e w4 ⟨rfl,hs9⟩;have HS9:=Za hs9;clear hs9)))
    go_roundw
    case rel=>exact ⟨4,T++S,by go_num,by omega,by rw [Zh];omega,HTN,HS9⟩
    case measure=>simp [intOf] <;> omega
  ·obtain rfl:i=4:=by omega
   obtain ⟨H,hH⟩:∃H,T++[10]=H:=⟨_,rfl⟩
   have HH:=Za (show H=pw++32::nm++10::(gaugeL g1 g2 g3 g4++10::[]) by
    rw [←hH,HT.out,HS2.out,←zmo]
    simp)
   have hHl:H.length≤200:=by rw [←hH,Zh,ZC];omega
   obtain ⟨x0,x1,x2,x3,x4,x5,x6,xz⟩:=(HBX.out.ext (HE1.out.trans HWT.out.ex)).facts
   go_wp2_with (first
    | (go_at_call 36;((with_reducible refine (zbC [10] (HWT.out.ext zx) (by simp only [ZC];omega)).mono ?_);rintro e w5 ⟨rfl,hs9⟩;have HS9:=Za hs9;clear hs9;obtain ⟨y0,y1,y2,y3,y4,y5,y6,yz⟩:=(HBX.out.ext (HE1.out.trans HS9.out.ex)).facts)))
   rw [hH] at HS9
   have HW5:=HS9
   clear HS9 x0 x1 x2 x3 x4 x5 x6 xz y0 y1 y2 y3 y4 y5 y6 yz hH
   go_loopw [49] (fun u wr=>∃(i:Nat) (T:List UInt8),u = .int .i64 (i:Int)∧i≤ns∧T.length≤200+100*i∧Hid (T=H++stufT (st.take i))∧Hid (WSt w1 (w1.alloc (.cells #[.pointer none,.slice none 0 0] 80)) w1.heap.size T wr)) (fun u _=>ns-(intOf u).toNat)
   case atStart=>exact ⟨0,H,rfl,by omega,by omega,Za (by simp [stufT,unl]),HW5⟩
   case round =>
    obtain ⟨i,T,rfl,hi,hTl,HT2,HWT2⟩:=hrel
    obtain ⟨wb,rfl⟩:∃wb:World,wb=wr:=⟨_,rfl⟩
    have HXR2:=Za (HW0.out.trans (HE1.out.trans HWT2.out.ex))
    have q0:(0:Int)≤(i:Int):=by omega
    by_cases hlt:i<ns
    ·have q1:(i:Int)<(ns:Int):=by omega
     obtain ⟨b,off,rfl,hb,d0,d1⟩:=Stf.at_ (HSV.out.ext HXR2.out) hlt
     have hls:=HLS.out
     obtain ⟨hn40,hg1,hg2⟩:=HF5.out i (by omega)
     have htk:=zhX (st:=st) (k:=i) (by omega)
     obtain ⟨N,hN⟩:∃N,stN st i=N:=⟨_,rfl⟩
     obtain ⟨gr,hgr⟩:∃gr,(st.getD i stf0).g=gr:=⟨_,rfl⟩
     rw [hN] at d0 hn40 htk
     rw [hgr] at d1 hg1 hg2 htk
     have HIT:=Za (fun (w':World) (h:Ext w w')=>zaf gr (by omega) (by omega) w' (HG.out.ext h))
     have hdl:=zae gr.toNat
     obtain ⟨D,hD⟩:∃D,decD gr.toNat=D:=⟨_,rfl⟩
     rw [hD] at HIT hdl
     obtain ⟨S1,hS1⟩:∃S,([115,116,117,102,102,32]:List UInt8)++N=S:=⟨_,rfl⟩
     obtain ⟨S3,hS3⟩:∃S,S1++[32]=S:=⟨_,rfl⟩
     obtain ⟨S4,hS4⟩:∃S,S3++D=S:=⟨_,rfl⟩
     obtain ⟨S5,hS5⟩:∃S,S4++[10]=S:=⟨_,rfl⟩
     have k1:(⟨#[115,116,117,102,102,32]⟩++⟨N.toArray⟩:ByteArray)=⟨S1.toArray⟩:=by rw [←hS1];exact zag [115,116,117,102,102,32] N
     have k2:(⟨S1.toArray⟩++⟨#[32]⟩:ByteArray)=⟨S3.toArray⟩:=by rw [←hS3];exact zag S1 [32]
     have k3:(⟨S3.toArray⟩++⟨D.toArray⟩:ByteArray)=⟨S4.toArray⟩:=by rw [←hS4];exact zag S3 D
     have k4:(⟨S4.toArray⟩++⟨#[10]⟩:ByteArray)=⟨S5.toArray⟩:=by rw [←hS5];exact zag S4 [10]
     have l1:S1.length≤46:=by rw [←hS1,Zh];simp only [Zk,List.length_nil];omega
     have l3:S3.length≤47:=by rw [←hS3,Zh,ZC];omega
     have l4:S4.length≤67:=by rw [←hS4,Zh];omega
     have l5:S5.length≤68:=by rw [←hS5,Zh,ZC];omega
     have HTN:=Za (show T++S5=H++stufT (st.take (i+1)) by
      rw [HT2.out,htk,←hS5,←hS4,←hS3,←hS1,line3,hD]
      simp [sw])
     have v1:¬9223372036854775807<6+N.length:=by omega
     have v2:¬9223372036854775807<S1.length+1:=by omega
     have v3:¬9223372036854775807<S3.length+D.length:=by omega
     have v4:¬9223372036854775807<S4.length+1:=by omega
     clear hN hgr htk hD hS1 hS3 hS4 hS5 hls
     have HB2:=Za (show ∀(w':World),Ext (wb.alloc (.cells #[.string ⟨N.toArray⟩,.int .i64 gr] 61)) w'→w'.cell? ⟨wb.heap.size,0,none⟩=some (.string ⟨N.toArray⟩)∧w'.cell? ⟨wb.heap.size,1,none⟩=some (.int .i64 gr) from fun w' h=>⟨(h.facts.1 _ _ (by simp)).trans (by simp [go_sem]),(h.facts.1 _ _ (by simp)).trans (by simp [go_sem])⟩)
     have HW1B:=Za HWT2.out.lt
     obtain ⟨x0,x1,x2,x3,x4,x5,x6,xz⟩:=(HBX.out.ext (HE1.out.trans HWT2.out.ex)).facts
     go_wp2_with fail
     go_region_held3 (fun wx=>wx.cell? ⟨wb.heap.size,0,none⟩=some (.string ⟨N.toArray⟩)∧wx.cell? ⟨wb.heap.size,1,none⟩=some (.int .i64 gr)) (go_keep) (first
      | (go_at_call 37;((with_reducible refine (HIT.out _ (HXR2.out.trans zx)).mono ?_);rintro e w6 ⟨rfl,hq6⟩;have hy6:=(zx:Ext (wb.alloc (.cells #[.string ⟨N.toArray⟩,.int .i64 gr] 61)) w6);obtain ⟨y0,y1⟩:=HB2.out _ hy6;have HY6:=Za hy6;have HX6:=Za (((Zd wb).alloc _).trans hy6);clear hy6))
      | (go_at_call 36;((with_reducible refine (zbC S5 (HWT2.out.ext (HX6.out.trans zx)).here (by omega)).mono ?_);rintro e w7 ⟨rfl,hs9⟩;have HS9:=Za (hs9.rebase (HWT2.out.ext (HX6.out.trans zx)));have hbx:=hs9.boxX (wx:=wb.alloc (.cells #[.string ⟨N.toArray⟩,.int .i64 gr] 61)) (HY6.out.trans zx) (heap_alloc_new wb _) (by have:=HW1B.out;omega) (by decide);have z0:=(cell_of_row w7 _ 0 _ _ _ hbx).trans rfl;have z1:=(cell_of_row w7 _ 1 _ _ _ hbx).trans rfl;clear hs9 hbx)))
     all_goals
      go_wp2_with fail
      go_roundw
      case rel=>exact ⟨i+1,T++S5,by go_num,by omega,by rw [Zh];omega,HTN,HS9⟩
      case measure=>simp [intOf] <;> omega
    ·obtain rfl:ns=i:=by omega
     have HT3:=Za (show TxSt nm g1 g2 g3 g4 st se 0 T by
      have h9:=TxSt.start nm g1 g2 g3 g4 st se
      rw [HT2.out,Zz (by rw [HLS.out];omega),HH.out]
      simpa using h9)
     obtain ⟨x0,x1,x2,x3,x4,x5,x6,xz⟩:=(HBX.out.ext (HE1.out.trans HWT2.out.ex)).facts
     have q1:¬((ns:Int)<(ns:Int)):=by omega
     go_wp2_with fail
     clear x0 x1 x2 x3 x4 x5 x6 xz
     go_loopw [67] (fun u wr=>∃(i:Nat) (T:List UInt8),u = .int .i64 (i:Int)∧i≤nc∧T.length≤3000+61000*i∧Hid (TxSt nm g1 g2 g3 g4 st se i T)∧Hid (WSt w1 (w1.alloc (.cells #[.pointer none,.slice none 0 0] 80)) w1.heap.size T wr)) (fun u _=>nc-(intOf u).toNat)
     case atStart=>exact ⟨0,T,rfl,by omega,by omega,HT3,Za (HWT2.out.ext zx)⟩
     case round =>
      obtain ⟨j,T,rfl,hj,hTl3,HST,HWT3⟩:=hrel
      obtain ⟨wc,rfl⟩:∃wc:World,wc=wr:=⟨_,rfl⟩
      have HXR3:=Za (HW0.out.trans (HE1.out.trans HWT3.out.ex))
      have q0:(0:Int)≤(j:Int):=by omega
      obtain ⟨x0,x1,x2,x3,x4,x5,x6,xz⟩:=(HBX.out.ext (HE1.out.trans HWT3.out.ex)).facts
      have hlc:=HLC.out
      by_cases hlt:j<nc
      ·have q1:(j:Int)<(nc:Int):=by omega
       obtain ⟨b,off,A',n',c',rfl,hb,d0,d1,d2,hrw, -⟩:=(HCV.out.ext HXR3.out).at_ hlt
       obtain ⟨hn40,hck⟩:=HF6.out j (by omega)
       obtain ⟨-,hs0,hs1, -⟩:=zb1 hck
       have hnx:=fun h=>HST.out.next (by omega) h
       have hno:=fun h=>HST.out.none (by omega) h
       have hvl:=zjs (s:=(se.getD j sec0).s) (l:=(se.getD j sec0).rows)
       rw [show (se.getD j sec0).nm=seN se j from rfl] at hnx
       obtain ⟨N,hN⟩:∃N,seN se j=N:=⟨_,rfl⟩
       rw [hN] at d0 hn40 hnx
       generalize (se.getD j sec0).s=sc at *
       generalize (se.getD j sec0).rows=rw_ at *
       have HRO:=Za (fun (w':World) (h:Ext wc w')=>zaY sc A' n' c' rw_ w' (hrw.ext h) (HG.out.ext (HXR3.out.trans h)))
       unfold PRowsR at HRO
       obtain ⟨V,hV⟩:∃V,rowsV sc rw_=V:=⟨_,rfl⟩
       obtain ⟨E,hE⟩:∃E,rowsE sc rw_=E:=⟨_,rfl⟩
       rw [hV,hE] at HRO hnx
       rw [hE] at hno
       rw [hV] at hvl
       have HB2:=Za (show ∀(w':World),Ext (wc.alloc (.cells #[.string ⟨N.toArray⟩,.int .i64 sc,.slice A' n' c'] 59)) w'→w'.cell? ⟨wc.heap.size,0,none⟩=some (.string ⟨N.toArray⟩)∧w'.cell? ⟨wc.heap.size,1,none⟩=some (.int .i64 sc)∧w'.cell? ⟨wc.heap.size,2,none⟩=some (.slice A' n' c') from fun w' h=>⟨(h.facts.1 _ _ (by simp)).trans (by simp [go_sem]),(h.facts.1 _ _ (by simp)).trans (by simp [go_sem]),(h.facts.1 _ _ (by simp)).trans (by simp [go_sem])⟩)
       have HW1B:=Za HWT3.out.lt
       clear hN hV hE hrw hck
       by_cases hE0:E=0
       ·subst hE0
        have hnx:=hnx rfl
        have HIT:=Za (fun (w':World) (h:Ext w w')=>zaf sc hs0 (by omega) w' (HG.out.ext h))
        have hdl:=zae sc.toNat
        unfold line3 at hnx
        obtain ⟨D,hD⟩:∃D,decD sc.toNat=D:=⟨_,rfl⟩
        rw [hD] at HIT hdl hnx
        obtain ⟨S1,hS1⟩:∃S,([115,101,99,116,105,111,110,32]:List UInt8)++N=S:=⟨_,rfl⟩
        obtain ⟨S3,hS3⟩:∃S,S1++[32]=S:=⟨_,rfl⟩
        obtain ⟨S4,hS4⟩:∃S,S3++D=S:=⟨_,rfl⟩
        obtain ⟨S5,hS5⟩:∃S,S4++[10]=S:=⟨_,rfl⟩
        obtain ⟨S6,hS6⟩:∃S,S5++V=S:=⟨_,rfl⟩
        have k1:(⟨#[115,101,99,116,105,111,110,32]⟩++⟨N.toArray⟩:ByteArray)=⟨S1.toArray⟩:=by rw [←hS1];exact zag [115,101,99,116,105,111,110,32] N
        have k2:(⟨S1.toArray⟩++⟨#[32]⟩:ByteArray)=⟨S3.toArray⟩:=by rw [←hS3];exact zag S1 [32]
        have k3:(⟨S3.toArray⟩++⟨D.toArray⟩:ByteArray)=⟨S4.toArray⟩:=by rw [←hS4];exact zag S3 D
        have k4:(⟨S4.toArray⟩++⟨#[10]⟩:ByteArray)=⟨S5.toArray⟩:=by rw [←hS5];exact zag S4 [10]
        have k5:(⟨S5.toArray⟩++⟨V.toArray⟩:ByteArray)=⟨S6.toArray⟩:=by rw [←hS6];exact zag S5 V
        have l1:S1.length≤48:=by rw [←hS1,Zh];simp only [Zk,List.length_nil];omega
        have l3:S3.length≤49:=by rw [←hS3,Zh,ZC];omega
        have l4:S4.length≤69:=by rw [←hS4,Zh];omega
        have l5:S5.length≤70:=by rw [←hS5,Zh,ZC];omega
        have l6:S6.length≤60070:=by rw [←hS6,Zh];omega
        have HTN:=Za (show TxSt nm g1 g2 g3 g4 st se (j+1) (T++S6) by
         rw [←hS6,←hS5,←hS4,←hS3,←hS1]
         simpa [cw] using hnx)
        have v1:¬9223372036854775807<8+N.length:=by omega
        have v2:¬9223372036854775807<S1.length+1:=by omega
        have v3:¬9223372036854775807<S3.length+D.length:=by omega
        have v4:¬9223372036854775807<S4.length+1:=by omega
        have v5:¬9223372036854775807<S5.length+V.length:=by omega
        clear hnx hno hD hS1 hS3 hS4 hS5 hS6 hlc
        go_wp2_with (first
         | (go_at_call 10;((with_reducible refine (HRO.out _ zx).mono ?_);rintro e w6 ⟨rfl,hq6⟩;obtain ⟨y0,y1,y2⟩:=HB2.out _ (zx:Ext (wc.alloc (.cells #[.string ⟨N.toArray⟩,.int .i64 sc,.slice A' n' c'] 59)) w6);have HX6:=Za (zx:Ext wc w6);have HY6:=Za (zx:Ext (wc.alloc (.cells #[.string ⟨N.toArray⟩,.int .i64 sc,.slice A' n' c'] 59)) w6))))
        go_region_held3 (fun wx=>wx.cell? ⟨wc.heap.size,0,none⟩=some (.string ⟨N.toArray⟩)∧wx.cell? ⟨wc.heap.size,1,none⟩=some (.int .i64 sc)) (go_keep) (first
         | (go_at_call 37;((with_reducible refine (HIT.out _ (HXR3.out.trans (HX6.out.trans zx))).mono ?_);rintro e w7 ⟨rfl,hq7⟩;have hx7:=(zx:Ext w6 w7);obtain ⟨z0,z1,z2⟩:=HB2.out _ (HY6.out.trans hx7);have HX7:=Za (HX6.out.trans hx7);have HY7:=Za (HY6.out.trans hx7);clear hx7))
         | (go_at_call 36;((with_reducible refine (zbC S6 (HWT3.out.ext (HX7.out.trans zx)).here (by omega)).mono ?_);rintro e w8 ⟨rfl,hs9⟩;have HS9:=Za (hs9.rebase (HWT3.out.ext (HX7.out.trans zx)));have hbx:=hs9.boxX (wx:=wc.alloc (.cells #[.string ⟨N.toArray⟩,.int .i64 sc,.slice A' n' c'] 59)) (HY7.out.trans zx) (heap_alloc_new wc _) (by have:=HW1B.out;omega) (by decide);have z0:=(cell_of_row w8 _ 0 _ _ _ hbx).trans rfl;have z1:=(cell_of_row w8 _ 1 _ _ _ hbx).trans rfl;clear hs9 hbx)))
        all_goals
         go_wp2_with fail
         go_roundw
         case rel=>exact ⟨j+1,T++S6,by go_num,by omega,by rw [Zh];omega,HTN,HS9⟩
         case measure=>simp [intOf] <;> omega
       ·have HV:=Za (zk6 (g1:=g1) (g2:=g2) (g3:=g3) (g4:=g4) H0.out (hno hE0))
        have hne:(E != 0)=true:=by simpa using hE0
        clear hnx hno hE0 hlc
        go_wp2_with (first
         | (go_at_call 10;((with_reducible refine (HRO.out _ zx).mono ?_);rintro e w6 ⟨rfl,hq6⟩;have HX6:=Za (zx:Ext wc w6))))
        go_ret2
        exact PtxR.mk_ HV.out (HXR3.out.trans HX6.out)
      ·obtain rfl:nc=j:=by omega
       have hfin:=HST.out.fin (by omega)
       have q1:¬((nc:Int)<(nc:Int)):=by omega
       by_cases hl6:60000<T.length
       ·have HV:=Za (zk5 H0.out hfin hl6)
        have p3:(60000:Int)<(T.length:Int):=by omega
        clear hfin hlc
        go_wp2_with (first
         | (go_at_call 39;((refine (Tryz.Builder_Len_f _ _ _ _ HWT3.out.bl).mono ?_);rintro e w9 ⟨rfl,rfl⟩;rw [zaW])))
        go_ret2
        exact PtxR.mk_ HV.out HXR3.out
       ·have HV:=Za (zcW H0.out hfin hl6)
        have p3:¬((60000:Int)<(T.length:Int)):=by omega
        clear hfin hlc
        go_wp2_with (first
         | (go_at_call 39;((refine (Tryz.Builder_Len_f _ _ _ _ HWT3.out.bl).mono ?_);rintro e w9 ⟨rfl,rfl⟩;rw [zaW]))
         | (go_at_call 40;((refine (Tryz.Builder_String_any_k w1.heap.size _ T _ HWT3.out.bl (Zr HWT3.out.ex)).mono ?_);rintro e w9 ⟨rfl, -,hq9, -⟩;have HS4:=Za (Below.trans HWT3.out.ex hq9))))
        go_ret2
        exact PtxR.mk_ HV.out (HW0.out.trans (HE1.out.trans HS4.out))
theorem zbl (nm:List UInt8) (g1 g2 g3 g4:Int) (As:Option Addr) (ns cs:Nat) (st:List Stf) (Ac:Option Addr) (nc cc:Nat) (se:List Sec) (w:World) (hs:Vec shStf w As ns st) (hc:Secs w Ac nc se)
  (hnl:nm.length≤100000) (hsl:∀i,i<ns→(stN st i).length≤100000) (hcl:∀i,i<nc→(seN se i).length≤100000) (hn1:ns≤10000) (hn2:nc≤10000) (hg:Glob w)
  (hge:gerr g1 g2 g3 g4=0→(0≤g1∧g1≤100000)∧(0≤g2∧g2≤100000)∧(0≤g3∧g3≤100000)∧(0≤g4∧g4≤100000)) :
  Calls Tryz.prog 16 #[.agg #[.string ⟨nm.toArray⟩,.int .i64 g1,.int .i64 g2,.int .i64 g3,.int .i64 g4,.slice As ns cs,.slice Ac nc cc]] w (PtxR nm (gerr g1 g2 g3 g4) g1 g2 g3 g4 st se w):=by
 by_cases h0:patE nm (gerr g1 g2 g3 g4) st se=0
 ·exact zhF nm g1 g2 g3 g4 As ns cs st Ac nc cc se w hs hc hnl hsl hcl hn1 hn2 hg hge h0
 ·exact zk4 nm g1 g2 g3 g4 As ns cs st Ac nc cc se w hs hc hnl hsl hcl hn1 hn2 rfl h0
end Go.Proofs.YtkneghkbgingdaaGreatDoor
