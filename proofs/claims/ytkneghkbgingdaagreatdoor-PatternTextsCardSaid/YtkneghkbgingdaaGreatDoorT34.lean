/- Text of a pattern. -/
import Derived.Test.YtkneghkbgingdaaGreatDoorT33
namespace Go.Proofs.YtkneghkbgingdaaGreatDoor
set_option maxHeartbeats 16000000
set_option maxRecDepth 100000
open Go.RowKit Go.ChangeShapes Go.WideShapes Go.Joins
def PtxR (nm:List UInt8) (ge g1 g2 g3 g4:Int) (st:List Stf) (se:List Sec) (w:World) (e:Ending) (w':World):Prop:=e = .returned (.tuple #[.string ⟨(ptxV nm ge g1 g2 g3 g4 st se).toArray⟩,.int .i64 (ptxE nm ge g1 g2 g3 g4 st se)])/\Ext w w'
theorem PtxR.mk_ {nm:List UInt8} {ge g1 g2 g3 g4:Int} {st:List Stf} {se:List Sec} {V:List UInt8} {E:Int} {w w':World} (h:ptxE nm ge g1 g2 g3 g4 st se=E/\ptxV nm ge g1 g2 g3 g4 st se=V) (hb:Ext w w'):PtxR nm ge g1 g2 g3 g4 st se w (.returned (.tuple #[.string ⟨V.toArray⟩,.int .i64 E])) w':=by
 obtain ⟨h1,h2⟩:=h
 subst h1
 subst h2
 exact ⟨rfl,hb⟩
theorem WSt.boxT {W0 w0 w:World} {b:Nat} {l:List UInt8} (h:WSt W0 w0 b l w) {g:Nat} {c:Array Value} {T:TypeId} {fz:Nat×Nat} (hg:w0.heap[g]?=some (.cells c T fz)) (hb:g≠b) (hT:T≠5):w.heap[g]?=some (.cells c T fz) :=
 h.kp g _ hg (by simpa using hb) (fun c' fz' e=>by cases e;exact hT rfl)
theorem WSt.boxX {W0 w0 wx w:World} {b:Nat} {l:List UInt8} (h:WSt W0 w0 b l w) (hx:Ext wx w0) {g:Nat} {c:Array Value} {T:TypeId} {fz:Nat×Nat} (hg:wx.heap[g]?=some (.cells c T fz)) (hb:g≠b) (hT:T≠5):w.heap[g]?=some (.cells c T fz) :=
 h.boxT (by rw [hx.block _ (Zm.1 hg).1];exact hg) hb hT
theorem WSt.lt {W0 w0 w:World} {b:Nat} {l:List UInt8} (h:WSt W0 w0 b l w):b<w.heap.size :=
 h.bl.elim (fun ⟨_,_,hb,_⟩=>(Zm.1 hb).1) (fun ⟨_,_,hb,_⟩=>(Zm.1 hb).1)
theorem WSt.rebase {W0 w0 w1 w:World} {b:Nat} {l l2:List UInt8} (h:WSt W0 w1 b l w) (h0:WSt W0 w0 b l2 w1):WSt W0 w0 b l w:=h.base h0.kp
def gTx (G:List Int) (k:Nat):List UInt8:=(G.take k).flatMap fun g=>32::decD g.toNat
theorem znU (g1 g2 g3 g4:Int):gw++gTx [g1,g2,g3,g4] 4=gaugeL g1 g2 g3 g4:=by
 unfold gTx gaugeL
 simp
theorem zl0 {G:List Int} {k:Nat} (hk:k<G.length):gTx G (k+1)=gTx G k++32::decD (G.getD k 0).toNat:=by
 unfold gTx
 rw [List.take_add_one,Zd hk,Z1,Zc,Zd hk]
 simp
theorem zi8 (g1 g2 g3 g4:Int) (W:World):Sem.run Tryz.prog (Instr.index 101 (.agg #[.int .i64 g1,.int .i64 g2,.int .i64 g3,.int .i64 g4]) (.int .i64 0)) W = .ok (.int .i64 g1) W:=by
 kernel_rfl
theorem zi9 (g1 g2 g3 g4:Int) (W:World):Sem.run Tryz.prog (Instr.index 101 (.agg #[.int .i64 g1,.int .i64 g2,.int .i64 g3,.int .i64 g4]) (.int .i64 1)) W = .ok (.int .i64 g2) W:=by
 kernel_rfl
theorem zja (g1 g2 g3 g4:Int) (W:World):Sem.run Tryz.prog (Instr.index 101 (.agg #[.int .i64 g1,.int .i64 g2,.int .i64 g3,.int .i64 g4]) (.int .i64 2)) W = .ok (.int .i64 g3) W:=by
 kernel_rfl
theorem zjb (g1 g2 g3 g4:Int) (W:World):Sem.run Tryz.prog (Instr.index 101 (.agg #[.int .i64 g1,.int .i64 g2,.int .i64 g3,.int .i64 g4]) (.int .i64 3)) W = .ok (.int .i64 g4) W:=by
 kernel_rfl
theorem zmy (nm:List UInt8) (g1 g2 g3 g4:Int) (As:Option Addr) (ns cs:Nat) (st:List Stf) (Ac:Option Addr) (nc cc:Nat) (se:List Sec) (w:World) (hs:Vec shStf w As ns st) (hc:Secs w Ac nc se)
  (hnl:nm.length<=100000) (hsl:∀i,i<ns->(stN st i).length<=100000) (hcl:∀i,i<nc->(seN se i).length<=100000) (hn1:ns<=10000) (hn2:nc<=10000) {x:Int} (hx:patE nm (gerr g1 g2 g3 g4) st se=x) (h0:x≠0) :
  Calls Tryz.prog 16 #[.agg #[.string ⟨nm.toArray⟩,.int .i64 g1,.int .i64 g2,.int .i64 g3,.int .i64 g4,.slice As ns cs,.slice Ac nc cc]] w (PtxR nm (gerr g1 g2 g3 g4) g1 g2 g3 g4 st se w):=by
 have ae:=Za hs
 have ac:=Za hc
 have aa:=Za (show Ext w (w.alloc (.cells #[.string ⟨nm.toArray⟩,.int .i64 g1,.int .i64 g2,.int .i64 g3,.int .i64 g4,.slice As ns cs,.slice Ac nc cc] 42)) from (Zf w).alloc _)
 have ab:=Za (fun (w':World) (hx:Ext (w.alloc (.cells #[.string ⟨nm.toArray⟩,.int .i64 g1,.int .i64 g2,.int .i64 g3,.int .i64 g4,.slice As ns cs,.slice Ac nc cc] 42)) w')=>zd5 nm g1 g2 g3 g4 As ns cs st Ac nc cc se w' (ae.out.ext (aa.out.trans hx)) (ac.out.ext (aa.out.trans hx)) hnl hsl hcl hn1 hn2)
 rw [hx] at ab
 have HV:=Za (zkF (g1:=g1) (g2:=g2) (g3:=g3) (g4:=g4) hx h0)
 have hne:(x != 0)=true:=by simpa using h0
 clear hs hc hsl hcl hx h0
 go_enter Tryz.func16,Tryz.ntmps16
 go_wp2_with (first
  | (go_at_call 28;((with_reducible refine (ab.out _ zx).mono ?_);rintro e w1 ⟨rfl,hq1⟩;have ad:=Za (zx:Ext (w.alloc (.cells #[.string ⟨nm.toArray⟩,.int .i64 g1,.int .i64 g2,.int .i64 g3,.int .i64 g4,.slice As ns cs,.slice Ac nc cc] 42)) w1))))
 go_ret2
 exact PtxR.mk_ HV.out (aa.out.trans ad.out)
theorem ziR (nm:List UInt8) (g1 g2 g3 g4:Int) (As:Option Addr) (ns cs:Nat) (st:List Stf) (Ac:Option Addr) (nc cc:Nat) (se:List Sec) (w:World) (hs:Vec shStf w As ns st) (hc:Secs w Ac nc se)
  (hnl:nm.length<=100000) (hsl:∀i,i<ns->(stN st i).length<=100000) (hcl:∀i,i<nc->(seN se i).length<=100000) (hn1:ns<=10000) (hn2:nc<=10000) (hg:Glob w)
  (hge:gerr g1 g2 g3 g4=0->(0<=g1/\g1<=100000)/\(0<=g2/\g2<=100000)/\(0<=g3/\g3<=100000)/\(0<=g4/\g4<=100000)) (h0:patE nm (gerr g1 g2 g3 g4) st se=0) :
  Calls Tryz.prog 16 #[.agg #[.string ⟨nm.toArray⟩,.int .i64 g1,.int .i64 g2,.int .i64 g3,.int .i64 g4,.slice As ns cs,.slice Ac nc cc]] w (PtxR nm (gerr g1 g2 g3 g4) g1 g2 g3 g4 st se w):=by
 have aK:=Za hs.1
 have aP:=Za hc.len
 have aQ:=Za hs
 have aO:=Za hc
 have HG:=Za hg
 have ap:=Za (BoxP.start w nm g1 g2 g3 g4 As ns cs Ac nc cc)
 have ax:=Za (show Ext w (w.alloc (.cells #[.string ⟨nm.toArray⟩,.int .i64 g1,.int .i64 g2,.int .i64 g3,.int .i64 g4,.slice As ns cs,.slice Ac nc cc] 42)) from (Zf w).alloc _)
 have aJ:=Za (fun (w':World) (hx:Ext (w.alloc (.cells #[.string ⟨nm.toArray⟩,.int .i64 g1,.int .i64 g2,.int .i64 g3,.int .i64 g4,.slice As ns cs,.slice Ac nc cc] 42)) w')=>zd5 nm g1 g2 g3 g4 As ns cs st Ac nc cc se w' (aQ.out.ext (ax.out.trans hx)) (aO.out.ext (ax.out.trans hx)) hnl hsl hcl hn1 hn2)
 rw [h0] at aJ
 obtain ⟨f1,f2,f3,f4,f5,f6⟩:=znp h0
 obtain ⟨⟨a1,b1⟩,⟨a2,b2⟩,⟨a3,b3⟩,⟨a4,b4⟩⟩:=hge f4
 have HA:=Za (And.intro (And.intro a1 b1) (And.intro (And.intro a2 b2) (And.intro (And.intro a3 b3) (And.intro a4 b4))))
 have hns:ns<=20:=by rw [<-aK.out];exact f1
 have hnc:nc<=20:=by rw [<-aP.out];exact f2
 have H0:=Za h0
 have aX:=Za f5
 have aY:=Za f6
 clear hs hc hsl hcl hge h0 f1 f2 f4 f5 f6 hg a1 a2 a3 a4 b1 b2 b3 b4 hn1 hn2 hnl
 obtain ⟨S1,ag⟩:∃S1,([112,97,116,116,101,114,110,32]:List UInt8)++nm=S1:=⟨_,rfl⟩
 obtain ⟨S2,hS2⟩:∃S2,S1++[10,103,97,117,103,101]=S2:=⟨_,rfl⟩
 have k1:(⟨#[112,97,116,116,101,114,110,32]⟩++⟨nm.toArray⟩:ByteArray)=⟨S1.toArray⟩:=by rw [<-ag];exact zaa [112,97,116,116,101,114,110,32] nm
 have k2:(⟨S1.toArray⟩++⟨#[10,103,97,117,103,101]⟩:ByteArray)=⟨S2.toArray⟩:=by rw [<-hS2];exact zaa S1 [10,103,97,117,103,101]
 have l1:S1.length<=50:=by rw [<-ag,Zb];simp only [Zk,List.length_nil];omega
 have l2:S2.length<=60:=by rw [<-hS2,Zb];simp only [Zk,List.length_nil];omega
 have aZ:=Za (show S2=pw++32::nm++10::gw by rw [<-hS2,<-ag];simp [pw,gw])
 clear ag hS2
 go_enter Tryz.func16,Tryz.ntmps16
 go_wp2_with (first
  | (go_at_call 28;((with_reducible refine (aJ.out _ zx).mono ?_);rintro e w1 ⟨rfl,hq1⟩;have ai:=Za (zx:Ext (w.alloc (.cells #[.string ⟨nm.toArray⟩,.int .i64 g1,.int .i64 g2,.int .i64 g3,.int .i64 g4,.slice As ns cs,.slice Ac nc cc] 42)) w1);obtain ⟨x0,x1,x2,x3,x4,x5,x6,xz⟩:=(ap.out.ext ai.out).facts))
  | (go_at_call 36;((with_reducible refine (zbK S2 (zfe w1) (by simp only [List.length_nil];omega)).mono ?_);rintro e w2 ⟨rfl,ab⟩;have ad:=Za ab;clear ab;obtain ⟨x0,x1,x2,x3,x4,x5,x6,xz⟩:=(ap.out.ext (ai.out.trans ad.out.ex)).facts)))
 have a7:=ad
 clear ad x0 x1 x2 x3 x4 x5 x6 xz k1 k2 aJ
 go_loopw [37] (fun u wr=>∃(i:Nat) (T:List UInt8),u = .int .i64 (i:Int)/\i<=4/\T.length<=60+21*i/\Hid (T=S2++gTx [g1,g2,g3,g4] i)/\Hid (WSt w1 (w1.alloc (.cells #[.pointer none,.slice none 0 0] 80)) w1.heap.size T wr)) (fun u _=>4-(intOf u).toNat)
 case atStart=>exact ⟨0,S2,rfl,by omega,by omega,Za (by simp [gTx]),a7⟩
 case round =>
  obtain ⟨i,T,rfl,hi,a9,HT,ar⟩:=hrel
  obtain ⟨wa,rfl⟩:∃wa:World,wa=wr:=⟨_,rfl⟩
  have aC:=Za (ax.out.trans (ai.out.trans ar.out.ex))
  by_cases hlt:i<4
  ·have az:i=0∨i=1∨i=2∨i=3:=by omega
   have ao:=zl0 (G:=[g1,g2,g3,g4]) (k:=i) (by simpa using hlt)
   have ah:=HA.out
   rcases az with rfl | rfl | rfl | rfl
   ·have ae:=Za (fun (w':World) (h:Ext w w')=>zah g1 ah.1.1 (by have:=ah.1.2;omega) w' (HG.out.ext h))
    have aa:gTx [g1,g2,g3,g4] 1=gTx [g1,g2,g3,g4] 0++32::decD g1.toNat:=ao
    have al:=zac g1.toNat
    obtain ⟨D,hD⟩:∃D,decD g1.toNat=D:=⟨_,rfl⟩
    rw [hD] at ae aa al
    obtain ⟨S,hS⟩:∃S,([32]:List UInt8)++D=S:=⟨_,rfl⟩
    have k1:(⟨#[32]⟩++⟨D.toArray⟩:ByteArray)=⟨S.toArray⟩:=by rw [<-hS];exact zaa [32] D
    have l3:S.length<=21:=by rw [<-hS,Zb];simp only [Zk,List.length_nil];omega
    have aj:=Za (show T++S=S2++gTx [g1,g2,g3,g4] 1 by rw [HT.out,aa,<-hS];simp)
    clear ao aa hD hS ah
    have aM:=fun (W:World)=>zi8 g1 g2 g3 g4 W
    go_wp2_with (first
     | (go_at_call 37;((with_reducible refine (ae.out _ (aC.out.trans zx)).mono ?_);rintro e w3 ⟨rfl,aN⟩))
     | (go_at_call 36;((with_reducible refine (zbK S (ar.out.ext zx) (by omega)).mono ?_);rintro e w4 ⟨rfl,ab⟩;have ad:=Za ab;clear ab)))
    go_roundw
    case rel=>exact ⟨1,T++S,by go_num,by omega,by rw [Zb];omega,aj,ad⟩
    case measure=>simp [intOf] <;> omega
   ·have ae:=Za (fun (w':World) (h:Ext w w')=>zah g2 ah.2.1.1 (by have:=ah.2.1.2;omega) w' (HG.out.ext h))
    have aa:gTx [g1,g2,g3,g4] 2=gTx [g1,g2,g3,g4] 1++32::decD g2.toNat:=ao
    have al:=zac g2.toNat
    obtain ⟨D,hD⟩:∃D,decD g2.toNat=D:=⟨_,rfl⟩
    rw [hD] at ae aa al
    obtain ⟨S,hS⟩:∃S,([32]:List UInt8)++D=S:=⟨_,rfl⟩
    have k1:(⟨#[32]⟩++⟨D.toArray⟩:ByteArray)=⟨S.toArray⟩:=by rw [<-hS];exact zaa [32] D
    have l3:S.length<=21:=by rw [<-hS,Zb];simp only [Zk,List.length_nil];omega
    have aj:=Za (show T++S=S2++gTx [g1,g2,g3,g4] 2 by rw [HT.out,aa,<-hS];simp)
    clear ao aa hD hS ah
    have aM:=fun (W:World)=>zi9 g1 g2 g3 g4 W
    go_wp2_with (first
     | (go_at_call 37;((with_reducible refine (ae.out _ (aC.out.trans zx)).mono ?_);rintro e w3 ⟨rfl,aN⟩))
     | (go_at_call 36;((with_reducible refine (zbK S (ar.out.ext zx) (by omega)).mono ?_);rintro e w4 ⟨rfl,ab⟩;have ad:=Za ab;clear ab)))
    go_roundw
    case rel=>exact ⟨2,T++S,by go_num,by omega,by rw [Zb];omega,aj,ad⟩
    case measure=>simp [intOf] <;> omega
   ·have ae:=Za (fun (w':World) (h:Ext w w')=>zah g3 ah.2.2.1.1 (by have:=ah.2.2.1.2;omega) w' (HG.out.ext h))
    have aa:gTx [g1,g2,g3,g4] 3=gTx [g1,g2,g3,g4] 2++32::decD g3.toNat:=ao
    have al:=zac g3.toNat
    obtain ⟨D,hD⟩:∃D,decD g3.toNat=D:=⟨_,rfl⟩
    rw [hD] at ae aa al
    obtain ⟨S,hS⟩:∃S,([32]:List UInt8)++D=S:=⟨_,rfl⟩
    have k1:(⟨#[32]⟩++⟨D.toArray⟩:ByteArray)=⟨S.toArray⟩:=by rw [<-hS];exact zaa [32] D
    have l3:S.length<=21:=by rw [<-hS,Zb];simp only [Zk,List.length_nil];omega
    have aj:=Za (show T++S=S2++gTx [g1,g2,g3,g4] 3 by rw [HT.out,aa,<-hS];simp)
    clear ao aa hD hS ah
    have aM:=fun (W:World)=>zja g1 g2 g3 g4 W
    go_wp2_with (first
     | (go_at_call 37;((with_reducible refine (ae.out _ (aC.out.trans zx)).mono ?_);rintro e w3 ⟨rfl,aN⟩))
     | (go_at_call 36;((with_reducible refine (zbK S (ar.out.ext zx) (by omega)).mono ?_);rintro e w4 ⟨rfl,ab⟩;have ad:=Za ab;clear ab)))
    go_roundw
    case rel=>exact ⟨3,T++S,by go_num,by omega,by rw [Zb];omega,aj,ad⟩
    case measure=>simp [intOf] <;> omega
   ·have ae:=Za (fun (w':World) (h:Ext w w')=>zah g4 ah.2.2.2.1 (by have:=ah.2.2.2.2;omega) w' (HG.out.ext h))
    have aa:gTx [g1,g2,g3,g4] 4=gTx [g1,g2,g3,g4] 3++32::decD g4.toNat:=ao
    have al:=zac g4.toNat
    obtain ⟨D,hD⟩:∃D,decD g4.toNat=D:=⟨_,rfl⟩
    rw [hD] at ae aa al
    obtain ⟨S,hS⟩:∃S,([32]:List UInt8)++D=S:=⟨_,rfl⟩
    have k1:(⟨#[32]⟩++⟨D.toArray⟩:ByteArray)=⟨S.toArray⟩:=by rw [<-hS];exact zaa [32] D
    have l3:S.length<=21:=by rw [<-hS,Zb];simp only [Zk,List.length_nil];omega
    have aj:=Za (show T++S=S2++gTx [g1,g2,g3,g4] 4 by rw [HT.out,aa,<-hS];simp)
    clear ao aa hD hS ah
    have aM:=fun (W:World)=>zjb g1 g2 g3 g4 W
    go_wp2_with (first
     | (go_at_call 37;((with_reducible refine (ae.out _ (aC.out.trans zx)).mono ?_);rintro e w3 ⟨rfl,aN⟩))
     | (go_at_call 36;((with_reducible refine (zbK S (ar.out.ext zx) (by omega)).mono ?_);rintro e w4 ⟨rfl,ab⟩;have ad:=Za ab;clear ab)))
    go_roundw
    case rel=>exact ⟨4,T++S,by go_num,by omega,by rw [Zb];omega,aj,ad⟩
    case measure=>simp [intOf] <;> omega
  ·obtain rfl:i=4:=by omega
   obtain ⟨H,hH⟩:∃H,T++[10]=H:=⟨_,rfl⟩
   have HH:=Za (show H=pw++32::nm++10::(gaugeL g1 g2 g3 g4++10::[]) by
    rw [<-hH,HT.out,aZ.out,<-znU]
    simp)
   have hHl:H.length<=200:=by rw [<-hH,Zb,Zv];omega
   obtain ⟨x0,x1,x2,x3,x4,x5,x6,xz⟩:=(ap.out.ext (ai.out.trans ar.out.ex)).facts
   go_wp2_with (first
    | (go_at_call 36;((with_reducible refine (zbK [10] (ar.out.ext zx) (by simp only [Zv];omega)).mono ?_);rintro e w5 ⟨rfl,ab⟩;have ad:=Za ab;clear ab;obtain ⟨y0,y1,y2,y3,y4,y5,y6,yz⟩:=(ap.out.ext (ai.out.trans ad.out.ex)).facts)))
   rw [hH] at ad
   have a6:=ad
   clear ad x0 x1 x2 x3 x4 x5 x6 xz y0 y1 y2 y3 y4 y5 y6 yz hH
   go_loopw [49] (fun u wr=>∃(i:Nat) (T:List UInt8),u = .int .i64 (i:Int)/\i<=ns/\T.length<=200+100*i/\Hid (T=H++stufT (st.take i))/\Hid (WSt w1 (w1.alloc (.cells #[.pointer none,.slice none 0 0] 80)) w1.heap.size T wr)) (fun u _=>ns-(intOf u).toNat)
   case atStart=>exact ⟨0,H,rfl,by omega,by omega,Za (by simp [stufT,unl]),a6⟩
   case round =>
    obtain ⟨i,T,rfl,hi,a9,aR,af⟩:=hrel
    obtain ⟨wb,rfl⟩:∃wb:World,wb=wr:=⟨_,rfl⟩
    have ay:=Za (ax.out.trans (ai.out.trans af.out.ex))
    have q0:(0:Int)<=(i:Int):=by omega
    by_cases hlt:i<ns
    ·have q1:(i:Int)<(ns:Int):=by omega
     obtain ⟨b,off,rfl,hb,d0,d1⟩:=Stf.at_ (aQ.out.ext ay.out) hlt
     have bb:=aK.out
     obtain ⟨aw,hg1,ba⟩:=aX.out i (by omega)
     have aG:=zeg (st:=st) (k:=i) (by omega)
     obtain ⟨N,hN⟩:∃N,stN st i=N:=⟨_,rfl⟩
     obtain ⟨gr,aU⟩:∃gr,(st.getD i stf0).g=gr:=⟨_,rfl⟩
     rw [hN] at d0 aw aG
     rw [aU] at d1 hg1 ba aG
     have ae:=Za (fun (w':World) (h:Ext w w')=>zah gr (by omega) (by omega) w' (HG.out.ext h))
     have al:=zac gr.toNat
     obtain ⟨D,hD⟩:∃D,decD gr.toNat=D:=⟨_,rfl⟩
     rw [hD] at ae al
     obtain ⟨S1,ag⟩:∃S,([115,116,117,102,102,32]:List UInt8)++N=S:=⟨_,rfl⟩
     obtain ⟨S3,hS3⟩:∃S,S1++[32]=S:=⟨_,rfl⟩
     obtain ⟨S4,hS4⟩:∃S,S3++D=S:=⟨_,rfl⟩
     obtain ⟨S5,hS5⟩:∃S,S4++[10]=S:=⟨_,rfl⟩
     have k1:(⟨#[115,116,117,102,102,32]⟩++⟨N.toArray⟩:ByteArray)=⟨S1.toArray⟩:=by rw [<-ag];exact zaa [115,116,117,102,102,32] N
     have k2:(⟨S1.toArray⟩++⟨#[32]⟩:ByteArray)=⟨S3.toArray⟩:=by rw [<-hS3];exact zaa S1 [32]
     have k3:(⟨S3.toArray⟩++⟨D.toArray⟩:ByteArray)=⟨S4.toArray⟩:=by rw [<-hS4];exact zaa S3 D
     have k4:(⟨S4.toArray⟩++⟨#[10]⟩:ByteArray)=⟨S5.toArray⟩:=by rw [<-hS5];exact zaa S4 [10]
     have l1:S1.length<=46:=by rw [<-ag,Zb];simp only [Zk,List.length_nil];omega
     have l3:S3.length<=47:=by rw [<-hS3,Zb,Zv];omega
     have l4:S4.length<=67:=by rw [<-hS4,Zb];omega
     have l5:S5.length<=68:=by rw [<-hS5,Zb,Zv];omega
     have aj:=Za (show T++S5=H++stufT (st.take (i+1)) by
      rw [aR.out,aG,<-hS5,<-hS4,<-hS3,<-ag,line3,hD]
      simp [sw])
     have v1:¬9223372036854775807<6+N.length:=by omega
     have v2:¬9223372036854775807<S1.length+1:=by omega
     have v3:¬9223372036854775807<S3.length+D.length:=by omega
     have v4:¬9223372036854775807<S4.length+1:=by omega
     clear hN aU aG hD ag hS3 hS4 hS5 bb
     have aA:=Za (show ∀(w':World),Ext (wb.alloc (.cells #[.string ⟨N.toArray⟩,.int .i64 gr] 61)) w'->w'.cell? ⟨wb.heap.size,0,none⟩=some (.string ⟨N.toArray⟩)/\w'.cell? ⟨wb.heap.size,1,none⟩=some (.int .i64 gr) from fun w' h=>⟨(h.facts.1 _ _ (by simp)).trans (by simp [go_sem]),(h.facts.1 _ _ (by simp)).trans (by simp [go_sem])⟩)
     have aq:=Za af.out.lt
     obtain ⟨x0,x1,x2,x3,x4,x5,x6,xz⟩:=(ap.out.ext (ai.out.trans af.out.ex)).facts
     go_wp2_with fail
     go_region_held3 (fun wx=>wx.cell? ⟨wb.heap.size,0,none⟩=some (.string ⟨N.toArray⟩)/\wx.cell? ⟨wb.heap.size,1,none⟩=some (.int .i64 gr)) (go_keep) (first
      | (go_at_call 37;((with_reducible refine (ae.out _ (ay.out.trans zx)).mono ?_);rintro e w6 ⟨rfl,aV⟩;have aI:=(zx:Ext (wb.alloc (.cells #[.string ⟨N.toArray⟩,.int .i64 gr] 61)) w6);obtain ⟨y0,y1⟩:=aA.out _ aI;have aD:=Za aI;have au:=Za (((Zf wb).alloc _).trans aI);clear aI))
      | (go_at_call 36;((with_reducible refine (zbK S5 (af.out.ext (au.out.trans zx)).here (by omega)).mono ?_);rintro e w7 ⟨rfl,ab⟩;have ad:=Za (ab.rebase (af.out.ext (au.out.trans zx)));have av:=ab.boxX (wx:=wb.alloc (.cells #[.string ⟨N.toArray⟩,.int .i64 gr] 61)) (aD.out.trans zx) (heap_alloc_new wb _) (by have:=aq.out;omega) (by decide);have z0:=(cell_of_row w7 _ 0 _ _ _ av).trans rfl;have z1:=(cell_of_row w7 _ 1 _ _ _ av).trans rfl;clear ab av)))
     all_goals
      go_wp2_with fail
      go_roundw
      case rel=>exact ⟨i+1,T++S5,by go_num,by omega,by rw [Zb];omega,aj,ad⟩
      case measure=>simp [intOf] <;> omega
    ·obtain rfl:ns=i:=by omega
     have a5:=Za (show TxSt nm g1 g2 g3 g4 st se 0 T by
      have h9:=TxSt.start nm g1 g2 g3 g4 st se
      rw [aR.out,ZE (by rw [aK.out];omega),HH.out]
      simpa using h9)
     obtain ⟨x0,x1,x2,x3,x4,x5,x6,xz⟩:=(ap.out.ext (ai.out.trans af.out.ex)).facts
     have q1:¬((ns:Int)<(ns:Int)):=by omega
     go_wp2_with fail
     clear x0 x1 x2 x3 x4 x5 x6 xz
     go_loopw [67] (fun u wr=>∃(i:Nat) (T:List UInt8),u = .int .i64 (i:Int)/\i<=nc/\T.length<=3000+61000*i/\Hid (TxSt nm g1 g2 g3 g4 st se i T)/\Hid (WSt w1 (w1.alloc (.cells #[.pointer none,.slice none 0 0] 80)) w1.heap.size T wr)) (fun u _=>nc-(intOf u).toNat)
     case atStart=>exact ⟨0,T,rfl,by omega,by omega,a5,Za (af.out.ext zx)⟩
     case round =>
      obtain ⟨j,T,rfl,hj,hTl3,aL,ac⟩:=hrel
      obtain ⟨wc,rfl⟩:∃wc:World,wc=wr:=⟨_,rfl⟩
      have ak:=Za (ax.out.trans (ai.out.trans ac.out.ex))
      have q0:(0:Int)<=(j:Int):=by omega
      obtain ⟨x0,x1,x2,x3,x4,x5,x6,xz⟩:=(ap.out.ext (ai.out.trans ac.out.ex)).facts
      have aE:=aP.out
      by_cases hlt:j<nc
      ·have q1:(j:Int)<(nc:Int):=by omega
       obtain ⟨b,off,A',n',c',rfl,hb,d0,d1,d2,aW, -⟩:=(aO.out.ext ak.out).at_ hlt
       obtain ⟨aw,aT⟩:=aY.out j (by omega)
       obtain ⟨-,bd,hs1, -⟩:=zdp aT
       have am:=fun h=>aL.out.next (by omega) h
       have aF:=fun h=>aL.out.none (by omega) h
       have be:=zfU (s:=(se.getD j sec0).s) (l:=(se.getD j sec0).rows)
       rw [show (se.getD j sec0).nm=seN se j from rfl] at am
       obtain ⟨N,hN⟩:∃N,seN se j=N:=⟨_,rfl⟩
       rw [hN] at d0 aw am
       generalize (se.getD j sec0).s=sc at *
       generalize (se.getD j sec0).rows=rw_ at *
       have aB:=Za (fun (w':World) (h:Ext wc w')=>zkE sc A' n' c' rw_ w' (aW.ext h) (HG.out.ext (ak.out.trans h)))
       unfold PRowsR at aB
       obtain ⟨V,hV⟩:∃V,rowsV sc rw_=V:=⟨_,rfl⟩
       obtain ⟨E,hE⟩:∃E,rowsE sc rw_=E:=⟨_,rfl⟩
       rw [hV,hE] at aB am
       rw [hE] at aF
       rw [hV] at be
       have aA:=Za (show ∀(w':World),Ext (wc.alloc (.cells #[.string ⟨N.toArray⟩,.int .i64 sc,.slice A' n' c'] 59)) w'->w'.cell? ⟨wc.heap.size,0,none⟩=some (.string ⟨N.toArray⟩)/\w'.cell? ⟨wc.heap.size,1,none⟩=some (.int .i64 sc)/\w'.cell? ⟨wc.heap.size,2,none⟩=some (.slice A' n' c') from fun w' h=>⟨(h.facts.1 _ _ (by simp)).trans (by simp [go_sem]),(h.facts.1 _ _ (by simp)).trans (by simp [go_sem]),(h.facts.1 _ _ (by simp)).trans (by simp [go_sem])⟩)
       have aq:=Za ac.out.lt
       clear hN hV hE aW aT
       by_cases hE0:E=0
       ·subst hE0
        have am:=am rfl
        have ae:=Za (fun (w':World) (h:Ext w w')=>zah sc bd (by omega) w' (HG.out.ext h))
        have al:=zac sc.toNat
        unfold line3 at am
        obtain ⟨D,hD⟩:∃D,decD sc.toNat=D:=⟨_,rfl⟩
        rw [hD] at ae al am
        obtain ⟨S1,ag⟩:∃S,([115,101,99,116,105,111,110,32]:List UInt8)++N=S:=⟨_,rfl⟩
        obtain ⟨S3,hS3⟩:∃S,S1++[32]=S:=⟨_,rfl⟩
        obtain ⟨S4,hS4⟩:∃S,S3++D=S:=⟨_,rfl⟩
        obtain ⟨S5,hS5⟩:∃S,S4++[10]=S:=⟨_,rfl⟩
        obtain ⟨S6,hS6⟩:∃S,S5++V=S:=⟨_,rfl⟩
        have k1:(⟨#[115,101,99,116,105,111,110,32]⟩++⟨N.toArray⟩:ByteArray)=⟨S1.toArray⟩:=by rw [<-ag];exact zaa [115,101,99,116,105,111,110,32] N
        have k2:(⟨S1.toArray⟩++⟨#[32]⟩:ByteArray)=⟨S3.toArray⟩:=by rw [<-hS3];exact zaa S1 [32]
        have k3:(⟨S3.toArray⟩++⟨D.toArray⟩:ByteArray)=⟨S4.toArray⟩:=by rw [<-hS4];exact zaa S3 D
        have k4:(⟨S4.toArray⟩++⟨#[10]⟩:ByteArray)=⟨S5.toArray⟩:=by rw [<-hS5];exact zaa S4 [10]
        have k5:(⟨S5.toArray⟩++⟨V.toArray⟩:ByteArray)=⟨S6.toArray⟩:=by rw [<-hS6];exact zaa S5 V
        have l1:S1.length<=48:=by rw [<-ag,Zb];simp only [Zk,List.length_nil];omega
        have l3:S3.length<=49:=by rw [<-hS3,Zb,Zv];omega
        have l4:S4.length<=69:=by rw [<-hS4,Zb];omega
        have l5:S5.length<=70:=by rw [<-hS5,Zb,Zv];omega
        have l6:S6.length<=60070:=by rw [<-hS6,Zb];omega
        have aj:=Za (show TxSt nm g1 g2 g3 g4 st se (j+1) (T++S6) by
         rw [<-hS6,<-hS5,<-hS4,<-hS3,<-ag]
         simpa [cw] using am)
        have v1:¬9223372036854775807<8+N.length:=by omega
        have v2:¬9223372036854775807<S1.length+1:=by omega
        have v3:¬9223372036854775807<S3.length+D.length:=by omega
        have v4:¬9223372036854775807<S4.length+1:=by omega
        have v5:¬9223372036854775807<S5.length+V.length:=by omega
        clear am aF hD ag hS3 hS4 hS5 hS6 aE
        go_wp2_with (first
         | (go_at_call 10;((with_reducible refine (aB.out _ zx).mono ?_);rintro e w6 ⟨rfl,aV⟩;obtain ⟨y0,y1,y2⟩:=aA.out _ (zx:Ext (wc.alloc (.cells #[.string ⟨N.toArray⟩,.int .i64 sc,.slice A' n' c'] 59)) w6);have au:=Za (zx:Ext wc w6);have aD:=Za (zx:Ext (wc.alloc (.cells #[.string ⟨N.toArray⟩,.int .i64 sc,.slice A' n' c'] 59)) w6))))
        go_region_held3 (fun wx=>wx.cell? ⟨wc.heap.size,0,none⟩=some (.string ⟨N.toArray⟩)/\wx.cell? ⟨wc.heap.size,1,none⟩=some (.int .i64 sc)) (go_keep) (first
         | (go_at_call 37;((with_reducible refine (ae.out _ (ak.out.trans (au.out.trans zx))).mono ?_);rintro e w7 ⟨rfl,hq7⟩;have aH:=(zx:Ext w6 w7);obtain ⟨z0,z1,z2⟩:=aA.out _ (aD.out.trans aH);have aS:=Za (au.out.trans aH);have a8:=Za (aD.out.trans aH);clear aH))
         | (go_at_call 36;((with_reducible refine (zbK S6 (ac.out.ext (aS.out.trans zx)).here (by omega)).mono ?_);rintro e w8 ⟨rfl,ab⟩;have ad:=Za (ab.rebase (ac.out.ext (aS.out.trans zx)));have av:=ab.boxX (wx:=wc.alloc (.cells #[.string ⟨N.toArray⟩,.int .i64 sc,.slice A' n' c'] 59)) (a8.out.trans zx) (heap_alloc_new wc _) (by have:=aq.out;omega) (by decide);have z0:=(cell_of_row w8 _ 0 _ _ _ av).trans rfl;have z1:=(cell_of_row w8 _ 1 _ _ _ av).trans rfl;clear ab av)))
        all_goals
         go_wp2_with fail
         go_roundw
         case rel=>exact ⟨j+1,T++S6,by go_num,by omega,by rw [Zb];omega,aj,ad⟩
         case measure=>simp [intOf] <;> omega
       ·have HV:=Za (zh1 (g1:=g1) (g2:=g2) (g3:=g3) (g4:=g4) H0.out (aF hE0))
        have hne:(E != 0)=true:=by simpa using hE0
        clear am aF hE0 aE
        go_wp2_with (first
         | (go_at_call 10;((with_reducible refine (aB.out _ zx).mono ?_);rintro e w6 ⟨rfl,aV⟩;have au:=Za (zx:Ext wc w6))))
        go_ret2
        exact PtxR.mk_ HV.out (ak.out.trans au.out)
      ·obtain rfl:nc=j:=by omega
       have an:=aL.out.fin (by omega)
       have q1:¬((nc:Int)<(nc:Int)):=by omega
       by_cases hl6:60000<T.length
       ·have HV:=Za (zh0 H0.out an hl6)
        have p3:(60000:Int)<(T.length:Int):=by omega
        clear an aE
        go_wp2_with (first
         | (go_at_call 39;((refine (Tryz.Builder_Len_f _ _ _ _ ac.out.bl).mono ?_);rintro e w9 ⟨rfl,rfl⟩;rw [zaZ])))
        go_ret2
        exact PtxR.mk_ HV.out ak.out
       ·have HV:=Za (zeN H0.out an hl6)
        have p3:¬((60000:Int)<(T.length:Int)):=by omega
        clear an aE
        go_wp2_with (first
         | (go_at_call 39;((refine (Tryz.Builder_Len_f _ _ _ _ ac.out.bl).mono ?_);rintro e w9 ⟨rfl,rfl⟩;rw [zaZ]))
         | (go_at_call 40;((refine (Tryz.Builder_String_any_k w1.heap.size _ T _ ac.out.bl (Zl ac.out.ex)).mono ?_);rintro e w9 ⟨rfl, -,bc, -⟩;have a0:=Za (Below.trans ac.out.ex bc))))
        go_ret2
        exact PtxR.mk_ HV.out (ax.out.trans (ai.out.trans a0.out))
theorem zfL (nm:List UInt8) (g1 g2 g3 g4:Int) (As:Option Addr) (ns cs:Nat) (st:List Stf) (Ac:Option Addr) (nc cc:Nat) (se:List Sec) (w:World) (hs:Vec shStf w As ns st) (hc:Secs w Ac nc se)
  (hnl:nm.length<=100000) (hsl:∀i,i<ns->(stN st i).length<=100000) (hcl:∀i,i<nc->(seN se i).length<=100000) (hn1:ns<=10000) (hn2:nc<=10000) (hg:Glob w)
  (hge:gerr g1 g2 g3 g4=0->(0<=g1/\g1<=100000)/\(0<=g2/\g2<=100000)/\(0<=g3/\g3<=100000)/\(0<=g4/\g4<=100000)) :
  Calls Tryz.prog 16 #[.agg #[.string ⟨nm.toArray⟩,.int .i64 g1,.int .i64 g2,.int .i64 g3,.int .i64 g4,.slice As ns cs,.slice Ac nc cc]] w (PtxR nm (gerr g1 g2 g3 g4) g1 g2 g3 g4 st se w):=by
 by_cases h0:patE nm (gerr g1 g2 g3 g4) st se=0
 ·exact ziR nm g1 g2 g3 g4 As ns cs st Ac nc cc se w hs hc hnl hsl hcl hn1 hn2 hg hge h0
 ·exact zmy nm g1 g2 g3 g4 As ns cs st Ac nc cc se w hs hc hnl hsl hcl hn1 hn2 rfl h0
end Go.Proofs.YtkneghkbgingdaaGreatDoor
