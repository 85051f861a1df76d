/- The Check of patterns. -/
import Derived.Test.YtkneghkbgingdaaGreatDoorK36
set_option maxHeartbeats 16000000
namespace Go.Proofs.YtkneghkbgingdaaGreatDoor
set_option maxRecDepth 100000
open Go.RowKit Go.ChangeShapes Go.WideShapes Go.Joins
theorem ziq (K:Nat) (h:((Tryz.prog.funcs[K]?).map fun f=>(f.name == "runtime.NumGoroutine",f.body.isNone))=some (false,false)):∀args w,(callFunc K args).run Tryz.prog w = .ok (.enter K args) w:=by
 intro args w
 obtain ⟨f,hf,h2⟩:=ZF.1 h
 simp only [Prod.mk.injEq] at h2
 simp [callFunc,hf]
 rw [if_neg (by simpa using h2.1),if_neg (by intro e;simp [e] at h2)]
section
variable {nm:List UInt8} {g1 g2 g3 g4:Int} {As Ac:Option Addr} {ns cs nc cc:Nat}
def BoxP (w:World) (b:Nat) (nm:List UInt8) (g1 g2 g3 g4:Int) (As:Option Addr) (ns cs:Nat) (Ac:Option Addr) (nc cc:Nat):Prop :=
 w.heap[b]?=some (.cells #[.string ⟨nm.toArray⟩,.int .i64 g1,.int .i64 g2,.int .i64 g3,.int .i64 g4,.slice As ns cs,.slice Ac nc cc] 42 (0,0))
theorem BoxP.ext {w w':World} {b:Nat} (h:BoxP w b nm g1 g2 g3 g4 As ns cs Ac nc cc) (hb:Ext w w'):BoxP w' b nm g1 g2 g3 g4 As ns cs Ac nc cc:=by
 unfold BoxP at h ⊢
 rw [hb.block _ (Zn.1 h).1]
 exact h
theorem BoxP.facts {w:World} {b:Nat} (h:BoxP w b nm g1 g2 g3 g4 As ns cs Ac nc cc) :
  w.cell? ⟨b,0,none⟩=some (.string ⟨nm.toArray⟩)∧w.cell? ⟨b,1,none⟩=some (.int .i64 g1)∧w.cell? ⟨b,2,none⟩=some (.int .i64 g2)∧w.cell? ⟨b,3,none⟩=some (.int .i64 g3)∧w.cell? ⟨b,4,none⟩=some (.int .i64 g4) ∧
   w.cell? ⟨b,5,none⟩=some (.slice As ns cs)∧w.cell? ⟨b,6,none⟩=some (.slice Ac nc cc)∧b<w.heap.size :=
 ⟨(cell_of_row w _ 0 _ _ (0,0) h).trans rfl,(cell_of_row w _ 1 _ _ (0,0) h).trans rfl,(cell_of_row w _ 2 _ _ (0,0) h).trans rfl,(cell_of_row w _ 3 _ _ (0,0) h).trans rfl,(cell_of_row w _ 4 _ _ (0,0) h).trans rfl,(cell_of_row w _ 5 _ _ (0,0) h).trans rfl,(cell_of_row w _ 6 _ _ (0,0) h).trans rfl,(Zn.1 h).1⟩
theorem BoxP.start (w:World) (nm:List UInt8) (g1 g2 g3 g4:Int) (As:Option Addr) (ns cs:Nat) (Ac:Option Addr) (nc cc:Nat):BoxP (w.alloc (.cells #[.string ⟨nm.toArray⟩,.int .i64 g1,.int .i64 g2,.int .i64 g3,.int .i64 g4,.slice As ns cs,.slice Ac nc cc] 42)) w.heap.size nm g1 g2 g3 g4 As ns cs Ac nc cc:=heap_alloc_new w _
theorem zmB {b:Nat} {st:List Stf} (i:Nat) (w:World) (hb:BoxP w b nm g1 g2 g3 g4 As ns cs Ac nc cc) (hs:Vec shStf w As ns st) (hi:i<ns) :
  Calls Tryz.prog 58 #[.int .i64 i,.pointer (some ⟨b,0,none⟩)] w fun e w'=>e = .returned (.string ⟨(stN st i).toArray⟩)∧Ext w w':=by
 obtain ⟨x0,x1,x2,x3,x4,x5,x6,xz⟩:=hb.facts
 obtain ⟨b',off,rfl,hlt,c0,c1⟩:=Stf.at_ hs hi
 have q0:(0:Int)≤(i:Int):=by omega
 have q1:(i:Int)<(ns:Int):=by omega
 generalize stN st i=Y at *
 clear hb hs
 go_enter Tryz.func58,Tryz.ntmps58
 go_wp2_with fail
 go_ret
 exact ⟨rfl,Zd _⟩
theorem zmC {b:Nat} {se:List Sec} (i:Nat) (w:World) (hb:BoxP w b nm g1 g2 g3 g4 As ns cs Ac nc cc) (hs:Secs w Ac nc se) (hi:i<nc) :
  Calls Tryz.prog 59 #[.int .i64 i,.pointer (some ⟨b,0,none⟩)] w fun e w'=>e = .returned (.string ⟨(seN se i).toArray⟩)∧Ext w w':=by
 obtain ⟨x0,x1,x2,x3,x4,x5,x6,xz⟩:=hb.facts
 obtain ⟨b',off,A',n',c',rfl,hlt,c0,c1,c2,hr,hcap⟩:=hs.at_ hi
 have q0:(0:Int)≤(i:Int):=by omega
 have q1:(i:Int)<(nc:Int):=by omega
 generalize seN se i=Y at *
 clear hb hs hr
 go_enter Tryz.func59,Tryz.ntmps59
 go_wp2_with fail
 go_ret
 exact ⟨rfl,Zd _⟩
end
theorem zcS {st:List Stf} {n k:Nat} (hk:k<n) (h:¬(1≤(st.getD k stf0).g∧(st.getD k stf0).g≤100000)):gramB st n=false:=by
 unfold gramB
 rw [List.all_eq_false]
 exact ⟨k,ZE.2 hk,by simp only [Zx];exact h⟩
theorem zcU {nm:List UInt8} {ge:Int} {st:List Stf} {se:List Sec} (h:20<st.length∨20<se.length):patE nm ge st se=4:=by rw [patE,if_pos h]
theorem zbH {nm:List UInt8} {ge:Int} {st:List Stf} {se:List Sec} (h:¬(20<st.length∨20<se.length)) (h2:fineP nm ge st se=false):patE nm ge st se=8:=by
 rw [patE,if_neg h,if_neg (by rw [h2];simp)]
theorem zcj {nm:List UInt8} {ge:Int} {st:List Stf} {se:List Sec} (h:¬(20<st.length∨20<se.length)) (h2:fineP nm ge st se=true) (h3:twiceB (stN st) st.length=true∨twiceB (seN se) se.length=true):patE nm ge st se=14:=by
 rw [patE,if_neg h,if_pos h2,if_pos h3]
theorem ze4 {nm:List UInt8} {ge:Int} {st:List Stf} {se:List Sec} (h:¬(20<st.length∨20<se.length)) (h2:fineP nm ge st se=true) (h3:twiceB (stN st) st.length=false) (h4:twiceB (seN se) se.length=false):patE nm ge st se=firstE se se.length 0:=by
 rw [patE,if_neg h,if_pos h2,if_neg (by rw [h3,h4];simp)]
theorem zdc {se:List Sec} {n k:Nat} (h:chkC (se.getD k sec0).s (se.getD k sec0).rows≠0):firstE se (n+1) k=chkC (se.getD k sec0).s (se.getD k sec0).rows:=by rw [firstE,if_pos h]
theorem zd1 {se:List Sec} {n k:Nat} (h:chkC (se.getD k sec0).s (se.getD k sec0).rows=0):firstE se (n+1) k=firstE se n (k+1):=by rw [firstE,if_neg (fun h9=>h9 h)]
theorem za2 (nm:List UInt8) (g1 g2 g3 g4:Int) (As:Option Addr) (ns cs:Nat) (st:List Stf) (Ac:Option Addr) (nc cc:Nat) (se:List Sec) (w:World) (hs:Vec shStf w As ns st) (hc:Secs w Ac nc se)
  (hnl:nm.length≤100000) (hsl:∀i,i<ns→(stN st i).length≤100000) (hcl:∀i,i<nc→(seN se i).length≤100000) (hn1:ns≤10000) (hn2:nc≤10000) :
  Calls Tryz.prog 28 #[.agg #[.string ⟨nm.toArray⟩,.int .i64 g1,.int .i64 g2,.int .i64 g3,.int .i64 g4,.slice As ns cs,.slice Ac nc cc]] w fun e w'=>e = .returned (.int .i64 (patE nm (gerr g1 g2 g3 g4) st se))∧Ext w w':=by
 have HLS:=Za hs.1
 have HLC:=Za hc.len
 have HSV:=Za hs
 have HCV:=Za hc
 have HBX:=Za (BoxP.start w nm g1 g2 g3 g4 As ns cs Ac nc cc)
 have HW0:=Za (show Ext w (w.alloc (.cells #[.string ⟨nm.toArray⟩,.int .i64 g1,.int .i64 g2,.int .i64 g3,.int .i64 g4,.slice As ns cs,.slice Ac nc cc] 42)) from (Zd w).alloc _)
 have HN1:=Za (fun (w':World) (hx:Ext (w.alloc (.cells #[.string ⟨nm.toArray⟩,.int .i64 g1,.int .i64 g2,.int .i64 g3,.int .i64 g4,.slice As ns cs,.slice Ac nc cc] 42)) w')=>ze1 ns 58 #[.pointer (some ⟨w.heap.size,0,none⟩)] (stN st) w' (by omega) (ziq _ (by kernel_rfl))
  (fun i w1 hi h1=>zmB i w1 (HBX.out.ext (hx.trans h1)) (HSV.out.ext ((HW0.out.trans hx).trans h1)) hi) (fun i hi=>by have:=hsl i hi;omega))
 have HN2:=Za (fun (w':World) (hx:Ext (w.alloc (.cells #[.string ⟨nm.toArray⟩,.int .i64 g1,.int .i64 g2,.int .i64 g3,.int .i64 g4,.slice As ns cs,.slice Ac nc cc] 42)) w')=>ze1 nc 59 #[.pointer (some ⟨w.heap.size,0,none⟩)] (seN se) w' (by omega) (ziq _ (by kernel_rfl))
  (fun i w1 hi h1=>zmC i w1 (HBX.out.ext (hx.trans h1)) (HCV.out.ext ((HW0.out.trans hx).trans h1)) hi) (fun i hi=>by have:=hcl i hi;omega))
 have HWN:=Za (fun (w':World)=>ze6 nm (by omega) w')
 have HGE:=Za (fun (w':World)=>zhm g1 g2 g3 g4 w')
 obtain ⟨R,hR⟩:∃R,patE nm (gerr g1 g2 g3 g4) st se=R:=⟨_,rfl⟩
 have HR:=Za hR
 rw [hR]
 clear hs hc hsl hcl hR
 by_cases h20:20<ns
 ·have HN:=Za (show R=4 by rw [←HR.out];exact zcU (.inl (by rw [HLS.out];exact h20)))
  have p1:(20:Int)<(ns:Int):=by omega
  clear h20
  go_enter Tryz.func28,Tryz.ntmps28
  go_wp2_with fail
  go_ret
  exact ⟨by rw [HN.out];rfl,zx⟩
 have p1:¬((20:Int)<(ns:Int)):=by omega
 by_cases h21:20<nc
 ·have HN:=Za (show R=4 by rw [←HR.out];exact zcU (.inr (by rw [HLC.out];exact h21)))
  have p2:(20:Int)<(nc:Int):=by omega
  clear h20 h21
  go_enter Tryz.func28,Tryz.ntmps28
  go_wp2_with fail
  go_ret
  exact ⟨by rw [HN.out];rfl,zx⟩
 have p2:¬((20:Int)<(nc:Int)):=by omega
 have HNM:=Za (show ¬(20<st.length∨20<se.length) by rw [HLS.out,HLC.out];omega)
 clear h20 h21
 have HFP:=Za (show fineP nm (gerr g1 g2 g3 g4) st se=(wordS nm && wordsB (stN st) ns && wordsB (seN se) nc && decide (nc≠0) && decide (gerr g1 g2 g3 g4=0) && gramB st ns) by rw [fineP,HLS.out,HLC.out])
 obtain ⟨a1,e1⟩:∃a,wordS nm=a:=⟨_,rfl⟩
 obtain ⟨a2,e2⟩:∃a,wordsB (stN st) ns=a:=⟨_,rfl⟩
 obtain ⟨a3,e3⟩:∃a,wordsB (seN se) nc=a:=⟨_,rfl⟩
 obtain ⟨t1,e4⟩:∃a,twiceB (stN st) ns=a:=⟨_,rfl⟩
 obtain ⟨t2,e5⟩:∃a,twiceB (seN se) nc=a:=⟨_,rfl⟩
 obtain ⟨ge,e6⟩:∃a,gerr g1 g2 g3 g4=a:=⟨_,rfl⟩
 rw [e1,e2,e3,e6] at HFP
 rw [e6] at HGE HR
 rw [e2,e4] at HN1
 rw [e3,e5] at HN2
 rw [e1] at HWN
 have HT1:=Za e4
 have HT2:=Za e5
 clear e1 e2 e3 e4 e5 e6
 cases a1 with
 | false =>
  have HN:=Za (show R=8 by rw [←HR.out];exact zbH HNM.out (by rw [HFP.out];simp))
  go_enter Tryz.func28,Tryz.ntmps28
  go_wp2_with (first
   | (go_at_call 57;(first | ((with_reducible refine (HN1.out _ zx).mono ?_);rintro e w1 ⟨rfl,hq1⟩;obtain ⟨x0,x1,x2,x3,x4,x5,x6,xz⟩:=(HBX.out.ext (zx:Ext _ w1)).facts) | (((with_reducible refine (HN2.out _ zx).mono ?_);rintro e w2 ⟨rfl,hq2⟩;obtain ⟨x0,x1,x2,x3,x4,x5,x6,xz⟩:=(HBX.out.ext (zx:Ext _ w2)).facts))))
   | (go_at_call 60;((with_reducible refine (HWN.out _).mono ?_);rintro e w3 ⟨rfl,hq3⟩;obtain ⟨x0,x1,x2,x3,x4,x5,x6,xz⟩:=(HBX.out.ext (zx:Ext _ w3)).facts)))
  go_ret
  exact ⟨by rw [HN.out];rfl,zx⟩
 | true =>
  cases a2 with
  | false =>
   have HN:=Za (show R=8 by rw [←HR.out];exact zbH HNM.out (by rw [HFP.out];simp))
   go_enter Tryz.func28,Tryz.ntmps28
   go_wp2_with (first
    | (go_at_call 57;(first | ((with_reducible refine (HN1.out _ zx).mono ?_);rintro e w1 ⟨rfl,hq1⟩;obtain ⟨x0,x1,x2,x3,x4,x5,x6,xz⟩:=(HBX.out.ext (zx:Ext _ w1)).facts) | (((with_reducible refine (HN2.out _ zx).mono ?_);rintro e w2 ⟨rfl,hq2⟩;obtain ⟨x0,x1,x2,x3,x4,x5,x6,xz⟩:=(HBX.out.ext (zx:Ext _ w2)).facts))))
    | (go_at_call 60;((with_reducible refine (HWN.out _).mono ?_);rintro e w3 ⟨rfl,hq3⟩;obtain ⟨x0,x1,x2,x3,x4,x5,x6,xz⟩:=(HBX.out.ext (zx:Ext _ w3)).facts)))
   go_ret
   exact ⟨by rw [HN.out];rfl,zx⟩
  | true =>
   cases a3 with
   | false =>
    have HN:=Za (show R=8 by rw [←HR.out];exact zbH HNM.out (by rw [HFP.out];simp))
    go_enter Tryz.func28,Tryz.ntmps28
    go_wp2_with (first
     | (go_at_call 57;(first | ((with_reducible refine (HN1.out _ zx).mono ?_);rintro e w1 ⟨rfl,hq1⟩;obtain ⟨x0,x1,x2,x3,x4,x5,x6,xz⟩:=(HBX.out.ext (zx:Ext _ w1)).facts) | (((with_reducible refine (HN2.out _ zx).mono ?_);rintro e w2 ⟨rfl,hq2⟩;obtain ⟨x0,x1,x2,x3,x4,x5,x6,xz⟩:=(HBX.out.ext (zx:Ext _ w2)).facts))))
     | (go_at_call 60;((with_reducible refine (HWN.out _).mono ?_);rintro e w3 ⟨rfl,hq3⟩;obtain ⟨x0,x1,x2,x3,x4,x5,x6,xz⟩:=(HBX.out.ext (zx:Ext _ w3)).facts)))
    go_ret
    exact ⟨by rw [HN.out];rfl,zx⟩
   | true =>
    by_cases h0:nc=0
    ·have HN:=Za (show R=8 by rw [←HR.out];exact zbH HNM.out (by rw [HFP.out];simp [h0]))
     have p3:((nc:Int)==0)=true:=by simp [h0]
     clear h0
     go_enter Tryz.func28,Tryz.ntmps28
     go_wp2_with (first
      | (go_at_call 57;(first | ((with_reducible refine (HN1.out _ zx).mono ?_);rintro e w1 ⟨rfl,hq1⟩;obtain ⟨x0,x1,x2,x3,x4,x5,x6,xz⟩:=(HBX.out.ext (zx:Ext _ w1)).facts) | (((with_reducible refine (HN2.out _ zx).mono ?_);rintro e w2 ⟨rfl,hq2⟩;obtain ⟨x0,x1,x2,x3,x4,x5,x6,xz⟩:=(HBX.out.ext (zx:Ext _ w2)).facts))))
      | (go_at_call 60;((with_reducible refine (HWN.out _).mono ?_);rintro e w3 ⟨rfl,hq3⟩;obtain ⟨x0,x1,x2,x3,x4,x5,x6,xz⟩:=(HBX.out.ext (zx:Ext _ w3)).facts)))
     go_ret
     exact ⟨by rw [HN.out];rfl,zx⟩
    have p3:((nc:Int)==0)=false:=by rw [Ze];omega
    have HNZ:=Za h0
    clear h0
    by_cases hg:ge=0
    case neg =>
     have HN:=Za (show R=8 by rw [←HR.out];exact zbH HNM.out (by rw [HFP.out];simp [hg]))
     have p4:(ge != 0)=true:=by simpa using hg
     clear hg
     go_enter Tryz.func28,Tryz.ntmps28
     go_wp2_with (first
      | (go_at_call 57;(first | ((with_reducible refine (HN1.out _ zx).mono ?_);rintro e w1 ⟨rfl,hq1⟩;obtain ⟨x0,x1,x2,x3,x4,x5,x6,xz⟩:=(HBX.out.ext (zx:Ext _ w1)).facts) | (((with_reducible refine (HN2.out _ zx).mono ?_);rintro e w2 ⟨rfl,hq2⟩;obtain ⟨x0,x1,x2,x3,x4,x5,x6,xz⟩:=(HBX.out.ext (zx:Ext _ w2)).facts))))
      | (go_at_call 60;((with_reducible refine (HWN.out _).mono ?_);rintro e w3 ⟨rfl,hq3⟩;obtain ⟨x0,x1,x2,x3,x4,x5,x6,xz⟩:=(HBX.out.ext (zx:Ext _ w3)).facts))
      | (go_at_call 61;((with_reducible refine (HGE.out _).mono ?_);rintro e w4 ⟨rfl,hq4⟩;obtain ⟨x0,x1,x2,x3,x4,x5,x6,xz⟩:=(HBX.out.ext (zx:Ext _ w4)).facts)))
     go_ret
     exact ⟨by rw [HN.out];rfl,zx⟩
    subst hg
    go_enter Tryz.func28,Tryz.ntmps28
    go_wp2_with (first
     | (go_at_call 57;(first | ((with_reducible refine (HN1.out _ zx).mono ?_);rintro e w1 ⟨rfl,hq1⟩;obtain ⟨x0,x1,x2,x3,x4,x5,x6,xz⟩:=(HBX.out.ext (zx:Ext _ w1)).facts) | (((with_reducible refine (HN2.out _ zx).mono ?_);rintro e w2 ⟨rfl,hq2⟩;obtain ⟨x0,x1,x2,x3,x4,x5,x6,xz⟩:=(HBX.out.ext (zx:Ext _ w2)).facts))))
     | (go_at_call 60;((with_reducible refine (HWN.out _).mono ?_);rintro e w3 ⟨rfl,hq3⟩;obtain ⟨x0,x1,x2,x3,x4,x5,x6,xz⟩:=(HBX.out.ext (zx:Ext _ w3)).facts))
     | (go_at_call 61;((with_reducible refine (HGE.out _).mono ?_);rintro e w4 ⟨rfl,hq4⟩;obtain ⟨x0,x1,x2,x3,x4,x5,x6,xz⟩:=(HBX.out.ext (zx:Ext _ w4)).facts)))
    go_loopw [65] (fun v wr=>∃k:Nat,v = .int .i64 (k:Int)∧k≤ns∧Hid (gramB st k=true)∧Hid (Ext (w.alloc (.cells #[.string ⟨nm.toArray⟩,.int .i64 g1,.int .i64 g2,.int .i64 g3,.int .i64 g4,.slice As ns cs,.slice Ac nc cc] 42)) wr)) (fun v _=>ns-(intOf v).toNat)
    case atStart=>exact ⟨0,rfl,Zu _,Za rfl,Za zx⟩
    case round =>
     obtain ⟨k,rfl,hk,HG,HE⟩:=hrel
     obtain ⟨wa,rfl⟩:∃wa:World,wa=wr:=⟨_,rfl⟩
     have q0:(0:Int)≤(k:Int):=by omega
     by_cases hlt:k<ns
     ·have q1:(k:Int)<(ns:Int):=by omega
      obtain ⟨b',off,rfl,hb',c0,c1⟩:=Stf.at_ (HSV.out.ext (HW0.out.trans HE.out)) hlt
      generalize stN st k=Y at c0
      obtain ⟨gk,hgk⟩:∃gk,(st.getD k stf0).g=gk:=⟨_,rfl⟩
      rw [hgk] at c1
      have HGK:=Za hgk
      clear hgk
      by_cases hlo:gk<1
      ·have HN:=Za (show R=8 by rw [←HR.out];exact zbH HNM.out (by rw [HFP.out,zcS hlt (by rw [HGK.out];omega)];simp))
       go_wp2_with fail
       go_ret
       exact ⟨by rw [HN.out];rfl,HW0.out.trans (HE.out.trans zx)⟩
      ·by_cases hhi:100000<gk
       ·have HN:=Za (show R=8 by rw [←HR.out];exact zbH HNM.out (by rw [HFP.out,zcS hlt (by rw [HGK.out];omega)];simp))
        go_wp2_with fail
        go_ret
        exact ⟨by rw [HN.out];rfl,HW0.out.trans (HE.out.trans zx)⟩
       ·have HN:=Za (show gramB st (k+1)=true by rw [zcc,HG.out,HGK.out,Z8 (show 1≤gk∧gk≤100000 by omega)];rfl)
        go_wp2_with fail
        go_roundw
        case rel=>exact ⟨k+1,by go_num,by omega,HN,Za (HE.out.trans zx)⟩
        case measure=>simp [intOf] <;> omega
     ·obtain rfl:ns=k:=by omega
      have HFT:=Za (show fineP nm 0 st se=true by rw [HFP.out,HG.out];simp [HNZ.out])
      obtain ⟨x0,x1,x2,x3,x4,x5,x6,xz⟩:=(HBX.out.ext HE.out).facts
      cases t1 with
      | true =>
       have HN:=Za (show R=14 by rw [←HR.out];exact zcj HNM.out HFT.out (.inl (by rw [HLS.out];exact HT1.out)))
       go_wp2_with fail
       go_ret
       exact ⟨by rw [HN.out];rfl,HW0.out.trans (HE.out.trans zx)⟩
      | false =>
       cases t2 with
       | true =>
        have HN:=Za (show R=14 by rw [←HR.out];exact zcj HNM.out HFT.out (.inr (by rw [HLC.out];exact HT2.out)))
        go_wp2_with fail
        go_ret
        exact ⟨by rw [HN.out];rfl,HW0.out.trans (HE.out.trans zx)⟩
       | false =>
        have HN:=Za (show R=firstE se nc 0 by rw [←HR.out,ze4 HNM.out HFT.out (by rw [HLS.out];exact HT1.out) (by rw [HLC.out];exact HT2.out),HLC.out])
        go_wp2_with fail
        go_loopw [85] (fun v wr=>∃j:Nat,v = .int .i64 (j:Int)∧j≤nc∧Hid (R=firstE se (nc-j) j)∧Hid (Ext (w.alloc (.cells #[.string ⟨nm.toArray⟩,.int .i64 g1,.int .i64 g2,.int .i64 g3,.int .i64 g4,.slice As ns cs,.slice Ac nc cc] 42)) wr)) (fun v _=>nc-(intOf v).toNat)
        case atStart=>exact ⟨0,rfl,Zu _,HN,Za (HE.out.trans zx)⟩
        case round =>
         clear x0 x1 x2 x3 x4 x5 x6 xz HN
         obtain ⟨j,rfl,hj,HF,HEJ⟩:=hrel
         obtain ⟨wb,rfl⟩:∃wb:World,wb=wr:=⟨_,rfl⟩
         have p5:(0:Int)≤(j:Int):=by omega
         by_cases hjl:j<nc
         ·have p6:(j:Int)<(nc:Int):=by omega
          obtain ⟨b',off,A',n',c',rfl,hb',c0,c1,c2,hr,hcap⟩:=(HCV.out.ext (HW0.out.trans HEJ.out)).at_ hjl
          have HRW:=Za hr
          obtain ⟨m,hm⟩:∃m,nc-j=m+1:=⟨nc-j-1,by omega⟩
          have HM:=Za (show nc-(j+1)=m by omega)
          have hF2:=HF.out
          rw [hm] at hF2
          generalize seN se j=Y at c0
          obtain ⟨S,hS⟩:∃S,(se.getD j sec0).s=S:=⟨_,rfl⟩
          obtain ⟨L,hL⟩:∃L,(se.getD j sec0).rows=L:=⟨_,rfl⟩
          rw [hS] at c1
          rw [hL] at HRW
          obtain ⟨x,hx⟩:∃x,chkC S L=x:=⟨_,rfl⟩
          have HCK:=Za (fun (w':World) (h:Ext wb w')=>zbh S A' n' c' L w' (HRW.out.ext h))
          rw [hx] at HCK
          by_cases hx0:x=0
          ·have HN2:=Za (show R=firstE se (nc-(j+1)) (j+1) by rw [HM.out,hF2,zd1 (by rw [hS,hL,hx];exact hx0)])
           subst hx0
           clear hS hL hx hm hF2 hr
           go_wp2_with (first
            | (go_at_call 34;((with_reducible refine (HCK.out _ zx).mono ?_);rintro e w5 ⟨rfl,hq5⟩)))
           go_roundw
           case rel=>exact ⟨j+1,by go_num,by omega,HN2,Za (HEJ.out.trans zx)⟩
           case measure=>simp [intOf] <;> omega
          ·have HN2:=Za (show R=x by rw [hF2,zdc (by rw [hS,hL,hx];exact hx0),hS,hL,hx])
           have p7:(x != 0)=true:=by simpa using hx0
           clear hS hL hx hm hF2 hr hx0
           go_wp2_with (first
            | (go_at_call 34;((with_reducible refine (HCK.out _ zx).mono ?_);rintro e w5 ⟨rfl,hq5⟩)))
           go_ret
           exact ⟨by rw [HN2.out];rfl,HW0.out.trans (HEJ.out.trans zx)⟩
         ·obtain rfl:j=nc:=by omega
          have HN2:=Za (show R=0 by rw [HF.out,Nat.sub_self];rfl)
          go_wp2_with fail
          go_ret
          exact ⟨by rw [HN2.out];rfl,HW0.out.trans HEJ.out⟩
end Go.Proofs.YtkneghkbgingdaaGreatDoor
/- Whether patterns are great. -/
namespace Go.Proofs.YtkneghkbgingdaaGreatDoor
set_option maxRecDepth 100000
open Go.RowKit Go.ChangeShapes Go.WideShapes Go.Joins
def BoxC (w:World) (b:Nat) (s:Int) (A:Option Addr) (n c:Nat):Prop:=w.heap[b]?=some (.cells #[.int .i64 s,.slice A n c] 24 (0,0))
theorem BoxC.ext {w w':World} {b:Nat} {s:Int} {A:Option Addr} {n c:Nat} (h:BoxC w b s A n c) (hb:Ext w w'):BoxC w' b s A n c:=by
 unfold BoxC at h ⊢
 rw [hb.block _ (Zn.1 h).1]
 exact h
theorem BoxC.facts {w:World} {b:Nat} {s:Int} {A:Option Addr} {n c:Nat} (h:BoxC w b s A n c):w.cell? ⟨b,0,none⟩=some (.int .i64 s)∧w.cell? ⟨b,1,none⟩=some (.slice A n c)∧b<w.heap.size :=
 ⟨(cell_of_row w _ 0 _ _ (0,0) h).trans rfl,(cell_of_row w _ 1 _ _ (0,0) h).trans rfl,(Zn.1 h).1⟩
theorem BoxC.start (w:World) (s:Int) (A:Option Addr) (n c:Nat):BoxC (w.alloc (.cells #[.int .i64 s,.slice A n c] 24)) w.heap.size s A n c:=heap_alloc_new w _
def AnyB (e:Ending):Prop:=∃b,e = .returned (.bool b)
theorem AnyB.mk_ (b:Bool):AnyB (.returned (.bool b)):=⟨b,rfl⟩
theorem zaR (s:Int) (A:Option Addr) (m c:Nat) (l:List Ro) (w:World) (hr:Rws w (fun _=>True) A m l) :
  Calls Tryz.prog 9 #[.agg #[.int .i64 s,.slice A m c]] w fun e w'=>AnyB e∧Ext w w':=by
 have HRV:=Za hr
 have hm:=hr.1
 unfold maxLen at hm
 have HBX:=Za (BoxC.start w s A m c)
 have HW0:=Za (show Ext w (w.alloc (.cells #[.int .i64 s,.slice A m c] 24)) from (Zd w).alloc _)
 clear hr
 go_enter Tryz.func9,Tryz.ntmps9
 go_wp2_with fail
 go_loopw [3] (fun i wr=>∃k:Nat,i = .int .i64 (k:Int)∧k≤m∧Hid (Ext (w.alloc (.cells #[.int .i64 s,.slice A m c] 24)) wr)) (fun i _=>m-(intOf i).toNat)
 case atStart=>exact ⟨0,rfl,Zu _,Za (Zd _)⟩
 case round =>
  obtain ⟨k,rfl,hk,HE⟩:=hrel
  obtain ⟨wa,rfl⟩:∃wa:World,wa=wr:=⟨_,rfl⟩
  obtain ⟨x0,x1,xz⟩:=(HBX.out.ext HE.out).facts
  have q0:(0:Int)≤(k:Int):=by omega
  by_cases hlt:k<m
  ·have q1:(k:Int)<(m:Int):=by omega
   obtain ⟨b,off,A',n',c',rfl,hb, -,c0,c1, -, -, -, -⟩:=(HRV.out.ext (HW0.out.trans HE.out)).at_ hlt
   clear c0
   by_cases h24:24<n'
   ·have p1:(24:Int)<(n':Int):=by omega
    clear h24
    go_wp2_with fail
    go_ret
    exact ⟨AnyB.mk_ _,HW0.out.trans HE.out⟩
   ·have p1:¬((24:Int)<(n':Int)):=by omega
    clear h24
    go_wp2_with fail
    go_roundw
    case rel=>exact ⟨k+1,by go_num,by omega,HE⟩
    case measure=>simp [intOf] <;> omega
  ·obtain rfl:m=k:=by omega
   by_cases h16:16<m
   ·have p1:(16:Int)<(m:Int):=by omega
    by_cases h100:m≤100
    ·have p2:(m:Int)≤100:=by omega
     clear h16 h100
     go_wp2_with fail
     go_ret
     exact ⟨AnyB.mk_ _,HW0.out.trans HE.out⟩
    ·have p2:¬((m:Int)≤100):=by omega
     by_cases h110:110<m
     ·have p3:(110:Int)<(m:Int):=by omega
      clear h16 h100 h110
      go_wp2_with fail
      go_ret
      exact ⟨AnyB.mk_ _,HW0.out.trans HE.out⟩
     ·have p3:¬((110:Int)<(m:Int)):=by omega
      clear h16 h100 h110
      go_wp2_with fail
      go_ret
      exact ⟨AnyB.mk_ _,HW0.out.trans HE.out⟩
   ·have p1:¬((16:Int)<(m:Int)):=by omega
    have p3:¬((110:Int)<(m:Int)):=by omega
    clear h16
    go_wp2_with fail
    go_ret
    exact ⟨AnyB.mk_ _,HW0.out.trans HE.out⟩
def SmallP (nm:List UInt8) (ns nc:Nat) (st:List Stf) (se:List Sec):Prop:=ns≤30∧nc≤30∧nm.length≤100∧(∀i,i<ns→(stN st i).length≤100)∧∀i,i<nc→(seN se i).length≤100
def GrtR (nm:List UInt8) (ns nc:Nat) (st:List Stf) (se:List Sec) (w:World) (e:Ending) (w':World):Prop:=(∃b,e = .returned (.bool b)∧(b=false→SmallP nm ns nc st se))∧Ext w w'
theorem GrtR.yes {nm:List UInt8} {ns nc:Nat} {st:List Stf} {se:List Sec} {w w':World} (hb:Ext w w'):GrtR nm ns nc st se w (.returned (.bool true)) w':=⟨⟨true,rfl,fun h=>by cases h⟩,hb⟩
theorem GrtR.no {nm:List UInt8} {ns nc:Nat} {st:List Stf} {se:List Sec} {w w':World} (h:SmallP nm ns nc st se) (hb:Ext w w'):GrtR nm ns nc st se w (.returned (.bool false)) w':=⟨⟨false,rfl,fun _=>h⟩,hb⟩
theorem za3 (nm:List UInt8) (g1 g2 g3 g4:Int) (As:Option Addr) (ns cs:Nat) (st:List Stf) (Ac:Option Addr) (nc cc:Nat) (se:List Sec) (w:World) (hs:Vec shStf w As ns st) (hsm:ns≤maxLen) (hc:Secs w Ac nc se) :
  Calls Tryz.prog 15 #[.agg #[.string ⟨nm.toArray⟩,.int .i64 g1,.int .i64 g2,.int .i64 g3,.int .i64 g4,.slice As ns cs,.slice Ac nc cc]] w (GrtR nm ns nc st se w):=by
 have hcm:=hc.1
 unfold maxLen at hsm hcm
 have HSV:=Za hs
 have HCV:=Za hc
 have HBX:=Za (BoxP.start w nm g1 g2 g3 g4 As ns cs Ac nc cc)
 have HW0:=Za (show Ext w (w.alloc (.cells #[.string ⟨nm.toArray⟩,.int .i64 g1,.int .i64 g2,.int .i64 g3,.int .i64 g4,.slice As ns cs,.slice Ac nc cc] 42)) from (Zd w).alloc _)
 clear hs hc
 by_cases h1:30<ns
 ·have p1:(30:Int)<(ns:Int):=by omega
  clear h1
  go_enter Tryz.func15,Tryz.ntmps15
  go_wp2_with fail
  go_ret
  exact GrtR.yes zx
 have p1:¬((30:Int)<(ns:Int)):=by omega
 by_cases h2:4<nc∧nc≤20
 ·have p2:(4:Int)<(nc:Int):=by omega
  have p3:(nc:Int)≤20:=by omega
  clear h1 h2
  go_enter Tryz.func15,Tryz.ntmps15
  go_wp2_with fail
  go_ret
  exact GrtR.yes zx
 by_cases h4:4<nc
 ·have p2:(4:Int)<(nc:Int):=by omega
  have p3:¬((nc:Int)≤20):=by omega
  by_cases h3:30<nc
  ·have p4:(30:Int)<(nc:Int):=by omega
   clear h1 h2 h3 h4
   go_enter Tryz.func15,Tryz.ntmps15
   go_wp2_with fail
   go_ret
   exact GrtR.yes zx
  have p4:¬((30:Int)<(nc:Int)):=by omega
  by_cases h5:100<nm.length
  ·have p5:(100:Int)<(nm.length:Int):=by omega
   clear h1 h2 h3 h4 h5
   go_enter Tryz.func15,Tryz.ntmps15
   go_wp2_with fail
   go_ret
   exact GrtR.yes zx
  have p5:¬((100:Int)<(nm.length:Int)):=by omega
  have HSM:=Za (show ns≤30∧nc≤30∧nm.length≤100 by omega)
  clear h1 h2 h3 h4 h5
  go_enter Tryz.func15,Tryz.ntmps15
  go_wp2_with fail
  go_loopw [3] (fun i wr=>∃k:Nat,i = .int .i64 (k:Int)∧k≤ns∧Hid (∀j,j<k→(stN st j).length≤100)∧Hid (Ext (w.alloc (.cells #[.string ⟨nm.toArray⟩,.int .i64 g1,.int .i64 g2,.int .i64 g3,.int .i64 g4,.slice As ns cs,.slice Ac nc cc] 42)) wr)) (fun i _=>ns-(intOf i).toNat)
  case atStart=>exact ⟨0,rfl,Zu _,Za (fun j hj=>absurd hj (by omega)),Za (Zd _)⟩
  case round =>
   obtain ⟨k,rfl,hk,HS,HE⟩:=hrel
   obtain ⟨wa,rfl⟩:∃wa:World,wa=wr:=⟨_,rfl⟩
   obtain ⟨x0,x1,x2,x3,x4,x5,x6,xz⟩:=(HBX.out.ext HE.out).facts
   have q0:(0:Int)≤(k:Int):=by omega
   by_cases hlt:k<ns
   ·have q1:(k:Int)<(ns:Int):=by omega
    obtain ⟨b',off,rfl,hb',c0,c1⟩:=Stf.at_ (HSV.out.ext (HW0.out.trans HE.out)) hlt
    obtain ⟨Y,hY⟩:∃Y,stN st k=Y:=⟨_,rfl⟩
    rw [hY] at c0
    have HY:=Za hY
    clear hY c1
    by_cases hl:100<Y.length
    ·have p6:(100:Int)<(Y.length:Int):=by omega
     clear hl
     go_wp2_with fail
     go_ret
     exact GrtR.yes (HW0.out.trans HE.out)
    ·have p6:¬((100:Int)<(Y.length:Int)):=by omega
     have HN:=Za (show ∀j,j<k+1→(stN st j).length≤100 from fun j hj=>by
      by_cases e:j=k
      ·subst e;rw [HY.out];omega
      ·exact HS.out j (by omega))
     clear hl
     go_wp2_with fail
     go_roundw
     case rel=>exact ⟨k+1,by go_num,by omega,HN,HE⟩
     case measure=>simp [intOf] <;> omega
   ·obtain rfl:ns=k:=by omega
    go_wp2_with fail
    go_loopw [4] (fun i wr=>∃j:Nat,i = .int .i64 (j:Int)∧j≤nc∧Hid (∀i,i<j→(seN se i).length≤100)∧Hid (Ext (w.alloc (.cells #[.string ⟨nm.toArray⟩,.int .i64 g1,.int .i64 g2,.int .i64 g3,.int .i64 g4,.slice As ns cs,.slice Ac nc cc] 42)) wr)) (fun i _=>nc-(intOf i).toNat)
    case atStart=>exact ⟨0,rfl,Zu _,Za (fun j hj=>absurd hj (by omega)),HE⟩
    case round =>
     clear x0 x1 x2 x3 x4 x5 x6 xz
     obtain ⟨j,rfl,hj,HC,HEJ⟩:=hrel
     obtain ⟨wb,rfl⟩:∃wb:World,wb=wr:=⟨_,rfl⟩
     obtain ⟨x0,x1,x2,x3,x4,x5,x6,xz⟩:=(HBX.out.ext HEJ.out).facts
     have r0:(0:Int)≤(j:Int):=by omega
     by_cases hjl:j<nc
     ·have r1:(j:Int)<(nc:Int):=by omega
      obtain ⟨b',off,A',n',c',rfl,hb',c0,c1,c2,hr,hcap⟩:=(HCV.out.ext (HW0.out.trans HEJ.out)).at_ hjl
      have HRW:=Za hr
      obtain ⟨Y,hY⟩:∃Y,seN se j=Y:=⟨_,rfl⟩
      rw [hY] at c0
      generalize (se.getD j sec0).s=S at c1
      have HGC:=Za (fun (w':World) (h:Ext wb w')=>zaR S A' n' c' _ w' (HRW.out.ext h))
      have HY:=Za hY
      clear hY hr
      by_cases hl:100<Y.length
      ·have p6:(100:Int)<(Y.length:Int):=by omega
       clear hl
       go_wp2_with fail
       go_ret
       exact GrtR.yes (HW0.out.trans HEJ.out)
      ·have p6:¬((100:Int)<(Y.length:Int)):=by omega
       have HN:=Za (show ∀i,i<j+1→(seN se i).length≤100 from fun i hi=>by
        by_cases e:i=j
        ·subst e;rw [HY.out];omega
        ·exact HC.out i (by omega))
       clear hl
       go_wp2_with (first
        | (go_at_call 9;((with_reducible refine (HGC.out _ zx).mono ?_);rintro e w5 ⟨⟨bb,rfl⟩,hq5⟩;cases bb)))
       ·go_roundw
        case rel=>exact ⟨j+1,by go_num,by omega,HN,Za (HEJ.out.trans zx)⟩
        case measure=>simp [intOf] <;> omega
       ·go_ret
        exact GrtR.yes (HW0.out.trans (HEJ.out.trans zx))
     ·obtain rfl:nc=j:=by omega
      go_wp2_with fail
      go_ret
      exact GrtR.no ⟨HSM.out.1,HSM.out.2.1,HSM.out.2.2,HS.out,HC.out⟩ (HW0.out.trans HEJ.out)
 ·have p2:¬((4:Int)<(nc:Int)):=by omega
  have p4:¬((30:Int)<(nc:Int)):=by omega
  by_cases h5:100<nm.length
  ·have p5:(100:Int)<(nm.length:Int):=by omega
   clear h1 h2 h4 h5
   go_enter Tryz.func15,Tryz.ntmps15
   go_wp2_with fail
   go_ret
   exact GrtR.yes zx
  have p5:¬((100:Int)<(nm.length:Int)):=by omega
  have HSM:=Za (show ns≤30∧nc≤30∧nm.length≤100 by omega)
  clear h1 h2 h4 h5
  go_enter Tryz.func15,Tryz.ntmps15
  go_wp2_with fail
  go_loopw [3] (fun i wr=>∃k:Nat,i = .int .i64 (k:Int)∧k≤ns∧Hid (∀j,j<k→(stN st j).length≤100)∧Hid (Ext (w.alloc (.cells #[.string ⟨nm.toArray⟩,.int .i64 g1,.int .i64 g2,.int .i64 g3,.int .i64 g4,.slice As ns cs,.slice Ac nc cc] 42)) wr)) (fun i _=>ns-(intOf i).toNat)
  case atStart=>exact ⟨0,rfl,Zu _,Za (fun j hj=>absurd hj (by omega)),Za (Zd _)⟩
  case round =>
   obtain ⟨k,rfl,hk,HS,HE⟩:=hrel
   obtain ⟨wa,rfl⟩:∃wa:World,wa=wr:=⟨_,rfl⟩
   obtain ⟨x0,x1,x2,x3,x4,x5,x6,xz⟩:=(HBX.out.ext HE.out).facts
   have q0:(0:Int)≤(k:Int):=by omega
   by_cases hlt:k<ns
   ·have q1:(k:Int)<(ns:Int):=by omega
    obtain ⟨b',off,rfl,hb',c0,c1⟩:=Stf.at_ (HSV.out.ext (HW0.out.trans HE.out)) hlt
    obtain ⟨Y,hY⟩:∃Y,stN st k=Y:=⟨_,rfl⟩
    rw [hY] at c0
    have HY:=Za hY
    clear hY c1
    by_cases hl:100<Y.length
    ·have p6:(100:Int)<(Y.length:Int):=by omega
     clear hl
     go_wp2_with fail
     go_ret
     exact GrtR.yes (HW0.out.trans HE.out)
    ·have p6:¬((100:Int)<(Y.length:Int)):=by omega
     have HN:=Za (show ∀j,j<k+1→(stN st j).length≤100 from fun j hj=>by
      by_cases e:j=k
      ·subst e;rw [HY.out];omega
      ·exact HS.out j (by omega))
     clear hl
     go_wp2_with fail
     go_roundw
     case rel=>exact ⟨k+1,by go_num,by omega,HN,HE⟩
     case measure=>simp [intOf] <;> omega
   ·obtain rfl:ns=k:=by omega
    go_wp2_with fail
    go_loopw [4] (fun i wr=>∃j:Nat,i = .int .i64 (j:Int)∧j≤nc∧Hid (∀i,i<j→(seN se i).length≤100)∧Hid (Ext (w.alloc (.cells #[.string ⟨nm.toArray⟩,.int .i64 g1,.int .i64 g2,.int .i64 g3,.int .i64 g4,.slice As ns cs,.slice Ac nc cc] 42)) wr)) (fun i _=>nc-(intOf i).toNat)
    case atStart=>exact ⟨0,rfl,Zu _,Za (fun j hj=>absurd hj (by omega)),HE⟩
    case round =>
     clear x0 x1 x2 x3 x4 x5 x6 xz
     obtain ⟨j,rfl,hj,HC,HEJ⟩:=hrel
     obtain ⟨wb,rfl⟩:∃wb:World,wb=wr:=⟨_,rfl⟩
     obtain ⟨x0,x1,x2,x3,x4,x5,x6,xz⟩:=(HBX.out.ext HEJ.out).facts
     have r0:(0:Int)≤(j:Int):=by omega
     by_cases hjl:j<nc
     ·have r1:(j:Int)<(nc:Int):=by omega
      obtain ⟨b',off,A',n',c',rfl,hb',c0,c1,c2,hr,hcap⟩:=(HCV.out.ext (HW0.out.trans HEJ.out)).at_ hjl
      have HRW:=Za hr
      obtain ⟨Y,hY⟩:∃Y,seN se j=Y:=⟨_,rfl⟩
      rw [hY] at c0
      generalize (se.getD j sec0).s=S at c1
      have HGC:=Za (fun (w':World) (h:Ext wb w')=>zaR S A' n' c' _ w' (HRW.out.ext h))
      have HY:=Za hY
      clear hY hr
      by_cases hl:100<Y.length
      ·have p6:(100:Int)<(Y.length:Int):=by omega
       clear hl
       go_wp2_with fail
       go_ret
       exact GrtR.yes (HW0.out.trans HEJ.out)
      ·have p6:¬((100:Int)<(Y.length:Int)):=by omega
       have HN:=Za (show ∀i,i<j+1→(seN se i).length≤100 from fun i hi=>by
        by_cases e:i=j
        ·subst e;rw [HY.out];omega
        ·exact HC.out i (by omega))
       clear hl
       go_wp2_with (first
        | (go_at_call 9;((with_reducible refine (HGC.out _ zx).mono ?_);rintro e w5 ⟨⟨bb,rfl⟩,hq5⟩;cases bb)))
       ·go_roundw
        case rel=>exact ⟨j+1,by go_num,by omega,HN,Za (HEJ.out.trans zx)⟩
        case measure=>simp [intOf] <;> omega
       ·go_ret
        exact GrtR.yes (HW0.out.trans (HEJ.out.trans zx))
     ·obtain rfl:nc=j:=by omega
      go_wp2_with fail
      go_ret
      exact GrtR.no ⟨HSM.out.1,HSM.out.2.1,HSM.out.2.2,HS.out,HC.out⟩ (HW0.out.trans HEJ.out)
end Go.Proofs.YtkneghkbgingdaaGreatDoor
/- Rows. -/
namespace Go.Proofs.YtkneghkbgingdaaGreatDoor
set_option maxRecDepth 100000
open Go.RowKit Go.ChangeShapes Go.WideShapes Go.Joins
def PRowsR (s:Int) (l:List Ro) (w:World) (e:Ending) (w':World):Prop:=e = .returned (.tuple #[.string ⟨(rowsV s l).toArray⟩,.int .i64 (rowsE s l)])∧Ext w w'
theorem PRowsR.mk_ {s:Int} {l:List Ro} {V:List UInt8} {E:Int} {w w':World} (h:rowsE s l=E∧rowsV s l=V) (hb:Ext w w'):PRowsR s l w (.returned (.tuple #[.string ⟨V.toArray⟩,.int .i64 E])) w':=by
 obtain ⟨h1,h2⟩:=h
 subst h1
 subst h2
 exact ⟨rfl,hb⟩
theorem zlV (l:List Ro) (i k:Nat):repT l i k≤l.length:=by
 unfold repT
 split
 ·omega
 ·exact ZB (Nat.div_le_self _ _) (ZB (zgH _ _ _ _) (by omega))
theorem zk3 (s x:Int) (A:Option Addr) (m c:Nat) (rows:List Ro) (w:World) (hr:Rws w (fun _=>True) A m rows) (hx:chkC s rows=x) (h0:x≠0) :
  Calls Tryz.prog 10 #[.agg #[.int .i64 s,.slice A m c]] w (PRowsR s rows w):=by
 have HR:=Za hr
 have HX:=Za hx
 have HV:=Za (zlk hx h0)
 have hb0:Ext w (w.alloc (.cells #[.int .i64 s,.slice A m c] 24)):=(Zd _).alloc _
 have hne:(x != 0)=true:=by simpa using h0
 clear hr hx h0
 go_enter Tryz.func10,Tryz.ntmps10
 go_wp2_with (go_at_call 34;((with_reducible refine (zbh s A m c rows _ (HR.out.ext (hb0.trans zx))).mono ?_);rintro e w1 ⟨rfl,hq1⟩;rw [HX.out]))
 go_ret2
 exact PRowsR.mk_ HV.out (hb0.trans zx)
theorem zhD (s:Int) (A:Option Addr) (m c:Nat) (rows:List Ro) (w:World) (hr:Rws w (fun _=>True) A m rows) (hg:Glob w) (h0:chkC s rows=0) :
  Calls Tryz.prog 10 #[.agg #[.int .i64 s,.slice A m c]] w (PRowsR s rows w):=by
 have HR:=Za hr
 have HG:=Za hg
 have HC:=Za h0
 obtain ⟨hl100,hall⟩:=zdU h0
 have HAL:=Za hall
 have hml:rows.length=m:=hr.len
 have HML:=Za hml
 have hm100:m≤100:=by omega
 have HBX:=Za (BoxC.start w s A m c)
 have HW0:=Za (show Ext w (w.alloc (.cells #[.int .i64 s,.slice A m c] 24)) from (Zd w).alloc _)
 clear hr hg h0 hall hl100 hml
 go_enter Tryz.func10,Tryz.ntmps10
 go_wp2_with (first
  | (go_at_call 34;((with_reducible refine (zbh s A m c rows _ (HR.out.ext (HW0.out.trans zx))).mono ?_);rintro e w1 ⟨rfl,hq1⟩;rw [HC.out];obtain ⟨x0,x1,xz⟩:=(HBX.out.ext (zx:Ext _ w1)).facts)))
 have HE1:=Za (show Ext (w.alloc (.cells #[.int .i64 s,.slice A m c] 24)) w1 from hq1)
 clear hq1 x0 x1 xz
 go_loopw [6] (fun u wr=>∃(i:Nat) (T:List UInt8),u = .int .i64 (i:Int)∧i≤m∧T.length≤3100*i∧Hid (RowSt rows i T)∧Hid (WSt w1 (w1.alloc (.cells #[.pointer none,.slice none 0 0] 80)) w1.heap.size T wr)) (fun u _=>m-(intOf u).toNat)
 case atStart=>exact ⟨0,[],rfl,Zu _,Zu _,Za (RowSt.start rows),Za (zeI w1)⟩
 case round =>
  obtain ⟨i,T,rfl,hi,hTl,HST,HWS⟩:=hrel
  obtain ⟨wa,rfl⟩:∃wa:World,wa=wr:=⟨_,rfl⟩
  have HXB:=Za (HE1.out.trans HWS.out.ex)
  have HXR:=Za (HW0.out.trans HXB.out)
  have HBX2:=HBX
  obtain ⟨x0,x1,xz⟩:=(HBX.out.ext HXB.out).facts
  have q0:(0:Int)≤(i:Int):=by omega
  by_cases hlt:i<m
  ·have q1:(i:Int)<(m:Int):=by omega
   have hml:=HML.out
   obtain ⟨b9,off9,A9,n9,c9,rfl,hlt9, -,d0,d1,hv9,hn9,hby9, -⟩:=(HR.out.ext HXR.out).at_ hlt
   have hra:=fun (k:Nat) (h1:1≤k) (h2:k≤2) (w':World) (h:Ext wa w')=>zf7 (some ⟨b9,off9,none⟩) m c rows i k w' (HR.out.ext (HXR.out.trans h)) hi (by omega) h1 h2
   have h1:=hra 1 (by omega) (by omega)
   have h2:=hra 2 (by omega) (by omega)
   have ho:=zlV rows i 1
   have ht:=zlV rows i 2
   have hA1:=zl5 (l:=rows) (i:=i)
   have hA2:=zl6 (l:=rows) (i:=i)
   generalize repT rows i 1=o at *
   generalize repT rows i 2=t at *
   have HRP1:=Za (show ∀(w':World),Ext wa w'→Calls Tryz.prog 35 #[.slice (some ⟨b9,off9,none⟩) m c,.int .i64 (i:Int),.int .i64 1] w' fun e w''=>e = .returned (.int .i64 (o:Int))∧Ext w' w'' from h1)
   have HRP2:=Za (show ∀(w':World),Ext wa w'→Calls Tryz.prog 35 #[.slice (some ⟨b9,off9,none⟩) m c,.int .i64 (i:Int),.int .i64 2] w' fun e w''=>e = .returned (.int .i64 (t:Int))∧Ext w' w'' from h2)
   have i1:=Zp (2*(t:Int)) (by omega)
   clear hra h1 h2
   by_cases hot:o<2*t
   ·have HAA:=Za (hA2 hot)
    have p1:(o:Int)<2*(t:Int):=by omega
    clear hA1 hA2 hv9 hn9 hby9 d0 d1 hot
    focus
     have HAG:=Za (HAA.out)
     have hle:=zlF (by omega) HAG.out.1 HAG.out.2
     have HIK:=Za (fun (w':World) (h:Ext w w')=>zaf 2 (by omega) (by omega) w' (HG.out.ext h))
     have HIM:=Za (fun (w':World) (h:Ext w w')=>zaf (t:Int) (by omega) (by omega) w' (HG.out.ext h))
     rw [Int.toNat_natCast] at HIM
     have hd1:=zae 2
     have hd2:=zae t
     have hd3:((2:Int)).toNat=2:=rfl
     rw [hd3] at HIK
     have HST2:=Za (HST.out.agn (by omega) HAG.out.1 HAG.out.2 (by omega))
     obtain ⟨D1,hD1⟩:∃D1,decD 2=D1:=⟨_,rfl⟩
     obtain ⟨D2,hD2⟩:∃D2,decD t=D2:=⟨_,rfl⟩
     rw [hD1] at HIK hd1
     rw [hD2] at HIM hd2
     obtain ⟨S1,hS1⟩:∃S1,agnB++D1=S1:=⟨_,rfl⟩
     obtain ⟨S2,hS2⟩:∃S2,S1++[32]=S2:=⟨_,rfl⟩
     obtain ⟨S3,hS3⟩:∃S3,S2++D2=S3:=⟨_,rfl⟩
     obtain ⟨S4,hS4⟩:∃S4,S3++[10]=S4:=⟨_,rfl⟩
     have cs1:(⟨#[97,103,97,105,110,32]⟩++⟨D1.toArray⟩:ByteArray)=⟨S1.toArray⟩:=by rw [←hS1];exact zag agnB D1
     have cs2:(⟨S1.toArray⟩++⟨#[32]⟩:ByteArray)=⟨S2.toArray⟩:=by rw [←hS2];exact zag S1 [32]
     have cs3:(⟨S2.toArray⟩++⟨D2.toArray⟩:ByteArray)=⟨S3.toArray⟩:=by rw [←hS3];exact zag S2 D2
     have cs4:(⟨S3.toArray⟩++⟨#[10]⟩:ByteArray)=⟨S4.toArray⟩:=by rw [←hS4];exact zag S3 [10]
     have l1:S1.length≤26:=by rw [←hS1,Zh,show agnB.length=6 from rfl];omega
     have l2:S2.length≤27:=by rw [←hS2,Zh,ZC];omega
     have l3:S3.length≤47:=by rw [←hS3,Zh];omega
     have l4:S4.length≤48:=by rw [←hS4,Zh,ZC];omega
     have HST3:=Za (show RowSt rows (i+2*t) (T++S4) by
      have h9:=HST2.out
      rw [hD1,hD2] at h9
      rw [←hS4,←hS3,←hS2,←hS1]
      simpa using h9)
     have j1:=Zp ((2:Int)*(t:Int)) (by omega)
     have j2:=Zp ((i:Int)+(2:Int)*(t:Int)) (by omega)
     have p2:(0:Int)<(t:Int):=by have:=HAG.out.2;omega
     have hle2:i+2*t≤m:=by omega
     have hle3:1≤t:=HAG.out.2
     clear hS1 hS2 hS3 hS4 hD1 hD2 hd3 hle HST2 HAG HST
     go_wp2_with (first
      | (go_at_call 35;first
       | ((with_reducible refine (HRP1.out _ zx).mono ?_);rintro e w2 ⟨rfl,hq2⟩;obtain ⟨y0,y1,yz⟩:=(HBX.out.ext (HXB.out.trans (zx:Ext wa w2))).facts)
       | (((with_reducible refine (HRP2.out _ zx).mono ?_);rintro e w3 ⟨rfl,hq3⟩;obtain ⟨z0,z1,zz⟩:=(HBX.out.ext (HXB.out.trans (zx:Ext wa w3))).facts;obtain ⟨hc3,hf3,hz3⟩:=(zx:Ext wa w3).facts)))
      | (go_at_call 37;first | ((with_reducible refine (HIK.out _ (HXR.out.trans zx)).mono ?_);rintro e w5 ⟨rfl,hq5⟩) | (((with_reducible refine (HIM.out _ (HXR.out.trans zx)).mono ?_);rintro e w6 ⟨rfl,hq6⟩)))
      | (go_at_call 36;((with_reducible refine (zbC S4 (HWS.out.ext zx) (by omega)).mono ?_);rintro e w7 ⟨rfl,hs9⟩;have HS9:=Za hs9;clear hs9)))
     go_roundw
     case rel=>exact ⟨i+2*t,T++S4,by go_num,by omega,by rw [Zh];omega,HST3,HS9⟩
     case measure=>simp [intOf] <;> omega
   ·have hA3:=hA1 hot
    have p1:¬((o:Int)<2*(t:Int)):=by omega
    by_cases ho0:0<o
    ·have HAA:=Za (And.intro hA3 ho0)
     clear hA1 hA2 hA3 hv9 hn9 hby9 d0 d1 hot ho0
     have HAG:=Za (HAA.out)
     have hle:=zlF (by omega) HAG.out.1 HAG.out.2
     have HIK:=Za (fun (w':World) (h:Ext w w')=>zaf 1 (by omega) (by omega) w' (HG.out.ext h))
     have HIM:=Za (fun (w':World) (h:Ext w w')=>zaf (o:Int) (by omega) (by omega) w' (HG.out.ext h))
     rw [Int.toNat_natCast] at HIM
     have hd1:=zae 1
     have hd2:=zae o
     have hd3:((1:Int)).toNat=1:=rfl
     rw [hd3] at HIK
     have HST2:=Za (HST.out.agn (by omega) HAG.out.1 HAG.out.2 (by omega))
     obtain ⟨D1,hD1⟩:∃D1,decD 1=D1:=⟨_,rfl⟩
     obtain ⟨D2,hD2⟩:∃D2,decD o=D2:=⟨_,rfl⟩
     rw [hD1] at HIK hd1
     rw [hD2] at HIM hd2
     obtain ⟨S1,hS1⟩:∃S1,agnB++D1=S1:=⟨_,rfl⟩
     obtain ⟨S2,hS2⟩:∃S2,S1++[32]=S2:=⟨_,rfl⟩
     obtain ⟨S3,hS3⟩:∃S3,S2++D2=S3:=⟨_,rfl⟩
     obtain ⟨S4,hS4⟩:∃S4,S3++[10]=S4:=⟨_,rfl⟩
     have cs1:(⟨#[97,103,97,105,110,32]⟩++⟨D1.toArray⟩:ByteArray)=⟨S1.toArray⟩:=by rw [←hS1];exact zag agnB D1
     have cs2:(⟨S1.toArray⟩++⟨#[32]⟩:ByteArray)=⟨S2.toArray⟩:=by rw [←hS2];exact zag S1 [32]
     have cs3:(⟨S2.toArray⟩++⟨D2.toArray⟩:ByteArray)=⟨S3.toArray⟩:=by rw [←hS3];exact zag S2 D2
     have cs4:(⟨S3.toArray⟩++⟨#[10]⟩:ByteArray)=⟨S4.toArray⟩:=by rw [←hS4];exact zag S3 [10]
     have l1:S1.length≤26:=by rw [←hS1,Zh,show agnB.length=6 from rfl];omega
     have l2:S2.length≤27:=by rw [←hS2,Zh,ZC];omega
     have l3:S3.length≤47:=by rw [←hS3,Zh];omega
     have l4:S4.length≤48:=by rw [←hS4,Zh,ZC];omega
     have HST3:=Za (show RowSt rows (i+1*o) (T++S4) by
      have h9:=HST2.out
      rw [hD1,hD2] at h9
      rw [←hS4,←hS3,←hS2,←hS1]
      simpa using h9)
     have j1:=Zp ((1:Int)*(o:Int)) (by omega)
     have j2:=Zp ((i:Int)+(1:Int)*(o:Int)) (by omega)
     have p2:(0:Int)<(o:Int):=by have:=HAG.out.2;omega
     have hle2:i+1*o≤m:=by omega
     have hle3:1≤o:=HAG.out.2
     clear hS1 hS2 hS3 hS4 hD1 hD2 hd3 hle HST2 HAG HST
     go_wp2_with (first
      | (go_at_call 35;first
       | ((with_reducible refine (HRP1.out _ zx).mono ?_);rintro e w2 ⟨rfl,hq2⟩;obtain ⟨y0,y1,yz⟩:=(HBX.out.ext (HXB.out.trans (zx:Ext wa w2))).facts)
       | (((with_reducible refine (HRP2.out _ zx).mono ?_);rintro e w3 ⟨rfl,hq3⟩;obtain ⟨z0,z1,zz⟩:=(HBX.out.ext (HXB.out.trans (zx:Ext wa w3))).facts;obtain ⟨hc3,hf3,hz3⟩:=(zx:Ext wa w3).facts)))
      | (go_at_call 37;first | ((with_reducible refine (HIK.out _ (HXR.out.trans zx)).mono ?_);rintro e w5 ⟨rfl,hq5⟩) | (((with_reducible refine (HIM.out _ (HXR.out.trans zx)).mono ?_);rintro e w6 ⟨rfl,hq6⟩)))
      | (go_at_call 36;((with_reducible refine (zbC S4 (HWS.out.ext zx) (by omega)).mono ?_);rintro e w7 ⟨rfl,hs9⟩;have HS9:=Za hs9;clear hs9)))
     go_roundw
     case rel=>exact ⟨i+1*o,T++S4,by go_num,by omega,by rw [Zh];omega,HST3,HS9⟩
     case measure=>simp [intOf] <;> omega
    ·have p2:¬((0:Int)<(o:Int)):=by omega
     have HA3:=Za (show (agnT rows i).2=0 by rw [hA3];show o=0;omega)
     obtain ⟨hb1,hb2⟩:=HAL.out i (by omega)
     have i5:=Zp ((i:Int)+1) (by omega)
     have hsm:=fun s (h:lineT (rows.getD i ro0)=some s)=>HST.out.line (by omega) HA3.out h
     have hno:=fun (h:lineT (rows.getD i ro0)=none)=>HST.out.none (by omega) HA3.out h
     have hlen:=fun s (h:lineT (rows.getD i ro0)=some s)=>zkP h (zcr hb1 hb2).1
     generalize rows.getD i ro0=r at *
     obtain ⟨rb,cs⟩:=r
     simp only at d0 d1 hv9 hby9 hb1 hb2
     have hn200:n9≤200:=by rw [←hv9.1];exact hb2
     have HLI:=Za (fun (w':World) (h:Ext wa w')=>zi8 rb cs A9 n9 c9 w' (hv9.ext h) hby9 hn200 hb1 (HG.out.ext (HXR.out.trans h)))
     clear hA1 hA2 hA3 hot ho0 hv9 hby9 hb1 hb2 hn9
     cases hq:lineT ⟨rb,cs⟩ with
     | none =>
      have HV:=Za (zjv HC.out (hno hq))
      have HLN:=Za (show ∀(w':World),Ext wa w'→Calls Tryz.prog 38 #[.agg #[.bool rb,.slice A9 n9 c9]] w' fun e w''=>e = .returned (.tuple #[.string ⟨#[]⟩,.int .i64 4])∧Ext w' w'' from fun w' h=>by
       refine (HLI.out w' h).mono ?_
       rintro e w9 ⟨h1,h2 | ⟨s9,h2,h3⟩⟩
       ·exact ⟨h2.2,h1⟩
       ·rw [hq] at h2;cases h2)
      clear hsm hno hlen hq HLI
      go_wp2_with (first
      | (go_at_call 35;first
       | ((with_reducible refine (HRP1.out _ zx).mono ?_);rintro e w2 ⟨rfl,hq2⟩;obtain ⟨y0,y1,yz⟩:=(HBX.out.ext (HXB.out.trans (zx:Ext wa w2))).facts)
       | (((with_reducible refine (HRP2.out _ zx).mono ?_);rintro e w3 ⟨rfl,hq3⟩;obtain ⟨z0,z1,zz⟩:=(HBX.out.ext (HXB.out.trans (zx:Ext wa w3))).facts;obtain ⟨hc3,hf3,hz3⟩:=(zx:Ext wa w3).facts)))
      | (go_at_call 38;((with_reducible refine (HLN.out _ zx).mono ?_);rintro e w4 ⟨rfl,hq4⟩)))
      go_ret2
      exact PRowsR.mk_ HV.out (HXR.out.trans zx)
     | some S =>
      have HST3:=Za (hsm S hq)
      have hSl:=hlen S hq
      have HLN:=Za (show ∀(w':World),Ext wa w'→Calls Tryz.prog 38 #[.agg #[.bool rb,.slice A9 n9 c9]] w' fun e w''=>e = .returned (.tuple #[.string ⟨S.toArray⟩,.int .i64 0])∧Ext w' w'' from fun w' h=>by
       refine (HLI.out w' h).mono ?_
       rintro e w9 ⟨h1,h2 | ⟨s9,h2,h3⟩⟩
       ·rw [hq] at h2;cases h2.1
       ·rw [hq] at h2;cases h2;exact ⟨h3,h1⟩)
      obtain ⟨S2,hS2⟩:∃S2,S++[10]=S2:=⟨_,rfl⟩
      have cs2:(⟨S.toArray⟩++⟨#[10]⟩:ByteArray)=⟨S2.toArray⟩:=by rw [←hS2];exact zag S [10]
      have l2:S2.length≤3007:=by rw [←hS2,Zh,ZC];omega
      rw [hS2] at HST3
      clear hsm hno hlen hq HLI hS2
      go_wp2_with (first
      | (go_at_call 35;first
       | ((with_reducible refine (HRP1.out _ zx).mono ?_);rintro e w2 ⟨rfl,hq2⟩;obtain ⟨y0,y1,yz⟩:=(HBX.out.ext (HXB.out.trans (zx:Ext wa w2))).facts)
       | (((with_reducible refine (HRP2.out _ zx).mono ?_);rintro e w3 ⟨rfl,hq3⟩;obtain ⟨z0,z1,zz⟩:=(HBX.out.ext (HXB.out.trans (zx:Ext wa w3))).facts;obtain ⟨hc3,hf3,hz3⟩:=(zx:Ext wa w3).facts)))
      | (go_at_call 38;((with_reducible refine (HLN.out _ zx).mono ?_);rintro e w4 ⟨rfl,hq4⟩))
      | (go_at_call 36;((with_reducible refine (zbC S2 (HWS.out.ext zx) (by omega)).mono ?_);rintro e w7 ⟨rfl,hs9⟩;have HS9:=Za hs9;clear hs9)))
      go_roundw
      case rel=>exact ⟨i+1,T++S2,by go_num,by omega,by rw [Zh];omega,HST3,HS9⟩
      case measure=>simp [intOf] <;> omega
  ·obtain rfl:m=i:=by omega
   have hml:=HML.out
   have hfin:=HST.out.fin (by omega)
   have q1:¬((m:Int)<(m:Int)):=by omega
   by_cases hl6:60000<T.length
   ·have HV:=Za (zju HC.out hfin hl6)
    have p3:(60000:Int)<(T.length:Int):=by omega
    clear hfin hml
    go_wp2_with (first
     | (go_at_call 39;((refine (Tryz.Builder_Len_f _ _ _ _ HWS.out.bl).mono ?_);rintro e w3 ⟨rfl,rfl⟩;rw [zaW])))
    go_ret2
    exact PRowsR.mk_ HV.out (HXR.out.trans zx)
   ·have HV:=Za (zjt HC.out hfin hl6)
    have p3:¬((60000:Int)<(T.length:Int)):=by omega
    clear hfin hml
    go_wp2_with (first
     | (go_at_call 39;((refine (Tryz.Builder_Len_f _ _ _ _ HWS.out.bl).mono ?_);rintro e w3 ⟨rfl,rfl⟩;rw [zaW]))
     | (go_at_call 40;((refine (Tryz.Builder_String_any_k w1.heap.size _ T _ HWS.out.bl (Zr HWS.out.ex)).mono ?_);rintro e w4 ⟨rfl, -,hq4, -⟩;have HS4:=Za (Below.trans HWS.out.ex hq4))))
    go_ret2
    exact PRowsR.mk_ HV.out (HW0.out.trans (HE1.out.trans HS4.out))
theorem zaY (s:Int) (A:Option Addr) (m c:Nat) (rows:List Ro) (w:World) (hr:Rws w (fun _=>True) A m rows) (hg:Glob w) :
  Calls Tryz.prog 10 #[.agg #[.int .i64 s,.slice A m c]] w (PRowsR s rows w):=by
 by_cases h0:chkC s rows=0
 ·exact zhD s A m c rows w hr hg h0
 ·exact zk3 s _ A m c rows w hr rfl h0
end Go.Proofs.YtkneghkbgingdaaGreatDoor
