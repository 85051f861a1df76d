/- PatternBack, one way. -/
import Derived.Test.YtkneghkbgingdaaGreatDoorK48
set_option maxHeartbeats 16000000
namespace Go.Proofs.YtkneghkbgingdaaGreatDoor
set_option maxRecDepth 100000
open Go.ChangeShapes Go.WideShapes Go.ChangeAt Go.RowKit Go.Joins
theorem zoP (sc:Int) (A:Option Addr) (n c:Nat) (rows:List Ro) (nm:List UInt8) (g1 g2 g3 g4:Int) (As:Option Addr) (ns cs:Nat) (st:List Stf) (Ac:Option Addr) (nc cc:Nat) (se:List Sec) (start:Int) (s t:List UInt8) (w:World) (E2:Int) (hB:(E2==0)=false) (E3 S3:Int) (V1 V2:List UInt8) (L3:List Ro) (h:BkH sc A n c rows nm g1 g2 g3 g4 As ns cs st Ac nc cc se start s t w 0 E2 E3 S3 V1 V2 L3) :
  Calls Tryz.prog 6 #[.agg #[.int .i64 sc,.slice A n c],.agg #[.string ⟨nm.toArray⟩,.int .i64 g1,.int .i64 g2,.int .i64 g3,.int .i64 g4,.slice As ns cs,.slice Ac nc cc],.int .i64 start,.string ⟨s.toArray⟩,.string ⟨t.toArray⟩] w fun e w'=>e = .returned (.bool true)∧Ext w w':=by
 have HR:=Za h.hr
 have HSV:=Za h.hs
 have HCV:=Za h.hc
 have HG:=Za h.hg
 have HBC:=Za ((BoxC.start w sc A n c).ext ((Zd _).alloc (.cells #[.string ⟨nm.toArray⟩,.int .i64 g1,.int .i64 g2,.int .i64 g3,.int .i64 g4,.slice As ns cs,.slice Ac nc cc] 42)))
 have HBP:=Za (BoxP.start (w.alloc (.cells #[.int .i64 sc,.slice A n c] 24)) nm g1 g2 g3 g4 As ns cs Ac nc cc)
 rw [ZI] at HBP
 have HW0:=Za (show Ext w ((w.alloc (.cells #[.int .i64 sc,.slice A n c] 24)).alloc (.cells #[.string ⟨nm.toArray⟩,.int .i64 g1,.int .i64 g2,.int .i64 g3,.int .i64 g4,.slice As ns cs,.slice Ac nc cc] 42)) from ((Zd w).alloc _).alloc _)
 have HE:=Za (Zd ((w.alloc (.cells #[.int .i64 sc,.slice A n c] 24)).alloc (.cells #[.string ⟨nm.toArray⟩,.int .i64 g1,.int .i64 g2,.int .i64 g3,.int .i64 g4,.slice As ns cs,.slice Ac nc cc] 42)))
 have HAL:=Za (fun (w':World) (hx:Ext ((w.alloc (.cells #[.int .i64 sc,.slice A n c] 24)).alloc (.cells #[.string ⟨nm.toArray⟩,.int .i64 g1,.int .i64 g2,.int .i64 g3,.int .i64 g4,.slice As ns cs,.slice Ac nc cc] 42)) w')=>zaS w' (HG.out.ext (HW0.out.trans hx)))
 have HGC:=Za (fun (w':World) (hx:Ext ((w.alloc (.cells #[.int .i64 sc,.slice A n c] 24)).alloc (.cells #[.string ⟨nm.toArray⟩,.int .i64 g1,.int .i64 g2,.int .i64 g3,.int .i64 g4,.slice As ns cs,.slice Ac nc cc] 42)) w')=>zaR sc A n c rows w' (HR.out.ext (HW0.out.trans hx)))
 have HGR:=Za (fun (w':World) (hx:Ext ((w.alloc (.cells #[.int .i64 sc,.slice A n c] 24)).alloc (.cells #[.string ⟨nm.toArray⟩,.int .i64 g1,.int .i64 g2,.int .i64 g3,.int .i64 g4,.slice As ns cs,.slice Ac nc cc] 42)) w')=>za3 nm g1 g2 g3 g4 As ns cs st Ac nc cc se w' (HSV.out.ext (HW0.out.trans hx)) h.hsm (HCV.out.ext (HW0.out.trans hx)))
 have HRW:=Za h.hRW
 have HRA:=Za (h.hRA rfl)
 have HTX:=Za h.hTX
 have HRS:=Za h.hRS
 have h3:=h.h3
 have h4:=h.h4
 have hC:=h.hC
 have hPT:=h.hPT
 clear h
 rcases hC with ⟨rfl,rfl,hRX⟩ | rfl
 ·have HRX:=Za hRX
  clear hRX
  rcases hPT with hPT | ⟨q,hPT,hQT⟩
  ·have HPT:=Za hPT
   clear hPT
   go_enter Tryz.func6,Tryz.ntmps6
   go_wp2_with (first
    | (go_at_call 29;((with_reducible refine (HAL.out _ (HE.out.trans zx)).mono ?_);rintro e w1 ⟨rfl,hq1⟩;replace HE:=Za (HE.out.trans (Zb zx hq1:Ext _ w1));clear hq1;obtain ⟨x0,x1,xz⟩:=(HBC.out.ext HE.out).facts;obtain ⟨y0,y1,y2,y3,y4,y5,y6,yz⟩:=(HBP.out.ext HE.out).facts))
    | (go_at_call 9;((with_reducible refine (HGC.out _ (HE.out.trans zx)).mono ?_);rintro e w2 ⟨⟨b,rfl⟩,hq2⟩;replace HE:=Za (HE.out.trans (Zb zx hq2:Ext _ w2));clear hq2;obtain ⟨x0,x1,xz⟩:=(HBC.out.ext HE.out).facts;obtain ⟨y0,y1,y2,y3,y4,y5,y6,yz⟩:=(HBP.out.ext HE.out).facts;cases b))
    | (go_at_call 15;((with_reducible refine (HGR.out _ (HE.out.trans zx)).mono ?_);rintro e w3 ⟨⟨b,rfl,hb⟩,hq3⟩;have HSM:=Za hb;clear hb;replace HE:=Za (HE.out.trans (Zb zx hq3:Ext _ w3));clear hq3;obtain ⟨x0,x1,xz⟩:=(HBC.out.ext HE.out).facts;obtain ⟨y0,y1,y2,y3,y4,y5,y6,yz⟩:=(HBP.out.ext HE.out).facts;cases b))
    | (go_at_call 10;(first | ((with_reducible refine (HRX.out _ _ _ _ (HE.out.trans zx) (HR9.out.ext zx)).mono ?_);rintro e w10 ⟨rfl,hq10⟩;obtain ⟨k0,k1,kz⟩:=(HX9.out.ext hq10).facts;replace HE:=Za (HE.out.trans (Zb zx hq10:Ext _ w10));clear hq10;obtain ⟨x0,x1,xz⟩:=(HBC.out.ext HE.out).facts;obtain ⟨y0,y1,y2,y3,y4,y5,y6,yz⟩:=(HBP.out.ext HE.out).facts) | ((with_reducible refine (HRW.out _ (HE.out.trans zx)).mono ?_);rintro e w4 ⟨rfl,hq4⟩;replace HE:=Za (HE.out.trans (Zb zx hq4:Ext _ w4));clear hq4;obtain ⟨x0,x1,xz⟩:=(HBC.out.ext HE.out).facts;obtain ⟨y0,y1,y2,y3,y4,y5,y6,yz⟩:=(HBP.out.ext HE.out).facts)))
    | (go_at_call 12;(first | ((with_reducible refine (HRA.out _ (HE.out.trans zx)).mono ?_);rintro e w5 ⟨A5,c5,rfl,hq5,hr5⟩;have HR5:=Za hr5;clear hr5;replace HE:=Za (HE.out.trans (Zb zx hq5:Ext _ w5));clear hq5;obtain ⟨x0,x1,xz⟩:=(HBC.out.ext HE.out).facts;obtain ⟨y0,y1,y2,y3,y4,y5,y6,yz⟩:=(HBP.out.ext HE.out).facts) | ((with_reducible refine (HRS.out _ (HE.out.trans zx)).mono ?_);rintro e w9 ⟨A9,n9,c9,rfl,hq9,hr9⟩;have HR9:=Za hr9;have HX9:=Za (BoxC.start w9 S3 A9 n9 c9);clear hr9;replace HE:=Za (HE.out.trans (Zb zx hq9:Ext _ w9));clear hq9;obtain ⟨x0,x1,xz⟩:=(HBC.out.ext HE.out).facts;obtain ⟨y0,y1,y2,y3,y4,y5,y6,yz⟩:=(HBP.out.ext HE.out).facts)))
    | (go_at_call 14;((with_reducible refine (zat sc sc A5 A n n c5 c rows rows _ (HR5.out.ext zx) (HR.out.ext (HW0.out.trans (HE.out.trans zx)))).mono ?_);rintro e w6 ⟨rfl,hq6⟩;rw [zax];replace HE:=Za (HE.out.trans (Zb zx hq6:Ext _ w6));clear hq6;obtain ⟨x0,x1,xz⟩:=(HBC.out.ext HE.out).facts;obtain ⟨y0,y1,y2,y3,y4,y5,y6,yz⟩:=(HBP.out.ext HE.out).facts))
    | (go_at_call 16;(first | ((with_reducible refine (HTX.out (HSM.out (by simp)) _ (HE.out.trans zx)).mono ?_);rintro e w7 ⟨rfl,hq7⟩;replace HE:=Za (HE.out.trans (Zb zx hq7:Ext _ w7));clear hq7;obtain ⟨x0,x1,xz⟩:=(HBC.out.ext HE.out).facts;obtain ⟨y0,y1,y2,y3,y4,y5,y6,yz⟩:=(HBP.out.ext HE.out).facts)))
    | (go_at_call 18;(first | ((with_reducible refine (HPT.out _ (HE.out.trans zx)).mono ?_);rintro e w12 ⟨rfl,hq12⟩;replace HE:=Za (HE.out.trans (Zb zx hq12:Ext _ w12));clear hq12;obtain ⟨x0,x1,xz⟩:=(HBC.out.ext HE.out).facts;obtain ⟨y0,y1,y2,y3,y4,y5,y6,yz⟩:=(HBP.out.ext HE.out).facts))))
   all_goals (go_ret;exact ⟨by first | rfl | simp,HW0.out.trans (HE.out.trans zx)⟩)
  ·have HPT:=Za hPT
   have HQT:=Za hQT
   clear hPT hQT
   go_enter Tryz.func6,Tryz.ntmps6
   go_wp2_with (first
    | (go_at_call 29;((with_reducible refine (HAL.out _ (HE.out.trans zx)).mono ?_);rintro e w1 ⟨rfl,hq1⟩;replace HE:=Za (HE.out.trans (Zb zx hq1:Ext _ w1));clear hq1;obtain ⟨x0,x1,xz⟩:=(HBC.out.ext HE.out).facts;obtain ⟨y0,y1,y2,y3,y4,y5,y6,yz⟩:=(HBP.out.ext HE.out).facts))
    | (go_at_call 9;((with_reducible refine (HGC.out _ (HE.out.trans zx)).mono ?_);rintro e w2 ⟨⟨b,rfl⟩,hq2⟩;replace HE:=Za (HE.out.trans (Zb zx hq2:Ext _ w2));clear hq2;obtain ⟨x0,x1,xz⟩:=(HBC.out.ext HE.out).facts;obtain ⟨y0,y1,y2,y3,y4,y5,y6,yz⟩:=(HBP.out.ext HE.out).facts;cases b))
    | (go_at_call 15;((with_reducible refine (HGR.out _ (HE.out.trans zx)).mono ?_);rintro e w3 ⟨⟨b,rfl,hb⟩,hq3⟩;have HSM:=Za hb;clear hb;replace HE:=Za (HE.out.trans (Zb zx hq3:Ext _ w3));clear hq3;obtain ⟨x0,x1,xz⟩:=(HBC.out.ext HE.out).facts;obtain ⟨y0,y1,y2,y3,y4,y5,y6,yz⟩:=(HBP.out.ext HE.out).facts;cases b))
    | (go_at_call 10;(first | ((with_reducible refine (HRX.out _ _ _ _ (HE.out.trans zx) (HR9.out.ext zx)).mono ?_);rintro e w10 ⟨rfl,hq10⟩;obtain ⟨k0,k1,kz⟩:=(HX9.out.ext hq10).facts;replace HE:=Za (HE.out.trans (Zb zx hq10:Ext _ w10));clear hq10;obtain ⟨x0,x1,xz⟩:=(HBC.out.ext HE.out).facts;obtain ⟨y0,y1,y2,y3,y4,y5,y6,yz⟩:=(HBP.out.ext HE.out).facts) | ((with_reducible refine (HRW.out _ (HE.out.trans zx)).mono ?_);rintro e w4 ⟨rfl,hq4⟩;replace HE:=Za (HE.out.trans (Zb zx hq4:Ext _ w4));clear hq4;obtain ⟨x0,x1,xz⟩:=(HBC.out.ext HE.out).facts;obtain ⟨y0,y1,y2,y3,y4,y5,y6,yz⟩:=(HBP.out.ext HE.out).facts)))
    | (go_at_call 12;(first | ((with_reducible refine (HRA.out _ (HE.out.trans zx)).mono ?_);rintro e w5 ⟨A5,c5,rfl,hq5,hr5⟩;have HR5:=Za hr5;clear hr5;replace HE:=Za (HE.out.trans (Zb zx hq5:Ext _ w5));clear hq5;obtain ⟨x0,x1,xz⟩:=(HBC.out.ext HE.out).facts;obtain ⟨y0,y1,y2,y3,y4,y5,y6,yz⟩:=(HBP.out.ext HE.out).facts) | ((with_reducible refine (HRS.out _ (HE.out.trans zx)).mono ?_);rintro e w9 ⟨A9,n9,c9,rfl,hq9,hr9⟩;have HR9:=Za hr9;have HX9:=Za (BoxC.start w9 S3 A9 n9 c9);clear hr9;replace HE:=Za (HE.out.trans (Zb zx hq9:Ext _ w9));clear hq9;obtain ⟨x0,x1,xz⟩:=(HBC.out.ext HE.out).facts;obtain ⟨y0,y1,y2,y3,y4,y5,y6,yz⟩:=(HBP.out.ext HE.out).facts)))
    | (go_at_call 14;((with_reducible refine (zat sc sc A5 A n n c5 c rows rows _ (HR5.out.ext zx) (HR.out.ext (HW0.out.trans (HE.out.trans zx)))).mono ?_);rintro e w6 ⟨rfl,hq6⟩;rw [zax];replace HE:=Za (HE.out.trans (Zb zx hq6:Ext _ w6));clear hq6;obtain ⟨x0,x1,xz⟩:=(HBC.out.ext HE.out).facts;obtain ⟨y0,y1,y2,y3,y4,y5,y6,yz⟩:=(HBP.out.ext HE.out).facts))
    | (go_at_call 16;(first | ((with_reducible refine (HQT.out _ _ _ _ _ (HE.out.trans zx) (HS12.out.ext zx) (HC12.out.ext zx)).mono ?_);rintro e w13 ⟨rfl,hq13⟩;replace HE:=Za (HE.out.trans (Zb zx hq13:Ext _ w13));clear hq13;obtain ⟨x0,x1,xz⟩:=(HBC.out.ext HE.out).facts;obtain ⟨y0,y1,y2,y3,y4,y5,y6,yz⟩:=(HBP.out.ext HE.out).facts) | ((with_reducible refine (HTX.out (HSM.out (by simp)) _ (HE.out.trans zx)).mono ?_);rintro e w7 ⟨rfl,hq7⟩;replace HE:=Za (HE.out.trans (Zb zx hq7:Ext _ w7));clear hq7;obtain ⟨x0,x1,xz⟩:=(HBC.out.ext HE.out).facts;obtain ⟨y0,y1,y2,y3,y4,y5,y6,yz⟩:=(HBP.out.ext HE.out).facts)))
    | (go_at_call 18;(first | ((with_reducible refine (HPT.out _ (HE.out.trans zx)).mono ?_);rintro e w12 ⟨As12,Ac12,cs12,cc12,rfl,hq12,hs12,hc12⟩;have HS12:=Za hs12;have HC12:=Za hc12;clear hs12 hc12;replace HE:=Za (HE.out.trans (Zb zx hq12:Ext _ w12));clear hq12;obtain ⟨x0,x1,xz⟩:=(HBC.out.ext HE.out).facts;obtain ⟨y0,y1,y2,y3,y4,y5,y6,yz⟩:=(HBP.out.ext HE.out).facts))))
   all_goals (go_ret;exact ⟨by first | rfl | simp,HW0.out.trans (HE.out.trans zx)⟩)
 ·skip
  rcases hPT with hPT | ⟨q,hPT,hQT⟩
  ·have HPT:=Za hPT
   clear hPT
   go_enter Tryz.func6,Tryz.ntmps6
   go_wp2_with (first
    | (go_at_call 29;((with_reducible refine (HAL.out _ (HE.out.trans zx)).mono ?_);rintro e w1 ⟨rfl,hq1⟩;replace HE:=Za (HE.out.trans (Zb zx hq1:Ext _ w1));clear hq1;obtain ⟨x0,x1,xz⟩:=(HBC.out.ext HE.out).facts;obtain ⟨y0,y1,y2,y3,y4,y5,y6,yz⟩:=(HBP.out.ext HE.out).facts))
    | (go_at_call 9;((with_reducible refine (HGC.out _ (HE.out.trans zx)).mono ?_);rintro e w2 ⟨⟨b,rfl⟩,hq2⟩;replace HE:=Za (HE.out.trans (Zb zx hq2:Ext _ w2));clear hq2;obtain ⟨x0,x1,xz⟩:=(HBC.out.ext HE.out).facts;obtain ⟨y0,y1,y2,y3,y4,y5,y6,yz⟩:=(HBP.out.ext HE.out).facts;cases b))
    | (go_at_call 15;((with_reducible refine (HGR.out _ (HE.out.trans zx)).mono ?_);rintro e w3 ⟨⟨b,rfl,hb⟩,hq3⟩;have HSM:=Za hb;clear hb;replace HE:=Za (HE.out.trans (Zb zx hq3:Ext _ w3));clear hq3;obtain ⟨x0,x1,xz⟩:=(HBC.out.ext HE.out).facts;obtain ⟨y0,y1,y2,y3,y4,y5,y6,yz⟩:=(HBP.out.ext HE.out).facts;cases b))
    | (go_at_call 10;(first | ((with_reducible refine (HRW.out _ (HE.out.trans zx)).mono ?_);rintro e w4 ⟨rfl,hq4⟩;replace HE:=Za (HE.out.trans (Zb zx hq4:Ext _ w4));clear hq4;obtain ⟨x0,x1,xz⟩:=(HBC.out.ext HE.out).facts;obtain ⟨y0,y1,y2,y3,y4,y5,y6,yz⟩:=(HBP.out.ext HE.out).facts)))
    | (go_at_call 12;(first | ((with_reducible refine (HRA.out _ (HE.out.trans zx)).mono ?_);rintro e w5 ⟨A5,c5,rfl,hq5,hr5⟩;have HR5:=Za hr5;clear hr5;replace HE:=Za (HE.out.trans (Zb zx hq5:Ext _ w5));clear hq5;obtain ⟨x0,x1,xz⟩:=(HBC.out.ext HE.out).facts;obtain ⟨y0,y1,y2,y3,y4,y5,y6,yz⟩:=(HBP.out.ext HE.out).facts) | ((with_reducible refine (HRS.out _ (HE.out.trans zx)).mono ?_);rintro e w9 ⟨A9,n9,c9,rfl,hq9,hr9⟩;have HR9:=Za hr9;have HX9:=Za (BoxC.start w9 S3 A9 n9 c9);clear hr9;replace HE:=Za (HE.out.trans (Zb zx hq9:Ext _ w9));clear hq9;obtain ⟨x0,x1,xz⟩:=(HBC.out.ext HE.out).facts;obtain ⟨y0,y1,y2,y3,y4,y5,y6,yz⟩:=(HBP.out.ext HE.out).facts)))
    | (go_at_call 14;((with_reducible refine (zat sc sc A5 A n n c5 c rows rows _ (HR5.out.ext zx) (HR.out.ext (HW0.out.trans (HE.out.trans zx)))).mono ?_);rintro e w6 ⟨rfl,hq6⟩;rw [zax];replace HE:=Za (HE.out.trans (Zb zx hq6:Ext _ w6));clear hq6;obtain ⟨x0,x1,xz⟩:=(HBC.out.ext HE.out).facts;obtain ⟨y0,y1,y2,y3,y4,y5,y6,yz⟩:=(HBP.out.ext HE.out).facts))
    | (go_at_call 16;(first | ((with_reducible refine (HTX.out (HSM.out (by simp)) _ (HE.out.trans zx)).mono ?_);rintro e w7 ⟨rfl,hq7⟩;replace HE:=Za (HE.out.trans (Zb zx hq7:Ext _ w7));clear hq7;obtain ⟨x0,x1,xz⟩:=(HBC.out.ext HE.out).facts;obtain ⟨y0,y1,y2,y3,y4,y5,y6,yz⟩:=(HBP.out.ext HE.out).facts)))
    | (go_at_call 18;(first | ((with_reducible refine (HPT.out _ (HE.out.trans zx)).mono ?_);rintro e w12 ⟨rfl,hq12⟩;replace HE:=Za (HE.out.trans (Zb zx hq12:Ext _ w12));clear hq12;obtain ⟨x0,x1,xz⟩:=(HBC.out.ext HE.out).facts;obtain ⟨y0,y1,y2,y3,y4,y5,y6,yz⟩:=(HBP.out.ext HE.out).facts))))
   all_goals (go_ret;exact ⟨by first | rfl | simp,HW0.out.trans (HE.out.trans zx)⟩)
  ·have HPT:=Za hPT
   have HQT:=Za hQT
   clear hPT hQT
   go_enter Tryz.func6,Tryz.ntmps6
   go_wp2_with (first
    | (go_at_call 29;((with_reducible refine (HAL.out _ (HE.out.trans zx)).mono ?_);rintro e w1 ⟨rfl,hq1⟩;replace HE:=Za (HE.out.trans (Zb zx hq1:Ext _ w1));clear hq1;obtain ⟨x0,x1,xz⟩:=(HBC.out.ext HE.out).facts;obtain ⟨y0,y1,y2,y3,y4,y5,y6,yz⟩:=(HBP.out.ext HE.out).facts))
    | (go_at_call 9;((with_reducible refine (HGC.out _ (HE.out.trans zx)).mono ?_);rintro e w2 ⟨⟨b,rfl⟩,hq2⟩;replace HE:=Za (HE.out.trans (Zb zx hq2:Ext _ w2));clear hq2;obtain ⟨x0,x1,xz⟩:=(HBC.out.ext HE.out).facts;obtain ⟨y0,y1,y2,y3,y4,y5,y6,yz⟩:=(HBP.out.ext HE.out).facts;cases b))
    | (go_at_call 15;((with_reducible refine (HGR.out _ (HE.out.trans zx)).mono ?_);rintro e w3 ⟨⟨b,rfl,hb⟩,hq3⟩;have HSM:=Za hb;clear hb;replace HE:=Za (HE.out.trans (Zb zx hq3:Ext _ w3));clear hq3;obtain ⟨x0,x1,xz⟩:=(HBC.out.ext HE.out).facts;obtain ⟨y0,y1,y2,y3,y4,y5,y6,yz⟩:=(HBP.out.ext HE.out).facts;cases b))
    | (go_at_call 10;(first | ((with_reducible refine (HRW.out _ (HE.out.trans zx)).mono ?_);rintro e w4 ⟨rfl,hq4⟩;replace HE:=Za (HE.out.trans (Zb zx hq4:Ext _ w4));clear hq4;obtain ⟨x0,x1,xz⟩:=(HBC.out.ext HE.out).facts;obtain ⟨y0,y1,y2,y3,y4,y5,y6,yz⟩:=(HBP.out.ext HE.out).facts)))
    | (go_at_call 12;(first | ((with_reducible refine (HRA.out _ (HE.out.trans zx)).mono ?_);rintro e w5 ⟨A5,c5,rfl,hq5,hr5⟩;have HR5:=Za hr5;clear hr5;replace HE:=Za (HE.out.trans (Zb zx hq5:Ext _ w5));clear hq5;obtain ⟨x0,x1,xz⟩:=(HBC.out.ext HE.out).facts;obtain ⟨y0,y1,y2,y3,y4,y5,y6,yz⟩:=(HBP.out.ext HE.out).facts) | ((with_reducible refine (HRS.out _ (HE.out.trans zx)).mono ?_);rintro e w9 ⟨A9,n9,c9,rfl,hq9,hr9⟩;have HR9:=Za hr9;have HX9:=Za (BoxC.start w9 S3 A9 n9 c9);clear hr9;replace HE:=Za (HE.out.trans (Zb zx hq9:Ext _ w9));clear hq9;obtain ⟨x0,x1,xz⟩:=(HBC.out.ext HE.out).facts;obtain ⟨y0,y1,y2,y3,y4,y5,y6,yz⟩:=(HBP.out.ext HE.out).facts)))
    | (go_at_call 14;((with_reducible refine (zat sc sc A5 A n n c5 c rows rows _ (HR5.out.ext zx) (HR.out.ext (HW0.out.trans (HE.out.trans zx)))).mono ?_);rintro e w6 ⟨rfl,hq6⟩;rw [zax];replace HE:=Za (HE.out.trans (Zb zx hq6:Ext _ w6));clear hq6;obtain ⟨x0,x1,xz⟩:=(HBC.out.ext HE.out).facts;obtain ⟨y0,y1,y2,y3,y4,y5,y6,yz⟩:=(HBP.out.ext HE.out).facts))
    | (go_at_call 16;(first | ((with_reducible refine (HQT.out _ _ _ _ _ (HE.out.trans zx) (HS12.out.ext zx) (HC12.out.ext zx)).mono ?_);rintro e w13 ⟨rfl,hq13⟩;replace HE:=Za (HE.out.trans (Zb zx hq13:Ext _ w13));clear hq13;obtain ⟨x0,x1,xz⟩:=(HBC.out.ext HE.out).facts;obtain ⟨y0,y1,y2,y3,y4,y5,y6,yz⟩:=(HBP.out.ext HE.out).facts) | ((with_reducible refine (HTX.out (HSM.out (by simp)) _ (HE.out.trans zx)).mono ?_);rintro e w7 ⟨rfl,hq7⟩;replace HE:=Za (HE.out.trans (Zb zx hq7:Ext _ w7));clear hq7;obtain ⟨x0,x1,xz⟩:=(HBC.out.ext HE.out).facts;obtain ⟨y0,y1,y2,y3,y4,y5,y6,yz⟩:=(HBP.out.ext HE.out).facts)))
    | (go_at_call 18;(first | ((with_reducible refine (HPT.out _ (HE.out.trans zx)).mono ?_);rintro e w12 ⟨As12,Ac12,cs12,cc12,rfl,hq12,hs12,hc12⟩;have HS12:=Za hs12;have HC12:=Za hc12;clear hs12 hc12;replace HE:=Za (HE.out.trans (Zb zx hq12:Ext _ w12));clear hq12;obtain ⟨x0,x1,xz⟩:=(HBC.out.ext HE.out).facts;obtain ⟨y0,y1,y2,y3,y4,y5,y6,yz⟩:=(HBP.out.ext HE.out).facts))))
   all_goals (go_ret;exact ⟨by first | rfl | simp,HW0.out.trans (HE.out.trans zx)⟩)
end Go.Proofs.YtkneghkbgingdaaGreatDoor
/- PatternBack,one way. -/
namespace Go.Proofs.YtkneghkbgingdaaGreatDoor
set_option maxRecDepth 100000
open Go.ChangeShapes Go.WideShapes Go.ChangeAt Go.RowKit Go.Joins
theorem zoQ (sc:Int) (A:Option Addr) (n c:Nat) (rows:List Ro) (nm:List UInt8) (g1 g2 g3 g4:Int) (As:Option Addr) (ns cs:Nat) (st:List Stf) (Ac:Option Addr) (nc cc:Nat) (se:List Sec) (start:Int) (s t:List UInt8) (w:World) (E1:Int) (hA:(E1==0)=false) (E3 S3:Int) (V1 V2:List UInt8) (L3:List Ro) (h:BkH sc A n c rows nm g1 g2 g3 g4 As ns cs st Ac nc cc se start s t w E1 0 E3 S3 V1 V2 L3) :
  Calls Tryz.prog 6 #[.agg #[.int .i64 sc,.slice A n c],.agg #[.string ⟨nm.toArray⟩,.int .i64 g1,.int .i64 g2,.int .i64 g3,.int .i64 g4,.slice As ns cs,.slice Ac nc cc],.int .i64 start,.string ⟨s.toArray⟩,.string ⟨t.toArray⟩] w fun e w'=>e = .returned (.bool true)∧Ext w w':=by
 have HR:=Za h.hr
 have HSV:=Za h.hs
 have HCV:=Za h.hc
 have HG:=Za h.hg
 have HBC:=Za ((BoxC.start w sc A n c).ext ((Zd _).alloc (.cells #[.string ⟨nm.toArray⟩,.int .i64 g1,.int .i64 g2,.int .i64 g3,.int .i64 g4,.slice As ns cs,.slice Ac nc cc] 42)))
 have HBP:=Za (BoxP.start (w.alloc (.cells #[.int .i64 sc,.slice A n c] 24)) nm g1 g2 g3 g4 As ns cs Ac nc cc)
 rw [ZI] at HBP
 have HW0:=Za (show Ext w ((w.alloc (.cells #[.int .i64 sc,.slice A n c] 24)).alloc (.cells #[.string ⟨nm.toArray⟩,.int .i64 g1,.int .i64 g2,.int .i64 g3,.int .i64 g4,.slice As ns cs,.slice Ac nc cc] 42)) from ((Zd w).alloc _).alloc _)
 have HE:=Za (Zd ((w.alloc (.cells #[.int .i64 sc,.slice A n c] 24)).alloc (.cells #[.string ⟨nm.toArray⟩,.int .i64 g1,.int .i64 g2,.int .i64 g3,.int .i64 g4,.slice As ns cs,.slice Ac nc cc] 42)))
 have HAL:=Za (fun (w':World) (hx:Ext ((w.alloc (.cells #[.int .i64 sc,.slice A n c] 24)).alloc (.cells #[.string ⟨nm.toArray⟩,.int .i64 g1,.int .i64 g2,.int .i64 g3,.int .i64 g4,.slice As ns cs,.slice Ac nc cc] 42)) w')=>zaS w' (HG.out.ext (HW0.out.trans hx)))
 have HGC:=Za (fun (w':World) (hx:Ext ((w.alloc (.cells #[.int .i64 sc,.slice A n c] 24)).alloc (.cells #[.string ⟨nm.toArray⟩,.int .i64 g1,.int .i64 g2,.int .i64 g3,.int .i64 g4,.slice As ns cs,.slice Ac nc cc] 42)) w')=>zaR sc A n c rows w' (HR.out.ext (HW0.out.trans hx)))
 have HGR:=Za (fun (w':World) (hx:Ext ((w.alloc (.cells #[.int .i64 sc,.slice A n c] 24)).alloc (.cells #[.string ⟨nm.toArray⟩,.int .i64 g1,.int .i64 g2,.int .i64 g3,.int .i64 g4,.slice As ns cs,.slice Ac nc cc] 42)) w')=>za3 nm g1 g2 g3 g4 As ns cs st Ac nc cc se w' (HSV.out.ext (HW0.out.trans hx)) h.hsm (HCV.out.ext (HW0.out.trans hx)))
 have HRW:=Za h.hRW
 have HTX:=Za h.hTX
 have HPB:=Za (h.hPB rfl)
 have HRS:=Za h.hRS
 have h3:=h.h3
 have h4:=h.h4
 have hC:=h.hC
 have hPT:=h.hPT
 clear h
 rcases hC with ⟨rfl,rfl,hRX⟩ | rfl
 ·have HRX:=Za hRX
  clear hRX
  rcases hPT with hPT | ⟨q,hPT,hQT⟩
  ·have HPT:=Za hPT
   clear hPT
   go_enter Tryz.func6,Tryz.ntmps6
   go_wp2_with (first
    | (go_at_call 29;((with_reducible refine (HAL.out _ (HE.out.trans zx)).mono ?_);rintro e w1 ⟨rfl,hq1⟩;replace HE:=Za (HE.out.trans (Zb zx hq1:Ext _ w1));clear hq1;obtain ⟨x0,x1,xz⟩:=(HBC.out.ext HE.out).facts;obtain ⟨y0,y1,y2,y3,y4,y5,y6,yz⟩:=(HBP.out.ext HE.out).facts))
    | (go_at_call 9;((with_reducible refine (HGC.out _ (HE.out.trans zx)).mono ?_);rintro e w2 ⟨⟨b,rfl⟩,hq2⟩;replace HE:=Za (HE.out.trans (Zb zx hq2:Ext _ w2));clear hq2;obtain ⟨x0,x1,xz⟩:=(HBC.out.ext HE.out).facts;obtain ⟨y0,y1,y2,y3,y4,y5,y6,yz⟩:=(HBP.out.ext HE.out).facts;cases b))
    | (go_at_call 15;((with_reducible refine (HGR.out _ (HE.out.trans zx)).mono ?_);rintro e w3 ⟨⟨b,rfl,hb⟩,hq3⟩;have HSM:=Za hb;clear hb;replace HE:=Za (HE.out.trans (Zb zx hq3:Ext _ w3));clear hq3;obtain ⟨x0,x1,xz⟩:=(HBC.out.ext HE.out).facts;obtain ⟨y0,y1,y2,y3,y4,y5,y6,yz⟩:=(HBP.out.ext HE.out).facts;cases b))
    | (go_at_call 10;(first | ((with_reducible refine (HRX.out _ _ _ _ (HE.out.trans zx) (HR9.out.ext zx)).mono ?_);rintro e w10 ⟨rfl,hq10⟩;obtain ⟨k0,k1,kz⟩:=(HX9.out.ext hq10).facts;replace HE:=Za (HE.out.trans (Zb zx hq10:Ext _ w10));clear hq10;obtain ⟨x0,x1,xz⟩:=(HBC.out.ext HE.out).facts;obtain ⟨y0,y1,y2,y3,y4,y5,y6,yz⟩:=(HBP.out.ext HE.out).facts) | ((with_reducible refine (HRW.out _ (HE.out.trans zx)).mono ?_);rintro e w4 ⟨rfl,hq4⟩;replace HE:=Za (HE.out.trans (Zb zx hq4:Ext _ w4));clear hq4;obtain ⟨x0,x1,xz⟩:=(HBC.out.ext HE.out).facts;obtain ⟨y0,y1,y2,y3,y4,y5,y6,yz⟩:=(HBP.out.ext HE.out).facts)))
    | (go_at_call 12;(first | ((with_reducible refine (HRS.out _ (HE.out.trans zx)).mono ?_);rintro e w9 ⟨A9,n9,c9,rfl,hq9,hr9⟩;have HR9:=Za hr9;have HX9:=Za (BoxC.start w9 S3 A9 n9 c9);clear hr9;replace HE:=Za (HE.out.trans (Zb zx hq9:Ext _ w9));clear hq9;obtain ⟨x0,x1,xz⟩:=(HBC.out.ext HE.out).facts;obtain ⟨y0,y1,y2,y3,y4,y5,y6,yz⟩:=(HBP.out.ext HE.out).facts)))
    | (go_at_call 16;(first | ((with_reducible refine (HTX.out (HSM.out (by simp)) _ (HE.out.trans zx)).mono ?_);rintro e w7 ⟨rfl,hq7⟩;replace HE:=Za (HE.out.trans (Zb zx hq7:Ext _ w7));clear hq7;obtain ⟨x0,x1,xz⟩:=(HBC.out.ext HE.out).facts;obtain ⟨y0,y1,y2,y3,y4,y5,y6,yz⟩:=(HBP.out.ext HE.out).facts)))
    | (go_at_call 18;(first | ((with_reducible refine (HPB.out _ (HE.out.trans zx)).mono ?_);rintro e w8 ⟨As8,Ac8,cs8,cc8,rfl,hq8,hs8,hc8⟩;have HS8:=Za hs8;have HC8:=Za hc8;clear hs8 hc8;replace HE:=Za (HE.out.trans (Zb zx hq8:Ext _ w8));clear hq8;obtain ⟨x0,x1,xz⟩:=(HBC.out.ext HE.out).facts;obtain ⟨y0,y1,y2,y3,y4,y5,y6,yz⟩:=(HBP.out.ext HE.out).facts) | ((with_reducible refine (HPT.out _ (HE.out.trans zx)).mono ?_);rintro e w12 ⟨rfl,hq12⟩;replace HE:=Za (HE.out.trans (Zb zx hq12:Ext _ w12));clear hq12;obtain ⟨x0,x1,xz⟩:=(HBC.out.ext HE.out).facts;obtain ⟨y0,y1,y2,y3,y4,y5,y6,yz⟩:=(HBP.out.ext HE.out).facts)))
    | (go_at_call 20;((with_reducible refine (zaZ nm g1 g2 g3 g4 As8 As ns cs8 cs st Ac8 Ac nc cc8 cc se _ (HS8.out.ext zx) (HC8.out.ext zx) (HSV.out.ext (HW0.out.trans (HE.out.trans zx))) (HCV.out.ext (HW0.out.trans (HE.out.trans zx))) (zbc (HSM.out (by simp)))).mono ?_);rintro e w11 ⟨rfl,hq11⟩;replace HE:=Za (HE.out.trans (Zb zx hq11:Ext _ w11));clear hq11;obtain ⟨x0,x1,xz⟩:=(HBC.out.ext HE.out).facts;obtain ⟨y0,y1,y2,y3,y4,y5,y6,yz⟩:=(HBP.out.ext HE.out).facts)))
   all_goals (go_ret;exact ⟨by first | rfl | simp,HW0.out.trans (HE.out.trans zx)⟩)
  ·have HPT:=Za hPT
   have HQT:=Za hQT
   clear hPT hQT
   go_enter Tryz.func6,Tryz.ntmps6
   go_wp2_with (first
    | (go_at_call 29;((with_reducible refine (HAL.out _ (HE.out.trans zx)).mono ?_);rintro e w1 ⟨rfl,hq1⟩;replace HE:=Za (HE.out.trans (Zb zx hq1:Ext _ w1));clear hq1;obtain ⟨x0,x1,xz⟩:=(HBC.out.ext HE.out).facts;obtain ⟨y0,y1,y2,y3,y4,y5,y6,yz⟩:=(HBP.out.ext HE.out).facts))
    | (go_at_call 9;((with_reducible refine (HGC.out _ (HE.out.trans zx)).mono ?_);rintro e w2 ⟨⟨b,rfl⟩,hq2⟩;replace HE:=Za (HE.out.trans (Zb zx hq2:Ext _ w2));clear hq2;obtain ⟨x0,x1,xz⟩:=(HBC.out.ext HE.out).facts;obtain ⟨y0,y1,y2,y3,y4,y5,y6,yz⟩:=(HBP.out.ext HE.out).facts;cases b))
    | (go_at_call 15;((with_reducible refine (HGR.out _ (HE.out.trans zx)).mono ?_);rintro e w3 ⟨⟨b,rfl,hb⟩,hq3⟩;have HSM:=Za hb;clear hb;replace HE:=Za (HE.out.trans (Zb zx hq3:Ext _ w3));clear hq3;obtain ⟨x0,x1,xz⟩:=(HBC.out.ext HE.out).facts;obtain ⟨y0,y1,y2,y3,y4,y5,y6,yz⟩:=(HBP.out.ext HE.out).facts;cases b))
    | (go_at_call 10;(first | ((with_reducible refine (HRX.out _ _ _ _ (HE.out.trans zx) (HR9.out.ext zx)).mono ?_);rintro e w10 ⟨rfl,hq10⟩;obtain ⟨k0,k1,kz⟩:=(HX9.out.ext hq10).facts;replace HE:=Za (HE.out.trans (Zb zx hq10:Ext _ w10));clear hq10;obtain ⟨x0,x1,xz⟩:=(HBC.out.ext HE.out).facts;obtain ⟨y0,y1,y2,y3,y4,y5,y6,yz⟩:=(HBP.out.ext HE.out).facts) | ((with_reducible refine (HRW.out _ (HE.out.trans zx)).mono ?_);rintro e w4 ⟨rfl,hq4⟩;replace HE:=Za (HE.out.trans (Zb zx hq4:Ext _ w4));clear hq4;obtain ⟨x0,x1,xz⟩:=(HBC.out.ext HE.out).facts;obtain ⟨y0,y1,y2,y3,y4,y5,y6,yz⟩:=(HBP.out.ext HE.out).facts)))
    | (go_at_call 12;(first | ((with_reducible refine (HRS.out _ (HE.out.trans zx)).mono ?_);rintro e w9 ⟨A9,n9,c9,rfl,hq9,hr9⟩;have HR9:=Za hr9;have HX9:=Za (BoxC.start w9 S3 A9 n9 c9);clear hr9;replace HE:=Za (HE.out.trans (Zb zx hq9:Ext _ w9));clear hq9;obtain ⟨x0,x1,xz⟩:=(HBC.out.ext HE.out).facts;obtain ⟨y0,y1,y2,y3,y4,y5,y6,yz⟩:=(HBP.out.ext HE.out).facts)))
    | (go_at_call 16;(first | ((with_reducible refine (HQT.out _ _ _ _ _ (HE.out.trans zx) (HS12.out.ext zx) (HC12.out.ext zx)).mono ?_);rintro e w13 ⟨rfl,hq13⟩;replace HE:=Za (HE.out.trans (Zb zx hq13:Ext _ w13));clear hq13;obtain ⟨x0,x1,xz⟩:=(HBC.out.ext HE.out).facts;obtain ⟨y0,y1,y2,y3,y4,y5,y6,yz⟩:=(HBP.out.ext HE.out).facts) | ((with_reducible refine (HTX.out (HSM.out (by simp)) _ (HE.out.trans zx)).mono ?_);rintro e w7 ⟨rfl,hq7⟩;replace HE:=Za (HE.out.trans (Zb zx hq7:Ext _ w7));clear hq7;obtain ⟨x0,x1,xz⟩:=(HBC.out.ext HE.out).facts;obtain ⟨y0,y1,y2,y3,y4,y5,y6,yz⟩:=(HBP.out.ext HE.out).facts)))
    | (go_at_call 18;(first | ((with_reducible refine (HPB.out _ (HE.out.trans zx)).mono ?_);rintro e w8 ⟨As8,Ac8,cs8,cc8,rfl,hq8,hs8,hc8⟩;have HS8:=Za hs8;have HC8:=Za hc8;clear hs8 hc8;replace HE:=Za (HE.out.trans (Zb zx hq8:Ext _ w8));clear hq8;obtain ⟨x0,x1,xz⟩:=(HBC.out.ext HE.out).facts;obtain ⟨y0,y1,y2,y3,y4,y5,y6,yz⟩:=(HBP.out.ext HE.out).facts) | ((with_reducible refine (HPT.out _ (HE.out.trans zx)).mono ?_);rintro e w12 ⟨As12,Ac12,cs12,cc12,rfl,hq12,hs12,hc12⟩;have HS12:=Za hs12;have HC12:=Za hc12;clear hs12 hc12;replace HE:=Za (HE.out.trans (Zb zx hq12:Ext _ w12));clear hq12;obtain ⟨x0,x1,xz⟩:=(HBC.out.ext HE.out).facts;obtain ⟨y0,y1,y2,y3,y4,y5,y6,yz⟩:=(HBP.out.ext HE.out).facts)))
    | (go_at_call 20;((with_reducible refine (zaZ nm g1 g2 g3 g4 As8 As ns cs8 cs st Ac8 Ac nc cc8 cc se _ (HS8.out.ext zx) (HC8.out.ext zx) (HSV.out.ext (HW0.out.trans (HE.out.trans zx))) (HCV.out.ext (HW0.out.trans (HE.out.trans zx))) (zbc (HSM.out (by simp)))).mono ?_);rintro e w11 ⟨rfl,hq11⟩;replace HE:=Za (HE.out.trans (Zb zx hq11:Ext _ w11));clear hq11;obtain ⟨x0,x1,xz⟩:=(HBC.out.ext HE.out).facts;obtain ⟨y0,y1,y2,y3,y4,y5,y6,yz⟩:=(HBP.out.ext HE.out).facts)))
   all_goals (go_ret;exact ⟨by first | rfl | simp,HW0.out.trans (HE.out.trans zx)⟩)
 ·skip
  rcases hPT with hPT | ⟨q,hPT,hQT⟩
  ·have HPT:=Za hPT
   clear hPT
   go_enter Tryz.func6,Tryz.ntmps6
   go_wp2_with (first
    | (go_at_call 29;((with_reducible refine (HAL.out _ (HE.out.trans zx)).mono ?_);rintro e w1 ⟨rfl,hq1⟩;replace HE:=Za (HE.out.trans (Zb zx hq1:Ext _ w1));clear hq1;obtain ⟨x0,x1,xz⟩:=(HBC.out.ext HE.out).facts;obtain ⟨y0,y1,y2,y3,y4,y5,y6,yz⟩:=(HBP.out.ext HE.out).facts))
    | (go_at_call 9;((with_reducible refine (HGC.out _ (HE.out.trans zx)).mono ?_);rintro e w2 ⟨⟨b,rfl⟩,hq2⟩;replace HE:=Za (HE.out.trans (Zb zx hq2:Ext _ w2));clear hq2;obtain ⟨x0,x1,xz⟩:=(HBC.out.ext HE.out).facts;obtain ⟨y0,y1,y2,y3,y4,y5,y6,yz⟩:=(HBP.out.ext HE.out).facts;cases b))
    | (go_at_call 15;((with_reducible refine (HGR.out _ (HE.out.trans zx)).mono ?_);rintro e w3 ⟨⟨b,rfl,hb⟩,hq3⟩;have HSM:=Za hb;clear hb;replace HE:=Za (HE.out.trans (Zb zx hq3:Ext _ w3));clear hq3;obtain ⟨x0,x1,xz⟩:=(HBC.out.ext HE.out).facts;obtain ⟨y0,y1,y2,y3,y4,y5,y6,yz⟩:=(HBP.out.ext HE.out).facts;cases b))
    | (go_at_call 10;(first | ((with_reducible refine (HRW.out _ (HE.out.trans zx)).mono ?_);rintro e w4 ⟨rfl,hq4⟩;replace HE:=Za (HE.out.trans (Zb zx hq4:Ext _ w4));clear hq4;obtain ⟨x0,x1,xz⟩:=(HBC.out.ext HE.out).facts;obtain ⟨y0,y1,y2,y3,y4,y5,y6,yz⟩:=(HBP.out.ext HE.out).facts)))
    | (go_at_call 12;(first | ((with_reducible refine (HRS.out _ (HE.out.trans zx)).mono ?_);rintro e w9 ⟨A9,n9,c9,rfl,hq9,hr9⟩;have HR9:=Za hr9;have HX9:=Za (BoxC.start w9 S3 A9 n9 c9);clear hr9;replace HE:=Za (HE.out.trans (Zb zx hq9:Ext _ w9));clear hq9;obtain ⟨x0,x1,xz⟩:=(HBC.out.ext HE.out).facts;obtain ⟨y0,y1,y2,y3,y4,y5,y6,yz⟩:=(HBP.out.ext HE.out).facts)))
    | (go_at_call 16;(first | ((with_reducible refine (HTX.out (HSM.out (by simp)) _ (HE.out.trans zx)).mono ?_);rintro e w7 ⟨rfl,hq7⟩;replace HE:=Za (HE.out.trans (Zb zx hq7:Ext _ w7));clear hq7;obtain ⟨x0,x1,xz⟩:=(HBC.out.ext HE.out).facts;obtain ⟨y0,y1,y2,y3,y4,y5,y6,yz⟩:=(HBP.out.ext HE.out).facts)))
    | (go_at_call 18;(first | ((with_reducible refine (HPB.out _ (HE.out.trans zx)).mono ?_);rintro e w8 ⟨As8,Ac8,cs8,cc8,rfl,hq8,hs8,hc8⟩;have HS8:=Za hs8;have HC8:=Za hc8;clear hs8 hc8;replace HE:=Za (HE.out.trans (Zb zx hq8:Ext _ w8));clear hq8;obtain ⟨x0,x1,xz⟩:=(HBC.out.ext HE.out).facts;obtain ⟨y0,y1,y2,y3,y4,y5,y6,yz⟩:=(HBP.out.ext HE.out).facts) | ((with_reducible refine (HPT.out _ (HE.out.trans zx)).mono ?_);rintro e w12 ⟨rfl,hq12⟩;replace HE:=Za (HE.out.trans (Zb zx hq12:Ext _ w12));clear hq12;obtain ⟨x0,x1,xz⟩:=(HBC.out.ext HE.out).facts;obtain ⟨y0,y1,y2,y3,y4,y5,y6,yz⟩:=(HBP.out.ext HE.out).facts)))
    | (go_at_call 20;((with_reducible refine (zaZ nm g1 g2 g3 g4 As8 As ns cs8 cs st Ac8 Ac nc cc8 cc se _ (HS8.out.ext zx) (HC8.out.ext zx) (HSV.out.ext (HW0.out.trans (HE.out.trans zx))) (HCV.out.ext (HW0.out.trans (HE.out.trans zx))) (zbc (HSM.out (by simp)))).mono ?_);rintro e w11 ⟨rfl,hq11⟩;replace HE:=Za (HE.out.trans (Zb zx hq11:Ext _ w11));clear hq11;obtain ⟨x0,x1,xz⟩:=(HBC.out.ext HE.out).facts;obtain ⟨y0,y1,y2,y3,y4,y5,y6,yz⟩:=(HBP.out.ext HE.out).facts)))
   all_goals (go_ret;exact ⟨by first | rfl | simp,HW0.out.trans (HE.out.trans zx)⟩)
  ·have HPT:=Za hPT
   have HQT:=Za hQT
   clear hPT hQT
   go_enter Tryz.func6,Tryz.ntmps6
   go_wp2_with (first
    | (go_at_call 29;((with_reducible refine (HAL.out _ (HE.out.trans zx)).mono ?_);rintro e w1 ⟨rfl,hq1⟩;replace HE:=Za (HE.out.trans (Zb zx hq1:Ext _ w1));clear hq1;obtain ⟨x0,x1,xz⟩:=(HBC.out.ext HE.out).facts;obtain ⟨y0,y1,y2,y3,y4,y5,y6,yz⟩:=(HBP.out.ext HE.out).facts))
    | (go_at_call 9;((with_reducible refine (HGC.out _ (HE.out.trans zx)).mono ?_);rintro e w2 ⟨⟨b,rfl⟩,hq2⟩;replace HE:=Za (HE.out.trans (Zb zx hq2:Ext _ w2));clear hq2;obtain ⟨x0,x1,xz⟩:=(HBC.out.ext HE.out).facts;obtain ⟨y0,y1,y2,y3,y4,y5,y6,yz⟩:=(HBP.out.ext HE.out).facts;cases b))
    | (go_at_call 15;((with_reducible refine (HGR.out _ (HE.out.trans zx)).mono ?_);rintro e w3 ⟨⟨b,rfl,hb⟩,hq3⟩;have HSM:=Za hb;clear hb;replace HE:=Za (HE.out.trans (Zb zx hq3:Ext _ w3));clear hq3;obtain ⟨x0,x1,xz⟩:=(HBC.out.ext HE.out).facts;obtain ⟨y0,y1,y2,y3,y4,y5,y6,yz⟩:=(HBP.out.ext HE.out).facts;cases b))
    | (go_at_call 10;(first | ((with_reducible refine (HRW.out _ (HE.out.trans zx)).mono ?_);rintro e w4 ⟨rfl,hq4⟩;replace HE:=Za (HE.out.trans (Zb zx hq4:Ext _ w4));clear hq4;obtain ⟨x0,x1,xz⟩:=(HBC.out.ext HE.out).facts;obtain ⟨y0,y1,y2,y3,y4,y5,y6,yz⟩:=(HBP.out.ext HE.out).facts)))
    | (go_at_call 12;(first | ((with_reducible refine (HRS.out _ (HE.out.trans zx)).mono ?_);rintro e w9 ⟨A9,n9,c9,rfl,hq9,hr9⟩;have HR9:=Za hr9;have HX9:=Za (BoxC.start w9 S3 A9 n9 c9);clear hr9;replace HE:=Za (HE.out.trans (Zb zx hq9:Ext _ w9));clear hq9;obtain ⟨x0,x1,xz⟩:=(HBC.out.ext HE.out).facts;obtain ⟨y0,y1,y2,y3,y4,y5,y6,yz⟩:=(HBP.out.ext HE.out).facts)))
    | (go_at_call 16;(first | ((with_reducible refine (HQT.out _ _ _ _ _ (HE.out.trans zx) (HS12.out.ext zx) (HC12.out.ext zx)).mono ?_);rintro e w13 ⟨rfl,hq13⟩;replace HE:=Za (HE.out.trans (Zb zx hq13:Ext _ w13));clear hq13;obtain ⟨x0,x1,xz⟩:=(HBC.out.ext HE.out).facts;obtain ⟨y0,y1,y2,y3,y4,y5,y6,yz⟩:=(HBP.out.ext HE.out).facts) | ((with_reducible refine (HTX.out (HSM.out (by simp)) _ (HE.out.trans zx)).mono ?_);rintro e w7 ⟨rfl,hq7⟩;replace HE:=Za (HE.out.trans (Zb zx hq7:Ext _ w7));clear hq7;obtain ⟨x0,x1,xz⟩:=(HBC.out.ext HE.out).facts;obtain ⟨y0,y1,y2,y3,y4,y5,y6,yz⟩:=(HBP.out.ext HE.out).facts)))
    | (go_at_call 18;(first | ((with_reducible refine (HPB.out _ (HE.out.trans zx)).mono ?_);rintro e w8 ⟨As8,Ac8,cs8,cc8,rfl,hq8,hs8,hc8⟩;have HS8:=Za hs8;have HC8:=Za hc8;clear hs8 hc8;replace HE:=Za (HE.out.trans (Zb zx hq8:Ext _ w8));clear hq8;obtain ⟨x0,x1,xz⟩:=(HBC.out.ext HE.out).facts;obtain ⟨y0,y1,y2,y3,y4,y5,y6,yz⟩:=(HBP.out.ext HE.out).facts) | ((with_reducible refine (HPT.out _ (HE.out.trans zx)).mono ?_);rintro e w12 ⟨As12,Ac12,cs12,cc12,rfl,hq12,hs12,hc12⟩;have HS12:=Za hs12;have HC12:=Za hc12;clear hs12 hc12;replace HE:=Za (HE.out.trans (Zb zx hq12:Ext _ w12));clear hq12;obtain ⟨x0,x1,xz⟩:=(HBC.out.ext HE.out).facts;obtain ⟨y0,y1,y2,y3,y4,y5,y6,yz⟩:=(HBP.out.ext HE.out).facts)))
    | (go_at_call 20;((with_reducible refine (zaZ nm g1 g2 g3 g4 As8 As ns cs8 cs st Ac8 Ac nc cc8 cc se _ (HS8.out.ext zx) (HC8.out.ext zx) (HSV.out.ext (HW0.out.trans (HE.out.trans zx))) (HCV.out.ext (HW0.out.trans (HE.out.trans zx))) (zbc (HSM.out (by simp)))).mono ?_);rintro e w11 ⟨rfl,hq11⟩;replace HE:=Za (HE.out.trans (Zb zx hq11:Ext _ w11));clear hq11;obtain ⟨x0,x1,xz⟩:=(HBC.out.ext HE.out).facts;obtain ⟨y0,y1,y2,y3,y4,y5,y6,yz⟩:=(HBP.out.ext HE.out).facts)))
   all_goals (go_ret;exact ⟨by first | rfl | simp,HW0.out.trans (HE.out.trans zx)⟩)
end Go.Proofs.YtkneghkbgingdaaGreatDoor
