/- PatternBack, one way. -/
import Derived.Test.YtkneghkbgingdaaGreatDoorK48
set_option maxHeartbeats 16000000
namespace Go.Proofs.YtkneghkbgingdaaGreatDoor
set_option maxRecDepth 100000
open Go.ChangeShapes Go.WideShapes Go.ChangeAt Go.RowKit Go.Joins
theorem zoR (sc:Int) (A:Option Addr) (n c:Nat) (rows:List Ro) (nm:List UInt8) (g1 g2 g3 g4:Int) (As:Option Addr) (ns cs:Nat) (st:List Stf) (Ac:Option Addr) (nc cc:Nat) (se:List Sec) (start:Int) (s t:List UInt8) (w:World) (E1:Int) (hA:(E1==0)=false) (E2:Int) (hB:(E2==0)=false) (E3 S3:Int) (V1 V2:List UInt8) (L3:List Ro) (h:BkH sc A n c rows nm g1 g2 g3 g4 As ns cs st Ac nc cc se start s t w E1 E2 E3 S3 V1 V2 L3) :
  Calls Tryz.prog 6 #[.agg #[.int .i64 sc,.slice A n c],.agg #[.string ⟨nm.toArray⟩,.int .i64 g1,.int .i64 g2,.int .i64 g3,.int .i64 g4,.slice As ns cs,.slice Ac nc cc],.int .i64 start,.string ⟨s.toArray⟩,.string ⟨t.toArray⟩] w fun e w'=>e = .returned (.bool true)∧Ext w w':=by
 have HR:=Za h.hr
 have HSV:=Za h.hs
 have HCV:=Za h.hc
 have HG:=Za h.hg
 have HBC:=Za ((BoxC.start w sc A n c).ext ((Zd _).alloc (.cells #[.string ⟨nm.toArray⟩,.int .i64 g1,.int .i64 g2,.int .i64 g3,.int .i64 g4,.slice As ns cs,.slice Ac nc cc] 42)))
 have HBP:=Za (BoxP.start (w.alloc (.cells #[.int .i64 sc,.slice A n c] 24)) nm g1 g2 g3 g4 As ns cs Ac nc cc)
 rw [ZI] at HBP
 have HW0:=Za (show Ext w ((w.alloc (.cells #[.int .i64 sc,.slice A n c] 24)).alloc (.cells #[.string ⟨nm.toArray⟩,.int .i64 g1,.int .i64 g2,.int .i64 g3,.int .i64 g4,.slice As ns cs,.slice Ac nc cc] 42)) from ((Zd w).alloc _).alloc _)
 have HE:=Za (Zd ((w.alloc (.cells #[.int .i64 sc,.slice A n c] 24)).alloc (.cells #[.string ⟨nm.toArray⟩,.int .i64 g1,.int .i64 g2,.int .i64 g3,.int .i64 g4,.slice As ns cs,.slice Ac nc cc] 42)))
 have HAL:=Za (fun (w':World) (hx:Ext ((w.alloc (.cells #[.int .i64 sc,.slice A n c] 24)).alloc (.cells #[.string ⟨nm.toArray⟩,.int .i64 g1,.int .i64 g2,.int .i64 g3,.int .i64 g4,.slice As ns cs,.slice Ac nc cc] 42)) w')=>zaS w' (HG.out.ext (HW0.out.trans hx)))
 have HGC:=Za (fun (w':World) (hx:Ext ((w.alloc (.cells #[.int .i64 sc,.slice A n c] 24)).alloc (.cells #[.string ⟨nm.toArray⟩,.int .i64 g1,.int .i64 g2,.int .i64 g3,.int .i64 g4,.slice As ns cs,.slice Ac nc cc] 42)) w')=>zaR sc A n c rows w' (HR.out.ext (HW0.out.trans hx)))
 have HGR:=Za (fun (w':World) (hx:Ext ((w.alloc (.cells #[.int .i64 sc,.slice A n c] 24)).alloc (.cells #[.string ⟨nm.toArray⟩,.int .i64 g1,.int .i64 g2,.int .i64 g3,.int .i64 g4,.slice As ns cs,.slice Ac nc cc] 42)) w')=>za3 nm g1 g2 g3 g4 As ns cs st Ac nc cc se w' (HSV.out.ext (HW0.out.trans hx)) h.hsm (HCV.out.ext (HW0.out.trans hx)))
 have HRW:=Za h.hRW
 have HTX:=Za h.hTX
 have HRS:=Za h.hRS
 have h3:=h.h3
 have h4:=h.h4
 have hC:=h.hC
 have hPT:=h.hPT
 clear h
 rcases hC with ⟨rfl,rfl,hRX⟩ | rfl
 ·have HRX:=Za hRX
  clear hRX
  rcases hPT with hPT | ⟨q,hPT,hQT⟩
  ·have HPT:=Za hPT
   clear hPT
   go_enter Tryz.func6,Tryz.ntmps6
   go_wp2_with (first
    | (go_at_call 29;((with_reducible refine (HAL.out _ (HE.out.trans zx)).mono ?_);rintro e w1 ⟨rfl,hq1⟩;replace HE:=Za (HE.out.trans (Zb zx hq1:Ext _ w1));clear hq1;obtain ⟨x0,x1,xz⟩:=(HBC.out.ext HE.out).facts;obtain ⟨y0,y1,y2,y3,y4,y5,y6,yz⟩:=(HBP.out.ext HE.out).facts))
    | (go_at_call 9;((with_reducible refine (HGC.out _ (HE.out.trans zx)).mono ?_);rintro e w2 ⟨⟨b,rfl⟩,hq2⟩;replace HE:=Za (HE.out.trans (Zb zx hq2:Ext _ w2));clear hq2;obtain ⟨x0,x1,xz⟩:=(HBC.out.ext HE.out).facts;obtain ⟨y0,y1,y2,y3,y4,y5,y6,yz⟩:=(HBP.out.ext HE.out).facts;cases b))
    | (go_at_call 15;((with_reducible refine (HGR.out _ (HE.out.trans zx)).mono ?_);rintro e w3 ⟨⟨b,rfl,hb⟩,hq3⟩;have HSM:=Za hb;clear hb;replace HE:=Za (HE.out.trans (Zb zx hq3:Ext _ w3));clear hq3;obtain ⟨x0,x1,xz⟩:=(HBC.out.ext HE.out).facts;obtain ⟨y0,y1,y2,y3,y4,y5,y6,yz⟩:=(HBP.out.ext HE.out).facts;cases b))
    | (go_at_call 10;(first | ((with_reducible refine (HRX.out _ _ _ _ (HE.out.trans zx) (HR9.out.ext zx)).mono ?_);rintro e w10 ⟨rfl,hq10⟩;obtain ⟨k0,k1,kz⟩:=(HX9.out.ext hq10).facts;replace HE:=Za (HE.out.trans (Zb zx hq10:Ext _ w10));clear hq10;obtain ⟨x0,x1,xz⟩:=(HBC.out.ext HE.out).facts;obtain ⟨y0,y1,y2,y3,y4,y5,y6,yz⟩:=(HBP.out.ext HE.out).facts) | ((with_reducible refine (HRW.out _ (HE.out.trans zx)).mono ?_);rintro e w4 ⟨rfl,hq4⟩;replace HE:=Za (HE.out.trans (Zb zx hq4:Ext _ w4));clear hq4;obtain ⟨x0,x1,xz⟩:=(HBC.out.ext HE.out).facts;obtain ⟨y0,y1,y2,y3,y4,y5,y6,yz⟩:=(HBP.out.ext HE.out).facts)))
    | (go_at_call 12;(first | ((with_reducible refine (HRS.out _ (HE.out.trans zx)).mono ?_);rintro e w9 ⟨A9,n9,c9,rfl,hq9,hr9⟩;have HR9:=Za hr9;have HX9:=Za (BoxC.start w9 S3 A9 n9 c9);clear hr9;replace HE:=Za (HE.out.trans (Zb zx hq9:Ext _ w9));clear hq9;obtain ⟨x0,x1,xz⟩:=(HBC.out.ext HE.out).facts;obtain ⟨y0,y1,y2,y3,y4,y5,y6,yz⟩:=(HBP.out.ext HE.out).facts)))
    | (go_at_call 16;(first | ((with_reducible refine (HTX.out (HSM.out (by simp)) _ (HE.out.trans zx)).mono ?_);rintro e w7 ⟨rfl,hq7⟩;replace HE:=Za (HE.out.trans (Zb zx hq7:Ext _ w7));clear hq7;obtain ⟨x0,x1,xz⟩:=(HBC.out.ext HE.out).facts;obtain ⟨y0,y1,y2,y3,y4,y5,y6,yz⟩:=(HBP.out.ext HE.out).facts)))
    | (go_at_call 18;(first | ((with_reducible refine (HPT.out _ (HE.out.trans zx)).mono ?_);rintro e w12 ⟨rfl,hq12⟩;replace HE:=Za (HE.out.trans (Zb zx hq12:Ext _ w12));clear hq12;obtain ⟨x0,x1,xz⟩:=(HBC.out.ext HE.out).facts;obtain ⟨y0,y1,y2,y3,y4,y5,y6,yz⟩:=(HBP.out.ext HE.out).facts))))
   all_goals (go_ret;exact ⟨by first | rfl | simp,HW0.out.trans (HE.out.trans zx)⟩)
  ·have HPT:=Za hPT
   have HQT:=Za hQT
   clear hPT hQT
   go_enter Tryz.func6,Tryz.ntmps6
   go_wp2_with (first
    | (go_at_call 29;((with_reducible refine (HAL.out _ (HE.out.trans zx)).mono ?_);rintro e w1 ⟨rfl,hq1⟩;replace HE:=Za (HE.out.trans (Zb zx hq1:Ext _ w1));clear hq1;obtain ⟨x0,x1,xz⟩:=(HBC.out.ext HE.out).facts;obtain ⟨y0,y1,y2,y3,y4,y5,y6,yz⟩:=(HBP.out.ext HE.out).facts))
    | (go_at_call 9;((with_reducible refine (HGC.out _ (HE.out.trans zx)).mono ?_);rintro e w2 ⟨⟨b,rfl⟩,hq2⟩;replace HE:=Za (HE.out.trans (Zb zx hq2:Ext _ w2));clear hq2;obtain ⟨x0,x1,xz⟩:=(HBC.out.ext HE.out).facts;obtain ⟨y0,y1,y2,y3,y4,y5,y6,yz⟩:=(HBP.out.ext HE.out).facts;cases b))
    | (go_at_call 15;((with_reducible refine (HGR.out _ (HE.out.trans zx)).mono ?_);rintro e w3 ⟨⟨b,rfl,hb⟩,hq3⟩;have HSM:=Za hb;clear hb;replace HE:=Za (HE.out.trans (Zb zx hq3:Ext _ w3));clear hq3;obtain ⟨x0,x1,xz⟩:=(HBC.out.ext HE.out).facts;obtain ⟨y0,y1,y2,y3,y4,y5,y6,yz⟩:=(HBP.out.ext HE.out).facts;cases b))
    | (go_at_call 10;(first | ((with_reducible refine (HRX.out _ _ _ _ (HE.out.trans zx) (HR9.out.ext zx)).mono ?_);rintro e w10 ⟨rfl,hq10⟩;obtain ⟨k0,k1,kz⟩:=(HX9.out.ext hq10).facts;replace HE:=Za (HE.out.trans (Zb zx hq10:Ext _ w10));clear hq10;obtain ⟨x0,x1,xz⟩:=(HBC.out.ext HE.out).facts;obtain ⟨y0,y1,y2,y3,y4,y5,y6,yz⟩:=(HBP.out.ext HE.out).facts) | ((with_reducible refine (HRW.out _ (HE.out.trans zx)).mono ?_);rintro e w4 ⟨rfl,hq4⟩;replace HE:=Za (HE.out.trans (Zb zx hq4:Ext _ w4));clear hq4;obtain ⟨x0,x1,xz⟩:=(HBC.out.ext HE.out).facts;obtain ⟨y0,y1,y2,y3,y4,y5,y6,yz⟩:=(HBP.out.ext HE.out).facts)))
    | (go_at_call 12;(first | ((with_reducible refine (HRS.out _ (HE.out.trans zx)).mono ?_);rintro e w9 ⟨A9,n9,c9,rfl,hq9,hr9⟩;have HR9:=Za hr9;have HX9:=Za (BoxC.start w9 S3 A9 n9 c9);clear hr9;replace HE:=Za (HE.out.trans (Zb zx hq9:Ext _ w9));clear hq9;obtain ⟨x0,x1,xz⟩:=(HBC.out.ext HE.out).facts;obtain ⟨y0,y1,y2,y3,y4,y5,y6,yz⟩:=(HBP.out.ext HE.out).facts)))
    | (go_at_call 16;(first | ((with_reducible refine (HQT.out _ _ _ _ _ (HE.out.trans zx) (HS12.out.ext zx) (HC12.out.ext zx)).mono ?_);rintro e w13 ⟨rfl,hq13⟩;replace HE:=Za (HE.out.trans (Zb zx hq13:Ext _ w13));clear hq13;obtain ⟨x0,x1,xz⟩:=(HBC.out.ext HE.out).facts;obtain ⟨y0,y1,y2,y3,y4,y5,y6,yz⟩:=(HBP.out.ext HE.out).facts) | ((with_reducible refine (HTX.out (HSM.out (by simp)) _ (HE.out.trans zx)).mono ?_);rintro e w7 ⟨rfl,hq7⟩;replace HE:=Za (HE.out.trans (Zb zx hq7:Ext _ w7));clear hq7;obtain ⟨x0,x1,xz⟩:=(HBC.out.ext HE.out).facts;obtain ⟨y0,y1,y2,y3,y4,y5,y6,yz⟩:=(HBP.out.ext HE.out).facts)))
    | (go_at_call 18;(first | ((with_reducible refine (HPT.out _ (HE.out.trans zx)).mono ?_);rintro e w12 ⟨As12,Ac12,cs12,cc12,rfl,hq12,hs12,hc12⟩;have HS12:=Za hs12;have HC12:=Za hc12;clear hs12 hc12;replace HE:=Za (HE.out.trans (Zb zx hq12:Ext _ w12));clear hq12;obtain ⟨x0,x1,xz⟩:=(HBC.out.ext HE.out).facts;obtain ⟨y0,y1,y2,y3,y4,y5,y6,yz⟩:=(HBP.out.ext HE.out).facts))))
   all_goals (go_ret;exact ⟨by first | rfl | simp,HW0.out.trans (HE.out.trans zx)⟩)
 ·skip
  rcases hPT with hPT | ⟨q,hPT,hQT⟩
  ·have HPT:=Za hPT
   clear hPT
   go_enter Tryz.func6,Tryz.ntmps6
   go_wp2_with (first
    | (go_at_call 29;((with_reducible refine (HAL.out _ (HE.out.trans zx)).mono ?_);rintro e w1 ⟨rfl,hq1⟩;replace HE:=Za (HE.out.trans (Zb zx hq1:Ext _ w1));clear hq1;obtain ⟨x0,x1,xz⟩:=(HBC.out.ext HE.out).facts;obtain ⟨y0,y1,y2,y3,y4,y5,y6,yz⟩:=(HBP.out.ext HE.out).facts))
    | (go_at_call 9;((with_reducible refine (HGC.out _ (HE.out.trans zx)).mono ?_);rintro e w2 ⟨⟨b,rfl⟩,hq2⟩;replace HE:=Za (HE.out.trans (Zb zx hq2:Ext _ w2));clear hq2;obtain ⟨x0,x1,xz⟩:=(HBC.out.ext HE.out).facts;obtain ⟨y0,y1,y2,y3,y4,y5,y6,yz⟩:=(HBP.out.ext HE.out).facts;cases b))
    | (go_at_call 15;((with_reducible refine (HGR.out _ (HE.out.trans zx)).mono ?_);rintro e w3 ⟨⟨b,rfl,hb⟩,hq3⟩;have HSM:=Za hb;clear hb;replace HE:=Za (HE.out.trans (Zb zx hq3:Ext _ w3));clear hq3;obtain ⟨x0,x1,xz⟩:=(HBC.out.ext HE.out).facts;obtain ⟨y0,y1,y2,y3,y4,y5,y6,yz⟩:=(HBP.out.ext HE.out).facts;cases b))
    | (go_at_call 10;(first | ((with_reducible refine (HRW.out _ (HE.out.trans zx)).mono ?_);rintro e w4 ⟨rfl,hq4⟩;replace HE:=Za (HE.out.trans (Zb zx hq4:Ext _ w4));clear hq4;obtain ⟨x0,x1,xz⟩:=(HBC.out.ext HE.out).facts;obtain ⟨y0,y1,y2,y3,y4,y5,y6,yz⟩:=(HBP.out.ext HE.out).facts)))
    | (go_at_call 12;(first | ((with_reducible refine (HRS.out _ (HE.out.trans zx)).mono ?_);rintro e w9 ⟨A9,n9,c9,rfl,hq9,hr9⟩;have HR9:=Za hr9;have HX9:=Za (BoxC.start w9 S3 A9 n9 c9);clear hr9;replace HE:=Za (HE.out.trans (Zb zx hq9:Ext _ w9));clear hq9;obtain ⟨x0,x1,xz⟩:=(HBC.out.ext HE.out).facts;obtain ⟨y0,y1,y2,y3,y4,y5,y6,yz⟩:=(HBP.out.ext HE.out).facts)))
    | (go_at_call 16;(first | ((with_reducible refine (HTX.out (HSM.out (by simp)) _ (HE.out.trans zx)).mono ?_);rintro e w7 ⟨rfl,hq7⟩;replace HE:=Za (HE.out.trans (Zb zx hq7:Ext _ w7));clear hq7;obtain ⟨x0,x1,xz⟩:=(HBC.out.ext HE.out).facts;obtain ⟨y0,y1,y2,y3,y4,y5,y6,yz⟩:=(HBP.out.ext HE.out).facts)))
    | (go_at_call 18;(first | ((with_reducible refine (HPT.out _ (HE.out.trans zx)).mono ?_);rintro e w12 ⟨rfl,hq12⟩;replace HE:=Za (HE.out.trans (Zb zx hq12:Ext _ w12));clear hq12;obtain ⟨x0,x1,xz⟩:=(HBC.out.ext HE.out).facts;obtain ⟨y0,y1,y2,y3,y4,y5,y6,yz⟩:=(HBP.out.ext HE.out).facts))))
   all_goals (go_ret;exact ⟨by first | rfl | simp,HW0.out.trans (HE.out.trans zx)⟩)
  ·have HPT:=Za hPT
   have HQT:=Za hQT
   clear hPT hQT
   go_enter Tryz.func6,Tryz.ntmps6
   go_wp2_with (first
    | (go_at_call 29;((with_reducible refine (HAL.out _ (HE.out.trans zx)).mono ?_);rintro e w1 ⟨rfl,hq1⟩;replace HE:=Za (HE.out.trans (Zb zx hq1:Ext _ w1));clear hq1;obtain ⟨x0,x1,xz⟩:=(HBC.out.ext HE.out).facts;obtain ⟨y0,y1,y2,y3,y4,y5,y6,yz⟩:=(HBP.out.ext HE.out).facts))
    | (go_at_call 9;((with_reducible refine (HGC.out _ (HE.out.trans zx)).mono ?_);rintro e w2 ⟨⟨b,rfl⟩,hq2⟩;replace HE:=Za (HE.out.trans (Zb zx hq2:Ext _ w2));clear hq2;obtain ⟨x0,x1,xz⟩:=(HBC.out.ext HE.out).facts;obtain ⟨y0,y1,y2,y3,y4,y5,y6,yz⟩:=(HBP.out.ext HE.out).facts;cases b))
    | (go_at_call 15;((with_reducible refine (HGR.out _ (HE.out.trans zx)).mono ?_);rintro e w3 ⟨⟨b,rfl,hb⟩,hq3⟩;have HSM:=Za hb;clear hb;replace HE:=Za (HE.out.trans (Zb zx hq3:Ext _ w3));clear hq3;obtain ⟨x0,x1,xz⟩:=(HBC.out.ext HE.out).facts;obtain ⟨y0,y1,y2,y3,y4,y5,y6,yz⟩:=(HBP.out.ext HE.out).facts;cases b))
    | (go_at_call 10;(first | ((with_reducible refine (HRW.out _ (HE.out.trans zx)).mono ?_);rintro e w4 ⟨rfl,hq4⟩;replace HE:=Za (HE.out.trans (Zb zx hq4:Ext _ w4));clear hq4;obtain ⟨x0,x1,xz⟩:=(HBC.out.ext HE.out).facts;obtain ⟨y0,y1,y2,y3,y4,y5,y6,yz⟩:=(HBP.out.ext HE.out).facts)))
    | (go_at_call 12;(first | ((with_reducible refine (HRS.out _ (HE.out.trans zx)).mono ?_);rintro e w9 ⟨A9,n9,c9,rfl,hq9,hr9⟩;have HR9:=Za hr9;have HX9:=Za (BoxC.start w9 S3 A9 n9 c9);clear hr9;replace HE:=Za (HE.out.trans (Zb zx hq9:Ext _ w9));clear hq9;obtain ⟨x0,x1,xz⟩:=(HBC.out.ext HE.out).facts;obtain ⟨y0,y1,y2,y3,y4,y5,y6,yz⟩:=(HBP.out.ext HE.out).facts)))
    | (go_at_call 16;(first | ((with_reducible refine (HQT.out _ _ _ _ _ (HE.out.trans zx) (HS12.out.ext zx) (HC12.out.ext zx)).mono ?_);rintro e w13 ⟨rfl,hq13⟩;replace HE:=Za (HE.out.trans (Zb zx hq13:Ext _ w13));clear hq13;obtain ⟨x0,x1,xz⟩:=(HBC.out.ext HE.out).facts;obtain ⟨y0,y1,y2,y3,y4,y5,y6,yz⟩:=(HBP.out.ext HE.out).facts) | ((with_reducible refine (HTX.out (HSM.out (by simp)) _ (HE.out.trans zx)).mono ?_);rintro e w7 ⟨rfl,hq7⟩;replace HE:=Za (HE.out.trans (Zb zx hq7:Ext _ w7));clear hq7;obtain ⟨x0,x1,xz⟩:=(HBC.out.ext HE.out).facts;obtain ⟨y0,y1,y2,y3,y4,y5,y6,yz⟩:=(HBP.out.ext HE.out).facts)))
    | (go_at_call 18;(first | ((with_reducible refine (HPT.out _ (HE.out.trans zx)).mono ?_);rintro e w12 ⟨As12,Ac12,cs12,cc12,rfl,hq12,hs12,hc12⟩;have HS12:=Za hs12;have HC12:=Za hc12;clear hs12 hc12;replace HE:=Za (HE.out.trans (Zb zx hq12:Ext _ w12));clear hq12;obtain ⟨x0,x1,xz⟩:=(HBC.out.ext HE.out).facts;obtain ⟨y0,y1,y2,y3,y4,y5,y6,yz⟩:=(HBP.out.ext HE.out).facts))))
   all_goals (go_ret;exact ⟨by first | rfl | simp,HW0.out.trans (HE.out.trans zx)⟩)
end Go.Proofs.YtkneghkbgingdaaGreatDoor
/- The concrete strings of PatternNames. -/
namespace Go.Proofs.YtkneghkbgingdaaGreatDoor
set_option maxRecDepth 100000
theorem zfV {α:Type} {o:Option α} (h:o.isNone=true):o=none:=by cases o <;> simp_all
theorem znD {α:Type} {o:Option (List α)} {n:Nat} (h:o.map List.length=some n):∃l,o=some l∧l.length=n:=ZF.1 h
theorem zo7:(rdP atoiO 4 [102,114,111,110,116,32,107,42,52]).isNone=true:=by decide +kernel
theorem zo8:(rdP atoiO 4 [102,114,111,110,116,32,107,32,107,32,107,32,107,10]).isNone=true:=by decide +kernel
theorem zo9:(rdP atoiO 4 [102,114,111,110,116,32,107,42,53,10]).isNone=true:=by decide +kernel
theorem zpa:(rdP atoiO 4 [97,103,97,105,110,32,49,32,49,10]).isNone=true:=by decide +kernel
theorem zpb:(rdP atoiO 4 [102,114,111,110,116,32,107,42,52,10,102,114,111,110,116,32,107,42,52,10]).isNone=true:=by decide +kernel
theorem zpc:(rdP atoiO 4 [102,114,111,110,116,32,107,42,52,10,97,103,97,105,110,32,49,32,48,10]).isNone=true:=by decide +kernel
theorem zpd:(rdP atoiO 4 [102,114,111,110,116,32,107,42,52,10,97,103,97,105,110,32,49,32,49,48,48,10]).isNone=true:=by decide +kernel
theorem zpe:(rdP atoiO 4 [102,114,111,110,116,32,107,42,52,10,97,103,97,105,110,32,50,32,49,10]).isNone=true:=by decide +kernel
theorem zpf:(rdP atoiO 4 [102,114,111,110,116,32,107,42,52,10,97,103,97,105,110,32,49,32,49,10,97,103,97,105,110,32,49,32,49,10]).isNone=true:=by decide +kernel
theorem zpg:(rdP atoiO 4 [102,114,111,110,116,32,32,107,42,52,10]).isNone=true:=by decide +kernel
theorem zop:(rdP atoiO 4 [102,114,111,110,116,32,10]).isNone=true:=by decide +kernel
theorem zoq:(rdP atoiO 4 [70,114,111,110,116,32,107,42,52,10]).isNone=true:=by decide +kernel
theorem zor:(rdP atoiO 4 [102,114,111,110,116,32,107,42,52,10,98,97,99,107,32,112,42,52,10,102,114,111,110,116,32,107,42,52,10,98,97,99,107,32,112,42,52,10]).isNone=true:=by decide +kernel
theorem zos:(rdP atoiO 4 [102,114,111,110,116,32,107,42,52,10,97,103,97,105,110,32,48,49,32,49,10]).isNone=true:=by decide +kernel
theorem zot:(rdP atoiO 4 [10]).isNone=true:=by decide +kernel
theorem zou:(rdP atoiO 4 [102,114,111,110,116,32,107,42,52,10,97,103,97,105,110,32,51,32,49,10]).isNone=true:=by decide +kernel
theorem zoX:(patP atoiO gerr []).isNone=true:=by decide +kernel
theorem zoY:(patP atoiO gerr [112,97,116,116,101,114,110,32,97,10]).isNone=true:=by decide +kernel
theorem zoZ:(patP atoiO gerr [112,97,116,116,101,114,110,32,97,10,103,97,117,103,101,32,49,32,49,32,49,32,49,10]).isNone=true:=by decide +kernel
theorem zo0:(patP atoiO gerr [112,97,116,116,101,114,110,32,97,10,103,97,117,103,101,32,49,32,49,32,49,10,115,101,99,116,105,111,110,32,98,32,52,10]).isNone=true:=by decide +kernel
theorem zo1:(patP atoiO gerr [112,97,116,116,101,114,110,32,97,10,103,97,117,103,101,32,49,32,49,32,49,32,49,10,115,101,99,116,105,111,110,32,98,32,52,10,115,116,117,102,102,32,99,32,49,10]).isNone=true:=by decide +kernel
theorem zo2:(patP atoiO gerr [112,97,116,116,101,114,110,32,65,10,103,97,117,103,101,32,49,32,49,32,49,32,49,10,115,101,99,116,105,111,110,32,98,32,52,10]).isNone=true:=by decide +kernel
theorem zo3:(patP atoiO gerr [112,97,116,116,101,114,110,32,97,10,103,97,117,103,101,32,49,32,49,32,49,32,49,10,115,101,99,116,105,111,110,32,98,32,52,10,115,101,99,116,105,111,110,32,98,32,52,10]).isNone=true:=by decide +kernel
theorem zo4:(patP atoiO gerr [112,97,116,116,101,114,110,32,97,10,103,97,117,103,101,32,49,32,49,32,49,32,49,10,115,116,117,102,102,32,99,32,48,10,115,101,99,116,105,111,110,32,98,32,52,10]).isNone=true:=by decide +kernel
theorem zo5:(patP atoiO gerr [112,97,116,116,101,114,110,32,97,10,103,97,117,103,101,32,49,32,49,32,49,32,49,10,115,116,117,102,102,32,99,32,49,48,48,48,48,49,10,115,101,99,116,105,111,110,32,98,32,52,10]).isNone=true:=by decide +kernel
theorem zo6:(patP atoiO gerr [112,97,116,116,101,114,110,32,97,10,103,97,117,103,101,32,49,32,49,32,49,32,49,10,115,101,99,116,105,111,110,32,98,32,50,48,49,10]).isNone=true:=by decide +kernel
theorem zod:(patP atoiO gerr [112,97,116,116,101,114,110,32,97,10,103,97,117,103,101,32,49,32,49,32,49,32,49,10,115,101,99,116,105,111,110,32,98,32,52,10,102,114,111,110,116,32,107,42,53,10]).isNone=true:=by decide +kernel
theorem zpi:(rdP atoiO 4 []).map List.length=some 0:=by decide +kernel
theorem zpj:(rdP atoiO 4 [102,114,111,110,116,32,107,42,52,10,97,103,97,105,110,32,49,32,57,57,10]).map List.length=some 100:=by decide +kernel
theorem zpk:(rdP atoiO 4 [102,114,111,110,116,32,107,42,52,10,98,97,99,107,32,112,42,52,10,97,103,97,105,110,32,49,32,50,10,102,114,111,110,116,32,107,42,52,10]).map List.length=some 5:=by decide +kernel
theorem zpl:(rdP atoiO 4 [102,114,111,110,116,32,107,42,52,10,97,103,97,105,110,32,49,32,51,10]).map List.length=some 4:=by decide +kernel
theorem zpm:(rdP atoiO 4 [102,114,111,110,116,32,107,111,52,10,98,97,99,107,10,97,103,97,105,110,32,49,32,49,10]).map List.length=some 3:=by decide +kernel
theorem zpn:(rdP atoiO 4 [102,114,111,110,116,32,40,107,32,112,41,42,50,10,98,97,99,107,32,112,115,42,52,10,97,103,97,105,110,32,50,32,50,10,102,114,111,110,116,32,107,42,52,10]).map List.length=some 7:=by decide +kernel
def lsB:List UInt8:=[112,97,116,116,101,114,110,32,97,10,103,97,117,103,101,32,49,48,48,48,48,32,49,32,49,32,49,10,115,116,117,102,102,32,99,32,49,48,48,48,48,48,10,115,101,99,116,105,111,110,32,98,32,48,10,115,101,99,116,105,111,110,32,100,32,52,10,102,114,111,110,116,32,107,42,52,10]
def lsSt:List Stf:=[⟨[99],100000⟩]
def lsSe:List Sec:=[⟨[98],0,[]⟩,⟨[100],4,[⟨false,[⟨1,false,0,0⟩,⟨1,false,0,0⟩,⟨1,false,0,0⟩,⟨1,false,0,0⟩]⟩]⟩]
def lsP:PSt:=⟨[97],10000,1,1,1,lsSt,lsSe⟩
theorem zoD:patP atoiO gerr lsB=some lsP:=(zcT zeM zbe).2 ⟨by decide +kernel,by decide +kernel,by decide +kernel⟩
end Go.Proofs.YtkneghkbgingdaaGreatDoor
/- The small functions of PatternNames. -/
namespace Go.Proofs.YtkneghkbgingdaaGreatDoor
set_option maxRecDepth 100000
open Go.RowKit Go.ChangeShapes Go.WideShapes Go.Joins
theorem zan {s:List UInt8} (h:(rdP atoiO 4 s).isNone=true) (hs:s.length≤1000) (w:World) (hg:Glob w) :
  Calls Tryz.prog 22 #[.string ⟨s.toArray⟩] w fun e w'=>e = .returned (.bool true)∧Ext w w':=by
 have HRD:=Za (fun (w':World) (hg':Glob w')=>(show Calls Tryz.prog 12 #[.int .i64 4,.string ⟨s.toArray⟩] w' fun e w''=>∃(A:Option Addr) (c:Nat),e = .returned (.tuple #[.agg #[.int .i64 0,.slice A 0 c],.int .i64 12])∧Ext w' w'' from by
  refine (zbk 4 s (by omega) w' hg').mono ?_
  rintro e w9 ⟨A,n,c,rfl,h1,h2⟩
  obtain ⟨e1,e2,e3⟩:=zlb (zfV h)
  rw [e2] at h2
  obtain rfl:n=0:=h2.len.symm
  rw [e1,e3]
  exact ⟨A,c,rfl,h1⟩))
 have HG:=Za hg
 clear h hs hg
 go_enter Tryz.func22,Tryz.ntmps22
 go_wp2_with (first
  | (go_at_call 12;((with_reducible refine (HRD.out _ (HG.out.ext zx)).mono ?_);rintro e w1 ⟨A1,c1,rfl,hq1⟩;have HE1:=Za (zx:Ext w w1))))
 all_goals (go_ret;exact ⟨by first | rfl | simp,Zb HE1.out zx⟩)
theorem ziT {s:List UInt8} (h:(patP atoiO gerr s).isNone=true) (hs:s.length≤1000) (w:World) (hg:Glob w) :
  Calls Tryz.prog 23 #[.string ⟨s.toArray⟩] w fun e w'=>e = .returned (.bool true)∧Ext w w':=by
 have HRD:=Za (fun (w':World) (hg':Glob w')=>(show Calls Tryz.prog 18 #[.string ⟨s.toArray⟩] w' fun e w''=>e = .returned (.tuple #[.agg #[.string ⟨#[]⟩,.int .i64 0,.int .i64 0,.int .i64 0,.int .i64 0,.slice none 0 0,.slice none 0 0],.int .i64 12])∧Ext w' w'' from by
  refine (za4 s (by omega) w' hg').mono ?_
  rintro e w9 ⟨h1,⟨-,rfl⟩ | ⟨p,_,_,_,_,h2, -⟩⟩
  ·exact ⟨rfl,h1⟩
  ·rw [zfV h] at h2;cases h2))
 have HG:=Za hg
 clear h hs hg
 go_enter Tryz.func23,Tryz.ntmps23
 go_wp2_with (first
  | (go_at_call 18;((with_reducible refine (HRD.out _ (HG.out.ext zx)).mono ?_);rintro e w1 ⟨rfl,hq1⟩;have HE1:=Za (zx:Ext w w1))))
 all_goals (go_ret;exact ⟨by first | rfl | simp,Zb HE1.out zx⟩)
theorem zbs {s:List UInt8} {k:Nat} (h:(rdP atoiO 4 s).map List.length=some k) (hs:s.length≤1000) (w:World) (hg:Glob w) :
  Calls Tryz.prog 21 #[.string ⟨s.toArray⟩,.int .i64 (k:Int)] w fun e w'=>e = .returned (.bool true)∧Ext w w':=by
 obtain ⟨l,h1,h2⟩:=znD h
 obtain ⟨h3,h4⟩:=(zei zj3).1 h1
 have HRD:=Za (fun (w':World) (hg':Glob w')=>(show Calls Tryz.prog 12 #[.int .i64 4,.string ⟨s.toArray⟩] w' fun e w''=>∃(A:Option Addr) (c:Nat),e = .returned (.tuple #[.agg #[.int .i64 4,.slice A k c],.int .i64 0])∧Ext w' w''∧Rws w'' (fun _=>True) A k l from by
  refine (zbk 4 s (by omega) w' hg').mono ?_
  rintro e w9 ⟨A,n,c,rfl,h5,h6⟩
  obtain ⟨e1,e2,e3⟩:=ze7 h1
  rw [e2] at h6
  obtain rfl:n=k:=by rw [←h6.len];exact h2
  rw [e1,e3]
  exact ⟨A,c,rfl,h5,h6.any⟩))
 have HRW:=Za (fun (A:Option Addr) (c:Nat) (w':World) (hr:Rws w' (fun _=>True) A k l) (hg':Glob w')=>(show Calls Tryz.prog 10 #[.agg #[.int .i64 4,.slice A k c]] w' fun e w''=>e = .returned (.tuple #[.string ⟨s.toArray⟩,.int .i64 0])∧Ext w' w'' from by
  have h9:=zaY 4 A k c l w' hr hg'
  unfold PRowsR at h9
  rw [h3,h4] at h9
  exact h9))
 have HG:=Za hg
 clear h h1 h2 h3 h4 hs hg
 go_enter Tryz.func21,Tryz.ntmps21
 go_wp2_with (first
  | (go_at_call 12;((with_reducible refine (HRD.out _ (HG.out.ext zx)).mono ?_);rintro e w1 ⟨A1,c1,rfl,hq1,hr1⟩;have HE1:=Za (zx:Ext w w1);have HR1:=Za hr1;have HX1:=Za (BoxC.start w1 4 A1 k c1);clear hr1))
  | (go_at_call 10;((with_reducible refine (HRW.out _ _ _ (HR1.out.ext zx) (HG.out.ext (HE1.out.trans zx))).mono ?_);rintro e w2 ⟨rfl,hq2⟩;obtain ⟨x0,x1,xz⟩:=(HX1.out.ext hq2).facts;have HE2:=Za (HE1.out.trans (zx:Ext w1 w2)))))
 all_goals (go_ret;exact ⟨by first | rfl | simp,Zb HE2.out zx⟩)
end Go.Proofs.YtkneghkbgingdaaGreatDoor
