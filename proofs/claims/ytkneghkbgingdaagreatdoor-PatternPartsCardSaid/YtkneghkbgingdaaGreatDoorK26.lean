/- What the reference reads of a word with a letter and two parts. -/
import Derived.Test.YtkneghkbgingdaaGreatDoorK23
namespace Go.Proofs.YtkneghkbgingdaaGreatDoor
set_option maxHeartbeats 16000000
set_option maxRecDepth 100000
open Go.RowKit
theorem zeB (l R:List UInt8) (d:UInt8) (r:List UInt8) (hld:l=107::d::r) (hR:R=d::r) (hlen:(d::r).length≤100000) (hn:numS R=none) (hK:kindR d=7) (P:List (List UInt8)) (hP:spl 47 r=P) (X:Option (List St)) (hX:X=if P.length=2 then (numS (P.getD 1 [])).bind fun b=>(numS (P.getD 0 [])).bind fun a=>some [⟨7,false,a,b⟩] else none) (w:World):Calls Tryz.prog 123 #[.string ⟨l.toArray⟩] w (WordR X w):=by
 have hE:(l==[121,111])=false:=by rw [hld];simp
 have hp:(l.take 2==[111,110])=false:=by rw [hld];simp
 have h0:∀h,(⟨l.toArray⟩:ByteArray)[0]'h=(107:UInt8):=fun h=>by rw [zao l 0 h,hld];rfl
 have hx1:(⟨l.toArray⟩:ByteArray).extract 1 l.length=⟨R.toArray⟩:=by rw [zah l 1 _ (Zf _),hld,hR];rfl
 have hx0:=zap l 2
 have hl2:(2:Int)≤(l.length:Int):=by rw [hld];simp only [Zk];omega
 have hl1:¬((l.length:Int)=1):=by omega
 have hl9:¬((l.length:Int)=0):=by omega
 have hl8:(0:Int)<(l.length:Int):=by omega
 have hl5:((l.length:Int)==0)=false:=by rw [Ze];omega
 have hl6:((l.length:Int)==1)=false:=by rw [Ze];omega
 have hl4:¬l=[]:=by rw [hld];simp
 have hl7:(1:Int)≤(l.length:Int):=by omega
 have HN:=Za (fun w'=>zad R (by rw [hR];exact hlen) w')
 have HS:=Za (zaJ hn)
 have hb0:Ext w (w.alloc (.cells #[.int .u8 1,.bool false,.int .i64 0,.int .i64 0] 132)):=(Zd _).alloc _
 have hs1:∀h,(⟨l.toArray⟩:ByteArray)[1]'h=d:=fun h=>by rw [zao l 1 h,hld];rfl
 have HK:=Za (fun w'=>zaw d w')
 have HKK:=Za hK
 have hx2:(⟨l.toArray⟩:ByteArray).extract 2 l.length=⟨r.toArray⟩:=by rw [zah l 2 _ (Zf _),hld];rfl
 have HC:=Za (show ∀w',Calls Tryz.prog 31 #[.string ⟨r.toArray⟩,.int .u8 47] w' fun e w''=>∃v,e = .returned v∧OwnV shStr w'' w'.heap.size 9 v (spl 47 r).length (spl 47 r)∧Ext w' w'' from fun w'=>zbt 47 r (by simp only [Zk] at hlen;omega) w')
 have hwl:=(zam 47 r).2
 have hpl:∀k,(P.getD k []).length≤100000:=fun k=>by
  rw [Zc]
  cases hk:P[k]? with
  | none=>simp
  | some x =>
   have:=hwl x (by rw [hP];exact ZT hk)
   simp only [Zk] at hlen
   show x.length≤100000
   omega
 have hne:=zbZ 47 r
 rw [hP] at HC hne
 obtain ⟨m,hm⟩:∃m,P.length=m:=⟨_,rfl⟩
 rw [hm] at HC
 have HM:=Za (show 0<m by
  rw [←hm]
  exact ZW.2 hne)
 obtain ⟨p0,hp0⟩:∃p0,P.getD 0 []=p0:=⟨_,rfl⟩
 have HP0:=Za hp0
 have HN0:=Za (fun w'=>zad p0 (by rw [←hp0];exact hpl 0) w')
 obtain ⟨B0,hB0⟩:∃B,numN p0=B:=⟨_,rfl⟩
 obtain ⟨b0,hb9⟩:∃b,(numS p0).isSome=b:=⟨_,rfl⟩
 have HS0:=Za (And.intro hB0 hb9)
 have hm1:(1:Int)≤(m:Int):=by have:=HM.out;omega
 have hm0:(0:Int)<(m:Int):=by have:=HM.out;omega
 have HX:=Za hX
 clear hX
 by_cases hm9:m=2
 ·have e2:((m:Int)==2)=true:=by rw [hm9];rfl
  have e1:((m:Int)==1)=false:=by rw [hm9];rfl
  have hm22:1<m:=by omega
  have hm23:(1:Int)<(m:Int):=by omega
  have HX1:=Za (HX.out.trans (if_pos (hm.trans hm9)))
  obtain ⟨p1,hp1⟩:∃p1,P.getD 1 []=p1:=⟨_,rfl⟩
  have HP1:=Za hp1
  have HN1:=Za (fun w'=>zad p1 (by rw [←hp1];exact hpl 1) w')
  obtain ⟨B1,hB1⟩:∃B,numN p1=B:=⟨_,rfl⟩
  obtain ⟨b1,hb1⟩:∃b,(numS p1).isSome=b:=⟨_,rfl⟩
  have HS1:=Za (And.intro hB1 hb1)
  have HALL:=Za (show b0=true→b1=true→X=some [⟨7,false,B0,B1⟩] from fun h0 h1=>by
   rw [HX1.out,hp0,hp1]
   cases hq1:numS p1 with
   | none=>rw [hq1] at hb1;rw [←hb1] at h1;cases h1
   | some b =>
    cases hq0:numS p0 with
    | none=>rw [hq0] at hb9;rw [←hb9] at h0;cases h0
    | some a =>
     rw [←hB0,←hB1]
     unfold numN
     rw [hq0,hq1]
     rfl)
  have HNO:=Za (show (b0=false∨b1=false)→X=none from fun h=>by
   rw [HX1.out,hp0,hp1]
   cases hq1:numS p1 with
   | none=>rfl
   | some b =>
    cases hq0:numS p0 with
    | none=>rfl
    | some a =>
     rw [hq0] at hb9
     rw [hq1] at hb1
     rw [←hb9,←hb1] at h
     rcases h with h | h <;> cases h)
  clear hld hR hlen hn hK hP hpl hwl hne hp0 hB0 hb9 hm hm9 hp1 hB1 hb1
  by_cases hl32:(2:Int)<(l.length:Int)
  all_goals
   cases b0 <;> cases b1
   ·go_enter Tryz.func123,Tryz.ntmps123
    go_wp2_with (first | (go_at_call 83;(first | ((with_reducible refine (HN0.out _).mono ?_);rintro e w5 ⟨rfl,hq5⟩;rw [HS0.out.1,HS0.out.2];have X7:=Za (zaa X6.out hq5);obtain ⟨t0,t1,t2,t3,t4,t5,t6,t7,t8⟩:=X7.out;have E7:=Za (Zb E6.out hq5);have E8:=Za (Zi (p:=⟨w.heap.size,2,none⟩) E7.out (Zf _) (.int .i64 B0));clear hq5) | ((with_reducible refine (HN1.out _).mono ?_);rintro e w4 ⟨rfl,hq4⟩;rw [HS1.out.1,HS1.out.2];have X5:=Za (zaa X4.out hq4);replace d0:=(Zm (p:=⟨b3,off3,none⟩) hq4 hlt3).trans d0;obtain ⟨u0,u1,u2,u3,u4,u5,u6,u7,u8⟩:=X5.out;have X6:=Za (zfA X5.out B1);have E5:=Za (Zb E4.out hq4);have E6:=Za (Zi (p:=⟨w.heap.size,3,none⟩) E5.out (Zf _) (.int .i64 B1));clear hq4 z0 z1 z2 z3 z4 z5 z6 z7 z8) | ((with_reducible refine (HN.out _).mono ?_);rintro e w1 ⟨rfl,hq1⟩;rw [HS.out.1,HS.out.2];have X1:=Za (zaa (zaq _ _ _ _ _ _) hq1);obtain ⟨a0,a1,a2,a3,a4,a5,a6,a7,a8⟩:=X1.out;have E1:=Za (hb0.trans hq1);clear hq1))) | (go_at_call 154;((with_reducible refine (HK.out _).mono ?_);rintro e w2 ⟨rfl,hq2⟩;rw [HKK.out];have X2:=Za (zaa X1.out hq2);obtain ⟨y0,y1,y2,y3,y4,y5,y6,y7,y8⟩:=X2.out;have X3:=Za (zb7 X2.out 7);have E2:=Za (Zb E1.out hq2);have E3:=Za (Zi (p:=⟨w.heap.size,0,none⟩) E2.out (Zf _) (.int .u8 7));clear hq2 a0 a1 a2 a3 a4 a5 a6 a7 a8)) | (go_at_call 31;((with_reducible refine (HC.out _).mono ?_);rintro e w3 ⟨v3,rfl,hv3,hq3⟩;obtain ⟨A3,c3,rfl, -⟩:=zac hv3;obtain ⟨b3,off3,rfl,hB3,hlt3,hcs⟩:=zai hv3 HM.out;have d0:=hcs 0 HM.out;simp only [Nat.add_zero] at d0;rw [HP0.out] at d0;have d1:=hcs 1 hm22;rw [HP1.out] at d1;have n3:¬(b3=w.heap.size):=(by have h8:=X2.out.hlt;simp at hB3;omega);have n4:¬(w.heap.size=b3):=(by omega);clear hcs hv3;have X4:=Za (zaa X3.out hq3);obtain ⟨z0,z1,z2,z3,z4,z5,z6,z7,z8⟩:=X4.out;have E4:=Za (Zb E3.out hq3);clear hq3 y0 y1 y2 y3 y4 y5 y6 y7 y8 hB3)))
    go_ret2
    exact WordR.no (HNO.out (by first | exact .inl rfl | exact .inl trivial)) (Zl E8.out _)
   ·go_enter Tryz.func123,Tryz.ntmps123
    go_wp2_with (first | (go_at_call 83;(first | ((with_reducible refine (HN0.out _).mono ?_);rintro e w5 ⟨rfl,hq5⟩;rw [HS0.out.1,HS0.out.2];have X7:=Za (zaa X6.out hq5);obtain ⟨t0,t1,t2,t3,t4,t5,t6,t7,t8⟩:=X7.out;have E7:=Za (Zb E6.out hq5);have E8:=Za (Zi (p:=⟨w.heap.size,2,none⟩) E7.out (Zf _) (.int .i64 B0));clear hq5) | ((with_reducible refine (HN1.out _).mono ?_);rintro e w4 ⟨rfl,hq4⟩;rw [HS1.out.1,HS1.out.2];have X5:=Za (zaa X4.out hq4);replace d0:=(Zm (p:=⟨b3,off3,none⟩) hq4 hlt3).trans d0;obtain ⟨u0,u1,u2,u3,u4,u5,u6,u7,u8⟩:=X5.out;have X6:=Za (zfA X5.out B1);have E5:=Za (Zb E4.out hq4);have E6:=Za (Zi (p:=⟨w.heap.size,3,none⟩) E5.out (Zf _) (.int .i64 B1));clear hq4 z0 z1 z2 z3 z4 z5 z6 z7 z8) | ((with_reducible refine (HN.out _).mono ?_);rintro e w1 ⟨rfl,hq1⟩;rw [HS.out.1,HS.out.2];have X1:=Za (zaa (zaq _ _ _ _ _ _) hq1);obtain ⟨a0,a1,a2,a3,a4,a5,a6,a7,a8⟩:=X1.out;have E1:=Za (hb0.trans hq1);clear hq1))) | (go_at_call 154;((with_reducible refine (HK.out _).mono ?_);rintro e w2 ⟨rfl,hq2⟩;rw [HKK.out];have X2:=Za (zaa X1.out hq2);obtain ⟨y0,y1,y2,y3,y4,y5,y6,y7,y8⟩:=X2.out;have X3:=Za (zb7 X2.out 7);have E2:=Za (Zb E1.out hq2);have E3:=Za (Zi (p:=⟨w.heap.size,0,none⟩) E2.out (Zf _) (.int .u8 7));clear hq2 a0 a1 a2 a3 a4 a5 a6 a7 a8)) | (go_at_call 31;((with_reducible refine (HC.out _).mono ?_);rintro e w3 ⟨v3,rfl,hv3,hq3⟩;obtain ⟨A3,c3,rfl, -⟩:=zac hv3;obtain ⟨b3,off3,rfl,hB3,hlt3,hcs⟩:=zai hv3 HM.out;have d0:=hcs 0 HM.out;simp only [Nat.add_zero] at d0;rw [HP0.out] at d0;have d1:=hcs 1 hm22;rw [HP1.out] at d1;have n3:¬(b3=w.heap.size):=(by have h8:=X2.out.hlt;simp at hB3;omega);have n4:¬(w.heap.size=b3):=(by omega);clear hcs hv3;have X4:=Za (zaa X3.out hq3);obtain ⟨z0,z1,z2,z3,z4,z5,z6,z7,z8⟩:=X4.out;have E4:=Za (Zb E3.out hq3);clear hq3 y0 y1 y2 y3 y4 y5 y6 y7 y8 hB3)))
    go_ret2
    exact WordR.no (HNO.out (by first | exact .inl rfl | exact .inl trivial)) (Zl E8.out _)
   ·go_enter Tryz.func123,Tryz.ntmps123
    go_wp2_with (first | (go_at_call 83;(first | ((with_reducible refine (HN0.out _).mono ?_);rintro e w5 ⟨rfl,hq5⟩;rw [HS0.out.1,HS0.out.2];have X7:=Za (zaa X6.out hq5);obtain ⟨t0,t1,t2,t3,t4,t5,t6,t7,t8⟩:=X7.out;have E7:=Za (Zb E6.out hq5);have E8:=Za (Zi (p:=⟨w.heap.size,2,none⟩) E7.out (Zf _) (.int .i64 B0));clear hq5) | ((with_reducible refine (HN1.out _).mono ?_);rintro e w4 ⟨rfl,hq4⟩;rw [HS1.out.1,HS1.out.2];have X5:=Za (zaa X4.out hq4);replace d0:=(Zm (p:=⟨b3,off3,none⟩) hq4 hlt3).trans d0;obtain ⟨u0,u1,u2,u3,u4,u5,u6,u7,u8⟩:=X5.out;have X6:=Za (zfA X5.out B1);have E5:=Za (Zb E4.out hq4);have E6:=Za (Zi (p:=⟨w.heap.size,3,none⟩) E5.out (Zf _) (.int .i64 B1));clear hq4 z0 z1 z2 z3 z4 z5 z6 z7 z8) | ((with_reducible refine (HN.out _).mono ?_);rintro e w1 ⟨rfl,hq1⟩;rw [HS.out.1,HS.out.2];have X1:=Za (zaa (zaq _ _ _ _ _ _) hq1);obtain ⟨a0,a1,a2,a3,a4,a5,a6,a7,a8⟩:=X1.out;have E1:=Za (hb0.trans hq1);clear hq1))) | (go_at_call 154;((with_reducible refine (HK.out _).mono ?_);rintro e w2 ⟨rfl,hq2⟩;rw [HKK.out];have X2:=Za (zaa X1.out hq2);obtain ⟨y0,y1,y2,y3,y4,y5,y6,y7,y8⟩:=X2.out;have X3:=Za (zb7 X2.out 7);have E2:=Za (Zb E1.out hq2);have E3:=Za (Zi (p:=⟨w.heap.size,0,none⟩) E2.out (Zf _) (.int .u8 7));clear hq2 a0 a1 a2 a3 a4 a5 a6 a7 a8)) | (go_at_call 31;((with_reducible refine (HC.out _).mono ?_);rintro e w3 ⟨v3,rfl,hv3,hq3⟩;obtain ⟨A3,c3,rfl, -⟩:=zac hv3;obtain ⟨b3,off3,rfl,hB3,hlt3,hcs⟩:=zai hv3 HM.out;have d0:=hcs 0 HM.out;simp only [Nat.add_zero] at d0;rw [HP0.out] at d0;have d1:=hcs 1 hm22;rw [HP1.out] at d1;have n3:¬(b3=w.heap.size):=(by have h8:=X2.out.hlt;simp at hB3;omega);have n4:¬(w.heap.size=b3):=(by omega);clear hcs hv3;have X4:=Za (zaa X3.out hq3);obtain ⟨z0,z1,z2,z3,z4,z5,z6,z7,z8⟩:=X4.out;have E4:=Za (Zb E3.out hq3);clear hq3 y0 y1 y2 y3 y4 y5 y6 y7 y8 hB3)))
    go_ret2
    exact WordR.no (HNO.out (by first | exact .inr rfl | exact .inr trivial)) (Zl E8.out _)
   ·go_enter Tryz.func123,Tryz.ntmps123
    go_wp2_with (first | (go_at_call 83;(first | ((with_reducible refine (HN0.out _).mono ?_);rintro e w5 ⟨rfl,hq5⟩;rw [HS0.out.1,HS0.out.2];have X7:=Za (zaa X6.out hq5);obtain ⟨t0,t1,t2,t3,t4,t5,t6,t7,t8⟩:=X7.out;have E7:=Za (Zb E6.out hq5);have E8:=Za (Zi (p:=⟨w.heap.size,2,none⟩) E7.out (Zf _) (.int .i64 B0));clear hq5) | ((with_reducible refine (HN1.out _).mono ?_);rintro e w4 ⟨rfl,hq4⟩;rw [HS1.out.1,HS1.out.2];have X5:=Za (zaa X4.out hq4);replace d0:=(Zm (p:=⟨b3,off3,none⟩) hq4 hlt3).trans d0;obtain ⟨u0,u1,u2,u3,u4,u5,u6,u7,u8⟩:=X5.out;have X6:=Za (zfA X5.out B1);have E5:=Za (Zb E4.out hq4);have E6:=Za (Zi (p:=⟨w.heap.size,3,none⟩) E5.out (Zf _) (.int .i64 B1));clear hq4 z0 z1 z2 z3 z4 z5 z6 z7 z8) | ((with_reducible refine (HN.out _).mono ?_);rintro e w1 ⟨rfl,hq1⟩;rw [HS.out.1,HS.out.2];have X1:=Za (zaa (zaq _ _ _ _ _ _) hq1);obtain ⟨a0,a1,a2,a3,a4,a5,a6,a7,a8⟩:=X1.out;have E1:=Za (hb0.trans hq1);clear hq1))) | (go_at_call 154;((with_reducible refine (HK.out _).mono ?_);rintro e w2 ⟨rfl,hq2⟩;rw [HKK.out];have X2:=Za (zaa X1.out hq2);obtain ⟨y0,y1,y2,y3,y4,y5,y6,y7,y8⟩:=X2.out;have X3:=Za (zb7 X2.out 7);have E2:=Za (Zb E1.out hq2);have E3:=Za (Zi (p:=⟨w.heap.size,0,none⟩) E2.out (Zf _) (.int .u8 7));clear hq2 a0 a1 a2 a3 a4 a5 a6 a7 a8)) | (go_at_call 31;((with_reducible refine (HC.out _).mono ?_);rintro e w3 ⟨v3,rfl,hv3,hq3⟩;obtain ⟨A3,c3,rfl, -⟩:=zac hv3;obtain ⟨b3,off3,rfl,hB3,hlt3,hcs⟩:=zai hv3 HM.out;have d0:=hcs 0 HM.out;simp only [Nat.add_zero] at d0;rw [HP0.out] at d0;have d1:=hcs 1 hm22;rw [HP1.out] at d1;have n3:¬(b3=w.heap.size):=(by have h8:=X2.out.hlt;simp at hB3;omega);have n4:¬(w.heap.size=b3):=(by omega);clear hcs hv3;have X4:=Za (zaa X3.out hq3);obtain ⟨z0,z1,z2,z3,z4,z5,z6,z7,z8⟩:=X4.out;have E4:=Za (Zb E3.out hq3);clear hq3 y0 y1 y2 y3 y4 y5 y6 y7 y8 hB3)))
    go_ret2
    exact WordR.yes (HALL.out (by first | rfl | trivial) (by first | rfl | trivial)) (Vec.lit2 (by simp) rfl rfl) (Zl E8.out _)
 ·have e2:((m:Int)==2)=false:=by rw [Ze];omega
  have HXX:=Za (HX.out.trans (if_neg (fun h=>hm9 (hm.symm.trans h))))
  clear hld hR hlen hn hK hP hpl hwl hne hp0 hB0 hb9 hm hm9
  obtain ⟨e1,he1⟩:∃e1,((m:Int)==1)=e1:=⟨_,rfl⟩
  cases e1
  all_goals
   cases b0
   all_goals
    by_cases hl32:(2:Int)<(l.length:Int)
    all_goals
     go_enter Tryz.func123,Tryz.ntmps123
     go_wp2_with (first | (go_at_call 83;(first | ((with_reducible refine (HN0.out _).mono ?_);rintro e w5 ⟨rfl,hq5⟩;rw [HS0.out.1,HS0.out.2];have X7:=Za (zaa X4.out hq5);obtain ⟨t0,t1,t2,t3,t4,t5,t6,t7,t8⟩:=X7.out;have E7:=Za (Zb E4.out hq5);have E8:=Za (Zi (p:=⟨w.heap.size,2,none⟩) E7.out (Zf _) (.int .i64 B0));clear hq5) | ((with_reducible refine (HN.out _).mono ?_);rintro e w1 ⟨rfl,hq1⟩;rw [HS.out.1,HS.out.2];have X1:=Za (zaa (zaq _ _ _ _ _ _) hq1);obtain ⟨a0,a1,a2,a3,a4,a5,a6,a7,a8⟩:=X1.out;have E1:=Za (hb0.trans hq1);clear hq1))) | (go_at_call 154;((with_reducible refine (HK.out _).mono ?_);rintro e w2 ⟨rfl,hq2⟩;rw [HKK.out];have X2:=Za (zaa X1.out hq2);obtain ⟨y0,y1,y2,y3,y4,y5,y6,y7,y8⟩:=X2.out;have X3:=Za (zb7 X2.out 7);have E2:=Za (Zb E1.out hq2);have E3:=Za (Zi (p:=⟨w.heap.size,0,none⟩) E2.out (Zf _) (.int .u8 7));clear hq2 a0 a1 a2 a3 a4 a5 a6 a7 a8)) | (go_at_call 31;((with_reducible refine (HC.out _).mono ?_);rintro e w3 ⟨v3,rfl,hv3,hq3⟩;obtain ⟨A3,c3,rfl, -⟩:=zac hv3;obtain ⟨b3,off3,rfl,hB3,hlt3,hcs⟩:=zai hv3 HM.out;have d0:=hcs 0 HM.out;simp only [Nat.add_zero] at d0;rw [HP0.out] at d0;  have n3:¬(b3=w.heap.size):=(by have h8:=X2.out.hlt;simp at hB3;omega);have n4:¬(w.heap.size=b3):=(by omega);clear hcs hv3;have X4:=Za (zaa X3.out hq3);obtain ⟨z0,z1,z2,z3,z4,z5,z6,z7,z8⟩:=X4.out;have E4:=Za (Zb E3.out hq3);clear hq3 y0 y1 y2 y3 y4 y5 y6 y7 y8 hB3)))
     go_ret2
     exact WordR.no HXX.out (Zl E8.out _)
end Go.Proofs.YtkneghkbgingdaaGreatDoor
