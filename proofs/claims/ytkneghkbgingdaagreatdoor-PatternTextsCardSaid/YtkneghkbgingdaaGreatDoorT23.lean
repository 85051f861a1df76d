/- What the reference reads of a word with a letter. -/
import Derived.Test.YtkneghkbgingdaaGreatDoorT22
namespace Go.Proofs.YtkneghkbgingdaaGreatDoor
set_option maxHeartbeats 16000000
set_option maxRecDepth 100000
open Go.RowKit
theorem zgo (c:UInt8) (pv:Bool) (hcp:(c=107/\pv=false)∨(c=112/\pv=true)) (l R:List UInt8) (d:UInt8) (r:List UInt8) (hld:l=c::d::r) (hR:R=d::r) (hlen:(d::r).length<=100000) (hn:numS R=none) (hK:kindR d=8) (X:Option (List St)) (hX:X=if r=[] then some [⟨8,pv,0,0⟩] else none) (w:World):Calls Tryz.prog 123 #[.string ⟨l.toArray⟩] w (WordR X w):=by
 have hE:(l==[121,111])=false:=by rcases hcp with ⟨rfl, -⟩ | ⟨rfl, -⟩ <;> (rw [hld];simp)
 have hp:(l.take 2==[111,110])=false:=by rcases hcp with ⟨rfl, -⟩ | ⟨rfl, -⟩ <;> (rw [hld];simp)
 have h0:∀h,(⟨l.toArray⟩:ByteArray)[0]'h=c:=fun h=>by rw [zam l 0 h,hld];rfl
 have hx1:(⟨l.toArray⟩:ByteArray).extract 1 l.length=⟨R.toArray⟩:=by rw [zai l 1 _ (Zg _),hld,hR];rfl
 have hx0:=zar l 2
 have hl2:(2:Int)<=(l.length:Int):=by rw [hld];simp only [Zk];omega
 have hl1:¬((l.length:Int)=1):=by omega
 have hl9:¬((l.length:Int)=0):=by omega
 have hl8:(0:Int)<(l.length:Int):=by omega
 have hl5:((l.length:Int)==0)=false:=by rw [Ze];omega
 have hl6:((l.length:Int)==1)=false:=by rw [Ze];omega
 have hl4:¬l=[]:=by rw [hld];simp
 have hl7:(1:Int)<=(l.length:Int):=by omega
 have HN:=Za (fun w'=>zae R (by rw [hR];exact hlen) w')
 have HS:=Za (zbO hn)
 have ad:Ext w (w.alloc (.cells #[.int .u8 1,.bool pv,.int .i64 0,.int .i64 0] 132)):=(Zf _).alloc _
 have hs1:∀h,(⟨l.toArray⟩:ByteArray)[1]'h=d:=fun h=>by rw [zam l 1 h,hld];rfl
 have HK:=Za (fun w'=>zba d w')
 have ac:=Za hK
 have HX:=Za hX
 clear hX
 by_cases hr:r=[]
 ·have ae:((l.length:Int)==2)=true:=by rw [hld,hr];rfl
  have aa:¬((2:Int)<(l.length:Int)):=by rw [hld,hr];simp
  have HXX:=Za (HX.out.trans (if_pos hr))
  clear hld hR hlen hn hK hr HX
  rcases hcp with ⟨rfl,rfl⟩ | ⟨rfl,rfl⟩
  all_goals
   go_enter Tryz.func123,Tryz.ntmps123
   go_wp2_with (first | (go_at_call 83;((with_reducible refine (HN.out _).mono ?_);rintro e w1 ⟨rfl,hq1⟩;rw [HS.out.1,HS.out.2];have X1:=Za (zao (zcU _ _ _ _ _ _) hq1);obtain ⟨a0,a1,a2,a3,a4,a5,a6,a7,a8⟩:=X1.out;have E1:=Za (ad.trans hq1);clear hq1)) | (go_at_call 154;((with_reducible refine (HK.out _).mono ?_);rintro e w2 ⟨rfl,hq2⟩;rw [ac.out];have X2:=Za (zao X1.out hq2);obtain ⟨y0,y1,y2,y3,y4,y5,y6,y7,y8⟩:=X2.out;have X3:=Za (znb X2.out 8);have E2:=Za (Zi E1.out hq2);have E3:=Za (Zr (p:=⟨w.heap.size,0,none⟩) E2.out (Zg _) (.int .u8 8));clear hq2 a0 a1 a2 a3 a4 a5 a6 a7 a8)))
   go_ret2
   exact WordR.yes HXX.out (Vec.lit2 (by simp) rfl rfl) (Zp E3.out _)
 ·have ab:2<l.length:=by
   rw [hld]
   cases r with
   | nil=>exact absurd rfl hr
   | cons a b=>simp
  have ae:((l.length:Int)==2)=false:=by rw [Ze];omega
  have aa:(2:Int)<(l.length:Int):=by omega
  have HXX:=Za (HX.out.trans (if_neg hr))
  clear hld hR hlen hn hK hr ab HX
  rcases hcp with ⟨rfl,rfl⟩ | ⟨rfl,rfl⟩
  all_goals
   go_enter Tryz.func123,Tryz.ntmps123
   go_wp2_with (first | (go_at_call 83;((with_reducible refine (HN.out _).mono ?_);rintro e w1 ⟨rfl,hq1⟩;rw [HS.out.1,HS.out.2];have X1:=Za (zao (zcU _ _ _ _ _ _) hq1);obtain ⟨a0,a1,a2,a3,a4,a5,a6,a7,a8⟩:=X1.out;have E1:=Za (ad.trans hq1);clear hq1)) | (go_at_call 154;((with_reducible refine (HK.out _).mono ?_);rintro e w2 ⟨rfl,hq2⟩;rw [ac.out];have X2:=Za (zao X1.out hq2);obtain ⟨y0,y1,y2,y3,y4,y5,y6,y7,y8⟩:=X2.out;have X3:=Za (znb X2.out 8);have E2:=Za (Zi E1.out hq2);have E3:=Za (Zr (p:=⟨w.heap.size,0,none⟩) E2.out (Zg _) (.int .u8 8));clear hq2 a0 a1 a2 a3 a4 a5 a6 a7 a8)))
   go_ret2
   exact WordR.no HXX.out (Zp E3.out _)
theorem zcv (c:UInt8) (pv:Bool) (hcp:(c=107/\pv=false)∨(c=112/\pv=true)) (l R:List UInt8) (d:UInt8) (r:List UInt8) (hld:l=c::d::r) (hR:R=d::r) (hlen:(d::r).length<=100000) (hn:numS R=none) (K:Int) (hK:kindR d=K) (P:List (List UInt8)) (hP:spl 47 r=P) (h8:(K==8)=false) (h6:(K==6)=false) (h7:(K==7)=false) (h0':(K != 0)=true) (X:Option (List St)) (hX:X=if P.length=1 then (numS (P.getD 0 [])).bind fun a=>some [⟨K,pv,a,0⟩] else none) (w:World):Calls Tryz.prog 123 #[.string ⟨l.toArray⟩] w (WordR X w):=by
 have hE:(l==[121,111])=false:=by rcases hcp with ⟨rfl, -⟩ | ⟨rfl, -⟩ <;> (rw [hld];simp)
 have hp:(l.take 2==[111,110])=false:=by rcases hcp with ⟨rfl, -⟩ | ⟨rfl, -⟩ <;> (rw [hld];simp)
 have h0:∀h,(⟨l.toArray⟩:ByteArray)[0]'h=c:=fun h=>by rw [zam l 0 h,hld];rfl
 have hx1:(⟨l.toArray⟩:ByteArray).extract 1 l.length=⟨R.toArray⟩:=by rw [zai l 1 _ (Zg _),hld,hR];rfl
 have hx0:=zar l 2
 have hl2:(2:Int)<=(l.length:Int):=by rw [hld];simp only [Zk];omega
 have hl1:¬((l.length:Int)=1):=by omega
 have hl9:¬((l.length:Int)=0):=by omega
 have hl8:(0:Int)<(l.length:Int):=by omega
 have hl5:((l.length:Int)==0)=false:=by rw [Ze];omega
 have hl6:((l.length:Int)==1)=false:=by rw [Ze];omega
 have hl4:¬l=[]:=by rw [hld];simp
 have hl7:(1:Int)<=(l.length:Int):=by omega
 have HN:=Za (fun w'=>zae R (by rw [hR];exact hlen) w')
 have HS:=Za (zbO hn)
 have ap:Ext w (w.alloc (.cells #[.int .u8 1,.bool pv,.int .i64 0,.int .i64 0] 132)):=(Zf _).alloc _
 have hs1:∀h,(⟨l.toArray⟩:ByteArray)[1]'h=d:=fun h=>by rw [zam l 1 h,hld];rfl
 have HK:=Za (fun w'=>zba d w')
 have am:=Za hK
 have hx2:(⟨l.toArray⟩:ByteArray).extract 2 l.length=⟨r.toArray⟩:=by rw [zai l 2 _ (Zg _),hld];rfl
 have HC:=Za (show ∀w',Calls Tryz.prog 31 #[.string ⟨r.toArray⟩,.int .u8 47] w' fun e w''=>∃v,e = .returned v/\OwnV shStr w'' w'.heap.size 9 v (spl 47 r).length (spl 47 r)/\Ext w' w'' from fun w'=>zbL 47 r (by simp only [Zk] at hlen;omega) w')
 have al:=(zaF 47 r).2
 have ak:∀k,(P.getD k []).length<=100000:=fun k=>by
  rw [Zc]
  cases hk:P[k]? with
  | none=>simp
  | some x =>
   have:=al x (by rw [hP];exact Z7 hk)
   simp only [Zk] at hlen
   show x.length<=100000
   omega
 have hne:=zee 47 r
 rw [hP] at HC hne
 obtain ⟨m,hm⟩:∃m,P.length=m:=⟨_,rfl⟩
 rw [hm] at HC
 have HM:=Za (show 0<m by
  rw [<-hm]
  exact ZM.2 hne)
 obtain ⟨p0,hp0⟩:∃p0,P.getD 0 []=p0:=⟨_,rfl⟩
 have ao:=Za hp0
 have an:=Za (fun w'=>zae p0 (by rw [<-hp0];exact ak 0) w')
 obtain ⟨B0,ah⟩:∃B,numN p0=B:=⟨_,rfl⟩
 obtain ⟨b0,ae⟩:∃b,(numS p0).isSome=b:=⟨_,rfl⟩
 have ag:=Za (And.intro ah ae)
 have hm1:(1:Int)<=(m:Int):=by have:=HM.out;omega
 have hm0:(0:Int)<(m:Int):=by have:=HM.out;omega
 have HX:=Za hX
 clear hX
 by_cases hm9:m=1
 ·have e1:((m:Int)==1)=true:=by rw [hm9];rfl
  have aj:=Za (HX.out.trans (if_pos (hm.trans hm9)))
  cases b0
  ·have HXX:=Za (show X=none by
    rw [aj.out,hp0]
    cases hq:numS p0 with
    | none=>rfl
    | some a=>rw [hq] at ae;cases ae)
   clear hld hR hlen hn hK hP ak al hne hp0 ah ae hm hm9 HX aj
   rcases hcp with ⟨rfl,rfl⟩ | ⟨rfl,rfl⟩
   all_goals
    by_cases hl32:(2:Int)<(l.length:Int)
    all_goals
     go_enter Tryz.func123,Tryz.ntmps123
     go_wp2_with (first | (go_at_call 83;(first | ((with_reducible refine (an.out _).mono ?_);rintro e w5 ⟨rfl,ab⟩;rw [ag.out.1,ag.out.2];have X7:=Za (zao X4.out ab);obtain ⟨t0,t1,t2,t3,t4,t5,t6,t7,t8⟩:=X7.out;have E7:=Za (Zi E4.out ab);have E8:=Za (Zr (p:=⟨w.heap.size,2,none⟩) E7.out (Zg _) (.int .i64 B0));clear ab) | ((with_reducible refine (HN.out _).mono ?_);rintro e w1 ⟨rfl,hq1⟩;rw [HS.out.1,HS.out.2];have X1:=Za (zao (zcU _ _ _ _ _ _) hq1);obtain ⟨a0,a1,a2,a3,a4,a5,a6,a7,a8⟩:=X1.out;have E1:=Za (ap.trans hq1);clear hq1))) | (go_at_call 154;((with_reducible refine (HK.out _).mono ?_);rintro e w2 ⟨rfl,hq2⟩;rw [am.out];have X2:=Za (zao X1.out hq2);obtain ⟨y0,y1,y2,y3,y4,y5,y6,y7,y8⟩:=X2.out;have X3:=Za (znb X2.out K);have E2:=Za (Zi E1.out hq2);have E3:=Za (Zr (p:=⟨w.heap.size,0,none⟩) E2.out (Zg _) (.int .u8 K));clear hq2 a0 a1 a2 a3 a4 a5 a6 a7 a8)) | (go_at_call 31;((with_reducible refine (HC.out _).mono ?_);rintro e w3 ⟨v3,rfl,ac,aa⟩;obtain ⟨A3,c3,rfl, -⟩:=zaf ac;obtain ⟨b3,off3,rfl,ad,ai,af⟩:=zbF ac HM.out;have d0:=af 0 HM.out;simp only [Nat.add_zero] at d0;rw [ao.out] at d0;  have n3:¬(b3=w.heap.size):=(by have h8:=X2.out.hlt;simp at ad;omega);have n4:¬(w.heap.size=b3):=(by omega);clear af ac;have X4:=Za (zao X3.out aa);obtain ⟨z0,z1,z2,z3,z4,z5,z6,z7,z8⟩:=X4.out;have E4:=Za (Zi E3.out aa);clear aa y0 y1 y2 y3 y4 y5 y6 y7 y8 ad)))
     go_ret2
     exact WordR.no HXX.out (Zp E8.out _)
  ·have HXX:=Za (show X=some [⟨K,pv,B0,0⟩] by
    rw [aj.out,hp0]
    cases hq:numS p0 with
    | none=>rw [hq] at ae;cases ae
    | some a =>
     rw [<-ah]
     unfold numN
     rw [hq]
     rfl)
   clear hld hR hlen hn hK hP ak al hne hp0 ah ae hm hm9 HX aj
   rcases hcp with ⟨rfl,rfl⟩ | ⟨rfl,rfl⟩
   all_goals
    by_cases hl32:(2:Int)<(l.length:Int)
    all_goals
     go_enter Tryz.func123,Tryz.ntmps123
     go_wp2_with (first | (go_at_call 83;(first | ((with_reducible refine (an.out _).mono ?_);rintro e w5 ⟨rfl,ab⟩;rw [ag.out.1,ag.out.2];have X7:=Za (zao X4.out ab);obtain ⟨t0,t1,t2,t3,t4,t5,t6,t7,t8⟩:=X7.out;have E7:=Za (Zi E4.out ab);have E8:=Za (Zr (p:=⟨w.heap.size,2,none⟩) E7.out (Zg _) (.int .i64 B0));clear ab) | ((with_reducible refine (HN.out _).mono ?_);rintro e w1 ⟨rfl,hq1⟩;rw [HS.out.1,HS.out.2];have X1:=Za (zao (zcU _ _ _ _ _ _) hq1);obtain ⟨a0,a1,a2,a3,a4,a5,a6,a7,a8⟩:=X1.out;have E1:=Za (ap.trans hq1);clear hq1))) | (go_at_call 154;((with_reducible refine (HK.out _).mono ?_);rintro e w2 ⟨rfl,hq2⟩;rw [am.out];have X2:=Za (zao X1.out hq2);obtain ⟨y0,y1,y2,y3,y4,y5,y6,y7,y8⟩:=X2.out;have X3:=Za (znb X2.out K);have E2:=Za (Zi E1.out hq2);have E3:=Za (Zr (p:=⟨w.heap.size,0,none⟩) E2.out (Zg _) (.int .u8 K));clear hq2 a0 a1 a2 a3 a4 a5 a6 a7 a8)) | (go_at_call 31;((with_reducible refine (HC.out _).mono ?_);rintro e w3 ⟨v3,rfl,ac,aa⟩;obtain ⟨A3,c3,rfl, -⟩:=zaf ac;obtain ⟨b3,off3,rfl,ad,ai,af⟩:=zbF ac HM.out;have d0:=af 0 HM.out;simp only [Nat.add_zero] at d0;rw [ao.out] at d0;  have n3:¬(b3=w.heap.size):=(by have h8:=X2.out.hlt;simp at ad;omega);have n4:¬(w.heap.size=b3):=(by omega);clear af ac;have X4:=Za (zao X3.out aa);obtain ⟨z0,z1,z2,z3,z4,z5,z6,z7,z8⟩:=X4.out;have E4:=Za (Zi E3.out aa);clear aa y0 y1 y2 y3 y4 y5 y6 y7 y8 ad)))
     go_ret2
     exact WordR.yes HXX.out (Vec.lit2 (by simp) rfl rfl) (Zp E8.out _)
 ·have e1:((m:Int)==1)=false:=by rw [Ze];omega
  have HXX:=Za (HX.out.trans (if_neg (fun h=>hm9 (hm.symm.trans h))))
  clear hld hR hlen hn hK hP ak al hne hp0 ah ae hm hm9 HX
  rcases hcp with ⟨rfl,rfl⟩ | ⟨rfl,rfl⟩
  all_goals
   by_cases hl32:(2:Int)<(l.length:Int)
   all_goals
    go_enter Tryz.func123,Tryz.ntmps123
    go_wp2_with (first | (go_at_call 83;(first | ((with_reducible refine (an.out _).mono ?_);rintro e w5 ⟨rfl,ab⟩;rw [ag.out.1,ag.out.2];have X7:=Za (zao X4.out ab);obtain ⟨t0,t1,t2,t3,t4,t5,t6,t7,t8⟩:=X7.out;have E7:=Za (Zi E4.out ab);have E8:=Za (Zr (p:=⟨w.heap.size,2,none⟩) E7.out (Zg _) (.int .i64 B0));clear ab) | ((with_reducible refine (HN.out _).mono ?_);rintro e w1 ⟨rfl,hq1⟩;rw [HS.out.1,HS.out.2];have X1:=Za (zao (zcU _ _ _ _ _ _) hq1);obtain ⟨a0,a1,a2,a3,a4,a5,a6,a7,a8⟩:=X1.out;have E1:=Za (ap.trans hq1);clear hq1))) | (go_at_call 154;((with_reducible refine (HK.out _).mono ?_);rintro e w2 ⟨rfl,hq2⟩;rw [am.out];have X2:=Za (zao X1.out hq2);obtain ⟨y0,y1,y2,y3,y4,y5,y6,y7,y8⟩:=X2.out;have X3:=Za (znb X2.out K);have E2:=Za (Zi E1.out hq2);have E3:=Za (Zr (p:=⟨w.heap.size,0,none⟩) E2.out (Zg _) (.int .u8 K));clear hq2 a0 a1 a2 a3 a4 a5 a6 a7 a8)) | (go_at_call 31;((with_reducible refine (HC.out _).mono ?_);rintro e w3 ⟨v3,rfl,ac,aa⟩;obtain ⟨A3,c3,rfl, -⟩:=zaf ac;obtain ⟨b3,off3,rfl,ad,ai,af⟩:=zbF ac HM.out;have d0:=af 0 HM.out;simp only [Nat.add_zero] at d0;rw [ao.out] at d0;  have n3:¬(b3=w.heap.size):=(by have h8:=X2.out.hlt;simp at ad;omega);have n4:¬(w.heap.size=b3):=(by omega);clear af ac;have X4:=Za (zao X3.out aa);obtain ⟨z0,z1,z2,z3,z4,z5,z6,z7,z8⟩:=X4.out;have E4:=Za (Zi E3.out aa);clear aa y0 y1 y2 y3 y4 y5 y6 y7 y8 ad)))
    go_ret2
    exact WordR.no HXX.out (Zp E8.out _)
end Go.Proofs.YtkneghkbgingdaaGreatDoor
