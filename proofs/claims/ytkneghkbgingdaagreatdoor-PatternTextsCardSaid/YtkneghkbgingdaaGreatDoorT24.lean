/- What the reference reads of a word with a letter and two parts. -/
import Derived.Test.YtkneghkbgingdaaGreatDoorT22
namespace Go.Proofs.YtkneghkbgingdaaGreatDoor
set_option maxHeartbeats 16000000
set_option maxRecDepth 100000
open Go.RowKit
theorem zgp (c:UInt8) (pv:Bool) (hcp:(c=107/\pv=false)∨(c=112/\pv=true)) (l R:List UInt8) (d:UInt8) (r:List UInt8) (hld:l=c::d::r) (hR:R=d::r) (hlen:(d::r).length<=100000) (hn:numS R=none) (hK:kindR d=0) (P:List (List UInt8)) (hP:spl 47 r=P) (w:World):Calls Tryz.prog 123 #[.string ⟨l.toArray⟩] w (WordR none w):=by
 have hE:(l==[121,111])=false:=by rcases hcp with ⟨rfl, -⟩ | ⟨rfl, -⟩ <;> (rw [hld];simp)
 have hp:(l.take 2==[111,110])=false:=by rcases hcp with ⟨rfl, -⟩ | ⟨rfl, -⟩ <;> (rw [hld];simp)
 have h0:∀h,(⟨l.toArray⟩:ByteArray)[0]'h=c:=fun h=>by rw [zam l 0 h,hld];rfl
 have hx1:(⟨l.toArray⟩:ByteArray).extract 1 l.length=⟨R.toArray⟩:=by rw [zai l 1 _ (Zg _),hld,hR];rfl
 have hx0:=zar l 2
 have hl2:(2:Int)<=(l.length:Int):=by rw [hld];simp only [Zk];omega
 have hl1:¬((l.length:Int)=1):=by omega
 have hl9:¬((l.length:Int)=0):=by omega
 have hl8:(0:Int)<(l.length:Int):=by omega
 have hl5:((l.length:Int)==0)=false:=by rw [Ze];omega
 have hl6:((l.length:Int)==1)=false:=by rw [Ze];omega
 have hl4:¬l=[]:=by rw [hld];simp
 have hl7:(1:Int)<=(l.length:Int):=by omega
 have HN:=Za (fun w'=>zae R (by rw [hR];exact hlen) w')
 have HS:=Za (zbO hn)
 have an:Ext w (w.alloc (.cells #[.int .u8 1,.bool pv,.int .i64 0,.int .i64 0] 132)):=(Zf _).alloc _
 have hs1:∀h,(⟨l.toArray⟩:ByteArray)[1]'h=d:=fun h=>by rw [zam l 1 h,hld];rfl
 have HK:=Za (fun w'=>zba d w')
 have ak:=Za hK
 have hx2:(⟨l.toArray⟩:ByteArray).extract 2 l.length=⟨r.toArray⟩:=by rw [zai l 2 _ (Zg _),hld];rfl
 have HC:=Za (show ∀w',Calls Tryz.prog 31 #[.string ⟨r.toArray⟩,.int .u8 47] w' fun e w''=>∃v,e = .returned v/\OwnV shStr w'' w'.heap.size 9 v (spl 47 r).length (spl 47 r)/\Ext w' w'' from fun w'=>zbL 47 r (by simp only [Zk] at hlen;omega) w')
 have aj:=(zaF 47 r).2
 have ai:∀k,(P.getD k []).length<=100000:=fun k=>by
  rw [Zc]
  cases hk:P[k]? with
  | none=>simp
  | some x =>
   have:=aj x (by rw [hP];exact Z7 hk)
   simp only [Zk] at hlen
   show x.length<=100000
   omega
 have hne:=zee 47 r
 rw [hP] at HC hne
 obtain ⟨m,hm⟩:∃m,P.length=m:=⟨_,rfl⟩
 rw [hm] at HC
 have HM:=Za (show 0<m by
  rw [<-hm]
  exact ZM.2 hne)
 obtain ⟨p0,hp0⟩:∃p0,P.getD 0 []=p0:=⟨_,rfl⟩
 have am:=Za hp0
 have al:=Za (fun w'=>zae p0 (by rw [<-hp0];exact ai 0) w')
 obtain ⟨B0,ae⟩:∃B,numN p0=B:=⟨_,rfl⟩
 obtain ⟨b0,ag⟩:∃b,(numS p0).isSome=b:=⟨_,rfl⟩
 have ad:=Za (And.intro ae ag)
 have hm1:(1:Int)<=(m:Int):=by have:=HM.out;omega
 have hm0:(0:Int)<(m:Int):=by have:=HM.out;omega
 clear hld hR hlen hn hK hP ai aj hne hp0 ae ag hm
 cases b0
 all_goals
  rcases hcp with ⟨rfl,rfl⟩ | ⟨rfl,rfl⟩
  all_goals
   by_cases hl32:(2:Int)<(l.length:Int)
   all_goals
    go_enter Tryz.func123,Tryz.ntmps123
    go_wp2_with (first | (go_at_call 83;(first | ((with_reducible refine (al.out _).mono ?_);rintro e w5 ⟨rfl,ab⟩;rw [ad.out.1,ad.out.2];have X7:=Za (zao X4.out ab);obtain ⟨t0,t1,t2,t3,t4,t5,t6,t7,t8⟩:=X7.out;have E7:=Za (Zi E4.out ab);have E8:=Za (Zr (p:=⟨w.heap.size,2,none⟩) E7.out (Zg _) (.int .i64 B0));clear ab) | ((with_reducible refine (HN.out _).mono ?_);rintro e w1 ⟨rfl,hq1⟩;rw [HS.out.1,HS.out.2];have X1:=Za (zao (zcU _ _ _ _ _ _) hq1);obtain ⟨a0,a1,a2,a3,a4,a5,a6,a7,a8⟩:=X1.out;have E1:=Za (an.trans hq1);clear hq1))) | (go_at_call 154;((with_reducible refine (HK.out _).mono ?_);rintro e w2 ⟨rfl,hq2⟩;rw [ak.out];have X2:=Za (zao X1.out hq2);obtain ⟨y0,y1,y2,y3,y4,y5,y6,y7,y8⟩:=X2.out;have X3:=Za (znb X2.out 0);have E2:=Za (Zi E1.out hq2);have E3:=Za (Zr (p:=⟨w.heap.size,0,none⟩) E2.out (Zg _) (.int .u8 0));clear hq2 a0 a1 a2 a3 a4 a5 a6 a7 a8)) | (go_at_call 31;((with_reducible refine (HC.out _).mono ?_);rintro e w3 ⟨v3,rfl,ac,aa⟩;obtain ⟨A3,c3,rfl, -⟩:=zaf ac;obtain ⟨b3,off3,rfl,af,hlt3,ah⟩:=zbF ac HM.out;have d0:=ah 0 HM.out;simp only [Nat.add_zero] at d0;rw [am.out] at d0;  have n3:¬(b3=w.heap.size):=(by have h8:=X2.out.hlt;simp at af;omega);have n4:¬(w.heap.size=b3):=(by omega);clear ah ac;have X4:=Za (zao X3.out aa);obtain ⟨z0,z1,z2,z3,z4,z5,z6,z7,z8⟩:=X4.out;have E4:=Za (Zi E3.out aa);clear aa y0 y1 y2 y3 y4 y5 y6 y7 y8 af)))
    go_ret2
    exact WordR.no rfl (Zp E8.out _)
theorem zcw (c:UInt8) (pv:Bool) (hcp:(c=107/\pv=false)∨(c=112/\pv=true)) (l R:List UInt8) (d:UInt8) (r:List UInt8) (hld:l=c::d::r) (hR:R=d::r) (hlen:(d::r).length<=100000) (hn:numS R=none) (K:Int) (hK:kindR d=K) (P:List (List UInt8)) (hP:spl 47 r=P) (h67:K=6∨K=7) (h2:¬P.length=2) (X:Option (List St)) (hX:X=if P.length=2 then (numS (P.getD 1 [])).bind fun b=>(numS (P.getD 0 [])).bind fun a=>some [⟨K,pv,a,b⟩] else none) (w:World):Calls Tryz.prog 123 #[.string ⟨l.toArray⟩] w (WordR X w):=by
 have h8:(K==8)=false:=by rcases h67 with rfl | rfl <;> rfl
 have h0':(K != 0)=true:=by rcases h67 with rfl | rfl <;> rfl
 have aa:((K==6)=true/\(K==7)=false)∨((K==6)=false/\(K==7)=true):=by rcases h67 with rfl | rfl <;> simp
 have hE:(l==[121,111])=false:=by rcases hcp with ⟨rfl, -⟩ | ⟨rfl, -⟩ <;> (rw [hld];simp)
 have hp:(l.take 2==[111,110])=false:=by rcases hcp with ⟨rfl, -⟩ | ⟨rfl, -⟩ <;> (rw [hld];simp)
 have h0:∀h,(⟨l.toArray⟩:ByteArray)[0]'h=c:=fun h=>by rw [zam l 0 h,hld];rfl
 have hx1:(⟨l.toArray⟩:ByteArray).extract 1 l.length=⟨R.toArray⟩:=by rw [zai l 1 _ (Zg _),hld,hR];rfl
 have hx0:=zar l 2
 have hl2:(2:Int)<=(l.length:Int):=by rw [hld];simp only [Zk];omega
 have hl1:¬((l.length:Int)=1):=by omega
 have hl9:¬((l.length:Int)=0):=by omega
 have hl8:(0:Int)<(l.length:Int):=by omega
 have hl5:((l.length:Int)==0)=false:=by rw [Ze];omega
 have hl6:((l.length:Int)==1)=false:=by rw [Ze];omega
 have hl4:¬l=[]:=by rw [hld];simp
 have hl7:(1:Int)<=(l.length:Int):=by omega
 have HN:=Za (fun w'=>zae R (by rw [hR];exact hlen) w')
 have HS:=Za (zbO hn)
 have ao:Ext w (w.alloc (.cells #[.int .u8 1,.bool pv,.int .i64 0,.int .i64 0] 132)):=(Zf _).alloc _
 have hs1:∀h,(⟨l.toArray⟩:ByteArray)[1]'h=d:=fun h=>by rw [zam l 1 h,hld];rfl
 have HK:=Za (fun w'=>zba d w')
 have al:=Za hK
 have hx2:(⟨l.toArray⟩:ByteArray).extract 2 l.length=⟨r.toArray⟩:=by rw [zai l 2 _ (Zg _),hld];rfl
 have HC:=Za (show ∀w',Calls Tryz.prog 31 #[.string ⟨r.toArray⟩,.int .u8 47] w' fun e w''=>∃v,e = .returned v/\OwnV shStr w'' w'.heap.size 9 v (spl 47 r).length (spl 47 r)/\Ext w' w'' from fun w'=>zbL 47 r (by simp only [Zk] at hlen;omega) w')
 have ak:=(zaF 47 r).2
 have aj:∀k,(P.getD k []).length<=100000:=fun k=>by
  rw [Zc]
  cases hk:P[k]? with
  | none=>simp
  | some x =>
   have:=ak x (by rw [hP];exact Z7 hk)
   simp only [Zk] at hlen
   show x.length<=100000
   omega
 have hne:=zee 47 r
 rw [hP] at HC hne
 obtain ⟨m,hm⟩:∃m,P.length=m:=⟨_,rfl⟩
 rw [hm] at HC
 have HM:=Za (show 0<m by
  rw [<-hm]
  exact ZM.2 hne)
 obtain ⟨p0,hp0⟩:∃p0,P.getD 0 []=p0:=⟨_,rfl⟩
 have an:=Za hp0
 have am:=Za (fun w'=>zae p0 (by rw [<-hp0];exact aj 0) w')
 obtain ⟨B0,af⟩:∃B,numN p0=B:=⟨_,rfl⟩
 obtain ⟨b0,ah⟩:∃b,(numS p0).isSome=b:=⟨_,rfl⟩
 have ae:=Za (And.intro af ah)
 have hm1:(1:Int)<=(m:Int):=by have:=HM.out;omega
 have hm0:(0:Int)<(m:Int):=by have:=HM.out;omega
 have HX:=Za hX
 clear hX h67
 have e2:((m:Int)==2)=false:=by rw [Ze];omega
 have HXX:=Za (HX.out.trans (if_neg h2))
 clear hld hR hlen hn hK hP aj ak hne hp0 af ah hm HX h2
 rcases aa with ⟨h6,h7⟩ | ⟨h6,h7⟩
 all_goals
  obtain ⟨e1,he1⟩:∃e1,((m:Int)==1)=e1:=⟨_,rfl⟩
  cases e1
  all_goals
   cases b0
   all_goals
    rcases hcp with ⟨rfl,rfl⟩ | ⟨rfl,rfl⟩
    all_goals
     by_cases hl32:(2:Int)<(l.length:Int)
     all_goals
      go_enter Tryz.func123,Tryz.ntmps123
      go_wp2_with (first | (go_at_call 83;(first | ((with_reducible refine (am.out _).mono ?_);rintro e w5 ⟨rfl,ac⟩;rw [ae.out.1,ae.out.2];have X7:=Za (zao X4.out ac);obtain ⟨t0,t1,t2,t3,t4,t5,t6,t7,t8⟩:=X7.out;have E7:=Za (Zi E4.out ac);have E8:=Za (Zr (p:=⟨w.heap.size,2,none⟩) E7.out (Zg _) (.int .i64 B0));clear ac) | ((with_reducible refine (HN.out _).mono ?_);rintro e w1 ⟨rfl,hq1⟩;rw [HS.out.1,HS.out.2];have X1:=Za (zao (zcU _ _ _ _ _ _) hq1);obtain ⟨a0,a1,a2,a3,a4,a5,a6,a7,a8⟩:=X1.out;have E1:=Za (ao.trans hq1);clear hq1))) | (go_at_call 154;((with_reducible refine (HK.out _).mono ?_);rintro e w2 ⟨rfl,hq2⟩;rw [al.out];have X2:=Za (zao X1.out hq2);obtain ⟨y0,y1,y2,y3,y4,y5,y6,y7,y8⟩:=X2.out;have X3:=Za (znb X2.out K);have E2:=Za (Zi E1.out hq2);have E3:=Za (Zr (p:=⟨w.heap.size,0,none⟩) E2.out (Zg _) (.int .u8 K));clear hq2 a0 a1 a2 a3 a4 a5 a6 a7 a8)) | (go_at_call 31;((with_reducible refine (HC.out _).mono ?_);rintro e w3 ⟨v3,rfl,ad,ab⟩;obtain ⟨A3,c3,rfl, -⟩:=zaf ad;obtain ⟨b3,off3,rfl,ag,hlt3,ai⟩:=zbF ad HM.out;have d0:=ai 0 HM.out;simp only [Nat.add_zero] at d0;rw [an.out] at d0;  have n3:¬(b3=w.heap.size):=(by have h8:=X2.out.hlt;simp at ag;omega);have n4:¬(w.heap.size=b3):=(by omega);clear ai ad;have X4:=Za (zao X3.out ab);obtain ⟨z0,z1,z2,z3,z4,z5,z6,z7,z8⟩:=X4.out;have E4:=Za (Zi E3.out ab);clear ab y0 y1 y2 y3 y4 y5 y6 y7 y8 ag)))
      go_ret2
      exact WordR.no HXX.out (Zp E8.out _)
end Go.Proofs.YtkneghkbgingdaaGreatDoor
