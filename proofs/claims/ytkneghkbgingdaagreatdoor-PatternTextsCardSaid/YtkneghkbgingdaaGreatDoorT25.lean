/- What the reference reads of a word with a letter and two parts, when there are two. -/
import Derived.Test.YtkneghkbgingdaaGreatDoorT22
namespace Go.Proofs.YtkneghkbgingdaaGreatDoor
set_option maxHeartbeats 16000000
set_option maxRecDepth 100000
open Go.RowKit
theorem zcx (c:UInt8) (pv:Bool) (hcp:(c=107/\pv=false)∨(c=112/\pv=true)) (l R:List UInt8) (d:UInt8) (r:List UInt8) (hld:l=c::d::r) (hR:R=d::r) (hlen:(d::r).length<=100000) (hn:numS R=none) (K:Int) (hK:kindR d=K) (P:List (List UInt8)) (hP:spl 47 r=P) (h67:K=6∨K=7) (h2:P.length=2) (X:Option (List St)) (hX:X=if P.length=2 then (numS (P.getD 1 [])).bind fun b=>(numS (P.getD 0 [])).bind fun a=>some [⟨K,pv,a,b⟩] else none) (w:World):Calls Tryz.prog 123 #[.string ⟨l.toArray⟩] w (WordR X w):=by
 have h8:(K==8)=false:=by rcases h67 with rfl | rfl <;> rfl
 have h0':(K != 0)=true:=by rcases h67 with rfl | rfl <;> rfl
 have af:((K==6)=true/\(K==7)=false)∨((K==6)=false/\(K==7)=true):=by rcases h67 with rfl | rfl <;> simp
 have hE:(l==[121,111])=false:=by rcases hcp with ⟨rfl, -⟩ | ⟨rfl, -⟩ <;> (rw [hld];simp)
 have hp:(l.take 2==[111,110])=false:=by rcases hcp with ⟨rfl, -⟩ | ⟨rfl, -⟩ <;> (rw [hld];simp)
 have h0:∀h,(⟨l.toArray⟩:ByteArray)[0]'h=c:=fun h=>by rw [zam l 0 h,hld];rfl
 have hx1:(⟨l.toArray⟩:ByteArray).extract 1 l.length=⟨R.toArray⟩:=by rw [zai l 1 _ (Zg _),hld,hR];rfl
 have hx0:=zar l 2
 have hl2:(2:Int)<=(l.length:Int):=by rw [hld];simp only [Zk];omega
 have hl1:¬((l.length:Int)=1):=by omega
 have hl9:¬((l.length:Int)=0):=by omega
 have hl8:(0:Int)<(l.length:Int):=by omega
 have hl5:((l.length:Int)==0)=false:=by rw [Ze];omega
 have hl6:((l.length:Int)==1)=false:=by rw [Ze];omega
 have hl4:¬l=[]:=by rw [hld];simp
 have hl7:(1:Int)<=(l.length:Int):=by omega
 have HN:=Za (fun w'=>zae R (by rw [hR];exact hlen) w')
 have HS:=Za (zbO hn)
 have aA:Ext w (w.alloc (.cells #[.int .u8 1,.bool pv,.int .i64 0,.int .i64 0] 132)):=(Zf _).alloc _
 have hs1:∀h,(⟨l.toArray⟩:ByteArray)[1]'h=d:=fun h=>by rw [zam l 1 h,hld];rfl
 have HK:=Za (fun w'=>zba d w')
 have aw:=Za hK
 have hx2:(⟨l.toArray⟩:ByteArray).extract 2 l.length=⟨r.toArray⟩:=by rw [zai l 2 _ (Zg _),hld];rfl
 have HC:=Za (show ∀w',Calls Tryz.prog 31 #[.string ⟨r.toArray⟩,.int .u8 47] w' fun e w''=>∃v,e = .returned v/\OwnV shStr w'' w'.heap.size 9 v (spl 47 r).length (spl 47 r)/\Ext w' w'' from fun w'=>zbL 47 r (by simp only [Zk] at hlen;omega) w')
 have av:=(zaF 47 r).2
 have am:∀k,(P.getD k []).length<=100000:=fun k=>by
  rw [Zc]
  cases hk:P[k]? with
  | none=>simp
  | some x =>
   have:=av x (by rw [hP];exact Z7 hk)
   simp only [Zk] at hlen
   show x.length<=100000
   omega
 have hne:=zee 47 r
 rw [hP] at HC hne
 obtain ⟨m,hm⟩:∃m,P.length=m:=⟨_,rfl⟩
 rw [hm] at HC
 have HM:=Za (show 0<m by
  rw [<-hm]
  exact ZM.2 hne)
 obtain ⟨p0,hp0⟩:∃p0,P.getD 0 []=p0:=⟨_,rfl⟩
 have az:=Za hp0
 have ax:=Za (fun w'=>zae p0 (by rw [<-hp0];exact am 0) w')
 obtain ⟨B0,ag⟩:∃B,numN p0=B:=⟨_,rfl⟩
 obtain ⟨b0,ab⟩:∃b,(numS p0).isSome=b:=⟨_,rfl⟩
 have aq:=Za (And.intro ag ab)
 have hm1:(1:Int)<=(m:Int):=by have:=HM.out;omega
 have hm0:(0:Int)<(m:Int):=by have:=HM.out;omega
 have HX:=Za hX
 clear hX h67
 have al:m=2:=hm.symm.trans h2
 have e2:((m:Int)==2)=true:=by rw [al];rfl
 have e1:((m:Int)==1)=false:=by rw [al];rfl
 have ak:1<m:=by omega
 have hm23:(1:Int)<(m:Int):=by omega
 have ae:=Za (HX.out.trans (if_pos h2))
 obtain ⟨p1,hp1⟩:∃p1,P.getD 1 []=p1:=⟨_,rfl⟩
 have HP1:=Za hp1
 have ay:=Za (fun w'=>zae p1 (by rw [<-hp1];exact am 1) w')
 obtain ⟨B1,ah⟩:∃B,numN p1=B:=⟨_,rfl⟩
 obtain ⟨b1,aa⟩:∃b,(numS p1).isSome=b:=⟨_,rfl⟩
 have ar:=Za (And.intro ah aa)
 have ad:=Za (show (b0 && b1)=true->X=some [⟨K,pv,B0,B1⟩] from fun h=>by
  rw [ae.out,hp0,hp1]
  cases hq1:numS p1 with
  | none=>rw [hq1] at aa;rw [<-aa] at h;simp at h
  | some b =>
   cases hq0:numS p0 with
   | none=>rw [hq0] at ab;rw [<-ab] at h;simp at h
   | some a =>
    rw [<-ag,<-ah]
    unfold numN
    rw [hq0,hq1]
    rfl)
 have HNO:=Za (show (b0 && b1)=false->X=none from fun h=>by
  rw [ae.out,hp0,hp1]
  cases hq1:numS p1 with
  | none=>rfl
  | some b =>
   cases hq0:numS p0 with
   | none=>rfl
   | some a =>
    rw [hq0] at ab
    rw [hq1] at aa
    rw [<-ab,<-aa] at h
    cases h)
 clear hld hR hlen hn hK hP am av hne hp0 ag ab hm al hp1 ah aa HX ae h2
 rcases af with ⟨h6,h7⟩ | ⟨h6,h7⟩
 all_goals
  cases b0 <;> cases b1
  all_goals
   rcases hcp with ⟨rfl,rfl⟩ | ⟨rfl,rfl⟩
   all_goals
    by_cases hl32:(2:Int)<(l.length:Int)
    all_goals
     go_enter Tryz.func123,Tryz.ntmps123
     go_wp2_with (first | (go_at_call 83;(first | ((with_reducible refine (ax.out _).mono ?_);rintro e w5 ⟨rfl,ao⟩;rw [aq.out.1,aq.out.2];have X7:=Za (zao X6.out ao);obtain ⟨t0,t1,t2,t3,t4,t5,t6,t7,t8⟩:=X7.out;have E7:=Za (Zi E6.out ao);have E8:=Za (Zr (p:=⟨w.heap.size,2,none⟩) E7.out (Zg _) (.int .i64 B0));clear ao) | ((with_reducible refine (ay.out _).mono ?_);rintro e w4 ⟨rfl,ac⟩;rw [ar.out.1,ar.out.2];have X5:=Za (zao X4.out ac);replace d0:=(Zs (p:=⟨b3,off3,none⟩) ac aj).trans d0;obtain ⟨u0,u1,u2,u3,u4,u5,u6,u7,u8⟩:=X5.out;have X6:=Za (zpM X5.out B1);have E5:=Za (Zi E4.out ac);have E6:=Za (Zr (p:=⟨w.heap.size,3,none⟩) E5.out (Zg _) (.int .i64 B1));clear ac z0 z1 z2 z3 z4 z5 z6 z7 z8) | ((with_reducible refine (HN.out _).mono ?_);rintro e w1 ⟨rfl,hq1⟩;rw [HS.out.1,HS.out.2];have X1:=Za (zao (zcU _ _ _ _ _ _) hq1);obtain ⟨a0,a1,a2,a3,a4,a5,a6,a7,a8⟩:=X1.out;have E1:=Za (aA.trans hq1);clear hq1))) | (go_at_call 154;((with_reducible refine (HK.out _).mono ?_);rintro e w2 ⟨rfl,hq2⟩;rw [aw.out];have X2:=Za (zao X1.out hq2);obtain ⟨y0,y1,y2,y3,y4,y5,y6,y7,y8⟩:=X2.out;have X3:=Za (znb X2.out K);have E2:=Za (Zi E1.out hq2);have E3:=Za (Zr (p:=⟨w.heap.size,0,none⟩) E2.out (Zg _) (.int .u8 K));clear hq2 a0 a1 a2 a3 a4 a5 a6 a7 a8)) | (go_at_call 31;((with_reducible refine (HC.out _).mono ?_);rintro e w3 ⟨v3,rfl,ap,an⟩;obtain ⟨A3,c3,rfl, -⟩:=zaf ap;obtain ⟨b3,off3,rfl,au,aj,ai⟩:=zbF ap HM.out;have d0:=ai 0 HM.out;simp only [Nat.add_zero] at d0;rw [az.out] at d0;have d1:=ai 1 ak;rw [HP1.out] at d1;have n3:¬(b3=w.heap.size):=(by have h8:=X2.out.hlt;simp at au;omega);have n4:¬(w.heap.size=b3):=(by omega);clear ai ap;have X4:=Za (zao X3.out an);obtain ⟨z0,z1,z2,z3,z4,z5,z6,z7,z8⟩:=X4.out;have E4:=Za (Zi E3.out an);clear an y0 y1 y2 y3 y4 y5 y6 y7 y8 au)))
     go_ret2
     first | exact WordR.no (HNO.out rfl) (Zp E8.out _) | exact WordR.yes (ad.out rfl) (Vec.lit2 (by simp) rfl rfl) (Zp E8.out _)
end Go.Proofs.YtkneghkbgingdaaGreatDoor
