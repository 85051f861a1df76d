/- The finder of the shortest list: least. -/
import Derived.Test.YtkneghkbgingdaaGreatDoorK32
namespace Go.Proofs.YtkneghkbgingdaaGreatDoor
set_option maxHeartbeats 16000000
set_option maxRecDepth 100000
open Go.RowKit Go.ChangeShapes Go.WideShapes Go.Joins
theorem FAt.r0 {w:World} {g n c a m:Nat} {A:Option Addr} {tab:Nat→Nat→Chc} (h:FAt w g n c A tab) (ha:a<60) (hm:m≤60):w.cell? ⟨g,1+a*183+m*3,none⟩=some (.int .i64 ((tab a m).size:Nat)):=h.tb a m 0 ha hm (by omega)
theorem zdI (g n c:Nat) (A:Option Addr) (l:List St) (a m:Nat) (w:World) (hl:Vec shSt w A n l) (hg:w.cell? ⟨g,0,none⟩=some (.slice A n c)) (ham:a+m≤n) (hn:n≤60) (hpm:1≤m) :
  Calls Tryz.prog 184 #[.pointer (some ⟨g,0,none⟩),.int .i64 a,.int .i64 m,.int .i64 1] w fun e w'=>e = .returned (.bool (perB (sub l a m) 1))∧Ext w w':=zbb g n c A l a m 1 w hl hg ham hn (Zf 1) hpm
theorem ziP (g n c:Nat) (A:Option Addr) (l:List St) (hn:n≤60) (hln:l.length=n) (hne:∀b off,A=some ⟨b,off,none⟩→b≠g):∀(M a m:Nat) (tab:Nat→Nat→Chc) (w:World),m≤M→1≤m→a+m≤n→Vec shSt w A n l→FAt w g n c A tab→TabOk l tab m→∀(ai mi:Int),ai=(a:Int)→mi=(m:Int) →
  Calls Tryz.prog 166 #[.pointer (some ⟨g,0,none⟩),.int .i64 ai,.int .i64 mi] w fun e w'=>∃tab',e = .returned (.int .i64 (chS (sub l a m):Nat))∧Least l g n c A tab a m w w' tab':=by
 intro M
 induction M with
 | zero=>intro a m tab w h0 h1;omega
 | succ M ih =>
  intro a m tab w hM h1 ham hv ht hok ai mi hai hmi
  subst hai
  subst hmi
  have IH:=Za ih
  have HV:=Za hv
  have HT:=Za ht
  have HOK:=Za hok
  have ha:a<60:=by omega
  have hm:m≤60:=by omega
  have q0:(0:Int)≤(a:Int):=by omega
  have q1:(a:Int)<60:=by omega
  have q2:(0:Int)≤(m:Int):=by omega
  have q3:(m:Int)<61:=by omega
  have hgz:=ht.lt
  have hr0:=ht.r0 ha hm
  have hpos:=zdV (l:=l) (a:=a) (m:=m) (by omega) h1
  have hsn:=zdN (l:=l) (a:=a) (n:=m) (by omega) h1
  clear ih hv
  rcases hok a m h1 (Zf _) (by omega) with h0 | h0
  case inr =>
   have HIT:=Za h0
   rw [h0] at hr0
   have hS:chS (sub l a m)=(ch (sub l a m)).size:=rfl
   rw [hS]
   generalize hs:(ch (sub l a m)).size=sz at *
   have q4:(0:Int)<(sz:Int):=by omega
   clear hok ht hs hS h0
   go_enter Tryz.func166,Tryz.ntmps166
   go_wp2_with fail
   go_ret
   exact ⟨tab,rfl,HT.out,HOK.out,fun _ _ _=>rfl,HIT.out,But.refl _ _⟩
  rw [h0] at hr0
  have hfz:=ht.fz
  have f0:=hfz (1+a*183+m*3)
  have H0:=Za h0
  cases hp1:perB (sub l a m) 1
  case true =>
   have HC1:=Za (znm hsn hp1)
   have HP1:=Za hp1
   clear hok ht h0 hfz hp1
   go_enter Tryz.func166,Tryz.ntmps166
   go_wp2_with (first
    | (go_at_call 184;((with_reducible refine (zdI g n c A l a m _ HV.out HT.out.hd (by omega) hn (by omega)).mono ?_);rintro e w1 ⟨rfl,hq⟩;rw [HP1.out];have HL:=Za ((LI.start (s:=1) HT.out HOK.out H0.out).ext hq);have r1:=HL.out.at_.r0 ha hm;rw [H0.out] at r1;have f1:=HL.out.at_.fz (1+a*183+m*3);have z1:=HL.out.at_.lt;clear hq)))
   go_ret
   exact ⟨_,by rw [show chS (sub l a m)=(ch (sub l a m)).size from rfl,HC1.out];rfl,HL.out.done ha hm h1 HOK.out HC1.out⟩
  obtain ⟨hm2,hch⟩:=zj8 hsn hp1
  rw [za8 (by omega)] at hm2 hch
  have HCH:=Za hch
  have HP1:=Za hp1
  have s1:=Zp ((m:Int)+1) (by omega)
  have s2:=Zp ((m:Int)-1) (by omega)
  have hsl:=za8 (l:=l) (a:=a) (n:=m) (by omega)
  have HSL:=Za hsl
  clear hok ht h0 hfz hp1 hch hsl
  go_enter Tryz.func166,Tryz.ntmps166
  go_wp2_with (first
   | (go_at_call 184;((with_reducible refine (zdI g n c A l a m _ HV.out HT.out.hd (by omega) hn (by omega)).mono ?_);rintro e w1 ⟨rfl,hq⟩;rw [HP1.out];have HL0:=Za ((LI.start (s:=m+1) HT.out HOK.out H0.out).ext hq);clear hq)))
  go_loopw [8,9] (fun u i wr=>∃(P:Nat) (cc:Chc) (tb:Nat→Nat→Chc),u = .int .i64 (cc.size:Nat)∧i = .int .i64 (P:Nat)∧2≤P∧P≤m∧cc.size≤m+1∧cc.part=0∧Hid (LI l g n c A tab a m w wr tb cc)∧Hid (ch (sub l a m)=fin2 (sub l a m) m (fin1 (sub l a m) P cc))) (fun _ i _=>m-(intOf i).toNat)
  case atStart=>exact ⟨2,⟨m+1,0,0⟩,tab,by simp,rfl,by omega,hm2,by simp,rfl,HL0,HCH⟩
  case round =>
   clear HL0 hr0 f0 hgz
   obtain ⟨P,cc,tb,rfl,rfl,hP2,hPm,hcs,hcp,HL,HF⟩:=hrel
   have z1:=HL.out.at_.lt
   have p0:=Zp ((P:Int)+1) (by omega)
   have HVW:=Za (HV.out.far HL.out.but hne)
   by_cases hlt:P<m
   ·have p1:(P:Int)<(m:Int):=by omega
    have hfs:=zdb (l:=sub l a m) (P:=P) (by rw [HSL.out];exact hlt) cc
    cases hper:perB (sub l a m) P
    case false =>
     have HPR:=Za hper
     have HF2:=Za (by have h9:=HF.out;rw [hfs,znL hper] at h9;exact h9)
     clear hper hfs HF
     go_wp2_with (first
      | (go_at_call 184;((with_reducible refine (zbb g n c A l a m P _ HVW.out HL.out.at_.hd (by omega) hn (by omega) (by omega)).mono ?_);rintro e w2 ⟨rfl,hq⟩;rw [HPR.out];have HL2:=Za (HL.out.ext hq);clear hq)))
     go_roundw
     case rel=>exact ⟨P+1,cc,tb,rfl,by go_num,by omega,by omega,hcs,hcp,HL2,HF2⟩
     case measure=>simp [intOf] <;> omega
    case true =>
     have HPR:=Za hper
     have hpb:=zdV (l:=l) (a:=a) (m:=P) (by omega) (by omega)
     have htk:=zcY (l:=l) (a:=a) (n:=m) (p:=P) (by omega)
     obtain ⟨sz,hsz⟩:∃sz,chS (sub l a P)=sz:=⟨_,rfl⟩
     have hsz2:(ch (sub l a P)).size=sz:=hsz
     rw [hsz2] at hpb
     have p2:=Zp (1+(sz:Int)) (by omega)
     have HSZ:=Za hsz
     by_cases hb:1+sz<cc.size
     ·have HF2:=Za (by have h9:=HF.out;rw [hfs,zmH hP2 hper (by rw [htk,hsz];exact hb),htk,hsz] at h9;exact h9)
      have p3:1+(sz:Int)<(cc.size:Int):=by omega
      clear hper hfs HF hsz hsz2 htk
      go_wp2_with (first
       | (go_at_call 184;((with_reducible refine (zbb g n c A l a m P _ HVW.out HL.out.at_.hd (by omega) hn (by omega) (by omega)).mono ?_);rintro e w2 ⟨rfl,hq⟩;rw [HPR.out];have HL2:=Za (HL.out.ext hq);have HVW2:=Za (Vec.ext HVW.out hq);clear hq))
       | (go_at_call 166;((with_reducible refine (IH.out a P _ _ (by omega) (by omega) (by omega) HVW2.out HL2.out.at_ (HL2.out.ok.down (by omega)) _ _ rfl rfl).mono ?_);rintro e w3 ⟨tb2,rfl,hq⟩;rw [HSZ.out];have HL3:=Za (HL2.out.call hlt hq);clear hq;have c1:=HL3.out.at_.tb a m 1 ha hm (by omega);have f1:=HL3.out.at_.fz (1+a*183+m*3+1);have z3:=HL3.out.at_.lt)))
      have HL4:=Za (HL3.out.set (cc2:=⟨1+sz,P,0⟩) ha hm (i:=1) (by omega) P (by rw [hcp];rfl))
      go_roundw
      case rel=>exact ⟨P+1,⟨1+sz,P,0⟩,_,by go_num,by go_num,by omega,by omega,by show 1+sz≤m+1;omega,rfl,HL4,HF2⟩
      case measure=>simp [intOf] <;> omega
     ·have HF2:=Za (by have h9:=HF.out;rw [hfs,zmF (by rw [htk,hsz];exact hb)] at h9;exact h9)
      have p3:¬(1+(sz:Int)<(cc.size:Int)):=by omega
      clear hper hfs HF hsz hsz2 htk
      go_wp2_with (first
       | (go_at_call 184;((with_reducible refine (zbb g n c A l a m P _ HVW.out HL.out.at_.hd (by omega) hn (by omega) (by omega)).mono ?_);rintro e w2 ⟨rfl,hq⟩;rw [HPR.out];have HL2:=Za (HL.out.ext hq);have HVW2:=Za (Vec.ext HVW.out hq);clear hq))
       | (go_at_call 166;((with_reducible refine (IH.out a P _ _ (by omega) (by omega) (by omega) HVW2.out HL2.out.at_ (HL2.out.ok.down (by omega)) _ _ rfl rfl).mono ?_);rintro e w3 ⟨tb2,rfl,hq⟩;rw [HSZ.out];have HL3:=Za (HL2.out.call hlt hq);clear hq;have c1:=HL3.out.at_.tb a m 1 ha hm (by omega);have f1:=HL3.out.at_.fz (1+a*183+m*3+1);have z3:=HL3.out.at_.lt)))
      go_roundw
      case rel=>exact ⟨P+1,cc,_,rfl,by go_num,by omega,by omega,hcs,hcp,HL3,HF2⟩
      case measure=>simp [intOf] <;> omega
   ·have HF2:=Za (by have h9:=HF.out;rw [zkr (by rw [HSL.out];omega)] at h9;exact h9)
    clear HF
    go_wp2_with fail
    go_loopw [8,11] (fun u i wr=>∃(I:Nat) (cc:Chc) (tb:Nat→Nat→Chc),u = .int .i64 (cc.size:Nat)∧i = .int .i64 (I:Nat)∧I+1≤m∧cc.size≤m+1∧Hid (LI l g n c A tab a m w wr tb cc)∧Hid (ch (sub l a m)=fin2 (sub l a m) (I+1) cc)) (fun _ i _=>(intOf i).toNat)
    case atStart=>exact ⟨m-1,cc,tb,rfl,by congr 1;omega,by omega,hcs,HL,Za (by have h9:=HF2.out;rw [show m-1+1=m by omega];exact h9)⟩
    case round =>
     clear HL HF2 z1 p0 HVW hcs hcp
     obtain ⟨I,c2,tb3,rfl,rfl,hI,hcs2,HL,HF⟩:=hrel
     have z1:=HL.out.at_.lt
     have HVW:=Za (HV.out.far HL.out.but hne)
     by_cases hI0:0<I
     ·have p1:(0:Int)<(I:Int):=by omega
      have p0:=Zp ((I:Int)-1) (by omega)
      have p4:=Zp ((a:Int)+(I:Int)) (by omega)
      have p5:=Zp ((m:Int)-(I:Int)) (by omega)
      have e3:(a:Int)+(I:Int)=((a+I:Nat):Int):=by omega
      have e4:(m:Int)-(I:Int)=((m-I:Nat):Int):=by omega
      have hIm:I<m:=by omega
      have hmI:m-I<m:=by omega
      have hfs:=zeU (sub l a m) I c2
      have htk:=zcY (l:=l) (a:=a) (n:=m) (p:=I) (by omega)
      have hdr:=zhb (l:=l) (a:=a) (n:=m) (k:=I) (by omega)
      have hb1:=zdV (l:=l) (a:=a) (m:=I) (by omega) (by omega)
      have hb2:=zdV (l:=l) (a:=a+I) (m:=m-I) (by omega) (by omega)
      obtain ⟨sz1,hsz1⟩:∃sz,chS (sub l a I)=sz:=⟨_,rfl⟩
      obtain ⟨sz2,hsz2⟩:∃sz,chS (sub l (a+I) (m-I))=sz:=⟨_,rfl⟩
      have k1:(ch (sub l a I)).size=sz1:=hsz1
      have k2:(ch (sub l (a+I) (m-I))).size=sz2:=hsz2
      rw [k1] at hb1
      rw [k2] at hb2
      have p2:=Zp ((sz1:Int)+(sz2:Int)) (by omega)
      have HS1:=Za hsz1
      have HS2:=Za hsz2
      have HE3:=Za e3
      have HE4:=Za e4
      clear k1 k2 e3 e4
      by_cases hb:sz1+sz2<c2.size
      ·have HF2:=Za (by have h9:=HF.out;rw [hfs,zkX hI0 (by rw [htk,hdr,hsz1,hsz2];exact hb),htk,hdr,hsz1,hsz2] at h9;exact h9)
       have p3:(sz1:Int)+(sz2:Int)<(c2.size:Int):=by omega
       clear hfs HF hsz1 hsz2 htk hdr
       go_wp2_with (first
        | (go_at_call 166;(first | ((with_reducible refine (IH.out (a+I) (m-I) _ _ (by omega) (by omega) (by omega) HVW2.out HL3.out.at_ (HL3.out.ok.down (by omega)) _ _ HE3.out HE4.out).mono ?_);rintro e w4 ⟨tb5,rfl,hq⟩;rw [HS2.out];have HL4:=Za (HL3.out.call hmI hq);clear hq;have c1:=HL4.out.at_.tb a m 1 ha hm (by omega);have c2':=HL4.out.at_.tb a m 2 ha hm (by omega);have f1:=HL4.out.at_.fz (1+a*183+m*3+1);have f2:=HL4.out.at_.fz (1+a*183+m*3+2);have z3:=HL4.out.at_.lt) | (((with_reducible refine (IH.out a I _ _ (by omega) (by omega) (by omega) HVW.out HL.out.at_ (HL.out.ok.down (by omega)) _ _ rfl rfl).mono ?_);rintro e w3 ⟨tb4,rfl,hq⟩;rw [HS1.out];have HL3:=Za (HL.out.call hIm hq);have HVW2:=Za (HVW.out.far hq.but hne);clear hq)))))
       have HL5:=Za (show LI l g n c A tab a m w (w4.setCell ⟨g,1+a*183+m*3+1,none⟩ (.int .i64 0)) _ _ from HL4.out.set (cc2:=⟨sz1+sz2,0,c2.part⟩) ha hm (i:=1) (by omega) 0 rfl)
       have HL6:=Za (HL5.out.set (cc2:=⟨sz1+sz2,0,I⟩) ha hm (i:=2) (by omega) I rfl)
       go_roundw
       case rel=>exact ⟨I-1,⟨sz1+sz2,0,I⟩,_,by go_num,by congr 1;omega,by omega,by show sz1+sz2≤m+1;omega,HL6,Za (by have h9:=HF2.out;rw [show I-1+1=I by omega];exact h9)⟩
       case measure=>simp [intOf] <;> omega
      ·have HF2:=Za (by have h9:=HF.out;rw [hfs,zmA (by rw [htk,hdr,hsz1,hsz2];exact hb)] at h9;exact h9)
       have p3:¬((sz1:Int)+(sz2:Int)<(c2.size:Int)):=by omega
       clear hfs HF hsz1 hsz2 htk hdr
       go_wp2_with (first
        | (go_at_call 166;(first | ((with_reducible refine (IH.out (a+I) (m-I) _ _ (by omega) (by omega) (by omega) HVW2.out HL3.out.at_ (HL3.out.ok.down (by omega)) _ _ HE3.out HE4.out).mono ?_);rintro e w4 ⟨tb5,rfl,hq⟩;rw [HS2.out];have HL4:=Za (HL3.out.call hmI hq);clear hq;have c1:=HL4.out.at_.tb a m 1 ha hm (by omega);have c2':=HL4.out.at_.tb a m 2 ha hm (by omega);have f1:=HL4.out.at_.fz (1+a*183+m*3+1);have f2:=HL4.out.at_.fz (1+a*183+m*3+2);have z3:=HL4.out.at_.lt) | (((with_reducible refine (IH.out a I _ _ (by omega) (by omega) (by omega) HVW.out HL.out.at_ (HL.out.ok.down (by omega)) _ _ rfl rfl).mono ?_);rintro e w3 ⟨tb4,rfl,hq⟩;rw [HS1.out];have HL3:=Za (HL.out.call hIm hq);have HVW2:=Za (HVW.out.far hq.but hne);clear hq)))))
       go_roundw
       case rel=>exact ⟨I-1,c2,_,rfl,by congr 1;omega,by omega,hcs2,HL4,Za (by have h9:=HF2.out;rw [show I-1+1=I by omega];exact h9)⟩
       case measure=>simp [intOf] <;> omega
     ·obtain rfl:I=0:=by omega
      have HCF:=Za (by have h9:=HF.out;rw [Nat.zero_add,zks] at h9;exact h9)
      have r1:=HL.out.at_.r0 ha hm
      rw [HL.out.it] at r1
      have f1:=HL.out.at_.fz (1+a*183+m*3)
      clear HF
      go_wp2_with fail
      go_ret
      have hS:chS (sub l a m)=c2.size:=congrArg Chc.size HCF.out
      exact ⟨by rw [hS];rfl,_,HL.out.done ha hm h1 HOK.out HCF.out⟩
end Go.Proofs.YtkneghkbgingdaaGreatDoor
