/- Instructions have not more lines than the chart has rows, their lines stand for as many rows as it has, and no two lines one after the other tell that a row comes again; for any valid chart. -/
import Derived.Test.YtkneghkbgingdaaGreatDoorL47
import Derived.Test.YtkneghkbgingdaaGreatDoorL37
import Derived.Test.YtkneghkbgingdaaGreatDoorL18
import Derived.Test.YtkneghkbgingdaaGreatDoorL17
import Derived.Test.YtkneghkbgingdaaGreatDoorL43
import Derived.Test.YtkneghkbgingdaaGreatDoorL08
import Derived.Test.YtkneghkbgingdaaGreatDoorCards
namespace Go.Proofs.YtkneghkbgingdaaGreatDoor
set_option maxHeartbeats 16000000
set_option maxRecDepth 100000
open Go.ChangeShapes Go.WideShapes Go.ChangeAt Go.RowKit Go.Joins
theorem patternLines_walk (sc:Int) (A:Option Addr) (n c:Nat) (rows:List Ro) (w:World) (hr:Rws w (fun _=>True) A n rows) (hg:Glob w) :
  Calls Tryz.prog 7 #[.agg #[.int .i64 sc,.slice A n c]] w fun e w'=>e = .returned (.bool true)∧Ext w w':=by
 have HN:=Lib.hid hr.len
 have HR:=Lib.hid hr
 have HG:=Lib.hid hg
 have HBX:=Lib.hid (BoxC.start w sc A n c)
 have HW0:=Lib.hid (show Ext w (w.alloc (.cells #[.int .i64 sc,.slice A n c] 24)) from (Ext.refl w).alloc _)
 have HAL:=Lib.hid (fun (w':World) (hx:Ext (w.alloc (.cells #[.int .i64 sc,.slice A n c] 24)) w')=>zgO w' (HG.out.ext (HW0.out.trans hx)))
 have HGR:=Lib.hid (fun (w':World) (hx:Ext (w.alloc (.cells #[.int .i64 sc,.slice A n c] 24)) w')=>zgI sc A n c rows w' (HR.out.ext (HW0.out.trans hx)))
 have HCK:=Lib.hid (fun (w':World) (hx:Ext (w.alloc (.cells #[.int .i64 sc,.slice A n c] 24)) w')=>zfr sc A n c rows w' (HR.out.ext (HW0.out.trans hx)))
 clear hr hg
 by_cases h0:chkC sc rows≠0
 ·obtain ⟨v,hv⟩:∃v,chkC sc rows=v:=⟨_,rfl⟩
  rw [hv] at HCK h0
  have hne:(v != 0)=true:=by simpa using h0
  clear h0 hv
  go_enter Tryz.func7,Tryz.ntmps7
  go_wp2_with (first
   | (go_at_call 29;((with_reducible refine (HAL.out _ zx).mono ?_);rintro e w1 ⟨rfl,hq1⟩;have HE1:=Lib.hid (zx:Ext (w.alloc (.cells #[.int .i64 sc,.slice A n c] 24)) w1);obtain ⟨x0,x1,xz⟩:=(HBX.out.ext HE1.out).facts))
   | (go_at_call 9;((with_reducible refine (HGR.out _ (HE1.out.trans zx)).mono ?_);rintro e w2 ⟨⟨b,rfl⟩,hq2⟩;have HE2:=Lib.hid (HE1.out.trans (zx:Ext w1 w2));obtain ⟨x0,x1,xz⟩:=(HBX.out.ext HE2.out).facts;cases b))
   | (go_at_call 30;((with_reducible refine (HCK.out _ (HE2.out.trans zx)).mono ?_);rintro e w3 ⟨rfl,hq3⟩;have HE3:=Lib.hid (HE2.out.trans (zx:Ext w2 w3));obtain ⟨x0,x1,xz⟩:=(HBX.out.ext HE3.out).facts)))
  all_goals (go_ret;exact ⟨rfl,by have h1:=HW0.out;have h2:=HE1.out;repeat (first|exact zr _|assumption|refine za ?_ _|refine zd ?_|refine zn ?_ _|refine zt ?_ (by assumption))⟩)
 have H1:=Lib.hid (fun (w':World) (hx:Ext (w.alloc (.cells #[.int .i64 sc,.slice A n c] 24)) w')=>zbZ sc A n c rows w' (HR.out.ext (HW0.out.trans hx)) (HG.out.ext (HW0.out.trans hx)))
 unfold PRowsR at H1
 have h0:=Classical.not_not.1 h0
 have HCH:=Lib.hid h0
 rw [h0] at HCK
 rcases (zmt h0).symm with he | he
 ·obtain ⟨V,hV⟩:∃V,rowsV sc rows=V:=⟨_,rfl⟩
  rw [he,hV] at H1
  clear h0 he hV
  go_enter Tryz.func7,Tryz.ntmps7
  go_wp2_with (first
   | (go_at_call 29;((with_reducible refine (HAL.out _ zx).mono ?_);rintro e w1 ⟨rfl,hq1⟩;have HE1:=Lib.hid (zx:Ext (w.alloc (.cells #[.int .i64 sc,.slice A n c] 24)) w1);obtain ⟨x0,x1,xz⟩:=(HBX.out.ext HE1.out).facts))
   | (go_at_call 9;((with_reducible refine (HGR.out _ (HE1.out.trans zx)).mono ?_);rintro e w2 ⟨⟨b,rfl⟩,hq2⟩;have HE2:=Lib.hid (HE1.out.trans (zx:Ext w1 w2));obtain ⟨x0,x1,xz⟩:=(HBX.out.ext HE2.out).facts;cases b))
   | (go_at_call 30;((with_reducible refine (HCK.out _ (HE2.out.trans zx)).mono ?_);rintro e w3 ⟨rfl,hq3⟩;have HE3:=Lib.hid (HE2.out.trans (zx:Ext w2 w3));obtain ⟨x0,x1,xz⟩:=(HBX.out.ext HE3.out).facts))
   | (go_at_call 10;((with_reducible refine (H1.out _ (HE3.out.trans zx)).mono ?_);rintro e w4 ⟨rfl,hq4⟩;have HE4:=Lib.hid (HE3.out.trans (zx:Ext w3 w4));obtain ⟨x0,x1,xz⟩:=(HBX.out.ext HE4.out).facts)))
  all_goals (go_ret;exact ⟨rfl,by have h1:=HW0.out;have h2:=HE1.out;repeat (first|exact zr _|assumption|refine za ?_ _|refine zd ?_|refine zn ?_ _|refine zt ?_ (by assumption))⟩)
 ·obtain ⟨-,T,hT,hTl,hTv⟩:=zgm he
  rw [he,hTv] at H1
  have HST:=Lib.hid (LnSt.start hT)
  clear h0 he hT hTv
  go_enter Tryz.func7,Tryz.ntmps7
  go_wp2_with (first
   | (go_at_call 29;((with_reducible refine (HAL.out _ zx).mono ?_);rintro e w1 ⟨rfl,hq1⟩;have HE1:=Lib.hid (zx:Ext (w.alloc (.cells #[.int .i64 sc,.slice A n c] 24)) w1);obtain ⟨x0,x1,xz⟩:=(HBX.out.ext HE1.out).facts))
   | (go_at_call 9;((with_reducible refine (HGR.out _ (HE1.out.trans zx)).mono ?_);rintro e w2 ⟨⟨b,rfl⟩,hq2⟩;have HE2:=Lib.hid (HE1.out.trans (zx:Ext w1 w2));obtain ⟨x0,x1,xz⟩:=(HBX.out.ext HE2.out).facts;cases b))
   | (go_at_call 30;((with_reducible refine (HCK.out _ (HE2.out.trans zx)).mono ?_);rintro e w3 ⟨rfl,hq3⟩;have HE3:=Lib.hid (HE2.out.trans (zx:Ext w2 w3));obtain ⟨x0,x1,xz⟩:=(HBX.out.ext HE3.out).facts))
   | (go_at_call 10;((with_reducible refine (H1.out _ (HE3.out.trans zx)).mono ?_);rintro e w4 ⟨rfl,hq4⟩;have HE4:=Lib.hid (HE3.out.trans (zx:Ext w3 w4));obtain ⟨x0,x1,xz⟩:=(HBX.out.ext HE4.out).facts)))
  all_goals (first | (go_ret;exact ⟨rfl,by have h1:=HW0.out;have h2:=HE1.out;repeat (first|exact zr _|assumption|refine za ?_ _|refine zd ?_|refine zn ?_ _|refine zt ?_ (by assumption))⟩) | skip)
  have HE4':=HE4
  clear x0 x1 xz
  have hlen:T.length≤60000:=hTl
  have HHN:=Lib.hid HN.out
  go_loopw [6,7,8,9] (fun a b d e wr=>∃(q i p:Nat) (bf:Bool),a = .int .i64 (q:Int)∧b = .int .i64 (i:Int)∧d = .bool bf∧e = .int .i64 (p:Int)∧q≤i∧i≤rows.length∧p≤T.length∧Hid (LnSt rows i (T.drop p))∧Hid (bf=true→repT rows i 1=0)∧Hid (Ext (w.alloc (.cells #[.int .i64 sc,.slice A n c] 24)) wr)) (fun _ _ _ e _=>T.length-(intOf e).toNat)
  case atStart=>exact ⟨0,0,0,false,rfl,rfl,rfl,rfl,Nat.le_refl _,Nat.zero_le _,Nat.zero_le _,HST,Lib.hid (fun h=>by cases h),HE4'⟩
  case round =>
   obtain ⟨q,i,p,bf,rfl,rfl,rfl,rfl,hq,hi,hp,HLS,HBF,HE⟩:=hrel
   obtain ⟨wa,rfl⟩:∃wa:World,wa=wr:=⟨_,rfl⟩
   have hq0:(0:Int)≤(p:Int):=by omega
   by_cases hlt:p<T.length
   ·have hq1:(p:Int)<(T.length:Int):=by omega
    have hcase:∃(L R':List UInt8) (d:Nat),Hid (LnRd rows i T p L R' d)∧L.length≤4000∧Hid ((∃(k m:Nat),L=agnB++decD k++32::decD m∧d=k*m∧(k=1∨k=2)∧1≤m∧m≤100∧(repT rows i 1=0→k=2)∧(k=1→repT rows (i+k*m) 1=0))∨(d=1∧∃b,(spl 32 L).getD 0 []=sideB b)):=by
     rcases zkg HCH.out HLS.out hlt with ⟨k,m,R',h1,h2,h3,h4,h5,h6⟩ | ⟨b,L,R',h1,h2,h3⟩
     ·have h7:=zba (n:=k) (by omega)
      have h8:=zba (n:=m) (by omega)
      exact ⟨_,R',_,Lib.hid h1,by simp [agnB];omega,Lib.hid (.inl ⟨k,m,rfl,rfl,h2,h3,h4,h5,h6⟩)⟩
     ·exact ⟨L,R',1,Lib.hid h1,by omega,Lib.hid (.inr ⟨rfl,b,h2⟩)⟩
    obtain ⟨L,R',d,HLR,hLl,HCS⟩:=hcase
    have hle:=HLR.out.le
    go_wp2_with fail
    go_loopw [10] (fun t wx=>∃j:Nat,t = .int .i64 ((p:Int)+(j:Int))∧j≤L.length∧wx=wa) (fun t _=>p+L.length-(intOf t).toNat)
    case atStart=>exact ⟨0,by simp,Nat.zero_le _,rfl⟩
    case round =>
     obtain ⟨j,rfl,hj,rfl⟩:=hrel
     have hc1:((p:Int)+(j:Int))=((p+j:Nat):Int):=by omega
     rw [hc1]
     have h5:=zan T (p+j)
     have hj0:(0:Int)≤((p+j:Nat):Int):=by omega
     have hj1:((p+j:Nat):Int)<(T.length:Int):=by omega
     by_cases hjl:j<L.length
     ·have h6:=HLR.out.at_ j hjl
      obtain ⟨x,hx⟩:∃x,T.getD (p+j) 0=x:=⟨_,rfl⟩
      rw [hx] at h5 h6
      have b1:((x.toNat:Int) != 10)=true:=by
       rw [bne_iff_ne]
       intro h9
       exact h6 (UInt8.toNat_inj.1 (by rw [show (10:UInt8).toNat=10 from rfl];omega))
      clear h6 hx hc1
      obtain ⟨pj,hpj⟩:∃pj,p+j=pj:=⟨_,rfl⟩
      rw [hpj] at h5 hj0 hj1 ⊢
      have HPJ:=Lib.hid hpj
      clear hpj
      have i1:=IntWalk.i64_in ((pj:Int)+1) ⟨by omega,by omega⟩
      go_wp2_with fail
      go_roundw
      case rel=>exact ⟨j+1,by have h9:=HPJ.out;congr 1;omega,by omega,by first | rfl | trivial⟩
      case measure=>have h9:=HPJ.out;simp [intOf];omega
     ·obtain rfl:j=L.length:=by omega
      have h6:=HLR.out.nl
      rw [h6] at h5
      clear h6 hc1
      have hx:=zi8 T p (p+L.length)
      rw [show p+L.length-p=L.length by omega,HLR.out.ex] at hx
      obtain ⟨pl,hpl⟩:∃pl,p+L.length=pl:=⟨_,rfl⟩
      rw [hpl] at h5 hj0 hj1 hx ⊢
      have HPL:=Lib.hid hpl
      have HDR:=Lib.hid HLR.out.dr
      have HNX:=Lib.hid HLR.out.nx
      have HPD:=Lib.hid (And.intro HLR.out.pos HLR.out.bd)
      have hpp:(p:Int)≤(pl:Int):=by omega
      have hpt:(pl:Int)≤(T.length:Int):=by omega
      have hrl:rows.length≤100:=(zbP HCH.out).1
      have i1:=IntWalk.i64_in ((q:Int)+1) ⟨by omega,by omega⟩
      have i2:=IntWalk.i64_in ((pl:Int)+1) ⟨by omega,by omega⟩
      clear hpl
      rcases HCS.out with ⟨k,m,hL,hd,hk,hm1,hm2,hk2,hk1⟩ | ⟨hd,b,hb⟩
      ·have HCU:=Lib.hid (fun (w':World)=>(show Calls Tryz.prog 31 #[.string ⟨L.toArray⟩,.int .u8 32] w' fun e w''=>∃(b off c:Nat),e = .returned (.slice (some ⟨b,off,none⟩) 3 c)∧Ext w' w''∧w''.cell? ⟨b,off,none⟩=some (.string ⟨agn5.toArray⟩)∧w''.cell? ⟨b,off+1,none⟩=some (.string ⟨(decD k).toArray⟩)∧w''.cell? ⟨b,off+2,none⟩=some (.string ⟨(decD m).toArray⟩)∧b<w''.heap.size from by
        refine (zaW 32 L (by omega) w').mono ?_
        rintro e w9 ⟨v,rfl,ho,hb⟩
        rw [hL,zly (by omega) (by omega)] at ho
        obtain ⟨A,c,rfl,hv⟩:=zbm ho
        obtain ⟨b,off,rfl,h1,h2⟩:=hv.word (k:=0) (by simp)
        obtain ⟨b',off',e1, -,h3⟩:=hv.word (k:=1) (by simp)
        obtain ⟨b'',off'',e2, -,h4⟩:=hv.word (k:=2) (by simp)
        cases e1
        cases e2
        exact ⟨b,off,c,rfl,hb,h2,h3,h4,h1⟩))
       have HNK:=Lib.hid (fun (w':World)=>(show Calls Tryz.prog 32 #[.string ⟨(decD k).toArray⟩] w' fun e w''=>e = .returned (.tuple #[.int .i64 (k:Int),.bool true])∧Ext w' w'' from by
        have h9:=zeG (decD k) (by have:=zba (n:=k) (by omega);omega) w'
        unfold Num7R num7I at h9
        rw [zdG (by omega)] at h9
        exact h9))
       have HNM:=Lib.hid (fun (w':World)=>(show Calls Tryz.prog 32 #[.string ⟨(decD m).toArray⟩] w' fun e w''=>e = .returned (.tuple #[.int .i64 (m:Int),.bool true])∧Ext w' w'' from by
        have h9:=zeG (decD m) (by have:=zba (n:=m) (by omega);omega) w'
        unfold Num7R num7I at h9
        rw [zdG (by omega)] at h9
        exact h9))
       have HD:=Lib.hid hd
       have HBN:=Lib.hid hk1
       have HK2:=Lib.hid hk2
       have HM:=Lib.hid (And.intro hm1 hm2)
       clear hL hd hk1 hk2 hm1 hm2
       rcases hk with rfl | rfl
       ·cases bf
        case true=>exact absurd (HK2.out (HBF.out rfl)) (by decide)
        have hm9:=HM.out
        have i3:=IntWalk.i64_in (m:Int) ⟨by omega,by omega⟩
        have hsum:(i:Int)+(m:Int)≤(rows.length:Int):=by have h8:=HPD.out.2;have h9:=HD.out;rw [h9] at h8;omega
        have i4:=IntWalk.i64_in ((i:Int)+(m:Int)) ⟨by omega,by omega⟩
        rw [show decD 1=[49] from rfl] at HCU HNK
        generalize decD m=D at *
        skip
        all_goals
         go_wp2_with (first
          | (go_at_call 31;((with_reducible refine (HCU.out _).mono ?_);rintro e w5 ⟨g,off,c5,rfl,hq5,a0,a1,a2,az⟩;have HQ5:=Lib.hid hq5;clear hq5))
          | (go_at_call 32;(first
           | ((with_reducible refine (HNK.out _).mono ?_);rintro e w6 ⟨rfl,hq6⟩;have b1:=(hq6.facts.1 _ _ az).trans a1;have b2:=(hq6.facts.1 _ _ az).trans a2;have bz:=hq6.facts.2.2 _ az;have HQ6:=Lib.hid (HQ5.out.trans (zx:Ext w5 w6));clear hq6)
           | ((with_reducible refine (HNM.out _).mono ?_);rintro e w7 ⟨rfl,hq7⟩;have d1:=(hq7.facts.1 _ _ bz).trans b1;have dz:=hq7.facts.2.2 _ bz;have HQ7:=Lib.hid (HQ6.out.trans (zx:Ext w6 w7));clear hq7))))
         go_roundw
         case rel=>exact ⟨q+1,i+1*m,pl+1,true,by go_num,by congr 1 <;> omega,rfl,by go_num,by omega,by omega,by omega,Lib.hid (by have h7:=HDR.out;have h8:=HNX.out;rw [HPL.out] at h7;rw [h7];rw [HD.out] at h8;exact h8),Lib.hid (fun _=>HBN.out (by simp)),Lib.hid (HE.out.trans zx)⟩
         case measure=>simp [intOf];omega
       ·skip
        have hm9:=HM.out
        have i3:=IntWalk.i64_in (2*(m:Int)) ⟨by omega,by omega⟩
        have hsum:(i:Int)+(2*(m:Int))≤(rows.length:Int):=by have h8:=HPD.out.2;have h9:=HD.out;rw [h9] at h8;omega
        have i4:=IntWalk.i64_in ((i:Int)+(2*(m:Int))) ⟨by omega,by omega⟩
        rw [show decD 2=[50] from rfl] at HCU HNK
        generalize decD m=D at *
        cases bf
        all_goals
         go_wp2_with (first
          | (go_at_call 31;((with_reducible refine (HCU.out _).mono ?_);rintro e w5 ⟨g,off,c5,rfl,hq5,a0,a1,a2,az⟩;have HQ5:=Lib.hid hq5;clear hq5))
          | (go_at_call 32;(first
           | ((with_reducible refine (HNK.out _).mono ?_);rintro e w6 ⟨rfl,hq6⟩;have b1:=(hq6.facts.1 _ _ az).trans a1;have b2:=(hq6.facts.1 _ _ az).trans a2;have bz:=hq6.facts.2.2 _ az;have HQ6:=Lib.hid (HQ5.out.trans (zx:Ext w5 w6));clear hq6)
           | ((with_reducible refine (HNM.out _).mono ?_);rintro e w7 ⟨rfl,hq7⟩;have d1:=(hq7.facts.1 _ _ bz).trans b1;have dz:=hq7.facts.2.2 _ bz;have HQ7:=Lib.hid (HQ6.out.trans (zx:Ext w6 w7));clear hq7))))
         go_roundw
         case rel=>exact ⟨q+1,i+2*m,pl+1,false,by go_num,by congr 1 <;> omega,rfl,by go_num,by omega,by omega,by omega,Lib.hid (by have h7:=HDR.out;have h8:=HNX.out;rw [HPL.out] at h7;rw [h7];rw [HD.out] at h8;exact h8),Lib.hid (fun h=>by cases h),Lib.hid (HE.out.trans zx)⟩
         case measure=>simp [intOf];omega
      ·have HCU:=Lib.hid (fun (w':World)=>(show Calls Tryz.prog 31 #[.string ⟨L.toArray⟩,.int .u8 32] w' fun e w''=>∃(g off n9 c:Nat),e = .returned (.slice (some ⟨g,off,none⟩) n9 c)∧1≤n9∧Ext w' w''∧w''.cell? ⟨g,off,none⟩=some (.string ⟨(sideB b).toArray⟩)∧g<w''.heap.size from by
        refine (zaW 32 L (by omega) w').mono ?_
        rintro e w9 ⟨v,rfl,ho,hx9⟩
        obtain ⟨A,c,rfl,hv⟩:=zbm ho
        obtain ⟨g,off,rfl,h1,h2⟩:=hv.word (k:=0) (za6 32 L)
        rw [hb] at h2
        exact ⟨g,off,_,c,rfl,za6 32 L,hx9,h2,h1⟩))
       have HD:=Lib.hid hd
       have hsum:(i:Int)+1≤(rows.length:Int):=by have h8:=HPD.out.2;rw [hd] at h8;omega
       have i4:=IntWalk.i64_in ((i:Int)+1) ⟨by omega,by omega⟩
       clear hd hb
       cases b
       ·rw [show sideB false=[102,114,111,110,116] from rfl] at HCU
        go_wp2_with (first
         | (go_at_call 31;((with_reducible refine (HCU.out _).mono ?_);rintro e w5 ⟨g,off,n9,c5,rfl,hn9,hq5,a0,az⟩;have HQ5:=Lib.hid hq5;clear hq5;have hn0:(0:Int)<(n9:Int):=(by omega))))
        go_roundw
        case rel=>exact ⟨q+1,i+1,pl+1,false,by go_num,by congr 1 <;> omega,rfl,by go_num,by omega,by omega,by omega,Lib.hid (by have h7:=HDR.out;have h8:=HNX.out;rw [HPL.out] at h7;rw [h7];rw [HD.out] at h8;exact h8),Lib.hid (fun h=>by cases h),Lib.hid (HE.out.trans zx)⟩
        case measure=>simp [intOf] <;> omega
       ·rw [show sideB true=[98,97,99,107] from rfl] at HCU
        go_wp2_with (first
         | (go_at_call 31;((with_reducible refine (HCU.out _).mono ?_);rintro e w5 ⟨g,off,n9,c5,rfl,hn9,hq5,a0,az⟩;have HQ5:=Lib.hid hq5;clear hq5;have hn0:(0:Int)<(n9:Int):=(by omega))))
        go_roundw
        case rel=>exact ⟨q+1,i+1,pl+1,false,by go_num,by congr 1 <;> omega,rfl,by go_num,by omega,by omega,by omega,Lib.hid (by have h7:=HDR.out;have h8:=HNX.out;rw [HPL.out] at h7;rw [h7];rw [HD.out] at h8;exact h8),Lib.hid (fun h=>by cases h),Lib.hid (HE.out.trans zx)⟩
        case measure=>simp [intOf] <;> omega
   ·obtain rfl:p=T.length:=by omega
    have hfi:=HLS.out
    rw [List.drop_eq_nil_of_le (Nat.le_refl _)] at hfi
    have hir:=zm6 hfi hi
    subst hir
    obtain ⟨x0,x1,xz⟩:=(HBX.out.ext HE.out).facts
    have hnn:rows.length=n:=HN.out
    have hq9:(q:Int)≤(n:Int):=by omega
    go_wp2_with fail
    go_ret
    exact ⟨rfl,HW0.out.trans HE.out⟩
set_option maxRecDepth 100000 in
theorem patternLines_lifted (os:Os) (started:os.Started) (H:Type) (enc:TypeId×Value→H) :
  ReturnsInHanded {} Tryz.checked os 7 .any (fun w args=>(Rows.patternLinesSpec.pre enc Tryz.prog Tryz.f7 [] false w args∧laidMetH Tryz.prog [("math/bits.deBruijn32tab",Rows.laid_math_bits_deBruijn32tab),("math/bits.deBruijn64tab",Rows.laid_math_bits_deBruijn64tab),("internal/strconv.uint64pow10",Rows.laid_internal_strconv_uint64pow10),("unicode/utf8.acceptRanges",Rows.laid_unicode_utf8_acceptRanges),("strconv.ErrRange",Rows.laid_strconv_ErrRange),("strconv.ErrSyntax",Rows.laid_strconv_ErrSyntax),("unicode/utf8.first",Rows.laid_unicode_utf8_first)] w)∧sizedMet enc Tryz.prog Tryz.f7 (OpenSpec.ofChange Rows.patternLinesSpec) false w args)
   (Rows.patternLinesSpec.post enc Tryz.prog Tryz.f7 false true false false):=by
 refine zeF (C:=Tryz.checked) (X:=fun w _=>laidMetH Tryz.prog [("math/bits.deBruijn32tab",Rows.laid_math_bits_deBruijn32tab),("math/bits.deBruijn64tab",Rows.laid_math_bits_deBruijn64tab),("internal/strconv.uint64pow10",Rows.laid_internal_strconv_uint64pow10),("unicode/utf8.acceptRanges",Rows.laid_unicode_utf8_acceptRanges),("strconv.ErrRange",Rows.laid_strconv_ErrRange),("strconv.ErrSyntax",Rows.laid_strconv_ErrSyntax),("unicode/utf8.first",Rows.laid_unicode_utf8_first)] w) (fun _ _ _ hh h=>h.of_heap hh) own started (by kernel_rfl) Tryz.func7
  (ChangeSpec.witness_shaped (enc:=enc) (C:=Tryz.checked) (os:=os) (X:=fun w _=>laidMetH Tryz.prog [("math/bits.deBruijn32tab",Rows.laid_math_bits_deBruijn32tab),("math/bits.deBruijn64tab",Rows.laid_math_bits_deBruijn64tab),("internal/strconv.uint64pow10",Rows.laid_internal_strconv_uint64pow10),("unicode/utf8.acceptRanges",Rows.laid_unicode_utf8_acceptRanges),("strconv.ErrRange",Rows.laid_strconv_ErrRange),("strconv.ErrSyntax",Rows.laid_strconv_ErrSyntax),("unicode/utf8.first",Rows.laid_unicode_utf8_first)] w) false (World.laidAll Tryz.prog os [("math/bits.deBruijn32tab",Rows.laid_math_bits_deBruijn32tab),("math/bits.deBruijn64tab",Rows.laid_math_bits_deBruijn64tab),("internal/strconv.uint64pow10",Rows.laid_internal_strconv_uint64pow10),("unicode/utf8.acceptRanges",Rows.laid_unicode_utf8_acceptRanges),("strconv.ErrRange",Rows.laid_strconv_ErrRange),("strconv.ErrSyntax",Rows.laid_strconv_ErrSyntax),("unicode/utf8.first",Rows.laid_unicode_utf8_first)]) #[.agg #[.int .i64 0,.slice none 0 0]] 8 (World.laidAll_os _ _ _)
   (World.shaped_of_ZipB (by kernel_rfl) (by kernel_rfl)) (by kernel_rfl) (by kernel_rfl) (by kernel_rfl)
   (by rw [MakeChecks.laidMetH_plain _ _ _ (by kernel_rfl)];exact laidMet_laidAll _ (by kernel_rfl) (by kernel_rfl))) ?_
 intro W base args ds gs before hval0 hW hL hsh
 have hval:∀(j:Nat) t v,Tryz.f7.params[j]?=some t→args[j]?=some v→Value.okWide Tryz.prog W .any base t v:=hval0
 have hW':=hW
 obtain ⟨p,q,hA0,hV,rfl,hfz,hnd⟩:=hW
 have hA:DataW.TrodAll enc Tryz.prog W 0 (fun _=>true) true Tryz.f7.params.toList args.toList ds p:=hA0
 rw [Tryz.params7] at hA hval
 obtain ⟨v0,vs0,d0,ds0,p0,q0,hargs,rfl,rfl,h0,r0⟩:=trodAll_cons hA
 obtain ⟨rfl,rfl,rfl⟩:=trodAll_nil r0
 obtain rfl:args=#[v0]:=by cases args;simp_all
 obtain ⟨rfl,rfl⟩:=trodVars_none hV
 obtain ⟨qs,Aq,nq,cq,q,rfl,hiq⟩:=zc2 (hval 0 24 v0 rfl rfl) h0
 rw [MakeChecks.laidMetH_plain _ _ _ (by kernel_rfl)] at hL
 have hG:=zlS hL hsh
 refine (patternLines_walk qs Aq nq cq q W hiq hG).mono fun e W' ⟨he,hg⟩=>?_
 subst he
 exact ⟨_,rfl,zke zkd rfl Tryz.underlying4 (by kernel_rfl) rfl hW' rfl hg⟩
theorem patternLines_holds:Rows.PatternLinesSaid :=
 OpenClaim.holds_of_wide 7 Tryz.f7 rfl rfl rfl rfl rfl rfl rfl ⟨rfl,rfl,rfl,rfl,rfl⟩ rfl rfl rfl rfl rfl (by kernel_rfl) Tryz.func7 (by kernel_rfl)
  (of_decide_eq_true (by kernel_rfl)) (by unfold Func.isWrapper;first | (rw [if_pos (by decide +kernel)];kernel_rfl) | (rw [if_neg (by decide +kernel)];exact ⟨rfl,rfl⟩))
  (fun os started H enc _=>patternLines_lifted os started H enc)
theorem patternLines_card:Rows.PatternLinesCardSaid :=
 Claim7.holds_tied_plain_at .later [] [.data,.data,.data,.data,.sentinel,.sentinel,.pinned] true (true, "82ac2ac690227137bd2922f134a4e9e2379fe122be6281254703ee86f1f41d35") true
  patternLines_holds (fun _ h=>by cases h) (by kernel_rfl) (fun _ h=>by cases h) patternLines_row_tie rfl ⟨rfl,rfl⟩ (by kernel_rfl) rfl
  (fun f fn hf hfn=>by
   obtain rfl:f=7:=Option.some.inj ((show Tryz.prog.funcNamed "raddle/raddlelaw43.PatternLines" = some 7 by kernel_rfl).symm.trans hf) |>.symm
   obtain rfl:fn=Tryz.f7:=(Option.some.inj (Tryz.func7.symm.trans hfn)).symm
   exact ⟨by kernel_rfl,fun j t ht=>by
    rw [Tryz.params7] at ht
    have hm:t∈[24]:=by simpa using Array.mem_of_getElem? ht
    have hall:([24].all fun u => !Tryz.prog.wantsStandIn u)=true:=by kernel_rfl
    exact (show Tryz.prog.wantsStandIn t=false by simpa using List.all_eq_true.1 hall t hm)⟩)
  (by kernel_rfl)
end Go.Proofs.YtkneghkbgingdaaGreatDoor
