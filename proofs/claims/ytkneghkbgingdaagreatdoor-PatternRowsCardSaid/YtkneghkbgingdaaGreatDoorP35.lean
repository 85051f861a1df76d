/- The reference's Written: the text of a list of stitches. -/
import Derived.Test.YtkneghkbgingdaaGreatDoorP34
import Derived.Test.YtkneghkbgingdaaGreatDoorP12
import Derived.Test.YtkneghkbgingdaaGreatDoorP22
import Derived.Test.YtkneghkbgingdaaGreatDoorP07
import Derived.Test.YtkneghkbgingdaaGreatDoorP27
import Derived.Test.YtkneghkbgingdaaGreatDoorP28
import Derived.Test.YtkneghkbgingdaaGreatDoorP09
namespace Go.Proofs.YtkneghkbgingdaaGreatDoor
set_option maxRecDepth 100000
set_option maxRecDepth 100000
open Go.RowKit
theorem zeF (c:UInt8) (ws:List (List UInt8)) (x:List UInt8):joinB c (ws++[x])=if ws=[] then x else joinB c ws++[c]++x:=by
 induction ws with
 | nil=>rfl
 | cons y ws ih =>
  rw [if_neg (by simp)]
  cases ws with
  | nil=>simp [joinB]
  | cons z ws =>
   rw [if_neg (by simp)] at ih
   rw [List.cons_append,List.cons_append,joinB]
   rw [List.cons_append] at ih
   rw [ih]
   simp [joinB]
set_option maxHeartbeats 8000000 in
theorem za3 (n c:Nat) (A:Option Addr) (l:List St) (w:World) (hl:Vec shSt w A n l) (hn:n≤200) (ho:allB l=true) :
  Calls Tryz.prog 108 #[.slice A n c] w fun e w'=>e = .returned (.string ⟨(textL l).toArray⟩)∧Ext w w':=by
 have HX:=Lib.hid hl
 have HO:=Lib.hid ho
 have HL:=Lib.hid hl.1
 clear hl ho
 go_enter Tryz.func108,Tryz.ntmps108
 go_wp2_with fail
 go_loopw [3,4] (fun u i wr=>∃(S:List UInt8) (k:Nat) (ws:List (List UInt8)),u = .string ⟨S.toArray⟩∧i = .int .i64 k∧k≤n∧S.length≤200*k∧Hid (S=joinB 32 ws)∧Hid (k=0↔ws=[])∧Hid (Ext w wr)∧Hid (ws++(grp (l.drop k)).map wordG=(grp l).map wordG)) (fun _ i _=>n-(intOf i).toNat)
 case atStart=>exact ⟨[],0,[],rfl,rfl,Nat.zero_le _,Nat.zero_le _,Lib.hid rfl,Lib.hid (by simp),Lib.hid (Ext.refl _),Lib.hid (by simp)⟩
 case round =>
  obtain ⟨S,k,ws,rfl,rfl,hk,hsl,HS,HW,HE,HT⟩:=hrel
  by_cases hlt:k<n
  ·obtain ⟨b,off,rfl,hb1,hc⟩:=Sts.all (Vec.ext HX.out HE.out) (by omega)
   have HC:=Lib.hid hc
   obtain ⟨c1,c2,c3,c4⟩:=hc k hlt
   have hok:=zcj HO.out (k:=k) (by rw [HL.out];omega)
   obtain ⟨s,hs⟩:∃s,l.getD k st0=s:=⟨_,rfl⟩
   rw [hs] at c1 c2 c3 c4 hok
   have HS0:=Lib.hid hs
   clear hs hc
   obtain ⟨sk,sp,sa,sb⟩:=s
   simp only at c1 c2 c3 c4
   have q0:(0:Int)≤(k:Int):=by omega
   have q1:(k:Int)<(n:Int):=by omega
   obtain ⟨T,hT⟩:∃T,wordT ⟨sk,sp,sa,sb⟩=T:=⟨_,rfl⟩
   have HWC:=Lib.hid (show ∀w',Calls Tryz.prog 139 #[.agg #[.int .u8 sk,.bool sp,.int .i64 sa,.int .i64 sb]] w' fun e w''=>e = .returned (.string ⟨T.toArray⟩)∧Ext w' w'' from fun w'=>by
    have h9:=zmk ⟨sk,sp,sa,sb⟩ hok w'
    rw [hT] at h9
    exact h9)
   have tl:T.length≤100:=by
    have h9:=zb5 (x:=(⟨sk,sp,sa,sb⟩,1)) hok
    rw [←hT]
    simpa [wordG] using h9
   have HTG1:=Lib.hid (show wordG (⟨sk,sp,sa,sb⟩,1)=T by rw [←hT];simp [wordG])
   have HTT:=Lib.hid hT
   clear hT
   by_cases hk0:k=0
   ·have hws:ws=[]:=HW.out.1 hk0
    subst hk0
    simp only [Nat.zero_mul,Nat.add_zero] at c1 c2 c3 c4
    obtain ⟨G,hG⟩:∃G,S++T=G:=⟨_,rfl⟩
    have hcat:(⟨S.toArray⟩++⟨T.toArray⟩:ByteArray)=⟨G.toArray⟩:=by rw [←hG];exact zab S T
    have HJ:=Lib.hid (show ∀x,joinB 32 (ws++[T++x])=G++x from fun x=>by rw [zeF,if_pos hws,←hG,HS.out,hws];rfl)
    have hgl:G.length≤200*0+101:=by rw [←hG,List.length_append];omega
    clear hG hws
    go_wp2_with (go_at_call 139;(((with_reducible refine (HWC.out _).mono ?_);rintro e w2 ⟨rfl,hq2⟩;have HE2:=Lib.hid hq2;clear hq2)))
    have HEW:=Lib.hid (HE.out.trans HE2.out)
    go_loopw [4,5] (fun i q wi=>∃(j m:Nat),i = .int .i64 j∧q = .int .i64 m∧1≤m∧j+1=0+m∧0+m≤n∧Hid (m=1∨sk=1)∧Hid (∀t,t<m→l.getD (0+t) st0=⟨sk,sp,sa,sb⟩)∧wi.heap=w2.heap∧Hid (Ext w2 wi)) (fun _ q _=>n-0-(intOf q).toNat)
    case atStart=>exact ⟨0,1,rfl,rfl,Nat.le_refl _,rfl,by omega,Lib.hid (.inl rfl),Lib.hid (fun t ht=>(by obtain rfl:t=0:=(by omega);exact HS0.out)),rfl,Lib.hid (Ext.refl _)⟩
    case round =>
     obtain ⟨j,m,rfl,rfl,hm1,hjm,hm2,hm3,HA,hheap,HE3⟩:=hrel
     have HE4:=Lib.hid (HE2.out.trans HE3.out)
     have HE5:=Lib.hid (HEW.out.trans HE3.out)
     have hx:l.getD j st0=⟨sk,sp,sa,sb⟩:=by
      have h9:=HA.out (m-1) (by omega)
      rw [show 0+(m-1)=j by omega] at h9
      exact h9
     obtain ⟨d1,d2,d3,d4⟩:=HC.out j (by omega)
     rw [hx] at d1 d2 d3 d4
     clear hx
     simp only at d1 d2 d3 d4
     replace d1:=(Below.cell (p:=⟨b,_,none⟩) HE4.out hb1).trans d1
     replace d2:=(Below.cell (p:=⟨b,_,none⟩) HE4.out hb1).trans d2
     replace d3:=(Below.cell (p:=⟨b,_,none⟩) HE4.out hb1).trans d3
     replace d4:=(Below.cell (p:=⟨b,_,none⟩) HE4.out hb1).trans d4
     have p0:(0:Int)≤(j:Int):=by omega
     have p1:(j:Int)<(n:Int):=by omega
     obtain ⟨j2,hj2⟩:∃j2,j2=j+1:=⟨_,rfl⟩
     have i1:IntKind.i64.wrap ((j:Int)+1)=(j2:Int):=by rw [IntWalk.i64_in ((j:Int)+1) ⟨by omega,by omega⟩];omega
     rw [←hj2] at hjm
     have HJ2:=Lib.hid hj2
     have HJM:=Lib.hid hjm
     clear hj2 hjm
     have i2:=IntWalk.i64_in ((m:Int)+1) ⟨by omega,by omega⟩
     by_cases hk1:sk=1
     ·by_cases hkm:j2<n
      ·obtain ⟨e1,e2,e3,e4⟩:=HC.out j2 hkm
       replace e1:=(Below.cell (p:=⟨b,_,none⟩) HE4.out hb1).trans e1
       replace e2:=(Below.cell (p:=⟨b,_,none⟩) HE4.out hb1).trans e2
       replace e3:=(Below.cell (p:=⟨b,_,none⟩) HE4.out hb1).trans e3
       replace e4:=(Below.cell (p:=⟨b,_,none⟩) HE4.out hb1).trans e4
       have q2:(0:Int)≤(j2:Int):=by omega
       have q3:(j2:Int)<(n:Int):=by omega
       by_cases hxy:l.getD j2 st0=⟨sk,sp,sa,sb⟩
       ·rw [hxy] at e1 e2 e3 e4
        simp only at e1 e2 e3 e4
        have HA2:=Lib.hid (show ∀t,t<m+1→l.getD (0+t) st0=⟨sk,sp,sa,sb⟩ from fun t ht=>by
         by_cases e:t=m
         ·subst e;rw [←HJM.out];exact hxy
         ·exact HA.out t (by omega))
        clear hxy
        subst hk1
        go_wp2_with fail
        go_quiet (fail)
        go_wp2
        go_roundw
        case rel=>exact ⟨j2,m+1,by go_num,by go_num,by omega,by have:=HJM.out;omega,by have:=HJM.out;omega,Lib.hid (by first | exact .inr rfl | exact .inr trivial),HA2,hheap,Lib.hid (Ext.drewN HE3.out _)⟩
        case measure=>have hjm:=HJM.out;simp [intOf] <;> omega
       ·generalize hy:l.getD j2 st0=y at *
        obtain ⟨y1,y2,y3,y4⟩:=y
        simp only at e1 e2 e3 e4
        have hne:=zbz (fun e=>hxy e)
        have HNE:=Lib.hid hxy
        clear hxy
        subst hk1
        have HQ:=Lib.hid (show grp (l.drop 0)=(⟨1,sp,sa,sb⟩,m)::grp (l.drop (0+m)) by
         have h9:=zbt m (l.drop 0) ⟨1,sp,sa,sb⟩ hm1 (by rw [List.length_drop,HL.out];omega) (fun t ht=>by rw [←HA.out t ht];simp [List.getD_eq_getElem?_getD]) (.inr rfl) (.inr (.inr (by have h8:(l.drop 0).getD m st0=⟨y1,y2,y3,y4⟩:=(by rw [←hy,HJM.out];simp [List.getD_eq_getElem?_getD]);rw [h8];exact HNE.out)))
         rw [h9,List.drop_drop])
        by_cases hm:m=1
        ·subst hm
         have HF:=Lib.hid (show (ws++[T])++(grp (l.drop (0+1))).map wordG=(grp l).map wordG by
          rw [←HT.out,HQ.out,←HTG1.out]
          simp)
         have HJK:=Lib.hid (show j2=0+1 by have:=HJM.out;omega)
         go_wp2_with fail
         go_quiet (fail)
         go_wp2_with fail
         go_roundw
         case rel=>exact ⟨G,0+1,ws++[T],rfl,by have:=HJK.out;subst this;go_num,by omega,by omega,Lib.hid (by have:=HJ.out [];rw [List.append_nil,List.append_nil] at this;exact this.symm),Lib.hid (by simp),Lib.hid (Ext.drewN HE5.out _),HF⟩
         case measure=>have hjm:=HJM.out;simp [intOf] <;> omega
        ·have hm9:(1:Int)<(m:Int):=by omega
         obtain ⟨D,hD⟩:∃D,decD m=D:=⟨_,rfl⟩
         obtain ⟨G2,hG2⟩:∃G2,G++D=G2:=⟨_,rfl⟩
         have HIC:=Lib.hid (show ∀w',Calls Tryz.prog 42 #[.int .i64 (m:Int)] w' fun e w''=>e = .returned (.string ⟨D.toArray⟩)∧Ext w' w'' from fun w'=>by
          have h9:=zai m (by omega) w'
          rw [hD] at h9
          exact h9)
         have hcat9:(⟨G.toArray⟩++⟨D.toArray⟩:ByteArray)=⟨G2.toArray⟩:=by rw [←hG2];exact zab G D
         have hTG:wordG (⟨1,sp,sa,sb⟩,m)=T++D:=by rw [wordG,if_pos (by simp only;omega),HTT.out,hD]
         have HTG:=Lib.hid hTG
         have dl:D.length≤20:=by rw [←hD];exact zaj m
         have g2l:G2.length≤200*0+121:=by rw [←hG2,List.length_append];omega
         have HG2:=Lib.hid hG2
         clear hD hG2 hTG
         have HF:=Lib.hid (show (ws++[T++D])++(grp (l.drop (0+m))).map wordG=(grp l).map wordG by
          rw [←HT.out,HQ.out,List.map_cons,HTG.out]
          simp)
         go_wp2_with fail
         go_quiet (fail)
         go_wp2_with (go_at_call 42;(((with_reducible refine (HIC.out _).mono ?_);rintro e w7 ⟨rfl,hq7⟩;have HE7:=Lib.hid (HE5.out.trans (Ext.trans (by repeat (first | exact Ext.refl _ | refine Ext.drew ?_ | refine Ext.drewN ?_ _ | refine Ext.alloc ?_ _)) hq7));clear hq7)))
         go_roundw
         case rel=>exact ⟨G2,0+m,ws++[T++D],rfl,by rw [←HJM.out],by omega,by omega,Lib.hid (by rw [←HG2.out];exact (HJ.out D).symm),Lib.hid (by simp <;> omega),HE7,HF⟩
         case measure=>have hjm:=HJM.out;simp [intOf] <;> omega
      ·have hkm2:¬((j2:Int)<(n:Int)):=by omega
       subst hk1
       have HQ:=Lib.hid (show grp (l.drop 0)=(⟨1,sp,sa,sb⟩,m)::grp (l.drop (0+m)) by
        have h9:=zbt m (l.drop 0) ⟨1,sp,sa,sb⟩ hm1 (by rw [List.length_drop,HL.out];omega) (fun t ht=>by rw [←HA.out t ht];simp [List.getD_eq_getElem?_getD]) (.inr rfl) (.inr (.inl (by have:=HJM.out;rw [List.length_drop,HL.out];omega)))
        rw [h9,List.drop_drop])
       by_cases hm:m=1
       ·subst hm
        have HF:=Lib.hid (show (ws++[T])++(grp (l.drop (0+1))).map wordG=(grp l).map wordG by
         rw [←HT.out,HQ.out,←HTG1.out]
         simp)
        have HJK:=Lib.hid (show j2=0+1 by have:=HJM.out;omega)
        go_wp2_with fail
        go_quiet (fail)
        go_wp2_with fail
        go_roundw
        case rel=>exact ⟨G,0+1,ws++[T],rfl,by have:=HJK.out;subst this;go_num,by omega,by omega,Lib.hid (by have:=HJ.out [];rw [List.append_nil,List.append_nil] at this;exact this.symm),Lib.hid (by simp),Lib.hid (Ext.drewN HE5.out _),HF⟩
        case measure=>have hjm:=HJM.out;simp [intOf] <;> omega
       ·have hm9:(1:Int)<(m:Int):=by omega
        obtain ⟨D,hD⟩:∃D,decD m=D:=⟨_,rfl⟩
        obtain ⟨G2,hG2⟩:∃G2,G++D=G2:=⟨_,rfl⟩
        have HIC:=Lib.hid (show ∀w',Calls Tryz.prog 42 #[.int .i64 (m:Int)] w' fun e w''=>e = .returned (.string ⟨D.toArray⟩)∧Ext w' w'' from fun w'=>by
         have h9:=zai m (by omega) w'
         rw [hD] at h9
         exact h9)
        have hcat9:(⟨G.toArray⟩++⟨D.toArray⟩:ByteArray)=⟨G2.toArray⟩:=by rw [←hG2];exact zab G D
        have hTG:wordG (⟨1,sp,sa,sb⟩,m)=T++D:=by rw [wordG,if_pos (by simp only;omega),HTT.out,hD]
        have HTG:=Lib.hid hTG
        have dl:D.length≤20:=by rw [←hD];exact zaj m
        have g2l:G2.length≤200*0+121:=by rw [←hG2,List.length_append];omega
        have HG2:=Lib.hid hG2
        clear hD hG2 hTG
        have HF:=Lib.hid (show (ws++[T++D])++(grp (l.drop (0+m))).map wordG=(grp l).map wordG by
         rw [←HT.out,HQ.out,List.map_cons,HTG.out]
         simp)
        go_wp2_with fail
        go_quiet (fail)
        go_wp2_with (go_at_call 42;(((with_reducible refine (HIC.out _).mono ?_);rintro e w7 ⟨rfl,hq7⟩;have HE7:=Lib.hid (HE5.out.trans (Ext.trans (by repeat (first | exact Ext.refl _ | refine Ext.drew ?_ | refine Ext.drewN ?_ _ | refine Ext.alloc ?_ _)) hq7));clear hq7)))
        go_roundw
        case rel=>exact ⟨G2,0+m,ws++[T++D],rfl,by rw [←HJM.out],by omega,by omega,Lib.hid (by rw [←HG2.out];exact (HJ.out D).symm),Lib.hid (by simp <;> omega),HE7,HF⟩
        case measure=>have hjm:=HJM.out;simp [intOf] <;> omega
     ·have hk2:(sk==1)=false:=by simpa using hk1
      have HK:=Lib.hid hk1
      obtain rfl:m=1:=by rcases hm3.out with h | h <;> first | exact h | exact absurd h hk1
      clear hk1
      have HQ:=Lib.hid (show grp (l.drop 0)=(⟨sk,sp,sa,sb⟩,1)::grp (l.drop (0+1)) by
       have h9:=zbt 1 (l.drop 0) ⟨sk,sp,sa,sb⟩ hm1 (by rw [List.length_drop,HL.out];omega) (fun t ht=>by rw [←HA.out t ht];simp [List.getD_eq_getElem?_getD]) (.inl rfl) (.inl HK.out)
       rw [h9,List.drop_drop])
      have HF:=Lib.hid (show (ws++[T])++(grp (l.drop (0+1))).map wordG=(grp l).map wordG by
       rw [←HT.out,HQ.out,←HTG1.out]
       simp)
      have HJK:=Lib.hid (show j2=0+1 by have:=HJM.out;omega)
      go_wp2_with fail
      go_quiet (fail)
      go_wp2_with fail
      go_roundw
      case rel=>exact ⟨G,0+1,ws++[T],rfl,by have:=HJK.out;subst this;go_num,by omega,by omega,Lib.hid (by have:=HJ.out [];rw [List.append_nil,List.append_nil] at this;exact this.symm),Lib.hid (by simp),Lib.hid (Ext.drewN HE5.out _),HF⟩
      case measure=>have hjm:=HJM.out;simp [intOf] <;> omega
   ·have hws:¬ws=[]:=fun h=>hk0 (HW.out.2 h)
    obtain ⟨S1,hS1⟩:∃S1,S++[32]=S1:=⟨_,rfl⟩
    obtain ⟨G,hG⟩:∃G,S1++T=G:=⟨_,rfl⟩
    have hcat1:(⟨S.toArray⟩++⟨#[32]⟩:ByteArray)=⟨S1.toArray⟩:=by rw [←hS1];exact zab S [32]
    have hcat:(⟨S1.toArray⟩++⟨T.toArray⟩:ByteArray)=⟨G.toArray⟩:=by rw [←hG];exact zab S1 T
    have hs1l:S1.length≤200*k+1:=by rw [←hS1,List.length_append];simp;omega
    have HJ:=Lib.hid (show ∀x,joinB 32 (ws++[T++x])=G++x from fun x=>by rw [zeF,if_neg hws,←hG,←hS1,HS.out];simp)
    have hgl:G.length≤200*k+101:=by rw [←hG,List.length_append];omega
    have q9:(0:Int)<(k:Int):=by omega
    clear hG hws hS1
    go_wp2_with (go_at_call 139;(((with_reducible refine (HWC.out _).mono ?_);rintro e w2 ⟨rfl,hq2⟩;have HE2:=Lib.hid hq2;clear hq2)))
    have HEW:=Lib.hid (HE.out.trans HE2.out)
    go_loopw [4,5] (fun i q wi=>∃(j m:Nat),i = .int .i64 j∧q = .int .i64 m∧1≤m∧j+1=k+m∧k+m≤n∧Hid (m=1∨sk=1)∧Hid (∀t,t<m→l.getD (k+t) st0=⟨sk,sp,sa,sb⟩)∧wi.heap=w2.heap∧Hid (Ext w2 wi)) (fun _ q _=>n-k-(intOf q).toNat)
    case atStart=>exact ⟨k,1,rfl,rfl,Nat.le_refl _,rfl,by omega,Lib.hid (.inl rfl),Lib.hid (fun t ht=>(by obtain rfl:t=0:=(by omega);exact HS0.out)),rfl,Lib.hid (Ext.refl _)⟩
    case round =>
     obtain ⟨j,m,rfl,rfl,hm1,hjm,hm2,hm3,HA,hheap,HE3⟩:=hrel
     have HE4:=Lib.hid (HE2.out.trans HE3.out)
     have HE5:=Lib.hid (HEW.out.trans HE3.out)
     have hx:l.getD j st0=⟨sk,sp,sa,sb⟩:=by
      have h9:=HA.out (m-1) (by omega)
      rw [show k+(m-1)=j by omega] at h9
      exact h9
     obtain ⟨d1,d2,d3,d4⟩:=HC.out j (by omega)
     rw [hx] at d1 d2 d3 d4
     clear hx
     simp only at d1 d2 d3 d4
     replace d1:=(Below.cell (p:=⟨b,_,none⟩) HE4.out hb1).trans d1
     replace d2:=(Below.cell (p:=⟨b,_,none⟩) HE4.out hb1).trans d2
     replace d3:=(Below.cell (p:=⟨b,_,none⟩) HE4.out hb1).trans d3
     replace d4:=(Below.cell (p:=⟨b,_,none⟩) HE4.out hb1).trans d4
     have p0:(0:Int)≤(j:Int):=by omega
     have p1:(j:Int)<(n:Int):=by omega
     obtain ⟨j2,hj2⟩:∃j2,j2=j+1:=⟨_,rfl⟩
     have i1:IntKind.i64.wrap ((j:Int)+1)=(j2:Int):=by rw [IntWalk.i64_in ((j:Int)+1) ⟨by omega,by omega⟩];omega
     rw [←hj2] at hjm
     have HJ2:=Lib.hid hj2
     have HJM:=Lib.hid hjm
     clear hj2 hjm
     have i2:=IntWalk.i64_in ((m:Int)+1) ⟨by omega,by omega⟩
     by_cases hk1:sk=1
     ·by_cases hkm:j2<n
      ·obtain ⟨e1,e2,e3,e4⟩:=HC.out j2 hkm
       replace e1:=(Below.cell (p:=⟨b,_,none⟩) HE4.out hb1).trans e1
       replace e2:=(Below.cell (p:=⟨b,_,none⟩) HE4.out hb1).trans e2
       replace e3:=(Below.cell (p:=⟨b,_,none⟩) HE4.out hb1).trans e3
       replace e4:=(Below.cell (p:=⟨b,_,none⟩) HE4.out hb1).trans e4
       have q2:(0:Int)≤(j2:Int):=by omega
       have q3:(j2:Int)<(n:Int):=by omega
       by_cases hxy:l.getD j2 st0=⟨sk,sp,sa,sb⟩
       ·rw [hxy] at e1 e2 e3 e4
        simp only at e1 e2 e3 e4
        have HA2:=Lib.hid (show ∀t,t<m+1→l.getD (k+t) st0=⟨sk,sp,sa,sb⟩ from fun t ht=>by
         by_cases e:t=m
         ·subst e;rw [←HJM.out];exact hxy
         ·exact HA.out t (by omega))
        clear hxy
        subst hk1
        go_wp2_with fail
        go_quiet (fail)
        go_wp2
        go_roundw
        case rel=>exact ⟨j2,m+1,by go_num,by go_num,by omega,by have:=HJM.out;omega,by have:=HJM.out;omega,Lib.hid (by first | exact .inr rfl | exact .inr trivial),HA2,hheap,Lib.hid (Ext.drewN HE3.out _)⟩
        case measure=>have hjm:=HJM.out;simp [intOf] <;> omega
       ·generalize hy:l.getD j2 st0=y at *
        obtain ⟨y1,y2,y3,y4⟩:=y
        simp only at e1 e2 e3 e4
        have hne:=zbz (fun e=>hxy e)
        have HNE:=Lib.hid hxy
        clear hxy
        subst hk1
        have HQ:=Lib.hid (show grp (l.drop k)=(⟨1,sp,sa,sb⟩,m)::grp (l.drop (k+m)) by
         have h9:=zbt m (l.drop k) ⟨1,sp,sa,sb⟩ hm1 (by rw [List.length_drop,HL.out];omega) (fun t ht=>by rw [←HA.out t ht];simp [List.getD_eq_getElem?_getD]) (.inr rfl) (.inr (.inr (by have h8:(l.drop k).getD m st0=⟨y1,y2,y3,y4⟩:=(by rw [←hy,HJM.out];simp [List.getD_eq_getElem?_getD]);rw [h8];exact HNE.out)))
         rw [h9,List.drop_drop])
        by_cases hm:m=1
        ·subst hm
         have HF:=Lib.hid (show (ws++[T])++(grp (l.drop (k+1))).map wordG=(grp l).map wordG by
          rw [←HT.out,HQ.out,←HTG1.out]
          simp)
         have HJK:=Lib.hid (show j2=k+1 by have:=HJM.out;omega)
         go_wp2_with fail
         go_quiet (fail)
         go_wp2_with fail
         go_roundw
         case rel=>exact ⟨G,k+1,ws++[T],rfl,by have:=HJK.out;subst this;go_num,by omega,by omega,Lib.hid (by have:=HJ.out [];rw [List.append_nil,List.append_nil] at this;exact this.symm),Lib.hid (by simp),Lib.hid (Ext.drewN HE5.out _),HF⟩
         case measure=>have hjm:=HJM.out;simp [intOf] <;> omega
        ·have hm9:(1:Int)<(m:Int):=by omega
         obtain ⟨D,hD⟩:∃D,decD m=D:=⟨_,rfl⟩
         obtain ⟨G2,hG2⟩:∃G2,G++D=G2:=⟨_,rfl⟩
         have HIC:=Lib.hid (show ∀w',Calls Tryz.prog 42 #[.int .i64 (m:Int)] w' fun e w''=>e = .returned (.string ⟨D.toArray⟩)∧Ext w' w'' from fun w'=>by
          have h9:=zai m (by omega) w'
          rw [hD] at h9
          exact h9)
         have hcat9:(⟨G.toArray⟩++⟨D.toArray⟩:ByteArray)=⟨G2.toArray⟩:=by rw [←hG2];exact zab G D
         have hTG:wordG (⟨1,sp,sa,sb⟩,m)=T++D:=by rw [wordG,if_pos (by simp only;omega),HTT.out,hD]
         have HTG:=Lib.hid hTG
         have dl:D.length≤20:=by rw [←hD];exact zaj m
         have g2l:G2.length≤200*k+121:=by rw [←hG2,List.length_append];omega
         have HG2:=Lib.hid hG2
         clear hD hG2 hTG
         have HF:=Lib.hid (show (ws++[T++D])++(grp (l.drop (k+m))).map wordG=(grp l).map wordG by
          rw [←HT.out,HQ.out,List.map_cons,HTG.out]
          simp)
         go_wp2_with fail
         go_quiet (fail)
         go_wp2_with (go_at_call 42;(((with_reducible refine (HIC.out _).mono ?_);rintro e w7 ⟨rfl,hq7⟩;have HE7:=Lib.hid (HE5.out.trans (Ext.trans (by repeat (first | exact Ext.refl _ | refine Ext.drew ?_ | refine Ext.drewN ?_ _ | refine Ext.alloc ?_ _)) hq7));clear hq7)))
         go_roundw
         case rel=>exact ⟨G2,k+m,ws++[T++D],rfl,by rw [←HJM.out],by omega,by omega,Lib.hid (by rw [←HG2.out];exact (HJ.out D).symm),Lib.hid (by simp <;> omega),HE7,HF⟩
         case measure=>have hjm:=HJM.out;simp [intOf] <;> omega
      ·have hkm2:¬((j2:Int)<(n:Int)):=by omega
       subst hk1
       have HQ:=Lib.hid (show grp (l.drop k)=(⟨1,sp,sa,sb⟩,m)::grp (l.drop (k+m)) by
        have h9:=zbt m (l.drop k) ⟨1,sp,sa,sb⟩ hm1 (by rw [List.length_drop,HL.out];omega) (fun t ht=>by rw [←HA.out t ht];simp [List.getD_eq_getElem?_getD]) (.inr rfl) (.inr (.inl (by have:=HJM.out;rw [List.length_drop,HL.out];omega)))
        rw [h9,List.drop_drop])
       by_cases hm:m=1
       ·subst hm
        have HF:=Lib.hid (show (ws++[T])++(grp (l.drop (k+1))).map wordG=(grp l).map wordG by
         rw [←HT.out,HQ.out,←HTG1.out]
         simp)
        have HJK:=Lib.hid (show j2=k+1 by have:=HJM.out;omega)
        go_wp2_with fail
        go_quiet (fail)
        go_wp2_with fail
        go_roundw
        case rel=>exact ⟨G,k+1,ws++[T],rfl,by have:=HJK.out;subst this;go_num,by omega,by omega,Lib.hid (by have:=HJ.out [];rw [List.append_nil,List.append_nil] at this;exact this.symm),Lib.hid (by simp),Lib.hid (Ext.drewN HE5.out _),HF⟩
        case measure=>have hjm:=HJM.out;simp [intOf] <;> omega
       ·have hm9:(1:Int)<(m:Int):=by omega
        obtain ⟨D,hD⟩:∃D,decD m=D:=⟨_,rfl⟩
        obtain ⟨G2,hG2⟩:∃G2,G++D=G2:=⟨_,rfl⟩
        have HIC:=Lib.hid (show ∀w',Calls Tryz.prog 42 #[.int .i64 (m:Int)] w' fun e w''=>e = .returned (.string ⟨D.toArray⟩)∧Ext w' w'' from fun w'=>by
         have h9:=zai m (by omega) w'
         rw [hD] at h9
         exact h9)
        have hcat9:(⟨G.toArray⟩++⟨D.toArray⟩:ByteArray)=⟨G2.toArray⟩:=by rw [←hG2];exact zab G D
        have hTG:wordG (⟨1,sp,sa,sb⟩,m)=T++D:=by rw [wordG,if_pos (by simp only;omega),HTT.out,hD]
        have HTG:=Lib.hid hTG
        have dl:D.length≤20:=by rw [←hD];exact zaj m
        have g2l:G2.length≤200*k+121:=by rw [←hG2,List.length_append];omega
        have HG2:=Lib.hid hG2
        clear hD hG2 hTG
        have HF:=Lib.hid (show (ws++[T++D])++(grp (l.drop (k+m))).map wordG=(grp l).map wordG by
         rw [←HT.out,HQ.out,List.map_cons,HTG.out]
         simp)
        go_wp2_with fail
        go_quiet (fail)
        go_wp2_with (go_at_call 42;(((with_reducible refine (HIC.out _).mono ?_);rintro e w7 ⟨rfl,hq7⟩;have HE7:=Lib.hid (HE5.out.trans (Ext.trans (by repeat (first | exact Ext.refl _ | refine Ext.drew ?_ | refine Ext.drewN ?_ _ | refine Ext.alloc ?_ _)) hq7));clear hq7)))
        go_roundw
        case rel=>exact ⟨G2,k+m,ws++[T++D],rfl,by rw [←HJM.out],by omega,by omega,Lib.hid (by rw [←HG2.out];exact (HJ.out D).symm),Lib.hid (by simp <;> omega),HE7,HF⟩
        case measure=>have hjm:=HJM.out;simp [intOf] <;> omega
     ·have hk2:(sk==1)=false:=by simpa using hk1
      have HK:=Lib.hid hk1
      obtain rfl:m=1:=by rcases hm3.out with h | h <;> first | exact h | exact absurd h hk1
      clear hk1
      have HQ:=Lib.hid (show grp (l.drop k)=(⟨sk,sp,sa,sb⟩,1)::grp (l.drop (k+1)) by
       have h9:=zbt 1 (l.drop k) ⟨sk,sp,sa,sb⟩ hm1 (by rw [List.length_drop,HL.out];omega) (fun t ht=>by rw [←HA.out t ht];simp [List.getD_eq_getElem?_getD]) (.inl rfl) (.inl HK.out)
       rw [h9,List.drop_drop])
      have HF:=Lib.hid (show (ws++[T])++(grp (l.drop (k+1))).map wordG=(grp l).map wordG by
       rw [←HT.out,HQ.out,←HTG1.out]
       simp)
      have HJK:=Lib.hid (show j2=k+1 by have:=HJM.out;omega)
      go_wp2_with fail
      go_quiet (fail)
      go_wp2_with fail
      go_roundw
      case rel=>exact ⟨G,k+1,ws++[T],rfl,by have:=HJK.out;subst this;go_num,by omega,by omega,Lib.hid (by have:=HJ.out [];rw [List.append_nil,List.append_nil] at this;exact this.symm),Lib.hid (by simp),Lib.hid (Ext.drewN HE5.out _),HF⟩
      case measure=>have hjm:=HJM.out;simp [intOf] <;> omega
  ·obtain rfl:k=n:=by omega
   have HV0:=Lib.hid (show ws=(grp l).map wordG by
    have h9:=HT.out
    rw [List.drop_of_length_le (Nat.le_of_eq HL.out)] at h9
    simpa [grp] using h9)
   have HS9:=Lib.hid (show S=textL l by rw [HS.out,HV0.out];rfl)
   go_wp2_with fail
   go_ret
   exact ⟨by rw [HS9.out];rfl,HE.out⟩
end Go.Proofs.YtkneghkbgingdaaGreatDoor
/- The reference's Parse. -/
namespace Go.Proofs.YtkneghkbgingdaaGreatDoor
set_option maxRecDepth 100000
set_option maxRecDepth 100000
open Go.RowKit Go.ChangeShapes Go.WideShapes Go.Joins
theorem zfb {k:Int} {p:Bool} {P:List (List UInt8)} {L:List St} (h:refParts k p P=some L):L.length≤300:=by
 unfold refParts at h
 repeat' split at h
 ·obtain ⟨b, -,h2⟩:=Option.bind_eq_some_iff.1 h
  obtain ⟨a, -,h3⟩:=Option.bind_eq_some_iff.1 h2
  cases h3
  simp
 ·cases h
 ·obtain ⟨a, -,h3⟩:=Option.bind_eq_some_iff.1 h
  cases h3
  simp
 ·cases h
theorem zgb {l:List UInt8} {L:List St} (h:refWord l=some L):L.length≤300:=by
 unfold refWord at h
 repeat' split at h
 all_goals first
  | (cases h;done)
  | (cases h;simp;done)
  | exact zfb h
  | (obtain ⟨a, -,h3⟩:=Option.bind_eq_some_iff.1 h;cases h3;simp;done)
  | (cases h;simp;omega)
theorem zlf {ws:List (List UInt8)} {k:Nat} (hk:k<ws.length) (acc:List St):rparseGo acc (ws.drop k)=match refWord (ws.getD k []) with
  | none=>none
  | some l=>if 200<(acc++l).length then none else rparseGo (acc++l) (ws.drop (k+1)):=by
 rw [List.drop_eq_getElem_cons hk,rparseGo,List.getD_eq_getElem?_getD,List.getElem?_eq_getElem hk]
 rfl
theorem zhq {s:List UInt8} {acc:List St} (hs:s.length≤3000) (h0:s≠[]) (h:rparseGo [] (spl 32 s)=some acc):parseL s=if allE acc=0∧textL acc=s then some acc else none:=by
 rw [←zeZ,rparseL,if_neg (by omega),rparseW,if_neg h0,h]
 rfl
theorem zh2 {s:List UInt8} (hs:s.length≤3000) (h0:s≠[]) (h:rparseGo [] (spl 32 s)=none):parseL s=none:=by
 rw [←zeZ,rparseL,if_neg (by omega),rparseW,if_neg h0,h]
 rfl
def ParseX (s:List UInt8) (w:World) (e:Ending) (w':World):Prop:=∃(A:Option Addr) (n c:Nat),e = .returned (.tuple #[.slice A n c,.int .i64 (parseE s)])∧Ext w w'∧Vec shSt w' A n (parseV s)
theorem ParseR.x {s:List UInt8} {w:World} {e:Ending} {w':World} (h:ParseR s w e w'):ParseX s w e w':=by
 obtain ⟨v,rfl,h1,h2⟩:=h
 obtain ⟨A,c,rfl,h3⟩:=zcf h1
 exact ⟨A,_,c,rfl,h2,h3⟩
theorem zfH (l:List UInt8) (hl:3000<l.length) (h:(l.length:Int)≤1000000000) (w:World):Calls Tryz.prog 88 #[.string ⟨l.toArray⟩] w (ParseR l w):=by
 have h1:=Lib.hid (show parseL l=none by rw [parseL,if_pos hl])
 have h2:(3000:Int)<(l.length:Int):=by omega
 clear hl
 go_enter Tryz.func88,Tryz.ntmps88
 go_wp2_with fail
 go_ret2
 exact zaA h1.out (by repeat (first|exact zr _|assumption|refine za ?_ _|refine zd ?_|refine zn ?_ _|refine zt ?_ (by assumption)))
theorem zhy (w:World):Calls Tryz.prog 88 #[.string ⟨([]:List UInt8).toArray⟩] w (ParseR [] w):=by
 have HF:=Lib.hid (show parseL []=some [] by decide +kernel)
 go_enter Tryz.func88,Tryz.ntmps88
 go_wp2_with fail
 go_ret2
 exact zbH HF.out (OwnV.nil _ _ _ _) (by repeat (first|exact zr _|assumption|refine za ?_ _|refine zd ?_|refine zn ?_ _|refine zt ?_ (by assumption)))
set_option maxHeartbeats 4000000 in
theorem zfq (l:List UInt8) (h0:l≠[]) (hl:l.length≤3000) (w:World):Calls Tryz.prog 88 #[.string ⟨l.toArray⟩] w (ParseR l w):=by
 have HS:=Lib.hid (show Calls Tryz.prog 31 #[.string ⟨l.toArray⟩,.int .u8 32] w fun e w''=>∃v,e = .returned v∧OwnV shStr w'' w.heap.size 9 v (spl 32 l).length (spl 32 l)∧Ext w w'' from za7 32 l (by omega) w)
 have hwl:=zar 32 l
 have HPE:=Lib.hid (fun (acc:List St) (h:rparseGo [] (spl 32 l)=some acc)=>zhq hl h0 h)
 have HPB:=Lib.hid (fun (h:rparseGo [] (spl 32 l)=none)=>zh2 hl h0 h)
 generalize spl 32 l=ws at *
 obtain ⟨hw1,hw2⟩:=hwl
 have HW:=Lib.hid hw2
 obtain ⟨n,hn⟩:∃n,ws.length=n:=⟨_,rfl⟩
 rw [hn] at HS
 have hn2:n≤3001:=by omega
 have hlen:¬(3000:Int)<(l.length:Int):=by omega
 have hE:(l==[])=false:=by simpa using h0
 clear hw2 h0
 go_enter Tryz.func88,Tryz.ntmps88
 go_wp2_with (go_at_call 31;((with_reducible refine HS.out.mono ?_);rintro e w1 ⟨v1,rfl,hv1,hq1⟩;obtain ⟨A1,c1,rfl,hvv, -⟩:=zaf hv1;have HQ1:=Lib.hid hq1;have HV1:=Lib.hid hv1;clear hq1 hv1 hvv))
 go_loopw [5,6] (fun u i wr=>∃(V:Value) (k:Nat) (acc:List St),V=u∧i = .int .i64 k∧k≤n∧acc.length≤200∧Hid (OwnV shSt wr w1.heap.size 132 V acc.length acc)∧Hid (Ext w1 wr)∧Hid (rparseGo [] ws=rparseGo acc (ws.drop k))) (fun _ i _=>n-(intOf i).toNat)
 case atStart=>exact ⟨_,0,[],rfl,rfl,Nat.zero_le _,by simp,Lib.hid (OwnV.nil _ _ _ _),Lib.hid (Ext.refl _),Lib.hid rfl⟩
 case round =>
  obtain ⟨V,k,acc,rfl,rfl,hk,hal,HV,HE1,HP⟩:=hrel
  have HE:=Lib.hid (HQ1.out.trans HE1.out)
  obtain ⟨A9,c9,rfl,hv9, -⟩:=zaf HV.out
  have HV9:=Lib.hid hv9
  clear hv9
  by_cases hlt:k<n
  ·obtain ⟨b3,off3,rfl, -,hlt3,hcs⟩:=zak HV1.out (by omega)
   have hcell:=(Below.cell (p:=⟨b3,off3+k,none⟩) HE1.out hlt3).trans (hcs k hlt)
   have hz:=World.block_lt_of_cell? wr _ hcell
   clear hcs
   have hd:=HP.out.trans (zlf (ws:=ws) (k:=k) (by omega) acc)
   have hxl:=HW.out (ws.getD k []) (by rw [List.getD_eq_getElem?_getD,List.getElem?_eq_getElem (by omega)];exact List.getElem_mem _)
   generalize ws.getD k []=x at *
   have q5:(k:Int)<(n:Int):=by omega
   have q4:(0:Int)≤(k:Int):=by omega
   cases hrw:refWord x with
   | none =>
    have HR:=Lib.hid (show ∀w',Calls Tryz.prog 123 #[.string ⟨x.toArray⟩] w' (WordR none w') from fun w'=>by rw [←hrw];exact zcu x (by omega) w')
    rw [hrw] at hd
    have HF:=Lib.hid (HPB.out hd)
    clear hd hrw hxl HP HW
    go_wp2_with (go_at_call 123;((with_reducible refine (HR.out _).mono ?_);rintro e w2 ⟨A2,n2,c2,rfl,hq2, -⟩;have HQ2:=Lib.hid (HE.out.trans hq2);clear hq2))
    go_ret2
    exact zaA HF.out HQ2.out
   | some L =>
    have hL3:=zgb hrw
    have HR:=Lib.hid (show ∀w',Calls Tryz.prog 123 #[.string ⟨x.toArray⟩] w' (WordR (some L) w') from fun w'=>by rw [←hrw];exact zcu x (by omega) w')
    rw [hrw] at hd
    simp only at hd
    have HD:=Lib.hid hd
    clear hd hrw hxl HP HW
    obtain ⟨m,hm⟩:∃m,L.length=m:=⟨_,rfl⟩
    by_cases h2:acc.length+m≤200
    ·have q6:¬((200:Int)<(acc.length:Int)+(m:Int)):=by omega
     have HF:=Lib.hid (HD.out.trans (if_neg (by rw [List.length_append];omega)))
     clear HD
     go_wp2_with (first
      | (go_at_call 123;((with_reducible refine (HR.out _).mono ?_);rintro e w2 ⟨A2,n2,c2,rfl,hq2,hv2⟩;obtain rfl:n2=m:=(by have:=(hv2 L rfl).1;omega);have HQ2:=Lib.hid (HE1.out.trans hq2);have HQ3:=Lib.hid hq2;have HV2:=Lib.hid (hv2 L rfl);clear hq2 hv2))
      | (at_builtin;(refine zac (S:=shSt) (w:=w1) (xs:=L) 73 132 (.agg #[.int .u8 0,.bool false,.int .i64 0,.int .i64 0]) 24 (by rfl) (by rfl) Tryz.underlying73 za0 (by rfl) (by omega) (by rfl) (by rfl) (OwnV.ext HV.out HQ3.out) HQ2.out HV2.out (by omega) ?_;intro v' w6 hown6 hext6 hgr6;obtain ⟨A6,c6,rfl, -, -⟩:=zaf hown6)))
     have HN:=Lib.hid (show OwnV shSt w6 w1.heap.size 132 (.slice A6 (acc.length+n2) c6) (acc++L).length (acc++L) by
      rw [List.length_append,hm]
      exact hown6)
     clear hown6 hgr6
     go_roundw
     case rel=>exact ⟨_,k+1,acc++L,rfl,by go_num,by omega,by rw [List.length_append];omega,HN,hext6,HF⟩
     case measure=>simp [intOf] <;> omega
    ·have q6:(200:Int)<(acc.length:Int)+(m:Int):=by omega
     have HF:=Lib.hid (HPB.out (HD.out.trans (if_pos (by rw [List.length_append];omega))))
     clear HD
     go_wp2_with (first
      | (go_at_call 123;((with_reducible refine (HR.out _).mono ?_);rintro e w2 ⟨A2,n2,c2,rfl,hq2,hv2⟩;obtain rfl:n2=m:=(by have:=(hv2 L rfl).1;omega);have HQ2:=Lib.hid (HE1.out.trans hq2);have HQ3:=Lib.hid hq2;have HV2:=Lib.hid (hv2 L rfl);clear hq2 hv2))
      | (at_builtin;(refine zac (S:=shSt) (w:=w1) (xs:=L) 73 132 (.agg #[.int .u8 0,.bool false,.int .i64 0,.int .i64 0]) 24 (by rfl) (by rfl) Tryz.underlying73 za0 (by rfl) (by omega) (by rfl) (by rfl) (OwnV.ext HV.out HQ3.out) HQ2.out HV2.out (by omega) ?_;intro v' w6 hown6 hext6 hgr6;obtain ⟨A6,c6,rfl, -, -⟩:=zaf hown6)))
     go_ret2
     exact zaA HF.out (HQ1.out.trans hext6.out)
  ·obtain rfl:k=n:=by omega
   have hfin:rparseGo [] ws=some acc:=by
    have h9:=HP.out
    rw [List.drop_of_length_le (by omega)] at h9
    exact h9
   have HL:=Lib.hid (HPE.out acc hfin)
   have HSA:=Lib.hid (fun (w':World) (hb:Ext wr w')=>zbv acc.length c9 A9 acc w' (HV9.out.ext hb) (by unfold maxLen;omega))
   clear hfin HP HPE HPB HW
   by_cases hA:allE acc=0
   ·have HTX:=Lib.hid (fun (w':World) (hb:Ext wr w')=>za3 acc.length c9 A9 acc w' (HV9.out.ext hb) hal (za6 hA).2.1)
    by_cases hT:textL acc=l
    ·have HF:=Lib.hid (HL.out.trans (if_pos (And.intro hA hT)))
     have HAE:=Lib.hid hA
     have HTE:=Lib.hid hT
     clear hA hT
     go_wp2_with (first
      | (go_at_call 90;((with_reducible refine (HSA.out _ (Ext.refl _)).mono ?_);rintro e w2 ⟨rfl,hq2⟩;rw [HAE.out];have HQ2:=Lib.hid hq2;clear hq2))
      | (go_at_call 108;((with_reducible refine (HTX.out _ HQ2.out).mono ?_);rintro e w3 ⟨rfl,hq3⟩;rw [HTE.out];have HQ3:=Lib.hid (HQ2.out.trans hq3);clear hq3)))
     go_ret2
     exact zbH HF.out ((OwnV.down HV.out HQ1.out.size).ext HQ3.out) (HE.out.trans HQ3.out)
    ·have HF:=Lib.hid (HL.out.trans (if_neg (fun h=>hT h.2)))
     have HAE:=Lib.hid hA
     have hT2:(textL acc==l)=false:=by simpa using hT
     clear hA hT
     generalize textL acc=T at *
     go_wp2_with (first
      | (go_at_call 90;((with_reducible refine (HSA.out _ (Ext.refl _)).mono ?_);rintro e w2 ⟨rfl,hq2⟩;rw [HAE.out];have HQ2:=Lib.hid hq2;clear hq2))
      | (go_at_call 108;((with_reducible refine (HTX.out _ HQ2.out).mono ?_);rintro e w3 ⟨rfl,hq3⟩;have HQ3:=Lib.hid (HQ2.out.trans hq3);clear hq3)))
     go_ret2
     exact zaA HF.out (HE.out.trans HQ3.out)
   ·have HF:=Lib.hid (HL.out.trans (if_neg (fun h=>hA h.1)))
    generalize hae:allE acc=ae at *
    have hb8:(ae != 0)=true:=by simpa using hA
    clear hA
    go_wp2_with (first
     | (go_at_call 90;((with_reducible refine (HSA.out _ (Ext.refl _)).mono ?_);rintro e w2 ⟨rfl,hq2⟩;have HQ2:=Lib.hid hq2;clear hq2)))
    go_ret2
    exact zaA HF.out (HE.out.trans HQ2.out)
theorem zh3 (l:List UInt8) (hl:l.length≤1000000000) (w:World):Calls Tryz.prog 88 #[.string ⟨l.toArray⟩] w (ParseR l w):=by
 by_cases h:3000<l.length
 ·exact zfH l h (by omega) w
 ·cases l with
  | nil=>exact zhy w
  | cons c r=>exact zfq _ (by simp) (by omega) w
end Go.Proofs.YtkneghkbgingdaaGreatDoor
/- The reference's reader of terms in memory: what list and term return,the boxes of term. -/
namespace Go.Proofs.YtkneghkbgingdaaGreatDoor
set_option maxRecDepth 100000
set_option maxRecDepth 100000
open Go.RowKit Go.ChangeShapes Go.WideShapes Go.Joins
def RListR (R:Option Tms) (w:World) (e:Ending) (w':World):Prop :=
 Ext w w'∧(R=none→e = .returned (.tuple #[.slice none 0 0,.bool false]))∧∀t,R=some t→∃v,e = .returned (.tuple #[v,.bool true])∧OwnT w' w.heap.size 134 v t.cnt t
theorem RListR.no {R:Option Tms} {w w':World} (h:R=none) (hb:Ext w w'):RListR R w (.returned (.tuple #[.slice none 0 0,.bool false])) w' :=
 ⟨hb,fun _=>rfl,fun t e=>by rw [h] at e;cases e⟩
theorem RListR.yes {R:Option Tms} {t:Tms} {v:Value} {w w':World} (h:R=some t) (hb:Ext w w') (ho:OwnT w' w.heap.size 134 v t.cnt t):RListR R w (.returned (.tuple #[v,.bool true])) w' :=
 ⟨hb,fun e=>(by rw [h] at e;cases e),fun t' e=>by rw [h] at e;cases e;exact ⟨v,rfl,ho⟩⟩
def RTermR (R:Option (Int×St×Tms)) (w:World) (e:Ending) (w':World):Prop :=
 Ext w w'∧(R=none→∃(n:Int) (A:Option Addr) (m cap:Nat),e = .returned (.tuple #[.agg #[.int .i64 n,.int .u8 0,.bool false,.int .i64 0,.int .i64 0,.slice A m cap],.bool false]))∧∀n c t,R=some (n,c,t)→∃(A:Option Addr) (cap:Nat),e = .returned (.tuple #[.agg #[.int .i64 n,.int .u8 c.k,.bool c.p,.int .i64 c.a,.int .i64 c.b,.slice A t.cnt cap],.bool true])∧TvK w' (fun b=>w.heap.size≤b) A t.cnt t∧(0≤c.k∧c.k≤255)
theorem RTermR.no {R:Option (Int×St×Tms)} {n:Int} {A:Option Addr} {m cap:Nat} {w w':World} (h:R=none) (hb:Ext w w'):RTermR R w (.returned (.tuple #[.agg #[.int .i64 n,.int .u8 0,.bool false,.int .i64 0,.int .i64 0,.slice A m cap],.bool false])) w' :=
 ⟨hb,fun _=>⟨n,A,m,cap,rfl⟩,fun n c t e=>by rw [h] at e;cases e⟩
theorem RTermR.yes {R:Option (Int×St×Tms)} {n:Int} {c:St} {t:Tms} {A:Option Addr} {cap:Nat} {w w':World} (h:R=some (n,c,t)) (hb:Ext w w') (ht:TvK w' (fun b=>w.heap.size≤b) A t.cnt t) (hk:0≤c.k∧c.k≤255) :
  RTermR R w (.returned (.tuple #[.agg #[.int .i64 n,.int .u8 c.k,.bool c.p,.int .i64 c.a,.int .i64 c.b,.slice A t.cnt cap],.bool true])) w' :=
 ⟨hb,fun e=>(by rw [h] at e;cases e),fun n' c' t' e=>by rw [h] at e;cases e;exact ⟨A,cap,rfl,ht,hk⟩⟩
abbrev zsR:Array Value:=#[.int .i64 1,.int .u8 0,.bool false,.int .i64 0,.int .i64 0,.slice none 0 0]
abbrev zsQ:Array Value:=#[.int .i64 0,.int .u8 0,.bool false,.int .i64 0,.int .i64 0,.slice none 0 0]
structure SB (W0:World) (cs:Array Value) (A:Option Addr) (t:Tms) (w:World):Prop where
 rx:w.heap[W0.heap.size]?=some (.cells zsQ 134 (0,0))
 bx:w.heap[W0.heap.size+1]?=some (.cells cs 134 (0,0))
 ex:Ext W0 w
 tv:TvK w (fun b=>W0.heap.size+2≤b) A t.cnt t
section
variable {W0 w w':World} {cs:Array Value} {A:Option Addr} {t:Tms}
theorem SB.ext (h:SB W0 cs A t w) (hb:Ext w w'):SB W0 cs A t w' :=
 ⟨by rw [hb.block _ (Array.getElem?_eq_some_iff.1 h.rx).1];exact h.rx,by rw [hb.block _ (Array.getElem?_eq_some_iff.1 h.bx).1];exact h.bx,h.ex.trans hb,h.tv.ext hb⟩
theorem SB.put (h:SB W0 cs A t w) (i:Nat) (v:Value):SB W0 (cs.setIfInBounds i v) A t (w.setCell ⟨W0.heap.size+1,i,none⟩ v):=by
 refine ⟨?_,heap_setCell_same w _ i cs _ v h.bx,((But.of_ext h.ex none).setCell (by simp) v).ext_none,h.tv.keep (by simp [World.setCell]) fun b _ hk=>⟨hk,fun o=>World.cell?_setCell_other _ _ _ _ ?_⟩⟩
 ·rw [Below.heap_setCell _ _ _ _ (by simp)];exact h.rx
 ·have hk2:W0.heap.size+2≤b:=hk
  intro e
  simp at e <;> omega
theorem SB.six {v0 v1 v2 v3 v4 v5:Value} (h:SB W0 #[v0,v1,v2,v3,v4,v5] A t w) :
  w.cell? ⟨W0.heap.size+1,0,none⟩=some v0∧w.cell? ⟨W0.heap.size+1,1,none⟩=some v1∧w.cell? ⟨W0.heap.size+1,2,none⟩=some v2∧w.cell? ⟨W0.heap.size+1,3,none⟩=some v3∧w.cell? ⟨W0.heap.size+1,4,none⟩=some v4∧w.cell? ⟨W0.heap.size+1,5,none⟩=some v5∧(∀j,w.frozen? ⟨W0.heap.size+1,j,none⟩=false)∧W0.heap.size+1<w.heap.size :=
 ⟨(cell_of_row w _ 0 _ _ (0,0) h.bx).trans rfl,(cell_of_row w _ 1 _ _ (0,0) h.bx).trans rfl,(cell_of_row w _ 2 _ _ (0,0) h.bx).trans rfl,(cell_of_row w _ 3 _ _ (0,0) h.bx).trans rfl,(cell_of_row w _ 4 _ _ (0,0) h.bx).trans rfl,(cell_of_row w _ 5 _ _ (0,0) h.bx).trans rfl,fun j=>frozen_of_row w _ j _ _ h.bx,(Array.getElem?_eq_some_iff.1 h.bx).1⟩
theorem SB.res (h:SB W0 cs A t w):w.cell? ⟨W0.heap.size,0,none⟩=some (.int .i64 0)∧w.cell? ⟨W0.heap.size,1,none⟩=some (.int .u8 0)∧w.cell? ⟨W0.heap.size,2,none⟩=some (.bool false)∧w.cell? ⟨W0.heap.size,3,none⟩=some (.int .i64 0)∧w.cell? ⟨W0.heap.size,4,none⟩=some (.int .i64 0)∧w.cell? ⟨W0.heap.size,5,none⟩=some (.slice none 0 0)∧(∀j,w.frozen? ⟨W0.heap.size,j,none⟩=false)∧W0.heap.size<w.heap.size :=
 ⟨(cell_of_row w _ 0 _ _ (0,0) h.rx).trans rfl,(cell_of_row w _ 1 _ _ (0,0) h.rx).trans rfl,(cell_of_row w _ 2 _ _ (0,0) h.rx).trans rfl,(cell_of_row w _ 3 _ _ (0,0) h.rx).trans rfl,(cell_of_row w _ 4 _ _ (0,0) h.rx).trans rfl,(cell_of_row w _ 5 _ _ (0,0) h.rx).trans rfl,fun j=>frozen_of_row w _ j _ _ h.rx,(Array.getElem?_eq_some_iff.1 h.rx).1⟩
theorem SB.grp {t':Tms} {A':Option Addr} (h:SB W0 cs A t w) (hk:TvK w (fun b=>W0.heap.size+2≤b) A' t'.cnt t'):SB W0 cs A' t' w:={ h with tv:=hk }
theorem SB.start (W0:World):SB W0 zsR none .nil ((W0.alloc (.cells zsQ 134)).alloc (.cells zsR 134)):=by
 have e1:((W0.alloc (.cells zsQ 134)).alloc (.cells zsR 134)).heap[W0.heap.size]?=(W0.alloc (.cells zsQ 134)).heap[W0.heap.size]?:=((Ext.refl _).alloc _).block _ (by simp)
 refine ⟨e1.trans (heap_alloc_new _ _),?_,Ext.alloc (Ext.alloc (Ext.refl _) _) _,TvK.none_ _ _ _⟩
 have:=heap_alloc_new (W0.alloc (.cells zsQ 134)) (.cells zsR 134)
 simpa using this
def sixR (w:World) (g1:Nat) (v0 v1 v2 v3 v4 v5:Value):World:=(((((w.setCell ⟨g1,0,none⟩ v0).setCell ⟨g1,1,none⟩ v1).setCell ⟨g1,2,none⟩ v2).setCell ⟨g1,3,none⟩ v3).setCell ⟨g1,4,none⟩ v4).setCell ⟨g1,5,none⟩ v5
theorem SB.fin (h:SB W0 cs A t w) (v0 v1 v2 v3 v4 v5:Value):Ext W0 (sixR w W0.heap.size v0 v1 v2 v3 v4 v5)∧TvK (sixR w W0.heap.size v0 v1 v2 v3 v4 v5) (fun b=>W0.heap.size≤b) A t.cnt t ∧
  (sixR w W0.heap.size v0 v1 v2 v3 v4 v5).cell? ⟨W0.heap.size,0,none⟩=some v0∧(sixR w W0.heap.size v0 v1 v2 v3 v4 v5).cell? ⟨W0.heap.size,1,none⟩=some v1∧(sixR w W0.heap.size v0 v1 v2 v3 v4 v5).cell? ⟨W0.heap.size,2,none⟩=some v2∧(sixR w W0.heap.size v0 v1 v2 v3 v4 v5).cell? ⟨W0.heap.size,3,none⟩=some v3∧(sixR w W0.heap.size v0 v1 v2 v3 v4 v5).cell? ⟨W0.heap.size,4,none⟩=some v4∧(sixR w W0.heap.size v0 v1 v2 v3 v4 v5).cell? ⟨W0.heap.size,5,none⟩=some v5:=by
 have hB:But (some W0.heap.size) w (sixR w W0.heap.size v0 v1 v2 v3 v4 v5):=by
  unfold sixR
  exact ((((((But.refl _ _).own (p:=⟨W0.heap.size,0,none⟩) rfl _).own (p:=⟨W0.heap.size,1,none⟩) rfl _).own (p:=⟨W0.heap.size,2,none⟩) rfl _).own (p:=⟨W0.heap.size,3,none⟩) rfl _).own (p:=⟨W0.heap.size,4,none⟩) rfl _).own (p:=⟨W0.heap.size,5,none⟩) rfl _
 have hT:But none W0 (sixR w W0.heap.size v0 v1 v2 v3 v4 v5):=by
  unfold sixR
  exact ((((((But.of_ext h.ex none).setCell (p:=⟨W0.heap.size,0,none⟩) (Nat.le_refl _) _).setCell (p:=⟨W0.heap.size,1,none⟩) (Nat.le_refl _) _).setCell (p:=⟨W0.heap.size,2,none⟩) (Nat.le_refl _) _).setCell (p:=⟨W0.heap.size,3,none⟩) (Nat.le_refl _) _).setCell (p:=⟨W0.heap.size,4,none⟩) (Nat.le_refl _) _).setCell (p:=⟨W0.heap.size,5,none⟩) (Nat.le_refl _) _
 have hH:(sixR w W0.heap.size v0 v1 v2 v3 v4 v5).heap[W0.heap.size]?=some (.cells #[v0,v1,v2,v3,v4,v5] 134 (0,0)):=by
  have h0:=heap_setCell_same w W0.heap.size 0 _ _ v0 h.rx
  have h1:=heap_setCell_same _ W0.heap.size 1 _ _ v1 h0
  have h2:=heap_setCell_same _ W0.heap.size 2 _ _ v2 h1
  have h3:=heap_setCell_same _ W0.heap.size 3 _ _ v3 h2
  have h4:=heap_setCell_same _ W0.heap.size 4 _ _ v4 h3
  exact heap_setCell_same _ W0.heap.size 5 _ _ v5 h4
 generalize sixR w W0.heap.size v0 v1 v2 v3 v4 v5=W9 at *
 refine ⟨hT.ext_none,?_,(cell_of_row _ _ 0 _ _ (0,0) hH).trans rfl,(cell_of_row _ _ 1 _ _ (0,0) hH).trans rfl,(cell_of_row _ _ 2 _ _ (0,0) hH).trans rfl,(cell_of_row _ _ 3 _ _ (0,0) hH).trans rfl,(cell_of_row _ _ 4 _ _ (0,0) hH).trans rfl,(cell_of_row _ _ 5 _ _ (0,0) hH).trans rfl⟩
 refine h.tv.but hB fun b _ hk=>?_
 have hk2:W0.heap.size+2≤b:=hk
 exact ⟨by omega,by intro e;simp at e <;> omega⟩
end
end Go.Proofs.YtkneghkbgingdaaGreatDoor
