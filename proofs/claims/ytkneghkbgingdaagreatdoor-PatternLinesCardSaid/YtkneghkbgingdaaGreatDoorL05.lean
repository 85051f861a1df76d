/- The contracts of Check, sum, All, Uses, Makes and Same of stitch. -/
import Derived.Test.YtkneghkbgingdaaGreatDoorL04
set_option maxHeartbeats 16000000
namespace Go.Proofs.YtkneghkbgingdaaGreatDoor
set_option maxRecDepth 100000
open Go.RowKit
theorem zaS (k:Int) (p:Bool) (a b:Int) (h0:0≤k) (h1:k≤255) (w:World) :
  Calls Tryz.prog 137 #[.agg #[.int .u8 k,.bool p,.int .i64 a,.int .i64 b]] w fun e w'=>e = .returned (.int .i64 (okE ⟨k,p,a,b⟩))∧Ext w w':=by
 cases hk:kindB k
 ·have HE:=Lib.hid (show okE ⟨k,p,a,b⟩=8 by simp [okE,okSt,hk])
  go_enter Tryz.func137,Tryz.ntmps137
  go_wp2_with (go_at_call 157;((with_reducible refine (zjW k h0 h1 hk _).mono ?_);rintro e w1 ⟨rfl,hq1⟩;unfold form0))
  go_ret
  exact ⟨by rw [HE.out];rfl,zx⟩
 cases ha:inR a (fa0 k) (fa1 k)
 ·have HE:=Lib.hid (show okE ⟨k,p,a,b⟩=8 by simp [okE,okSt,hk,ha])
  go_enter Tryz.func137,Tryz.ntmps137
  go_wp2_with (first | (go_at_call 157;((with_reducible refine (zbT k hk _).mono ?_);rintro e w1 ⟨rfl,hq1⟩;unfold formV;obtain ⟨hf1,hf2,hf3⟩:=hq1.facts)) | (go_at_call 165;((with_reducible refine (zaP a (fa0 k) (fa1 k) _).mono ?_);rintro e w2 ⟨rfl,hq2⟩;obtain ⟨hg1,hg2,hg3⟩:=hq2.facts;obtain ⟨hh1,hh2,hh3⟩:=(Ext.trans ((hq1.alloc _)) hq2).facts)))
  go_ret
  exact ⟨by rw [HE.out];rfl,zx⟩
 cases hb:inR b (fb0 k) (fb1 k)
 ·have HE:=Lib.hid (show okE ⟨k,p,a,b⟩=8 by simp [okE,okSt,hk,ha,hb])
  go_enter Tryz.func137,Tryz.ntmps137
  go_wp2_with (first | (go_at_call 157;((with_reducible refine (zbT k hk _).mono ?_);rintro e w1 ⟨rfl,hq1⟩;unfold formV;obtain ⟨hf1,hf2,hf3⟩:=hq1.facts)) | (go_at_call 165;((with_reducible refine (zaP a (fa0 k) (fa1 k) _).mono ?_);rintro e w2 ⟨rfl,hq2⟩;obtain ⟨hg1,hg2,hg3⟩:=hq2.facts;obtain ⟨hh1,hh2,hh3⟩:=(Ext.trans ((hq1.alloc _)) hq2).facts)) | (go_at_call 165;((with_reducible refine (zaP b (fb0 k) (fb1 k) _).mono ?_);rintro e w3 ⟨rfl,hq3⟩;obtain ⟨hi1,hi2,hi3⟩:=(hq2.trans hq3).facts;obtain ⟨hj1,hj2,hj3⟩:=(Ext.trans (Ext.trans ((hq1.alloc _)) hq2) hq3).facts)))
  go_ret
  exact ⟨by rw [HE.out];rfl,zx⟩
 have HE:=Lib.hid (show okE ⟨k,p,a,b⟩=if (p && !fsd k) then 8 else 0 by cases p <;> cases e:fsd k <;> simp [okE,okSt,hk,ha,hb,e])
 cases p
 ·go_enter Tryz.func137,Tryz.ntmps137
  go_wp2_with (first | (go_at_call 157;((with_reducible refine (zbT k hk _).mono ?_);rintro e w1 ⟨rfl,hq1⟩;unfold formV;obtain ⟨hf1,hf2,hf3⟩:=hq1.facts)) | (go_at_call 165;((with_reducible refine (zaP a (fa0 k) (fa1 k) _).mono ?_);rintro e w2 ⟨rfl,hq2⟩;obtain ⟨hg1,hg2,hg3⟩:=hq2.facts;obtain ⟨hh1,hh2,hh3⟩:=(Ext.trans ((hq1.alloc _)) hq2).facts)) | (go_at_call 165;((with_reducible refine (zaP b (fb0 k) (fb1 k) _).mono ?_);rintro e w3 ⟨rfl,hq3⟩;obtain ⟨hi1,hi2,hi3⟩:=(hq2.trans hq3).facts;obtain ⟨hj1,hj2,hj3⟩:=(Ext.trans (Ext.trans ((hq1.alloc _)) hq2) hq3).facts)))
  go_ret
  exact ⟨by rw [HE.out];rfl,zx⟩
 cases hs:fsd k
 all_goals
  rw [hs] at HE
  go_enter Tryz.func137,Tryz.ntmps137
  go_wp2_with (first | (go_at_call 157;((with_reducible refine (zbT k hk _).mono ?_);rintro e w1 ⟨rfl,hq1⟩;unfold formV;obtain ⟨hf1,hf2,hf3⟩:=hq1.facts)) | (go_at_call 165;((with_reducible refine (zaP a (fa0 k) (fa1 k) _).mono ?_);rintro e w2 ⟨rfl,hq2⟩;obtain ⟨hg1,hg2,hg3⟩:=hq2.facts;obtain ⟨hh1,hh2,hh3⟩:=(Ext.trans ((hq1.alloc _)) hq2).facts)) | (go_at_call 165;((with_reducible refine (zaP b (fb0 k) (fb1 k) _).mono ?_);rintro e w3 ⟨rfl,hq3⟩;obtain ⟨hi1,hi2,hi3⟩:=(hq2.trans hq3).facts;obtain ⟨hj1,hj2,hj3⟩:=(Ext.trans (Ext.trans ((hq1.alloc _)) hq2) hq3).facts)))
  go_ret
  exact ⟨by rw [HE.out];rfl,zx⟩
theorem zer (k:Int) (p:Bool) (a b how:Int) (ha : -1000≤a∧a≤1000) (hb : -1000≤b∧b≤1000) (hh:0≤how∧how≤3) (w:World) :
  Calls Tryz.prog 158 #[.agg #[.int .u8 k,.bool p,.int .i64 a,.int .i64 b],.int .i64 how] w fun e w'=>e = .returned (.int .i64 (lpV a b how))∧Ext w w':=by
 obtain ⟨ha0,ha1⟩:=ha
 obtain ⟨hb0,hb1⟩:=hb
 have i0:∀(x y:Int) w,(Instr.index 101 (.agg #[.int .i64 0,.int .i64 1,.int .i64 x,.int .i64 y]) (.int .i64 0)).run Tryz.prog w = .ok (.int .i64 0) w:=fun _ _ _=>by kernel_rfl
 have i1:∀(x y:Int) w,(Instr.index 101 (.agg #[.int .i64 0,.int .i64 1,.int .i64 x,.int .i64 y]) (.int .i64 1)).run Tryz.prog w = .ok (.int .i64 1) w:=fun _ _ _=>by kernel_rfl
 have i2:∀(x y:Int) w,(Instr.index 101 (.agg #[.int .i64 0,.int .i64 1,.int .i64 x,.int .i64 y]) (.int .i64 2)).run Tryz.prog w = .ok (.int .i64 x) w:=fun _ _ _=>by kernel_rfl
 have i3:∀(x y:Int) w,(Instr.index 101 (.agg #[.int .i64 0,.int .i64 1,.int .i64 x,.int .i64 y]) (.int .i64 3)).run Tryz.prog w = .ok (.int .i64 y) w:=fun _ _ _=>by kernel_rfl
 have hh':how=0∨how=1∨how=2∨how=3:=by omega
 rcases hh' with rfl | rfl | rfl | rfl
 all_goals
  go_enter Tryz.func158,Tryz.ntmps158
  go_wp2
  go_ret
  exact ⟨rfl,zx⟩
theorem zdS (n c:Nat) (A:Option Addr) (l:List St) (w:World) (hl:Vec shSt w A n l) (hn:n≤200) (hb:allB l=true) :
  Calls Tryz.prog 127 #[.slice A n c] w fun e w'=>e = .returned (.tuple #[.int .i64 (usL l),.int .i64 (mkL l)])∧Ext w w':=by
 have HX:=Lib.hid hl
 have HB:=Lib.hid hb
 have HL:=Lib.hid hl.1
 clear hl hb
 go_enter Tryz.func127,Tryz.ntmps127
 go_wp2_with fail
 go_loopw [2,3,10] (fun u m i wr=>∃k:Nat,k≤n∧i = .int .i64 k∧u = .int .i64 (usL (l.take k))∧m = .int .i64 (mkL (l.take k))∧Hid (Ext w wr)) (fun _ _ i _=>n-(intOf i).toNat)
 case atStart=>exact ⟨0,by omega,rfl,by simp [usL],by simp [mkL],Ext.refl _⟩
 case round =>
  obtain ⟨k,hk,rfl,rfl,rfl,hext⟩:=hrel
  have hxr:=hext.out
  by_cases hlt:k<n
  ·obtain ⟨b,off,rfl,hb1,hc⟩:=Sts.all (Vec.ext HX.out hext.out) (by omega)
   obtain ⟨c1,c2,c3,c4⟩:=hc k hlt
   have hz:=World.block_lt_of_cell? wr _ c1
   have hok:=zb9 HB.out (k:=k) (by rw [HL.out];exact hlt)
   have h1:=Lib.hid (zdY (l:=l) (k:=k) (by rw [HL.out];exact hlt))
   have h2:=Lib.hid (zdE (l:=l) (k:=k) (by rw [HL.out];exact hlt))
   obtain ⟨⟨s1,s2⟩,⟨s3,s4⟩⟩:=zdT HB.out k (by rw [HL.out];omega)
   have hkd:=Lib.hid (zdH hok)
   obtain ⟨⟨t1,t2,t3,t4⟩,⟨t5,t6⟩,⟨t7,t8⟩,⟨t9,t10⟩,⟨t11,t12⟩⟩:=zlZ hok
   clear hc hok
   generalize l.getD k st0=s at *
   obtain ⟨sk,sp,sa,sb⟩:=s
   simp only at c1 c2 c3 c4 t1 t2 t3 t4 t5 t6 t7 t8 t9 t10 t11 t12
   unfold usV at t5 t6 h1
   unfold mkV at t7 t8 h2
   simp only at t5 t6 t7 t8 h1 h2
   generalize usL (l.take k)=U at *
   generalize mkL (l.take k)=M at *
   go_wp2_with (first | (go_at_call 157;((with_reducible refine (zbT sk hkd.out _).mono ?_);rintro e w1 ⟨rfl,hq1⟩;unfold formV;obtain ⟨hf1,hf2,hf3⟩:=hq1.facts)) | (go_at_call 158;((with_reducible refine (zer sk sp sa sb (fus sk) (by omega) (by omega) (by omega) _).mono ?_);rintro e w2 ⟨rfl,hq2⟩;obtain ⟨hg1,hg2,hg3⟩:=hq2.facts;obtain ⟨hh1,hh2,hh3⟩:=(Ext.trans (hq1.alloc _) hq2).facts)) | (go_at_call 158;((with_reducible refine (zer sk sp sa sb (fmd sk) (by omega) (by omega) (by omega) _).mono ?_);rintro e w3 ⟨rfl,hq3⟩)))
   go_roundw
   case rel=>exact ⟨k+1,by omega,by go_num,by rw [h1.out],by rw [h2.out],zx⟩
   case measure=>simp [intOf];omega
  ·obtain rfl:k=n:=by omega
   have e1:l.take k=l:=List.take_of_length_le (by rw [HL.out];omega)
   rw [e1]
   clear e1
   go_wp2
   go_ret2
   exact ⟨rfl,zx⟩
theorem zfQ (k:Int) (p:Bool) (a b:Int) (h0:0≤k) (h1:k≤255) (w:World) :
  Calls Tryz.prog 156 #[.agg #[.int .u8 k,.bool p,.int .i64 a,.int .i64 b]] w fun e w'=>e = .returned (.bool (!okSt ⟨k,p,a,b⟩))∧Ext w w':=by
 have HE:=Lib.hid (show okE ⟨k,p,a,b⟩=if okSt ⟨k,p,a,b⟩ then 0 else 8 from rfl)
 have hc:=zaS k p a b h0 h1
 cases h:okSt ⟨k,p,a,b⟩
 all_goals
  rw [h] at HE
  rw [show okE ⟨k,p,a,b⟩=_ from HE.out] at hc
  have HC:=Lib.hid hc
  clear hc
  go_enter Tryz.func156,Tryz.ntmps156
  go_wp2_with (go_at_call 137;((with_reducible refine (HC.out _).mono ?_);rintro e w1 ⟨rfl,hq1⟩))
  go_ret
  exact ⟨rfl,zx⟩
theorem zgK (n c:Nat) (A:Option Addr) (l:List St) (w:World) (hl:Vec shSt w A n l) (hn:n≤maxLen) (hby:Bytes l) :
  Calls Tryz.prog 179 #[.slice A n c,.func (.func 156) #[] #[]] w fun e w'=>(∃j:Int,e = .returned (.int .i64 j)∧decide (0≤j) = !allB l ∧ -1≤j)∧Ext w w':=by
 have HX:=Lib.hid hl
 have HL:=Lib.hid hl.1
 have HBY:=Lib.hid hby
 unfold maxLen at hn
 have hn2:(n:Int)≤9223372036854775807:=by omega
 clear hl hby hn
 go_enter Tryz.func179,Tryz.ntmps179
 go_wp2_with fail
 go_loopw [8] (fun i wr=>∃k:Nat,k≤n∧i = .int .i64 k∧Hid (∀j,j<k→okSt (l.getD j st0)=true)∧Hid (Ext w wr)) (fun i _=>n-(intOf i).toNat)
 case atStart=>exact ⟨0,by omega,rfl,fun j hj=>absurd hj (by omega),Ext.refl _⟩
 case round =>
  obtain ⟨k,hk,rfl,hall,hext⟩:=hrel
  have hxr:=hext.out
  by_cases hlt:k<n
  ·obtain ⟨b,off,rfl,hb1,hc⟩:=Sts.all (Vec.ext HX.out hext.out) (by omega)
   obtain ⟨c1,c2,c3,c4⟩:=hc k hlt
   obtain ⟨y1,y2⟩:=HBY.out k (by rw [HL.out];exact hlt)
   clear hc
   cases hr:okSt (l.getD k st0)
   ·have HA:=Lib.hid (zdo HL.out hlt hr)
    generalize l.getD k st0=s at *
    obtain ⟨sk,sp,sa,sb⟩:=s
    simp only at c1 c2 c3 c4 y1 y2
    have HR:=Lib.hid hr
    clear hr hall
    go_wp2_with fail
    refine (zfQ sk sp sa sb y1 y2 wr).mono ?_
    rintro e w1 ⟨rfl,hq1⟩
    rw [HR.out]
    go_wp2
    go_ret
    exact ⟨⟨k,rfl,by rw [HA.out];simp,by omega⟩,zx⟩
   ·have HA:=Lib.hid (show ∀j,j<k+1→okSt (l.getD j st0)=true from fun j hj=>by
      by_cases e:j=k
      ·subst e;exact hr
      ·exact hall.out j (by omega))
    generalize l.getD k st0=s at *
    obtain ⟨sk,sp,sa,sb⟩:=s
    simp only at c1 c2 c3 c4 y1 y2
    have HR:=Lib.hid hr
    clear hr hall
    go_wp2_with fail
    refine (zfQ sk sp sa sb y1 y2 wr).mono ?_
    rintro e w1 ⟨rfl,hq1⟩
    rw [HR.out]
    go_wp2
    go_roundw
    case rel=>exact ⟨k+1,by omega,by go_num,HA,zx⟩
    case measure=>simp [intOf];omega
  ·obtain rfl:k=n:=by omega
   have HA:=Lib.hid (ze2 HL.out hall.out)
   go_wp2
   go_ret
   exact ⟨⟨-1,rfl,by rw [HA.out];simp,by omega⟩,zx⟩
theorem zdt (n c:Nat) (A:Option Addr) (l:List St) (w:World) (hl:Vec shSt w A n l) (hn:n≤maxLen) (hby:Bytes l) :
  Calls Tryz.prog 155 #[.slice A n c,.func (.func 156) #[] #[]] w fun e w'=>e = .returned (.bool (!allB l))∧Ext w w':=by
 have HI:=Lib.hid (zgK n c A l w hl hn hby)
 go_enter Tryz.func155,Tryz.ntmps155
 go_wp2_with (go_at_call 179;((with_reducible refine (HI.out).mono ?_);rintro e w1 ⟨⟨j,rfl,hj,hj2⟩,hq1⟩;have HJ:=Lib.hid hj;clear hj))
 go_ret
 exact ⟨by rw [←HJ.out];rfl,zx⟩
theorem zb5 (n c:Nat) (A:Option Addr) (l:List St) (w:World) (hl:Vec shSt w A n l) (hn:n≤maxLen) (hby:Bytes l) :
  Calls Tryz.prog 126 #[.slice A n c] w fun e w'=>e = .returned (.int .i64 (allE l))∧Ext w w':=by
 have HX:=Lib.hid hl
 have HL:=Lib.hid hl.1
 have hn2:(n:Int)≤9223372036854775807:=by unfold maxLen at hn;omega
 by_cases h1:200<n
 ·have HE:=Lib.hid (zee (l:=l) (by rw [HL.out];exact h1))
  clear hl hby
  go_enter Tryz.func126,Tryz.ntmps126
  go_wp2
  go_ret
  exact ⟨by rw [HE.out];rfl,zx⟩
 have HI:=Lib.hid (zdt n c A l w hl hn hby)
 clear hl hby
 cases h2:allB l
 ·have HE:=Lib.hid (zfR (l:=l) (by rw [HL.out];exact h1) h2)
  go_enter Tryz.func126,Tryz.ntmps126
  go_wp2_with (go_at_call 155;((with_reducible refine (HI.out).mono ?_);rintro e w1 ⟨rfl,hq1⟩))
  go_ret
  exact ⟨by rw [HE.out];rfl,zx⟩
 have HB:=Lib.hid h2
 have hsb:=zdT h2 l.length (Nat.le_refl _)
 rw [List.take_of_length_le (Nat.le_refl _)] at hsb
 rw [HL.out] at hsb
 obtain ⟨⟨s1,s2⟩,⟨s3,s4⟩⟩:=hsb
 have hmx:∀(ts:Array TypeId) (t:TypeId) (w:World),(Builtin.max_ ts t #[.int .i64 (usL l),.int .i64 (mkL l)]).run Tryz.prog w = .ok (.int .i64 (max (usL l) (mkL l))) w:=fun ts t w=>by
  rw [run_max_int2];congr 2;split <;> omega
 by_cases h3:200<max (usL l) (mkL l)
 ·have HE:=Lib.hid (zcD (l:=l) (by rw [HL.out];exact h1) h2 h3)
  have h3':decide (200<max (usL l) (mkL l))=true:=by simpa using h3
  clear h3
  go_enter Tryz.func126,Tryz.ntmps126
  go_wp2_with (first | (go_at_call 155;((with_reducible refine (HI.out).mono ?_);rintro e w1 ⟨rfl,hq1⟩)) | (go_at_call 127;((with_reducible refine (zdS n c A l _ (Vec.ext HX.out hq1) (by omega) HB.out).mono ?_);rintro e w2 ⟨rfl,hq2⟩)))
  go_ret
  exact ⟨by rw [HE.out];rfl,zx⟩
 ·have HE:=Lib.hid (zht (l:=l) (by rw [HL.out];exact h1) h2 h3)
  have h3':decide (200<max (usL l) (mkL l))=false:=by simpa using h3
  clear h3
  go_enter Tryz.func126,Tryz.ntmps126
  go_wp2_with (first | (go_at_call 155;((with_reducible refine (HI.out).mono ?_);rintro e w1 ⟨rfl,hq1⟩)) | (go_at_call 127;((with_reducible refine (zdS n c A l _ (Vec.ext HX.out hq1) (by omega) HB.out).mono ?_);rintro e w2 ⟨rfl,hq2⟩)))
  go_ret
  exact ⟨by rw [HE.out];rfl,zx⟩
end Go.Proofs.YtkneghkbgingdaaGreatDoor
/- The contracts of Uses,Makes and Same of stitch,and of the reference of what counts. -/
namespace Go.Proofs.YtkneghkbgingdaaGreatDoor
set_option maxRecDepth 100000
open Go.RowKit
attribute [local go_sem] zay
theorem zn9 {p:Prop} (h:p:=by
 go_wp2_with (go_at_call 126;((with_reducible refine (HI.out).mono ?_);rintro e w1 ⟨rfl,hq1⟩))
 go_ret2
 exact ⟨by rw [HV.out];rfl,zx⟩):p:=h
theorem zdZ (n c:Nat) (A:Option Addr) (l:List St) (w:World) (hl:Vec shSt w A n l) (hn:n≤maxLen) (hby:Bytes l) :
  Calls Tryz.prog 96 #[.slice A n c] w fun e w'=>e = .returned (.tuple #[.int .i64 (usG l),.int .i64 (allE l)])∧Ext w w':=by
 have HI:=Lib.hid (zb5 n c A l w hl hn hby)
 have HX:=Lib.hid hl
 by_cases h:allE l=0
 ·have HV:=Lib.hid (show usG l=usL l by rw [usG,if_pos h])
  have HE:=Lib.hid h
  obtain ⟨h1,h2,_,_⟩:=zaV h
  rw [hl.1] at h1
  have HB:=Lib.hid h2
  clear h h2 hl hby
  go_enter Tryz.func96,Tryz.ntmps96
  go_wp2_with (first | (go_at_call 126;((with_reducible refine (HI.out).mono ?_);rintro e w1 ⟨rfl,hq1⟩;rw [HE.out])) | (go_at_call 127;((with_reducible refine (zdS n c A l _ (Vec.ext HX.out hq1) (by omega) HB.out).mono ?_);rintro e w2 ⟨rfl,hq2⟩)))
  go_ret2
  exact ⟨by rw [HV.out,HE.out];rfl,zx⟩
 ·have HV:=Lib.hid (show usG l=0 by rw [usG,if_neg h])
  have hb:(allE l != 0)=true:=by simpa using h
  clear h hl hby
  go_enter Tryz.func96,Tryz.ntmps96
  exact zn9
theorem zih (n c:Nat) (A:Option Addr) (l:List St) (w:World) (hl:Vec shSt w A n l) (hn:n≤maxLen) (hby:Bytes l) :
  Calls Tryz.prog 97 #[.slice A n c] w fun e w'=>e = .returned (.tuple #[.int .i64 (mkG l),.int .i64 (allE l)])∧Ext w w':=by
 have HI:=Lib.hid (zb5 n c A l w hl hn hby)
 have HX:=Lib.hid hl
 by_cases h:allE l=0
 ·have HV:=Lib.hid (show mkG l=mkL l by rw [mkG,if_pos h])
  have HE:=Lib.hid h
  obtain ⟨h1,h2,_,_⟩:=zaV h
  rw [hl.1] at h1
  have HB:=Lib.hid h2
  clear h h2 hl hby
  go_enter Tryz.func97,Tryz.ntmps97
  go_wp2_with (first | (go_at_call 126;((with_reducible refine (HI.out).mono ?_);rintro e w1 ⟨rfl,hq1⟩;rw [HE.out])) | (go_at_call 127;((with_reducible refine (zdS n c A l _ (Vec.ext HX.out hq1) (by omega) HB.out).mono ?_);rintro e w2 ⟨rfl,hq2⟩)))
  go_ret2
  exact ⟨by rw [HV.out,HE.out];rfl,zx⟩
 ·have HV:=Lib.hid (show mkG l=0 by rw [mkG,if_neg h])
  have hb:(allE l != 0)=true:=by simpa using h
  clear h hl hby
  go_enter Tryz.func97,Tryz.ntmps97
  exact zn9
theorem zhl (n m c d:Nat) (A B:Option Addr) (xs ys:List St) (w:World) (hx:Vec shSt w A n xs) (hy:Vec shSt w B m ys) (hn:n≤maxLen) :
  Calls Tryz.prog 98 #[.slice A n c,.slice B m d] w fun e w'=>e = .returned (.bool (decide (xs=ys)))∧Ext w w':=by
 have HX:=Lib.hid hx
 have HY:=Lib.hid hy
 unfold maxLen at hn
 have hn2:(n:Int)≤9223372036854775807:=by omega
 clear hx hy hn
 by_cases hnm:n=m
 ·subst hnm
  go_enter Tryz.func98,Tryz.ntmps98
  go_wp2_with fail
  go_loopw [13] (fun i wr=>∃k:Nat,k≤n∧i = .int .i64 k∧Hid (∀j,j<k→xs.getD j st0=ys.getD j st0)∧Hid (Ext w wr)) (fun i _=>n-(intOf i).toNat)
  case atStart=>exact ⟨0,by omega,rfl,fun j hj=>absurd hj (by omega),Ext.refl _⟩
  case round =>
   obtain ⟨k,hk,rfl,hall,hext⟩:=hrel
   have:=hext.out
   by_cases hlt:k<n
   ·obtain ⟨b,off,rfl,hb,hc⟩:=Sts.all (HX.out.ext hext.out) (by omega)
    obtain ⟨b',off',rfl,hb',hc'⟩:=Sts.all (HY.out.ext hext.out) (by omega)
    obtain ⟨h1,h2,h3,h4⟩:=hc k hlt
    obtain ⟨h5,h6,h7,h8⟩:=hc' k hlt
    clear hc hc'
    have q0:(0:Int)≤(k:Int):=by omega
    have q1:(k:Int)<(n:Int):=by omega
    by_cases hxy:xs.getD k st0=ys.getD k st0
    ·have HA:=Lib.hid (show ∀j,j<k+1→xs.getD j st0=ys.getD j st0 from fun j hj=>by
      by_cases e:j=k
      ·subst e;exact hxy
      ·exact hall.out j (by omega))
     rw [←hxy] at h5 h6 h7 h8
     clear hall hxy
     generalize xs.getD k st0=x at *
     obtain ⟨x1,x2,x3,x4⟩:=x
     simp only at h1 h2 h3 h4 h5 h6 h7 h8
     go_wp2_with fail
     go_quiet (fail)
     go_wp2
     go_roundw
     case rel=>exact ⟨k+1,by omega,by go_num,HA,zx⟩
     case measure=>simp [intOf];omega
    ·have HF:=Lib.hid (show decide (xs=ys)=false by
      simp only [decide_eq_false_iff_not];rintro rfl;exact hxy rfl)
     generalize xs.getD k st0=x at *
     generalize ys.getD k st0=y at *
     obtain ⟨x1,x2,x3,x4⟩:=x
     obtain ⟨y1,y2,y3,y4⟩:=y
     simp only at h1 h2 h3 h4 h5 h6 h7 h8
     have hne:=zb4 hxy
     clear hxy
     go_wp2_with fail
     go_quiet (fail)
     go_wp2
     go_ret
     exact ⟨by rw [HF.out];rfl,zx⟩
   ·obtain rfl:k=n:=by omega
    have HF:=Lib.hid (show decide (xs=ys)=true from decide_eq_true (znm HX.out.1 HY.out.1 hall.out))
    go_wp2
    go_ret
    exact ⟨by rw [HF.out];rfl,hext.out⟩
 ·have HF:=Lib.hid (show decide (xs=ys)=false by
   simp only [decide_eq_false_iff_not];rintro rfl;exact hnm (HX.out.1.symm.trans HY.out.1))
  have hne:((n:Int) != (m:Int))=true:=by simp;omega
  go_enter Tryz.func98,Tryz.ntmps98
  go_wp2_with fail
  go_ret
  exact ⟨by rw [HF.out];rfl,zx⟩
theorem zi6 (n m c d:Nat) (A B:Option Addr) (xs ys:List St) (w:World) (hx:Vec shSt w A n xs) (hy:Vec shSt w B m ys) (hn:n≤maxLen) :
  Calls Tryz.prog 68 #[.slice A n c,.slice B m d] w fun e w'=>e = .returned (.bool (decide (xs=ys)))∧Ext w w':=by
 have HI:=Lib.hid (zhl n m c d A B xs ys w hx hy hn)
 clear hx hy hn
 go_enter Tryz.func68,Tryz.ntmps68
 go_wp2_with (go_at_call 98;((with_reducible refine (HI.out).mono ?_);rintro e w1 ⟨rfl,hq1⟩))
 go_ret
 exact ⟨rfl,zx⟩
theorem zeK (n m c d:Nat) (A B:Option Addr) (xs ys:List St) (w:World) (hx:Vec shSt w A n xs) (hy:Vec shSt w B m ys) (hn:n≤maxLen) :
  Calls Tryz.prog 49 #[.slice A n c,.slice B m d] w fun e w'=>e = .returned (.bool (decide (xs=ys)))∧Ext w w':=by
 have HX:=Lib.hid hx
 have HY:=Lib.hid hy
 unfold maxLen at hn
 have hn2:(n:Int)≤9223372036854775807:=by omega
 clear hx hy hn
 by_cases hnm:n=m
 ·subst hnm
  go_enter Tryz.func49,Tryz.ntmps49
  go_wp2_with fail
  go_loopw [5] (fun i wr=>∃k:Nat,k≤n∧i = .int .i64 k∧Hid (∀j,j<k→xs.getD j st0=ys.getD j st0)∧Hid (Ext w wr)) (fun i _=>n-(intOf i).toNat)
  case atStart=>exact ⟨0,by omega,rfl,fun j hj=>absurd hj (by omega),Ext.refl _⟩
  case round =>
   obtain ⟨k,hk,rfl,hall,hext⟩:=hrel
   have:=hext.out
   by_cases hlt:k<n
   ·obtain ⟨b,off,rfl,hb,hc⟩:=Sts.all (HX.out.ext hext.out) (by omega)
    obtain ⟨b',off',rfl,hb',hc'⟩:=Sts.all (HY.out.ext hext.out) (by omega)
    obtain ⟨h1,h2,h3,h4⟩:=hc k hlt
    obtain ⟨h5,h6,h7,h8⟩:=hc' k hlt
    clear hc hc'
    have q0:(0:Int)≤(k:Int):=by omega
    have q1:(k:Int)<(n:Int):=by omega
    by_cases hxy:xs.getD k st0=ys.getD k st0
    ·have HA:=Lib.hid (show ∀j,j<k+1→xs.getD j st0=ys.getD j st0 from fun j hj=>by
      by_cases e:j=k
      ·subst e;exact hxy
      ·exact hall.out j (by omega))
     rw [←hxy] at h5 h6 h7 h8
     clear hall hxy
     generalize xs.getD k st0=x at *
     obtain ⟨x1,x2,x3,x4⟩:=x
     simp only at h1 h2 h3 h4 h5 h6 h7 h8
     go_wp2_with fail
     go_quiet (fail)
     go_wp2
     go_roundw
     case rel=>exact ⟨k+1,by omega,by go_num,HA,zx⟩
     case measure=>simp [intOf];omega
    ·have HF:=Lib.hid (show decide (xs=ys)=false by
      simp only [decide_eq_false_iff_not];rintro rfl;exact hxy rfl)
     generalize xs.getD k st0=x at *
     generalize ys.getD k st0=y at *
     obtain ⟨x1,x2,x3,x4⟩:=x
     obtain ⟨y1,y2,y3,y4⟩:=y
     simp only at h1 h2 h3 h4 h5 h6 h7 h8
     have hne:=zb4 hxy
     clear hxy
     go_wp2_with fail
     go_quiet (fail)
     go_wp2
     go_ret
     exact ⟨by rw [HF.out];rfl,zx⟩
   ·obtain rfl:k=n:=by omega
    have HF:=Lib.hid (show decide (xs=ys)=true from decide_eq_true (znm HX.out.1 HY.out.1 hall.out))
    go_wp2
    go_ret
    exact ⟨by rw [HF.out];rfl,hext.out⟩
 ·have HF:=Lib.hid (show decide (xs=ys)=false by
   simp only [decide_eq_false_iff_not];rintro rfl;exact hnm (HX.out.1.symm.trans HY.out.1))
  have hne:((n:Int) != (m:Int))=true:=by simp;omega
  go_enter Tryz.func49,Tryz.ntmps49
  go_wp2_with fail
  go_ret
  exact ⟨by rw [HF.out];rfl,zx⟩
end Go.Proofs.YtkneghkbgingdaaGreatDoor
