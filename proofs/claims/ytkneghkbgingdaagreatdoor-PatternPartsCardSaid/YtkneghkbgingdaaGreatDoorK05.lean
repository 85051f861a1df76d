/- The contracts of Check, sum, All, Uses, Makes and Same of stitch. -/
import Derived.Test.YtkneghkbgingdaaGreatDoorK04
set_option maxHeartbeats 16000000
namespace Go.Proofs.YtkneghkbgingdaaGreatDoor
set_option maxRecDepth 100000
open Go.RowKit
theorem zaX (k:Int) (p:Bool) (a b:Int) (h0:0≤k) (h1:k≤255) (w:World) :
  Calls Tryz.prog 137 #[.agg #[.int .u8 k,.bool p,.int .i64 a,.int .i64 b]] w fun e w'=>e = .returned (.int .i64 (okE ⟨k,p,a,b⟩))∧Ext w w':=by
 cases hk:kindB k
 ·have HE:=Za (show okE ⟨k,p,a,b⟩=8 by simp [okE,okSt,hk])
  go_enter Tryz.func137,Tryz.ntmps137
  go_wp2_with (go_at_call 157;((with_reducible refine (zkz k h0 h1 hk _).mono ?_);rintro e w1 ⟨rfl,hq1⟩;unfold form0))
  go_ret
  exact ⟨by rw [HE.out];rfl,zx⟩
 cases ha:inR a (fa0 k) (fa1 k)
 ·have HE:=Za (show okE ⟨k,p,a,b⟩=8 by simp [okE,okSt,hk,ha])
  go_enter Tryz.func137,Tryz.ntmps137
  go_wp2_with (first | (go_at_call 157;((with_reducible refine (zcb k hk _).mono ?_);rintro e w1 ⟨rfl,hq1⟩;unfold formV;obtain ⟨hf1,hf2,hf3⟩:=hq1.facts)) | (go_at_call 165;((with_reducible refine (zaU a (fa0 k) (fa1 k) _).mono ?_);rintro e w2 ⟨rfl,hq2⟩;obtain ⟨hg1,hg2,hg3⟩:=hq2.facts;obtain ⟨hh1,hh2,hh3⟩:=(Zb ((hq1.alloc _)) hq2).facts)))
  go_ret
  exact ⟨by rw [HE.out];rfl,zx⟩
 cases hb:inR b (fb0 k) (fb1 k)
 ·have HE:=Za (show okE ⟨k,p,a,b⟩=8 by simp [okE,okSt,hk,ha,hb])
  go_enter Tryz.func137,Tryz.ntmps137
  go_wp2_with (first | (go_at_call 157;((with_reducible refine (zcb k hk _).mono ?_);rintro e w1 ⟨rfl,hq1⟩;unfold formV;obtain ⟨hf1,hf2,hf3⟩:=hq1.facts)) | (go_at_call 165;((with_reducible refine (zaU a (fa0 k) (fa1 k) _).mono ?_);rintro e w2 ⟨rfl,hq2⟩;obtain ⟨hg1,hg2,hg3⟩:=hq2.facts;obtain ⟨hh1,hh2,hh3⟩:=(Zb ((hq1.alloc _)) hq2).facts)) | (go_at_call 165;((with_reducible refine (zaU b (fb0 k) (fb1 k) _).mono ?_);rintro e w3 ⟨rfl,hq3⟩;obtain ⟨hi1,hi2,hi3⟩:=(hq2.trans hq3).facts;obtain ⟨hj1,hj2,hj3⟩:=(Zb (Zb ((hq1.alloc _)) hq2) hq3).facts)))
  go_ret
  exact ⟨by rw [HE.out];rfl,zx⟩
 have HE:=Za (show okE ⟨k,p,a,b⟩=if (p && !fsd k) then 8 else 0 by cases p <;> cases e:fsd k <;> simp [okE,okSt,hk,ha,hb,e])
 cases p
 ·go_enter Tryz.func137,Tryz.ntmps137
  go_wp2_with (first | (go_at_call 157;((with_reducible refine (zcb k hk _).mono ?_);rintro e w1 ⟨rfl,hq1⟩;unfold formV;obtain ⟨hf1,hf2,hf3⟩:=hq1.facts)) | (go_at_call 165;((with_reducible refine (zaU a (fa0 k) (fa1 k) _).mono ?_);rintro e w2 ⟨rfl,hq2⟩;obtain ⟨hg1,hg2,hg3⟩:=hq2.facts;obtain ⟨hh1,hh2,hh3⟩:=(Zb ((hq1.alloc _)) hq2).facts)) | (go_at_call 165;((with_reducible refine (zaU b (fb0 k) (fb1 k) _).mono ?_);rintro e w3 ⟨rfl,hq3⟩;obtain ⟨hi1,hi2,hi3⟩:=(hq2.trans hq3).facts;obtain ⟨hj1,hj2,hj3⟩:=(Zb (Zb ((hq1.alloc _)) hq2) hq3).facts)))
  go_ret
  exact ⟨by rw [HE.out];rfl,zx⟩
 cases hs:fsd k
 all_goals
  rw [hs] at HE
  go_enter Tryz.func137,Tryz.ntmps137
  go_wp2_with (first | (go_at_call 157;((with_reducible refine (zcb k hk _).mono ?_);rintro e w1 ⟨rfl,hq1⟩;unfold formV;obtain ⟨hf1,hf2,hf3⟩:=hq1.facts)) | (go_at_call 165;((with_reducible refine (zaU a (fa0 k) (fa1 k) _).mono ?_);rintro e w2 ⟨rfl,hq2⟩;obtain ⟨hg1,hg2,hg3⟩:=hq2.facts;obtain ⟨hh1,hh2,hh3⟩:=(Zb ((hq1.alloc _)) hq2).facts)) | (go_at_call 165;((with_reducible refine (zaU b (fb0 k) (fb1 k) _).mono ?_);rintro e w3 ⟨rfl,hq3⟩;obtain ⟨hi1,hi2,hi3⟩:=(hq2.trans hq3).facts;obtain ⟨hj1,hj2,hj3⟩:=(Zb (Zb ((hq1.alloc _)) hq2) hq3).facts)))
  go_ret
  exact ⟨by rw [HE.out];rfl,zx⟩
theorem ze0 (k:Int) (p:Bool) (a b how:Int) (ha : -1000≤a∧a≤1000) (hb : -1000≤b∧b≤1000) (hh:0≤how∧how≤3) (w:World) :
  Calls Tryz.prog 158 #[.agg #[.int .u8 k,.bool p,.int .i64 a,.int .i64 b],.int .i64 how] w fun e w'=>e = .returned (.int .i64 (lpV a b how))∧Ext w w':=by
 obtain ⟨ha0,ha1⟩:=ha
 obtain ⟨hb0,hb1⟩:=hb
 have i0:∀(x y:Int) w,(Instr.index 101 (.agg #[.int .i64 0,.int .i64 1,.int .i64 x,.int .i64 y]) (.int .i64 0)).run Tryz.prog w = .ok (.int .i64 0) w:=fun _ _ _=>by kernel_rfl
 have i1:∀(x y:Int) w,(Instr.index 101 (.agg #[.int .i64 0,.int .i64 1,.int .i64 x,.int .i64 y]) (.int .i64 1)).run Tryz.prog w = .ok (.int .i64 1) w:=fun _ _ _=>by kernel_rfl
 have i2:∀(x y:Int) w,(Instr.index 101 (.agg #[.int .i64 0,.int .i64 1,.int .i64 x,.int .i64 y]) (.int .i64 2)).run Tryz.prog w = .ok (.int .i64 x) w:=fun _ _ _=>by kernel_rfl
 have i3:∀(x y:Int) w,(Instr.index 101 (.agg #[.int .i64 0,.int .i64 1,.int .i64 x,.int .i64 y]) (.int .i64 3)).run Tryz.prog w = .ok (.int .i64 y) w:=fun _ _ _=>by kernel_rfl
 have hh':how=0∨how=1∨how=2∨how=3:=by omega
 rcases hh' with rfl | rfl | rfl | rfl
 all_goals
  go_enter Tryz.func158,Tryz.ntmps158
  go_wp2
  go_ret
  exact ⟨rfl,zx⟩
theorem zeo (n c:Nat) (A:Option Addr) (l:List St) (w:World) (hl:Vec shSt w A n l) (hn:n≤200) (hb:allB l=true) :
  Calls Tryz.prog 127 #[.slice A n c] w fun e w'=>e = .returned (.tuple #[.int .i64 (usL l),.int .i64 (mkL l)])∧Ext w w':=by
 have HX:=Za hl
 have HB:=Za hb
 have HL:=Za hl.1
 clear hl hb
 go_enter Tryz.func127,Tryz.ntmps127
 go_wp2_with fail
 go_loopw [2,3,10] (fun u m i wr=>∃k:Nat,k≤n∧i = .int .i64 k∧u = .int .i64 (usL (l.take k))∧m = .int .i64 (mkL (l.take k))∧Hid (Ext w wr)) (fun _ _ i _=>n-(intOf i).toNat)
 case atStart=>exact ⟨0,by omega,rfl,by simp [usL],by simp [mkL],Zd _⟩
 case round =>
  obtain ⟨k,hk,rfl,rfl,rfl,hext⟩:=hrel
  have hxr:=hext.out
  by_cases hlt:k<n
  ·obtain ⟨b,off,rfl,hb1,hc⟩:=Sts.all (Vec.ext HX.out hext.out) (by omega)
   obtain ⟨c1,c2,c3,c4⟩:=hc k hlt
   have hz:=Zo wr _ c1
   have hok:=zcv HB.out (k:=k) (by rw [HL.out];exact hlt)
   have h1:=Za (zeu (l:=l) (k:=k) (by rw [HL.out];exact hlt))
   have h2:=Za (zea (l:=l) (k:=k) (by rw [HL.out];exact hlt))
   obtain ⟨⟨s1,s2⟩,⟨s3,s4⟩⟩:=zep HB.out k (by rw [HL.out];omega)
   have hkd:=Za (zec hok)
   obtain ⟨⟨t1,t2,t3,t4⟩,⟨t5,t6⟩,⟨t7,t8⟩,⟨t9,t10⟩,⟨t11,t12⟩⟩:=zmv hok
   clear hc hok
   generalize l.getD k st0=s at *
   obtain ⟨sk,sp,sa,sb⟩:=s
   simp only at c1 c2 c3 c4 t1 t2 t3 t4 t5 t6 t7 t8 t9 t10 t11 t12
   unfold usV at t5 t6 h1
   unfold mkV at t7 t8 h2
   simp only at t5 t6 t7 t8 h1 h2
   generalize usL (l.take k)=U at *
   generalize mkL (l.take k)=M at *
   go_wp2_with (first | (go_at_call 157;((with_reducible refine (zcb sk hkd.out _).mono ?_);rintro e w1 ⟨rfl,hq1⟩;unfold formV;obtain ⟨hf1,hf2,hf3⟩:=hq1.facts)) | (go_at_call 158;((with_reducible refine (ze0 sk sp sa sb (fus sk) (by omega) (by omega) (by omega) _).mono ?_);rintro e w2 ⟨rfl,hq2⟩;obtain ⟨hg1,hg2,hg3⟩:=hq2.facts;obtain ⟨hh1,hh2,hh3⟩:=(Zb (hq1.alloc _) hq2).facts)) | (go_at_call 158;((with_reducible refine (ze0 sk sp sa sb (fmd sk) (by omega) (by omega) (by omega) _).mono ?_);rintro e w3 ⟨rfl,hq3⟩)))
   go_roundw
   case rel=>exact ⟨k+1,by omega,by go_num,by rw [h1.out],by rw [h2.out],zx⟩
   case measure=>simp [intOf];omega
  ·obtain rfl:k=n:=by omega
   have e1:l.take k=l:=Zz (by rw [HL.out];omega)
   rw [e1]
   clear e1
   go_wp2
   go_ret2
   exact ⟨rfl,zx⟩
theorem zgt (k:Int) (p:Bool) (a b:Int) (h0:0≤k) (h1:k≤255) (w:World) :
  Calls Tryz.prog 156 #[.agg #[.int .u8 k,.bool p,.int .i64 a,.int .i64 b]] w fun e w'=>e = .returned (.bool (!okSt ⟨k,p,a,b⟩))∧Ext w w':=by
 have HE:=Za (show okE ⟨k,p,a,b⟩=if okSt ⟨k,p,a,b⟩ then 0 else 8 from rfl)
 have hc:=zaX k p a b h0 h1
 cases h:okSt ⟨k,p,a,b⟩
 all_goals
  rw [h] at HE
  rw [show okE ⟨k,p,a,b⟩=_ from HE.out] at hc
  have HC:=Za hc
  clear hc
  go_enter Tryz.func156,Tryz.ntmps156
  go_wp2_with (go_at_call 137;((with_reducible refine (HC.out _).mono ?_);rintro e w1 ⟨rfl,hq1⟩))
  go_ret
  exact ⟨rfl,zx⟩
theorem zho (n c:Nat) (A:Option Addr) (l:List St) (w:World) (hl:Vec shSt w A n l) (hn:n≤maxLen) (hby:Bytes l) :
  Calls Tryz.prog 179 #[.slice A n c,.func (.func 156) #[] #[]] w fun e w'=>(∃j:Int,e = .returned (.int .i64 j)∧decide (0≤j) = !allB l ∧ -1≤j)∧Ext w w':=by
 have HX:=Za hl
 have HL:=Za hl.1
 have HBY:=Za hby
 unfold maxLen at hn
 have hn2:(n:Int)≤9223372036854775807:=by omega
 clear hl hby hn
 go_enter Tryz.func179,Tryz.ntmps179
 go_wp2_with fail
 go_loopw [8] (fun i wr=>∃k:Nat,k≤n∧i = .int .i64 k∧Hid (∀j,j<k→okSt (l.getD j st0)=true)∧Hid (Ext w wr)) (fun i _=>n-(intOf i).toNat)
 case atStart=>exact ⟨0,by omega,rfl,fun j hj=>absurd hj (by omega),Zd _⟩
 case round =>
  obtain ⟨k,hk,rfl,hall,hext⟩:=hrel
  have hxr:=hext.out
  by_cases hlt:k<n
  ·obtain ⟨b,off,rfl,hb1,hc⟩:=Sts.all (Vec.ext HX.out hext.out) (by omega)
   obtain ⟨c1,c2,c3,c4⟩:=hc k hlt
   obtain ⟨y1,y2⟩:=HBY.out k (by rw [HL.out];exact hlt)
   clear hc
   cases hr:okSt (l.getD k st0)
   ·have HA:=Za (zdR HL.out hlt hr)
    generalize l.getD k st0=s at *
    obtain ⟨sk,sp,sa,sb⟩:=s
    simp only at c1 c2 c3 c4 y1 y2
    have HR:=Za hr
    clear hr hall
    go_wp2_with fail
    refine (zgt sk sp sa sb y1 y2 wr).mono ?_
    rintro e w1 ⟨rfl,hq1⟩
    rw [HR.out]
    go_wp2
    go_ret
    exact ⟨⟨k,rfl,by rw [HA.out];simp,by omega⟩,zx⟩
   ·have HA:=Za (show ∀j,j<k+1→okSt (l.getD j st0)=true from fun j hj=>by
      by_cases e:j=k
      ·subst e;exact hr
      ·exact hall.out j (by omega))
    generalize l.getD k st0=s at *
    obtain ⟨sk,sp,sa,sb⟩:=s
    simp only at c1 c2 c3 c4 y1 y2
    have HR:=Za hr
    clear hr hall
    go_wp2_with fail
    refine (zgt sk sp sa sb y1 y2 wr).mono ?_
    rintro e w1 ⟨rfl,hq1⟩
    rw [HR.out]
    go_wp2
    go_roundw
    case rel=>exact ⟨k+1,by omega,by go_num,HA,zx⟩
    case measure=>simp [intOf];omega
  ·obtain rfl:k=n:=by omega
   have HA:=Za (zfB HL.out hall.out)
   go_wp2
   go_ret
   exact ⟨⟨-1,rfl,by rw [HA.out];simp,by omega⟩,zx⟩
theorem zdW (n c:Nat) (A:Option Addr) (l:List St) (w:World) (hl:Vec shSt w A n l) (hn:n≤maxLen) (hby:Bytes l) :
  Calls Tryz.prog 155 #[.slice A n c,.func (.func 156) #[] #[]] w fun e w'=>e = .returned (.bool (!allB l))∧Ext w w':=by
 have HI:=Za (zho n c A l w hl hn hby)
 go_enter Tryz.func155,Tryz.ntmps155
 go_wp2_with (go_at_call 179;((with_reducible refine (HI.out).mono ?_);rintro e w1 ⟨⟨j,rfl,hj,hj2⟩,hq1⟩;have HJ:=Za hj;clear hj))
 go_ret
 exact ⟨by rw [←HJ.out];rfl,zx⟩
theorem zcp (n c:Nat) (A:Option Addr) (l:List St) (w:World) (hl:Vec shSt w A n l) (hn:n≤maxLen) (hby:Bytes l) :
  Calls Tryz.prog 126 #[.slice A n c] w fun e w'=>e = .returned (.int .i64 (allE l))∧Ext w w':=by
 have HX:=Za hl
 have HL:=Za hl.1
 have hn2:(n:Int)≤9223372036854775807:=by unfold maxLen at hn;omega
 by_cases h1:200<n
 ·have HE:=Za (zeK (l:=l) (by rw [HL.out];exact h1))
  clear hl hby
  go_enter Tryz.func126,Tryz.ntmps126
  go_wp2
  go_ret
  exact ⟨by rw [HE.out];rfl,zx⟩
 have HI:=Za (zdW n c A l w hl hn hby)
 clear hl hby
 cases h2:allB l
 ·have HE:=Za (zgu (l:=l) (by rw [HL.out];exact h1) h2)
  go_enter Tryz.func126,Tryz.ntmps126
  go_wp2_with (go_at_call 155;((with_reducible refine (HI.out).mono ?_);rintro e w1 ⟨rfl,hq1⟩))
  go_ret
  exact ⟨by rw [HE.out];rfl,zx⟩
 have HB:=Za h2
 have hsb:=zep h2 l.length (Zf _)
 rw [Zz (Zf _)] at hsb
 rw [HL.out] at hsb
 obtain ⟨⟨s1,s2⟩,⟨s3,s4⟩⟩:=hsb
 have hmx:∀(ts:Array TypeId) (t:TypeId) (w:World),(Builtin.max_ ts t #[.int .i64 (usL l),.int .i64 (mkL l)]).run Tryz.prog w = .ok (.int .i64 (max (usL l) (mkL l))) w:=fun ts t w=>by
  rw [run_max_int2];congr 2;split <;> omega
 by_cases h3:200<max (usL l) (mkL l)
 ·have HE:=Za (zc4 (l:=l) (by rw [HL.out];exact h1) h2 h3)
  have h3':decide (200<max (usL l) (mkL l))=true:=by simpa using h3
  clear h3
  go_enter Tryz.func126,Tryz.ntmps126
  go_wp2_with (first | (go_at_call 155;((with_reducible refine (HI.out).mono ?_);rintro e w1 ⟨rfl,hq1⟩)) | (go_at_call 127;((with_reducible refine (zeo n c A l _ (Vec.ext HX.out hq1) (by omega) HB.out).mono ?_);rintro e w2 ⟨rfl,hq2⟩)))
  go_ret
  exact ⟨by rw [HE.out];rfl,zx⟩
 ·have HE:=Za (zh3 (l:=l) (by rw [HL.out];exact h1) h2 h3)
  have h3':decide (200<max (usL l) (mkL l))=false:=by simpa using h3
  clear h3
  go_enter Tryz.func126,Tryz.ntmps126
  go_wp2_with (first | (go_at_call 155;((with_reducible refine (HI.out).mono ?_);rintro e w1 ⟨rfl,hq1⟩)) | (go_at_call 127;((with_reducible refine (zeo n c A l _ (Vec.ext HX.out hq1) (by omega) HB.out).mono ?_);rintro e w2 ⟨rfl,hq2⟩)))
  go_ret
  exact ⟨by rw [HE.out];rfl,zx⟩
end Go.Proofs.YtkneghkbgingdaaGreatDoor
/- The contracts of Uses,Makes and Same of stitch,and of the reference of what counts. -/
namespace Go.Proofs.YtkneghkbgingdaaGreatDoor
set_option maxRecDepth 100000
open Go.RowKit
attribute [local go_sem] zaA
theorem zoM {p:Prop} (h:p:=by
 go_wp2_with (go_at_call 126;((with_reducible refine (HI.out).mono ?_);rintro e w1 ⟨rfl,hq1⟩))
 go_ret2
 exact ⟨by rw [HV.out];rfl,zx⟩):p:=h
theorem zev (n c:Nat) (A:Option Addr) (l:List St) (w:World) (hl:Vec shSt w A n l) (hn:n≤maxLen) (hby:Bytes l) :
  Calls Tryz.prog 96 #[.slice A n c] w fun e w'=>e = .returned (.tuple #[.int .i64 (usG l),.int .i64 (allE l)])∧Ext w w':=by
 have HI:=Za (zcp n c A l w hl hn hby)
 have HX:=Za hl
 by_cases h:allE l=0
 ·have HV:=Za (show usG l=usL l by rw [usG,if_pos h])
  have HE:=Za h
  obtain ⟨h1,h2,_,_⟩:=za6 h
  rw [hl.1] at h1
  have HB:=Za h2
  clear h h2 hl hby
  go_enter Tryz.func96,Tryz.ntmps96
  go_wp2_with (first | (go_at_call 126;((with_reducible refine (HI.out).mono ?_);rintro e w1 ⟨rfl,hq1⟩;rw [HE.out])) | (go_at_call 127;((with_reducible refine (zeo n c A l _ (Vec.ext HX.out hq1) (by omega) HB.out).mono ?_);rintro e w2 ⟨rfl,hq2⟩)))
  go_ret2
  exact ⟨by rw [HV.out,HE.out];rfl,zx⟩
 ·have HV:=Za (show usG l=0 by rw [usG,if_neg h])
  have hb:(allE l != 0)=true:=by simpa using h
  clear h hl hby
  go_enter Tryz.func96,Tryz.ntmps96
  exact zoM
theorem ziS (n c:Nat) (A:Option Addr) (l:List St) (w:World) (hl:Vec shSt w A n l) (hn:n≤maxLen) (hby:Bytes l) :
  Calls Tryz.prog 97 #[.slice A n c] w fun e w'=>e = .returned (.tuple #[.int .i64 (mkG l),.int .i64 (allE l)])∧Ext w w':=by
 have HI:=Za (zcp n c A l w hl hn hby)
 have HX:=Za hl
 by_cases h:allE l=0
 ·have HV:=Za (show mkG l=mkL l by rw [mkG,if_pos h])
  have HE:=Za h
  obtain ⟨h1,h2,_,_⟩:=za6 h
  rw [hl.1] at h1
  have HB:=Za h2
  clear h h2 hl hby
  go_enter Tryz.func97,Tryz.ntmps97
  go_wp2_with (first | (go_at_call 126;((with_reducible refine (HI.out).mono ?_);rintro e w1 ⟨rfl,hq1⟩;rw [HE.out])) | (go_at_call 127;((with_reducible refine (zeo n c A l _ (Vec.ext HX.out hq1) (by omega) HB.out).mono ?_);rintro e w2 ⟨rfl,hq2⟩)))
  go_ret2
  exact ⟨by rw [HV.out,HE.out];rfl,zx⟩
 ·have HV:=Za (show mkG l=0 by rw [mkG,if_neg h])
  have hb:(allE l != 0)=true:=by simpa using h
  clear h hl hby
  go_enter Tryz.func97,Tryz.ntmps97
  exact zoM
theorem zhW (n m c d:Nat) (A B:Option Addr) (xs ys:List St) (w:World) (hx:Vec shSt w A n xs) (hy:Vec shSt w B m ys) (hn:n≤maxLen) :
  Calls Tryz.prog 98 #[.slice A n c,.slice B m d] w fun e w'=>e = .returned (.bool (decide (xs=ys)))∧Ext w w':=by
 have HX:=Za hx
 have HY:=Za hy
 unfold maxLen at hn
 have hn2:(n:Int)≤9223372036854775807:=by omega
 clear hx hy hn
 by_cases hnm:n=m
 ·subst hnm
  go_enter Tryz.func98,Tryz.ntmps98
  go_wp2_with fail
  go_loopw [13] (fun i wr=>∃k:Nat,k≤n∧i = .int .i64 k∧Hid (∀j,j<k→xs.getD j st0=ys.getD j st0)∧Hid (Ext w wr)) (fun i _=>n-(intOf i).toNat)
  case atStart=>exact ⟨0,by omega,rfl,fun j hj=>absurd hj (by omega),Zd _⟩
  case round =>
   obtain ⟨k,hk,rfl,hall,hext⟩:=hrel
   have:=hext.out
   by_cases hlt:k<n
   ·obtain ⟨b,off,rfl,hb,hc⟩:=Sts.all (HX.out.ext hext.out) (by omega)
    obtain ⟨b',off',rfl,hb',hc'⟩:=Sts.all (HY.out.ext hext.out) (by omega)
    obtain ⟨h1,h2,h3,h4⟩:=hc k hlt
    obtain ⟨h5,h6,h7,h8⟩:=hc' k hlt
    clear hc hc'
    have q0:(0:Int)≤(k:Int):=by omega
    have q1:(k:Int)<(n:Int):=by omega
    by_cases hxy:xs.getD k st0=ys.getD k st0
    ·have HA:=Za (show ∀j,j<k+1→xs.getD j st0=ys.getD j st0 from fun j hj=>by
      by_cases e:j=k
      ·subst e;exact hxy
      ·exact hall.out j (by omega))
     rw [←hxy] at h5 h6 h7 h8
     clear hall hxy
     generalize xs.getD k st0=x at *
     obtain ⟨x1,x2,x3,x4⟩:=x
     simp only at h1 h2 h3 h4 h5 h6 h7 h8
     go_wp2_with fail
     go_quiet (fail)
     go_wp2
     go_roundw
     case rel=>exact ⟨k+1,by omega,by go_num,HA,zx⟩
     case measure=>simp [intOf];omega
    ·have HF:=Za (show decide (xs=ys)=false by
      simp only [Z3];rintro rfl;exact hxy rfl)
     generalize xs.getD k st0=x at *
     generalize ys.getD k st0=y at *
     obtain ⟨x1,x2,x3,x4⟩:=x
     obtain ⟨y1,y2,y3,y4⟩:=y
     simp only at h1 h2 h3 h4 h5 h6 h7 h8
     have hne:=zco hxy
     clear hxy
     go_wp2_with fail
     go_quiet (fail)
     go_wp2
     go_ret
     exact ⟨by rw [HF.out];rfl,zx⟩
   ·obtain rfl:k=n:=by omega
    have HF:=Za (show decide (xs=ys)=true from Z8 (znV HX.out.1 HY.out.1 hall.out))
    go_wp2
    go_ret
    exact ⟨by rw [HF.out];rfl,hext.out⟩
 ·have HF:=Za (show decide (xs=ys)=false by
   simp only [Z3];rintro rfl;exact hnm (HX.out.1.symm.trans HY.out.1))
  have hne:((n:Int) != (m:Int))=true:=by simp;omega
  go_enter Tryz.func98,Tryz.ntmps98
  go_wp2_with fail
  go_ret
  exact ⟨by rw [HF.out];rfl,zx⟩
theorem zjI (n m c d:Nat) (A B:Option Addr) (xs ys:List St) (w:World) (hx:Vec shSt w A n xs) (hy:Vec shSt w B m ys) (hn:n≤maxLen) :
  Calls Tryz.prog 68 #[.slice A n c,.slice B m d] w fun e w'=>e = .returned (.bool (decide (xs=ys)))∧Ext w w':=by
 have HI:=Za (zhW n m c d A B xs ys w hx hy hn)
 clear hx hy hn
 go_enter Tryz.func68,Tryz.ntmps68
 go_wp2_with (go_at_call 98;((with_reducible refine (HI.out).mono ?_);rintro e w1 ⟨rfl,hq1⟩))
 go_ret
 exact ⟨rfl,zx⟩
theorem zff (n m c d:Nat) (A B:Option Addr) (xs ys:List St) (w:World) (hx:Vec shSt w A n xs) (hy:Vec shSt w B m ys) (hn:n≤maxLen) :
  Calls Tryz.prog 49 #[.slice A n c,.slice B m d] w fun e w'=>e = .returned (.bool (decide (xs=ys)))∧Ext w w':=by
 have HX:=Za hx
 have HY:=Za hy
 unfold maxLen at hn
 have hn2:(n:Int)≤9223372036854775807:=by omega
 clear hx hy hn
 by_cases hnm:n=m
 ·subst hnm
  go_enter Tryz.func49,Tryz.ntmps49
  go_wp2_with fail
  go_loopw [5] (fun i wr=>∃k:Nat,k≤n∧i = .int .i64 k∧Hid (∀j,j<k→xs.getD j st0=ys.getD j st0)∧Hid (Ext w wr)) (fun i _=>n-(intOf i).toNat)
  case atStart=>exact ⟨0,by omega,rfl,fun j hj=>absurd hj (by omega),Zd _⟩
  case round =>
   obtain ⟨k,hk,rfl,hall,hext⟩:=hrel
   have:=hext.out
   by_cases hlt:k<n
   ·obtain ⟨b,off,rfl,hb,hc⟩:=Sts.all (HX.out.ext hext.out) (by omega)
    obtain ⟨b',off',rfl,hb',hc'⟩:=Sts.all (HY.out.ext hext.out) (by omega)
    obtain ⟨h1,h2,h3,h4⟩:=hc k hlt
    obtain ⟨h5,h6,h7,h8⟩:=hc' k hlt
    clear hc hc'
    have q0:(0:Int)≤(k:Int):=by omega
    have q1:(k:Int)<(n:Int):=by omega
    by_cases hxy:xs.getD k st0=ys.getD k st0
    ·have HA:=Za (show ∀j,j<k+1→xs.getD j st0=ys.getD j st0 from fun j hj=>by
      by_cases e:j=k
      ·subst e;exact hxy
      ·exact hall.out j (by omega))
     rw [←hxy] at h5 h6 h7 h8
     clear hall hxy
     generalize xs.getD k st0=x at *
     obtain ⟨x1,x2,x3,x4⟩:=x
     simp only at h1 h2 h3 h4 h5 h6 h7 h8
     go_wp2_with fail
     go_quiet (fail)
     go_wp2
     go_roundw
     case rel=>exact ⟨k+1,by omega,by go_num,HA,zx⟩
     case measure=>simp [intOf];omega
    ·have HF:=Za (show decide (xs=ys)=false by
      simp only [Z3];rintro rfl;exact hxy rfl)
     generalize xs.getD k st0=x at *
     generalize ys.getD k st0=y at *
     obtain ⟨x1,x2,x3,x4⟩:=x
     obtain ⟨y1,y2,y3,y4⟩:=y
     simp only at h1 h2 h3 h4 h5 h6 h7 h8
     have hne:=zco hxy
     clear hxy
     go_wp2_with fail
     go_quiet (fail)
     go_wp2
     go_ret
     exact ⟨by rw [HF.out];rfl,zx⟩
   ·obtain rfl:k=n:=by omega
    have HF:=Za (show decide (xs=ys)=true from Z8 (znV HX.out.1 HY.out.1 hall.out))
    go_wp2
    go_ret
    exact ⟨by rw [HF.out];rfl,hext.out⟩
 ·have HF:=Za (show decide (xs=ys)=false by
   simp only [Z3];rintro rfl;exact hnm (HX.out.1.symm.trans HY.out.1))
  have hne:((n:Int) != (m:Int))=true:=by simp;omega
  go_enter Tryz.func49,Tryz.ntmps49
  go_wp2_with fail
  go_ret
  exact ⟨by rw [HF.out];rfl,zx⟩
end Go.Proofs.YtkneghkbgingdaaGreatDoor
