/- number: what is read of the digits in front. -/
import Derived.Test.YtkneghkbgingdaaGreatDoorK09
namespace Go.Proofs.YtkneghkbgingdaaGreatDoor
set_option maxHeartbeats 16000000
set_option maxRecDepth 100000
open Go.RowKit
theorem znE {l:List UInt8} (h:headD 4 l=0):numR l=(-1,l):=by rw [numR,if_pos h]
theorem znF {l:List UInt8} (h:headD 4 l≠0):numR l=((valD (l.take (headD 4 l)):Int),l.drop (headD 4 l)):=by rw [numR,if_neg h]
theorem zaE (l:List UInt8) (hl:l.length≤100000) (w:World) (hg:Glob w) :
  Calls Tryz.prog 198 #[.string ⟨l.toArray⟩] w fun e w'=>e = .returned (.tuple #[.int .i64 (numR l).1,.string ⟨(numR l).2.toArray⟩])∧Ext w w':=by
 have HG:=Za hg
 obtain ⟨hd1,hd2,hd3⟩:=zkF 4 l
 have HD:=Za hd3
 have HP:=Za (fun k=>zhn (k:=4) (l:=l) (n:=k))
 obtain ⟨N,hN⟩:∃N,headD 4 l=N:=⟨_,rfl⟩
 have HN:=Za hN
 rw [hN] at hd1 hd2 HD HP
 clear hg hd3 hN
 have hx0:=fun k=>zap l k
 have hxD:=zah l N l.length (Zf _)
 go_enter Tryz.func198,Tryz.ntmps198
 go_wp2_with fail
 go_loopw [4] (fun i wr=>∃(k:Nat),i = .int .i64 k∧k≤N∧Hid (Ext w wr)) (fun i _=>N-(intOf i).toNat)
 case atStart=>exact ⟨0,rfl,Zu _,Za zx⟩
 case round =>
  obtain ⟨k,rfl,hk,HE⟩:=hrel
  have hstep:=HP.out k hk
  by_cases hlt:k<N
  ·obtain ⟨h1,h2,h3⟩:=hstep.1 hlt
   have h4:=zdA h3
   have h5:=zao l k
   clear hstep h3
   have q0:(0:Int)≤(k:Int):=by omega
   have q1:(k:Int)<(l.length:Int):=by omega
   have q2:(k:Int)<4:=by omega
   generalize hc:l.getD k 0=c at *
   have q3:(48:Int)≤(c.toNat:Int):=by omega
   have q4:(c.toNat:Int)≤57:=by omega
   clear hc
   go_wp2_with fail
   go_roundw
   case rel=>exact ⟨k+1,by go_num,by omega,Za (by have:=HE.out;repeat (first|exact zr _|assumption|refine za ?_ _|refine zd ?_|refine zn ?_ _|refine zt ?_ (by assumption)))⟩
   case measure=>simp [intOf];omega
  ·obtain rfl:N=k:=by omega
   have hno:¬(N<4∧N<l.length∧isDg (l.getD N 0)=true):=fun h=>hlt (hstep.2 h)
   by_cases hN0:N=0
   ·subst hN0
    have HR:=Za (znE HN.out)
    have hz:(⟨l.toArray⟩:ByteArray).extract 0 0=⟨#[]⟩:=by rw [zap];rfl
    by_cases hl4:0<4
    ·by_cases hll:0<l.length
     ·have h5:=zao l 0
      have q0:(0:Int)≤(0:Int):=by omega
      have q1:(0:Int)<(l.length:Int):=by omega
      have q2:(0:Int)<4:=by omega
      have hnd:¬isDg (l.getD 0 0)=true:=fun h=>hno ⟨hl4,hll,h⟩
      generalize hc:l.getD 0 0=c at *
      have hnd2:c.toNat<48∨57<c.toNat:=by
       by_cases h6:c.toNat<48
       ·exact .inl h6
       ·right
        rcases Z1 57 c.toNat with h7 | h7
        ·exact h7
        ·exfalso
         apply hnd
         simp only [isDg,Zs,Zx,UInt8.le_iff_toNat_le]
         exact ⟨by simpa using Nat.le_of_not_lt h6,by simpa using h7⟩
      clear hc hnd hno hstep
      rcases hnd2 with h6 | h6
      ·have q3:(c.toNat:Int)<48:=by omega
       go_wp2_with (go_at_call 114;(((with_reducible refine (zbg _ (HG.out.ext (by have:=HE.out;repeat (first|exact zr _|assumption|refine za ?_ _|refine zd ?_|refine zn ?_ _|refine zt ?_ (by assumption))))).mono ?_);rintro e w1 ⟨⟨te,pe,rfl⟩,hq1⟩)))
       go_ret2
       exact ⟨by rw [HR.out];rfl,by have:=HE.out;repeat (first|exact zr _|assumption|refine za ?_ _|refine zd ?_|refine zn ?_ _|refine zt ?_ (by assumption))⟩
      ·have q3:(57:Int)<(c.toNat:Int):=by omega
       have q4:(48:Int)≤(c.toNat:Int):=by omega
       go_wp2_with (go_at_call 114;(((with_reducible refine (zbg _ (HG.out.ext (by have:=HE.out;repeat (first|exact zr _|assumption|refine za ?_ _|refine zd ?_|refine zn ?_ _|refine zt ?_ (by assumption))))).mono ?_);rintro e w1 ⟨⟨te,pe,rfl⟩,hq1⟩)))
       go_ret2
       exact ⟨by rw [HR.out];rfl,by have:=HE.out;repeat (first|exact zr _|assumption|refine za ?_ _|refine zd ?_|refine zn ?_ _|refine zt ?_ (by assumption))⟩
     ·have q1:¬((0:Int)<(l.length:Int)):=by omega
      clear hstep hno
      go_wp2_with (go_at_call 114;(((with_reducible refine (zbg _ (HG.out.ext (by have:=HE.out;repeat (first|exact zr _|assumption|refine za ?_ _|refine zd ?_|refine zn ?_ _|refine zt ?_ (by assumption))))).mono ?_);rintro e w1 ⟨⟨te,pe,rfl⟩,hq1⟩)))
      go_ret2
      exact ⟨by rw [HR.out];rfl,by have:=HE.out;repeat (first|exact zr _|assumption|refine za ?_ _|refine zd ?_|refine zn ?_ _|refine zt ?_ (by assumption))⟩
    ·have q2:¬((0:Int)<4):=by omega
     by_cases hll:0<l.length
     ·have q1:(0:Int)<(l.length:Int):=by omega
      clear hstep hno
      go_wp2_with (go_at_call 114;(((with_reducible refine (zbg _ (HG.out.ext (by have:=HE.out;repeat (first|exact zr _|assumption|refine za ?_ _|refine zd ?_|refine zn ?_ _|refine zt ?_ (by assumption))))).mono ?_);rintro e w1 ⟨⟨te,pe,rfl⟩,hq1⟩)))
      go_ret2
      exact ⟨by rw [HR.out];rfl,by have:=HE.out;repeat (first|exact zr _|assumption|refine za ?_ _|refine zd ?_|refine zn ?_ _|refine zt ?_ (by assumption))⟩
     ·have q1:¬((0:Int)<(l.length:Int)):=by omega
      clear hstep hno
      go_wp2_with (go_at_call 114;(((with_reducible refine (zbg _ (HG.out.ext (by have:=HE.out;repeat (first|exact zr _|assumption|refine za ?_ _|refine zd ?_|refine zn ?_ _|refine zt ?_ (by assumption))))).mono ?_);rintro e w1 ⟨⟨te,pe,rfl⟩,hq1⟩)))
      go_ret2
      exact ⟨by rw [HR.out];rfl,by have:=HE.out;repeat (first|exact zr _|assumption|refine za ?_ _|refine zd ?_|refine zn ?_ _|refine zt ?_ (by assumption))⟩
   ·have HR:=Za (znF (l:=l) (by rw [HN.out];exact hN0))
    rw [HN.out] at HR
    have HAT:=Za (fun w'=>zc6 (l.take N) (by rw [Zy];omega) HD.out (fun e=>by have h9:=congrArg List.length e;rw [Zy,List.length_nil] at h9;omega) w')
    have hp:(0:Int)<(N:Int):=by omega
    generalize valD (l.take N)=V at *
    generalize l.drop N=R at *
    by_cases hl4:N<4
    ·by_cases hll:N<l.length
     ·have h5:=zao l N
      have q0:(0:Int)≤(N:Int):=by omega
      have q1:(N:Int)<(l.length:Int):=by omega
      have q2:(N:Int)<4:=by omega
      have hnd:¬isDg (l.getD N 0)=true:=fun h=>hno ⟨hl4,hll,h⟩
      generalize hc:l.getD N 0=c at *
      have hnd2:c.toNat<48∨57<c.toNat:=by
       by_cases h6:c.toNat<48
       ·exact .inl h6
       ·right
        rcases Z1 57 c.toNat with h7 | h7
        ·exact h7
        ·exfalso
         apply hnd
         simp only [isDg,Zs,Zx,UInt8.le_iff_toNat_le]
         exact ⟨by simpa using Nat.le_of_not_lt h6,by simpa using h7⟩
      clear hc hnd hno hstep
      rcases hnd2 with h6 | h6
      ·have q3:(c.toNat:Int)<48:=by omega
       go_wp2_with (go_at_call 114;(((with_reducible refine (HAT.out _).mono ?_);rintro e w1 ⟨rfl,hq1⟩)))
       go_wp2
       go_quiet (fail)
       go_wp2
       go_ret2
       exact ⟨by rw [HR.out];rfl,by have:=HE.out;repeat (first|exact zr _|assumption|refine za ?_ _|refine zd ?_|refine zn ?_ _|refine zt ?_ (by assumption))⟩
      ·have q3:(57:Int)<(c.toNat:Int):=by omega
       have q4:(48:Int)≤(c.toNat:Int):=by omega
       go_wp2_with (go_at_call 114;(((with_reducible refine (HAT.out _).mono ?_);rintro e w1 ⟨rfl,hq1⟩)))
       go_wp2
       go_quiet (fail)
       go_wp2
       go_ret2
       exact ⟨by rw [HR.out];rfl,by have:=HE.out;repeat (first|exact zr _|assumption|refine za ?_ _|refine zd ?_|refine zn ?_ _|refine zt ?_ (by assumption))⟩
     ·have q1:¬((N:Int)<(l.length:Int)):=by omega
      clear hstep hno
      go_wp2_with (go_at_call 114;(((with_reducible refine (HAT.out _).mono ?_);rintro e w1 ⟨rfl,hq1⟩)))
      go_wp2
      go_quiet (fail)
      go_wp2
      go_ret2
      exact ⟨by rw [HR.out];rfl,by have:=HE.out;repeat (first|exact zr _|assumption|refine za ?_ _|refine zd ?_|refine zn ?_ _|refine zt ?_ (by assumption))⟩
    ·have q2:¬((N:Int)<4):=by omega
     by_cases hll:N<l.length
     ·have q1:(N:Int)<(l.length:Int):=by omega
      clear hstep hno
      go_wp2_with (go_at_call 114;(((with_reducible refine (HAT.out _).mono ?_);rintro e w1 ⟨rfl,hq1⟩)))
      go_wp2
      go_quiet (fail)
      go_wp2
      go_ret2
      exact ⟨by rw [HR.out];rfl,by have:=HE.out;repeat (first|exact zr _|assumption|refine za ?_ _|refine zd ?_|refine zn ?_ _|refine zt ?_ (by assumption))⟩
     ·have q1:¬((N:Int)<(l.length:Int)):=by omega
      clear hstep hno
      go_wp2_with (go_at_call 114;(((with_reducible refine (HAT.out _).mono ?_);rintro e w1 ⟨rfl,hq1⟩)))
      go_wp2
      go_quiet (fail)
      go_wp2
      go_ret2
      exact ⟨by rw [HR.out];rfl,by have:=HE.out;repeat (first|exact zr _|assumption|refine za ?_ _|refine zd ?_|refine zn ?_ _|refine zt ?_ (by assumption))⟩
end Go.Proofs.YtkneghkbgingdaaGreatDoor
