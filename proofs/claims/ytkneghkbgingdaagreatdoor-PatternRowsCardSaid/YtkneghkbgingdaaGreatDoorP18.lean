/- The reader of terms in plain Lean: what is left is the end of what was there. -/
import Derived.Test.YtkneghkbgingdaaGreatDoorP01
import Derived.Test.YtkneghkbgingdaaGreatDoorP17
import Derived.Test.YtkneghkbgingdaaGreatDoorP11
namespace Go.Proofs.YtkneghkbgingdaaGreatDoor
set_option maxRecDepth 100000
theorem zdv:∀s:List UInt8,(untilS s).2 <:+ s:=by
 intro s
 induction s with
 | nil=>exact List.suffix_refl _
 | cons x l ih =>
  rw [untilS]
  split
  ·exact List.suffix_refl _
  ·exact ih.trans (List.suffix_cons x l)
theorem zf3 {at_:List UInt8→Option Int} {c:St} {g:Tms} {s:List UInt8} {x:(Int×St×Tms)×List UInt8} (h:rdN at_ c g s=some x):x.2 <:+ s:=by
 unfold rdN at h
 split at h
 ·rename_i s'
  split at h
  ·cases h
  ·cases h
   exact (zdv s').trans (List.suffix_cons _ _)
 ·cases h
  exact List.suffix_refl _
theorem zjH (at_:List UInt8→Option Int):∀f,(∀d s x,rdT at_ f d s=some x→x.2 <:+ s)∧(∀d s x,rdL at_ f d s=some x→x.2 <:+ s∧x.1.cnt+x.2.length≤s.length+1):=by
 intro f
 induction f with
 | zero=>exact ⟨fun d s x h=>(by rw [rdT] at h;cases h),fun d s x h=>(by rw [rdL] at h;cases h)⟩
 | succ f ih =>
  refine ⟨fun d s x h=>?_,fun d s x h=>?_⟩
  ·unfold rdT at h
   split at h
   ·rename_i s1
    split at h
    ·cases h
    ·split at h
     ·rename_i g s2 h2
      have h3:=(ih.2 _ _ _ h2).1
      have h4:=zf3 h
      exact ((h4.trans (List.suffix_cons _ _)).trans h3).trans (List.suffix_cons _ _)
     ·cases h
   ·split at h
    ·exact (zf3 h).trans (zdv _)
    ·cases h
  ·rw [rdL] at h
   split at h
   ·cases h
   ·rename_i n c g s2 h2
    have h3:=ih.1 _ _ _ h2
    obtain ⟨y,hy,e⟩:=Option.map_eq_some_iff.1 h
    subst e
    obtain ⟨h4,h5⟩:=ih.2 _ _ _ hy
    have h6:=h3.length_le
    simp only [List.length_cons] at h6
    refine ⟨(h4.trans (List.suffix_cons _ _)).trans h3,?_⟩
    simp only [Tms.cnt]
    omega
   ·rename_i n c g s1 hne h2
    cases h
    have h3:=ih.1 _ _ _ h2
    have h6:=h3.length_le
    refine ⟨h3,?_⟩
    simp only [Tms.cnt]
    simp only at h6
    omega
end Go.Proofs.YtkneghkbgingdaaGreatDoor
/- The reader of terms in plain Lean: its steps by what is taken. -/
namespace Go.Proofs.YtkneghkbgingdaaGreatDoor
set_option maxRecDepth 100000
theorem ziC (at_:List UInt8→Option Int) (c:St) (g:Tms) (s:List UInt8):rdN at_ c g s=if hitB 42 s=true then (at_ (untilS (hitR 42 s)).1).map (fun n=>((n,c,g),(untilS (hitR 42 s)).2)) else some ((1,c,g),s):=by
 cases s with
 | nil=>rfl
 | cons y r =>
  by_cases h:y=42
  ·subst h
   rw [rdN]
   simp only [hitB,hitR,beq_self_eq_true,if_true]
   cases at_ (untilS r).1 <;> rfl
  ·have h1:hitB 42 (y::r)=false:=by simp [hitB,h]
   rw [h1,if_neg (by simp),rdN]
   intro s e
   cases e
   exact h rfl
theorem ziw (at_:List UInt8→Option Int) (f d:Nat) (s1:List UInt8):rdT at_ (f+1) d (40::s1)=if 8<d+1 then none else (rdL at_ f (d+1) s1).bind fun x=>if hitB 41 x.2=true then rdN at_ st0 x.1 (hitR 41 x.2) else none:=by
 rw [rdT]
 split
 ·rfl
 ·cases h:rdL at_ f (d+1) s1 with
  | none=>rfl
  | some x =>
   obtain ⟨g,r⟩:=x
   rw [Option.bind_some]
   cases r with
   | nil=>rfl
   | cons y r =>
    by_cases h:y=41
    ·subst h;simp [hitB,hitR]
    ·have h1:hitB 41 (y::r)=false:=by simp [hitB,h]
     simp only [h1]
     split
     ·rename_i e
      cases e
      exact absurd rfl h
     ·rfl
theorem zld (at_:List UInt8→Option Int) (f d:Nat) {s:List UInt8} (h:hitB 40 s=false):rdT at_ (f+1) d s=match parseL (untilS s).1 with
  | some [c]=>rdN at_ c .nil (untilS s).2
  | _=>none:=by
 rw [rdT]
 ·rfl
 ·intro s1 e
  rw [e] at h
  simp [hitB] at h
theorem zgN (at_:List UInt8→Option Int) (f d:Nat) (s:List UInt8):rdL at_ (f+1) d s=(rdT at_ f d s).bind fun x=>if hitB 32 x.2=true then (rdL at_ f d (hitR 32 x.2)).map (fun y=>(Tms.cons x.1.1 x.1.2.1 x.1.2.2 y.1,y.2)) else some (Tms.cons x.1.1 x.1.2.1 x.1.2.2 .nil,x.2):=by
 rw [rdL]
 cases h:rdT at_ f d s with
 | none=>rfl
 | some x =>
  obtain ⟨⟨n,c,g⟩,r⟩:=x
  rw [Option.bind_some]
  cases r with
  | nil=>rfl
  | cons y r =>
   by_cases h:y=32
   ·subst h;simp [hitB,hitR]
   ·have h1:hitB 32 (y::r)=false:=by simp [hitB,h]
    simp only [h1]
    split
    ·rename_i e;cases e
    ·rename_i e;cases e;exact absurd rfl h
    ·rename_i e;cases e;rfl
end Go.Proofs.YtkneghkbgingdaaGreatDoor
/- number: what is read of the digits in front. -/
namespace Go.Proofs.YtkneghkbgingdaaGreatDoor
set_option maxRecDepth 100000
open Go.RowKit
theorem zni {l:List UInt8} (h:headD 4 l=0):numR l=(-1,l):=by rw [numR,if_pos h]
theorem zm9 {l:List UInt8} (h:headD 4 l≠0):numR l=((valD (l.take (headD 4 l)):Int),l.drop (headD 4 l)):=by rw [numR,if_neg h]
set_option maxHeartbeats 2000000 in
theorem zad (l:List UInt8) (hl:l.length≤100000) (w:World) (hg:Glob w) :
  Calls Tryz.prog 198 #[.string ⟨l.toArray⟩] w fun e w'=>e = .returned (.tuple #[.int .i64 (numR l).1,.string ⟨(numR l).2.toArray⟩])∧Ext w w':=by
 have HG:=Lib.hid hg
 obtain ⟨hd1,hd2,hd3⟩:=zkf 4 l
 have HD:=Lib.hid hd3
 have HP:=Lib.hid (fun k=>zhM (k:=4) (l:=l) (n:=k))
 obtain ⟨N,hN⟩:∃N,headD 4 l=N:=⟨_,rfl⟩
 have HN:=Lib.hid hN
 rw [hN] at hd1 hd2 HD HP
 clear hg hd3 hN
 have hx0:=fun k=>zaq l k
 have hxD:=zag l N l.length (Nat.le_refl _)
 go_enter Tryz.func198,Tryz.ntmps198
 go_wp2_with fail
 go_loopw [4] (fun i wr=>∃(k:Nat),i = .int .i64 k∧k≤N∧Hid (Ext w wr)) (fun i _=>N-(intOf i).toNat)
 case atStart=>exact ⟨0,rfl,Nat.zero_le _,Lib.hid (by repeat (first|exact zr _|assumption|refine za ?_ _|refine zd ?_|refine zn ?_ _|refine zt ?_ (by assumption)))⟩
 case round =>
  obtain ⟨k,rfl,hk,HE⟩:=hrel
  have hstep:=HP.out k hk
  by_cases hlt:k<N
  ·obtain ⟨h1,h2,h3⟩:=hstep.1 hlt
   have h4:=zdp h3
   have h5:=zam l k
   clear hstep h3
   have q0:(0:Int)≤(k:Int):=by omega
   have q1:(k:Int)<(l.length:Int):=by omega
   have q2:(k:Int)<4:=by omega
   generalize hc:l.getD k 0=c at *
   have q3:(48:Int)≤(c.toNat:Int):=by omega
   have q4:(c.toNat:Int)≤57:=by omega
   clear hc
   go_wp2_with fail
   go_roundw
   case rel=>exact ⟨k+1,by go_num,by omega,Lib.hid (by have:=HE.out;repeat (first|exact zr _|assumption|refine za ?_ _|refine zd ?_|refine zn ?_ _|refine zt ?_ (by assumption)))⟩
   case measure=>simp [intOf];omega
  ·obtain rfl:N=k:=by omega
   have hno:¬(N<4∧N<l.length∧isDg (l.getD N 0)=true):=fun h=>hlt (hstep.2 h)
   by_cases hN0:N=0
   ·subst hN0
    have HR:=Lib.hid (zni HN.out)
    have hz:(⟨l.toArray⟩:ByteArray).extract 0 0=⟨#[]⟩:=by rw [zaq];rfl
    by_cases hl4:0<4
    ·by_cases hll:0<l.length
     ·have h5:=zam l 0
      have q0:(0:Int)≤(0:Int):=by omega
      have q1:(0:Int)<(l.length:Int):=by omega
      have q2:(0:Int)<4:=by omega
      have hnd:¬isDg (l.getD 0 0)=true:=fun h=>hno ⟨hl4,hll,h⟩
      generalize hc:l.getD 0 0=c at *
      have hnd2:c.toNat<48∨57<c.toNat:=by
       by_cases h6:c.toNat<48
       ·exact .inl h6
       ·right
        rcases Nat.lt_or_ge 57 c.toNat with h7 | h7
        ·exact h7
        ·exfalso
         apply hnd
         simp only [isDg,Bool.and_eq_true,decide_eq_true_eq,UInt8.le_iff_toNat_le]
         exact ⟨by simpa using Nat.le_of_not_lt h6,by simpa using h7⟩
      clear hc hnd hno hstep
      rcases hnd2 with h6 | h6
      ·have q3:(c.toNat:Int)<48:=by omega
       go_wp2_with (go_at_call 114;(((with_reducible refine (zbk _ (HG.out.ext (by have:=HE.out;repeat (first|exact zr _|assumption|refine za ?_ _|refine zd ?_|refine zn ?_ _|refine zt ?_ (by assumption))))).mono ?_);rintro e w1 ⟨⟨te,pe,rfl⟩,hq1⟩)))
       go_ret2
       exact ⟨by rw [HR.out];rfl,by have:=HE.out;repeat (first|exact zr _|assumption|refine za ?_ _|refine zd ?_|refine zn ?_ _|refine zt ?_ (by assumption))⟩
      ·have q3:(57:Int)<(c.toNat:Int):=by omega
       have q4:(48:Int)≤(c.toNat:Int):=by omega
       go_wp2_with (go_at_call 114;(((with_reducible refine (zbk _ (HG.out.ext (by have:=HE.out;repeat (first|exact zr _|assumption|refine za ?_ _|refine zd ?_|refine zn ?_ _|refine zt ?_ (by assumption))))).mono ?_);rintro e w1 ⟨⟨te,pe,rfl⟩,hq1⟩)))
       go_ret2
       exact ⟨by rw [HR.out];rfl,by have:=HE.out;repeat (first|exact zr _|assumption|refine za ?_ _|refine zd ?_|refine zn ?_ _|refine zt ?_ (by assumption))⟩
     ·have q1:¬((0:Int)<(l.length:Int)):=by omega
      clear hstep hno
      go_wp2_with (go_at_call 114;(((with_reducible refine (zbk _ (HG.out.ext (by have:=HE.out;repeat (first|exact zr _|assumption|refine za ?_ _|refine zd ?_|refine zn ?_ _|refine zt ?_ (by assumption))))).mono ?_);rintro e w1 ⟨⟨te,pe,rfl⟩,hq1⟩)))
      go_ret2
      exact ⟨by rw [HR.out];rfl,by have:=HE.out;repeat (first|exact zr _|assumption|refine za ?_ _|refine zd ?_|refine zn ?_ _|refine zt ?_ (by assumption))⟩
    ·have q2:¬((0:Int)<4):=by omega
     by_cases hll:0<l.length
     ·have q1:(0:Int)<(l.length:Int):=by omega
      clear hstep hno
      go_wp2_with (go_at_call 114;(((with_reducible refine (zbk _ (HG.out.ext (by have:=HE.out;repeat (first|exact zr _|assumption|refine za ?_ _|refine zd ?_|refine zn ?_ _|refine zt ?_ (by assumption))))).mono ?_);rintro e w1 ⟨⟨te,pe,rfl⟩,hq1⟩)))
      go_ret2
      exact ⟨by rw [HR.out];rfl,by have:=HE.out;repeat (first|exact zr _|assumption|refine za ?_ _|refine zd ?_|refine zn ?_ _|refine zt ?_ (by assumption))⟩
     ·have q1:¬((0:Int)<(l.length:Int)):=by omega
      clear hstep hno
      go_wp2_with (go_at_call 114;(((with_reducible refine (zbk _ (HG.out.ext (by have:=HE.out;repeat (first|exact zr _|assumption|refine za ?_ _|refine zd ?_|refine zn ?_ _|refine zt ?_ (by assumption))))).mono ?_);rintro e w1 ⟨⟨te,pe,rfl⟩,hq1⟩)))
      go_ret2
      exact ⟨by rw [HR.out];rfl,by have:=HE.out;repeat (first|exact zr _|assumption|refine za ?_ _|refine zd ?_|refine zn ?_ _|refine zt ?_ (by assumption))⟩
   ·have HR:=Lib.hid (zm9 (l:=l) (by rw [HN.out];exact hN0))
    rw [HN.out] at HR
    have HAT:=Lib.hid (fun w'=>zda (l.take N) (by rw [List.length_take];omega) HD.out (fun e=>by have h9:=congrArg List.length e;rw [List.length_take,List.length_nil] at h9;omega) w')
    have hp:(0:Int)<(N:Int):=by omega
    generalize valD (l.take N)=V at *
    generalize l.drop N=R at *
    by_cases hl4:N<4
    ·by_cases hll:N<l.length
     ·have h5:=zam l N
      have q0:(0:Int)≤(N:Int):=by omega
      have q1:(N:Int)<(l.length:Int):=by omega
      have q2:(N:Int)<4:=by omega
      have hnd:¬isDg (l.getD N 0)=true:=fun h=>hno ⟨hl4,hll,h⟩
      generalize hc:l.getD N 0=c at *
      have hnd2:c.toNat<48∨57<c.toNat:=by
       by_cases h6:c.toNat<48
       ·exact .inl h6
       ·right
        rcases Nat.lt_or_ge 57 c.toNat with h7 | h7
        ·exact h7
        ·exfalso
         apply hnd
         simp only [isDg,Bool.and_eq_true,decide_eq_true_eq,UInt8.le_iff_toNat_le]
         exact ⟨by simpa using Nat.le_of_not_lt h6,by simpa using h7⟩
      clear hc hnd hno hstep
      rcases hnd2 with h6 | h6
      ·have q3:(c.toNat:Int)<48:=by omega
       go_wp2_with (go_at_call 114;(((with_reducible refine (HAT.out _).mono ?_);rintro e w1 ⟨rfl,hq1⟩)))
       go_wp2
       go_quiet (fail)
       go_wp2
       go_ret2
       exact ⟨by rw [HR.out];rfl,by have:=HE.out;repeat (first|exact zr _|assumption|refine za ?_ _|refine zd ?_|refine zn ?_ _|refine zt ?_ (by assumption))⟩
      ·have q3:(57:Int)<(c.toNat:Int):=by omega
       have q4:(48:Int)≤(c.toNat:Int):=by omega
       go_wp2_with (go_at_call 114;(((with_reducible refine (HAT.out _).mono ?_);rintro e w1 ⟨rfl,hq1⟩)))
       go_wp2
       go_quiet (fail)
       go_wp2
       go_ret2
       exact ⟨by rw [HR.out];rfl,by have:=HE.out;repeat (first|exact zr _|assumption|refine za ?_ _|refine zd ?_|refine zn ?_ _|refine zt ?_ (by assumption))⟩
     ·have q1:¬((N:Int)<(l.length:Int)):=by omega
      clear hstep hno
      go_wp2_with (go_at_call 114;(((with_reducible refine (HAT.out _).mono ?_);rintro e w1 ⟨rfl,hq1⟩)))
      go_wp2
      go_quiet (fail)
      go_wp2
      go_ret2
      exact ⟨by rw [HR.out];rfl,by have:=HE.out;repeat (first|exact zr _|assumption|refine za ?_ _|refine zd ?_|refine zn ?_ _|refine zt ?_ (by assumption))⟩
    ·have q2:¬((N:Int)<4):=by omega
     by_cases hll:N<l.length
     ·have q1:(N:Int)<(l.length:Int):=by omega
      clear hstep hno
      go_wp2_with (go_at_call 114;(((with_reducible refine (HAT.out _).mono ?_);rintro e w1 ⟨rfl,hq1⟩)))
      go_wp2
      go_quiet (fail)
      go_wp2
      go_ret2
      exact ⟨by rw [HR.out];rfl,by have:=HE.out;repeat (first|exact zr _|assumption|refine za ?_ _|refine zd ?_|refine zn ?_ _|refine zt ?_ (by assumption))⟩
     ·have q1:¬((N:Int)<(l.length:Int)):=by omega
      clear hstep hno
      go_wp2_with (go_at_call 114;(((with_reducible refine (HAT.out _).mono ?_);rintro e w1 ⟨rfl,hq1⟩)))
      go_wp2
      go_quiet (fail)
      go_wp2
      go_ret2
      exact ⟨by rw [HR.out];rfl,by have:=HE.out;repeat (first|exact zr _|assumption|refine za ?_ _|refine zd ?_|refine zn ?_ _|refine zt ?_ (by assumption))⟩
end Go.Proofs.YtkneghkbgingdaaGreatDoor
