/- What the reference reads of whatever word. -/
import Derived.Test.YtkneghkbgingdaaGreatDoorP29
import Derived.Test.YtkneghkbgingdaaGreatDoorP30
import Derived.Test.YtkneghkbgingdaaGreatDoorP31
import Derived.Test.YtkneghkbgingdaaGreatDoorP32
import Derived.Test.YtkneghkbgingdaaGreatDoorP33
import Derived.Test.YtkneghkbgingdaaGreatDoorP11
import Derived.Laws.BytesArg
import Derived.Test.YtkneghkbgingdaaGreatDoorP03
namespace Go.Proofs.YtkneghkbgingdaaGreatDoor
set_option maxRecDepth 100000
set_option maxRecDepth 100000
open Go.RowKit
theorem zic (c:UInt8) (d:UInt8) (r:List UInt8) (hc:c=107∨c=112) (hl:(d::r).length≤100000) (w:World):Calls Tryz.prog 123 #[.string ⟨(c::d::r:List UInt8).toArray⟩] w (WordR (refWord (c::d::r)) w):=by
 cases hn:numS (d::r) with
 | some N =>
  have hw:refWord (c::d::r)=(if 1<N then some (List.replicate (min N 300) ⟨1,decide (c=112),0,0⟩) else none):=by
   rcases hc with rfl | rfl <;> simp [refWord,hn]
  rw [hw]
  rcases hc with rfl | rfl
  ·exact zeK _ _ d r rfl rfl hl N hn _ rfl w
  ·exact zeQ _ _ d r rfl rfl hl N hn _ rfl w
 | none =>
  have hw:refWord (c::d::r)=(if kindR d=8 then (if r=[] then some [⟨8,decide (c=112),0,0⟩] else none) else refParts (kindR d) (decide (c=112)) (spl 47 r)):=by
   rcases hc with rfl | rfl <;> simp [refWord,hn]
  rw [hw]
  by_cases h8:kindR d=8
  ·rw [if_pos h8]
   rcases hc with rfl | rfl
   ·exact zek _ _ d r rfl rfl hl hn h8 _ rfl w
   ·exact zdI _ _ d r rfl rfl hl hn h8 _ rfl w
  ·rw [if_neg h8]
   by_cases h6:kindR d=6
   ·have e:∀p,refParts (kindR d) p (spl 47 r)=if (spl 47 r).length=2 then (numS ((spl 47 r).getD 1 [])).bind fun b=>(numS ((spl 47 r).getD 0 [])).bind fun a=>some [⟨6,p,a,b⟩] else none:=fun p=>by rw [h6];rfl
    rw [e]
    rcases hc with rfl | rfl
    ·exact zdK _ _ d r rfl rfl hl hn h6 _ rfl _ rfl w
    ·exact zdY _ _ d r rfl rfl hl hn h6 _ rfl _ rfl w
   by_cases h7:kindR d=7
   ·have e:∀p,refParts (kindR d) p (spl 47 r)=if (spl 47 r).length=2 then (numS ((spl 47 r).getD 1 [])).bind fun b=>(numS ((spl 47 r).getD 0 [])).bind fun a=>some [⟨7,p,a,b⟩] else none:=fun p=>by rw [h7];rfl
    rw [e]
    rcases hc with rfl | rfl
    ·exact zdV _ _ d r rfl rfl hl hn h7 _ rfl _ rfl w
    ·exact zeg _ _ d r rfl rfl hl hn h7 _ rfl _ rfl w
   by_cases h0:kindR d=0
   ·have e:∀p,refParts (kindR d) p (spl 47 r)=none:=fun p=>by rw [h0];simp [refParts]
    rw [e]
    rcases hc with rfl | rfl
    ·exact zdS _ _ d r rfl rfl hl hn h0 _ rfl w
    ·exact zen _ _ d r rfl rfl hl hn h0 _ rfl w
   ·have e:∀p,refParts (kindR d) p (spl 47 r)=if (spl 47 r).length=1 then (numS ((spl 47 r).getD 0 [])).bind fun a=>some [⟨kindR d,p,a,0⟩] else none:=fun p=>by
     simp [refParts,h6,h7,h0]
    rw [e]
    have b8:(kindR d==8)=false:=beq_eq_false_iff_ne.2 h8
    have b6:(kindR d==6)=false:=beq_eq_false_iff_ne.2 h6
    have b7:(kindR d==7)=false:=beq_eq_false_iff_ne.2 h7
    have b0:(kindR d != 0)=true:=bne_iff_ne.2 h0
    rcases hc with rfl | rfl
    ·exact zcn _ _ d r rfl rfl hl hn _ rfl _ rfl b8 b6 b7 b0 _ rfl w
    ·exact zci _ _ d r rfl rfl hl hn _ rfl _ rfl b8 b6 b7 b0 _ rfl w
theorem zcu (l:List UInt8) (hl:l.length≤100000) (w:World):Calls Tryz.prog 123 #[.string ⟨l.toArray⟩] w (WordR (refWord l) w):=by
 cases l with
 | nil=>exact zkk w
 | cons c R =>
  by_cases hc:c=107∨c=112
  ·cases R with
   | nil =>
    rcases hc with rfl | rfl
    ·exact zeY w
    ·exact zfc w
   | cons d r=>exact zic c d r hc (by simp only [List.length_cons] at hl ⊢;omega) w
  ·by_cases hy:c=121∧R=[111]
   ·obtain ⟨rfl,rfl⟩:=hy
    exact zlP w
   ·have hE:((c::R:List UInt8)==[121,111])=false:=by
     rw [beq_eq_false_iff_ne]
     intro e
     injection e with e1 e2
     exact hy ⟨e1,e2⟩
    by_cases ho:1<R.length∧c=111∧R.head?=some 110
    ·have hw:refWord (c::R)=(numS R.tail).bind fun a=>some [⟨9,false,a,0⟩]:=by rw [refWord.eq_def];simp only;rw [if_neg hy,if_pos ho]
     rw [hw]
     obtain ⟨h1,rfl,h3⟩:=ho
     cases R with
     | nil=>cases h3
     | cons x t =>
      obtain rfl:x=110:=by simpa using h3
      refine zmA _ t hE (by simp only [List.length_cons] at h1 ⊢;omega) (by simp) ?_ (by simp only [List.length_cons] at hl;omega) w
      rw [zag _ 2 _ (Nat.le_refl _)]
      rfl
    ·have hw:refWord (c::R)=none:=by rw [refWord.eq_def];simp only;rw [if_neg hy,if_neg ho,if_pos hc]
     rw [hw]
     have hk:((c.toNat:Int) != 107)=true:=by
      rw [bne_iff_ne]
      intro e
      exact hc (.inl (UInt8.toNat_inj.1 (by rw [show (107:UInt8).toNat=107 from rfl];omega)))
     have hq:((c.toNat:Int) != 112)=true:=by
      rw [bne_iff_ne]
      intro e
      exact hc (.inr (UInt8.toNat_inj.1 (by rw [show (112:UInt8).toNat=112 from rfl];omega)))
     have h0:∀h,(⟨(c::R:List UInt8).toArray⟩:ByteArray)[0]'h=c:=fun _=>rfl
     by_cases hp:((c::R:List UInt8).take 2==[111,110])=true
     ·have hlen:¬1<R.length:=fun h=>by
       apply ho
       rw [beq_iff_eq] at hp
       cases R with
       | nil=>simp at h
       | cons x t =>
        simp at hp
        exact ⟨h,hp.1,by rw [hp.2];rfl⟩
      exact zhn _ c hE (by simp only [List.length_cons];omega) h0 (by simp only [List.length_cons];omega) hk hq w
     ·exact zj8 _ c hE (by simpa using hp) h0 (by simp only [List.length_cons];omega) hk hq w
end Go.Proofs.YtkneghkbgingdaaGreatDoor
/- The reference's Decimal writes a number in decimal. -/
namespace Go.Proofs.YtkneghkbgingdaaGreatDoor
set_option maxRecDepth 100000
set_option maxRecDepth 100000
open Go.RowKit
theorem zgs {n:Nat} (h:n<1000000000000000):decD n=Lib.decDigits n:=zgB 19 n (by omega)
def decG (m:Nat):List UInt8:=if m=0 then [] else decD m
theorem zeW {n:Nat} (h:n<1000000000000000):decD n=decG (n / 10)++[dg n]:=by
 rw [zgs h,Lib.decDigits,decG]
 by_cases h1:n<10
 ·rw [dif_pos h1,if_pos (by omega)]
  rw [zgr h1]
  rfl
 ·rw [dif_neg h1,if_neg (by omega),zgs (by omega),dg]
theorem zij {n:Nat} (h0:0<n) (h:n<1000000000000000):decG n=decG (n / 10)++[dg n]:=by
 rw [←zeW h,decG,if_neg (by omega)]
theorem zgZ (w:World) (x:Int):(convert 78 9 (.slice (some ⟨w.heap.size,0,none⟩) 1 1)).run Tryz.prog (w.alloc (.cells #[.int .u8 x] 5)) = .ok (.string ⟨#[UInt8.ofNat x.toNat]⟩) (w.alloc (.cells #[.int .u8 x] 5)):=by
 have h:=run_convert_bytes_arg (P:=Tryz.prog) (w:=w.alloc (.cells #[.int .u8 x] 5)) 78 5 Tryz.underlying78 Tryz.underlying5 w.heap.size 0 1 1 [x] rfl (fun i hi=>by
  obtain rfl:i=0:=by omega
  simp [go_sem]) 9 Tryz.underlying9
 rw [h]
 rfl
set_option maxHeartbeats 2000000 in
theorem zai (n:Nat) (hn:n<1000000000000) (w:World):Calls Tryz.prog 42 #[.int .i64 (n:Int)] w fun e w'=>e = .returned (.string ⟨(decD n).toArray⟩)∧Ext w w':=by
 have hconv:=zgZ
 have q0:(0:Int)≤(n:Int):=by omega
 have q1:(n:Int)<1000000000000:=by omega
 go_enter Tryz.func42,Tryz.ntmps42
 go_wp2_with fail
 go_loopw [0,3] (fun a b wr=>∃(m:Nat) (s:List UInt8),a = .int .i64 m∧b = .string ⟨s.toArray⟩∧m<1000000000000∧Hid (decG m++s=decD n)∧Hid (Ext w wr)) (fun a _ _=>(intOf a).toNat)
 case atStart=>exact ⟨n / 10,[dg n],congrArg _ (by omega),rfl,by omega,Lib.hid (zeW (by omega)).symm,Lib.hid (by repeat (first|exact zr _|assumption|refine za ?_ _|refine zd ?_|refine zn ?_ _|refine zt ?_ (by assumption)))⟩
 case round =>
  obtain ⟨m,s,rfl,rfl,hm,HD,HE⟩:=hrel
  have hsl:s.length≤20:=by
   have h1:=zaj n
   rw [←HD.out,List.length_append] at h1
   omega
  by_cases h0:m=0
  ·subst h0
   have HS:=Lib.hid (show s=decD n from HD.out)
   go_wp2
   go_ret
   exact ⟨by rw [HS.out];rfl,HE.out⟩
  ·have q2:(0:Int)<(m:Int):=by omega
   have q3:(m:Int)≤9223372036854775807:=by omega
   have q4:(0:Int)≤(m:Int):=by omega
   have HN0:=Lib.hid (show decG (m / 10)++(dg m::s)=decD n by rw [←HD.out,zij (n:=m) (by omega) (by omega),List.append_assoc];rfl)
   obtain ⟨G,hG⟩:∃G,dg m::s=G:=⟨_,rfl⟩
   obtain ⟨D,hD⟩:∃D,[dg m]=D:=⟨_,rfl⟩
   have hcat:(⟨D.toArray⟩++⟨s.toArray⟩:ByteArray)=⟨G.toArray⟩:=by rw [←hG,←hD];exact zab [dg m] s
   have hdl:D.length=1:=by rw [←hD];rfl
   have hcv:(convert 78 9 (.slice (some ⟨wr.heap.size,0,none⟩) 1 1)).run Tryz.prog (wr.alloc (.cells #[.int .u8 (48+(m:Int) % 10)] 5)) = .ok (.string ⟨D.toArray⟩) (wr.alloc (.cells #[.int .u8 (48+(m:Int) % 10)] 5)):=by
    have h9:=zgZ wr (48+(m:Int) % 10)
    rw [show (48+(m:Int) % 10).toNat=48+m % 10 by omega] at h9
    rw [h9,←hD]
    rfl
   have HN:=Lib.hid (show decG (m / 10)++G=decD n by rw [←hG];exact HN0.out)
   have HM:=Lib.hid hm
   clear HN0 hG HD hD hconv hm hn q1
   go_wp2_with fail
   go_roundw
   case rel=>exact ⟨m / 10,G,congrArg _ (by omega),rfl,(by have:=HM.out;omega),HN,Lib.hid (Ext.trans HE.out (by repeat (first|exact zr _|assumption|refine za ?_ _|refine zd ?_|refine zn ?_ _|refine zt ?_ (by assumption))))⟩
   case measure=>simp [intOf];omega
end Go.Proofs.YtkneghkbgingdaaGreatDoor
/- The reference's text of a stitch. -/
namespace Go.Proofs.YtkneghkbgingdaaGreatDoor
set_option maxRecDepth 100000
set_option maxRecDepth 100000
open Go.RowKit
set_option maxHeartbeats 4000000 in
theorem znt (p:Bool) (a b:Nat) (w:World) :
  Calls Tryz.prog 139 #[.agg #[.int .u8 1,.bool p,.int .i64 (a:Int),.int .i64 (b:Int)]] w fun e w'=>e = .returned (.string ⟨(wordT ⟨1,p,a,b⟩).toArray⟩)∧Ext w w':=by
 cases p
 ·have hb0:Ext w (w.alloc (.cells #[.int .u8 1,.bool false,.int .i64 (a:Int),.int .i64 (b:Int)] 132)):=(Ext.refl _).alloc _
  go_enter Tryz.func139,Tryz.ntmps139
  go_wp2_with fail
  have hb1:=hb0
  exact bodyPost_ret (v := .string ((⟨#[107]⟩:ByteArray))) (by simp [results,Tryz.f139,go_sem]) rfl ⟨congrArg (fun x=>Ending.returned (.string x)) (ByteArray.ext (by rw [show wordT ⟨1,false,(a:Int),(b:Int)⟩=[107]++[]++[]++[] from by rfl] <;> simp)),hb1⟩
 ·have hb0:Ext w (w.alloc (.cells #[.int .u8 1,.bool true,.int .i64 (a:Int),.int .i64 (b:Int)] 132)):=(Ext.refl _).alloc _
  go_enter Tryz.func139,Tryz.ntmps139
  go_wp2_with fail
  have hb1:=hb0
  exact bodyPost_ret (v := .string ((⟨#[112]⟩:ByteArray))) (by simp [results,Tryz.f139,go_sem]) rfl ⟨congrArg (fun x=>Ending.returned (.string x)) (ByteArray.ext (by rw [show wordT ⟨1,true,(a:Int),(b:Int)⟩=[112]++[]++[]++[] from by rfl] <;> simp)),hb1⟩
set_option maxHeartbeats 4000000 in
theorem znz (p:Bool) (a b:Nat) (w:World) :
  Calls Tryz.prog 139 #[.agg #[.int .u8 2,.bool p,.int .i64 (a:Int),.int .i64 (b:Int)]] w fun e w'=>e = .returned (.string ⟨(wordT ⟨2,p,a,b⟩).toArray⟩)∧Ext w w':=by
 cases p
 ·have hb0:Ext w (w.alloc (.cells #[.int .u8 2,.bool false,.int .i64 (a:Int),.int .i64 (b:Int)] 132)):=(Ext.refl _).alloc _
  go_enter Tryz.func139,Tryz.ntmps139
  go_wp2_with fail
  have hb1:=hb0
  exact bodyPost_ret (v := .string ((⟨#[121,111]⟩:ByteArray))) (by simp [results,Tryz.f139,go_sem]) rfl ⟨congrArg (fun x=>Ending.returned (.string x)) (ByteArray.ext (by rw [show wordT ⟨2,false,(a:Int),(b:Int)⟩=[121,111] from by rfl] <;> simp)),hb1⟩
 ·have hb0:Ext w (w.alloc (.cells #[.int .u8 2,.bool true,.int .i64 (a:Int),.int .i64 (b:Int)] 132)):=(Ext.refl _).alloc _
  go_enter Tryz.func139,Tryz.ntmps139
  go_wp2_with fail
  have hb1:=hb0
  exact bodyPost_ret (v := .string ((⟨#[121,111]⟩:ByteArray))) (by simp [results,Tryz.f139,go_sem]) rfl ⟨congrArg (fun x=>Ending.returned (.string x)) (ByteArray.ext (by rw [show wordT ⟨2,true,(a:Int),(b:Int)⟩=[121,111] from by rfl] <;> simp)),hb1⟩
set_option maxHeartbeats 4000000 in
theorem znB (p:Bool) (a b:Nat) (h1:a≤200) (w:World) :
  Calls Tryz.prog 139 #[.agg #[.int .u8 3,.bool p,.int .i64 (a:Int),.int .i64 (b:Int)]] w fun e w'=>e = .returned (.string ⟨(wordT ⟨3,p,a,b⟩).toArray⟩)∧Ext w w':=by
 have d1:=zaj a
 have HA:=Lib.hid (fun w'=>zai a (by omega) w')
 cases p
 ·have hb0:Ext w (w.alloc (.cells #[.int .u8 3,.bool false,.int .i64 (a:Int),.int .i64 (b:Int)] 132)):=(Ext.refl _).alloc _
  go_enter Tryz.func139,Tryz.ntmps139
  go_wp2_with (go_at_call 42;((with_reducible refine (HA.out _).mono ?_);rintro e w1 ⟨rfl,hq1⟩;have hb1:=hb0.trans hq1))
  exact bodyPost_ret (v := .string ((⟨#[107]⟩:ByteArray)++(⟨#[102]⟩:ByteArray)++(⟨(decD a).toArray⟩:ByteArray))) (by simp [results,Tryz.f139,go_sem]) rfl ⟨congrArg (fun x=>Ending.returned (.string x)) (ByteArray.ext (by rw [show wordT ⟨3,false,(a:Int),(b:Int)⟩=[107]++[102]++decD a++[] from by rfl] <;> simp)),hb1⟩
 ·have hb0:Ext w (w.alloc (.cells #[.int .u8 3,.bool true,.int .i64 (a:Int),.int .i64 (b:Int)] 132)):=(Ext.refl _).alloc _
  go_enter Tryz.func139,Tryz.ntmps139
  go_wp2_with (go_at_call 42;((with_reducible refine (HA.out _).mono ?_);rintro e w1 ⟨rfl,hq1⟩;have hb1:=hb0.trans hq1))
  exact bodyPost_ret (v := .string ((⟨#[112]⟩:ByteArray)++(⟨#[102]⟩:ByteArray)++(⟨(decD a).toArray⟩:ByteArray))) (by simp [results,Tryz.f139,go_sem]) rfl ⟨congrArg (fun x=>Ending.returned (.string x)) (ByteArray.ext (by rw [show wordT ⟨3,true,(a:Int),(b:Int)⟩=[112]++[102]++decD a++[] from by rfl] <;> simp)),hb1⟩
set_option maxHeartbeats 4000000 in
theorem znw (p:Bool) (a b:Nat) (h1:a≤200) (w:World) :
  Calls Tryz.prog 139 #[.agg #[.int .u8 4,.bool p,.int .i64 (a:Int),.int .i64 (b:Int)]] w fun e w'=>e = .returned (.string ⟨(wordT ⟨4,p,a,b⟩).toArray⟩)∧Ext w w':=by
 have d1:=zaj a
 have HA:=Lib.hid (fun w'=>zai a (by omega) w')
 cases p
 ·have hb0:Ext w (w.alloc (.cells #[.int .u8 4,.bool false,.int .i64 (a:Int),.int .i64 (b:Int)] 132)):=(Ext.refl _).alloc _
  go_enter Tryz.func139,Tryz.ntmps139
  go_wp2_with (go_at_call 42;((with_reducible refine (HA.out _).mono ?_);rintro e w1 ⟨rfl,hq1⟩;have hb1:=hb0.trans hq1))
  exact bodyPost_ret (v := .string ((⟨#[107]⟩:ByteArray)++(⟨#[108]⟩:ByteArray)++(⟨(decD a).toArray⟩:ByteArray))) (by simp [results,Tryz.f139,go_sem]) rfl ⟨congrArg (fun x=>Ending.returned (.string x)) (ByteArray.ext (by rw [show wordT ⟨4,false,(a:Int),(b:Int)⟩=[107]++[108]++decD a++[] from by rfl] <;> simp)),hb1⟩
 ·have hb0:Ext w (w.alloc (.cells #[.int .u8 4,.bool true,.int .i64 (a:Int),.int .i64 (b:Int)] 132)):=(Ext.refl _).alloc _
  go_enter Tryz.func139,Tryz.ntmps139
  go_wp2_with (go_at_call 42;((with_reducible refine (HA.out _).mono ?_);rintro e w1 ⟨rfl,hq1⟩;have hb1:=hb0.trans hq1))
  exact bodyPost_ret (v := .string ((⟨#[112]⟩:ByteArray)++(⟨#[108]⟩:ByteArray)++(⟨(decD a).toArray⟩:ByteArray))) (by simp [results,Tryz.f139,go_sem]) rfl ⟨congrArg (fun x=>Ending.returned (.string x)) (ByteArray.ext (by rw [show wordT ⟨4,true,(a:Int),(b:Int)⟩=[112]++[108]++decD a++[] from by rfl] <;> simp)),hb1⟩
set_option maxHeartbeats 4000000 in
theorem znu (p:Bool) (a b:Nat) (h1:a≤200) (w:World) :
  Calls Tryz.prog 139 #[.agg #[.int .u8 5,.bool p,.int .i64 (a:Int),.int .i64 (b:Int)]] w fun e w'=>e = .returned (.string ⟨(wordT ⟨5,p,a,b⟩).toArray⟩)∧Ext w w':=by
 have d1:=zaj a
 have HA:=Lib.hid (fun w'=>zai a (by omega) w')
 cases p
 ·have hb0:Ext w (w.alloc (.cells #[.int .u8 5,.bool false,.int .i64 (a:Int),.int .i64 (b:Int)] 132)):=(Ext.refl _).alloc _
  go_enter Tryz.func139,Tryz.ntmps139
  go_wp2_with (go_at_call 42;((with_reducible refine (HA.out _).mono ?_);rintro e w1 ⟨rfl,hq1⟩;have hb1:=hb0.trans hq1))
  exact bodyPost_ret (v := .string ((⟨#[107]⟩:ByteArray)++(⟨#[109]⟩:ByteArray)++(⟨(decD a).toArray⟩:ByteArray))) (by simp [results,Tryz.f139,go_sem]) rfl ⟨congrArg (fun x=>Ending.returned (.string x)) (ByteArray.ext (by rw [show wordT ⟨5,false,(a:Int),(b:Int)⟩=[107]++[109]++decD a++[] from by rfl] <;> simp)),hb1⟩
 ·have hb0:Ext w (w.alloc (.cells #[.int .u8 5,.bool true,.int .i64 (a:Int),.int .i64 (b:Int)] 132)):=(Ext.refl _).alloc _
  go_enter Tryz.func139,Tryz.ntmps139
  go_wp2_with (go_at_call 42;((with_reducible refine (HA.out _).mono ?_);rintro e w1 ⟨rfl,hq1⟩;have hb1:=hb0.trans hq1))
  exact bodyPost_ret (v := .string ((⟨#[112]⟩:ByteArray)++(⟨#[109]⟩:ByteArray)++(⟨(decD a).toArray⟩:ByteArray))) (by simp [results,Tryz.f139,go_sem]) rfl ⟨congrArg (fun x=>Ending.returned (.string x)) (ByteArray.ext (by rw [show wordT ⟨5,true,(a:Int),(b:Int)⟩=[112]++[109]++decD a++[] from by rfl] <;> simp)),hb1⟩
set_option maxHeartbeats 4000000 in
theorem znq (p:Bool) (a b:Nat) (h1:a≤200) (h2:b≤6) (w:World) :
  Calls Tryz.prog 139 #[.agg #[.int .u8 6,.bool p,.int .i64 (a:Int),.int .i64 (b:Int)]] w fun e w'=>e = .returned (.string ⟨(wordT ⟨6,p,a,b⟩).toArray⟩)∧Ext w w':=by
 have d1:=zaj a
 have HA:=Lib.hid (fun w'=>zai a (by omega) w')
 have f1:¬9223372036854775807<2+(decD a).length:=by omega
 have f2:¬9223372036854775807<2+(decD a).length+1:=by omega
 have d2:=zaj b
 have HB:=Lib.hid (fun w'=>zai b (by omega) w')
 have f3:¬9223372036854775807<2+(decD a).length+1+(decD b).length:=by omega
 cases p
 ·have hb0:Ext w (w.alloc (.cells #[.int .u8 6,.bool false,.int .i64 (a:Int),.int .i64 (b:Int)] 132)):=(Ext.refl _).alloc _
  go_enter Tryz.func139,Tryz.ntmps139
  have hb:Ext (w.alloc (.cells #[.int .u8 6,.bool false,.int .i64 (a:Int),.int .i64 (b:Int)] 132)) (w.alloc (.cells #[.int .u8 6,.bool false,.int .i64 (a:Int),.int .i64 (b:Int)] 132)):=Ext.refl _
  obtain ⟨hc,hf,hz⟩:=hb.facts
  go_wp2_with fail
  go_region_held3 (fun w'=>w'.cell? ⟨w.heap.size,2,none⟩=some (.int .i64 (a:Int))∧w'.cell? ⟨w.heap.size,3,none⟩=some (.int .i64 (b:Int))) (go_keep) (first | (go_at_call 42;(first | ((with_reducible refine (HA.out _).mono ?_);rintro e w1 ⟨rfl,hq⟩;replace hb:=hb.trans (Ext.trans (by repeat (first | exact Ext.refl _ | refine Ext.drew ?_ | refine Ext.drewN ?_ _ | refine Ext.alloc ?_ _)) hq);clear hq;obtain ⟨hc,hf,hz⟩:=hb.facts) | ((with_reducible refine (HB.out _).mono ?_);rintro e w1 ⟨rfl,hq⟩;replace hb:=hb.trans (Ext.trans (by repeat (first | exact Ext.refl _ | refine Ext.drew ?_ | refine Ext.drewN ?_ _ | refine Ext.alloc ?_ _)) hq);clear hq;obtain ⟨hc,hf,hz⟩:=hb.facts))))
  all_goals go_wp2
  all_goals have hb1:=hb0.trans hb
  all_goals exact bodyPost_ret (v := .string ((⟨#[107]⟩:ByteArray)++(⟨#[120]⟩:ByteArray)++(⟨(decD a).toArray⟩:ByteArray)++(⟨#[47]⟩:ByteArray)++(⟨(decD b).toArray⟩:ByteArray))) (by simp [results,Tryz.f139,go_sem]) rfl ⟨congrArg (fun x=>Ending.returned (.string x)) (ByteArray.ext (by rw [show wordT ⟨6,false,(a:Int),(b:Int)⟩=[107]++[120]++decD a++(47::decD b) from by rfl] <;> simp)),hb1⟩
 ·have hb0:Ext w (w.alloc (.cells #[.int .u8 6,.bool true,.int .i64 (a:Int),.int .i64 (b:Int)] 132)):=(Ext.refl _).alloc _
  go_enter Tryz.func139,Tryz.ntmps139
  have hb:Ext (w.alloc (.cells #[.int .u8 6,.bool true,.int .i64 (a:Int),.int .i64 (b:Int)] 132)) (w.alloc (.cells #[.int .u8 6,.bool true,.int .i64 (a:Int),.int .i64 (b:Int)] 132)):=Ext.refl _
  obtain ⟨hc,hf,hz⟩:=hb.facts
  go_wp2_with fail
  go_region_held3 (fun w'=>w'.cell? ⟨w.heap.size,2,none⟩=some (.int .i64 (a:Int))∧w'.cell? ⟨w.heap.size,3,none⟩=some (.int .i64 (b:Int))) (go_keep) (first | (go_at_call 42;(first | ((with_reducible refine (HA.out _).mono ?_);rintro e w1 ⟨rfl,hq⟩;replace hb:=hb.trans (Ext.trans (by repeat (first | exact Ext.refl _ | refine Ext.drew ?_ | refine Ext.drewN ?_ _ | refine Ext.alloc ?_ _)) hq);clear hq;obtain ⟨hc,hf,hz⟩:=hb.facts) | ((with_reducible refine (HB.out _).mono ?_);rintro e w1 ⟨rfl,hq⟩;replace hb:=hb.trans (Ext.trans (by repeat (first | exact Ext.refl _ | refine Ext.drew ?_ | refine Ext.drewN ?_ _ | refine Ext.alloc ?_ _)) hq);clear hq;obtain ⟨hc,hf,hz⟩:=hb.facts))))
  all_goals go_wp2
  all_goals have hb1:=hb0.trans hb
  all_goals exact bodyPost_ret (v := .string ((⟨#[112]⟩:ByteArray)++(⟨#[120]⟩:ByteArray)++(⟨(decD a).toArray⟩:ByteArray)++(⟨#[47]⟩:ByteArray)++(⟨(decD b).toArray⟩:ByteArray))) (by simp [results,Tryz.f139,go_sem]) rfl ⟨congrArg (fun x=>Ending.returned (.string x)) (ByteArray.ext (by rw [show wordT ⟨6,true,(a:Int),(b:Int)⟩=[112]++[120]++decD a++(47::decD b) from by rfl] <;> simp)),hb1⟩
set_option maxHeartbeats 4000000 in
theorem znv (p:Bool) (a b:Nat) (h1:a≤200) (h2:b≤6) (w:World) :
  Calls Tryz.prog 139 #[.agg #[.int .u8 7,.bool p,.int .i64 (a:Int),.int .i64 (b:Int)]] w fun e w'=>e = .returned (.string ⟨(wordT ⟨7,p,a,b⟩).toArray⟩)∧Ext w w':=by
 have d1:=zaj a
 have HA:=Lib.hid (fun w'=>zai a (by omega) w')
 have f1:¬9223372036854775807<2+(decD a).length:=by omega
 have f2:¬9223372036854775807<2+(decD a).length+1:=by omega
 have d2:=zaj b
 have HB:=Lib.hid (fun w'=>zai b (by omega) w')
 have f3:¬9223372036854775807<2+(decD a).length+1+(decD b).length:=by omega
 cases p
 ·have hb0:Ext w (w.alloc (.cells #[.int .u8 7,.bool false,.int .i64 (a:Int),.int .i64 (b:Int)] 132)):=(Ext.refl _).alloc _
  go_enter Tryz.func139,Tryz.ntmps139
  have hb:Ext (w.alloc (.cells #[.int .u8 7,.bool false,.int .i64 (a:Int),.int .i64 (b:Int)] 132)) (w.alloc (.cells #[.int .u8 7,.bool false,.int .i64 (a:Int),.int .i64 (b:Int)] 132)):=Ext.refl _
  obtain ⟨hc,hf,hz⟩:=hb.facts
  go_wp2_with fail
  go_region_held3 (fun w'=>w'.cell? ⟨w.heap.size,2,none⟩=some (.int .i64 (a:Int))∧w'.cell? ⟨w.heap.size,3,none⟩=some (.int .i64 (b:Int))) (go_keep) (first | (go_at_call 42;(first | ((with_reducible refine (HA.out _).mono ?_);rintro e w1 ⟨rfl,hq⟩;replace hb:=hb.trans (Ext.trans (by repeat (first | exact Ext.refl _ | refine Ext.drew ?_ | refine Ext.drewN ?_ _ | refine Ext.alloc ?_ _)) hq);clear hq;obtain ⟨hc,hf,hz⟩:=hb.facts) | ((with_reducible refine (HB.out _).mono ?_);rintro e w1 ⟨rfl,hq⟩;replace hb:=hb.trans (Ext.trans (by repeat (first | exact Ext.refl _ | refine Ext.drew ?_ | refine Ext.drewN ?_ _ | refine Ext.alloc ?_ _)) hq);clear hq;obtain ⟨hc,hf,hz⟩:=hb.facts))))
  all_goals go_wp2
  all_goals have hb1:=hb0.trans hb
  all_goals exact bodyPost_ret (v := .string ((⟨#[107]⟩:ByteArray)++(⟨#[121]⟩:ByteArray)++(⟨(decD a).toArray⟩:ByteArray)++(⟨#[47]⟩:ByteArray)++(⟨(decD b).toArray⟩:ByteArray))) (by simp [results,Tryz.f139,go_sem]) rfl ⟨congrArg (fun x=>Ending.returned (.string x)) (ByteArray.ext (by rw [show wordT ⟨7,false,(a:Int),(b:Int)⟩=[107]++[121]++decD a++(47::decD b) from by rfl] <;> simp)),hb1⟩
 ·have hb0:Ext w (w.alloc (.cells #[.int .u8 7,.bool true,.int .i64 (a:Int),.int .i64 (b:Int)] 132)):=(Ext.refl _).alloc _
  go_enter Tryz.func139,Tryz.ntmps139
  have hb:Ext (w.alloc (.cells #[.int .u8 7,.bool true,.int .i64 (a:Int),.int .i64 (b:Int)] 132)) (w.alloc (.cells #[.int .u8 7,.bool true,.int .i64 (a:Int),.int .i64 (b:Int)] 132)):=Ext.refl _
  obtain ⟨hc,hf,hz⟩:=hb.facts
  go_wp2_with fail
  go_region_held3 (fun w'=>w'.cell? ⟨w.heap.size,2,none⟩=some (.int .i64 (a:Int))∧w'.cell? ⟨w.heap.size,3,none⟩=some (.int .i64 (b:Int))) (go_keep) (first | (go_at_call 42;(first | ((with_reducible refine (HA.out _).mono ?_);rintro e w1 ⟨rfl,hq⟩;replace hb:=hb.trans (Ext.trans (by repeat (first | exact Ext.refl _ | refine Ext.drew ?_ | refine Ext.drewN ?_ _ | refine Ext.alloc ?_ _)) hq);clear hq;obtain ⟨hc,hf,hz⟩:=hb.facts) | ((with_reducible refine (HB.out _).mono ?_);rintro e w1 ⟨rfl,hq⟩;replace hb:=hb.trans (Ext.trans (by repeat (first | exact Ext.refl _ | refine Ext.drew ?_ | refine Ext.drewN ?_ _ | refine Ext.alloc ?_ _)) hq);clear hq;obtain ⟨hc,hf,hz⟩:=hb.facts))))
  all_goals go_wp2
  all_goals have hb1:=hb0.trans hb
  all_goals exact bodyPost_ret (v := .string ((⟨#[112]⟩:ByteArray)++(⟨#[121]⟩:ByteArray)++(⟨(decD a).toArray⟩:ByteArray)++(⟨#[47]⟩:ByteArray)++(⟨(decD b).toArray⟩:ByteArray))) (by simp [results,Tryz.f139,go_sem]) rfl ⟨congrArg (fun x=>Ending.returned (.string x)) (ByteArray.ext (by rw [show wordT ⟨7,true,(a:Int),(b:Int)⟩=[112]++[121]++decD a++(47::decD b) from by rfl] <;> simp)),hb1⟩
set_option maxHeartbeats 4000000 in
theorem znx (p:Bool) (a b:Nat) (w:World) :
  Calls Tryz.prog 139 #[.agg #[.int .u8 8,.bool p,.int .i64 (a:Int),.int .i64 (b:Int)]] w fun e w'=>e = .returned (.string ⟨(wordT ⟨8,p,a,b⟩).toArray⟩)∧Ext w w':=by
 cases p
 ·have hb0:Ext w (w.alloc (.cells #[.int .u8 8,.bool false,.int .i64 (a:Int),.int .i64 (b:Int)] 132)):=(Ext.refl _).alloc _
  go_enter Tryz.func139,Tryz.ntmps139
  go_wp2_with fail
  have hb1:=hb0
  exact bodyPost_ret (v := .string ((⟨#[107]⟩:ByteArray)++(⟨#[115]⟩:ByteArray))) (by simp [results,Tryz.f139,go_sem]) rfl ⟨congrArg (fun x=>Ending.returned (.string x)) (ByteArray.ext (by rw [show wordT ⟨8,false,(a:Int),(b:Int)⟩=[107]++[115]++[]++[] from by rfl] <;> simp)),hb1⟩
 ·have hb0:Ext w (w.alloc (.cells #[.int .u8 8,.bool true,.int .i64 (a:Int),.int .i64 (b:Int)] 132)):=(Ext.refl _).alloc _
  go_enter Tryz.func139,Tryz.ntmps139
  go_wp2_with fail
  have hb1:=hb0
  exact bodyPost_ret (v := .string ((⟨#[112]⟩:ByteArray)++(⟨#[115]⟩:ByteArray))) (by simp [results,Tryz.f139,go_sem]) rfl ⟨congrArg (fun x=>Ending.returned (.string x)) (ByteArray.ext (by rw [show wordT ⟨8,true,(a:Int),(b:Int)⟩=[112]++[115]++[]++[] from by rfl] <;> simp)),hb1⟩
set_option maxHeartbeats 4000000 in
theorem znA (p:Bool) (a b:Nat) (h1:a≤200) (w:World) :
  Calls Tryz.prog 139 #[.agg #[.int .u8 9,.bool p,.int .i64 (a:Int),.int .i64 (b:Int)]] w fun e w'=>e = .returned (.string ⟨(wordT ⟨9,p,a,b⟩).toArray⟩)∧Ext w w':=by
 have d1:=zaj a
 have HA:=Lib.hid (fun w'=>zai a (by omega) w')
 cases p
 ·have hb0:Ext w (w.alloc (.cells #[.int .u8 9,.bool false,.int .i64 (a:Int),.int .i64 (b:Int)] 132)):=(Ext.refl _).alloc _
  go_enter Tryz.func139,Tryz.ntmps139
  go_wp2_with (go_at_call 42;((with_reducible refine (HA.out _).mono ?_);rintro e w1 ⟨rfl,hq1⟩;have hb1:=hb0.trans hq1))
  exact bodyPost_ret (v := .string ((⟨#[111,110]⟩:ByteArray)++(⟨(decD a).toArray⟩:ByteArray))) (by simp [results,Tryz.f139,go_sem]) rfl ⟨congrArg (fun x=>Ending.returned (.string x)) (ByteArray.ext (by rw [show wordT ⟨9,false,(a:Int),(b:Int)⟩=[111,110]++decD a from by rfl] <;> simp)),hb1⟩
 ·have hb0:Ext w (w.alloc (.cells #[.int .u8 9,.bool true,.int .i64 (a:Int),.int .i64 (b:Int)] 132)):=(Ext.refl _).alloc _
  go_enter Tryz.func139,Tryz.ntmps139
  go_wp2_with (go_at_call 42;((with_reducible refine (HA.out _).mono ?_);rintro e w1 ⟨rfl,hq1⟩;have hb1:=hb0.trans hq1))
  exact bodyPost_ret (v := .string ((⟨#[111,110]⟩:ByteArray)++(⟨(decD a).toArray⟩:ByteArray))) (by simp [results,Tryz.f139,go_sem]) rfl ⟨congrArg (fun x=>Ending.returned (.string x)) (ByteArray.ext (by rw [show wordT ⟨9,true,(a:Int),(b:Int)⟩=[111,110]++decD a from by rfl] <;> simp)),hb1⟩
set_option maxHeartbeats 4000000 in
theorem zne (p:Bool) (a b:Nat) (h1:a≤200) (w:World) :
  Calls Tryz.prog 139 #[.agg #[.int .u8 10,.bool p,.int .i64 (a:Int),.int .i64 (b:Int)]] w fun e w'=>e = .returned (.string ⟨(wordT ⟨10,p,a,b⟩).toArray⟩)∧Ext w w':=by
 have d1:=zaj a
 have HA:=Lib.hid (fun w'=>zai a (by omega) w')
 cases p
 ·have hb0:Ext w (w.alloc (.cells #[.int .u8 10,.bool false,.int .i64 (a:Int),.int .i64 (b:Int)] 132)):=(Ext.refl _).alloc _
  go_enter Tryz.func139,Tryz.ntmps139
  go_wp2_with (go_at_call 42;((with_reducible refine (HA.out _).mono ?_);rintro e w1 ⟨rfl,hq1⟩;have hb1:=hb0.trans hq1))
  exact bodyPost_ret (v := .string ((⟨#[107]⟩:ByteArray)++(⟨#[111]⟩:ByteArray)++(⟨(decD a).toArray⟩:ByteArray))) (by simp [results,Tryz.f139,go_sem]) rfl ⟨congrArg (fun x=>Ending.returned (.string x)) (ByteArray.ext (by rw [show wordT ⟨10,false,(a:Int),(b:Int)⟩=[107]++[111]++decD a++[] from by rfl] <;> simp)),hb1⟩
 ·have hb0:Ext w (w.alloc (.cells #[.int .u8 10,.bool true,.int .i64 (a:Int),.int .i64 (b:Int)] 132)):=(Ext.refl _).alloc _
  go_enter Tryz.func139,Tryz.ntmps139
  go_wp2_with (go_at_call 42;((with_reducible refine (HA.out _).mono ?_);rintro e w1 ⟨rfl,hq1⟩;have hb1:=hb0.trans hq1))
  exact bodyPost_ret (v := .string ((⟨#[112]⟩:ByteArray)++(⟨#[111]⟩:ByteArray)++(⟨(decD a).toArray⟩:ByteArray))) (by simp [results,Tryz.f139,go_sem]) rfl ⟨congrArg (fun x=>Ending.returned (.string x)) (ByteArray.ext (by rw [show wordT ⟨10,true,(a:Int),(b:Int)⟩=[112]++[111]++decD a++[] from by rfl] <;> simp)),hb1⟩
theorem zmk (s:St) (h:okSt s=true) (w:World) :
  Calls Tryz.prog 139 #[.agg #[.int .u8 s.k,.bool s.p,.int .i64 s.a,.int .i64 s.b]] w fun e w'=>e = .returned (.string ⟨(wordT s).toArray⟩)∧Ext w w':=by
 obtain ⟨h0,h1,h2,h3⟩:=znd h
 obtain ⟨k,p,a,b⟩:=s
 have hk:=zed h
 simp only at h0 h1 h2 h3 hk ⊢
 clear h
 obtain ⟨a,rfl⟩:∃n:Nat,a=(n:Int):=⟨a.toNat,by omega⟩
 obtain ⟨b,rfl⟩:∃n:Nat,b=(n:Int):=⟨b.toNat,by omega⟩
 rcases zaB hk with e | e | e | e | e | e | e | e | e | e <;> subst e
 ·exact znt p a b w
 ·exact znz p a b w
 ·exact znB p a b (by omega) w
 ·exact znw p a b (by omega) w
 ·exact znu p a b (by omega) w
 ·exact znq p a b (by omega) (by omega) w
 ·exact znv p a b (by omega) (by omega) w
 ·exact znx p a b w
 ·exact znA p a b (by omega) w
 ·exact zne p a b (by omega) w
end Go.Proofs.YtkneghkbgingdaaGreatDoor
