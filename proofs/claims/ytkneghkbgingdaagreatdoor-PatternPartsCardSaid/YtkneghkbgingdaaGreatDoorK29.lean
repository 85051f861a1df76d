/- What the reference reads of whatever word. -/
import Derived.Test.YtkneghkbgingdaaGreatDoorK24
import Derived.Test.YtkneghkbgingdaaGreatDoorK25
import Derived.Test.YtkneghkbgingdaaGreatDoorK26
import Derived.Test.YtkneghkbgingdaaGreatDoorK27
import Derived.Test.YtkneghkbgingdaaGreatDoorK28
import Derived.Laws.BytesArg
set_option maxHeartbeats 16000000
namespace Go.Proofs.YtkneghkbgingdaaGreatDoor
set_option maxRecDepth 100000
open Go.RowKit
theorem zh1 (c:UInt8) (d:UInt8) (r:List UInt8) (hc:c=107∨c=112) (hl:(d::r).length≤100000) (w:World):Calls Tryz.prog 123 #[.string ⟨(c::d::r:List UInt8).toArray⟩] w (WordR (refWord (c::d::r)) w):=by
 cases hn:numS (d::r) with
 | some N =>
  have hw:refWord (c::d::r)=(if 1<N then some (List.replicate (min N 300) ⟨1,decide (c=112),0,0⟩) else none):=by
   rcases hc with rfl | rfl <;> simp [refWord,hn]
  rw [hw]
  rcases hc with rfl | rfl
  ·exact zfv _ _ d r rfl rfl hl N hn _ rfl w
  ·exact zfw _ _ d r rfl rfl hl N hn _ rfl w
 | none =>
  have hw:refWord (c::d::r)=(if kindR d=8 then (if r=[] then some [⟨8,decide (c=112),0,0⟩] else none) else refParts (kindR d) (decide (c=112)) (spl 47 r)):=by
   rcases hc with rfl | rfl <;> simp [refWord,hn]
  rw [hw]
  by_cases h8:kindR d=8
  ·rw [if_pos h8]
   rcases hc with rfl | rfl
   ·exact zex _ _ d r rfl rfl hl hn h8 _ rfl w
   ·exact zey _ _ d r rfl rfl hl hn h8 _ rfl w
  ·rw [if_neg h8]
   by_cases h6:kindR d=6
   ·have e:∀p,refParts (kindR d) p (spl 47 r)=if (spl 47 r).length=2 then (numS ((spl 47 r).getD 1 [])).bind fun b=>(numS ((spl 47 r).getD 0 [])).bind fun a=>some [⟨6,p,a,b⟩] else none:=fun p=>by rw [h6];rfl
    rw [e]
    rcases hc with rfl | rfl
    ·exact zez _ _ d r rfl rfl hl hn h6 _ rfl _ rfl w
    ·exact zeA _ _ d r rfl rfl hl hn h6 _ rfl _ rfl w
   by_cases h7:kindR d=7
   ·have e:∀p,refParts (kindR d) p (spl 47 r)=if (spl 47 r).length=2 then (numS ((spl 47 r).getD 1 [])).bind fun b=>(numS ((spl 47 r).getD 0 [])).bind fun a=>some [⟨7,p,a,b⟩] else none:=fun p=>by rw [h7];rfl
    rw [e]
    rcases hc with rfl | rfl
    ·exact zeB _ _ d r rfl rfl hl hn h7 _ rfl _ rfl w
    ·exact zeC _ _ d r rfl rfl hl hn h7 _ rfl _ rfl w
   by_cases h0:kindR d=0
   ·have e:∀p,refParts (kindR d) p (spl 47 r)=none:=fun p=>by rw [h0];simp [refParts]
    rw [e]
    rcases hc with rfl | rfl
    ·exact zeD _ _ d r rfl rfl hl hn h0 _ rfl w
    ·exact zeE _ _ d r rfl rfl hl hn h0 _ rfl w
   ·have e:∀p,refParts (kindR d) p (spl 47 r)=if (spl 47 r).length=1 then (numS ((spl 47 r).getD 0 [])).bind fun a=>some [⟨kindR d,p,a,0⟩] else none:=fun p=>by
     simp [refParts,h6,h7,h0]
    rw [e]
    have b8:(kindR d==8)=false:=Ze.2 h8
    have b6:(kindR d==6)=false:=Ze.2 h6
    have b7:(kindR d==7)=false:=Ze.2 h7
    have b0:(kindR d != 0)=true:=bne_iff_ne.2 h0
    rcases hc with rfl | rfl
    ·exact zcH _ _ d r rfl rfl hl hn _ rfl _ rfl b8 b6 b7 b0 _ rfl w
    ·exact zcI _ _ d r rfl rfl hl hn _ rfl _ rfl b8 b6 b7 b0 _ rfl w
theorem zcP (l:List UInt8) (hl:l.length≤100000) (w:World):Calls Tryz.prog 123 #[.string ⟨l.toArray⟩] w (WordR (refWord l) w):=by
 cases l with
 | nil=>exact zlE w
 | cons c R =>
  by_cases hc:c=107∨c=112
  ·cases R with
   | nil =>
    rcases hc with rfl | rfl
    ·exact zfx w
    ·exact zfy w
   | cons d r=>exact zh1 c d r hc (by simp only [Zk] at hl ⊢;omega) w
  ·by_cases hy:c=121∧R=[111]
   ·obtain ⟨rfl,rfl⟩:=hy
    exact zne w
   ·have hE:((c::R:List UInt8)==[121,111])=false:=by
     rw [Ze]
     intro e
     injection e with e1 e2
     exact hy ⟨e1,e2⟩
    by_cases ho:1<R.length∧c=111∧R.head?=some 110
    ·have hw:refWord (c::R)=(numS R.tail).bind fun a=>some [⟨9,false,a,0⟩]:=by rw [refWord.eq_def];simp only;rw [if_neg hy,if_pos ho]
     rw [hw]
     obtain ⟨h1,rfl,h3⟩:=ho
     cases R with
     | nil=>cases h3
     | cons x t =>
      obtain rfl:x=110:=by simpa using h3
      refine znd _ t hE (by simp only [Zk] at h1 ⊢;omega) (by simp) ?_ (by simp only [Zk] at hl;omega) w
      rw [zah _ 2 _ (Zf _)]
      rfl
    ·have hw:refWord (c::R)=none:=by rw [refWord.eq_def];simp only;rw [if_neg hy,if_neg ho,if_pos hc]
     rw [hw]
     have hk:((c.toNat:Int) != 107)=true:=by
      rw [bne_iff_ne]
      intro e
      exact hc (.inl (ZX.1 (by rw [show (107:UInt8).toNat=107 from rfl];omega)))
     have hq:((c.toNat:Int) != 112)=true:=by
      rw [bne_iff_ne]
      intro e
      exact hc (.inr (ZX.1 (by rw [show (112:UInt8).toNat=112 from rfl];omega)))
     have h0:∀h,(⟨(c::R:List UInt8).toArray⟩:ByteArray)[0]'h=c:=fun _=>rfl
     by_cases hp:((c::R:List UInt8).take 2==[111,110])=true
     ·have hlen:¬1<R.length:=fun h=>by
       apply ho
       rw [beq_iff_eq] at hp
       cases R with
       | nil=>simp at h
       | cons x t =>
        simp at hp
        exact ⟨h,hp.1,by rw [hp.2];rfl⟩
      exact zh2 _ c hE (by simp only [Zk];omega) h0 (by simp only [Zk];omega) hk hq w
     ·exact zlD _ c hE (by simpa using hp) h0 (by simp only [Zk];omega) hk hq w
end Go.Proofs.YtkneghkbgingdaaGreatDoor
/- The reference's Decimal writes a number in decimal. -/
namespace Go.Proofs.YtkneghkbgingdaaGreatDoor
set_option maxRecDepth 100000
open Go.RowKit
theorem zgB {n:Nat} (h:n<1000000000000000):decD n=Lib.decDigits n:=zgD 19 n (by omega)
def decG (m:Nat):List UInt8:=if m=0 then [] else decD m
theorem zeS {n:Nat} (h:n<1000000000000000):decD n=decG (n / 10)++[dg n]:=by
 rw [zgB h,Lib.decDigits,decG]
 by_cases h1:n<10
 ·rw [dif_pos h1,if_pos (by omega)]
  rw [zgF h1]
  rfl
 ·rw [dif_neg h1,if_neg (by omega),zgB (by omega),dg]
theorem zin {n:Nat} (h0:0<n) (h:n<1000000000000000):decG n=decG (n / 10)++[dg n]:=by
 rw [←zeS h,decG,if_neg (by omega)]
theorem zgz (w:World) (x:Int):(convert 78 9 (.slice (some ⟨w.heap.size,0,none⟩) 1 1)).run Tryz.prog (w.alloc (.cells #[.int .u8 x] 5)) = .ok (.string ⟨#[UInt8.ofNat x.toNat]⟩) (w.alloc (.cells #[.int .u8 x] 5)):=by
 have h:=run_convert_bytes_arg (P:=Tryz.prog) (w:=w.alloc (.cells #[.int .u8 x] 5)) 78 5 Tryz.underlying78 Tryz.underlying5 w.heap.size 0 1 1 [x] rfl (fun i hi=>by
  obtain rfl:i=0:=by omega
  simp [go_sem]) 9 Tryz.underlying9
 rw [h]
 rfl
theorem zal (n:Nat) (hn:n<1000000000000) (w:World):Calls Tryz.prog 42 #[.int .i64 (n:Int)] w fun e w'=>e = .returned (.string ⟨(decD n).toArray⟩)∧Ext w w':=by
 have hconv:=zgz
 have q0:(0:Int)≤(n:Int):=by omega
 have q1:(n:Int)<1000000000000:=by omega
 go_enter Tryz.func42,Tryz.ntmps42
 go_wp2_with fail
 go_loopw [0,3] (fun a b wr=>∃(m:Nat) (s:List UInt8),a = .int .i64 m∧b = .string ⟨s.toArray⟩∧m<1000000000000∧Hid (decG m++s=decD n)∧Hid (Ext w wr)) (fun a _ _=>(intOf a).toNat)
 case atStart=>exact ⟨n / 10,[dg n],congrArg _ (by omega),rfl,by omega,Za (zeS (by omega)).symm,Za zx⟩
 case round =>
  obtain ⟨m,s,rfl,rfl,hm,HD,HE⟩:=hrel
  have hsl:s.length≤20:=by
   have h1:=zae n
   rw [←HD.out,Zh] at h1
   omega
  by_cases h0:m=0
  ·subst h0
   have HS:=Za (show s=decD n from HD.out)
   go_wp2
   go_ret
   exact ⟨by rw [HS.out];rfl,HE.out⟩
  ·have q2:(0:Int)<(m:Int):=by omega
   have q3:(m:Int)≤9223372036854775807:=by omega
   have q4:(0:Int)≤(m:Int):=by omega
   have HN0:=Za (show decG (m / 10)++(dg m::s)=decD n by rw [←HD.out,zin (n:=m) (by omega) (by omega),ZJ];rfl)
   obtain ⟨G,hG⟩:∃G,dg m::s=G:=⟨_,rfl⟩
   obtain ⟨D,hD⟩:∃D,[dg m]=D:=⟨_,rfl⟩
   have hcat:(⟨D.toArray⟩++⟨s.toArray⟩:ByteArray)=⟨G.toArray⟩:=by rw [←hG,←hD];exact zag [dg m] s
   have hdl:D.length=1:=by rw [←hD];rfl
   have hcv:(convert 78 9 (.slice (some ⟨wr.heap.size,0,none⟩) 1 1)).run Tryz.prog (wr.alloc (.cells #[.int .u8 (48+(m:Int) % 10)] 5)) = .ok (.string ⟨D.toArray⟩) (wr.alloc (.cells #[.int .u8 (48+(m:Int) % 10)] 5)):=by
    have h9:=zgz wr (48+(m:Int) % 10)
    rw [show (48+(m:Int) % 10).toNat=48+m % 10 by omega] at h9
    rw [h9,←hD]
    rfl
   have HN:=Za (show decG (m / 10)++G=decD n by rw [←hG];exact HN0.out)
   have HM:=Za hm
   clear HN0 hG HD hD hconv hm hn q1
   go_wp2_with fail
   go_roundw
   case rel=>exact ⟨m / 10,G,congrArg _ (by omega),rfl,(by have:=HM.out;omega),HN,Za (Zb HE.out zx)⟩
   case measure=>simp [intOf];omega
end Go.Proofs.YtkneghkbgingdaaGreatDoor
/- The reference's text of a stitch. -/
namespace Go.Proofs.YtkneghkbgingdaaGreatDoor
set_option maxRecDepth 100000
open Go.RowKit
theorem zog (p:Bool) (a b:Nat) (w:World) :
  Calls Tryz.prog 139 #[.agg #[.int .u8 1,.bool p,.int .i64 (a:Int),.int .i64 (b:Int)]] w fun e w'=>e = .returned (.string ⟨(wordT ⟨1,p,a,b⟩).toArray⟩)∧Ext w w':=by
 cases p
 ·have hb0:Ext w (w.alloc (.cells #[.int .u8 1,.bool false,.int .i64 (a:Int),.int .i64 (b:Int)] 132)):=(Zd _).alloc _
  go_enter Tryz.func139,Tryz.ntmps139
  go_wp2_with fail
  have hb1:=hb0
  exact bodyPost_ret (v := .string ((⟨#[107]⟩:ByteArray))) (by simp [results,Tryz.f139,go_sem]) rfl ⟨congrArg (fun x=>Ending.returned (.string x)) (ByteArray.ext (by rw [show wordT ⟨1,false,(a:Int),(b:Int)⟩=[107]++[]++[]++[] from by rfl] <;> simp)),hb1⟩
 ·have hb0:Ext w (w.alloc (.cells #[.int .u8 1,.bool true,.int .i64 (a:Int),.int .i64 (b:Int)] 132)):=(Zd _).alloc _
  go_enter Tryz.func139,Tryz.ntmps139
  go_wp2_with fail
  have hb1:=hb0
  exact bodyPost_ret (v := .string ((⟨#[112]⟩:ByteArray))) (by simp [results,Tryz.f139,go_sem]) rfl ⟨congrArg (fun x=>Ending.returned (.string x)) (ByteArray.ext (by rw [show wordT ⟨1,true,(a:Int),(b:Int)⟩=[112]++[]++[]++[] from by rfl] <;> simp)),hb1⟩
theorem zoh (p:Bool) (a b:Nat) (w:World) :
  Calls Tryz.prog 139 #[.agg #[.int .u8 2,.bool p,.int .i64 (a:Int),.int .i64 (b:Int)]] w fun e w'=>e = .returned (.string ⟨(wordT ⟨2,p,a,b⟩).toArray⟩)∧Ext w w':=by
 cases p
 ·have hb0:Ext w (w.alloc (.cells #[.int .u8 2,.bool false,.int .i64 (a:Int),.int .i64 (b:Int)] 132)):=(Zd _).alloc _
  go_enter Tryz.func139,Tryz.ntmps139
  go_wp2_with fail
  have hb1:=hb0
  exact bodyPost_ret (v := .string ((⟨#[121,111]⟩:ByteArray))) (by simp [results,Tryz.f139,go_sem]) rfl ⟨congrArg (fun x=>Ending.returned (.string x)) (ByteArray.ext (by rw [show wordT ⟨2,false,(a:Int),(b:Int)⟩=[121,111] from by rfl] <;> simp)),hb1⟩
 ·have hb0:Ext w (w.alloc (.cells #[.int .u8 2,.bool true,.int .i64 (a:Int),.int .i64 (b:Int)] 132)):=(Zd _).alloc _
  go_enter Tryz.func139,Tryz.ntmps139
  go_wp2_with fail
  have hb1:=hb0
  exact bodyPost_ret (v := .string ((⟨#[121,111]⟩:ByteArray))) (by simp [results,Tryz.f139,go_sem]) rfl ⟨congrArg (fun x=>Ending.returned (.string x)) (ByteArray.ext (by rw [show wordT ⟨2,true,(a:Int),(b:Int)⟩=[121,111] from by rfl] <;> simp)),hb1⟩
theorem zoi (p:Bool) (a b:Nat) (h1:a≤200) (w:World) :
  Calls Tryz.prog 139 #[.agg #[.int .u8 3,.bool p,.int .i64 (a:Int),.int .i64 (b:Int)]] w fun e w'=>e = .returned (.string ⟨(wordT ⟨3,p,a,b⟩).toArray⟩)∧Ext w w':=by
 have d1:=zae a
 have HA:=Za (fun w'=>zal a (by omega) w')
 cases p
 ·have hb0:Ext w (w.alloc (.cells #[.int .u8 3,.bool false,.int .i64 (a:Int),.int .i64 (b:Int)] 132)):=(Zd _).alloc _
  go_enter Tryz.func139,Tryz.ntmps139
  go_wp2_with (go_at_call 42;((with_reducible refine (HA.out _).mono ?_);rintro e w1 ⟨rfl,hq1⟩;have hb1:=hb0.trans hq1))
  exact bodyPost_ret (v := .string ((⟨#[107]⟩:ByteArray)++(⟨#[102]⟩:ByteArray)++(⟨(decD a).toArray⟩:ByteArray))) (by simp [results,Tryz.f139,go_sem]) rfl ⟨congrArg (fun x=>Ending.returned (.string x)) (ByteArray.ext (by rw [show wordT ⟨3,false,(a:Int),(b:Int)⟩=[107]++[102]++decD a++[] from by rfl] <;> simp)),hb1⟩
 ·have hb0:Ext w (w.alloc (.cells #[.int .u8 3,.bool true,.int .i64 (a:Int),.int .i64 (b:Int)] 132)):=(Zd _).alloc _
  go_enter Tryz.func139,Tryz.ntmps139
  go_wp2_with (go_at_call 42;((with_reducible refine (HA.out _).mono ?_);rintro e w1 ⟨rfl,hq1⟩;have hb1:=hb0.trans hq1))
  exact bodyPost_ret (v := .string ((⟨#[112]⟩:ByteArray)++(⟨#[102]⟩:ByteArray)++(⟨(decD a).toArray⟩:ByteArray))) (by simp [results,Tryz.f139,go_sem]) rfl ⟨congrArg (fun x=>Ending.returned (.string x)) (ByteArray.ext (by rw [show wordT ⟨3,true,(a:Int),(b:Int)⟩=[112]++[102]++decD a++[] from by rfl] <;> simp)),hb1⟩
theorem zoj (p:Bool) (a b:Nat) (h1:a≤200) (w:World) :
  Calls Tryz.prog 139 #[.agg #[.int .u8 4,.bool p,.int .i64 (a:Int),.int .i64 (b:Int)]] w fun e w'=>e = .returned (.string ⟨(wordT ⟨4,p,a,b⟩).toArray⟩)∧Ext w w':=by
 have d1:=zae a
 have HA:=Za (fun w'=>zal a (by omega) w')
 cases p
 ·have hb0:Ext w (w.alloc (.cells #[.int .u8 4,.bool false,.int .i64 (a:Int),.int .i64 (b:Int)] 132)):=(Zd _).alloc _
  go_enter Tryz.func139,Tryz.ntmps139
  go_wp2_with (go_at_call 42;((with_reducible refine (HA.out _).mono ?_);rintro e w1 ⟨rfl,hq1⟩;have hb1:=hb0.trans hq1))
  exact bodyPost_ret (v := .string ((⟨#[107]⟩:ByteArray)++(⟨#[108]⟩:ByteArray)++(⟨(decD a).toArray⟩:ByteArray))) (by simp [results,Tryz.f139,go_sem]) rfl ⟨congrArg (fun x=>Ending.returned (.string x)) (ByteArray.ext (by rw [show wordT ⟨4,false,(a:Int),(b:Int)⟩=[107]++[108]++decD a++[] from by rfl] <;> simp)),hb1⟩
 ·have hb0:Ext w (w.alloc (.cells #[.int .u8 4,.bool true,.int .i64 (a:Int),.int .i64 (b:Int)] 132)):=(Zd _).alloc _
  go_enter Tryz.func139,Tryz.ntmps139
  go_wp2_with (go_at_call 42;((with_reducible refine (HA.out _).mono ?_);rintro e w1 ⟨rfl,hq1⟩;have hb1:=hb0.trans hq1))
  exact bodyPost_ret (v := .string ((⟨#[112]⟩:ByteArray)++(⟨#[108]⟩:ByteArray)++(⟨(decD a).toArray⟩:ByteArray))) (by simp [results,Tryz.f139,go_sem]) rfl ⟨congrArg (fun x=>Ending.returned (.string x)) (ByteArray.ext (by rw [show wordT ⟨4,true,(a:Int),(b:Int)⟩=[112]++[108]++decD a++[] from by rfl] <;> simp)),hb1⟩
theorem zok (p:Bool) (a b:Nat) (h1:a≤200) (w:World) :
  Calls Tryz.prog 139 #[.agg #[.int .u8 5,.bool p,.int .i64 (a:Int),.int .i64 (b:Int)]] w fun e w'=>e = .returned (.string ⟨(wordT ⟨5,p,a,b⟩).toArray⟩)∧Ext w w':=by
 have d1:=zae a
 have HA:=Za (fun w'=>zal a (by omega) w')
 cases p
 ·have hb0:Ext w (w.alloc (.cells #[.int .u8 5,.bool false,.int .i64 (a:Int),.int .i64 (b:Int)] 132)):=(Zd _).alloc _
  go_enter Tryz.func139,Tryz.ntmps139
  go_wp2_with (go_at_call 42;((with_reducible refine (HA.out _).mono ?_);rintro e w1 ⟨rfl,hq1⟩;have hb1:=hb0.trans hq1))
  exact bodyPost_ret (v := .string ((⟨#[107]⟩:ByteArray)++(⟨#[109]⟩:ByteArray)++(⟨(decD a).toArray⟩:ByteArray))) (by simp [results,Tryz.f139,go_sem]) rfl ⟨congrArg (fun x=>Ending.returned (.string x)) (ByteArray.ext (by rw [show wordT ⟨5,false,(a:Int),(b:Int)⟩=[107]++[109]++decD a++[] from by rfl] <;> simp)),hb1⟩
 ·have hb0:Ext w (w.alloc (.cells #[.int .u8 5,.bool true,.int .i64 (a:Int),.int .i64 (b:Int)] 132)):=(Zd _).alloc _
  go_enter Tryz.func139,Tryz.ntmps139
  go_wp2_with (go_at_call 42;((with_reducible refine (HA.out _).mono ?_);rintro e w1 ⟨rfl,hq1⟩;have hb1:=hb0.trans hq1))
  exact bodyPost_ret (v := .string ((⟨#[112]⟩:ByteArray)++(⟨#[109]⟩:ByteArray)++(⟨(decD a).toArray⟩:ByteArray))) (by simp [results,Tryz.f139,go_sem]) rfl ⟨congrArg (fun x=>Ending.returned (.string x)) (ByteArray.ext (by rw [show wordT ⟨5,true,(a:Int),(b:Int)⟩=[112]++[109]++decD a++[] from by rfl] <;> simp)),hb1⟩
theorem zol (p:Bool) (a b:Nat) (h1:a≤200) (h2:b≤6) (w:World) :
  Calls Tryz.prog 139 #[.agg #[.int .u8 6,.bool p,.int .i64 (a:Int),.int .i64 (b:Int)]] w fun e w'=>e = .returned (.string ⟨(wordT ⟨6,p,a,b⟩).toArray⟩)∧Ext w w':=by
 have d1:=zae a
 have HA:=Za (fun w'=>zal a (by omega) w')
 have f1:¬9223372036854775807<2+(decD a).length:=by omega
 have f2:¬9223372036854775807<2+(decD a).length+1:=by omega
 have d2:=zae b
 have HB:=Za (fun w'=>zal b (by omega) w')
 have f3:¬9223372036854775807<2+(decD a).length+1+(decD b).length:=by omega
 cases p
 ·have hb0:Ext w (w.alloc (.cells #[.int .u8 6,.bool false,.int .i64 (a:Int),.int .i64 (b:Int)] 132)):=(Zd _).alloc _
  go_enter Tryz.func139,Tryz.ntmps139
  have hb:Ext (w.alloc (.cells #[.int .u8 6,.bool false,.int .i64 (a:Int),.int .i64 (b:Int)] 132)) (w.alloc (.cells #[.int .u8 6,.bool false,.int .i64 (a:Int),.int .i64 (b:Int)] 132)):=Zd _
  obtain ⟨hc,hf,hz⟩:=hb.facts
  go_wp2_with fail
  go_region_held3 (fun w'=>w'.cell? ⟨w.heap.size,2,none⟩=some (.int .i64 (a:Int))∧w'.cell? ⟨w.heap.size,3,none⟩=some (.int .i64 (b:Int))) (go_keep) (first | (go_at_call 42;(first | ((with_reducible refine (HA.out _).mono ?_);rintro e w1 ⟨rfl,hq⟩;replace hb:=hb.trans (Zb (by repeat (first | exact Zd _ | refine ZN ?_ | refine Ext.drewN ?_ _ | refine Zl ?_ _)) hq);clear hq;obtain ⟨hc,hf,hz⟩:=hb.facts) | ((with_reducible refine (HB.out _).mono ?_);rintro e w1 ⟨rfl,hq⟩;replace hb:=hb.trans (Zb (by repeat (first | exact Zd _ | refine ZN ?_ | refine Ext.drewN ?_ _ | refine Zl ?_ _)) hq);clear hq;obtain ⟨hc,hf,hz⟩:=hb.facts))))
  all_goals go_wp2
  all_goals have hb1:=hb0.trans hb
  all_goals exact bodyPost_ret (v := .string ((⟨#[107]⟩:ByteArray)++(⟨#[120]⟩:ByteArray)++(⟨(decD a).toArray⟩:ByteArray)++(⟨#[47]⟩:ByteArray)++(⟨(decD b).toArray⟩:ByteArray))) (by simp [results,Tryz.f139,go_sem]) rfl ⟨congrArg (fun x=>Ending.returned (.string x)) (ByteArray.ext (by rw [show wordT ⟨6,false,(a:Int),(b:Int)⟩=[107]++[120]++decD a++(47::decD b) from by rfl] <;> simp)),hb1⟩
 ·have hb0:Ext w (w.alloc (.cells #[.int .u8 6,.bool true,.int .i64 (a:Int),.int .i64 (b:Int)] 132)):=(Zd _).alloc _
  go_enter Tryz.func139,Tryz.ntmps139
  have hb:Ext (w.alloc (.cells #[.int .u8 6,.bool true,.int .i64 (a:Int),.int .i64 (b:Int)] 132)) (w.alloc (.cells #[.int .u8 6,.bool true,.int .i64 (a:Int),.int .i64 (b:Int)] 132)):=Zd _
  obtain ⟨hc,hf,hz⟩:=hb.facts
  go_wp2_with fail
  go_region_held3 (fun w'=>w'.cell? ⟨w.heap.size,2,none⟩=some (.int .i64 (a:Int))∧w'.cell? ⟨w.heap.size,3,none⟩=some (.int .i64 (b:Int))) (go_keep) (first | (go_at_call 42;(first | ((with_reducible refine (HA.out _).mono ?_);rintro e w1 ⟨rfl,hq⟩;replace hb:=hb.trans (Zb (by repeat (first | exact Zd _ | refine ZN ?_ | refine Ext.drewN ?_ _ | refine Zl ?_ _)) hq);clear hq;obtain ⟨hc,hf,hz⟩:=hb.facts) | ((with_reducible refine (HB.out _).mono ?_);rintro e w1 ⟨rfl,hq⟩;replace hb:=hb.trans (Zb (by repeat (first | exact Zd _ | refine ZN ?_ | refine Ext.drewN ?_ _ | refine Zl ?_ _)) hq);clear hq;obtain ⟨hc,hf,hz⟩:=hb.facts))))
  all_goals go_wp2
  all_goals have hb1:=hb0.trans hb
  all_goals exact bodyPost_ret (v := .string ((⟨#[112]⟩:ByteArray)++(⟨#[120]⟩:ByteArray)++(⟨(decD a).toArray⟩:ByteArray)++(⟨#[47]⟩:ByteArray)++(⟨(decD b).toArray⟩:ByteArray))) (by simp [results,Tryz.f139,go_sem]) rfl ⟨congrArg (fun x=>Ending.returned (.string x)) (ByteArray.ext (by rw [show wordT ⟨6,true,(a:Int),(b:Int)⟩=[112]++[120]++decD a++(47::decD b) from by rfl] <;> simp)),hb1⟩
theorem zom (p:Bool) (a b:Nat) (h1:a≤200) (h2:b≤6) (w:World) :
  Calls Tryz.prog 139 #[.agg #[.int .u8 7,.bool p,.int .i64 (a:Int),.int .i64 (b:Int)]] w fun e w'=>e = .returned (.string ⟨(wordT ⟨7,p,a,b⟩).toArray⟩)∧Ext w w':=by
 have d1:=zae a
 have HA:=Za (fun w'=>zal a (by omega) w')
 have f1:¬9223372036854775807<2+(decD a).length:=by omega
 have f2:¬9223372036854775807<2+(decD a).length+1:=by omega
 have d2:=zae b
 have HB:=Za (fun w'=>zal b (by omega) w')
 have f3:¬9223372036854775807<2+(decD a).length+1+(decD b).length:=by omega
 cases p
 ·have hb0:Ext w (w.alloc (.cells #[.int .u8 7,.bool false,.int .i64 (a:Int),.int .i64 (b:Int)] 132)):=(Zd _).alloc _
  go_enter Tryz.func139,Tryz.ntmps139
  have hb:Ext (w.alloc (.cells #[.int .u8 7,.bool false,.int .i64 (a:Int),.int .i64 (b:Int)] 132)) (w.alloc (.cells #[.int .u8 7,.bool false,.int .i64 (a:Int),.int .i64 (b:Int)] 132)):=Zd _
  obtain ⟨hc,hf,hz⟩:=hb.facts
  go_wp2_with fail
  go_region_held3 (fun w'=>w'.cell? ⟨w.heap.size,2,none⟩=some (.int .i64 (a:Int))∧w'.cell? ⟨w.heap.size,3,none⟩=some (.int .i64 (b:Int))) (go_keep) (first | (go_at_call 42;(first | ((with_reducible refine (HA.out _).mono ?_);rintro e w1 ⟨rfl,hq⟩;replace hb:=hb.trans (Zb (by repeat (first | exact Zd _ | refine ZN ?_ | refine Ext.drewN ?_ _ | refine Zl ?_ _)) hq);clear hq;obtain ⟨hc,hf,hz⟩:=hb.facts) | ((with_reducible refine (HB.out _).mono ?_);rintro e w1 ⟨rfl,hq⟩;replace hb:=hb.trans (Zb (by repeat (first | exact Zd _ | refine ZN ?_ | refine Ext.drewN ?_ _ | refine Zl ?_ _)) hq);clear hq;obtain ⟨hc,hf,hz⟩:=hb.facts))))
  all_goals go_wp2
  all_goals have hb1:=hb0.trans hb
  all_goals exact bodyPost_ret (v := .string ((⟨#[107]⟩:ByteArray)++(⟨#[121]⟩:ByteArray)++(⟨(decD a).toArray⟩:ByteArray)++(⟨#[47]⟩:ByteArray)++(⟨(decD b).toArray⟩:ByteArray))) (by simp [results,Tryz.f139,go_sem]) rfl ⟨congrArg (fun x=>Ending.returned (.string x)) (ByteArray.ext (by rw [show wordT ⟨7,false,(a:Int),(b:Int)⟩=[107]++[121]++decD a++(47::decD b) from by rfl] <;> simp)),hb1⟩
 ·have hb0:Ext w (w.alloc (.cells #[.int .u8 7,.bool true,.int .i64 (a:Int),.int .i64 (b:Int)] 132)):=(Zd _).alloc _
  go_enter Tryz.func139,Tryz.ntmps139
  have hb:Ext (w.alloc (.cells #[.int .u8 7,.bool true,.int .i64 (a:Int),.int .i64 (b:Int)] 132)) (w.alloc (.cells #[.int .u8 7,.bool true,.int .i64 (a:Int),.int .i64 (b:Int)] 132)):=Zd _
  obtain ⟨hc,hf,hz⟩:=hb.facts
  go_wp2_with fail
  go_region_held3 (fun w'=>w'.cell? ⟨w.heap.size,2,none⟩=some (.int .i64 (a:Int))∧w'.cell? ⟨w.heap.size,3,none⟩=some (.int .i64 (b:Int))) (go_keep) (first | (go_at_call 42;(first | ((with_reducible refine (HA.out _).mono ?_);rintro e w1 ⟨rfl,hq⟩;replace hb:=hb.trans (Zb (by repeat (first | exact Zd _ | refine ZN ?_ | refine Ext.drewN ?_ _ | refine Zl ?_ _)) hq);clear hq;obtain ⟨hc,hf,hz⟩:=hb.facts) | ((with_reducible refine (HB.out _).mono ?_);rintro e w1 ⟨rfl,hq⟩;replace hb:=hb.trans (Zb (by repeat (first | exact Zd _ | refine ZN ?_ | refine Ext.drewN ?_ _ | refine Zl ?_ _)) hq);clear hq;obtain ⟨hc,hf,hz⟩:=hb.facts))))
  all_goals go_wp2
  all_goals have hb1:=hb0.trans hb
  all_goals exact bodyPost_ret (v := .string ((⟨#[112]⟩:ByteArray)++(⟨#[121]⟩:ByteArray)++(⟨(decD a).toArray⟩:ByteArray)++(⟨#[47]⟩:ByteArray)++(⟨(decD b).toArray⟩:ByteArray))) (by simp [results,Tryz.f139,go_sem]) rfl ⟨congrArg (fun x=>Ending.returned (.string x)) (ByteArray.ext (by rw [show wordT ⟨7,true,(a:Int),(b:Int)⟩=[112]++[121]++decD a++(47::decD b) from by rfl] <;> simp)),hb1⟩
theorem zon (p:Bool) (a b:Nat) (w:World) :
  Calls Tryz.prog 139 #[.agg #[.int .u8 8,.bool p,.int .i64 (a:Int),.int .i64 (b:Int)]] w fun e w'=>e = .returned (.string ⟨(wordT ⟨8,p,a,b⟩).toArray⟩)∧Ext w w':=by
 cases p
 ·have hb0:Ext w (w.alloc (.cells #[.int .u8 8,.bool false,.int .i64 (a:Int),.int .i64 (b:Int)] 132)):=(Zd _).alloc _
  go_enter Tryz.func139,Tryz.ntmps139
  go_wp2_with fail
  have hb1:=hb0
  exact bodyPost_ret (v := .string ((⟨#[107]⟩:ByteArray)++(⟨#[115]⟩:ByteArray))) (by simp [results,Tryz.f139,go_sem]) rfl ⟨congrArg (fun x=>Ending.returned (.string x)) (ByteArray.ext (by rw [show wordT ⟨8,false,(a:Int),(b:Int)⟩=[107]++[115]++[]++[] from by rfl] <;> simp)),hb1⟩
 ·have hb0:Ext w (w.alloc (.cells #[.int .u8 8,.bool true,.int .i64 (a:Int),.int .i64 (b:Int)] 132)):=(Zd _).alloc _
  go_enter Tryz.func139,Tryz.ntmps139
  go_wp2_with fail
  have hb1:=hb0
  exact bodyPost_ret (v := .string ((⟨#[112]⟩:ByteArray)++(⟨#[115]⟩:ByteArray))) (by simp [results,Tryz.f139,go_sem]) rfl ⟨congrArg (fun x=>Ending.returned (.string x)) (ByteArray.ext (by rw [show wordT ⟨8,true,(a:Int),(b:Int)⟩=[112]++[115]++[]++[] from by rfl] <;> simp)),hb1⟩
theorem zoo (p:Bool) (a b:Nat) (h1:a≤200) (w:World) :
  Calls Tryz.prog 139 #[.agg #[.int .u8 9,.bool p,.int .i64 (a:Int),.int .i64 (b:Int)]] w fun e w'=>e = .returned (.string ⟨(wordT ⟨9,p,a,b⟩).toArray⟩)∧Ext w w':=by
 have d1:=zae a
 have HA:=Za (fun w'=>zal a (by omega) w')
 cases p
 ·have hb0:Ext w (w.alloc (.cells #[.int .u8 9,.bool false,.int .i64 (a:Int),.int .i64 (b:Int)] 132)):=(Zd _).alloc _
  go_enter Tryz.func139,Tryz.ntmps139
  go_wp2_with (go_at_call 42;((with_reducible refine (HA.out _).mono ?_);rintro e w1 ⟨rfl,hq1⟩;have hb1:=hb0.trans hq1))
  exact bodyPost_ret (v := .string ((⟨#[111,110]⟩:ByteArray)++(⟨(decD a).toArray⟩:ByteArray))) (by simp [results,Tryz.f139,go_sem]) rfl ⟨congrArg (fun x=>Ending.returned (.string x)) (ByteArray.ext (by rw [show wordT ⟨9,false,(a:Int),(b:Int)⟩=[111,110]++decD a from by rfl] <;> simp)),hb1⟩
 ·have hb0:Ext w (w.alloc (.cells #[.int .u8 9,.bool true,.int .i64 (a:Int),.int .i64 (b:Int)] 132)):=(Zd _).alloc _
  go_enter Tryz.func139,Tryz.ntmps139
  go_wp2_with (go_at_call 42;((with_reducible refine (HA.out _).mono ?_);rintro e w1 ⟨rfl,hq1⟩;have hb1:=hb0.trans hq1))
  exact bodyPost_ret (v := .string ((⟨#[111,110]⟩:ByteArray)++(⟨(decD a).toArray⟩:ByteArray))) (by simp [results,Tryz.f139,go_sem]) rfl ⟨congrArg (fun x=>Ending.returned (.string x)) (ByteArray.ext (by rw [show wordT ⟨9,true,(a:Int),(b:Int)⟩=[111,110]++decD a from by rfl] <;> simp)),hb1⟩
theorem znH (p:Bool) (a b:Nat) (h1:a≤200) (w:World) :
  Calls Tryz.prog 139 #[.agg #[.int .u8 10,.bool p,.int .i64 (a:Int),.int .i64 (b:Int)]] w fun e w'=>e = .returned (.string ⟨(wordT ⟨10,p,a,b⟩).toArray⟩)∧Ext w w':=by
 have d1:=zae a
 have HA:=Za (fun w'=>zal a (by omega) w')
 cases p
 ·have hb0:Ext w (w.alloc (.cells #[.int .u8 10,.bool false,.int .i64 (a:Int),.int .i64 (b:Int)] 132)):=(Zd _).alloc _
  go_enter Tryz.func139,Tryz.ntmps139
  go_wp2_with (go_at_call 42;((with_reducible refine (HA.out _).mono ?_);rintro e w1 ⟨rfl,hq1⟩;have hb1:=hb0.trans hq1))
  exact bodyPost_ret (v := .string ((⟨#[107]⟩:ByteArray)++(⟨#[111]⟩:ByteArray)++(⟨(decD a).toArray⟩:ByteArray))) (by simp [results,Tryz.f139,go_sem]) rfl ⟨congrArg (fun x=>Ending.returned (.string x)) (ByteArray.ext (by rw [show wordT ⟨10,false,(a:Int),(b:Int)⟩=[107]++[111]++decD a++[] from by rfl] <;> simp)),hb1⟩
 ·have hb0:Ext w (w.alloc (.cells #[.int .u8 10,.bool true,.int .i64 (a:Int),.int .i64 (b:Int)] 132)):=(Zd _).alloc _
  go_enter Tryz.func139,Tryz.ntmps139
  go_wp2_with (go_at_call 42;((with_reducible refine (HA.out _).mono ?_);rintro e w1 ⟨rfl,hq1⟩;have hb1:=hb0.trans hq1))
  exact bodyPost_ret (v := .string ((⟨#[112]⟩:ByteArray)++(⟨#[111]⟩:ByteArray)++(⟨(decD a).toArray⟩:ByteArray))) (by simp [results,Tryz.f139,go_sem]) rfl ⟨congrArg (fun x=>Ending.returned (.string x)) (ByteArray.ext (by rw [show wordT ⟨10,true,(a:Int),(b:Int)⟩=[112]++[111]++decD a++[] from by rfl] <;> simp)),hb1⟩
theorem zmw (s:St) (h:okSt s=true) (w:World) :
  Calls Tryz.prog 139 #[.agg #[.int .u8 s.k,.bool s.p,.int .i64 s.a,.int .i64 s.b]] w fun e w'=>e = .returned (.string ⟨(wordT s).toArray⟩)∧Ext w w':=by
 obtain ⟨h0,h1,h2,h3⟩:=znG h
 obtain ⟨k,p,a,b⟩:=s
 have hk:=zec h
 simp only at h0 h1 h2 h3 hk ⊢
 clear h
 obtain ⟨a,rfl⟩:∃n:Nat,a=(n:Int):=⟨a.toNat,by omega⟩
 obtain ⟨b,rfl⟩:∃n:Nat,b=(n:Int):=⟨b.toNat,by omega⟩
 rcases zay hk with e | e | e | e | e | e | e | e | e | e <;> subst e
 ·exact zog p a b w
 ·exact zoh p a b w
 ·exact zoi p a b (by omega) w
 ·exact zoj p a b (by omega) w
 ·exact zok p a b (by omega) w
 ·exact zol p a b (by omega) (by omega) w
 ·exact zom p a b (by omega) (by omega) w
 ·exact zon p a b w
 ·exact zoo p a b (by omega) w
 ·exact znH p a b (by omega) w
end Go.Proofs.YtkneghkbgingdaaGreatDoor
/- The reference's Written: the text of a list of stitches. -/
namespace Go.Proofs.YtkneghkbgingdaaGreatDoor
set_option maxRecDepth 100000
open Go.RowKit
theorem zeZ (c:UInt8) (ws:List (List UInt8)) (x:List UInt8):joinB c (ws++[x])=if ws=[] then x else joinB c ws++[c]++x:=by
 induction ws with
 | nil=>rfl
 | cons y ws ih =>
  rw [if_neg (by simp)]
  cases ws with
  | nil=>simp [joinB]
  | cons z ws =>
   rw [if_neg (by simp)] at ih
   rw [ZU,ZU,joinB]
   rw [ZU] at ih
   rw [ih]
   simp [joinB]
theorem zgq (n c:Nat) (A:Option Addr) (l:List St) (w:World) (hl:Vec shSt w A n l) (hn:n≤200) (ho:allB l=true) :
  Calls Tryz.prog 108 #[.slice A n c] w fun e w'=>e = .returned (.string ⟨(textL l).toArray⟩)∧Ext w w':=by
 have HX:=Za hl
 have HO:=Za ho
 have HL:=Za hl.1
 clear hl ho
 go_enter Tryz.func108,Tryz.ntmps108
 go_wp2_with fail
 go_loopw [3,4] (fun u i wr=>∃(S:List UInt8) (k:Nat) (ws:List (List UInt8)),u = .string ⟨S.toArray⟩∧i = .int .i64 k∧k≤n∧S.length≤200*k∧Hid (S=joinB 32 ws)∧Hid (k=0↔ws=[])∧Hid (Ext w wr)∧Hid (ws++(grp (l.drop k)).map wordG=(grp l).map wordG)) (fun _ i _=>n-(intOf i).toNat)
 case atStart=>exact ⟨[],0,[],rfl,rfl,Zu _,Zu _,Za rfl,Za (by simp),Za (Zd _),Za (by simp)⟩
 case round =>
  obtain ⟨S,k,ws,rfl,rfl,hk,hsl,HS,HW,HE,HT⟩:=hrel
  by_cases hlt:k<n
  ·obtain ⟨b,off,rfl,hb1,hc⟩:=Sts.all (Vec.ext HX.out HE.out) (by omega)
   have HC:=Za hc
   obtain ⟨c1,c2,c3,c4⟩:=hc k hlt
   have hok:=zcv HO.out (k:=k) (by rw [HL.out];omega)
   obtain ⟨s,hs⟩:∃s,l.getD k st0=s:=⟨_,rfl⟩
   rw [hs] at c1 c2 c3 c4 hok
   have HS0:=Za hs
   clear hs hc
   obtain ⟨sk,sp,sa,sb⟩:=s
   simp only at c1 c2 c3 c4
   have q0:(0:Int)≤(k:Int):=by omega
   have q1:(k:Int)<(n:Int):=by omega
   obtain ⟨T,hT⟩:∃T,wordT ⟨sk,sp,sa,sb⟩=T:=⟨_,rfl⟩
   have HWC:=Za (show ∀w',Calls Tryz.prog 139 #[.agg #[.int .u8 sk,.bool sp,.int .i64 sa,.int .i64 sb]] w' fun e w''=>e = .returned (.string ⟨T.toArray⟩)∧Ext w' w'' from fun w'=>by
    have h9:=zmw ⟨sk,sp,sa,sb⟩ hok w'
    rw [hT] at h9
    exact h9)
   have tl:T.length≤100:=by
    have h9:=zcs (x:=(⟨sk,sp,sa,sb⟩,1)) hok
    rw [←hT]
    simpa [wordG] using h9
   have HTG1:=Za (show wordG (⟨sk,sp,sa,sb⟩,1)=T by rw [←hT];simp [wordG])
   have HTT:=Za hT
   clear hT
   by_cases hk0:k=0
   ·have hws:ws=[]:=HW.out.1 hk0
    subst hk0
    simp only [Nat.zero_mul,Nat.add_zero] at c1 c2 c3 c4
    obtain ⟨G,hG⟩:∃G,S++T=G:=⟨_,rfl⟩
    have hcat:(⟨S.toArray⟩++⟨T.toArray⟩:ByteArray)=⟨G.toArray⟩:=by rw [←hG];exact zag S T
    have HJ:=Za (show ∀x,joinB 32 (ws++[T++x])=G++x from fun x=>by rw [zeZ,if_pos hws,←hG,HS.out,hws];rfl)
    have hgl:G.length≤200*0+101:=by rw [←hG,Zh];omega
    clear hG hws
    go_wp2_with (go_at_call 139;(((with_reducible refine (HWC.out _).mono ?_);rintro e w2 ⟨rfl,hq2⟩;have HE2:=Za hq2;clear hq2)))
    have HEW:=Za (HE.out.trans HE2.out)
    go_loopw [4,5] (fun i q wi=>∃(j m:Nat),i = .int .i64 j∧q = .int .i64 m∧1≤m∧j+1=0+m∧0+m≤n∧Hid (m=1∨sk=1)∧Hid (∀t,t<m→l.getD (0+t) st0=⟨sk,sp,sa,sb⟩)∧wi.heap=w2.heap∧Hid (Ext w2 wi)) (fun _ q _=>n-0-(intOf q).toNat)
    case atStart=>exact ⟨0,1,rfl,rfl,Zf _,rfl,by omega,Za (.inl rfl),Za (fun t ht=>(by obtain rfl:t=0:=(by omega);exact HS0.out)),rfl,Za (Zd _)⟩
    case round =>
     obtain ⟨j,m,rfl,rfl,hm1,hjm,hm2,hm3,HA,hheap,HE3⟩:=hrel
     have HE4:=Za (HE2.out.trans HE3.out)
     have HE5:=Za (HEW.out.trans HE3.out)
     have hx:l.getD j st0=⟨sk,sp,sa,sb⟩:=by
      have h9:=HA.out (m-1) (by omega)
      rw [show 0+(m-1)=j by omega] at h9
      exact h9
     obtain ⟨d1,d2,d3,d4⟩:=HC.out j (by omega)
     rw [hx] at d1 d2 d3 d4
     clear hx
     simp only at d1 d2 d3 d4
     replace d1:=(Zm (p:=⟨b,_,none⟩) HE4.out hb1).trans d1
     replace d2:=(Zm (p:=⟨b,_,none⟩) HE4.out hb1).trans d2
     replace d3:=(Zm (p:=⟨b,_,none⟩) HE4.out hb1).trans d3
     replace d4:=(Zm (p:=⟨b,_,none⟩) HE4.out hb1).trans d4
     have p0:(0:Int)≤(j:Int):=by omega
     have p1:(j:Int)<(n:Int):=by omega
     obtain ⟨j2,hj2⟩:∃j2,j2=j+1:=⟨_,rfl⟩
     have i1:IntKind.i64.wrap ((j:Int)+1)=(j2:Int):=by rw [Zp ((j:Int)+1) ⟨by omega,by omega⟩];omega
     rw [←hj2] at hjm
     have HJ2:=Za hj2
     have HJM:=Za hjm
     clear hj2 hjm
     have i2:=Zp ((m:Int)+1) ⟨by omega,by omega⟩
     by_cases hk1:sk=1
     ·by_cases hkm:j2<n
      ·obtain ⟨e1,e2,e3,e4⟩:=HC.out j2 hkm
       replace e1:=(Zm (p:=⟨b,_,none⟩) HE4.out hb1).trans e1
       replace e2:=(Zm (p:=⟨b,_,none⟩) HE4.out hb1).trans e2
       replace e3:=(Zm (p:=⟨b,_,none⟩) HE4.out hb1).trans e3
       replace e4:=(Zm (p:=⟨b,_,none⟩) HE4.out hb1).trans e4
       have q2:(0:Int)≤(j2:Int):=by omega
       have q3:(j2:Int)<(n:Int):=by omega
       by_cases hxy:l.getD j2 st0=⟨sk,sp,sa,sb⟩
       ·rw [hxy] at e1 e2 e3 e4
        simp only at e1 e2 e3 e4
        have HA2:=Za (show ∀t,t<m+1→l.getD (0+t) st0=⟨sk,sp,sa,sb⟩ from fun t ht=>by
         by_cases e:t=m
         ·subst e;rw [←HJM.out];exact hxy
         ·exact HA.out t (by omega))
        clear hxy
        subst hk1
        go_wp2_with fail
        go_quiet (fail)
        go_wp2
        go_roundw
        case rel=>exact ⟨j2,m+1,by go_num,by go_num,by omega,by have:=HJM.out;omega,by have:=HJM.out;omega,Za (by first | exact .inr rfl | exact .inr trivial),HA2,hheap,Za (Ext.drewN HE3.out _)⟩
        case measure=>have hjm:=HJM.out;simp [intOf] <;> omega
       ·generalize hy:l.getD j2 st0=y at *
        obtain ⟨y1,y2,y3,y4⟩:=y
        simp only at e1 e2 e3 e4
        have hne:=zcn (fun e=>hxy e)
        have HNE:=Za hxy
        clear hxy
        subst hk1
        have HQ:=Za (show grp (l.drop 0)=(⟨1,sp,sa,sb⟩,m)::grp (l.drop (0+m)) by
         have h9:=zbv m (l.drop 0) ⟨1,sp,sa,sb⟩ hm1 (by rw [ZD,HL.out];omega) (fun t ht=>by rw [←HA.out t ht];simp [List.getD_eq_getElem?_getD]) (.inr rfl) (.inr (.inr (by have h8:(l.drop 0).getD m st0=⟨y1,y2,y3,y4⟩:=(by rw [←hy,HJM.out];simp [List.getD_eq_getElem?_getD]);rw [h8];exact HNE.out)))
         rw [h9,List.drop_drop])
        by_cases hm:m=1
        ·subst hm
         have HF:=Za (show (ws++[T])++(grp (l.drop (0+1))).map wordG=(grp l).map wordG by
          rw [←HT.out,HQ.out,←HTG1.out]
          simp)
         have HJK:=Za (show j2=0+1 by have:=HJM.out;omega)
         go_wp2_with fail
         go_quiet (fail)
         go_wp2_with fail
         go_roundw
         case rel=>exact ⟨G,0+1,ws++[T],rfl,by have:=HJK.out;subst this;go_num,by omega,by omega,Za (by have:=HJ.out [];rw [ZH,ZH] at this;exact this.symm),Za (by simp),Za (Ext.drewN HE5.out _),HF⟩
         case measure=>have hjm:=HJM.out;simp [intOf] <;> omega
        ·have hm9:(1:Int)<(m:Int):=by omega
         obtain ⟨D,hD⟩:∃D,decD m=D:=⟨_,rfl⟩
         obtain ⟨G2,hG2⟩:∃G2,G++D=G2:=⟨_,rfl⟩
         have HIC:=Za (show ∀w',Calls Tryz.prog 42 #[.int .i64 (m:Int)] w' fun e w''=>e = .returned (.string ⟨D.toArray⟩)∧Ext w' w'' from fun w'=>by
          have h9:=zal m (by omega) w'
          rw [hD] at h9
          exact h9)
         have hcat9:(⟨G.toArray⟩++⟨D.toArray⟩:ByteArray)=⟨G2.toArray⟩:=by rw [←hG2];exact zag G D
         have hTG:wordG (⟨1,sp,sa,sb⟩,m)=T++D:=by rw [wordG,if_pos (by simp only;omega),HTT.out,hD]
         have HTG:=Za hTG
         have dl:D.length≤20:=by rw [←hD];exact zae m
         have g2l:G2.length≤200*0+121:=by rw [←hG2,Zh];omega
         have HG2:=Za hG2
         clear hD hG2 hTG
         have HF:=Za (show (ws++[T++D])++(grp (l.drop (0+m))).map wordG=(grp l).map wordG by
          rw [←HT.out,HQ.out,ZY,HTG.out]
          simp)
         go_wp2_with fail
         go_quiet (fail)
         go_wp2_with (go_at_call 42;(((with_reducible refine (HIC.out _).mono ?_);rintro e w7 ⟨rfl,hq7⟩;have HE7:=Za (HE5.out.trans (Zb (by repeat (first | exact Zd _ | refine ZN ?_ | refine Ext.drewN ?_ _ | refine Zl ?_ _)) hq7));clear hq7)))
         go_roundw
         case rel=>exact ⟨G2,0+m,ws++[T++D],rfl,by rw [←HJM.out],by omega,by omega,Za (by rw [←HG2.out];exact (HJ.out D).symm),Za (by simp <;> omega),HE7,HF⟩
         case measure=>have hjm:=HJM.out;simp [intOf] <;> omega
      ·have hkm2:¬((j2:Int)<(n:Int)):=by omega
       subst hk1
       have HQ:=Za (show grp (l.drop 0)=(⟨1,sp,sa,sb⟩,m)::grp (l.drop (0+m)) by
        have h9:=zbv m (l.drop 0) ⟨1,sp,sa,sb⟩ hm1 (by rw [ZD,HL.out];omega) (fun t ht=>by rw [←HA.out t ht];simp [List.getD_eq_getElem?_getD]) (.inr rfl) (.inr (.inl (by have:=HJM.out;rw [ZD,HL.out];omega)))
        rw [h9,List.drop_drop])
       by_cases hm:m=1
       ·subst hm
        have HF:=Za (show (ws++[T])++(grp (l.drop (0+1))).map wordG=(grp l).map wordG by
         rw [←HT.out,HQ.out,←HTG1.out]
         simp)
        have HJK:=Za (show j2=0+1 by have:=HJM.out;omega)
        go_wp2_with fail
        go_quiet (fail)
        go_wp2_with fail
        go_roundw
        case rel=>exact ⟨G,0+1,ws++[T],rfl,by have:=HJK.out;subst this;go_num,by omega,by omega,Za (by have:=HJ.out [];rw [ZH,ZH] at this;exact this.symm),Za (by simp),Za (Ext.drewN HE5.out _),HF⟩
        case measure=>have hjm:=HJM.out;simp [intOf] <;> omega
       ·have hm9:(1:Int)<(m:Int):=by omega
        obtain ⟨D,hD⟩:∃D,decD m=D:=⟨_,rfl⟩
        obtain ⟨G2,hG2⟩:∃G2,G++D=G2:=⟨_,rfl⟩
        have HIC:=Za (show ∀w',Calls Tryz.prog 42 #[.int .i64 (m:Int)] w' fun e w''=>e = .returned (.string ⟨D.toArray⟩)∧Ext w' w'' from fun w'=>by
         have h9:=zal m (by omega) w'
         rw [hD] at h9
         exact h9)
        have hcat9:(⟨G.toArray⟩++⟨D.toArray⟩:ByteArray)=⟨G2.toArray⟩:=by rw [←hG2];exact zag G D
        have hTG:wordG (⟨1,sp,sa,sb⟩,m)=T++D:=by rw [wordG,if_pos (by simp only;omega),HTT.out,hD]
        have HTG:=Za hTG
        have dl:D.length≤20:=by rw [←hD];exact zae m
        have g2l:G2.length≤200*0+121:=by rw [←hG2,Zh];omega
        have HG2:=Za hG2
        clear hD hG2 hTG
        have HF:=Za (show (ws++[T++D])++(grp (l.drop (0+m))).map wordG=(grp l).map wordG by
         rw [←HT.out,HQ.out,ZY,HTG.out]
         simp)
        go_wp2_with fail
        go_quiet (fail)
        go_wp2_with (go_at_call 42;(((with_reducible refine (HIC.out _).mono ?_);rintro e w7 ⟨rfl,hq7⟩;have HE7:=Za (HE5.out.trans (Zb (by repeat (first | exact Zd _ | refine ZN ?_ | refine Ext.drewN ?_ _ | refine Zl ?_ _)) hq7));clear hq7)))
        go_roundw
        case rel=>exact ⟨G2,0+m,ws++[T++D],rfl,by rw [←HJM.out],by omega,by omega,Za (by rw [←HG2.out];exact (HJ.out D).symm),Za (by simp <;> omega),HE7,HF⟩
        case measure=>have hjm:=HJM.out;simp [intOf] <;> omega
     ·have hk2:(sk==1)=false:=by simpa using hk1
      have HK:=Za hk1
      obtain rfl:m=1:=by rcases hm3.out with h | h <;> first | exact h | exact absurd h hk1
      clear hk1
      have HQ:=Za (show grp (l.drop 0)=(⟨sk,sp,sa,sb⟩,1)::grp (l.drop (0+1)) by
       have h9:=zbv 1 (l.drop 0) ⟨sk,sp,sa,sb⟩ hm1 (by rw [ZD,HL.out];omega) (fun t ht=>by rw [←HA.out t ht];simp [List.getD_eq_getElem?_getD]) (.inl rfl) (.inl HK.out)
       rw [h9,List.drop_drop])
      have HF:=Za (show (ws++[T])++(grp (l.drop (0+1))).map wordG=(grp l).map wordG by
       rw [←HT.out,HQ.out,←HTG1.out]
       simp)
      have HJK:=Za (show j2=0+1 by have:=HJM.out;omega)
      go_wp2_with fail
      go_quiet (fail)
      go_wp2_with fail
      go_roundw
      case rel=>exact ⟨G,0+1,ws++[T],rfl,by have:=HJK.out;subst this;go_num,by omega,by omega,Za (by have:=HJ.out [];rw [ZH,ZH] at this;exact this.symm),Za (by simp),Za (Ext.drewN HE5.out _),HF⟩
      case measure=>have hjm:=HJM.out;simp [intOf] <;> omega
   ·have hws:¬ws=[]:=fun h=>hk0 (HW.out.2 h)
    obtain ⟨S1,hS1⟩:∃S1,S++[32]=S1:=⟨_,rfl⟩
    obtain ⟨G,hG⟩:∃G,S1++T=G:=⟨_,rfl⟩
    have hcat1:(⟨S.toArray⟩++⟨#[32]⟩:ByteArray)=⟨S1.toArray⟩:=by rw [←hS1];exact zag S [32]
    have hcat:(⟨S1.toArray⟩++⟨T.toArray⟩:ByteArray)=⟨G.toArray⟩:=by rw [←hG];exact zag S1 T
    have hs1l:S1.length≤200*k+1:=by rw [←hS1,Zh];simp;omega
    have HJ:=Za (show ∀x,joinB 32 (ws++[T++x])=G++x from fun x=>by rw [zeZ,if_neg hws,←hG,←hS1,HS.out];simp)
    have hgl:G.length≤200*k+101:=by rw [←hG,Zh];omega
    have q9:(0:Int)<(k:Int):=by omega
    clear hG hws hS1
    go_wp2_with (go_at_call 139;(((with_reducible refine (HWC.out _).mono ?_);rintro e w2 ⟨rfl,hq2⟩;have HE2:=Za hq2;clear hq2)))
    have HEW:=Za (HE.out.trans HE2.out)
    go_loopw [4,5] (fun i q wi=>∃(j m:Nat),i = .int .i64 j∧q = .int .i64 m∧1≤m∧j+1=k+m∧k+m≤n∧Hid (m=1∨sk=1)∧Hid (∀t,t<m→l.getD (k+t) st0=⟨sk,sp,sa,sb⟩)∧wi.heap=w2.heap∧Hid (Ext w2 wi)) (fun _ q _=>n-k-(intOf q).toNat)
    case atStart=>exact ⟨k,1,rfl,rfl,Zf _,rfl,by omega,Za (.inl rfl),Za (fun t ht=>(by obtain rfl:t=0:=(by omega);exact HS0.out)),rfl,Za (Zd _)⟩
    case round =>
     obtain ⟨j,m,rfl,rfl,hm1,hjm,hm2,hm3,HA,hheap,HE3⟩:=hrel
     have HE4:=Za (HE2.out.trans HE3.out)
     have HE5:=Za (HEW.out.trans HE3.out)
     have hx:l.getD j st0=⟨sk,sp,sa,sb⟩:=by
      have h9:=HA.out (m-1) (by omega)
      rw [show k+(m-1)=j by omega] at h9
      exact h9
     obtain ⟨d1,d2,d3,d4⟩:=HC.out j (by omega)
     rw [hx] at d1 d2 d3 d4
     clear hx
     simp only at d1 d2 d3 d4
     replace d1:=(Zm (p:=⟨b,_,none⟩) HE4.out hb1).trans d1
     replace d2:=(Zm (p:=⟨b,_,none⟩) HE4.out hb1).trans d2
     replace d3:=(Zm (p:=⟨b,_,none⟩) HE4.out hb1).trans d3
     replace d4:=(Zm (p:=⟨b,_,none⟩) HE4.out hb1).trans d4
     have p0:(0:Int)≤(j:Int):=by omega
     have p1:(j:Int)<(n:Int):=by omega
     obtain ⟨j2,hj2⟩:∃j2,j2=j+1:=⟨_,rfl⟩
     have i1:IntKind.i64.wrap ((j:Int)+1)=(j2:Int):=by rw [Zp ((j:Int)+1) ⟨by omega,by omega⟩];omega
     rw [←hj2] at hjm
     have HJ2:=Za hj2
     have HJM:=Za hjm
     clear hj2 hjm
     have i2:=Zp ((m:Int)+1) ⟨by omega,by omega⟩
     by_cases hk1:sk=1
     ·by_cases hkm:j2<n
      ·obtain ⟨e1,e2,e3,e4⟩:=HC.out j2 hkm
       replace e1:=(Zm (p:=⟨b,_,none⟩) HE4.out hb1).trans e1
       replace e2:=(Zm (p:=⟨b,_,none⟩) HE4.out hb1).trans e2
       replace e3:=(Zm (p:=⟨b,_,none⟩) HE4.out hb1).trans e3
       replace e4:=(Zm (p:=⟨b,_,none⟩) HE4.out hb1).trans e4
       have q2:(0:Int)≤(j2:Int):=by omega
       have q3:(j2:Int)<(n:Int):=by omega
       by_cases hxy:l.getD j2 st0=⟨sk,sp,sa,sb⟩
       ·rw [hxy] at e1 e2 e3 e4
        simp only at e1 e2 e3 e4
        have HA2:=Za (show ∀t,t<m+1→l.getD (k+t) st0=⟨sk,sp,sa,sb⟩ from fun t ht=>by
         by_cases e:t=m
         ·subst e;rw [←HJM.out];exact hxy
         ·exact HA.out t (by omega))
        clear hxy
        subst hk1
        go_wp2_with fail
        go_quiet (fail)
        go_wp2
        go_roundw
        case rel=>exact ⟨j2,m+1,by go_num,by go_num,by omega,by have:=HJM.out;omega,by have:=HJM.out;omega,Za (by first | exact .inr rfl | exact .inr trivial),HA2,hheap,Za (Ext.drewN HE3.out _)⟩
        case measure=>have hjm:=HJM.out;simp [intOf] <;> omega
       ·generalize hy:l.getD j2 st0=y at *
        obtain ⟨y1,y2,y3,y4⟩:=y
        simp only at e1 e2 e3 e4
        have hne:=zcn (fun e=>hxy e)
        have HNE:=Za hxy
        clear hxy
        subst hk1
        have HQ:=Za (show grp (l.drop k)=(⟨1,sp,sa,sb⟩,m)::grp (l.drop (k+m)) by
         have h9:=zbv m (l.drop k) ⟨1,sp,sa,sb⟩ hm1 (by rw [ZD,HL.out];omega) (fun t ht=>by rw [←HA.out t ht];simp [List.getD_eq_getElem?_getD]) (.inr rfl) (.inr (.inr (by have h8:(l.drop k).getD m st0=⟨y1,y2,y3,y4⟩:=(by rw [←hy,HJM.out];simp [List.getD_eq_getElem?_getD]);rw [h8];exact HNE.out)))
         rw [h9,List.drop_drop])
        by_cases hm:m=1
        ·subst hm
         have HF:=Za (show (ws++[T])++(grp (l.drop (k+1))).map wordG=(grp l).map wordG by
          rw [←HT.out,HQ.out,←HTG1.out]
          simp)
         have HJK:=Za (show j2=k+1 by have:=HJM.out;omega)
         go_wp2_with fail
         go_quiet (fail)
         go_wp2_with fail
         go_roundw
         case rel=>exact ⟨G,k+1,ws++[T],rfl,by have:=HJK.out;subst this;go_num,by omega,by omega,Za (by have:=HJ.out [];rw [ZH,ZH] at this;exact this.symm),Za (by simp),Za (Ext.drewN HE5.out _),HF⟩
         case measure=>have hjm:=HJM.out;simp [intOf] <;> omega
        ·have hm9:(1:Int)<(m:Int):=by omega
         obtain ⟨D,hD⟩:∃D,decD m=D:=⟨_,rfl⟩
         obtain ⟨G2,hG2⟩:∃G2,G++D=G2:=⟨_,rfl⟩
         have HIC:=Za (show ∀w',Calls Tryz.prog 42 #[.int .i64 (m:Int)] w' fun e w''=>e = .returned (.string ⟨D.toArray⟩)∧Ext w' w'' from fun w'=>by
          have h9:=zal m (by omega) w'
          rw [hD] at h9
          exact h9)
         have hcat9:(⟨G.toArray⟩++⟨D.toArray⟩:ByteArray)=⟨G2.toArray⟩:=by rw [←hG2];exact zag G D
         have hTG:wordG (⟨1,sp,sa,sb⟩,m)=T++D:=by rw [wordG,if_pos (by simp only;omega),HTT.out,hD]
         have HTG:=Za hTG
         have dl:D.length≤20:=by rw [←hD];exact zae m
         have g2l:G2.length≤200*k+121:=by rw [←hG2,Zh];omega
         have HG2:=Za hG2
         clear hD hG2 hTG
         have HF:=Za (show (ws++[T++D])++(grp (l.drop (k+m))).map wordG=(grp l).map wordG by
          rw [←HT.out,HQ.out,ZY,HTG.out]
          simp)
         go_wp2_with fail
         go_quiet (fail)
         go_wp2_with (go_at_call 42;(((with_reducible refine (HIC.out _).mono ?_);rintro e w7 ⟨rfl,hq7⟩;have HE7:=Za (HE5.out.trans (Zb (by repeat (first | exact Zd _ | refine ZN ?_ | refine Ext.drewN ?_ _ | refine Zl ?_ _)) hq7));clear hq7)))
         go_roundw
         case rel=>exact ⟨G2,k+m,ws++[T++D],rfl,by rw [←HJM.out],by omega,by omega,Za (by rw [←HG2.out];exact (HJ.out D).symm),Za (by simp <;> omega),HE7,HF⟩
         case measure=>have hjm:=HJM.out;simp [intOf] <;> omega
      ·have hkm2:¬((j2:Int)<(n:Int)):=by omega
       subst hk1
       have HQ:=Za (show grp (l.drop k)=(⟨1,sp,sa,sb⟩,m)::grp (l.drop (k+m)) by
        have h9:=zbv m (l.drop k) ⟨1,sp,sa,sb⟩ hm1 (by rw [ZD,HL.out];omega) (fun t ht=>by rw [←HA.out t ht];simp [List.getD_eq_getElem?_getD]) (.inr rfl) (.inr (.inl (by have:=HJM.out;rw [ZD,HL.out];omega)))
        rw [h9,List.drop_drop])
       by_cases hm:m=1
       ·subst hm
        have HF:=Za (show (ws++[T])++(grp (l.drop (k+1))).map wordG=(grp l).map wordG by
         rw [←HT.out,HQ.out,←HTG1.out]
         simp)
        have HJK:=Za (show j2=k+1 by have:=HJM.out;omega)
        go_wp2_with fail
        go_quiet (fail)
        go_wp2_with fail
        go_roundw
        case rel=>exact ⟨G,k+1,ws++[T],rfl,by have:=HJK.out;subst this;go_num,by omega,by omega,Za (by have:=HJ.out [];rw [ZH,ZH] at this;exact this.symm),Za (by simp),Za (Ext.drewN HE5.out _),HF⟩
        case measure=>have hjm:=HJM.out;simp [intOf] <;> omega
       ·have hm9:(1:Int)<(m:Int):=by omega
        obtain ⟨D,hD⟩:∃D,decD m=D:=⟨_,rfl⟩
        obtain ⟨G2,hG2⟩:∃G2,G++D=G2:=⟨_,rfl⟩
        have HIC:=Za (show ∀w',Calls Tryz.prog 42 #[.int .i64 (m:Int)] w' fun e w''=>e = .returned (.string ⟨D.toArray⟩)∧Ext w' w'' from fun w'=>by
         have h9:=zal m (by omega) w'
         rw [hD] at h9
         exact h9)
        have hcat9:(⟨G.toArray⟩++⟨D.toArray⟩:ByteArray)=⟨G2.toArray⟩:=by rw [←hG2];exact zag G D
        have hTG:wordG (⟨1,sp,sa,sb⟩,m)=T++D:=by rw [wordG,if_pos (by simp only;omega),HTT.out,hD]
        have HTG:=Za hTG
        have dl:D.length≤20:=by rw [←hD];exact zae m
        have g2l:G2.length≤200*k+121:=by rw [←hG2,Zh];omega
        have HG2:=Za hG2
        clear hD hG2 hTG
        have HF:=Za (show (ws++[T++D])++(grp (l.drop (k+m))).map wordG=(grp l).map wordG by
         rw [←HT.out,HQ.out,ZY,HTG.out]
         simp)
        go_wp2_with fail
        go_quiet (fail)
        go_wp2_with (go_at_call 42;(((with_reducible refine (HIC.out _).mono ?_);rintro e w7 ⟨rfl,hq7⟩;have HE7:=Za (HE5.out.trans (Zb (by repeat (first | exact Zd _ | refine ZN ?_ | refine Ext.drewN ?_ _ | refine Zl ?_ _)) hq7));clear hq7)))
        go_roundw
        case rel=>exact ⟨G2,k+m,ws++[T++D],rfl,by rw [←HJM.out],by omega,by omega,Za (by rw [←HG2.out];exact (HJ.out D).symm),Za (by simp <;> omega),HE7,HF⟩
        case measure=>have hjm:=HJM.out;simp [intOf] <;> omega
     ·have hk2:(sk==1)=false:=by simpa using hk1
      have HK:=Za hk1
      obtain rfl:m=1:=by rcases hm3.out with h | h <;> first | exact h | exact absurd h hk1
      clear hk1
      have HQ:=Za (show grp (l.drop k)=(⟨sk,sp,sa,sb⟩,1)::grp (l.drop (k+1)) by
       have h9:=zbv 1 (l.drop k) ⟨sk,sp,sa,sb⟩ hm1 (by rw [ZD,HL.out];omega) (fun t ht=>by rw [←HA.out t ht];simp [List.getD_eq_getElem?_getD]) (.inl rfl) (.inl HK.out)
       rw [h9,List.drop_drop])
      have HF:=Za (show (ws++[T])++(grp (l.drop (k+1))).map wordG=(grp l).map wordG by
       rw [←HT.out,HQ.out,←HTG1.out]
       simp)
      have HJK:=Za (show j2=k+1 by have:=HJM.out;omega)
      go_wp2_with fail
      go_quiet (fail)
      go_wp2_with fail
      go_roundw
      case rel=>exact ⟨G,k+1,ws++[T],rfl,by have:=HJK.out;subst this;go_num,by omega,by omega,Za (by have:=HJ.out [];rw [ZH,ZH] at this;exact this.symm),Za (by simp),Za (Ext.drewN HE5.out _),HF⟩
      case measure=>have hjm:=HJM.out;simp [intOf] <;> omega
  ·obtain rfl:k=n:=by omega
   have HV0:=Za (show ws=(grp l).map wordG by
    have h9:=HT.out
    rw [Z5 (Nat.le_of_eq HL.out)] at h9
    simpa [grp] using h9)
   have HS9:=Za (show S=textL l by rw [HS.out,HV0.out];rfl)
   go_wp2_with fail
   go_ret
   exact ⟨by rw [HS9.out];rfl,HE.out⟩
end Go.Proofs.YtkneghkbgingdaaGreatDoor
/- The reference's Parse. -/
namespace Go.Proofs.YtkneghkbgingdaaGreatDoor
set_option maxRecDepth 100000
open Go.RowKit Go.ChangeShapes Go.WideShapes Go.Joins
theorem zfd {k:Int} {p:Bool} {P:List (List UInt8)} {L:List St} (h:refParts k p P=some L):L.length≤300:=by
 unfold refParts at h
 repeat' split at h
 ·obtain ⟨b, -,h2⟩:=ZM.1 h
  obtain ⟨a, -,h3⟩:=ZM.1 h2
  cases h3
  simp
 ·cases h
 ·obtain ⟨a, -,h3⟩:=ZM.1 h
  cases h3
  simp
 ·cases h
theorem zf6 {l:List UInt8} {L:List St} (h:refWord l=some L):L.length≤300:=by
 unfold refWord at h
 repeat' split at h
 all_goals first
  | (cases h;done)
  | (cases h;simp;done)
  | exact zfd h
  | (obtain ⟨a, -,h3⟩:=ZM.1 h;cases h3;simp;done)
  | (cases h;simp;omega)
theorem zlh {ws:List (List UInt8)} {k:Nat} (hk:k<ws.length) (acc:List St):rparseGo acc (ws.drop k)=match refWord (ws.getD k []) with
  | none=>none
  | some l=>if 200<(acc++l).length then none else rparseGo (acc++l) (ws.drop (k+1)):=by
 rw [Z4 hk,rparseGo,Zc,Zg hk]
 rfl
theorem zhM {s:List UInt8} {acc:List St} (hs:s.length≤3000) (h0:s≠[]) (h:rparseGo [] (spl 32 s)=some acc):parseL s=if allE acc=0∧textL acc=s then some acc else none:=by
 rw [←zfe,rparseL,if_neg (by omega),rparseW,if_neg h0,h]
 rfl
theorem zhL {s:List UInt8} (hs:s.length≤3000) (h0:s≠[]) (h:rparseGo [] (spl 32 s)=none):parseL s=none:=by
 rw [←zfe,rparseL,if_neg (by omega),rparseW,if_neg h0,h]
 rfl
def ParseX (s:List UInt8) (w:World) (e:Ending) (w':World):Prop:=∃(A:Option Addr) (n c:Nat),e = .returned (.tuple #[.slice A n c,.int .i64 (parseE s)])∧Ext w w'∧Vec shSt w' A n (parseV s)
theorem ParseR.x {s:List UInt8} {w:World} {e:Ending} {w':World} (h:ParseR s w e w'):ParseX s w e w':=by
 obtain ⟨v,rfl,h1,h2⟩:=h
 obtain ⟨A,c,rfl,h3⟩:=zb3 h1
 exact ⟨A,_,c,rfl,h2,h3⟩
theorem zf8 (l:List UInt8) (hl:3000<l.length) (h:(l.length:Int)≤1000000000) (w:World):Calls Tryz.prog 88 #[.string ⟨l.toArray⟩] w (ParseR l w):=by
 have h1:=Za (show parseL l=none by rw [parseL,if_pos hl])
 have h2:(3000:Int)<(l.length:Int):=by omega
 clear hl
 go_enter Tryz.func88,Tryz.ntmps88
 go_wp2_with fail
 go_ret2
 exact zaz h1.out zx
theorem zhO (w:World):Calls Tryz.prog 88 #[.string ⟨([]:List UInt8).toArray⟩] w (ParseR [] w):=by
 have HF:=Za (show parseL []=some [] by decide +kernel)
 go_enter Tryz.func88,Tryz.ntmps88
 go_wp2_with fail
 go_ret2
 exact zbR HF.out (OwnV.nil _ _ _ _) zx
theorem zf9 (l:List UInt8) (h0:l≠[]) (hl:l.length≤3000) (w:World):Calls Tryz.prog 88 #[.string ⟨l.toArray⟩] w (ParseR l w):=by
 have HS:=Za (show Calls Tryz.prog 31 #[.string ⟨l.toArray⟩,.int .u8 32] w fun e w''=>∃v,e = .returned v∧OwnV shStr w'' w.heap.size 9 v (spl 32 l).length (spl 32 l)∧Ext w w'' from zbt 32 l (by omega) w)
 have hwl:=zam 32 l
 have HPE:=Za (fun (acc:List St) (h:rparseGo [] (spl 32 l)=some acc)=>zhM hl h0 h)
 have HPB:=Za (fun (h:rparseGo [] (spl 32 l)=none)=>zhL hl h0 h)
 generalize spl 32 l=ws at *
 obtain ⟨hw1,hw2⟩:=hwl
 have HW:=Za hw2
 obtain ⟨n,hn⟩:∃n,ws.length=n:=⟨_,rfl⟩
 rw [hn] at HS
 have hn2:n≤3001:=by omega
 have hlen:¬(3000:Int)<(l.length:Int):=by omega
 have hE:(l==[])=false:=by simpa using h0
 clear hw2 h0
 go_enter Tryz.func88,Tryz.ntmps88
 go_wp2_with (go_at_call 31;((with_reducible refine HS.out.mono ?_);rintro e w1 ⟨v1,rfl,hv1,hq1⟩;obtain ⟨A1,c1,rfl,hvv, -⟩:=zac hv1;have HQ1:=Za hq1;have HV1:=Za hv1;clear hq1 hv1 hvv))
 go_loopw [5,6] (fun u i wr=>∃(V:Value) (k:Nat) (acc:List St),V=u∧i = .int .i64 k∧k≤n∧acc.length≤200∧Hid (OwnV shSt wr w1.heap.size 132 V acc.length acc)∧Hid (Ext w1 wr)∧Hid (rparseGo [] ws=rparseGo acc (ws.drop k))) (fun _ i _=>n-(intOf i).toNat)
 case atStart=>exact ⟨_,0,[],rfl,rfl,Zu _,by simp,Za (OwnV.nil _ _ _ _),Za (Zd _),Za rfl⟩
 case round =>
  obtain ⟨V,k,acc,rfl,rfl,hk,hal,HV,HE1,HP⟩:=hrel
  have HE:=Za (HQ1.out.trans HE1.out)
  obtain ⟨A9,c9,rfl,hv9, -⟩:=zac HV.out
  have HV9:=Za hv9
  clear hv9
  by_cases hlt:k<n
  ·obtain ⟨b3,off3,rfl, -,hlt3,hcs⟩:=zai HV1.out (by omega)
   have hcell:=(Zm (p:=⟨b3,off3+k,none⟩) HE1.out hlt3).trans (hcs k hlt)
   have hz:=Zo wr _ hcell
   clear hcs
   have hd:=HP.out.trans (zlh (ws:=ws) (k:=k) (by omega) acc)
   have hxl:=HW.out (ws.getD k []) (by rw [Zc,Zg (by omega)];exact List.getElem_mem _)
   generalize ws.getD k []=x at *
   have q5:(k:Int)<(n:Int):=by omega
   have q4:(0:Int)≤(k:Int):=by omega
   cases hrw:refWord x with
   | none =>
    have HR:=Za (show ∀w',Calls Tryz.prog 123 #[.string ⟨x.toArray⟩] w' (WordR none w') from fun w'=>by rw [←hrw];exact zcP x (by omega) w')
    rw [hrw] at hd
    have HF:=Za (HPB.out hd)
    clear hd hrw hxl HP HW
    go_wp2_with (go_at_call 123;((with_reducible refine (HR.out _).mono ?_);rintro e w2 ⟨A2,n2,c2,rfl,hq2, -⟩;have HQ2:=Za (HE.out.trans hq2);clear hq2))
    go_ret2
    exact zaz HF.out HQ2.out
   | some L =>
    have hL3:=zf6 hrw
    have HR:=Za (show ∀w',Calls Tryz.prog 123 #[.string ⟨x.toArray⟩] w' (WordR (some L) w') from fun w'=>by rw [←hrw];exact zcP x (by omega) w')
    rw [hrw] at hd
    simp only at hd
    have HD:=Za hd
    clear hd hrw hxl HP HW
    obtain ⟨m,hm⟩:∃m,L.length=m:=⟨_,rfl⟩
    by_cases h2:acc.length+m≤200
    ·have q6:¬((200:Int)<(acc.length:Int)+(m:Int)):=by omega
     have HF:=Za (HD.out.trans (if_neg (by rw [Zh];omega)))
     clear HD
     go_wp2_with (first
      | (go_at_call 123;((with_reducible refine (HR.out _).mono ?_);rintro e w2 ⟨A2,n2,c2,rfl,hq2,hv2⟩;obtain rfl:n2=m:=(by have:=(hv2 L rfl).1;omega);have HQ2:=Za (HE1.out.trans hq2);have HQ3:=Za hq2;have HV2:=Za (hv2 L rfl);clear hq2 hv2))
      | (at_builtin;(refine zab (S:=shSt) (w:=w1) (xs:=L) 73 132 (.agg #[.int .u8 0,.bool false,.int .i64 0,.int .i64 0]) 24 (by rfl) (by rfl) Tryz.underlying73 za7 (by rfl) (by omega) (by rfl) (by rfl) (OwnV.ext HV.out HQ3.out) HQ2.out HV2.out (by omega) ?_;intro v' w6 hown6 hext6 hgr6;obtain ⟨A6,c6,rfl, -, -⟩:=zac hown6)))
     have HN:=Za (show OwnV shSt w6 w1.heap.size 132 (.slice A6 (acc.length+n2) c6) (acc++L).length (acc++L) by
      rw [Zh,hm]
      exact hown6)
     clear hown6 hgr6
     go_roundw
     case rel=>exact ⟨_,k+1,acc++L,rfl,by go_num,by omega,by rw [Zh];omega,HN,hext6,HF⟩
     case measure=>simp [intOf] <;> omega
    ·have q6:(200:Int)<(acc.length:Int)+(m:Int):=by omega
     have HF:=Za (HPB.out (HD.out.trans (if_pos (by rw [Zh];omega))))
     clear HD
     go_wp2_with (first
      | (go_at_call 123;((with_reducible refine (HR.out _).mono ?_);rintro e w2 ⟨A2,n2,c2,rfl,hq2,hv2⟩;obtain rfl:n2=m:=(by have:=(hv2 L rfl).1;omega);have HQ2:=Za (HE1.out.trans hq2);have HQ3:=Za hq2;have HV2:=Za (hv2 L rfl);clear hq2 hv2))
      | (at_builtin;(refine zab (S:=shSt) (w:=w1) (xs:=L) 73 132 (.agg #[.int .u8 0,.bool false,.int .i64 0,.int .i64 0]) 24 (by rfl) (by rfl) Tryz.underlying73 za7 (by rfl) (by omega) (by rfl) (by rfl) (OwnV.ext HV.out HQ3.out) HQ2.out HV2.out (by omega) ?_;intro v' w6 hown6 hext6 hgr6;obtain ⟨A6,c6,rfl, -, -⟩:=zac hown6)))
     go_ret2
     exact zaz HF.out (HQ1.out.trans hext6.out)
  ·obtain rfl:k=n:=by omega
   have hfin:rparseGo [] ws=some acc:=by
    have h9:=HP.out
    rw [Z5 (by omega)] at h9
    exact h9
   have HL:=Za (HPE.out acc hfin)
   have HSA:=Za (fun (w':World) (hb:Ext wr w')=>zck acc.length c9 A9 acc w' (HV9.out.ext hb) (by unfold maxLen;omega))
   clear hfin HP HPE HPB HW
   by_cases hA:allE acc=0
   ·have HTX:=Za (fun (w':World) (hb:Ext wr w')=>zgq acc.length c9 A9 acc w' (HV9.out.ext hb) hal (za6 hA).2.1)
    by_cases hT:textL acc=l
    ·have HF:=Za (HL.out.trans (if_pos (And.intro hA hT)))
     have HAE:=Za hA
     have HTE:=Za hT
     clear hA hT
     go_wp2_with (first
      | (go_at_call 90;((with_reducible refine (HSA.out _ (Zd _)).mono ?_);rintro e w2 ⟨rfl,hq2⟩;rw [HAE.out];have HQ2:=Za hq2;clear hq2))
      | (go_at_call 108;((with_reducible refine (HTX.out _ HQ2.out).mono ?_);rintro e w3 ⟨rfl,hq3⟩;rw [HTE.out];have HQ3:=Za (HQ2.out.trans hq3);clear hq3)))
     go_ret2
     exact zbR HF.out ((OwnV.down HV.out HQ1.out.size).ext HQ3.out) (HE.out.trans HQ3.out)
    ·have HF:=Za (HL.out.trans (if_neg (fun h=>hT h.2)))
     have HAE:=Za hA
     have hT2:(textL acc==l)=false:=by simpa using hT
     clear hA hT
     generalize textL acc=T at *
     go_wp2_with (first
      | (go_at_call 90;((with_reducible refine (HSA.out _ (Zd _)).mono ?_);rintro e w2 ⟨rfl,hq2⟩;rw [HAE.out];have HQ2:=Za hq2;clear hq2))
      | (go_at_call 108;((with_reducible refine (HTX.out _ HQ2.out).mono ?_);rintro e w3 ⟨rfl,hq3⟩;have HQ3:=Za (HQ2.out.trans hq3);clear hq3)))
     go_ret2
     exact zaz HF.out (HE.out.trans HQ3.out)
   ·have HF:=Za (HL.out.trans (if_neg (fun h=>hA h.1)))
    generalize hae:allE acc=ae at *
    have hb8:(ae != 0)=true:=by simpa using hA
    clear hA
    go_wp2_with (first
     | (go_at_call 90;((with_reducible refine (HSA.out _ (Zd _)).mono ?_);rintro e w2 ⟨rfl,hq2⟩;have HQ2:=Za hq2;clear hq2)))
    go_ret2
    exact zaz HF.out (HE.out.trans HQ2.out)
theorem zhP (l:List UInt8) (hl:l.length≤1000000000) (w:World):Calls Tryz.prog 88 #[.string ⟨l.toArray⟩] w (ParseR l w):=by
 by_cases h:3000<l.length
 ·exact zf8 l h (by omega) w
 ·cases l with
  | nil=>exact zhO w
  | cons c r=>exact zf9 _ (by simp) (by omega) w
end Go.Proofs.YtkneghkbgingdaaGreatDoor
