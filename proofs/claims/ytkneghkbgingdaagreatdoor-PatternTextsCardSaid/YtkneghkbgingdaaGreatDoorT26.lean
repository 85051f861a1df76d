/- What the reference reads of whatever word. -/
import Derived.Test.YtkneghkbgingdaaGreatDoorT23
import Derived.Test.YtkneghkbgingdaaGreatDoorT24
import Derived.Test.YtkneghkbgingdaaGreatDoorT25
import Derived.Laws.BytesArg
set_option maxHeartbeats 16000000
namespace Go.Proofs.YtkneghkbgingdaaGreatDoor
set_option maxRecDepth 100000
open Go.RowKit
theorem zjk (c:UInt8) (d:UInt8) (r:List UInt8) (hc:c=107∨c=112) (hl:(d::r).length<=100000) (w:World):Calls Tryz.prog 123 #[.string ⟨(c::d::r:List UInt8).toArray⟩] w (WordR (refWord (c::d::r)) w):=by
 cases hn:numS (d::r) with
 | some N =>
  have hw:refWord (c::d::r)=(if 1<N then some (List.replicate (min N 300) ⟨1,decide (c=112),0,0⟩) else none):=by
   rcases hc with rfl | rfl <;> simp [refWord,hn]
  rw [hw]
  rcases hc with rfl | rfl
  ·exact zgk _ _ d r rfl rfl hl N hn _ rfl w
  ·exact zgl _ _ d r rfl rfl hl N hn _ rfl w
 | none =>
  have hw:refWord (c::d::r)=(if kindR d=8 then (if r=[] then some [⟨8,decide (c=112),0,0⟩] else none) else refParts (kindR d) (decide (c=112)) (spl 47 r)):=by
   rcases hc with rfl | rfl <;> simp [refWord,hn]
  rw [hw]
  by_cases h8:kindR d=8
  ·rw [if_pos h8]
   rcases hc with rfl | rfl
   ·exact zgo 107 false (.inl ⟨rfl,rfl⟩) _ _ d r rfl rfl hl hn h8 _ rfl w
   ·exact zgo 112 true (.inr ⟨rfl,rfl⟩) _ _ d r rfl rfl hl hn h8 _ rfl w
  ·rw [if_neg h8]
   by_cases h6:kindR d=6
   ·have e:∀p,refParts (kindR d) p (spl 47 r)=if (spl 47 r).length=2 then (numS ((spl 47 r).getD 1 [])).bind fun b=>(numS ((spl 47 r).getD 0 [])).bind fun a=>some [⟨6,p,a,b⟩] else none:=fun p=>by rw [h6];rfl
    rw [e]
    rcases hc with rfl | rfl
    ·exact if h2:(spl 47 r).length=2 then zcx 107 false (.inl ⟨rfl,rfl⟩) _ _ d r rfl rfl hl hn 6 h6 _ rfl (.inl rfl) h2 _ rfl w else zcw 107 false (.inl ⟨rfl,rfl⟩) _ _ d r rfl rfl hl hn 6 h6 _ rfl (.inl rfl) h2 _ rfl w
    ·exact if h2:(spl 47 r).length=2 then zcx 112 true (.inr ⟨rfl,rfl⟩) _ _ d r rfl rfl hl hn 6 h6 _ rfl (.inl rfl) h2 _ rfl w else zcw 112 true (.inr ⟨rfl,rfl⟩) _ _ d r rfl rfl hl hn 6 h6 _ rfl (.inl rfl) h2 _ rfl w
   by_cases h7:kindR d=7
   ·have e:∀p,refParts (kindR d) p (spl 47 r)=if (spl 47 r).length=2 then (numS ((spl 47 r).getD 1 [])).bind fun b=>(numS ((spl 47 r).getD 0 [])).bind fun a=>some [⟨7,p,a,b⟩] else none:=fun p=>by rw [h7];rfl
    rw [e]
    rcases hc with rfl | rfl
    ·exact if h2:(spl 47 r).length=2 then zcx 107 false (.inl ⟨rfl,rfl⟩) _ _ d r rfl rfl hl hn 7 h7 _ rfl (.inr rfl) h2 _ rfl w else zcw 107 false (.inl ⟨rfl,rfl⟩) _ _ d r rfl rfl hl hn 7 h7 _ rfl (.inr rfl) h2 _ rfl w
    ·exact if h2:(spl 47 r).length=2 then zcx 112 true (.inr ⟨rfl,rfl⟩) _ _ d r rfl rfl hl hn 7 h7 _ rfl (.inr rfl) h2 _ rfl w else zcw 112 true (.inr ⟨rfl,rfl⟩) _ _ d r rfl rfl hl hn 7 h7 _ rfl (.inr rfl) h2 _ rfl w
   by_cases h0:kindR d=0
   ·have e:∀p,refParts (kindR d) p (spl 47 r)=none:=fun p=>by rw [h0];simp [refParts]
    rw [e]
    rcases hc with rfl | rfl
    ·exact zgp 107 false (.inl ⟨rfl,rfl⟩) _ _ d r rfl rfl hl hn h0 _ rfl w
    ·exact zgp 112 true (.inr ⟨rfl,rfl⟩) _ _ d r rfl rfl hl hn h0 _ rfl w
   ·have e:∀p,refParts (kindR d) p (spl 47 r)=if (spl 47 r).length=1 then (numS ((spl 47 r).getD 0 [])).bind fun a=>some [⟨kindR d,p,a,0⟩] else none:=fun p=>by
     simp [refParts,h6,h7,h0]
    rw [e]
    have b8:(kindR d==8)=false:=Ze.2 h8
    have b6:(kindR d==6)=false:=Ze.2 h6
    have b7:(kindR d==7)=false:=Ze.2 h7
    have b0:(kindR d != 0)=true:=bne_iff_ne.2 h0
    rcases hc with rfl | rfl
    ·exact zcv 107 false (.inl ⟨rfl,rfl⟩) _ _ d r rfl rfl hl hn _ rfl _ rfl b8 b6 b7 b0 _ rfl w
    ·exact zcv 112 true (.inr ⟨rfl,rfl⟩) _ _ d r rfl rfl hl hn _ rfl _ rfl b8 b6 b7 b0 _ rfl w
theorem zc0 (l:List UInt8) (hl:l.length<=100000) (w:World):Calls Tryz.prog 123 #[.string ⟨l.toArray⟩] w (WordR (refWord l) w):=by
 cases l with
 | nil=>exact zna w
 | cons c R =>
  by_cases hc:c=107∨c=112
  ·cases R with
   | nil =>
    rcases hc with rfl | rfl
    ·exact zgm w
    ·exact zgn w
   | cons d r=>exact zjk c d r hc (by simp only [Zk] at hl ⊢;omega) w
  ·by_cases hy:c=121/\R=[111]
   ·obtain ⟨rfl,rfl⟩:=hy
    exact zoE w
   ·have hE:((c::R:List UInt8)==[121,111])=false:=by
     rw [Ze]
     intro e
     injection e with e1 e2
     exact hy ⟨e1,e2⟩
    by_cases ho:1<R.length/\c=111/\R.head?=some 110
    ·have hw:refWord (c::R)=(numS R.tail).bind fun a=>some [⟨9,false,a,0⟩]:=by rw [refWord.eq_def];simp only;rw [if_neg hy,if_pos ho]
     rw [hw]
     obtain ⟨h1,rfl,h3⟩:=ho
     cases R with
     | nil=>cases h3
     | cons x t =>
      obtain rfl:x=110:=by simpa using h3
      refine zoD _ t hE (by simp only [Zk] at h1 ⊢;omega) (by simp) ?_ (by simp only [Zk] at hl;omega) w
      rw [zai _ 2 _ (Zg _)]
      rfl
    ·have hw:refWord (c::R)=none:=by rw [refWord.eq_def];simp only;rw [if_neg hy,if_neg ho,if_pos hc]
     rw [hw]
     have hk:((c.toNat:Int) != 107)=true:=by
      rw [bne_iff_ne]
      intro e
      exact hc (.inl (ZQ.1 (by rw [show (107:UInt8).toNat=107 from rfl];omega)))
     have hq:((c.toNat:Int) != 112)=true:=by
      rw [bne_iff_ne]
      intro e
      exact hc (.inr (ZQ.1 (by rw [show (112:UInt8).toNat=112 from rfl];omega)))
     have h0:∀h,(⟨(c::R:List UInt8).toArray⟩:ByteArray)[0]'h=c:=fun _=>rfl
     by_cases hp:((c::R:List UInt8).take 2==[111,110])=true
     ·have hlen:¬1<R.length:=fun h=>by
       apply ho
       rw [beq_iff_eq] at hp
       cases R with
       | nil=>simp at h
       | cons x t =>
        simp at hp
        exact ⟨h,hp.1,by rw [hp.2];rfl⟩
      exact zjl _ c hE (by simp only [Zk];omega) h0 (by simp only [Zk];omega) hk hq w
     ·exact zm9 _ c hE (by simpa using hp) h0 (by simp only [Zk];omega) hk hq w
end Go.Proofs.YtkneghkbgingdaaGreatDoor
/- The reference's Decimal writes a number in decimal. -/
namespace Go.Proofs.YtkneghkbgingdaaGreatDoor
set_option maxRecDepth 100000
open Go.RowKit
theorem zhr {n:Nat} (h:n<1000000000000000):decD n=Lib.decDigits n:=zht 19 n (by omega)
def decG (m:Nat):List UInt8:=if m=0 then [] else decD m
theorem zfo {n:Nat} (h:n<1000000000000000):decD n=decG (n / 10)++[dg n]:=by
 rw [zhr h,Lib.decDigits,decG]
 by_cases h1:n<10
 ·rw [dif_pos h1,if_pos (by omega)]
  rw [zhu h1]
  rfl
 ·rw [dif_neg h1,if_neg (by omega),zhr (by omega),dg]
theorem zjI {n:Nat} (h0:0<n) (h:n<1000000000000000):decG n=decG (n / 10)++[dg n]:=by
 rw [<-zfo h,decG,if_neg (by omega)]
theorem zhm (w:World) (x:Int):(convert 78 9 (.slice (some ⟨w.heap.size,0,none⟩) 1 1)).run Tryz.prog (w.alloc (.cells #[.int .u8 x] 5)) = .ok (.string ⟨#[UInt8.ofNat x.toNat]⟩) (w.alloc (.cells #[.int .u8 x] 5)):=by
 have h:=run_convert_bytes_arg (P:=Tryz.prog) (w:=w.alloc (.cells #[.int .u8 x] 5)) 78 5 Tryz.underlying78 Tryz.underlying5 w.heap.size 0 1 1 [x] rfl (fun i hi=>by
  obtain rfl:i=0:=by omega
  simp [go_sem]) 9 Tryz.underlying9
 rw [h]
 rfl
theorem zad (n:Nat) (hn:n<1000000000000) (w:World):Calls Tryz.prog 42 #[.int .i64 (n:Int)] w fun e w'=>e = .returned (.string ⟨(decD n).toArray⟩)/\Ext w w':=by
 have aa:=zhm
 have q0:(0:Int)<=(n:Int):=by omega
 have q1:(n:Int)<1000000000000:=by omega
 go_enter Tryz.func42,Tryz.ntmps42
 go_wp2_with fail
 go_loopw [0,3] (fun a b wr=>∃(m:Nat) (s:List UInt8),a = .int .i64 m/\b = .string ⟨s.toArray⟩/\m<1000000000000/\Hid (decG m++s=decD n)/\Hid (Ext w wr)) (fun a _ _=>(intOf a).toNat)
 case atStart=>exact ⟨n / 10,[dg n],congrArg _ (by omega),rfl,by omega,Za (zfo (by omega)).symm,Za zx⟩
 case round =>
  obtain ⟨m,s,rfl,rfl,hm,HD,HE⟩:=hrel
  have hsl:s.length<=20:=by
   have h1:=zac n
   rw [<-HD.out,Zb] at h1
   omega
  by_cases h0:m=0
  ·subst h0
   have HS:=Za (show s=decD n from HD.out)
   go_wp2
   go_ret
   exact ⟨by rw [HS.out];rfl,HE.out⟩
  ·have q2:(0:Int)<(m:Int):=by omega
   have q3:(m:Int)<=9223372036854775807:=by omega
   have q4:(0:Int)<=(m:Int):=by omega
   have ab:=Za (show decG (m / 10)++(dg m::s)=decD n by rw [<-HD.out,zjI (n:=m) (by omega) (by omega),ZB];rfl)
   obtain ⟨G,hG⟩:∃G,dg m::s=G:=⟨_,rfl⟩
   obtain ⟨D,hD⟩:∃D,[dg m]=D:=⟨_,rfl⟩
   have hcat:(⟨D.toArray⟩++⟨s.toArray⟩:ByteArray)=⟨G.toArray⟩:=by rw [<-hG,<-hD];exact zaa [dg m] s
   have hdl:D.length=1:=by rw [<-hD];rfl
   have hcv:(convert 78 9 (.slice (some ⟨wr.heap.size,0,none⟩) 1 1)).run Tryz.prog (wr.alloc (.cells #[.int .u8 (48+(m:Int) % 10)] 5)) = .ok (.string ⟨D.toArray⟩) (wr.alloc (.cells #[.int .u8 (48+(m:Int) % 10)] 5)):=by
    have h9:=zhm wr (48+(m:Int) % 10)
    rw [show (48+(m:Int) % 10).toNat=48+m % 10 by omega] at h9
    rw [h9,<-hD]
    rfl
   have HN:=Za (show decG (m / 10)++G=decD n by rw [<-hG];exact ab.out)
   have HM:=Za hm
   clear ab hG HD hD aa hm hn q1
   go_wp2_with fail
   go_roundw
   case rel=>exact ⟨m / 10,G,congrArg _ (by omega),rfl,(by have:=HM.out;omega),HN,Za (Zi HE.out zx)⟩
   case measure=>simp [intOf];omega
end Go.Proofs.YtkneghkbgingdaaGreatDoor
/- The reference's text of a stitch. -/
namespace Go.Proofs.YtkneghkbgingdaaGreatDoor
set_option maxRecDepth 100000
open Go.RowKit
theorem zpt (p:Bool) (a b:Nat) (w:World) :
  Calls Tryz.prog 139 #[.agg #[.int .u8 1,.bool p,.int .i64 (a:Int),.int .i64 (b:Int)]] w fun e w'=>e = .returned (.string ⟨(wordT ⟨1,p,a,b⟩).toArray⟩)/\Ext w w':=by
 cases p
 ·have aa:Ext w (w.alloc (.cells #[.int .u8 1,.bool false,.int .i64 (a:Int),.int .i64 (b:Int)] 132)):=(Zf _).alloc _
  go_enter Tryz.func139,Tryz.ntmps139
  go_wp2_with fail
  have ab:=aa
  exact bodyPost_ret (v := .string ((⟨#[107]⟩:ByteArray))) (by simp [results,Tryz.f139,go_sem]) rfl ⟨congrArg (fun x=>Ending.returned (.string x)) (ByteArray.ext (by rw [show wordT ⟨1,false,(a:Int),(b:Int)⟩=[107]++[]++[]++[] from by rfl] <;> simp)),ab⟩
 ·have aa:Ext w (w.alloc (.cells #[.int .u8 1,.bool true,.int .i64 (a:Int),.int .i64 (b:Int)] 132)):=(Zf _).alloc _
  go_enter Tryz.func139,Tryz.ntmps139
  go_wp2_with fail
  have ab:=aa
  exact bodyPost_ret (v := .string ((⟨#[112]⟩:ByteArray))) (by simp [results,Tryz.f139,go_sem]) rfl ⟨congrArg (fun x=>Ending.returned (.string x)) (ByteArray.ext (by rw [show wordT ⟨1,true,(a:Int),(b:Int)⟩=[112]++[]++[]++[] from by rfl] <;> simp)),ab⟩
theorem zpu (p:Bool) (a b:Nat) (w:World) :
  Calls Tryz.prog 139 #[.agg #[.int .u8 2,.bool p,.int .i64 (a:Int),.int .i64 (b:Int)]] w fun e w'=>e = .returned (.string ⟨(wordT ⟨2,p,a,b⟩).toArray⟩)/\Ext w w':=by
 cases p
 ·have aa:Ext w (w.alloc (.cells #[.int .u8 2,.bool false,.int .i64 (a:Int),.int .i64 (b:Int)] 132)):=(Zf _).alloc _
  go_enter Tryz.func139,Tryz.ntmps139
  go_wp2_with fail
  have ab:=aa
  exact bodyPost_ret (v := .string ((⟨#[121,111]⟩:ByteArray))) (by simp [results,Tryz.f139,go_sem]) rfl ⟨congrArg (fun x=>Ending.returned (.string x)) (ByteArray.ext (by rw [show wordT ⟨2,false,(a:Int),(b:Int)⟩=[121,111] from by rfl] <;> simp)),ab⟩
 ·have aa:Ext w (w.alloc (.cells #[.int .u8 2,.bool true,.int .i64 (a:Int),.int .i64 (b:Int)] 132)):=(Zf _).alloc _
  go_enter Tryz.func139,Tryz.ntmps139
  go_wp2_with fail
  have ab:=aa
  exact bodyPost_ret (v := .string ((⟨#[121,111]⟩:ByteArray))) (by simp [results,Tryz.f139,go_sem]) rfl ⟨congrArg (fun x=>Ending.returned (.string x)) (ByteArray.ext (by rw [show wordT ⟨2,true,(a:Int),(b:Int)⟩=[121,111] from by rfl] <;> simp)),ab⟩
theorem zpv (p:Bool) (a b:Nat) (h1:a<=200) (w:World) :
  Calls Tryz.prog 139 #[.agg #[.int .u8 3,.bool p,.int .i64 (a:Int),.int .i64 (b:Int)]] w fun e w'=>e = .returned (.string ⟨(wordT ⟨3,p,a,b⟩).toArray⟩)/\Ext w w':=by
 have d1:=zac a
 have HA:=Za (fun w'=>zad a (by omega) w')
 cases p
 ·have aa:Ext w (w.alloc (.cells #[.int .u8 3,.bool false,.int .i64 (a:Int),.int .i64 (b:Int)] 132)):=(Zf _).alloc _
  go_enter Tryz.func139,Tryz.ntmps139
  go_wp2_with (go_at_call 42;((with_reducible refine (HA.out _).mono ?_);rintro e w1 ⟨rfl,hq1⟩;have ab:=aa.trans hq1))
  exact bodyPost_ret (v := .string ((⟨#[107]⟩:ByteArray)++(⟨#[102]⟩:ByteArray)++(⟨(decD a).toArray⟩:ByteArray))) (by simp [results,Tryz.f139,go_sem]) rfl ⟨congrArg (fun x=>Ending.returned (.string x)) (ByteArray.ext (by rw [show wordT ⟨3,false,(a:Int),(b:Int)⟩=[107]++[102]++decD a++[] from by rfl] <;> simp)),ab⟩
 ·have aa:Ext w (w.alloc (.cells #[.int .u8 3,.bool true,.int .i64 (a:Int),.int .i64 (b:Int)] 132)):=(Zf _).alloc _
  go_enter Tryz.func139,Tryz.ntmps139
  go_wp2_with (go_at_call 42;((with_reducible refine (HA.out _).mono ?_);rintro e w1 ⟨rfl,hq1⟩;have ab:=aa.trans hq1))
  exact bodyPost_ret (v := .string ((⟨#[112]⟩:ByteArray)++(⟨#[102]⟩:ByteArray)++(⟨(decD a).toArray⟩:ByteArray))) (by simp [results,Tryz.f139,go_sem]) rfl ⟨congrArg (fun x=>Ending.returned (.string x)) (ByteArray.ext (by rw [show wordT ⟨3,true,(a:Int),(b:Int)⟩=[112]++[102]++decD a++[] from by rfl] <;> simp)),ab⟩
theorem zpw (p:Bool) (a b:Nat) (h1:a<=200) (w:World) :
  Calls Tryz.prog 139 #[.agg #[.int .u8 4,.bool p,.int .i64 (a:Int),.int .i64 (b:Int)]] w fun e w'=>e = .returned (.string ⟨(wordT ⟨4,p,a,b⟩).toArray⟩)/\Ext w w':=by
 have d1:=zac a
 have HA:=Za (fun w'=>zad a (by omega) w')
 cases p
 ·have aa:Ext w (w.alloc (.cells #[.int .u8 4,.bool false,.int .i64 (a:Int),.int .i64 (b:Int)] 132)):=(Zf _).alloc _
  go_enter Tryz.func139,Tryz.ntmps139
  go_wp2_with (go_at_call 42;((with_reducible refine (HA.out _).mono ?_);rintro e w1 ⟨rfl,hq1⟩;have ab:=aa.trans hq1))
  exact bodyPost_ret (v := .string ((⟨#[107]⟩:ByteArray)++(⟨#[108]⟩:ByteArray)++(⟨(decD a).toArray⟩:ByteArray))) (by simp [results,Tryz.f139,go_sem]) rfl ⟨congrArg (fun x=>Ending.returned (.string x)) (ByteArray.ext (by rw [show wordT ⟨4,false,(a:Int),(b:Int)⟩=[107]++[108]++decD a++[] from by rfl] <;> simp)),ab⟩
 ·have aa:Ext w (w.alloc (.cells #[.int .u8 4,.bool true,.int .i64 (a:Int),.int .i64 (b:Int)] 132)):=(Zf _).alloc _
  go_enter Tryz.func139,Tryz.ntmps139
  go_wp2_with (go_at_call 42;((with_reducible refine (HA.out _).mono ?_);rintro e w1 ⟨rfl,hq1⟩;have ab:=aa.trans hq1))
  exact bodyPost_ret (v := .string ((⟨#[112]⟩:ByteArray)++(⟨#[108]⟩:ByteArray)++(⟨(decD a).toArray⟩:ByteArray))) (by simp [results,Tryz.f139,go_sem]) rfl ⟨congrArg (fun x=>Ending.returned (.string x)) (ByteArray.ext (by rw [show wordT ⟨4,true,(a:Int),(b:Int)⟩=[112]++[108]++decD a++[] from by rfl] <;> simp)),ab⟩
theorem zpx (p:Bool) (a b:Nat) (h1:a<=200) (w:World) :
  Calls Tryz.prog 139 #[.agg #[.int .u8 5,.bool p,.int .i64 (a:Int),.int .i64 (b:Int)]] w fun e w'=>e = .returned (.string ⟨(wordT ⟨5,p,a,b⟩).toArray⟩)/\Ext w w':=by
 have d1:=zac a
 have HA:=Za (fun w'=>zad a (by omega) w')
 cases p
 ·have aa:Ext w (w.alloc (.cells #[.int .u8 5,.bool false,.int .i64 (a:Int),.int .i64 (b:Int)] 132)):=(Zf _).alloc _
  go_enter Tryz.func139,Tryz.ntmps139
  go_wp2_with (go_at_call 42;((with_reducible refine (HA.out _).mono ?_);rintro e w1 ⟨rfl,hq1⟩;have ab:=aa.trans hq1))
  exact bodyPost_ret (v := .string ((⟨#[107]⟩:ByteArray)++(⟨#[109]⟩:ByteArray)++(⟨(decD a).toArray⟩:ByteArray))) (by simp [results,Tryz.f139,go_sem]) rfl ⟨congrArg (fun x=>Ending.returned (.string x)) (ByteArray.ext (by rw [show wordT ⟨5,false,(a:Int),(b:Int)⟩=[107]++[109]++decD a++[] from by rfl] <;> simp)),ab⟩
 ·have aa:Ext w (w.alloc (.cells #[.int .u8 5,.bool true,.int .i64 (a:Int),.int .i64 (b:Int)] 132)):=(Zf _).alloc _
  go_enter Tryz.func139,Tryz.ntmps139
  go_wp2_with (go_at_call 42;((with_reducible refine (HA.out _).mono ?_);rintro e w1 ⟨rfl,hq1⟩;have ab:=aa.trans hq1))
  exact bodyPost_ret (v := .string ((⟨#[112]⟩:ByteArray)++(⟨#[109]⟩:ByteArray)++(⟨(decD a).toArray⟩:ByteArray))) (by simp [results,Tryz.f139,go_sem]) rfl ⟨congrArg (fun x=>Ending.returned (.string x)) (ByteArray.ext (by rw [show wordT ⟨5,true,(a:Int),(b:Int)⟩=[112]++[109]++decD a++[] from by rfl] <;> simp)),ab⟩
theorem zpy (p:Bool) (a b:Nat) (h1:a<=200) (h2:b<=6) (w:World) :
  Calls Tryz.prog 139 #[.agg #[.int .u8 6,.bool p,.int .i64 (a:Int),.int .i64 (b:Int)]] w fun e w'=>e = .returned (.string ⟨(wordT ⟨6,p,a,b⟩).toArray⟩)/\Ext w w':=by
 have d1:=zac a
 have HA:=Za (fun w'=>zad a (by omega) w')
 have f1:¬9223372036854775807<2+(decD a).length:=by omega
 have f2:¬9223372036854775807<2+(decD a).length+1:=by omega
 have d2:=zac b
 have HB:=Za (fun w'=>zad b (by omega) w')
 have f3:¬9223372036854775807<2+(decD a).length+1+(decD b).length:=by omega
 cases p
 ·have aa:Ext w (w.alloc (.cells #[.int .u8 6,.bool false,.int .i64 (a:Int),.int .i64 (b:Int)] 132)):=(Zf _).alloc _
  go_enter Tryz.func139,Tryz.ntmps139
  have hb:Ext (w.alloc (.cells #[.int .u8 6,.bool false,.int .i64 (a:Int),.int .i64 (b:Int)] 132)) (w.alloc (.cells #[.int .u8 6,.bool false,.int .i64 (a:Int),.int .i64 (b:Int)] 132)):=Zf _
  obtain ⟨hc,hf,hz⟩:=hb.facts
  go_wp2_with fail
  go_region_held3 (fun w'=>w'.cell? ⟨w.heap.size,2,none⟩=some (.int .i64 (a:Int))/\w'.cell? ⟨w.heap.size,3,none⟩=some (.int .i64 (b:Int))) (go_keep) (first | (go_at_call 42;(first | ((with_reducible refine (HA.out _).mono ?_);rintro e w1 ⟨rfl,hq⟩;replace hb:=hb.trans (Zi (by repeat (first | exact Zf _ | refine Z2 ?_ | refine Ext.drewN ?_ _ | refine Zp ?_ _)) hq);clear hq;obtain ⟨hc,hf,hz⟩:=hb.facts) | ((with_reducible refine (HB.out _).mono ?_);rintro e w1 ⟨rfl,hq⟩;replace hb:=hb.trans (Zi (by repeat (first | exact Zf _ | refine Z2 ?_ | refine Ext.drewN ?_ _ | refine Zp ?_ _)) hq);clear hq;obtain ⟨hc,hf,hz⟩:=hb.facts))))
  all_goals go_wp2
  all_goals have ab:=aa.trans hb
  all_goals exact bodyPost_ret (v := .string ((⟨#[107]⟩:ByteArray)++(⟨#[120]⟩:ByteArray)++(⟨(decD a).toArray⟩:ByteArray)++(⟨#[47]⟩:ByteArray)++(⟨(decD b).toArray⟩:ByteArray))) (by simp [results,Tryz.f139,go_sem]) rfl ⟨congrArg (fun x=>Ending.returned (.string x)) (ByteArray.ext (by rw [show wordT ⟨6,false,(a:Int),(b:Int)⟩=[107]++[120]++decD a++(47::decD b) from by rfl] <;> simp)),ab⟩
 ·have aa:Ext w (w.alloc (.cells #[.int .u8 6,.bool true,.int .i64 (a:Int),.int .i64 (b:Int)] 132)):=(Zf _).alloc _
  go_enter Tryz.func139,Tryz.ntmps139
  have hb:Ext (w.alloc (.cells #[.int .u8 6,.bool true,.int .i64 (a:Int),.int .i64 (b:Int)] 132)) (w.alloc (.cells #[.int .u8 6,.bool true,.int .i64 (a:Int),.int .i64 (b:Int)] 132)):=Zf _
  obtain ⟨hc,hf,hz⟩:=hb.facts
  go_wp2_with fail
  go_region_held3 (fun w'=>w'.cell? ⟨w.heap.size,2,none⟩=some (.int .i64 (a:Int))/\w'.cell? ⟨w.heap.size,3,none⟩=some (.int .i64 (b:Int))) (go_keep) (first | (go_at_call 42;(first | ((with_reducible refine (HA.out _).mono ?_);rintro e w1 ⟨rfl,hq⟩;replace hb:=hb.trans (Zi (by repeat (first | exact Zf _ | refine Z2 ?_ | refine Ext.drewN ?_ _ | refine Zp ?_ _)) hq);clear hq;obtain ⟨hc,hf,hz⟩:=hb.facts) | ((with_reducible refine (HB.out _).mono ?_);rintro e w1 ⟨rfl,hq⟩;replace hb:=hb.trans (Zi (by repeat (first | exact Zf _ | refine Z2 ?_ | refine Ext.drewN ?_ _ | refine Zp ?_ _)) hq);clear hq;obtain ⟨hc,hf,hz⟩:=hb.facts))))
  all_goals go_wp2
  all_goals have ab:=aa.trans hb
  all_goals exact bodyPost_ret (v := .string ((⟨#[112]⟩:ByteArray)++(⟨#[120]⟩:ByteArray)++(⟨(decD a).toArray⟩:ByteArray)++(⟨#[47]⟩:ByteArray)++(⟨(decD b).toArray⟩:ByteArray))) (by simp [results,Tryz.f139,go_sem]) rfl ⟨congrArg (fun x=>Ending.returned (.string x)) (ByteArray.ext (by rw [show wordT ⟨6,true,(a:Int),(b:Int)⟩=[112]++[120]++decD a++(47::decD b) from by rfl] <;> simp)),ab⟩
theorem zpz (p:Bool) (a b:Nat) (h1:a<=200) (h2:b<=6) (w:World) :
  Calls Tryz.prog 139 #[.agg #[.int .u8 7,.bool p,.int .i64 (a:Int),.int .i64 (b:Int)]] w fun e w'=>e = .returned (.string ⟨(wordT ⟨7,p,a,b⟩).toArray⟩)/\Ext w w':=by
 have d1:=zac a
 have HA:=Za (fun w'=>zad a (by omega) w')
 have f1:¬9223372036854775807<2+(decD a).length:=by omega
 have f2:¬9223372036854775807<2+(decD a).length+1:=by omega
 have d2:=zac b
 have HB:=Za (fun w'=>zad b (by omega) w')
 have f3:¬9223372036854775807<2+(decD a).length+1+(decD b).length:=by omega
 cases p
 ·have aa:Ext w (w.alloc (.cells #[.int .u8 7,.bool false,.int .i64 (a:Int),.int .i64 (b:Int)] 132)):=(Zf _).alloc _
  go_enter Tryz.func139,Tryz.ntmps139
  have hb:Ext (w.alloc (.cells #[.int .u8 7,.bool false,.int .i64 (a:Int),.int .i64 (b:Int)] 132)) (w.alloc (.cells #[.int .u8 7,.bool false,.int .i64 (a:Int),.int .i64 (b:Int)] 132)):=Zf _
  obtain ⟨hc,hf,hz⟩:=hb.facts
  go_wp2_with fail
  go_region_held3 (fun w'=>w'.cell? ⟨w.heap.size,2,none⟩=some (.int .i64 (a:Int))/\w'.cell? ⟨w.heap.size,3,none⟩=some (.int .i64 (b:Int))) (go_keep) (first | (go_at_call 42;(first | ((with_reducible refine (HA.out _).mono ?_);rintro e w1 ⟨rfl,hq⟩;replace hb:=hb.trans (Zi (by repeat (first | exact Zf _ | refine Z2 ?_ | refine Ext.drewN ?_ _ | refine Zp ?_ _)) hq);clear hq;obtain ⟨hc,hf,hz⟩:=hb.facts) | ((with_reducible refine (HB.out _).mono ?_);rintro e w1 ⟨rfl,hq⟩;replace hb:=hb.trans (Zi (by repeat (first | exact Zf _ | refine Z2 ?_ | refine Ext.drewN ?_ _ | refine Zp ?_ _)) hq);clear hq;obtain ⟨hc,hf,hz⟩:=hb.facts))))
  all_goals go_wp2
  all_goals have ab:=aa.trans hb
  all_goals exact bodyPost_ret (v := .string ((⟨#[107]⟩:ByteArray)++(⟨#[121]⟩:ByteArray)++(⟨(decD a).toArray⟩:ByteArray)++(⟨#[47]⟩:ByteArray)++(⟨(decD b).toArray⟩:ByteArray))) (by simp [results,Tryz.f139,go_sem]) rfl ⟨congrArg (fun x=>Ending.returned (.string x)) (ByteArray.ext (by rw [show wordT ⟨7,false,(a:Int),(b:Int)⟩=[107]++[121]++decD a++(47::decD b) from by rfl] <;> simp)),ab⟩
 ·have aa:Ext w (w.alloc (.cells #[.int .u8 7,.bool true,.int .i64 (a:Int),.int .i64 (b:Int)] 132)):=(Zf _).alloc _
  go_enter Tryz.func139,Tryz.ntmps139
  have hb:Ext (w.alloc (.cells #[.int .u8 7,.bool true,.int .i64 (a:Int),.int .i64 (b:Int)] 132)) (w.alloc (.cells #[.int .u8 7,.bool true,.int .i64 (a:Int),.int .i64 (b:Int)] 132)):=Zf _
  obtain ⟨hc,hf,hz⟩:=hb.facts
  go_wp2_with fail
  go_region_held3 (fun w'=>w'.cell? ⟨w.heap.size,2,none⟩=some (.int .i64 (a:Int))/\w'.cell? ⟨w.heap.size,3,none⟩=some (.int .i64 (b:Int))) (go_keep) (first | (go_at_call 42;(first | ((with_reducible refine (HA.out _).mono ?_);rintro e w1 ⟨rfl,hq⟩;replace hb:=hb.trans (Zi (by repeat (first | exact Zf _ | refine Z2 ?_ | refine Ext.drewN ?_ _ | refine Zp ?_ _)) hq);clear hq;obtain ⟨hc,hf,hz⟩:=hb.facts) | ((with_reducible refine (HB.out _).mono ?_);rintro e w1 ⟨rfl,hq⟩;replace hb:=hb.trans (Zi (by repeat (first | exact Zf _ | refine Z2 ?_ | refine Ext.drewN ?_ _ | refine Zp ?_ _)) hq);clear hq;obtain ⟨hc,hf,hz⟩:=hb.facts))))
  all_goals go_wp2
  all_goals have ab:=aa.trans hb
  all_goals exact bodyPost_ret (v := .string ((⟨#[112]⟩:ByteArray)++(⟨#[121]⟩:ByteArray)++(⟨(decD a).toArray⟩:ByteArray)++(⟨#[47]⟩:ByteArray)++(⟨(decD b).toArray⟩:ByteArray))) (by simp [results,Tryz.f139,go_sem]) rfl ⟨congrArg (fun x=>Ending.returned (.string x)) (ByteArray.ext (by rw [show wordT ⟨7,true,(a:Int),(b:Int)⟩=[112]++[121]++decD a++(47::decD b) from by rfl] <;> simp)),ab⟩
theorem zpA (p:Bool) (a b:Nat) (w:World) :
  Calls Tryz.prog 139 #[.agg #[.int .u8 8,.bool p,.int .i64 (a:Int),.int .i64 (b:Int)]] w fun e w'=>e = .returned (.string ⟨(wordT ⟨8,p,a,b⟩).toArray⟩)/\Ext w w':=by
 cases p
 ·have aa:Ext w (w.alloc (.cells #[.int .u8 8,.bool false,.int .i64 (a:Int),.int .i64 (b:Int)] 132)):=(Zf _).alloc _
  go_enter Tryz.func139,Tryz.ntmps139
  go_wp2_with fail
  have ab:=aa
  exact bodyPost_ret (v := .string ((⟨#[107]⟩:ByteArray)++(⟨#[115]⟩:ByteArray))) (by simp [results,Tryz.f139,go_sem]) rfl ⟨congrArg (fun x=>Ending.returned (.string x)) (ByteArray.ext (by rw [show wordT ⟨8,false,(a:Int),(b:Int)⟩=[107]++[115]++[]++[] from by rfl] <;> simp)),ab⟩
 ·have aa:Ext w (w.alloc (.cells #[.int .u8 8,.bool true,.int .i64 (a:Int),.int .i64 (b:Int)] 132)):=(Zf _).alloc _
  go_enter Tryz.func139,Tryz.ntmps139
  go_wp2_with fail
  have ab:=aa
  exact bodyPost_ret (v := .string ((⟨#[112]⟩:ByteArray)++(⟨#[115]⟩:ByteArray))) (by simp [results,Tryz.f139,go_sem]) rfl ⟨congrArg (fun x=>Ending.returned (.string x)) (ByteArray.ext (by rw [show wordT ⟨8,true,(a:Int),(b:Int)⟩=[112]++[115]++[]++[] from by rfl] <;> simp)),ab⟩
theorem zpB (p:Bool) (a b:Nat) (h1:a<=200) (w:World) :
  Calls Tryz.prog 139 #[.agg #[.int .u8 9,.bool p,.int .i64 (a:Int),.int .i64 (b:Int)]] w fun e w'=>e = .returned (.string ⟨(wordT ⟨9,p,a,b⟩).toArray⟩)/\Ext w w':=by
 have d1:=zac a
 have HA:=Za (fun w'=>zad a (by omega) w')
 cases p
 ·have aa:Ext w (w.alloc (.cells #[.int .u8 9,.bool false,.int .i64 (a:Int),.int .i64 (b:Int)] 132)):=(Zf _).alloc _
  go_enter Tryz.func139,Tryz.ntmps139
  go_wp2_with (go_at_call 42;((with_reducible refine (HA.out _).mono ?_);rintro e w1 ⟨rfl,hq1⟩;have ab:=aa.trans hq1))
  exact bodyPost_ret (v := .string ((⟨#[111,110]⟩:ByteArray)++(⟨(decD a).toArray⟩:ByteArray))) (by simp [results,Tryz.f139,go_sem]) rfl ⟨congrArg (fun x=>Ending.returned (.string x)) (ByteArray.ext (by rw [show wordT ⟨9,false,(a:Int),(b:Int)⟩=[111,110]++decD a from by rfl] <;> simp)),ab⟩
 ·have aa:Ext w (w.alloc (.cells #[.int .u8 9,.bool true,.int .i64 (a:Int),.int .i64 (b:Int)] 132)):=(Zf _).alloc _
  go_enter Tryz.func139,Tryz.ntmps139
  go_wp2_with (go_at_call 42;((with_reducible refine (HA.out _).mono ?_);rintro e w1 ⟨rfl,hq1⟩;have ab:=aa.trans hq1))
  exact bodyPost_ret (v := .string ((⟨#[111,110]⟩:ByteArray)++(⟨(decD a).toArray⟩:ByteArray))) (by simp [results,Tryz.f139,go_sem]) rfl ⟨congrArg (fun x=>Ending.returned (.string x)) (ByteArray.ext (by rw [show wordT ⟨9,true,(a:Int),(b:Int)⟩=[111,110]++decD a from by rfl] <;> simp)),ab⟩
theorem zo5 (p:Bool) (a b:Nat) (h1:a<=200) (w:World) :
  Calls Tryz.prog 139 #[.agg #[.int .u8 10,.bool p,.int .i64 (a:Int),.int .i64 (b:Int)]] w fun e w'=>e = .returned (.string ⟨(wordT ⟨10,p,a,b⟩).toArray⟩)/\Ext w w':=by
 have d1:=zac a
 have HA:=Za (fun w'=>zad a (by omega) w')
 cases p
 ·have aa:Ext w (w.alloc (.cells #[.int .u8 10,.bool false,.int .i64 (a:Int),.int .i64 (b:Int)] 132)):=(Zf _).alloc _
  go_enter Tryz.func139,Tryz.ntmps139
  go_wp2_with (go_at_call 42;((with_reducible refine (HA.out _).mono ?_);rintro e w1 ⟨rfl,hq1⟩;have ab:=aa.trans hq1))
  exact bodyPost_ret (v := .string ((⟨#[107]⟩:ByteArray)++(⟨#[111]⟩:ByteArray)++(⟨(decD a).toArray⟩:ByteArray))) (by simp [results,Tryz.f139,go_sem]) rfl ⟨congrArg (fun x=>Ending.returned (.string x)) (ByteArray.ext (by rw [show wordT ⟨10,false,(a:Int),(b:Int)⟩=[107]++[111]++decD a++[] from by rfl] <;> simp)),ab⟩
 ·have aa:Ext w (w.alloc (.cells #[.int .u8 10,.bool true,.int .i64 (a:Int),.int .i64 (b:Int)] 132)):=(Zf _).alloc _
  go_enter Tryz.func139,Tryz.ntmps139
  go_wp2_with (go_at_call 42;((with_reducible refine (HA.out _).mono ?_);rintro e w1 ⟨rfl,hq1⟩;have ab:=aa.trans hq1))
  exact bodyPost_ret (v := .string ((⟨#[112]⟩:ByteArray)++(⟨#[111]⟩:ByteArray)++(⟨(decD a).toArray⟩:ByteArray))) (by simp [results,Tryz.f139,go_sem]) rfl ⟨congrArg (fun x=>Ending.returned (.string x)) (ByteArray.ext (by rw [show wordT ⟨10,true,(a:Int),(b:Int)⟩=[112]++[111]++decD a++[] from by rfl] <;> simp)),ab⟩
theorem zn2 (s:St) (h:okSt s=true) (w:World) :
  Calls Tryz.prog 139 #[.agg #[.int .u8 s.k,.bool s.p,.int .i64 s.a,.int .i64 s.b]] w fun e w'=>e = .returned (.string ⟨(wordT s).toArray⟩)/\Ext w w':=by
 obtain ⟨h0,h1,h2,h3⟩:=zo4 h
 obtain ⟨k,p,a,b⟩:=s
 have hk:=zeG h
 simp only at h0 h1 h2 h3 hk ⊢
 clear h
 obtain ⟨a,rfl⟩:∃n:Nat,a=(n:Int):=⟨a.toNat,by omega⟩
 obtain ⟨b,rfl⟩:∃n:Nat,b=(n:Int):=⟨b.toNat,by omega⟩
 rcases zax hk with e | e | e | e | e | e | e | e | e | e <;> subst e
 ·exact zpt p a b w
 ·exact zpu p a b w
 ·exact zpv p a b (by omega) w
 ·exact zpw p a b (by omega) w
 ·exact zpx p a b (by omega) w
 ·exact zpy p a b (by omega) (by omega) w
 ·exact zpz p a b (by omega) (by omega) w
 ·exact zpA p a b w
 ·exact zpB p a b (by omega) w
 ·exact zo5 p a b (by omega) w
end Go.Proofs.YtkneghkbgingdaaGreatDoor
/- The reference's Written: the text of a list of stitches. -/
namespace Go.Proofs.YtkneghkbgingdaaGreatDoor
set_option maxRecDepth 100000
open Go.RowKit
theorem zfz (c:UInt8) (ws:List (List UInt8)) (x:List UInt8):joinB c (ws++[x])=if ws=[] then x else joinB c ws++[c]++x:=by
 induction ws with
 | nil=>rfl
 | cons y ws ih =>
  rw [if_neg (by simp)]
  cases ws with
  | nil=>simp [joinB]
  | cons z ws =>
   rw [if_neg (by simp)] at ih
   rw [ZU,ZU,joinB]
   rw [ZU] at ih
   rw [ih]
   simp [joinB]
theorem zbd (n c:Nat) (A:Option Addr) (l:List St) (w:World) (hl:Vec shSt w A n l) (hn:n<=200) (ho:allB l=true) :
  Calls Tryz.prog 108 #[.slice A n c] w fun e w'=>e = .returned (.string ⟨(textL l).toArray⟩)/\Ext w w':=by
 have HX:=Za hl
 have HO:=Za ho
 have HL:=Za hl.1
 clear hl ho
 go_enter Tryz.func108,Tryz.ntmps108
 go_wp2_with fail
 go_loopw [3,4] (fun u i wr=>∃(S:List UInt8) (k:Nat) (ws:List (List UInt8)),u = .string ⟨S.toArray⟩/\i = .int .i64 k/\k<=n/\S.length<=200*k/\Hid (S=joinB 32 ws)/\Hid (k=0↔ws=[])/\Hid (Ext w wr)/\Hid (ws++(grp (l.drop k)).map wordG=(grp l).map wordG)) (fun _ i _=>n-(intOf i).toNat)
 case atStart=>exact ⟨[],0,[],rfl,rfl,Zy _,Zy _,Za rfl,Za (by simp),Za (Zf _),Za (by simp)⟩
 case round =>
  obtain ⟨S,k,ws,rfl,rfl,hk,hsl,HS,HW,HE,HT⟩:=hrel
  by_cases hlt:k<n
  ·obtain ⟨b,off,rfl,ad,hc⟩:=Sts.all (Vec.ext HX.out HE.out) (by omega)
   have HC:=Za hc
   obtain ⟨c1,c2,c3,c4⟩:=hc k hlt
   have aD:=zcy HO.out (k:=k) (by rw [HL.out];omega)
   obtain ⟨s,hs⟩:∃s,l.getD k st0=s:=⟨_,rfl⟩
   rw [hs] at c1 c2 c3 c4 aD
   have aE:=Za hs
   clear hs hc
   obtain ⟨sk,sp,sa,sb⟩:=s
   simp only at c1 c2 c3 c4
   have q0:(0:Int)<=(k:Int):=by omega
   have q1:(k:Int)<(n:Int):=by omega
   obtain ⟨T,hT⟩:∃T,wordT ⟨sk,sp,sa,sb⟩=T:=⟨_,rfl⟩
   have aF:=Za (show ∀w',Calls Tryz.prog 139 #[.agg #[.int .u8 sk,.bool sp,.int .i64 sa,.int .i64 sb]] w' fun e w''=>e = .returned (.string ⟨T.toArray⟩)/\Ext w' w'' from fun w'=>by
    have h9:=zn2 ⟨sk,sp,sa,sb⟩ aD w'
    rw [hT] at h9
    exact h9)
   have tl:T.length<=100:=by
    have h9:=zcu (x:=(⟨sk,sp,sa,sb⟩,1)) aD
    rw [<-hT]
    simpa [wordG] using h9
   have ae:=Za (show wordG (⟨sk,sp,sa,sb⟩,1)=T by rw [<-hT];simp [wordG])
   have av:=Za hT
   clear hT
   by_cases hk0:k=0
   ·have ar:ws=[]:=HW.out.1 hk0
    subst hk0
    simp only [Nat.zero_mul,Nat.add_zero] at c1 c2 c3 c4
    obtain ⟨G,hG⟩:∃G,S++T=G:=⟨_,rfl⟩
    have az:(⟨S.toArray⟩++⟨T.toArray⟩:ByteArray)=⟨G.toArray⟩:=by rw [<-hG];exact zaa S T
    have HJ:=Za (show ∀x,joinB 32 (ws++[T++x])=G++x from fun x=>by rw [zfz,if_pos ar,<-hG,HS.out,ar];rfl)
    have aJ:G.length<=200*0+101:=by rw [<-hG,Zb];omega
    clear hG ar
    go_wp2_with (go_at_call 139;(((with_reducible refine (aF.out _).mono ?_);rintro e w2 ⟨rfl,hq2⟩;have au:=Za hq2;clear hq2)))
    have ax:=Za (HE.out.trans au.out)
    go_loopw [4,5] (fun i q wi=>∃(j m:Nat),i = .int .i64 j/\q = .int .i64 m/\1<=m/\j+1=0+m/\0+m<=n/\Hid (m=1∨sk=1)/\Hid (∀t,t<m->l.getD (0+t) st0=⟨sk,sp,sa,sb⟩)/\wi.heap=w2.heap/\Hid (Ext w2 wi)) (fun _ q _=>n-0-(intOf q).toNat)
    case atStart=>exact ⟨0,1,rfl,rfl,Zg _,rfl,by omega,Za (.inl rfl),Za (fun t ht=>(by obtain rfl:t=0:=(by omega);exact aE.out)),rfl,Za (Zf _)⟩
    case round =>
     obtain ⟨j,m,rfl,rfl,aq,ab,aL,aB,HA,aj,al⟩:=hrel
     have ac:=Za (au.out.trans al.out)
     have af:=Za (ax.out.trans al.out)
     have hx:l.getD j st0=⟨sk,sp,sa,sb⟩:=by
      have h9:=HA.out (m-1) (by omega)
      rw [show 0+(m-1)=j by omega] at h9
      exact h9
     obtain ⟨d1,d2,d3,d4⟩:=HC.out j (by omega)
     rw [hx] at d1 d2 d3 d4
     clear hx
     simp only at d1 d2 d3 d4
     replace d1:=(Zs (p:=⟨b,_,none⟩) ac.out ad).trans d1
     replace d2:=(Zs (p:=⟨b,_,none⟩) ac.out ad).trans d2
     replace d3:=(Zs (p:=⟨b,_,none⟩) ac.out ad).trans d3
     replace d4:=(Zs (p:=⟨b,_,none⟩) ac.out ad).trans d4
     have p0:(0:Int)<=(j:Int):=by omega
     have p1:(j:Int)<(n:Int):=by omega
     obtain ⟨j2,hj2⟩:∃j2,j2=j+1:=⟨_,rfl⟩
     have i1:IntKind.i64.wrap ((j:Int)+1)=(j2:Int):=by rw [Zh ((j:Int)+1) ⟨by omega,by omega⟩];omega
     rw [<-hj2] at ab
     have aG:=Za hj2
     have aa:=Za ab
     clear hj2 ab
     have i2:=Zh ((m:Int)+1) ⟨by omega,by omega⟩
     by_cases hk1:sk=1
     ·by_cases hkm:j2<n
      ·obtain ⟨e1,e2,e3,e4⟩:=HC.out j2 hkm
       replace e1:=(Zs (p:=⟨b,_,none⟩) ac.out ad).trans e1
       replace e2:=(Zs (p:=⟨b,_,none⟩) ac.out ad).trans e2
       replace e3:=(Zs (p:=⟨b,_,none⟩) ac.out ad).trans e3
       replace e4:=(Zs (p:=⟨b,_,none⟩) ac.out ad).trans e4
       have q2:(0:Int)<=(j2:Int):=by omega
       have q3:(j2:Int)<(n:Int):=by omega
       by_cases hxy:l.getD j2 st0=⟨sk,sp,sa,sb⟩
       ·rw [hxy] at e1 e2 e3 e4
        simp only at e1 e2 e3 e4
        have aw:=Za (show ∀t,t<m+1->l.getD (0+t) st0=⟨sk,sp,sa,sb⟩ from fun t ht=>by
         by_cases e:t=m
         ·subst e;rw [<-aa.out];exact hxy
         ·exact HA.out t (by omega))
        clear hxy
        subst hk1
        go_wp2_with fail
        go_quiet (fail)
        go_wp2
        go_roundw
        case rel=>exact ⟨j2,m+1,by go_num,by go_num,by omega,by have:=aa.out;omega,by have:=aa.out;omega,Za (by first | exact .inr rfl | exact .inr trivial),aw,aj,Za (Ext.drewN al.out _)⟩
        case measure=>have ab:=aa.out;simp [intOf] <;> omega
       ·generalize hy:l.getD j2 st0=y at *
        obtain ⟨y1,y2,y3,y4⟩:=y
        simp only at e1 e2 e3 e4
        have hne:=zbS (fun e=>hxy e)
        have ay:=Za hxy
        clear hxy
        subst hk1
        have HQ:=Za (show grp (l.drop 0)=(⟨1,sp,sa,sb⟩,m)::grp (l.drop (0+m)) by
         have h9:=zbz m (l.drop 0) ⟨1,sp,sa,sb⟩ aq (by rw [Zu,HL.out];omega) (fun t ht=>by rw [<-HA.out t ht];simp [List.getD_eq_getElem?_getD]) (.inr rfl) (.inr (.inr (by have h8:(l.drop 0).getD m st0=⟨y1,y2,y3,y4⟩:=(by rw [<-hy,aa.out];simp [List.getD_eq_getElem?_getD]);rw [h8];exact ay.out)))
         rw [h9,List.drop_drop])
        by_cases hm:m=1
        ·subst hm
         have HF:=Za (show (ws++[T])++(grp (l.drop (0+1))).map wordG=(grp l).map wordG by
          rw [<-HT.out,HQ.out,<-ae.out]
          simp)
         have ag:=Za (show j2=0+1 by have:=aa.out;omega)
         go_wp2_with fail
         go_quiet (fail)
         go_wp2_with fail
         go_roundw
         case rel=>exact ⟨G,0+1,ws++[T],rfl,by have:=ag.out;subst this;go_num,by omega,by omega,Za (by have:=HJ.out [];rw [ZC,ZC] at this;exact this.symm),Za (by simp),Za (Ext.drewN af.out _),HF⟩
         case measure=>have ab:=aa.out;simp [intOf] <;> omega
        ·have aC:(1:Int)<(m:Int):=by omega
         obtain ⟨D,hD⟩:∃D,decD m=D:=⟨_,rfl⟩
         obtain ⟨G2,hG2⟩:∃G2,G++D=G2:=⟨_,rfl⟩
         have ao:=Za (show ∀w',Calls Tryz.prog 42 #[.int .i64 (m:Int)] w' fun e w''=>e = .returned (.string ⟨D.toArray⟩)/\Ext w' w'' from fun w'=>by
          have h9:=zad m (by omega) w'
          rw [hD] at h9
          exact h9)
         have ai:(⟨G.toArray⟩++⟨D.toArray⟩:ByteArray)=⟨G2.toArray⟩:=by rw [<-hG2];exact zaa G D
         have ah:wordG (⟨1,sp,sa,sb⟩,m)=T++D:=by rw [wordG,if_pos (by simp only;omega),av.out,hD]
         have ap:=Za ah
         have dl:D.length<=20:=by rw [<-hD];exact zac m
         have g2l:G2.length<=200*0+121:=by rw [<-hG2,Zb];omega
         have an:=Za hG2
         clear hD hG2 ah
         have HF:=Za (show (ws++[T++D])++(grp (l.drop (0+m))).map wordG=(grp l).map wordG by
          rw [<-HT.out,HQ.out,Z6,ap.out]
          simp)
         go_wp2_with fail
         go_quiet (fail)
         go_wp2_with (go_at_call 42;(((with_reducible refine (ao.out _).mono ?_);rintro e w7 ⟨rfl,ak⟩;have am:=Za (af.out.trans (Zi (by repeat (first | exact Zf _ | refine Z2 ?_ | refine Ext.drewN ?_ _ | refine Zp ?_ _)) ak));clear ak)))
         go_roundw
         case rel=>exact ⟨G2,0+m,ws++[T++D],rfl,by rw [<-aa.out],by omega,by omega,Za (by rw [<-an.out];exact (HJ.out D).symm),Za (by simp <;> omega),am,HF⟩
         case measure=>have ab:=aa.out;simp [intOf] <;> omega
      ·have aA:¬((j2:Int)<(n:Int)):=by omega
       subst hk1
       have HQ:=Za (show grp (l.drop 0)=(⟨1,sp,sa,sb⟩,m)::grp (l.drop (0+m)) by
        have h9:=zbz m (l.drop 0) ⟨1,sp,sa,sb⟩ aq (by rw [Zu,HL.out];omega) (fun t ht=>by rw [<-HA.out t ht];simp [List.getD_eq_getElem?_getD]) (.inr rfl) (.inr (.inl (by have:=aa.out;rw [Zu,HL.out];omega)))
        rw [h9,List.drop_drop])
       by_cases hm:m=1
       ·subst hm
        have HF:=Za (show (ws++[T])++(grp (l.drop (0+1))).map wordG=(grp l).map wordG by
         rw [<-HT.out,HQ.out,<-ae.out]
         simp)
        have ag:=Za (show j2=0+1 by have:=aa.out;omega)
        go_wp2_with fail
        go_quiet (fail)
        go_wp2_with fail
        go_roundw
        case rel=>exact ⟨G,0+1,ws++[T],rfl,by have:=ag.out;subst this;go_num,by omega,by omega,Za (by have:=HJ.out [];rw [ZC,ZC] at this;exact this.symm),Za (by simp),Za (Ext.drewN af.out _),HF⟩
        case measure=>have ab:=aa.out;simp [intOf] <;> omega
       ·have aC:(1:Int)<(m:Int):=by omega
        obtain ⟨D,hD⟩:∃D,decD m=D:=⟨_,rfl⟩
        obtain ⟨G2,hG2⟩:∃G2,G++D=G2:=⟨_,rfl⟩
        have ao:=Za (show ∀w',Calls Tryz.prog 42 #[.int .i64 (m:Int)] w' fun e w''=>e = .returned (.string ⟨D.toArray⟩)/\Ext w' w'' from fun w'=>by
         have h9:=zad m (by omega) w'
         rw [hD] at h9
         exact h9)
        have ai:(⟨G.toArray⟩++⟨D.toArray⟩:ByteArray)=⟨G2.toArray⟩:=by rw [<-hG2];exact zaa G D
        have ah:wordG (⟨1,sp,sa,sb⟩,m)=T++D:=by rw [wordG,if_pos (by simp only;omega),av.out,hD]
        have ap:=Za ah
        have dl:D.length<=20:=by rw [<-hD];exact zac m
        have g2l:G2.length<=200*0+121:=by rw [<-hG2,Zb];omega
        have an:=Za hG2
        clear hD hG2 ah
        have HF:=Za (show (ws++[T++D])++(grp (l.drop (0+m))).map wordG=(grp l).map wordG by
         rw [<-HT.out,HQ.out,Z6,ap.out]
         simp)
        go_wp2_with fail
        go_quiet (fail)
        go_wp2_with (go_at_call 42;(((with_reducible refine (ao.out _).mono ?_);rintro e w7 ⟨rfl,ak⟩;have am:=Za (af.out.trans (Zi (by repeat (first | exact Zf _ | refine Z2 ?_ | refine Ext.drewN ?_ _ | refine Zp ?_ _)) ak));clear ak)))
        go_roundw
        case rel=>exact ⟨G2,0+m,ws++[T++D],rfl,by rw [<-aa.out],by omega,by omega,Za (by rw [<-an.out];exact (HJ.out D).symm),Za (by simp <;> omega),am,HF⟩
        case measure=>have ab:=aa.out;simp [intOf] <;> omega
     ·have aK:(sk==1)=false:=by simpa using hk1
      have HK:=Za hk1
      obtain rfl:m=1:=by rcases aB.out with h | h <;> first | exact h | exact absurd h hk1
      clear hk1
      have HQ:=Za (show grp (l.drop 0)=(⟨sk,sp,sa,sb⟩,1)::grp (l.drop (0+1)) by
       have h9:=zbz 1 (l.drop 0) ⟨sk,sp,sa,sb⟩ aq (by rw [Zu,HL.out];omega) (fun t ht=>by rw [<-HA.out t ht];simp [List.getD_eq_getElem?_getD]) (.inl rfl) (.inl HK.out)
       rw [h9,List.drop_drop])
      have HF:=Za (show (ws++[T])++(grp (l.drop (0+1))).map wordG=(grp l).map wordG by
       rw [<-HT.out,HQ.out,<-ae.out]
       simp)
      have ag:=Za (show j2=0+1 by have:=aa.out;omega)
      go_wp2_with fail
      go_quiet (fail)
      go_wp2_with fail
      go_roundw
      case rel=>exact ⟨G,0+1,ws++[T],rfl,by have:=ag.out;subst this;go_num,by omega,by omega,Za (by have:=HJ.out [];rw [ZC,ZC] at this;exact this.symm),Za (by simp),Za (Ext.drewN af.out _),HF⟩
      case measure=>have ab:=aa.out;simp [intOf] <;> omega
   ·have ar:¬ws=[]:=fun h=>hk0 (HW.out.2 h)
    obtain ⟨S1,hS1⟩:∃S1,S++[32]=S1:=⟨_,rfl⟩
    obtain ⟨G,hG⟩:∃G,S1++T=G:=⟨_,rfl⟩
    have hcat1:(⟨S.toArray⟩++⟨#[32]⟩:ByteArray)=⟨S1.toArray⟩:=by rw [<-hS1];exact zaa S [32]
    have az:(⟨S1.toArray⟩++⟨T.toArray⟩:ByteArray)=⟨G.toArray⟩:=by rw [<-hG];exact zaa S1 T
    have hs1l:S1.length<=200*k+1:=by rw [<-hS1,Zb];simp;omega
    have HJ:=Za (show ∀x,joinB 32 (ws++[T++x])=G++x from fun x=>by rw [zfz,if_neg ar,<-hG,<-hS1,HS.out];simp)
    have aJ:G.length<=200*k+101:=by rw [<-hG,Zb];omega
    have q9:(0:Int)<(k:Int):=by omega
    clear hG ar hS1
    go_wp2_with (go_at_call 139;(((with_reducible refine (aF.out _).mono ?_);rintro e w2 ⟨rfl,hq2⟩;have au:=Za hq2;clear hq2)))
    have ax:=Za (HE.out.trans au.out)
    go_loopw [4,5] (fun i q wi=>∃(j m:Nat),i = .int .i64 j/\q = .int .i64 m/\1<=m/\j+1=k+m/\k+m<=n/\Hid (m=1∨sk=1)/\Hid (∀t,t<m->l.getD (k+t) st0=⟨sk,sp,sa,sb⟩)/\wi.heap=w2.heap/\Hid (Ext w2 wi)) (fun _ q _=>n-k-(intOf q).toNat)
    case atStart=>exact ⟨k,1,rfl,rfl,Zg _,rfl,by omega,Za (.inl rfl),Za (fun t ht=>(by obtain rfl:t=0:=(by omega);exact aE.out)),rfl,Za (Zf _)⟩
    case round =>
     obtain ⟨j,m,rfl,rfl,aq,ab,aL,aB,HA,aj,al⟩:=hrel
     have ac:=Za (au.out.trans al.out)
     have af:=Za (ax.out.trans al.out)
     have hx:l.getD j st0=⟨sk,sp,sa,sb⟩:=by
      have h9:=HA.out (m-1) (by omega)
      rw [show k+(m-1)=j by omega] at h9
      exact h9
     obtain ⟨d1,d2,d3,d4⟩:=HC.out j (by omega)
     rw [hx] at d1 d2 d3 d4
     clear hx
     simp only at d1 d2 d3 d4
     replace d1:=(Zs (p:=⟨b,_,none⟩) ac.out ad).trans d1
     replace d2:=(Zs (p:=⟨b,_,none⟩) ac.out ad).trans d2
     replace d3:=(Zs (p:=⟨b,_,none⟩) ac.out ad).trans d3
     replace d4:=(Zs (p:=⟨b,_,none⟩) ac.out ad).trans d4
     have p0:(0:Int)<=(j:Int):=by omega
     have p1:(j:Int)<(n:Int):=by omega
     obtain ⟨j2,hj2⟩:∃j2,j2=j+1:=⟨_,rfl⟩
     have i1:IntKind.i64.wrap ((j:Int)+1)=(j2:Int):=by rw [Zh ((j:Int)+1) ⟨by omega,by omega⟩];omega
     rw [<-hj2] at ab
     have aG:=Za hj2
     have aa:=Za ab
     clear hj2 ab
     have i2:=Zh ((m:Int)+1) ⟨by omega,by omega⟩
     by_cases hk1:sk=1
     ·by_cases hkm:j2<n
      ·obtain ⟨e1,e2,e3,e4⟩:=HC.out j2 hkm
       replace e1:=(Zs (p:=⟨b,_,none⟩) ac.out ad).trans e1
       replace e2:=(Zs (p:=⟨b,_,none⟩) ac.out ad).trans e2
       replace e3:=(Zs (p:=⟨b,_,none⟩) ac.out ad).trans e3
       replace e4:=(Zs (p:=⟨b,_,none⟩) ac.out ad).trans e4
       have q2:(0:Int)<=(j2:Int):=by omega
       have q3:(j2:Int)<(n:Int):=by omega
       by_cases hxy:l.getD j2 st0=⟨sk,sp,sa,sb⟩
       ·rw [hxy] at e1 e2 e3 e4
        simp only at e1 e2 e3 e4
        have aw:=Za (show ∀t,t<m+1->l.getD (k+t) st0=⟨sk,sp,sa,sb⟩ from fun t ht=>by
         by_cases e:t=m
         ·subst e;rw [<-aa.out];exact hxy
         ·exact HA.out t (by omega))
        clear hxy
        subst hk1
        go_wp2_with fail
        go_quiet (fail)
        go_wp2
        go_roundw
        case rel=>exact ⟨j2,m+1,by go_num,by go_num,by omega,by have:=aa.out;omega,by have:=aa.out;omega,Za (by first | exact .inr rfl | exact .inr trivial),aw,aj,Za (Ext.drewN al.out _)⟩
        case measure=>have ab:=aa.out;simp [intOf] <;> omega
       ·generalize hy:l.getD j2 st0=y at *
        obtain ⟨y1,y2,y3,y4⟩:=y
        simp only at e1 e2 e3 e4
        have hne:=zbS (fun e=>hxy e)
        have ay:=Za hxy
        clear hxy
        subst hk1
        have HQ:=Za (show grp (l.drop k)=(⟨1,sp,sa,sb⟩,m)::grp (l.drop (k+m)) by
         have h9:=zbz m (l.drop k) ⟨1,sp,sa,sb⟩ aq (by rw [Zu,HL.out];omega) (fun t ht=>by rw [<-HA.out t ht];simp [List.getD_eq_getElem?_getD]) (.inr rfl) (.inr (.inr (by have h8:(l.drop k).getD m st0=⟨y1,y2,y3,y4⟩:=(by rw [<-hy,aa.out];simp [List.getD_eq_getElem?_getD]);rw [h8];exact ay.out)))
         rw [h9,List.drop_drop])
        by_cases hm:m=1
        ·subst hm
         have HF:=Za (show (ws++[T])++(grp (l.drop (k+1))).map wordG=(grp l).map wordG by
          rw [<-HT.out,HQ.out,<-ae.out]
          simp)
         have ag:=Za (show j2=k+1 by have:=aa.out;omega)
         go_wp2_with fail
         go_quiet (fail)
         go_wp2_with fail
         go_roundw
         case rel=>exact ⟨G,k+1,ws++[T],rfl,by have:=ag.out;subst this;go_num,by omega,by omega,Za (by have:=HJ.out [];rw [ZC,ZC] at this;exact this.symm),Za (by simp),Za (Ext.drewN af.out _),HF⟩
         case measure=>have ab:=aa.out;simp [intOf] <;> omega
        ·have aC:(1:Int)<(m:Int):=by omega
         obtain ⟨D,hD⟩:∃D,decD m=D:=⟨_,rfl⟩
         obtain ⟨G2,hG2⟩:∃G2,G++D=G2:=⟨_,rfl⟩
         have ao:=Za (show ∀w',Calls Tryz.prog 42 #[.int .i64 (m:Int)] w' fun e w''=>e = .returned (.string ⟨D.toArray⟩)/\Ext w' w'' from fun w'=>by
          have h9:=zad m (by omega) w'
          rw [hD] at h9
          exact h9)
         have ai:(⟨G.toArray⟩++⟨D.toArray⟩:ByteArray)=⟨G2.toArray⟩:=by rw [<-hG2];exact zaa G D
         have ah:wordG (⟨1,sp,sa,sb⟩,m)=T++D:=by rw [wordG,if_pos (by simp only;omega),av.out,hD]
         have ap:=Za ah
         have dl:D.length<=20:=by rw [<-hD];exact zac m
         have g2l:G2.length<=200*k+121:=by rw [<-hG2,Zb];omega
         have an:=Za hG2
         clear hD hG2 ah
         have HF:=Za (show (ws++[T++D])++(grp (l.drop (k+m))).map wordG=(grp l).map wordG by
          rw [<-HT.out,HQ.out,Z6,ap.out]
          simp)
         go_wp2_with fail
         go_quiet (fail)
         go_wp2_with (go_at_call 42;(((with_reducible refine (ao.out _).mono ?_);rintro e w7 ⟨rfl,ak⟩;have am:=Za (af.out.trans (Zi (by repeat (first | exact Zf _ | refine Z2 ?_ | refine Ext.drewN ?_ _ | refine Zp ?_ _)) ak));clear ak)))
         go_roundw
         case rel=>exact ⟨G2,k+m,ws++[T++D],rfl,by rw [<-aa.out],by omega,by omega,Za (by rw [<-an.out];exact (HJ.out D).symm),Za (by simp <;> omega),am,HF⟩
         case measure=>have ab:=aa.out;simp [intOf] <;> omega
      ·have aA:¬((j2:Int)<(n:Int)):=by omega
       subst hk1
       have HQ:=Za (show grp (l.drop k)=(⟨1,sp,sa,sb⟩,m)::grp (l.drop (k+m)) by
        have h9:=zbz m (l.drop k) ⟨1,sp,sa,sb⟩ aq (by rw [Zu,HL.out];omega) (fun t ht=>by rw [<-HA.out t ht];simp [List.getD_eq_getElem?_getD]) (.inr rfl) (.inr (.inl (by have:=aa.out;rw [Zu,HL.out];omega)))
        rw [h9,List.drop_drop])
       by_cases hm:m=1
       ·subst hm
        have HF:=Za (show (ws++[T])++(grp (l.drop (k+1))).map wordG=(grp l).map wordG by
         rw [<-HT.out,HQ.out,<-ae.out]
         simp)
        have ag:=Za (show j2=k+1 by have:=aa.out;omega)
        go_wp2_with fail
        go_quiet (fail)
        go_wp2_with fail
        go_roundw
        case rel=>exact ⟨G,k+1,ws++[T],rfl,by have:=ag.out;subst this;go_num,by omega,by omega,Za (by have:=HJ.out [];rw [ZC,ZC] at this;exact this.symm),Za (by simp),Za (Ext.drewN af.out _),HF⟩
        case measure=>have ab:=aa.out;simp [intOf] <;> omega
       ·have aC:(1:Int)<(m:Int):=by omega
        obtain ⟨D,hD⟩:∃D,decD m=D:=⟨_,rfl⟩
        obtain ⟨G2,hG2⟩:∃G2,G++D=G2:=⟨_,rfl⟩
        have ao:=Za (show ∀w',Calls Tryz.prog 42 #[.int .i64 (m:Int)] w' fun e w''=>e = .returned (.string ⟨D.toArray⟩)/\Ext w' w'' from fun w'=>by
         have h9:=zad m (by omega) w'
         rw [hD] at h9
         exact h9)
        have ai:(⟨G.toArray⟩++⟨D.toArray⟩:ByteArray)=⟨G2.toArray⟩:=by rw [<-hG2];exact zaa G D
        have ah:wordG (⟨1,sp,sa,sb⟩,m)=T++D:=by rw [wordG,if_pos (by simp only;omega),av.out,hD]
        have ap:=Za ah
        have dl:D.length<=20:=by rw [<-hD];exact zac m
        have g2l:G2.length<=200*k+121:=by rw [<-hG2,Zb];omega
        have an:=Za hG2
        clear hD hG2 ah
        have HF:=Za (show (ws++[T++D])++(grp (l.drop (k+m))).map wordG=(grp l).map wordG by
         rw [<-HT.out,HQ.out,Z6,ap.out]
         simp)
        go_wp2_with fail
        go_quiet (fail)
        go_wp2_with (go_at_call 42;(((with_reducible refine (ao.out _).mono ?_);rintro e w7 ⟨rfl,ak⟩;have am:=Za (af.out.trans (Zi (by repeat (first | exact Zf _ | refine Z2 ?_ | refine Ext.drewN ?_ _ | refine Zp ?_ _)) ak));clear ak)))
        go_roundw
        case rel=>exact ⟨G2,k+m,ws++[T++D],rfl,by rw [<-aa.out],by omega,by omega,Za (by rw [<-an.out];exact (HJ.out D).symm),Za (by simp <;> omega),am,HF⟩
        case measure=>have ab:=aa.out;simp [intOf] <;> omega
     ·have aK:(sk==1)=false:=by simpa using hk1
      have HK:=Za hk1
      obtain rfl:m=1:=by rcases aB.out with h | h <;> first | exact h | exact absurd h hk1
      clear hk1
      have HQ:=Za (show grp (l.drop k)=(⟨sk,sp,sa,sb⟩,1)::grp (l.drop (k+1)) by
       have h9:=zbz 1 (l.drop k) ⟨sk,sp,sa,sb⟩ aq (by rw [Zu,HL.out];omega) (fun t ht=>by rw [<-HA.out t ht];simp [List.getD_eq_getElem?_getD]) (.inl rfl) (.inl HK.out)
       rw [h9,List.drop_drop])
      have HF:=Za (show (ws++[T])++(grp (l.drop (k+1))).map wordG=(grp l).map wordG by
       rw [<-HT.out,HQ.out,<-ae.out]
       simp)
      have ag:=Za (show j2=k+1 by have:=aa.out;omega)
      go_wp2_with fail
      go_quiet (fail)
      go_wp2_with fail
      go_roundw
      case rel=>exact ⟨G,k+1,ws++[T],rfl,by have:=ag.out;subst this;go_num,by omega,by omega,Za (by have:=HJ.out [];rw [ZC,ZC] at this;exact this.symm),Za (by simp),Za (Ext.drewN af.out _),HF⟩
      case measure=>have ab:=aa.out;simp [intOf] <;> omega
  ·obtain rfl:k=n:=by omega
   have aI:=Za (show ws=(grp l).map wordG by
    have h9:=HT.out
    rw [Z3 (Nat.le_of_eq HL.out)] at h9
    simpa [grp] using h9)
   have aH:=Za (show S=textL l by rw [HS.out,aI.out];rfl)
   go_wp2_with fail
   go_ret
   exact ⟨by rw [aH.out];rfl,HE.out⟩
end Go.Proofs.YtkneghkbgingdaaGreatDoor
/- The reference's Parse. -/
namespace Go.Proofs.YtkneghkbgingdaaGreatDoor
set_option maxRecDepth 100000
open Go.RowKit Go.ChangeShapes Go.WideShapes Go.Joins
theorem zfR {k:Int} {p:Bool} {P:List (List UInt8)} {L:List St} (h:refParts k p P=some L):L.length<=300:=by
 unfold refParts at h
 repeat' split at h
 ·obtain ⟨b, -,h2⟩:=ZO.1 h
  obtain ⟨a, -,h3⟩:=ZO.1 h2
  cases h3
  simp
 ·cases h
 ·obtain ⟨a, -,h3⟩:=ZO.1 h
  cases h3
  simp
 ·cases h
theorem zgR {l:List UInt8} {L:List St} (h:refWord l=some L):L.length<=300:=by
 unfold refWord at h
 repeat' split at h
 all_goals first
  | (cases h;done)
  | (cases h;simp;done)
  | exact zfR h
  | (obtain ⟨a, -,h3⟩:=ZO.1 h;cases h3;simp;done)
  | (cases h;simp;omega)
theorem zmH {ws:List (List UInt8)} {k:Nat} (hk:k<ws.length) (acc:List St):rparseGo acc (ws.drop k)=match refWord (ws.getD k []) with
  | none=>none
  | some l=>if 200<(acc++l).length then none else rparseGo (acc++l) (ws.drop (k+1)):=by
 rw [Z5 hk,rparseGo,Zc,Zd hk]
 rfl
theorem zi1 {s:List UInt8} {acc:List St} (hs:s.length<=3000) (h0:s≠[]) (h:rparseGo [] (spl 32 s)=some acc):parseL s=if allE acc=0/\textL acc=s then some acc else none:=by
 rw [<-zfY,rparseL,if_neg (by omega),rparseW,if_neg h0,h]
 rfl
theorem zi0 {s:List UInt8} (hs:s.length<=3000) (h0:s≠[]) (h:rparseGo [] (spl 32 s)=none):parseL s=none:=by
 rw [<-zfY,rparseL,if_neg (by omega),rparseW,if_neg h0,h]
 rfl
def ParseX (s:List UInt8) (w:World) (e:Ending) (w':World):Prop:=∃(A:Option Addr) (n c:Nat),e = .returned (.tuple #[.slice A n c,.int .i64 (parseE s)])/\Ext w w'/\Vec shSt w' A n (parseV s)
theorem ParseR.x {s:List UInt8} {w:World} {e:Ending} {w':World} (h:ParseR s w e w'):ParseX s w e w':=by
 obtain ⟨v,rfl,h1,h2⟩:=h
 obtain ⟨A,c,rfl,h3⟩:=zav h1
 exact ⟨A,_,c,rfl,h2,h3⟩
theorem zgU (l:List UInt8) (hl:3000<l.length) (h:(l.length:Int)<=1000000000) (w:World):Calls Tryz.prog 88 #[.string ⟨l.toArray⟩] w (ParseR l w):=by
 have h1:=Za (show parseL l=none by rw [parseL,if_pos hl])
 have h2:(3000:Int)<(l.length:Int):=by omega
 clear hl
 go_enter Tryz.func88,Tryz.ntmps88
 go_wp2_with fail
 go_ret2
 exact zay h1.out zx
theorem zi3 (w:World):Calls Tryz.prog 88 #[.string ⟨([]:List UInt8).toArray⟩] w (ParseR [] w):=by
 have HF:=Za (show parseL []=some [] by decide +kernel)
 go_enter Tryz.func88,Tryz.ntmps88
 go_wp2_with fail
 go_ret2
 exact zb3 HF.out (OwnV.nil _ _ _ _) zx
theorem zgV (l:List UInt8) (h0:l≠[]) (hl:l.length<=3000) (w:World):Calls Tryz.prog 88 #[.string ⟨l.toArray⟩] w (ParseR l w):=by
 have HS:=Za (show Calls Tryz.prog 31 #[.string ⟨l.toArray⟩,.int .u8 32] w fun e w''=>∃v,e = .returned v/\OwnV shStr w'' w.heap.size 9 v (spl 32 l).length (spl 32 l)/\Ext w w'' from zbL 32 l (by omega) w)
 have aC:=zaF 32 l
 have aq:=Za (fun (acc:List St) (h:rparseGo [] (spl 32 l)=some acc)=>zi1 hl h0 h)
 have al:=Za (fun (h:rparseGo [] (spl 32 l)=none)=>zi0 hl h0 h)
 generalize spl 32 l=ws at *
 obtain ⟨hw1,ax⟩:=aC
 have HW:=Za ax
 obtain ⟨n,hn⟩:∃n,ws.length=n:=⟨_,rfl⟩
 rw [hn] at HS
 have hn2:n<=3001:=by omega
 have hlen:¬(3000:Int)<(l.length:Int):=by omega
 have hE:(l==[])=false:=by simpa using h0
 clear ax h0
 go_enter Tryz.func88,Tryz.ntmps88
 go_wp2_with (go_at_call 31;((with_reducible refine HS.out.mono ?_);rintro e w1 ⟨v1,rfl,hv1,hq1⟩;obtain ⟨A1,c1,rfl,aB, -⟩:=zaf hv1;have am:=Za hq1;have HV1:=Za hv1;clear hq1 hv1 aB))
 go_loopw [5,6] (fun u i wr=>∃(V:Value) (k:Nat) (acc:List St),V=u/\i = .int .i64 k/\k<=n/\acc.length<=200/\Hid (OwnV shSt wr w1.heap.size 132 V acc.length acc)/\Hid (Ext w1 wr)/\Hid (rparseGo [] ws=rparseGo acc (ws.drop k))) (fun _ i _=>n-(intOf i).toNat)
 case atStart=>exact ⟨_,0,[],rfl,rfl,Zy _,by simp,Za (OwnV.nil _ _ _ _),Za (Zf _),Za rfl⟩
 case round =>
  obtain ⟨V,k,acc,rfl,rfl,hk,aA,HV,aj,HP⟩:=hrel
  have HE:=Za (am.out.trans aj.out)
  obtain ⟨A9,c9,rfl,aw, -⟩:=zaf HV.out
  have au:=Za aw
  clear aw
  by_cases hlt:k<n
  ·obtain ⟨b3,off3,rfl, -,ap,av⟩:=zbF HV1.out (by omega)
   have af:=(Zs (p:=⟨b3,off3+k,none⟩) aj.out ap).trans (av k hlt)
   have hz:=Zn wr _ af
   clear av
   have hd:=HP.out.trans (zmH (ws:=ws) (k:=k) (by omega) acc)
   have ay:=HW.out (ws.getD k []) (by rw [Zc,Zd (by omega)];exact List.getElem_mem _)
   generalize ws.getD k []=x at *
   have q5:(k:Int)<(n:Int):=by omega
   have q4:(0:Int)<=(k:Int):=by omega
   cases hrw:refWord x with
   | none =>
    have HR:=Za (show ∀w',Calls Tryz.prog 123 #[.string ⟨x.toArray⟩] w' (WordR none w') from fun w'=>by rw [<-hrw];exact zc0 x (by omega) w')
    rw [hrw] at hd
    have HF:=Za (al.out hd)
    clear hd hrw ay HP HW
    go_wp2_with (go_at_call 123;((with_reducible refine (HR.out _).mono ?_);rintro e w2 ⟨A2,n2,c2,rfl,hq2, -⟩;have ab:=Za (HE.out.trans hq2);clear hq2))
    go_ret2
    exact zay HF.out ab.out
   | some L =>
    have hL3:=zgR hrw
    have HR:=Za (show ∀w',Calls Tryz.prog 123 #[.string ⟨x.toArray⟩] w' (WordR (some L) w') from fun w'=>by rw [<-hrw];exact zc0 x (by omega) w')
    rw [hrw] at hd
    simp only at hd
    have HD:=Za hd
    clear hd hrw ay HP HW
    obtain ⟨m,hm⟩:∃m,L.length=m:=⟨_,rfl⟩
    by_cases h2:acc.length+m<=200
    ·have q6:¬((200:Int)<(acc.length:Int)+(m:Int)):=by omega
     have HF:=Za (HD.out.trans (if_neg (by rw [Zb];omega)))
     clear HD
     go_wp2_with (first
      | (go_at_call 123;((with_reducible refine (HR.out _).mono ?_);rintro e w2 ⟨A2,n2,c2,rfl,hq2,hv2⟩;obtain rfl:n2=m:=(by have:=(hv2 L rfl).1;omega);have ab:=Za (aj.out.trans hq2);have ad:=Za hq2;have ao:=Za (hv2 L rfl);clear hq2 hv2))
      | (at_builtin;(refine zab (S:=shSt) (w:=w1) (xs:=L) 73 132 (.agg #[.int .u8 0,.bool false,.int .i64 0,.int .i64 0]) 24 (by rfl) (by rfl) Tryz.underlying73 za2 (by rfl) (by omega) (by rfl) (by rfl) (OwnV.ext HV.out ad.out) ab.out ao.out (by omega) ?_;intro v' w6 aa ac ah;obtain ⟨A6,c6,rfl, -, -⟩:=zaf aa)))
     have HN:=Za (show OwnV shSt w6 w1.heap.size 132 (.slice A6 (acc.length+n2) c6) (acc++L).length (acc++L) by
      rw [Zb,hm]
      exact aa)
     clear aa ah
     go_roundw
     case rel=>exact ⟨_,k+1,acc++L,rfl,by go_num,by omega,by rw [Zb];omega,HN,ac,HF⟩
     case measure=>simp [intOf] <;> omega
    ·have q6:(200:Int)<(acc.length:Int)+(m:Int):=by omega
     have HF:=Za (al.out (HD.out.trans (if_pos (by rw [Zb];omega))))
     clear HD
     go_wp2_with (first
      | (go_at_call 123;((with_reducible refine (HR.out _).mono ?_);rintro e w2 ⟨A2,n2,c2,rfl,hq2,hv2⟩;obtain rfl:n2=m:=(by have:=(hv2 L rfl).1;omega);have ab:=Za (aj.out.trans hq2);have ad:=Za hq2;have ao:=Za (hv2 L rfl);clear hq2 hv2))
      | (at_builtin;(refine zab (S:=shSt) (w:=w1) (xs:=L) 73 132 (.agg #[.int .u8 0,.bool false,.int .i64 0,.int .i64 0]) 24 (by rfl) (by rfl) Tryz.underlying73 za2 (by rfl) (by omega) (by rfl) (by rfl) (OwnV.ext HV.out ad.out) ab.out ao.out (by omega) ?_;intro v' w6 aa ac ah;obtain ⟨A6,c6,rfl, -, -⟩:=zaf aa)))
     go_ret2
     exact zay HF.out (am.out.trans ac.out)
  ·obtain rfl:k=n:=by omega
   have ag:rparseGo [] ws=some acc:=by
    have h9:=HP.out
    rw [Z3 (by omega)] at h9
    exact h9
   have HL:=Za (aq.out acc ag)
   have an:=Za (fun (w':World) (hb:Ext wr w')=>zcp acc.length c9 A9 acc w' (au.out.ext hb) (by unfold maxLen;omega))
   clear ag HP aq al HW
   by_cases hA:allE acc=0
   ·have ar:=Za (fun (w':World) (hb:Ext wr w')=>zbd acc.length c9 A9 acc w' (au.out.ext hb) aA (za8 hA).2.1)
    by_cases hT:textL acc=l
    ·have HF:=Za (HL.out.trans (if_pos (And.intro hA hT)))
     have ak:=Za hA
     have az:=Za hT
     clear hA hT
     go_wp2_with (first
      | (go_at_call 90;((with_reducible refine (an.out _ (Zf _)).mono ?_);rintro e w2 ⟨rfl,hq2⟩;rw [ak.out];have ab:=Za hq2;clear hq2))
      | (go_at_call 108;((with_reducible refine (ar.out _ ab.out).mono ?_);rintro e w3 ⟨rfl,ai⟩;rw [az.out];have ad:=Za (ab.out.trans ai);clear ai)))
     go_ret2
     exact zb3 HF.out ((OwnV.down HV.out am.out.size).ext ad.out) (HE.out.trans ad.out)
    ·have HF:=Za (HL.out.trans (if_neg (fun h=>hT h.2)))
     have ak:=Za hA
     have hT2:(textL acc==l)=false:=by simpa using hT
     clear hA hT
     generalize textL acc=T at *
     go_wp2_with (first
      | (go_at_call 90;((with_reducible refine (an.out _ (Zf _)).mono ?_);rintro e w2 ⟨rfl,hq2⟩;rw [ak.out];have ab:=Za hq2;clear hq2))
      | (go_at_call 108;((with_reducible refine (ar.out _ ab.out).mono ?_);rintro e w3 ⟨rfl,ai⟩;have ad:=Za (ab.out.trans ai);clear ai)))
     go_ret2
     exact zay HF.out (HE.out.trans ad.out)
   ·have HF:=Za (HL.out.trans (if_neg (fun h=>hA h.1)))
    generalize hae:allE acc=ae at *
    have hb8:(ae != 0)=true:=by simpa using hA
    clear hA
    go_wp2_with (first
     | (go_at_call 90;((with_reducible refine (an.out _ (Zf _)).mono ?_);rintro e w2 ⟨rfl,hq2⟩;have ab:=Za hq2;clear hq2)))
    go_ret2
    exact zay HF.out (HE.out.trans ab.out)
theorem zi4 (l:List UInt8) (hl:l.length<=1000000000) (w:World):Calls Tryz.prog 88 #[.string ⟨l.toArray⟩] w (ParseR l w):=by
 by_cases h:3000<l.length
 ·exact zgU l h (by omega) w
 ·cases l with
  | nil=>exact zi3 w
  | cons c r=>exact zgV _ (by simp) (by omega) w
end Go.Proofs.YtkneghkbgingdaaGreatDoor
