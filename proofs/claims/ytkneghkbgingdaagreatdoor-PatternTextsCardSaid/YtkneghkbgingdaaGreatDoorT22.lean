/- What the reference reads of a word. -/
import Derived.Test.YtkneghkbgingdaaGreatDoorT21
import Derived.Test.YtkneghkbgingdaaGreatDoorT13
set_option maxHeartbeats 16000000
namespace Go.Proofs.YtkneghkbgingdaaGreatDoor
set_option maxRecDepth 100000
open Go.RowKit
def WordR (x:Option (List St)) (w:World) (e:Ending) (w':World):Prop:=∃(A:Option Addr) (n c:Nat),e = .returned (.tuple #[.slice A n c,.bool x.isSome])/\Ext w w'/\(∀L,x=some L->Vec shSt w' A n L)
theorem WordR.no {x:Option (List St)} {A:Option Addr} {n c:Nat} {w w':World} (h:x=none) (hb:Ext w w'):WordR x w (.returned (.tuple #[.slice A n c,.bool false])) w':=by
 subst h
 exact ⟨A,n,c,rfl,hb,fun L h=>by cases h⟩
theorem WordR.yes {x:Option (List St)} {L:List St} {A:Option Addr} {n c:Nat} {w w':World} (h:x=some L) (hv:Vec shSt w' A n L) (hb:Ext w w'):WordR x w (.returned (.tuple #[.slice A n c,.bool true])) w':=by
 subst h
 exact ⟨A,n,c,rfl,hb,fun L' h=>by cases h;exact hv⟩
theorem zpD {p:Prop} (h:p:=by
 go_enter Tryz.func123,Tryz.ntmps123
 go_wp2_with fail
 go_ret2
 exact WordR.yes rfl (Vec.lit2 (by simp) rfl rfl) zx):p:=h
theorem zoE (w:World):Calls Tryz.prog 123 #[.string ⟨([121,111]:List UInt8).toArray⟩] w (WordR (some [⟨2,false,0,0⟩]) w):=by
 exact zpD
theorem zna (w:World):Calls Tryz.prog 123 #[.string ⟨([]:List UInt8).toArray⟩] w (WordR none w):=by
 go_enter Tryz.func123,Tryz.ntmps123
 go_wp2_with fail
 go_ret2
 exact WordR.no rfl zx
theorem zoD (l R:List UInt8) (hE:(l==[121,111])=false) (h2:(2:Int)<(l.length:Int)) (hp:(l.take 2==[111,110])=true) (hx:(⟨l.toArray⟩:ByteArray).extract 2 l.length=⟨R.toArray⟩) (hl:R.length<=100000) (w:World) :
  Calls Tryz.prog 123 #[.string ⟨l.toArray⟩] w (WordR ((numS R).bind fun a=>some [⟨9,false,a,0⟩]) w):=by
 have HN:=Za (fun w'=>zae R hl w')
 have hx0:=zar l 2
 cases hn:numS R with
 | none =>
  have HS:=Za (show numN R=0/\(numS R).isSome=false by unfold numN;rw [hn];exact ⟨rfl,rfl⟩)
  clear hn
  go_enter Tryz.func123,Tryz.ntmps123
  go_wp2_with (go_at_call 83;((with_reducible refine (HN.out _).mono ?_);rintro e w1 ⟨rfl,hq1⟩;rw [HS.out.1,HS.out.2]))
  go_ret2
  exact WordR.no rfl zx
 | some a =>
  have HS:=Za (show numN R=(a:Int)/\(numS R).isSome=true by unfold numN;rw [hn];exact ⟨rfl,rfl⟩)
  clear hn
  go_enter Tryz.func123,Tryz.ntmps123
  go_wp2_with (go_at_call 83;((with_reducible refine (HN.out _).mono ?_);rintro e w1 ⟨rfl,hq1⟩;rw [HS.out.1,HS.out.2]))
  go_ret2
  exact WordR.yes rfl (Vec.lit2 (by simp) rfl rfl) zx
theorem zm9 (l:List UInt8) (c:UInt8) (hE:(l==[121,111])=false) (hp:(l.take 2==[111,110])=false) (h0:∀h,(⟨l.toArray⟩:ByteArray)[0]'h=c) (hl0:¬(l.length:Int)=0) (hk:((c.toNat:Int) != 107)=true) (hq:((c.toNat:Int) != 112)=true) (w:World) :
  Calls Tryz.prog 123 #[.string ⟨l.toArray⟩] w (WordR none w):=by
 have hx0:=zar l 2
 have hl1:(0:Int)<(l.length:Int):=by omega
 by_cases h2:(2:Int)<(l.length:Int)
 ·go_enter Tryz.func123,Tryz.ntmps123
  go_wp2_with fail
  all_goals (go_ret2;exact WordR.no rfl zx)
 ·go_enter Tryz.func123,Tryz.ntmps123
  go_wp2_with fail
  all_goals (go_ret2;exact WordR.no rfl zx)
theorem zjl (l:List UInt8) (c:UInt8) (hE:(l==[121,111])=false) (h2:¬(2:Int)<(l.length:Int)) (h0:∀h,(⟨l.toArray⟩:ByteArray)[0]'h=c) (hl0:¬(l.length:Int)=0) (hk:((c.toNat:Int) != 107)=true) (hq:((c.toNat:Int) != 112)=true) (w:World) :
  Calls Tryz.prog 123 #[.string ⟨l.toArray⟩] w (WordR none w):=by
 have hl1:(0:Int)<(l.length:Int):=by omega
 go_enter Tryz.func123,Tryz.ntmps123
 go_wp2_with fail
 all_goals (go_ret2;exact WordR.no rfl zx)
theorem zgm (w:World):Calls Tryz.prog 123 #[.string ⟨([107]:List UInt8).toArray⟩] w (WordR (some [⟨1,false,0,0⟩]) w):=by
 have h0:∀h,(⟨([107]:List UInt8).toArray⟩:ByteArray)[0]'h=(107:UInt8):=fun _=>rfl
 exact zpD
theorem zgn (w:World):Calls Tryz.prog 123 #[.string ⟨([112]:List UInt8).toArray⟩] w (WordR (some [⟨1,true,0,0⟩]) w):=by
 have h0:∀h,(⟨([112]:List UInt8).toArray⟩:ByteArray)[0]'h=(112:UInt8):=fun _=>rfl
 exact zpD
theorem zd2 {l:List UInt8} {n:Nat} (h:numS l=some n):n<10000:=by
 unfold numS at h
 split at h
 ·cases h
 ·rename_i h1
  split at h
  ·rename_i h2
   cases h
   exact zcQ h2 (by omega)
  ·cases h
theorem zpK {p:Prop} (h:p:=by
 have HY:=Za (show X=none by rw [HXX.out,if_neg h1])
 clear h1
 go_wp2_with fail
 go_ret2
 exact WordR.no HY.out HB.out):p:=h
theorem zgk (l R:List UInt8) (d:UInt8) (r:List UInt8) (hld:l=107::d::r) (hR:R=d::r) (hlen:(d::r).length<=100000) (N:Nat) (hn:numS R=some N) (X:Option (List St)) (hX:X=if 1<N then some (List.replicate (min N 300) (⟨1,false,0,0⟩:St)) else none) (w:World) :
  Calls Tryz.prog 123 #[.string ⟨l.toArray⟩] w (WordR X w):=by
 have hE:(l==[121,111])=false:=by rw [hld];simp
 have hp:(l.take 2==[111,110])=false:=by rw [hld];simp
 have h0:∀h,(⟨l.toArray⟩:ByteArray)[0]'h=(107:UInt8):=fun h=>by rw [zam l 0 h,hld];rfl
 have hx1:(⟨l.toArray⟩:ByteArray).extract 1 l.length=⟨R.toArray⟩:=by rw [zai l 1 _ (Zg _),hld,hR];rfl
 have hx0:=zar l 2
 have hl2:(2:Int)<=(l.length:Int):=by rw [hld];simp only [Zk];omega
 have hl1:¬((l.length:Int)=1):=by omega
 have hl9:¬((l.length:Int)=0):=by omega
 have hl8:(0:Int)<(l.length:Int):=by omega
 have hl5:((l.length:Int)==0)=false:=by rw [Ze];omega
 have hl6:((l.length:Int)==1)=false:=by rw [Ze];omega
 have hl4:¬l=[]:=by rw [hld];simp
 have hl7:(1:Int)<=(l.length:Int):=by omega
 have HN:=Za (fun w'=>zae R (by rw [hR];exact hlen) w')
 have hNs:=zd2 hn
 have HS:=Za (show numN R=(N:Int)/\(numS R).isSome=true by unfold numN;rw [hn];exact ⟨rfl,rfl⟩)
 have ah:Ext w (w.alloc (.cells #[.int .u8 1,.bool false,.int .i64 0,.int .i64 0] 132)):=(Zf _).alloc _
 have HXX:=Za hX
 clear hn hld hR hlen hX
 by_cases hl3:(2:Int)<(l.length:Int)
 ·go_enter Tryz.func123,Tryz.ntmps123
  go_wp2_with (go_at_call 83;((with_reducible refine (HN.out _).mono ?_);rintro e w1 ⟨rfl,hq1⟩;rw [HS.out.1,HS.out.2]))
  have HQ:=Za hq1
  have ag:=Za (ah.trans hq1)
  clear hq1
  go_loopw [9,10] (fun u i wr=>∃(V:Value) (k:Nat),V=u/\i = .int .i64 k/\k<=min N 300/\Hid (OwnV shSt wr w1.heap.size 132 V k (List.replicate k (⟨1,false,0,0⟩:St)))/\Hid (Ext w1 wr)) (fun _ i _=>300-(intOf i).toNat)
  case atStart=>exact ⟨_,0,rfl,rfl,by omega,Za (OwnV.nil _ _ _ _),Za (Zf _)⟩
  case round =>
   obtain ⟨V,k,rfl,rfl,hk,HV,HE⟩:=hrel
   have hb:=HQ.out.trans HE.out
   obtain ⟨hc,hf,hz⟩:=hb.facts
   by_cases hkN:k<min N 300
   ·have q1:(k:Int)<(N:Int):=by omega
    have q2:(k:Int)<300:=by omega
    go_wp2_with (at_builtin;(refine zab (S:=shSt) (w:=w1) (m:=1) (xs:=[(⟨1,false,0,0⟩:St)]) 73 132 (.agg #[.int .u8 0,.bool false,.int .i64 0,.int .i64 0]) 24 (by rfl) (by rfl) Tryz.underlying73 za2 (by rfl) (by omega) (by rfl) (by rfl) (OwnV.ext HV.out (by repeat (first | exact Zf _ | refine Zp ?_ _))) (HE.out.trans (by repeat (first | exact Zf _ | refine Zp ?_ _))) (Vec.lit2 (by simp) rfl rfl) (by omega) ?_;intro v' w6 aa ab ac))
    have af:=Za (show OwnV shSt w6 w1.heap.size 132 v' (k+1) (List.replicate (k+1) (⟨1,false,0,0⟩:St)) from by rw [List.replicate_succ'];exact aa)
    clear aa ac hc hf hz
    go_roundw
    case rel=>exact ⟨v',k+1,rfl,by go_num,by omega,af,ab⟩
    case measure=>simp [intOf] <;> omega
   ·obtain ⟨A9,c9,rfl,ae, -⟩:=zaf HV.out
    have ad:=Za ae
    clear ae
    have HB:=Za (ag.out.trans HE.out)
    have HK:=Za (show k=min N 300 by omega)
    by_cases h1:1<N
    ·have q3:(1:Int)<(N:Int):=by omega
     have HY:=Za (show X=some (List.replicate k (⟨1,false,0,0⟩:St)) by rw [HXX.out,if_pos h1,HK.out])
     clear h1
     by_cases hkn:k<N
     ·have q1:(k:Int)<(N:Int):=by omega
      have q2:¬((k:Int)<300):=by omega
      go_wp2_with fail
      go_ret2
      exact WordR.yes HY.out ad.out HB.out
     ·have q1:¬((k:Int)<(N:Int)):=by omega
      go_wp2_with fail
      go_ret2
      exact WordR.yes HY.out ad.out HB.out
    ·have q3:¬((1:Int)<(N:Int)):=by omega
     have q1:¬((k:Int)<(N:Int)):=by omega
     have HY:=Za (show X=none by rw [HXX.out,if_neg h1])
     clear h1
     go_wp2_with fail
     go_ret2
     exact WordR.no HY.out HB.out
 ·go_enter Tryz.func123,Tryz.ntmps123
  go_wp2_with (go_at_call 83;((with_reducible refine (HN.out _).mono ?_);rintro e w1 ⟨rfl,hq1⟩;rw [HS.out.1,HS.out.2]))
  have HQ:=Za hq1
  have ag:=Za (ah.trans hq1)
  clear hq1
  go_loopw [9,10] (fun u i wr=>∃(V:Value) (k:Nat),V=u/\i = .int .i64 k/\k<=min N 300/\Hid (OwnV shSt wr w1.heap.size 132 V k (List.replicate k (⟨1,false,0,0⟩:St)))/\Hid (Ext w1 wr)) (fun _ i _=>300-(intOf i).toNat)
  case atStart=>exact ⟨_,0,rfl,rfl,by omega,Za (OwnV.nil _ _ _ _),Za (Zf _)⟩
  case round =>
   obtain ⟨V,k,rfl,rfl,hk,HV,HE⟩:=hrel
   have hb:=HQ.out.trans HE.out
   obtain ⟨hc,hf,hz⟩:=hb.facts
   by_cases hkN:k<min N 300
   ·have q1:(k:Int)<(N:Int):=by omega
    have q2:(k:Int)<300:=by omega
    go_wp2_with (at_builtin;(refine zab (S:=shSt) (w:=w1) (m:=1) (xs:=[(⟨1,false,0,0⟩:St)]) 73 132 (.agg #[.int .u8 0,.bool false,.int .i64 0,.int .i64 0]) 24 (by rfl) (by rfl) Tryz.underlying73 za2 (by rfl) (by omega) (by rfl) (by rfl) (OwnV.ext HV.out (by repeat (first | exact Zf _ | refine Zp ?_ _))) (HE.out.trans (by repeat (first | exact Zf _ | refine Zp ?_ _))) (Vec.lit2 (by simp) rfl rfl) (by omega) ?_;intro v' w6 aa ab ac))
    have af:=Za (show OwnV shSt w6 w1.heap.size 132 v' (k+1) (List.replicate (k+1) (⟨1,false,0,0⟩:St)) from by rw [List.replicate_succ'];exact aa)
    clear aa ac hc hf hz
    go_roundw
    case rel=>exact ⟨v',k+1,rfl,by go_num,by omega,af,ab⟩
    case measure=>simp [intOf] <;> omega
   ·obtain ⟨A9,c9,rfl,ae, -⟩:=zaf HV.out
    have ad:=Za ae
    clear ae
    have HB:=Za (ag.out.trans HE.out)
    have HK:=Za (show k=min N 300 by omega)
    by_cases h1:1<N
    ·have q3:(1:Int)<(N:Int):=by omega
     have HY:=Za (show X=some (List.replicate k (⟨1,false,0,0⟩:St)) by rw [HXX.out,if_pos h1,HK.out])
     clear h1
     by_cases hkn:k<N
     ·have q1:(k:Int)<(N:Int):=by omega
      have q2:¬((k:Int)<300):=by omega
      go_wp2_with fail
      go_ret2
      exact WordR.yes HY.out ad.out HB.out
     ·have q1:¬((k:Int)<(N:Int)):=by omega
      go_wp2_with fail
      go_ret2
      exact WordR.yes HY.out ad.out HB.out
    ·have q3:¬((1:Int)<(N:Int)):=by omega
     have q1:¬((k:Int)<(N:Int)):=by omega
     exact zpK
theorem zgl (l R:List UInt8) (d:UInt8) (r:List UInt8) (hld:l=112::d::r) (hR:R=d::r) (hlen:(d::r).length<=100000) (N:Nat) (hn:numS R=some N) (X:Option (List St)) (hX:X=if 1<N then some (List.replicate (min N 300) (⟨1,true,0,0⟩:St)) else none) (w:World) :
  Calls Tryz.prog 123 #[.string ⟨l.toArray⟩] w (WordR X w):=by
 have hE:(l==[121,111])=false:=by rw [hld];simp
 have hp:(l.take 2==[111,110])=false:=by rw [hld];simp
 have h0:∀h,(⟨l.toArray⟩:ByteArray)[0]'h=(112:UInt8):=fun h=>by rw [zam l 0 h,hld];rfl
 have hx1:(⟨l.toArray⟩:ByteArray).extract 1 l.length=⟨R.toArray⟩:=by rw [zai l 1 _ (Zg _),hld,hR];rfl
 have hx0:=zar l 2
 have hl2:(2:Int)<=(l.length:Int):=by rw [hld];simp only [Zk];omega
 have hl1:¬((l.length:Int)=1):=by omega
 have hl9:¬((l.length:Int)=0):=by omega
 have hl8:(0:Int)<(l.length:Int):=by omega
 have hl5:((l.length:Int)==0)=false:=by rw [Ze];omega
 have hl6:((l.length:Int)==1)=false:=by rw [Ze];omega
 have hl4:¬l=[]:=by rw [hld];simp
 have hl7:(1:Int)<=(l.length:Int):=by omega
 have HN:=Za (fun w'=>zae R (by rw [hR];exact hlen) w')
 have hNs:=zd2 hn
 have HS:=Za (show numN R=(N:Int)/\(numS R).isSome=true by unfold numN;rw [hn];exact ⟨rfl,rfl⟩)
 have ah:Ext w (w.alloc (.cells #[.int .u8 1,.bool true,.int .i64 0,.int .i64 0] 132)):=(Zf _).alloc _
 have HXX:=Za hX
 clear hn hld hR hlen hX
 by_cases hl3:(2:Int)<(l.length:Int)
 ·go_enter Tryz.func123,Tryz.ntmps123
  go_wp2_with (go_at_call 83;((with_reducible refine (HN.out _).mono ?_);rintro e w1 ⟨rfl,hq1⟩;rw [HS.out.1,HS.out.2]))
  have HQ:=Za hq1
  have ag:=Za (ah.trans hq1)
  clear hq1
  go_loopw [9,10] (fun u i wr=>∃(V:Value) (k:Nat),V=u/\i = .int .i64 k/\k<=min N 300/\Hid (OwnV shSt wr w1.heap.size 132 V k (List.replicate k (⟨1,true,0,0⟩:St)))/\Hid (Ext w1 wr)) (fun _ i _=>300-(intOf i).toNat)
  case atStart=>exact ⟨_,0,rfl,rfl,by omega,Za (OwnV.nil _ _ _ _),Za (Zf _)⟩
  case round =>
   obtain ⟨V,k,rfl,rfl,hk,HV,HE⟩:=hrel
   have hb:=HQ.out.trans HE.out
   obtain ⟨hc,hf,hz⟩:=hb.facts
   by_cases hkN:k<min N 300
   ·have q1:(k:Int)<(N:Int):=by omega
    have q2:(k:Int)<300:=by omega
    go_wp2_with (at_builtin;(refine zab (S:=shSt) (w:=w1) (m:=1) (xs:=[(⟨1,true,0,0⟩:St)]) 73 132 (.agg #[.int .u8 0,.bool false,.int .i64 0,.int .i64 0]) 24 (by rfl) (by rfl) Tryz.underlying73 za2 (by rfl) (by omega) (by rfl) (by rfl) (OwnV.ext HV.out (by repeat (first | exact Zf _ | refine Zp ?_ _))) (HE.out.trans (by repeat (first | exact Zf _ | refine Zp ?_ _))) (Vec.lit2 (by simp) rfl rfl) (by omega) ?_;intro v' w6 aa ab ac))
    have af:=Za (show OwnV shSt w6 w1.heap.size 132 v' (k+1) (List.replicate (k+1) (⟨1,true,0,0⟩:St)) from by rw [List.replicate_succ'];exact aa)
    clear aa ac hc hf hz
    go_roundw
    case rel=>exact ⟨v',k+1,rfl,by go_num,by omega,af,ab⟩
    case measure=>simp [intOf] <;> omega
   ·obtain ⟨A9,c9,rfl,ae, -⟩:=zaf HV.out
    have ad:=Za ae
    clear ae
    have HB:=Za (ag.out.trans HE.out)
    have HK:=Za (show k=min N 300 by omega)
    by_cases h1:1<N
    ·have q3:(1:Int)<(N:Int):=by omega
     have HY:=Za (show X=some (List.replicate k (⟨1,true,0,0⟩:St)) by rw [HXX.out,if_pos h1,HK.out])
     clear h1
     by_cases hkn:k<N
     ·have q1:(k:Int)<(N:Int):=by omega
      have q2:¬((k:Int)<300):=by omega
      go_wp2_with fail
      go_ret2
      exact WordR.yes HY.out ad.out HB.out
     ·have q1:¬((k:Int)<(N:Int)):=by omega
      go_wp2_with fail
      go_ret2
      exact WordR.yes HY.out ad.out HB.out
    ·have q3:¬((1:Int)<(N:Int)):=by omega
     have q1:¬((k:Int)<(N:Int)):=by omega
     have HY:=Za (show X=none by rw [HXX.out,if_neg h1])
     clear h1
     go_wp2_with fail
     go_ret2
     exact WordR.no HY.out HB.out
 ·go_enter Tryz.func123,Tryz.ntmps123
  go_wp2_with (go_at_call 83;((with_reducible refine (HN.out _).mono ?_);rintro e w1 ⟨rfl,hq1⟩;rw [HS.out.1,HS.out.2]))
  have HQ:=Za hq1
  have ag:=Za (ah.trans hq1)
  clear hq1
  go_loopw [9,10] (fun u i wr=>∃(V:Value) (k:Nat),V=u/\i = .int .i64 k/\k<=min N 300/\Hid (OwnV shSt wr w1.heap.size 132 V k (List.replicate k (⟨1,true,0,0⟩:St)))/\Hid (Ext w1 wr)) (fun _ i _=>300-(intOf i).toNat)
  case atStart=>exact ⟨_,0,rfl,rfl,by omega,Za (OwnV.nil _ _ _ _),Za (Zf _)⟩
  case round =>
   obtain ⟨V,k,rfl,rfl,hk,HV,HE⟩:=hrel
   have hb:=HQ.out.trans HE.out
   obtain ⟨hc,hf,hz⟩:=hb.facts
   by_cases hkN:k<min N 300
   ·have q1:(k:Int)<(N:Int):=by omega
    have q2:(k:Int)<300:=by omega
    go_wp2_with (at_builtin;(refine zab (S:=shSt) (w:=w1) (m:=1) (xs:=[(⟨1,true,0,0⟩:St)]) 73 132 (.agg #[.int .u8 0,.bool false,.int .i64 0,.int .i64 0]) 24 (by rfl) (by rfl) Tryz.underlying73 za2 (by rfl) (by omega) (by rfl) (by rfl) (OwnV.ext HV.out (by repeat (first | exact Zf _ | refine Zp ?_ _))) (HE.out.trans (by repeat (first | exact Zf _ | refine Zp ?_ _))) (Vec.lit2 (by simp) rfl rfl) (by omega) ?_;intro v' w6 aa ab ac))
    have af:=Za (show OwnV shSt w6 w1.heap.size 132 v' (k+1) (List.replicate (k+1) (⟨1,true,0,0⟩:St)) from by rw [List.replicate_succ'];exact aa)
    clear aa ac hc hf hz
    go_roundw
    case rel=>exact ⟨v',k+1,rfl,by go_num,by omega,af,ab⟩
    case measure=>simp [intOf] <;> omega
   ·obtain ⟨A9,c9,rfl,ae, -⟩:=zaf HV.out
    have ad:=Za ae
    clear ae
    have HB:=Za (ag.out.trans HE.out)
    have HK:=Za (show k=min N 300 by omega)
    by_cases h1:1<N
    ·have q3:(1:Int)<(N:Int):=by omega
     have HY:=Za (show X=some (List.replicate k (⟨1,true,0,0⟩:St)) by rw [HXX.out,if_pos h1,HK.out])
     clear h1
     by_cases hkn:k<N
     ·have q1:(k:Int)<(N:Int):=by omega
      have q2:¬((k:Int)<300):=by omega
      go_wp2_with fail
      go_ret2
      exact WordR.yes HY.out ad.out HB.out
     ·have q1:¬((k:Int)<(N:Int)):=by omega
      go_wp2_with fail
      go_ret2
      exact WordR.yes HY.out ad.out HB.out
    ·have q3:¬((1:Int)<(N:Int)):=by omega
     have q1:¬((k:Int)<(N:Int)):=by omega
     exact zpK
end Go.Proofs.YtkneghkbgingdaaGreatDoor
/- A stitch in a box;strings of one's own. -/
namespace Go.Proofs.YtkneghkbgingdaaGreatDoor
set_option maxRecDepth 100000
open Go.RowKit
theorem zbF {w:World} {B m c:Nat} {A:Option Addr} {e:TypeId} {ws:List (List UInt8)} (h:OwnV shStr w B e (.slice A m c) m ws) (hm:0<m):∃b off,A=some ⟨b,off,none⟩/\B<=b/\b<w.heap.size/\∀k,k<m->w.cell? ⟨b,off+k,none⟩=some (.string ⟨(ws.getD k []).toArray⟩):=by
 obtain ⟨A',c',e1,hv,hb⟩:=zaf h
 cases e1
 obtain ⟨b,off,e2,hlt,hc⟩:=hv.2 hm
 refine ⟨b,off,e2,hb hm b off e2,hlt,fun k hk=>?_⟩
 have h9:=hc k (ws.getD k []) (by rw [Zc,Zd (by rw [hv.1];exact hk)];rfl) 0 (.string ⟨(ws.getD k []).toArray⟩) rfl
 rw [show off+(k*shStr.size+0)=off+k by show off+(k*1+0)=off+k;omega] at h9
 exact h9
structure Bxs (W:World) (g:Nat) (k:Int) (p:Bool) (a b:Int):Prop where
 c0:W.cell? ⟨g,0,none⟩=some (.int .u8 k)
 c1:W.cell? ⟨g,1,none⟩=some (.bool p)
 c2:W.cell? ⟨g,2,none⟩=some (.int .i64 a)
 c3:W.cell? ⟨g,3,none⟩=some (.int .i64 b)
 f0:W.frozen? ⟨g,0,none⟩=false
 f1:W.frozen? ⟨g,1,none⟩=false
 f2:W.frozen? ⟨g,2,none⟩=false
 f3:W.frozen? ⟨g,3,none⟩=false
 hlt:g<W.heap.size
theorem zcU (w:World) (k:Int) (p:Bool) (a b:Int) (t:TypeId):Bxs (w.alloc (.cells #[.int .u8 k,.bool p,.int .i64 a,.int .i64 b] t)) w.heap.size k p a b :=
 ⟨by simp [go_sem],by simp [go_sem],by simp [go_sem],by simp [go_sem],by simp [go_sem],by simp [go_sem],by simp [go_sem],by simp [go_sem],by simp⟩
theorem zao {W W':World} {g:Nat} {k:Int} {p:Bool} {a b:Int} (h:Bxs W g k p a b) (hb:Ext W W'):Bxs W' g k p a b:=by
 obtain ⟨hc,hf,hz⟩:=Ext.facts hb
 have hl:=h.hlt
 exact ⟨by rw [hc _ _ hl];exact h.c0,by rw [hc _ _ hl];exact h.c1,by rw [hc _ _ hl];exact h.c2,by rw [hc _ _ hl];exact h.c3,by rw [hf _ _ hl];exact h.f0,by rw [hf _ _ hl];exact h.f1,by rw [hf _ _ hl];exact h.f2,by rw [hf _ _ hl];exact h.f3,Zo hl (Zl hb)⟩
theorem zZ9 {p:Prop} (h:p:=by
 obtain ⟨c0,c1,c2,c3,f0,f1,f2,f3,hl⟩:=h
 exact ⟨by simp [go_sem,c0],by simp [go_sem,c1],by simp [go_sem,c2],by simp [go_sem,c3],by simp [go_sem,f0],by simp [go_sem,f1],by simp [go_sem,f2],by simp [go_sem,f3],by simp [hl]⟩):p:=h
theorem znb {W:World} {g:Nat} {k:Int} {p:Bool} {a b:Int} (h:Bxs W g k p a b) (x:Int):Bxs (W.setCell ⟨g,0,none⟩ (.int .u8 x)) g x p a b:=by
 exact zZ9
theorem zpM {W:World} {g:Nat} {k:Int} {p:Bool} {a b:Int} (h:Bxs W g k p a b) (x:Int):Bxs (W.setCell ⟨g,3,none⟩ (.int .i64 x)) g k p a x:=by
 exact zZ9
theorem zbO {l:List UInt8} (h:numS l=none):numN l=0/\(numS l).isSome=false:=by unfold numN;rw [h];exact ⟨rfl,rfl⟩
end Go.Proofs.YtkneghkbgingdaaGreatDoor
