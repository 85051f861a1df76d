/- The reference's end: the place behind a word or a group. -/
import Derived.Test.YtkneghkbgingdaaGreatDoorP27
import Derived.Test.YtkneghkbgingdaaGreatDoorP02
import Derived.Test.YtkneghkbgingdaaGreatDoorP11
import Derived.Test.YtkneghkbgingdaaGreatDoorP08
import Derived.Test.YtkneghkbgingdaaGreatDoorP22
namespace Go.Proofs.YtkneghkbgingdaaGreatDoor
set_option maxRecDepth 100000
set_option maxRecDepth 100000
open Go.RowKit
theorem zi2 {s:List UInt8} {j:Nat} (hj:j<s.length):s.drop j=s.getD j 0::s.drop (j+1):=by
 rw [List.drop_eq_getElem_cons hj,List.getD_eq_getElem?_getD,List.getElem?_eq_getElem hj]
 rfl
theorem zeU {o:Int} {x:UInt8} {l:List UInt8} (o2:Int) (h0:o+(if x=40 then 1 else 0)-(if x=41 then 1 else 0)=o2) (h:o2<0∨(o2=0∧x=32)):endP o (x::l)=([],x::l):=by
 rw [endP,h0]
 exact if_pos h
theorem zc4 {o:Int} {x:UInt8} {l:List UInt8} (o2:Int) (h0:o+(if x=40 then 1 else 0)-(if x=41 then 1 else 0)=o2) (h:¬(o2<0∨(o2=0∧x=32))):endP o (x::l)=(x::(endP o2 l).1,(endP o2 l).2):=by
 rw [endP,h0]
 exact if_neg h
set_option maxHeartbeats 4000000 in
theorem zlT (s:List UInt8) (hs:s.length≤100000) (k:Nat) (hk:k≤s.length) (w:World) :
  Calls Tryz.prog 176 #[.string ⟨s.toArray⟩,.int .i64 (k:Int)] w fun e w'=>e = .returned (.int .i64 ((k+(endP 0 (s.drop k)).1.length:Nat):Int))∧Ext w w':=by
 go_enter Tryz.func176,Tryz.ntmps176
 go_wp2_with fail
 go_loopw [1,5] (fun i u wr=>∃(j:Nat) (o:Int),i = .int .i64 j∧u = .int .i64 o∧j≤s.length∧0≤o∧o≤j∧Hid (j+(endP o (s.drop j)).1.length=k+(endP 0 (s.drop k)).1.length)∧Hid (Ext w wr)) (fun i _ _=>s.length-(intOf i).toNat)
 case atStart=>exact ⟨k,0,rfl,rfl,hk,by omega,by omega,Lib.hid rfl,Lib.hid (Ext.refl _)⟩
 case round =>
  obtain ⟨j,o,rfl,rfl,hj,ho0,ho1,HH,HE⟩:=hrel
  have q0:(0:Int)≤(j:Int):=by omega
  by_cases h1:j<s.length
  ·have q1:(j:Int)<(s.length:Int):=by omega
   have h5:=zam s j
   have hd:=zi2 h1
   have HO:=HH.out
   rw [hd] at HO
   have i1:=IntWalk.i64_in (o+1) (by omega)
   have i2:=IntWalk.i64_in (o-1) (by omega)
   generalize s.getD j 0=x at *
   clear hd
   by_cases h40:x=40
   ·subst h40
    have e0:=zc4 (l:=s.drop (j+1)) (o:=o) (x:=40) (o+1) (by simp) (by simp <;> omega)
    rw [e0] at HO
    have HN:=Lib.hid (show j+1+(endP (o+1) (s.drop (j+1))).1.length=k+(endP 0 (s.drop k)).1.length from (by rw [←HO];simp <;> omega))
    have g1:¬(o+1<0):=by omega
    have g2:((o+1)==0)=false:=by rw [beq_eq_false_iff_ne];omega
    clear HO e0
    go_wp2_with fail
    go_roundw
    case rel=>exact ⟨j+1,o+1,by go_num,by go_num,by omega,by omega,by omega,HN,HE⟩
    case measure=>simp [intOf] <;> omega
   ·by_cases h41:x=41
    ·subst h41
     by_cases hz:o=0
     ·subst hz
      have e0:=zeU (l:=s.drop (j+1)) (o:=0) (x:=41) (-1) (by simp) (.inl (by omega))
      rw [e0] at HO
      have HN:=Lib.hid (show j=k+(endP 0 (s.drop k)).1.length from (by rw [←HO];simp))
      clear HO e0
      go_wp2_with fail
      go_ret
      exact ⟨congrArg (fun x:Nat=>Ending.returned (Value.int .i64 (x:Int))) HN.out,HE.out⟩
     ·have e0:=zc4 (l:=s.drop (j+1)) (o:=o) (x:=41) (o-1) (by simp) (by simp <;> omega)
      rw [e0] at HO
      have HN:=Lib.hid (show j+1+(endP (o-1) (s.drop (j+1))).1.length=k+(endP 0 (s.drop k)).1.length from (by rw [←HO];simp <;> omega))
      have g1:¬(o-1<0):=by omega
      clear HO e0
      go_wp2_with fail
      all_goals
       go_roundw
       case rel=>exact ⟨j+1,o-1,by go_num,by go_num,by omega,by omega,by omega,HN,HE⟩
       case measure=>simp [intOf] <;> omega
    ·have hx:o+(if x=40 then 1 else 0)-(if x=41 then 1 else 0)=o:=by rw [if_neg h40,if_neg h41];omega
     have b40:((x.toNat:Int)==40)=false:=by rw [beq_eq_false_iff_ne];intro e;exact h40 (UInt8.toNat_inj.1 (by rw [show ((40:UInt8).toNat)=40 from rfl];omega))
     have b41:((x.toNat:Int)==41)=false:=by rw [beq_eq_false_iff_ne];intro e;exact h41 (UInt8.toNat_inj.1 (by rw [show ((41:UInt8).toNat)=41 from rfl];omega))
     have g1:¬(o<0):=by omega
     by_cases hst:o=0∧x=32
     ·obtain ⟨rfl,rfl⟩:=hst
      have e0:=zeU (l:=s.drop (j+1)) (o:=0) (x:=32) 0 hx (.inr ⟨rfl,rfl⟩)
      rw [e0] at HO
      have HN:=Lib.hid (show j=k+(endP 0 (s.drop k)).1.length from (by rw [←HO];simp))
      clear HO e0 hx
      go_wp2_with fail
      go_ret
      exact ⟨congrArg (fun x:Nat=>Ending.returned (Value.int .i64 (x:Int))) HN.out,HE.out⟩
     ·have e0:=zc4 (l:=s.drop (j+1)) (o:=o) (x:=x) o hx (by rintro (h | h);omega;exact hst h)
      rw [e0] at HO
      have HN:=Lib.hid (show j+1+(endP o (s.drop (j+1))).1.length=k+(endP 0 (s.drop k)).1.length from (by rw [←HO];simp <;> omega))
      clear HO e0 hx
      by_cases hz:o=0
      ·subst hz
       have b32:((x.toNat:Int)==32)=false:=by rw [beq_eq_false_iff_ne];intro e;exact hst ⟨rfl,UInt8.toNat_inj.1 (by rw [show ((32:UInt8).toNat)=32 from rfl];omega)⟩
       go_wp2_with fail
       go_roundw
       case rel=>exact ⟨j+1,0,by go_num,rfl,by omega,by omega,by omega,HN,HE⟩
       case measure=>simp [intOf] <;> omega
      ·have bz:(o==0)=false:=by rw [beq_eq_false_iff_ne];exact hz
       go_wp2_with fail
       go_roundw
       case rel=>exact ⟨j+1,o,by go_num,rfl,by omega,by omega,by omega,HN,HE⟩
       case measure=>simp [intOf] <;> omega
  ·obtain rfl:j=s.length:=by omega
   have HN:=Lib.hid (show s.length=k+(endP 0 (s.drop k)).1.length from (by rw [←HH.out,List.drop_length];rfl))
   go_wp2_with fail
   go_ret
   exact ⟨congrArg (fun x:Nat=>Ending.returned (Value.int .i64 (x:Int))) HN.out,HE.out⟩
end Go.Proofs.YtkneghkbgingdaaGreatDoor
/- The reference's Number and kind. -/
namespace Go.Proofs.YtkneghkbgingdaaGreatDoor
set_option maxRecDepth 100000
set_option maxRecDepth 100000
open Go.RowKit
theorem ze1 {l:List UInt8} {k:Nat} (hk:k<l.length):valD (l.take (k+1))=10*valD (l.take k)+((l.getD k 0).toNat-48):=by
 rw [List.take_add_one,List.getElem?_eq_getElem hk,List.getD_eq_getElem?_getD,List.getElem?_eq_getElem hk]
 unfold valD
 rw [List.foldl_append]
 rfl
theorem zg7 {l:List UInt8} {k:Nat} (hk:k<l.length):(l.take (k+1)).all isDg=((l.take k).all isDg && isDg (l.getD k 0)):=by
 rw [List.take_add_one,List.getElem?_eq_getElem hk,List.getD_eq_getElem?_getD,List.getElem?_eq_getElem hk]
 rw [List.all_append,show (some l[k]).toList=[l[k]] from rfl,List.all_cons,List.all_nil,Bool.and_true]
 rfl
theorem ziW {l:List UInt8} {k:Nat} (hk:k<l.length) (h:isDg (l.getD k 0)=false):l.all isDg=false:=by
 rw [Bool.eq_false_iff]
 intro h9
 rw [List.getD_eq_getElem?_getD,List.getElem?_eq_getElem hk] at h
 have:=List.all_eq_true.1 h9 l[k] (List.getElem_mem _)
 rw [show (some l[k]).getD 0=l[k] from rfl] at h
 rw [h] at this
 cases this
def numN (l:List UInt8):Int:=(((numS l).getD 0:Nat):Int)
def NumR (l:List UInt8) (w:World) (e:Ending) (w':World):Prop:=e = .returned (.tuple #[.int .i64 (numN l),.bool (numS l).isSome])∧Ext w w'
theorem zcV {l:List UInt8} {w w':World} (h:numS l=none) (hb:Ext w w'):NumR l w (.returned (.tuple #[.int .i64 0,.bool false])) w':=by
 refine ⟨?_,hb⟩
 unfold numN
 rw [h]
 rfl
theorem zjU {l:List UInt8} {n:Nat} {w w':World} (h:numS l=some n) (hb:Ext w w'):NumR l w (.returned (.tuple #[.int .i64 (n:Int),.bool true])) w':=by
 refine ⟨?_,hb⟩
 unfold numN
 rw [h]
 rfl
set_option maxHeartbeats 4000000 in
theorem zae (l:List UInt8) (hl:l.length≤100000) (w:World):Calls Tryz.prog 83 #[.string ⟨l.toArray⟩] w (NumR l w):=by
 by_cases h0:l.length=0
 ·have HN:=Lib.hid (show numS l=none by rw [numS,if_pos (.inl h0)])
  have q:(l.length:Int)=0:=by omega
  go_enter Tryz.func83,Tryz.ntmps83
  go_wp2_with fail
  go_ret2
  exact zcV HN.out (Ext.refl _)
 by_cases h4:4<l.length
 ·have HN:=Lib.hid (show numS l=none by rw [numS,if_pos (.inr (.inl h4))])
  have q:(4:Int)<(l.length:Int):=by omega
  have q0:¬((l.length:Int)=0):=by omega
  go_enter Tryz.func83,Tryz.ntmps83
  go_wp2_with fail
  go_ret2
  exact zcV HN.out (Ext.refl _)
 have p0:¬((l.length:Int)=0):=by omega
 have p4:¬((4:Int)<(l.length:Int)):=by omega
 have h50:=zam l 0
 by_cases h1:1<l.length
 ·have p1:(1:Int)<(l.length:Int):=by omega
  by_cases hz:l.getD 0 0=48
  ·have hh:l.head?=some 48:=by
    rw [List.head?_eq_getElem?,List.getElem?_eq_getElem (by omega)]
    rw [List.getD_eq_getElem?_getD,List.getElem?_eq_getElem (by omega)] at hz
    exact congrArg some hz
   have HN:=Lib.hid (show numS l=none by rw [numS,if_pos (.inr (.inr ⟨h1,hh⟩))])
   clear hh
   rw [hz] at h50
   clear hz
   go_enter Tryz.func83,Tryz.ntmps83
   go_wp2_with fail
   go_ret2
   exact zcV HN.out (Ext.refl _)
  ·have hsp:¬(l.length=0∨4<l.length∨(1<l.length∧l.head?=some 48)):=by
    rintro (h | h | ⟨-,h⟩)
    ·omega
    ·omega
    ·apply hz
     rw [List.head?_eq_getElem?,List.getElem?_eq_getElem (by omega)] at h
     rw [List.getD_eq_getElem?_getD,List.getElem?_eq_getElem (by omega)]
     exact Option.some.inj h
   have HYES:=Lib.hid (fun (h:l.all isDg=true)=>(show numS l=some (valD l) by rw [numS,if_neg hsp,if_pos h]))
   have HNO:=Lib.hid (fun (h:l.all isDg=false)=>(show numS l=none by rw [numS,if_neg hsp,if_neg (by rw [h];simp)]))
   have hne:(((l.getD 0 0).toNat:Int)==48)=false:=by
    rw [beq_eq_false_iff_ne]
    intro h
    exact hz (UInt8.toNat_inj.1 (by rw [show (48:UInt8).toNat=48 from rfl];omega))
   clear hsp hz
   generalize l.getD 0 0=z0 at *
   go_enter Tryz.func83,Tryz.ntmps83
   go_wp2_with fail
   go_loopw [4,5] (fun x i wr=>∃k:Nat,x = .int .i64 (valD (l.take k):Int)∧i = .int .i64 k∧k≤l.length∧Hid ((l.take k).all isDg=true)∧Hid (Ext w wr)) (fun _ i _=>l.length-(intOf i).toNat)
   case atStart=>exact ⟨0,rfl,rfl,by omega,Lib.hid rfl,Lib.hid (Ext.refl _)⟩
   case round =>
    obtain ⟨k,rfl,rfl,hk,HA,HE⟩:=hrel
    have hvs:=zcb HA.out (by rw [List.length_take];omega)
    have q0:(0:Int)≤(k:Int):=by omega
    by_cases h1:k<l.length
    ·have q1:(k:Int)<(l.length:Int):=by omega
     have h5:=zam l k
     by_cases hd:isDg (l.getD k 0)=true
     ·have hv:=ze1 h1
      have ha:=zg7 h1
      rw [HA.out,hd] at ha
      have HA2:=Lib.hid ha
      obtain ⟨d1,d2⟩:=zdp hd
      have HV:=Lib.hid hv
      generalize l.getD k 0=d at *
      generalize valD (l.take k)=V at *
      clear hv ha hd
      have e1:((d.toNat:Int)<48)=False:=by simp <;> omega
      have e2:((57:Int)<(d.toNat:Int))=False:=by simp <;> omega
      have i1:=IntWalk.i64_in (10*(V:Int)) ⟨by omega,by omega⟩
      have i2:=IntWalk.i64_in (10*(V:Int)+((d.toNat:Int)-48)) ⟨by omega,by omega⟩
      have i3:IntKind.u8.wrap ((d.toNat:Int)-48)=(d.toNat:Int)-48:=by rw [IntKind.wrap_u8];omega
      have i4:=IntWalk.i64_in ((d.toNat:Int)-48) ⟨by omega,by omega⟩
      go_wp2_with fail
      go_roundw
      case rel=>exact ⟨k+1,by rw [HV.out];congr 1;omega,by go_num,by omega,HA2,HE⟩
      case measure=>simp [intOf] <;> omega
     ·have hd:isDg (l.getD k 0)=false:=by simpa using hd
      have HN:=Lib.hid (HNO.out (ziW h1 hd))
      have hcm:((l.getD k 0).toNat:Int)<48∨(57:Int)<((l.getD k 0).toNat:Int):=by
       rw [isDg,Bool.and_eq_false_iff,decide_eq_false_iff_not,decide_eq_false_iff_not,UInt8.le_iff_toNat_le,UInt8.le_iff_toNat_le] at hd
       have e48:(48:UInt8).toNat=48:=rfl
       have e57:(57:UInt8).toNat=57:=rfl
       omega
      generalize l.getD k 0=d at *
      clear hd
      rcases hcm with e1 | e1
      ·go_wp2_with fail
       go_ret2
       exact zcV HN.out HE.out
      ·have e2:¬((d.toNat:Int)<48):=by omega
       go_wp2_with fail
       go_ret2
       exact zcV HN.out HE.out
    ·obtain rfl:k=l.length:=by omega
     have e9:l.take l.length=l:=List.take_of_length_le (Nat.le_refl _)
     rw [e9] at HA ⊢
     have HY:=Lib.hid (HYES.out HA.out)
     go_wp2_with fail
     go_ret2
     exact zjU HY.out HE.out
 ·have p1:¬((1:Int)<(l.length:Int)):=by omega
  have hsp:¬(l.length=0∨4<l.length∨(1<l.length∧l.head?=some 48)):=by
   rintro (h | h | ⟨h, -⟩) <;> omega
  have HYES:=Lib.hid (fun (h:l.all isDg=true)=>(show numS l=some (valD l) by rw [numS,if_neg hsp,if_pos h]))
  have HNO:=Lib.hid (fun (h:l.all isDg=false)=>(show numS l=none by rw [numS,if_neg hsp,if_neg (by rw [h];simp)]))
  clear hsp h50
  go_enter Tryz.func83,Tryz.ntmps83
  go_wp2_with fail
  go_loopw [4,5] (fun x i wr=>∃k:Nat,x = .int .i64 (valD (l.take k):Int)∧i = .int .i64 k∧k≤l.length∧Hid ((l.take k).all isDg=true)∧Hid (Ext w wr)) (fun _ i _=>l.length-(intOf i).toNat)
  case atStart=>exact ⟨0,rfl,rfl,by omega,Lib.hid rfl,Lib.hid (Ext.refl _)⟩
  case round =>
   obtain ⟨k,rfl,rfl,hk,HA,HE⟩:=hrel
   have hvs:=zcb HA.out (by rw [List.length_take];omega)
   have q0:(0:Int)≤(k:Int):=by omega
   by_cases h1:k<l.length
   ·have q1:(k:Int)<(l.length:Int):=by omega
    have h5:=zam l k
    by_cases hd:isDg (l.getD k 0)=true
    ·have hv:=ze1 h1
     have ha:=zg7 h1
     rw [HA.out,hd] at ha
     have HA2:=Lib.hid ha
     obtain ⟨d1,d2⟩:=zdp hd
     have HV:=Lib.hid hv
     generalize l.getD k 0=d at *
     generalize valD (l.take k)=V at *
     clear hv ha hd
     have e1:((d.toNat:Int)<48)=False:=by simp <;> omega
     have e2:((57:Int)<(d.toNat:Int))=False:=by simp <;> omega
     have i1:=IntWalk.i64_in (10*(V:Int)) ⟨by omega,by omega⟩
     have i2:=IntWalk.i64_in (10*(V:Int)+((d.toNat:Int)-48)) ⟨by omega,by omega⟩
     have i3:IntKind.u8.wrap ((d.toNat:Int)-48)=(d.toNat:Int)-48:=by rw [IntKind.wrap_u8];omega
     have i4:=IntWalk.i64_in ((d.toNat:Int)-48) ⟨by omega,by omega⟩
     go_wp2_with fail
     go_roundw
     case rel=>exact ⟨k+1,by rw [HV.out];congr 1;omega,by go_num,by omega,HA2,HE⟩
     case measure=>simp [intOf] <;> omega
    ·have hd:isDg (l.getD k 0)=false:=by simpa using hd
     have HN:=Lib.hid (HNO.out (ziW h1 hd))
     have hcm:((l.getD k 0).toNat:Int)<48∨(57:Int)<((l.getD k 0).toNat:Int):=by
      rw [isDg,Bool.and_eq_false_iff,decide_eq_false_iff_not,decide_eq_false_iff_not,UInt8.le_iff_toNat_le,UInt8.le_iff_toNat_le] at hd
      have e48:(48:UInt8).toNat=48:=rfl
      have e57:(57:UInt8).toNat=57:=rfl
      omega
     generalize l.getD k 0=d at *
     clear hd
     rcases hcm with e1 | e1
     ·go_wp2_with fail
      go_ret2
      exact zcV HN.out HE.out
     ·have e2:¬((d.toNat:Int)<48):=by omega
      go_wp2_with fail
      go_ret2
      exact zcV HN.out HE.out
   ·obtain rfl:k=l.length:=by omega
    have e9:l.take l.length=l:=List.take_of_length_le (Nat.le_refl _)
    rw [e9] at HA ⊢
    have HY:=Lib.hid (HYES.out HA.out)
    go_wp2_with fail
    go_ret2
    exact zjU HY.out HE.out
set_option maxHeartbeats 4000000 in
theorem zax (c:UInt8) (w:World):Calls Tryz.prog 154 #[.int .u8 (c.toNat:Int)] w fun e w'=>e = .returned (.int .u8 (kindR c))∧Ext w w':=by
 go_enter Tryz.func154,Tryz.ntmps154
 go_wp2_with fail
 go_loopw [5] (fun i wr=>∃k:Nat,i = .int .i64 k∧k≤7∧Hid (∀x∈([102,108,109,120,121,115,111]:List UInt8).take k,c≠x)∧wr=w.alloc (.cells #[.int .u8 3,.int .u8 4,.int .u8 5,.int .u8 6,.int .u8 7,.int .u8 8,.int .u8 10] 5)) (fun i _=>7-(intOf i).toNat)
 case atStart=>exact ⟨0,rfl,by omega,Lib.hid (by simp),rfl⟩
 case round =>
  obtain ⟨k,rfl,hk,HN,rfl⟩:=hrel
  have hb:Ext w (w.alloc (.cells #[.int .u8 3,.int .u8 4,.int .u8 5,.int .u8 6,.int .u8 7,.int .u8 8,.int .u8 10] 5)):=(Ext.refl _).alloc _
  by_cases e0:k=0
  ·subst e0
   have hs:∀h,(⟨#[102,108,109,120,121,115,111]⟩:ByteArray)[0]'h=(102:UInt8):=fun _=>rfl
   by_cases hc:c=102
   ·have hv:=Lib.hid (show kindR c=3 by rw [hc];decide)
    have hn:((102:Int)==(c.toNat:Int))=true:=by rw [hc];rfl
    clear hc
    go_wp2_with fail
    go_ret
    exact ⟨by rw [hv.out];rfl,hb⟩
   ·have hne:((c.toNat:Int)==102)=false:=by
     rw [beq_eq_false_iff_ne]
     intro h
     exact hc (UInt8.toNat_inj.1 (by rw [show (102:UInt8).toNat=102 from rfl];omega))
    have hne2:((102:Int)==(c.toNat:Int))=false:=by rw [beq_eq_false_iff_ne] at hne ⊢;omega
    have HN2:=Lib.hid (show ∀x∈([102,108,109,120,121,115,111]:List UInt8).take (0+1),c≠x from by
     intro x hx
     rw [show ([102,108,109,120,121,115,111]:List UInt8).take (0+1)=([102,108,109,120,121,115,111]:List UInt8).take 0++[102] from rfl] at hx
     rcases List.mem_append.1 hx with h | h
     ·exact HN.out x h
     ·rw [List.mem_singleton.1 h];exact hc)
    clear hc HN
    go_wp2_with fail
    go_roundw
    case rel=>exact ⟨0+1,rfl,by omega,HN2,by first | rfl | trivial⟩
    case measure=>simp [intOf]
  by_cases e1:k=1
  ·subst e1
   have hs:∀h,(⟨#[102,108,109,120,121,115,111]⟩:ByteArray)[1]'h=(108:UInt8):=fun _=>rfl
   by_cases hc:c=108
   ·have hv:=Lib.hid (show kindR c=4 by rw [hc];decide)
    have hn:((108:Int)==(c.toNat:Int))=true:=by rw [hc];rfl
    clear hc
    go_wp2_with fail
    go_ret
    exact ⟨by rw [hv.out];rfl,hb⟩
   ·have hne:((c.toNat:Int)==108)=false:=by
     rw [beq_eq_false_iff_ne]
     intro h
     exact hc (UInt8.toNat_inj.1 (by rw [show (108:UInt8).toNat=108 from rfl];omega))
    have hne2:((108:Int)==(c.toNat:Int))=false:=by rw [beq_eq_false_iff_ne] at hne ⊢;omega
    have HN2:=Lib.hid (show ∀x∈([102,108,109,120,121,115,111]:List UInt8).take (1+1),c≠x from by
     intro x hx
     rw [show ([102,108,109,120,121,115,111]:List UInt8).take (1+1)=([102,108,109,120,121,115,111]:List UInt8).take 1++[108] from rfl] at hx
     rcases List.mem_append.1 hx with h | h
     ·exact HN.out x h
     ·rw [List.mem_singleton.1 h];exact hc)
    clear hc HN
    go_wp2_with fail
    go_roundw
    case rel=>exact ⟨1+1,rfl,by omega,HN2,by first | rfl | trivial⟩
    case measure=>simp [intOf]
  by_cases e2:k=2
  ·subst e2
   have hs:∀h,(⟨#[102,108,109,120,121,115,111]⟩:ByteArray)[2]'h=(109:UInt8):=fun _=>rfl
   by_cases hc:c=109
   ·have hv:=Lib.hid (show kindR c=5 by rw [hc];decide)
    have hn:((109:Int)==(c.toNat:Int))=true:=by rw [hc];rfl
    clear hc
    go_wp2_with fail
    go_ret
    exact ⟨by rw [hv.out];rfl,hb⟩
   ·have hne:((c.toNat:Int)==109)=false:=by
     rw [beq_eq_false_iff_ne]
     intro h
     exact hc (UInt8.toNat_inj.1 (by rw [show (109:UInt8).toNat=109 from rfl];omega))
    have hne2:((109:Int)==(c.toNat:Int))=false:=by rw [beq_eq_false_iff_ne] at hne ⊢;omega
    have HN2:=Lib.hid (show ∀x∈([102,108,109,120,121,115,111]:List UInt8).take (2+1),c≠x from by
     intro x hx
     rw [show ([102,108,109,120,121,115,111]:List UInt8).take (2+1)=([102,108,109,120,121,115,111]:List UInt8).take 2++[109] from rfl] at hx
     rcases List.mem_append.1 hx with h | h
     ·exact HN.out x h
     ·rw [List.mem_singleton.1 h];exact hc)
    clear hc HN
    go_wp2_with fail
    go_roundw
    case rel=>exact ⟨2+1,rfl,by omega,HN2,by first | rfl | trivial⟩
    case measure=>simp [intOf]
  by_cases e3:k=3
  ·subst e3
   have hs:∀h,(⟨#[102,108,109,120,121,115,111]⟩:ByteArray)[3]'h=(120:UInt8):=fun _=>rfl
   by_cases hc:c=120
   ·have hv:=Lib.hid (show kindR c=6 by rw [hc];decide)
    have hn:((120:Int)==(c.toNat:Int))=true:=by rw [hc];rfl
    clear hc
    go_wp2_with fail
    go_ret
    exact ⟨by rw [hv.out];rfl,hb⟩
   ·have hne:((c.toNat:Int)==120)=false:=by
     rw [beq_eq_false_iff_ne]
     intro h
     exact hc (UInt8.toNat_inj.1 (by rw [show (120:UInt8).toNat=120 from rfl];omega))
    have hne2:((120:Int)==(c.toNat:Int))=false:=by rw [beq_eq_false_iff_ne] at hne ⊢;omega
    have HN2:=Lib.hid (show ∀x∈([102,108,109,120,121,115,111]:List UInt8).take (3+1),c≠x from by
     intro x hx
     rw [show ([102,108,109,120,121,115,111]:List UInt8).take (3+1)=([102,108,109,120,121,115,111]:List UInt8).take 3++[120] from rfl] at hx
     rcases List.mem_append.1 hx with h | h
     ·exact HN.out x h
     ·rw [List.mem_singleton.1 h];exact hc)
    clear hc HN
    go_wp2_with fail
    go_roundw
    case rel=>exact ⟨3+1,rfl,by omega,HN2,by first | rfl | trivial⟩
    case measure=>simp [intOf]
  by_cases e4:k=4
  ·subst e4
   have hs:∀h,(⟨#[102,108,109,120,121,115,111]⟩:ByteArray)[4]'h=(121:UInt8):=fun _=>rfl
   by_cases hc:c=121
   ·have hv:=Lib.hid (show kindR c=7 by rw [hc];decide)
    have hn:((121:Int)==(c.toNat:Int))=true:=by rw [hc];rfl
    clear hc
    go_wp2_with fail
    go_ret
    exact ⟨by rw [hv.out];rfl,hb⟩
   ·have hne:((c.toNat:Int)==121)=false:=by
     rw [beq_eq_false_iff_ne]
     intro h
     exact hc (UInt8.toNat_inj.1 (by rw [show (121:UInt8).toNat=121 from rfl];omega))
    have hne2:((121:Int)==(c.toNat:Int))=false:=by rw [beq_eq_false_iff_ne] at hne ⊢;omega
    have HN2:=Lib.hid (show ∀x∈([102,108,109,120,121,115,111]:List UInt8).take (4+1),c≠x from by
     intro x hx
     rw [show ([102,108,109,120,121,115,111]:List UInt8).take (4+1)=([102,108,109,120,121,115,111]:List UInt8).take 4++[121] from rfl] at hx
     rcases List.mem_append.1 hx with h | h
     ·exact HN.out x h
     ·rw [List.mem_singleton.1 h];exact hc)
    clear hc HN
    go_wp2_with fail
    go_roundw
    case rel=>exact ⟨4+1,rfl,by omega,HN2,by first | rfl | trivial⟩
    case measure=>simp [intOf]
  by_cases e5:k=5
  ·subst e5
   have hs:∀h,(⟨#[102,108,109,120,121,115,111]⟩:ByteArray)[5]'h=(115:UInt8):=fun _=>rfl
   by_cases hc:c=115
   ·have hv:=Lib.hid (show kindR c=8 by rw [hc];decide)
    have hn:((115:Int)==(c.toNat:Int))=true:=by rw [hc];rfl
    clear hc
    go_wp2_with fail
    go_ret
    exact ⟨by rw [hv.out];rfl,hb⟩
   ·have hne:((c.toNat:Int)==115)=false:=by
     rw [beq_eq_false_iff_ne]
     intro h
     exact hc (UInt8.toNat_inj.1 (by rw [show (115:UInt8).toNat=115 from rfl];omega))
    have hne2:((115:Int)==(c.toNat:Int))=false:=by rw [beq_eq_false_iff_ne] at hne ⊢;omega
    have HN2:=Lib.hid (show ∀x∈([102,108,109,120,121,115,111]:List UInt8).take (5+1),c≠x from by
     intro x hx
     rw [show ([102,108,109,120,121,115,111]:List UInt8).take (5+1)=([102,108,109,120,121,115,111]:List UInt8).take 5++[115] from rfl] at hx
     rcases List.mem_append.1 hx with h | h
     ·exact HN.out x h
     ·rw [List.mem_singleton.1 h];exact hc)
    clear hc HN
    go_wp2_with fail
    go_roundw
    case rel=>exact ⟨5+1,rfl,by omega,HN2,by first | rfl | trivial⟩
    case measure=>simp [intOf]
  by_cases e6:k=6
  ·subst e6
   have hs:∀h,(⟨#[102,108,109,120,121,115,111]⟩:ByteArray)[6]'h=(111:UInt8):=fun _=>rfl
   by_cases hc:c=111
   ·have hv:=Lib.hid (show kindR c=10 by rw [hc];decide)
    have hn:((111:Int)==(c.toNat:Int))=true:=by rw [hc];rfl
    clear hc
    go_wp2_with fail
    go_ret
    exact ⟨by rw [hv.out];rfl,hb⟩
   ·have hne:((c.toNat:Int)==111)=false:=by
     rw [beq_eq_false_iff_ne]
     intro h
     exact hc (UInt8.toNat_inj.1 (by rw [show (111:UInt8).toNat=111 from rfl];omega))
    have hne2:((111:Int)==(c.toNat:Int))=false:=by rw [beq_eq_false_iff_ne] at hne ⊢;omega
    have HN2:=Lib.hid (show ∀x∈([102,108,109,120,121,115,111]:List UInt8).take (6+1),c≠x from by
     intro x hx
     rw [show ([102,108,109,120,121,115,111]:List UInt8).take (6+1)=([102,108,109,120,121,115,111]:List UInt8).take 6++[111] from rfl] at hx
     rcases List.mem_append.1 hx with h | h
     ·exact HN.out x h
     ·rw [List.mem_singleton.1 h];exact hc)
    clear hc HN
    go_wp2_with fail
    go_roundw
    case rel=>exact ⟨6+1,rfl,by omega,HN2,by first | rfl | trivial⟩
    case measure=>simp [intOf]
  obtain rfl:k=7:=by omega
  have hv:kindR c=0:=by
   have h9:=HN.out
   simp at h9
   obtain ⟨n1,n2,n3,n4,n5,n6,n7⟩:=h9
   simp [kindR,n1,n2,n3,n4,n5,n6,n7]
  have HV:=Lib.hid hv
  clear hv
  go_wp2_with fail
  go_ret
  exact ⟨by rw [HV.out];rfl,hb⟩
end Go.Proofs.YtkneghkbgingdaaGreatDoor
/- What the reference reads of a word. -/
namespace Go.Proofs.YtkneghkbgingdaaGreatDoor
set_option maxRecDepth 100000
set_option maxRecDepth 100000
open Go.RowKit
def WordR (x:Option (List St)) (w:World) (e:Ending) (w':World):Prop:=∃(A:Option Addr) (n c:Nat),e = .returned (.tuple #[.slice A n c,.bool x.isSome])∧Ext w w'∧(∀L,x=some L→Vec shSt w' A n L)
theorem WordR.no {x:Option (List St)} {A:Option Addr} {n c:Nat} {w w':World} (h:x=none) (hb:Ext w w'):WordR x w (.returned (.tuple #[.slice A n c,.bool false])) w':=by
 subst h
 exact ⟨A,n,c,rfl,hb,fun L h=>by cases h⟩
theorem WordR.yes {x:Option (List St)} {L:List St} {A:Option Addr} {n c:Nat} {w w':World} (h:x=some L) (hv:Vec shSt w' A n L) (hb:Ext w w'):WordR x w (.returned (.tuple #[.slice A n c,.bool true])) w':=by
 subst h
 exact ⟨A,n,c,rfl,hb,fun L' h=>by cases h;exact hv⟩
theorem zlP (w:World):Calls Tryz.prog 123 #[.string ⟨([121,111]:List UInt8).toArray⟩] w (WordR (some [⟨2,false,0,0⟩]) w):=by
 go_enter Tryz.func123,Tryz.ntmps123
 go_wp2_with fail
 go_ret2
 exact WordR.yes rfl (Vec.lit2 (by simp) rfl rfl) (by repeat (first|exact zr _|assumption|refine za ?_ _|refine zd ?_|refine zn ?_ _|refine zt ?_ (by assumption)))
theorem zkk (w:World):Calls Tryz.prog 123 #[.string ⟨([]:List UInt8).toArray⟩] w (WordR none w):=by
 go_enter Tryz.func123,Tryz.ntmps123
 go_wp2_with fail
 go_ret2
 exact WordR.no rfl (by repeat (first|exact zr _|assumption|refine za ?_ _|refine zd ?_|refine zn ?_ _|refine zt ?_ (by assumption)))
theorem zmA (l R:List UInt8) (hE:(l==[121,111])=false) (h2:(2:Int)<(l.length:Int)) (hp:(l.take 2==[111,110])=true) (hx:(⟨l.toArray⟩:ByteArray).extract 2 l.length=⟨R.toArray⟩) (hl:R.length≤100000) (w:World) :
  Calls Tryz.prog 123 #[.string ⟨l.toArray⟩] w (WordR ((numS R).bind fun a=>some [⟨9,false,a,0⟩]) w):=by
 have HN:=Lib.hid (fun w'=>zae R hl w')
 have hx0:=zaq l 2
 cases hn:numS R with
 | none =>
  have HS:=Lib.hid (show numN R=0∧(numS R).isSome=false by unfold numN;rw [hn];exact ⟨rfl,rfl⟩)
  clear hn
  go_enter Tryz.func123,Tryz.ntmps123
  go_wp2_with (go_at_call 83;((with_reducible refine (HN.out _).mono ?_);rintro e w1 ⟨rfl,hq1⟩;rw [HS.out.1,HS.out.2]))
  go_ret2
  exact WordR.no rfl (by repeat (first|exact zr _|assumption|refine za ?_ _|refine zd ?_|refine zn ?_ _|refine zt ?_ (by assumption)))
 | some a =>
  have HS:=Lib.hid (show numN R=(a:Int)∧(numS R).isSome=true by unfold numN;rw [hn];exact ⟨rfl,rfl⟩)
  clear hn
  go_enter Tryz.func123,Tryz.ntmps123
  go_wp2_with (go_at_call 83;((with_reducible refine (HN.out _).mono ?_);rintro e w1 ⟨rfl,hq1⟩;rw [HS.out.1,HS.out.2]))
  go_ret2
  exact WordR.yes rfl (Vec.lit2 (by simp) rfl rfl) (by repeat (first|exact zr _|assumption|refine za ?_ _|refine zd ?_|refine zn ?_ _|refine zt ?_ (by assumption)))
theorem zj8 (l:List UInt8) (c:UInt8) (hE:(l==[121,111])=false) (hp:(l.take 2==[111,110])=false) (h0:∀h,(⟨l.toArray⟩:ByteArray)[0]'h=c) (hl0:¬(l.length:Int)=0) (hk:((c.toNat:Int) != 107)=true) (hq:((c.toNat:Int) != 112)=true) (w:World) :
  Calls Tryz.prog 123 #[.string ⟨l.toArray⟩] w (WordR none w):=by
 have hx0:=zaq l 2
 have hl1:(0:Int)<(l.length:Int):=by omega
 by_cases h2:(2:Int)<(l.length:Int)
 ·go_enter Tryz.func123,Tryz.ntmps123
  go_wp2_with fail
  all_goals (go_ret2;exact WordR.no rfl (by repeat (first|exact zr _|assumption|refine za ?_ _|refine zd ?_|refine zn ?_ _|refine zt ?_ (by assumption))))
 ·go_enter Tryz.func123,Tryz.ntmps123
  go_wp2_with fail
  all_goals (go_ret2;exact WordR.no rfl (by repeat (first|exact zr _|assumption|refine za ?_ _|refine zd ?_|refine zn ?_ _|refine zt ?_ (by assumption))))
theorem zhn (l:List UInt8) (c:UInt8) (hE:(l==[121,111])=false) (h2:¬(2:Int)<(l.length:Int)) (h0:∀h,(⟨l.toArray⟩:ByteArray)[0]'h=c) (hl0:¬(l.length:Int)=0) (hk:((c.toNat:Int) != 107)=true) (hq:((c.toNat:Int) != 112)=true) (w:World) :
  Calls Tryz.prog 123 #[.string ⟨l.toArray⟩] w (WordR none w):=by
 have hl1:(0:Int)<(l.length:Int):=by omega
 go_enter Tryz.func123,Tryz.ntmps123
 go_wp2_with fail
 all_goals (go_ret2;exact WordR.no rfl (by repeat (first|exact zr _|assumption|refine za ?_ _|refine zd ?_|refine zn ?_ _|refine zt ?_ (by assumption))))
theorem zeY (w:World):Calls Tryz.prog 123 #[.string ⟨([107]:List UInt8).toArray⟩] w (WordR (some [⟨1,false,0,0⟩]) w):=by
 have h0:∀h,(⟨([107]:List UInt8).toArray⟩:ByteArray)[0]'h=(107:UInt8):=fun _=>rfl
 go_enter Tryz.func123,Tryz.ntmps123
 go_wp2_with fail
 go_ret2
 exact WordR.yes rfl (Vec.lit2 (by simp) rfl rfl) (by repeat (first|exact zr _|assumption|refine za ?_ _|refine zd ?_|refine zn ?_ _|refine zt ?_ (by assumption)))
theorem zfc (w:World):Calls Tryz.prog 123 #[.string ⟨([112]:List UInt8).toArray⟩] w (WordR (some [⟨1,true,0,0⟩]) w):=by
 have h0:∀h,(⟨([112]:List UInt8).toArray⟩:ByteArray)[0]'h=(112:UInt8):=fun _=>rfl
 go_enter Tryz.func123,Tryz.ntmps123
 go_wp2_with fail
 go_ret2
 exact WordR.yes rfl (Vec.lit2 (by simp) rfl rfl) (by repeat (first|exact zr _|assumption|refine za ?_ _|refine zd ?_|refine zn ?_ _|refine zt ?_ (by assumption)))
theorem zdC {l:List UInt8} {n:Nat} (h:numS l=some n):n<10000:=by
 unfold numS at h
 split at h
 ·cases h
 ·rename_i h1
  split at h
  ·rename_i h2
   cases h
   exact zcb h2 (by omega)
  ·cases h
set_option maxHeartbeats 4000000 in
theorem zeK (l R:List UInt8) (d:UInt8) (r:List UInt8) (hld:l=107::d::r) (hR:R=d::r) (hlen:(d::r).length≤100000) (N:Nat) (hn:numS R=some N) (X:Option (List St)) (hX:X=if 1<N then some (List.replicate (min N 300) (⟨1,false,0,0⟩:St)) else none) (w:World) :
  Calls Tryz.prog 123 #[.string ⟨l.toArray⟩] w (WordR X w):=by
 have hE:(l==[121,111])=false:=by rw [hld];simp
 have hp:(l.take 2==[111,110])=false:=by rw [hld];simp
 have h0:∀h,(⟨l.toArray⟩:ByteArray)[0]'h=(107:UInt8):=fun h=>by rw [zam l 0 h,hld];rfl
 have hx1:(⟨l.toArray⟩:ByteArray).extract 1 l.length=⟨R.toArray⟩:=by rw [zag l 1 _ (Nat.le_refl _),hld,hR];rfl
 have hx0:=zaq l 2
 have hl2:(2:Int)≤(l.length:Int):=by rw [hld];simp only [List.length_cons];omega
 have hl1:¬((l.length:Int)=1):=by omega
 have hl9:¬((l.length:Int)=0):=by omega
 have hl8:(0:Int)<(l.length:Int):=by omega
 have hl5:((l.length:Int)==0)=false:=by rw [beq_eq_false_iff_ne];omega
 have hl6:((l.length:Int)==1)=false:=by rw [beq_eq_false_iff_ne];omega
 have hl4:¬l=[]:=by rw [hld];simp
 have hl7:(1:Int)≤(l.length:Int):=by omega
 have HN:=Lib.hid (fun w'=>zae R (by rw [hR];exact hlen) w')
 have hNs:=zdC hn
 have HS:=Lib.hid (show numN R=(N:Int)∧(numS R).isSome=true by unfold numN;rw [hn];exact ⟨rfl,rfl⟩)
 have hb0:Ext w (w.alloc (.cells #[.int .u8 1,.bool false,.int .i64 0,.int .i64 0] 132)):=(Ext.refl _).alloc _
 have HXX:=Lib.hid hX
 clear hn hld hR hlen hX
 by_cases hl3:(2:Int)<(l.length:Int)
 ·go_enter Tryz.func123,Tryz.ntmps123
  go_wp2_with (go_at_call 83;((with_reducible refine (HN.out _).mono ?_);rintro e w1 ⟨rfl,hq1⟩;rw [HS.out.1,HS.out.2]))
  have HQ:=Lib.hid hq1
  have HQ0:=Lib.hid (hb0.trans hq1)
  clear hq1
  go_loopw [9,10] (fun u i wr=>∃(V:Value) (k:Nat),V=u∧i = .int .i64 k∧k≤min N 300∧Hid (OwnV shSt wr w1.heap.size 132 V k (List.replicate k (⟨1,false,0,0⟩:St)))∧Hid (Ext w1 wr)) (fun _ i _=>300-(intOf i).toNat)
  case atStart=>exact ⟨_,0,rfl,rfl,by omega,Lib.hid (OwnV.nil _ _ _ _),Lib.hid (Ext.refl _)⟩
  case round =>
   obtain ⟨V,k,rfl,rfl,hk,HV,HE⟩:=hrel
   have hb:=HQ.out.trans HE.out
   obtain ⟨hc,hf,hz⟩:=hb.facts
   by_cases hkN:k<min N 300
   ·have q1:(k:Int)<(N:Int):=by omega
    have q2:(k:Int)<300:=by omega
    go_wp2_with (at_builtin;(refine zac (S:=shSt) (w:=w1) (m:=1) (xs:=[(⟨1,false,0,0⟩:St)]) 73 132 (.agg #[.int .u8 0,.bool false,.int .i64 0,.int .i64 0]) 24 (by rfl) (by rfl) Tryz.underlying73 za0 (by rfl) (by omega) (by rfl) (by rfl) (OwnV.ext HV.out (by repeat (first | exact Ext.refl _ | refine Ext.alloc ?_ _))) (HE.out.trans (by repeat (first | exact Ext.refl _ | refine Ext.alloc ?_ _))) (Vec.lit2 (by simp) rfl rfl) (by omega) ?_;intro v' w6 hown6 hext6 hgr6))
    have HN6:=Lib.hid (show OwnV shSt w6 w1.heap.size 132 v' (k+1) (List.replicate (k+1) (⟨1,false,0,0⟩:St)) from by rw [List.replicate_succ'];exact hown6)
    clear hown6 hgr6 hc hf hz
    go_roundw
    case rel=>exact ⟨v',k+1,rfl,by go_num,by omega,HN6,hext6⟩
    case measure=>simp [intOf] <;> omega
   ·obtain ⟨A9,c9,rfl,hv9, -⟩:=zaf HV.out
    have HV9:=Lib.hid hv9
    clear hv9
    have HB:=Lib.hid (HQ0.out.trans HE.out)
    have HK:=Lib.hid (show k=min N 300 by omega)
    by_cases h1:1<N
    ·have q3:(1:Int)<(N:Int):=by omega
     have HY:=Lib.hid (show X=some (List.replicate k (⟨1,false,0,0⟩:St)) by rw [HXX.out,if_pos h1,HK.out])
     clear h1
     by_cases hkn:k<N
     ·have q1:(k:Int)<(N:Int):=by omega
      have q2:¬((k:Int)<300):=by omega
      go_wp2_with fail
      go_ret2
      exact WordR.yes HY.out HV9.out HB.out
     ·have q1:¬((k:Int)<(N:Int)):=by omega
      go_wp2_with fail
      go_ret2
      exact WordR.yes HY.out HV9.out HB.out
    ·have q3:¬((1:Int)<(N:Int)):=by omega
     have q1:¬((k:Int)<(N:Int)):=by omega
     have HY:=Lib.hid (show X=none by rw [HXX.out,if_neg h1])
     clear h1
     go_wp2_with fail
     go_ret2
     exact WordR.no HY.out HB.out
 ·go_enter Tryz.func123,Tryz.ntmps123
  go_wp2_with (go_at_call 83;((with_reducible refine (HN.out _).mono ?_);rintro e w1 ⟨rfl,hq1⟩;rw [HS.out.1,HS.out.2]))
  have HQ:=Lib.hid hq1
  have HQ0:=Lib.hid (hb0.trans hq1)
  clear hq1
  go_loopw [9,10] (fun u i wr=>∃(V:Value) (k:Nat),V=u∧i = .int .i64 k∧k≤min N 300∧Hid (OwnV shSt wr w1.heap.size 132 V k (List.replicate k (⟨1,false,0,0⟩:St)))∧Hid (Ext w1 wr)) (fun _ i _=>300-(intOf i).toNat)
  case atStart=>exact ⟨_,0,rfl,rfl,by omega,Lib.hid (OwnV.nil _ _ _ _),Lib.hid (Ext.refl _)⟩
  case round =>
   obtain ⟨V,k,rfl,rfl,hk,HV,HE⟩:=hrel
   have hb:=HQ.out.trans HE.out
   obtain ⟨hc,hf,hz⟩:=hb.facts
   by_cases hkN:k<min N 300
   ·have q1:(k:Int)<(N:Int):=by omega
    have q2:(k:Int)<300:=by omega
    go_wp2_with (at_builtin;(refine zac (S:=shSt) (w:=w1) (m:=1) (xs:=[(⟨1,false,0,0⟩:St)]) 73 132 (.agg #[.int .u8 0,.bool false,.int .i64 0,.int .i64 0]) 24 (by rfl) (by rfl) Tryz.underlying73 za0 (by rfl) (by omega) (by rfl) (by rfl) (OwnV.ext HV.out (by repeat (first | exact Ext.refl _ | refine Ext.alloc ?_ _))) (HE.out.trans (by repeat (first | exact Ext.refl _ | refine Ext.alloc ?_ _))) (Vec.lit2 (by simp) rfl rfl) (by omega) ?_;intro v' w6 hown6 hext6 hgr6))
    have HN6:=Lib.hid (show OwnV shSt w6 w1.heap.size 132 v' (k+1) (List.replicate (k+1) (⟨1,false,0,0⟩:St)) from by rw [List.replicate_succ'];exact hown6)
    clear hown6 hgr6 hc hf hz
    go_roundw
    case rel=>exact ⟨v',k+1,rfl,by go_num,by omega,HN6,hext6⟩
    case measure=>simp [intOf] <;> omega
   ·obtain ⟨A9,c9,rfl,hv9, -⟩:=zaf HV.out
    have HV9:=Lib.hid hv9
    clear hv9
    have HB:=Lib.hid (HQ0.out.trans HE.out)
    have HK:=Lib.hid (show k=min N 300 by omega)
    by_cases h1:1<N
    ·have q3:(1:Int)<(N:Int):=by omega
     have HY:=Lib.hid (show X=some (List.replicate k (⟨1,false,0,0⟩:St)) by rw [HXX.out,if_pos h1,HK.out])
     clear h1
     by_cases hkn:k<N
     ·have q1:(k:Int)<(N:Int):=by omega
      have q2:¬((k:Int)<300):=by omega
      go_wp2_with fail
      go_ret2
      exact WordR.yes HY.out HV9.out HB.out
     ·have q1:¬((k:Int)<(N:Int)):=by omega
      go_wp2_with fail
      go_ret2
      exact WordR.yes HY.out HV9.out HB.out
    ·have q3:¬((1:Int)<(N:Int)):=by omega
     have q1:¬((k:Int)<(N:Int)):=by omega
     have HY:=Lib.hid (show X=none by rw [HXX.out,if_neg h1])
     clear h1
     go_wp2_with fail
     go_ret2
     exact WordR.no HY.out HB.out
set_option maxHeartbeats 4000000 in
theorem zeQ (l R:List UInt8) (d:UInt8) (r:List UInt8) (hld:l=112::d::r) (hR:R=d::r) (hlen:(d::r).length≤100000) (N:Nat) (hn:numS R=some N) (X:Option (List St)) (hX:X=if 1<N then some (List.replicate (min N 300) (⟨1,true,0,0⟩:St)) else none) (w:World) :
  Calls Tryz.prog 123 #[.string ⟨l.toArray⟩] w (WordR X w):=by
 have hE:(l==[121,111])=false:=by rw [hld];simp
 have hp:(l.take 2==[111,110])=false:=by rw [hld];simp
 have h0:∀h,(⟨l.toArray⟩:ByteArray)[0]'h=(112:UInt8):=fun h=>by rw [zam l 0 h,hld];rfl
 have hx1:(⟨l.toArray⟩:ByteArray).extract 1 l.length=⟨R.toArray⟩:=by rw [zag l 1 _ (Nat.le_refl _),hld,hR];rfl
 have hx0:=zaq l 2
 have hl2:(2:Int)≤(l.length:Int):=by rw [hld];simp only [List.length_cons];omega
 have hl1:¬((l.length:Int)=1):=by omega
 have hl9:¬((l.length:Int)=0):=by omega
 have hl8:(0:Int)<(l.length:Int):=by omega
 have hl5:((l.length:Int)==0)=false:=by rw [beq_eq_false_iff_ne];omega
 have hl6:((l.length:Int)==1)=false:=by rw [beq_eq_false_iff_ne];omega
 have hl4:¬l=[]:=by rw [hld];simp
 have hl7:(1:Int)≤(l.length:Int):=by omega
 have HN:=Lib.hid (fun w'=>zae R (by rw [hR];exact hlen) w')
 have hNs:=zdC hn
 have HS:=Lib.hid (show numN R=(N:Int)∧(numS R).isSome=true by unfold numN;rw [hn];exact ⟨rfl,rfl⟩)
 have hb0:Ext w (w.alloc (.cells #[.int .u8 1,.bool true,.int .i64 0,.int .i64 0] 132)):=(Ext.refl _).alloc _
 have HXX:=Lib.hid hX
 clear hn hld hR hlen hX
 by_cases hl3:(2:Int)<(l.length:Int)
 ·go_enter Tryz.func123,Tryz.ntmps123
  go_wp2_with (go_at_call 83;((with_reducible refine (HN.out _).mono ?_);rintro e w1 ⟨rfl,hq1⟩;rw [HS.out.1,HS.out.2]))
  have HQ:=Lib.hid hq1
  have HQ0:=Lib.hid (hb0.trans hq1)
  clear hq1
  go_loopw [9,10] (fun u i wr=>∃(V:Value) (k:Nat),V=u∧i = .int .i64 k∧k≤min N 300∧Hid (OwnV shSt wr w1.heap.size 132 V k (List.replicate k (⟨1,true,0,0⟩:St)))∧Hid (Ext w1 wr)) (fun _ i _=>300-(intOf i).toNat)
  case atStart=>exact ⟨_,0,rfl,rfl,by omega,Lib.hid (OwnV.nil _ _ _ _),Lib.hid (Ext.refl _)⟩
  case round =>
   obtain ⟨V,k,rfl,rfl,hk,HV,HE⟩:=hrel
   have hb:=HQ.out.trans HE.out
   obtain ⟨hc,hf,hz⟩:=hb.facts
   by_cases hkN:k<min N 300
   ·have q1:(k:Int)<(N:Int):=by omega
    have q2:(k:Int)<300:=by omega
    go_wp2_with (at_builtin;(refine zac (S:=shSt) (w:=w1) (m:=1) (xs:=[(⟨1,true,0,0⟩:St)]) 73 132 (.agg #[.int .u8 0,.bool false,.int .i64 0,.int .i64 0]) 24 (by rfl) (by rfl) Tryz.underlying73 za0 (by rfl) (by omega) (by rfl) (by rfl) (OwnV.ext HV.out (by repeat (first | exact Ext.refl _ | refine Ext.alloc ?_ _))) (HE.out.trans (by repeat (first | exact Ext.refl _ | refine Ext.alloc ?_ _))) (Vec.lit2 (by simp) rfl rfl) (by omega) ?_;intro v' w6 hown6 hext6 hgr6))
    have HN6:=Lib.hid (show OwnV shSt w6 w1.heap.size 132 v' (k+1) (List.replicate (k+1) (⟨1,true,0,0⟩:St)) from by rw [List.replicate_succ'];exact hown6)
    clear hown6 hgr6 hc hf hz
    go_roundw
    case rel=>exact ⟨v',k+1,rfl,by go_num,by omega,HN6,hext6⟩
    case measure=>simp [intOf] <;> omega
   ·obtain ⟨A9,c9,rfl,hv9, -⟩:=zaf HV.out
    have HV9:=Lib.hid hv9
    clear hv9
    have HB:=Lib.hid (HQ0.out.trans HE.out)
    have HK:=Lib.hid (show k=min N 300 by omega)
    by_cases h1:1<N
    ·have q3:(1:Int)<(N:Int):=by omega
     have HY:=Lib.hid (show X=some (List.replicate k (⟨1,true,0,0⟩:St)) by rw [HXX.out,if_pos h1,HK.out])
     clear h1
     by_cases hkn:k<N
     ·have q1:(k:Int)<(N:Int):=by omega
      have q2:¬((k:Int)<300):=by omega
      go_wp2_with fail
      go_ret2
      exact WordR.yes HY.out HV9.out HB.out
     ·have q1:¬((k:Int)<(N:Int)):=by omega
      go_wp2_with fail
      go_ret2
      exact WordR.yes HY.out HV9.out HB.out
    ·have q3:¬((1:Int)<(N:Int)):=by omega
     have q1:¬((k:Int)<(N:Int)):=by omega
     have HY:=Lib.hid (show X=none by rw [HXX.out,if_neg h1])
     clear h1
     go_wp2_with fail
     go_ret2
     exact WordR.no HY.out HB.out
 ·go_enter Tryz.func123,Tryz.ntmps123
  go_wp2_with (go_at_call 83;((with_reducible refine (HN.out _).mono ?_);rintro e w1 ⟨rfl,hq1⟩;rw [HS.out.1,HS.out.2]))
  have HQ:=Lib.hid hq1
  have HQ0:=Lib.hid (hb0.trans hq1)
  clear hq1
  go_loopw [9,10] (fun u i wr=>∃(V:Value) (k:Nat),V=u∧i = .int .i64 k∧k≤min N 300∧Hid (OwnV shSt wr w1.heap.size 132 V k (List.replicate k (⟨1,true,0,0⟩:St)))∧Hid (Ext w1 wr)) (fun _ i _=>300-(intOf i).toNat)
  case atStart=>exact ⟨_,0,rfl,rfl,by omega,Lib.hid (OwnV.nil _ _ _ _),Lib.hid (Ext.refl _)⟩
  case round =>
   obtain ⟨V,k,rfl,rfl,hk,HV,HE⟩:=hrel
   have hb:=HQ.out.trans HE.out
   obtain ⟨hc,hf,hz⟩:=hb.facts
   by_cases hkN:k<min N 300
   ·have q1:(k:Int)<(N:Int):=by omega
    have q2:(k:Int)<300:=by omega
    go_wp2_with (at_builtin;(refine zac (S:=shSt) (w:=w1) (m:=1) (xs:=[(⟨1,true,0,0⟩:St)]) 73 132 (.agg #[.int .u8 0,.bool false,.int .i64 0,.int .i64 0]) 24 (by rfl) (by rfl) Tryz.underlying73 za0 (by rfl) (by omega) (by rfl) (by rfl) (OwnV.ext HV.out (by repeat (first | exact Ext.refl _ | refine Ext.alloc ?_ _))) (HE.out.trans (by repeat (first | exact Ext.refl _ | refine Ext.alloc ?_ _))) (Vec.lit2 (by simp) rfl rfl) (by omega) ?_;intro v' w6 hown6 hext6 hgr6))
    have HN6:=Lib.hid (show OwnV shSt w6 w1.heap.size 132 v' (k+1) (List.replicate (k+1) (⟨1,true,0,0⟩:St)) from by rw [List.replicate_succ'];exact hown6)
    clear hown6 hgr6 hc hf hz
    go_roundw
    case rel=>exact ⟨v',k+1,rfl,by go_num,by omega,HN6,hext6⟩
    case measure=>simp [intOf] <;> omega
   ·obtain ⟨A9,c9,rfl,hv9, -⟩:=zaf HV.out
    have HV9:=Lib.hid hv9
    clear hv9
    have HB:=Lib.hid (HQ0.out.trans HE.out)
    have HK:=Lib.hid (show k=min N 300 by omega)
    by_cases h1:1<N
    ·have q3:(1:Int)<(N:Int):=by omega
     have HY:=Lib.hid (show X=some (List.replicate k (⟨1,true,0,0⟩:St)) by rw [HXX.out,if_pos h1,HK.out])
     clear h1
     by_cases hkn:k<N
     ·have q1:(k:Int)<(N:Int):=by omega
      have q2:¬((k:Int)<300):=by omega
      go_wp2_with fail
      go_ret2
      exact WordR.yes HY.out HV9.out HB.out
     ·have q1:¬((k:Int)<(N:Int)):=by omega
      go_wp2_with fail
      go_ret2
      exact WordR.yes HY.out HV9.out HB.out
    ·have q3:¬((1:Int)<(N:Int)):=by omega
     have q1:¬((k:Int)<(N:Int)):=by omega
     have HY:=Lib.hid (show X=none by rw [HXX.out,if_neg h1])
     clear h1
     go_wp2_with fail
     go_ret2
     exact WordR.no HY.out HB.out
end Go.Proofs.YtkneghkbgingdaaGreatDoor
/- A stitch in a box;strings of one's own. -/
namespace Go.Proofs.YtkneghkbgingdaaGreatDoor
set_option maxRecDepth 100000
set_option maxRecDepth 100000
open Go.RowKit
theorem zak {w:World} {B m c:Nat} {A:Option Addr} {e:TypeId} {ws:List (List UInt8)} (h:OwnV shStr w B e (.slice A m c) m ws) (hm:0<m):∃b off,A=some ⟨b,off,none⟩∧B≤b∧b<w.heap.size∧∀k,k<m→w.cell? ⟨b,off+k,none⟩=some (.string ⟨(ws.getD k []).toArray⟩):=by
 obtain ⟨A',c',e1,hv,hb⟩:=zaf h
 cases e1
 obtain ⟨b,off,e2,hlt,hc⟩:=hv.2 hm
 refine ⟨b,off,e2,hb hm b off e2,hlt,fun k hk=>?_⟩
 have h9:=hc k (ws.getD k []) (by rw [List.getD_eq_getElem?_getD,List.getElem?_eq_getElem (by rw [hv.1];exact hk)];rfl) 0 (.string ⟨(ws.getD k []).toArray⟩) rfl
 rw [show off+(k*shStr.size+0)=off+k by show off+(k*1+0)=off+k;omega] at h9
 exact h9
structure Bxs (W:World) (g:Nat) (k:Int) (p:Bool) (a b:Int):Prop where
 c0:W.cell? ⟨g,0,none⟩=some (.int .u8 k)
 c1:W.cell? ⟨g,1,none⟩=some (.bool p)
 c2:W.cell? ⟨g,2,none⟩=some (.int .i64 a)
 c3:W.cell? ⟨g,3,none⟩=some (.int .i64 b)
 f0:W.frozen? ⟨g,0,none⟩=false
 f1:W.frozen? ⟨g,1,none⟩=false
 f2:W.frozen? ⟨g,2,none⟩=false
 f3:W.frozen? ⟨g,3,none⟩=false
 hlt:g<W.heap.size
theorem zat (w:World) (k:Int) (p:Bool) (a b:Int) (t:TypeId):Bxs (w.alloc (.cells #[.int .u8 k,.bool p,.int .i64 a,.int .i64 b] t)) w.heap.size k p a b :=
 ⟨by simp [go_sem],by simp [go_sem],by simp [go_sem],by simp [go_sem],by simp [go_sem],by simp [go_sem],by simp [go_sem],by simp [go_sem],by simp⟩
theorem zaa {W W':World} {g:Nat} {k:Int} {p:Bool} {a b:Int} (h:Bxs W g k p a b) (hb:Ext W W'):Bxs W' g k p a b:=by
 obtain ⟨hc,hf,hz⟩:=Ext.facts hb
 have hl:=h.hlt
 exact ⟨by rw [hc _ _ hl];exact h.c0,by rw [hc _ _ hl];exact h.c1,by rw [hc _ _ hl];exact h.c2,by rw [hc _ _ hl];exact h.c3,by rw [hf _ _ hl];exact h.f0,by rw [hf _ _ hl];exact h.f1,by rw [hf _ _ hl];exact h.f2,by rw [hf _ _ hl];exact h.f3,Nat.lt_of_lt_of_le hl (Below.size hb)⟩
theorem zbM {W:World} {g:Nat} {k:Int} {p:Bool} {a b:Int} (h:Bxs W g k p a b) (x:Int):Bxs (W.setCell ⟨g,0,none⟩ (.int .u8 x)) g x p a b:=by
 obtain ⟨c0,c1,c2,c3,f0,f1,f2,f3,hl⟩:=h
 exact ⟨by simp [go_sem,c0],by simp [go_sem,c1],by simp [go_sem,c2],by simp [go_sem,c3],by simp [go_sem,f0],by simp [go_sem,f1],by simp [go_sem,f2],by simp [go_sem,f3],by simp [hl]⟩
theorem zfm {W:World} {g:Nat} {k:Int} {p:Bool} {a b:Int} (h:Bxs W g k p a b) (x:Int):Bxs (W.setCell ⟨g,3,none⟩ (.int .i64 x)) g k p a x:=by
 obtain ⟨c0,c1,c2,c3,f0,f1,f2,f3,hl⟩:=h
 exact ⟨by simp [go_sem,c0],by simp [go_sem,c1],by simp [go_sem,c2],by simp [go_sem,c3],by simp [go_sem,f0],by simp [go_sem,f1],by simp [go_sem,f2],by simp [go_sem,f3],by simp [hl]⟩
theorem zaI {l:List UInt8} (h:numS l=none):numN l=0∧(numS l).isSome=false:=by unfold numN;rw [h];exact ⟨rfl,rfl⟩
end Go.Proofs.YtkneghkbgingdaaGreatDoor
