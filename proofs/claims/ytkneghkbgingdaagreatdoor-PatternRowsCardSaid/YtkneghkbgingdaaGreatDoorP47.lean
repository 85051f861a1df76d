/- Rows. -/
import Derived.Test.YtkneghkbgingdaaGreatDoorP44
import Derived.Test.YtkneghkbgingdaaGreatDoorP46
import Derived.Test.YtkneghkbgingdaaGreatDoorP02
import Derived.Test.YtkneghkbgingdaaGreatDoorP17
import Derived.Test.YtkneghkbgingdaaGreatDoorP45
import Derived.Test.YtkneghkbgingdaaGreatDoorP03
import Derived.Maps.AppendAt
import Derived.Test.YtkneghkbgingdaaGreatDoorP07
namespace Go.Proofs.YtkneghkbgingdaaGreatDoor
set_option maxRecDepth 100000
set_option maxRecDepth 100000
open Go.RowKit Go.ChangeShapes Go.WideShapes Go.Joins
def PRowsR (s:Int) (l:List Ro) (w:World) (e:Ending) (w':World):Prop:=e = .returned (.tuple #[.string ⟨(rowsV s l).toArray⟩,.int .i64 (rowsE s l)])∧Ext w w'
theorem PRowsR.mk_ {s:Int} {l:List Ro} {V:List UInt8} {E:Int} {w w':World} (h:rowsE s l=E∧rowsV s l=V) (hb:Ext w w'):PRowsR s l w (.returned (.tuple #[.string ⟨V.toArray⟩,.int .i64 E])) w':=by
 obtain ⟨h1,h2⟩:=h
 subst h1
 subst h2
 exact ⟨rfl,hb⟩
theorem zgL (l:List Ro) (i k:Nat):repT l i k≤l.length:=by
 unfold repT
 split
 ·omega
 ·exact Nat.le_trans (Nat.div_le_self _ _) (Nat.le_trans (zgF _ _ _ _) (by omega))
theorem zku (s x:Int) (A:Option Addr) (m c:Nat) (rows:List Ro) (w:World) (hr:Rws w (fun _=>True) A m rows) (hx:chkC s rows=x) (h0:x≠0) :
  Calls Tryz.prog 10 #[.agg #[.int .i64 s,.slice A m c]] w (PRowsR s rows w):=by
 have HR:=Lib.hid hr
 have HX:=Lib.hid hx
 have HV:=Lib.hid (zgM hx h0)
 have hb0:Ext w (w.alloc (.cells #[.int .i64 s,.slice A m c] 24)):=(Ext.refl _).alloc _
 have hne:(x != 0)=true:=by simpa using h0
 clear hr hx h0
 go_enter Tryz.func10,Tryz.ntmps10
 go_wp2_with (go_at_call 34;((with_reducible refine (zds s A m c rows _ (HR.out.ext (hb0.trans (by repeat (first|exact zr _|assumption|refine za ?_ _|refine zd ?_|refine zn ?_ _|refine zt ?_ (by assumption)))))).mono ?_);rintro e w1 ⟨rfl,hq1⟩;rw [HX.out]))
 go_ret2
 exact PRowsR.mk_ HV.out (hb0.trans (by repeat (first|exact zr _|assumption|refine za ?_ _|refine zd ?_|refine zn ?_ _|refine zt ?_ (by assumption))))
set_option maxHeartbeats 8000000 in
theorem zht (s:Int) (A:Option Addr) (m c:Nat) (rows:List Ro) (w:World) (hr:Rws w (fun _=>True) A m rows) (hg:Glob w) (h0:chkC s rows=0) :
  Calls Tryz.prog 10 #[.agg #[.int .i64 s,.slice A m c]] w (PRowsR s rows w):=by
 have HR:=Lib.hid hr
 have HG:=Lib.hid hg
 have HC:=Lib.hid h0
 obtain ⟨hl100,hall⟩:=zcI h0
 have HAL:=Lib.hid hall
 have hml:rows.length=m:=hr.len
 have HML:=Lib.hid hml
 have hm100:m≤100:=by omega
 have HBX:=Lib.hid (BoxC.start w s A m c)
 have HW0:=Lib.hid (show Ext w (w.alloc (.cells #[.int .i64 s,.slice A m c] 24)) from (Ext.refl w).alloc _)
 clear hr hg h0 hall hl100 hml
 go_enter Tryz.func10,Tryz.ntmps10
 go_wp2_with (first
  | (go_at_call 34;((with_reducible refine (zds s A m c rows _ (HR.out.ext (HW0.out.trans (by repeat (first|exact zr _|assumption|refine za ?_ _|refine zd ?_|refine zn ?_ _|refine zt ?_ (by assumption)))))).mono ?_);rintro e w1 ⟨rfl,hq1⟩;rw [HC.out];obtain ⟨x0,x1,xz⟩:=(HBX.out.ext (by repeat (first|exact zr _|assumption|refine za ?_ _|refine zd ?_|refine zn ?_ _|refine zt ?_ (by assumption)):Ext _ w1)).facts)))
 have HE1:=Lib.hid (show Ext (w.alloc (.cells #[.int .i64 s,.slice A m c] 24)) w1 from hq1)
 clear hq1 x0 x1 xz
 go_loopw [6] (fun u wr=>∃(i:Nat) (T:List UInt8),u = .int .i64 (i:Int)∧i≤m∧T.length≤3100*i∧Hid (RowSt rows i T)∧Hid (WSt w1 (w1.alloc (.cells #[.pointer none,.slice none 0 0] 80)) w1.heap.size T wr)) (fun u _=>m-(intOf u).toNat)
 case atStart=>exact ⟨0,[],rfl,Nat.zero_le _,Nat.zero_le _,Lib.hid (RowSt.start rows),Lib.hid (zf4 w1)⟩
 case round =>
  obtain ⟨i,T,rfl,hi,hTl,HST,HWS⟩:=hrel
  obtain ⟨wa,rfl⟩:∃wa:World,wa=wr:=⟨_,rfl⟩
  have HXB:=Lib.hid (HE1.out.trans HWS.out.ex)
  have HXR:=Lib.hid (HW0.out.trans HXB.out)
  have HBX2:=HBX
  obtain ⟨x0,x1,xz⟩:=(HBX.out.ext HXB.out).facts
  have q0:(0:Int)≤(i:Int):=by omega
  by_cases hlt:i<m
  ·have q1:(i:Int)<(m:Int):=by omega
   have hml:=HML.out
   obtain ⟨b9,off9,A9,n9,c9,rfl,hlt9, -,d0,d1,hv9,hn9,hby9, -⟩:=(HR.out.ext HXR.out).at_ hlt
   have hra:=fun (k:Nat) (h1:1≤k) (h2:k≤2) (w':World) (h:Ext wa w')=>zf8 (some ⟨b9,off9,none⟩) m c rows i k w' (HR.out.ext (HXR.out.trans h)) hi (by omega) h1 h2
   have h1:=hra 1 (by omega) (by omega)
   have h2:=hra 2 (by omega) (by omega)
   have ho:=zgL rows i 1
   have ht:=zgL rows i 2
   have hA1:=ziO (l:=rows) (i:=i)
   have hA2:=ziK (l:=rows) (i:=i)
   generalize repT rows i 1=o at *
   generalize repT rows i 2=t at *
   have HRP1:=Lib.hid (show ∀(w':World),Ext wa w'→Calls Tryz.prog 35 #[.slice (some ⟨b9,off9,none⟩) m c,.int .i64 (i:Int),.int .i64 1] w' fun e w''=>e = .returned (.int .i64 (o:Int))∧Ext w' w'' from h1)
   have HRP2:=Lib.hid (show ∀(w':World),Ext wa w'→Calls Tryz.prog 35 #[.slice (some ⟨b9,off9,none⟩) m c,.int .i64 (i:Int),.int .i64 2] w' fun e w''=>e = .returned (.int .i64 (t:Int))∧Ext w' w'' from h2)
   have i1:=IntWalk.i64_in (2*(t:Int)) (by omega)
   clear hra h1 h2
   by_cases hot:o<2*t
   ·have HAA:=Lib.hid (hA2 hot)
    have p1:(o:Int)<2*(t:Int):=by omega
    clear hA1 hA2 hv9 hn9 hby9 d0 d1 hot
    focus
     have HAG:=Lib.hid (HAA.out)
     have hle:=zeT (by omega) HAG.out.1 HAG.out.2
     have HIK:=Lib.hid (fun (w':World) (h:Ext w w')=>zan 2 (by omega) (by omega) w' (HG.out.ext h))
     have HIM:=Lib.hid (fun (w':World) (h:Ext w w')=>zan (t:Int) (by omega) (by omega) w' (HG.out.ext h))
     rw [Int.toNat_natCast] at HIM
     have hd1:=zaj 2
     have hd2:=zaj t
     have hd3:((2:Int)).toNat=2:=rfl
     rw [hd3] at HIK
     have HST2:=Lib.hid (HST.out.agn (by omega) HAG.out.1 HAG.out.2 (by omega))
     obtain ⟨D1,hD1⟩:∃D1,decD 2=D1:=⟨_,rfl⟩
     obtain ⟨D2,hD2⟩:∃D2,decD t=D2:=⟨_,rfl⟩
     rw [hD1] at HIK hd1
     rw [hD2] at HIM hd2
     obtain ⟨S1,hS1⟩:∃S1,agnB++D1=S1:=⟨_,rfl⟩
     obtain ⟨S2,hS2⟩:∃S2,S1++[32]=S2:=⟨_,rfl⟩
     obtain ⟨S3,hS3⟩:∃S3,S2++D2=S3:=⟨_,rfl⟩
     obtain ⟨S4,hS4⟩:∃S4,S3++[10]=S4:=⟨_,rfl⟩
     have cs1:(⟨#[97,103,97,105,110,32]⟩++⟨D1.toArray⟩:ByteArray)=⟨S1.toArray⟩:=by rw [←hS1];exact zab agnB D1
     have cs2:(⟨S1.toArray⟩++⟨#[32]⟩:ByteArray)=⟨S2.toArray⟩:=by rw [←hS2];exact zab S1 [32]
     have cs3:(⟨S2.toArray⟩++⟨D2.toArray⟩:ByteArray)=⟨S3.toArray⟩:=by rw [←hS3];exact zab S2 D2
     have cs4:(⟨S3.toArray⟩++⟨#[10]⟩:ByteArray)=⟨S4.toArray⟩:=by rw [←hS4];exact zab S3 [10]
     have l1:S1.length≤26:=by rw [←hS1,List.length_append,show agnB.length=6 from rfl];omega
     have l2:S2.length≤27:=by rw [←hS2,List.length_append,List.length_singleton];omega
     have l3:S3.length≤47:=by rw [←hS3,List.length_append];omega
     have l4:S4.length≤48:=by rw [←hS4,List.length_append,List.length_singleton];omega
     have HST3:=Lib.hid (show RowSt rows (i+2*t) (T++S4) by
      have h9:=HST2.out
      rw [hD1,hD2] at h9
      rw [←hS4,←hS3,←hS2,←hS1]
      simpa using h9)
     have j1:=IntWalk.i64_in ((2:Int)*(t:Int)) (by omega)
     have j2:=IntWalk.i64_in ((i:Int)+(2:Int)*(t:Int)) (by omega)
     have p2:(0:Int)<(t:Int):=by have:=HAG.out.2;omega
     have hle2:i+2*t≤m:=by omega
     have hle3:1≤t:=HAG.out.2
     clear hS1 hS2 hS3 hS4 hD1 hD2 hd3 hle HST2 HAG HST
     go_wp2_with (first
      | (go_at_call 35;first
       | ((with_reducible refine (HRP1.out _ (by repeat (first|exact zr _|assumption|refine za ?_ _|refine zd ?_|refine zn ?_ _|refine zt ?_ (by assumption)))).mono ?_);rintro e w2 ⟨rfl,hq2⟩;obtain ⟨y0,y1,yz⟩:=(HBX.out.ext (HXB.out.trans (by repeat (first|exact zr _|assumption|refine za ?_ _|refine zd ?_|refine zn ?_ _|refine zt ?_ (by assumption)):Ext wa w2))).facts)
       | (((with_reducible refine (HRP2.out _ (by repeat (first|exact zr _|assumption|refine za ?_ _|refine zd ?_|refine zn ?_ _|refine zt ?_ (by assumption)))).mono ?_);rintro e w3 ⟨rfl,hq3⟩;obtain ⟨z0,z1,zz⟩:=(HBX.out.ext (HXB.out.trans (by repeat (first|exact zr _|assumption|refine za ?_ _|refine zd ?_|refine zn ?_ _|refine zt ?_ (by assumption)):Ext wa w3))).facts;obtain ⟨hc3,hf3,hz3⟩:=(by repeat (first|exact zr _|assumption|refine za ?_ _|refine zd ?_|refine zn ?_ _|refine zt ?_ (by assumption)):Ext wa w3).facts)))
      | (go_at_call 37;first | ((with_reducible refine (HIK.out _ (HXR.out.trans (by repeat (first|exact zr _|assumption|refine za ?_ _|refine zd ?_|refine zn ?_ _|refine zt ?_ (by assumption))))).mono ?_);rintro e w5 ⟨rfl,hq5⟩) | (((with_reducible refine (HIM.out _ (HXR.out.trans (by repeat (first|exact zr _|assumption|refine za ?_ _|refine zd ?_|refine zn ?_ _|refine zt ?_ (by assumption))))).mono ?_);rintro e w6 ⟨rfl,hq6⟩)))
      | (go_at_call 36;((with_reducible refine (zgg S4 (HWS.out.ext (by repeat (first|exact zr _|assumption|refine za ?_ _|refine zd ?_|refine zn ?_ _|refine zt ?_ (by assumption)))) (by omega)).mono ?_);rintro e w7 ⟨rfl,hs9⟩;have HS9:=Lib.hid hs9;clear hs9)))
     go_roundw
     case rel=>exact ⟨i+2*t,T++S4,by go_num,by omega,by rw [List.length_append];omega,HST3,HS9⟩
     case measure=>simp [intOf] <;> omega
   ·have hA3:=hA1 hot
    have p1:¬((o:Int)<2*(t:Int)):=by omega
    by_cases ho0:0<o
    ·have HAA:=Lib.hid (And.intro hA3 ho0)
     clear hA1 hA2 hA3 hv9 hn9 hby9 d0 d1 hot ho0
     have HAG:=Lib.hid (HAA.out)
     have hle:=zeT (by omega) HAG.out.1 HAG.out.2
     have HIK:=Lib.hid (fun (w':World) (h:Ext w w')=>zan 1 (by omega) (by omega) w' (HG.out.ext h))
     have HIM:=Lib.hid (fun (w':World) (h:Ext w w')=>zan (o:Int) (by omega) (by omega) w' (HG.out.ext h))
     rw [Int.toNat_natCast] at HIM
     have hd1:=zaj 1
     have hd2:=zaj o
     have hd3:((1:Int)).toNat=1:=rfl
     rw [hd3] at HIK
     have HST2:=Lib.hid (HST.out.agn (by omega) HAG.out.1 HAG.out.2 (by omega))
     obtain ⟨D1,hD1⟩:∃D1,decD 1=D1:=⟨_,rfl⟩
     obtain ⟨D2,hD2⟩:∃D2,decD o=D2:=⟨_,rfl⟩
     rw [hD1] at HIK hd1
     rw [hD2] at HIM hd2
     obtain ⟨S1,hS1⟩:∃S1,agnB++D1=S1:=⟨_,rfl⟩
     obtain ⟨S2,hS2⟩:∃S2,S1++[32]=S2:=⟨_,rfl⟩
     obtain ⟨S3,hS3⟩:∃S3,S2++D2=S3:=⟨_,rfl⟩
     obtain ⟨S4,hS4⟩:∃S4,S3++[10]=S4:=⟨_,rfl⟩
     have cs1:(⟨#[97,103,97,105,110,32]⟩++⟨D1.toArray⟩:ByteArray)=⟨S1.toArray⟩:=by rw [←hS1];exact zab agnB D1
     have cs2:(⟨S1.toArray⟩++⟨#[32]⟩:ByteArray)=⟨S2.toArray⟩:=by rw [←hS2];exact zab S1 [32]
     have cs3:(⟨S2.toArray⟩++⟨D2.toArray⟩:ByteArray)=⟨S3.toArray⟩:=by rw [←hS3];exact zab S2 D2
     have cs4:(⟨S3.toArray⟩++⟨#[10]⟩:ByteArray)=⟨S4.toArray⟩:=by rw [←hS4];exact zab S3 [10]
     have l1:S1.length≤26:=by rw [←hS1,List.length_append,show agnB.length=6 from rfl];omega
     have l2:S2.length≤27:=by rw [←hS2,List.length_append,List.length_singleton];omega
     have l3:S3.length≤47:=by rw [←hS3,List.length_append];omega
     have l4:S4.length≤48:=by rw [←hS4,List.length_append,List.length_singleton];omega
     have HST3:=Lib.hid (show RowSt rows (i+1*o) (T++S4) by
      have h9:=HST2.out
      rw [hD1,hD2] at h9
      rw [←hS4,←hS3,←hS2,←hS1]
      simpa using h9)
     have j1:=IntWalk.i64_in ((1:Int)*(o:Int)) (by omega)
     have j2:=IntWalk.i64_in ((i:Int)+(1:Int)*(o:Int)) (by omega)
     have p2:(0:Int)<(o:Int):=by have:=HAG.out.2;omega
     have hle2:i+1*o≤m:=by omega
     have hle3:1≤o:=HAG.out.2
     clear hS1 hS2 hS3 hS4 hD1 hD2 hd3 hle HST2 HAG HST
     go_wp2_with (first
      | (go_at_call 35;first
       | ((with_reducible refine (HRP1.out _ (by repeat (first|exact zr _|assumption|refine za ?_ _|refine zd ?_|refine zn ?_ _|refine zt ?_ (by assumption)))).mono ?_);rintro e w2 ⟨rfl,hq2⟩;obtain ⟨y0,y1,yz⟩:=(HBX.out.ext (HXB.out.trans (by repeat (first|exact zr _|assumption|refine za ?_ _|refine zd ?_|refine zn ?_ _|refine zt ?_ (by assumption)):Ext wa w2))).facts)
       | (((with_reducible refine (HRP2.out _ (by repeat (first|exact zr _|assumption|refine za ?_ _|refine zd ?_|refine zn ?_ _|refine zt ?_ (by assumption)))).mono ?_);rintro e w3 ⟨rfl,hq3⟩;obtain ⟨z0,z1,zz⟩:=(HBX.out.ext (HXB.out.trans (by repeat (first|exact zr _|assumption|refine za ?_ _|refine zd ?_|refine zn ?_ _|refine zt ?_ (by assumption)):Ext wa w3))).facts;obtain ⟨hc3,hf3,hz3⟩:=(by repeat (first|exact zr _|assumption|refine za ?_ _|refine zd ?_|refine zn ?_ _|refine zt ?_ (by assumption)):Ext wa w3).facts)))
      | (go_at_call 37;first | ((with_reducible refine (HIK.out _ (HXR.out.trans (by repeat (first|exact zr _|assumption|refine za ?_ _|refine zd ?_|refine zn ?_ _|refine zt ?_ (by assumption))))).mono ?_);rintro e w5 ⟨rfl,hq5⟩) | (((with_reducible refine (HIM.out _ (HXR.out.trans (by repeat (first|exact zr _|assumption|refine za ?_ _|refine zd ?_|refine zn ?_ _|refine zt ?_ (by assumption))))).mono ?_);rintro e w6 ⟨rfl,hq6⟩)))
      | (go_at_call 36;((with_reducible refine (zgg S4 (HWS.out.ext (by repeat (first|exact zr _|assumption|refine za ?_ _|refine zd ?_|refine zn ?_ _|refine zt ?_ (by assumption)))) (by omega)).mono ?_);rintro e w7 ⟨rfl,hs9⟩;have HS9:=Lib.hid hs9;clear hs9)))
     go_roundw
     case rel=>exact ⟨i+1*o,T++S4,by go_num,by omega,by rw [List.length_append];omega,HST3,HS9⟩
     case measure=>simp [intOf] <;> omega
    ·have p2:¬((0:Int)<(o:Int)):=by omega
     have HA3:=Lib.hid (show (agnT rows i).2=0 by rw [hA3];show o=0;omega)
     obtain ⟨hb1,hb2⟩:=HAL.out i (by omega)
     have i5:=IntWalk.i64_in ((i:Int)+1) (by omega)
     have hsm:=fun s (h:lineT (rows.getD i ro0)=some s)=>HST.out.line (by omega) HA3.out h
     have hno:=fun (h:lineT (rows.getD i ro0)=none)=>HST.out.none (by omega) HA3.out h
     have hlen:=fun s (h:lineT (rows.getD i ro0)=some s)=>zkF h (zbY hb1 hb2).1
     generalize rows.getD i ro0=r at *
     obtain ⟨rb,cs⟩:=r
     simp only at d0 d1 hv9 hby9 hb1 hb2
     have hn200:n9≤200:=by rw [←hv9.1];exact hb2
     have HLI:=Lib.hid (fun (w':World) (h:Ext wa w')=>zjE rb cs A9 n9 c9 w' (hv9.ext h) hby9 hn200 hb1 (HG.out.ext (HXR.out.trans h)))
     clear hA1 hA2 hA3 hot ho0 hv9 hby9 hb1 hb2 hn9
     cases hq:lineT ⟨rb,cs⟩ with
     | none =>
      have HV:=Lib.hid (ze2 HC.out (hno hq))
      have HLN:=Lib.hid (show ∀(w':World),Ext wa w'→Calls Tryz.prog 38 #[.agg #[.bool rb,.slice A9 n9 c9]] w' fun e w''=>e = .returned (.tuple #[.string ⟨#[]⟩,.int .i64 4])∧Ext w' w'' from fun w' h=>by
       refine (HLI.out w' h).mono ?_
       rintro e w9 ⟨h1,h2 | ⟨s9,h2,h3⟩⟩
       ·exact ⟨h2.2,h1⟩
       ·rw [hq] at h2;cases h2)
      clear hsm hno hlen hq HLI
      go_wp2_with (first
      | (go_at_call 35;first
       | ((with_reducible refine (HRP1.out _ (by repeat (first|exact zr _|assumption|refine za ?_ _|refine zd ?_|refine zn ?_ _|refine zt ?_ (by assumption)))).mono ?_);rintro e w2 ⟨rfl,hq2⟩;obtain ⟨y0,y1,yz⟩:=(HBX.out.ext (HXB.out.trans (by repeat (first|exact zr _|assumption|refine za ?_ _|refine zd ?_|refine zn ?_ _|refine zt ?_ (by assumption)):Ext wa w2))).facts)
       | (((with_reducible refine (HRP2.out _ (by repeat (first|exact zr _|assumption|refine za ?_ _|refine zd ?_|refine zn ?_ _|refine zt ?_ (by assumption)))).mono ?_);rintro e w3 ⟨rfl,hq3⟩;obtain ⟨z0,z1,zz⟩:=(HBX.out.ext (HXB.out.trans (by repeat (first|exact zr _|assumption|refine za ?_ _|refine zd ?_|refine zn ?_ _|refine zt ?_ (by assumption)):Ext wa w3))).facts;obtain ⟨hc3,hf3,hz3⟩:=(by repeat (first|exact zr _|assumption|refine za ?_ _|refine zd ?_|refine zn ?_ _|refine zt ?_ (by assumption)):Ext wa w3).facts)))
      | (go_at_call 38;((with_reducible refine (HLN.out _ (by repeat (first|exact zr _|assumption|refine za ?_ _|refine zd ?_|refine zn ?_ _|refine zt ?_ (by assumption)))).mono ?_);rintro e w4 ⟨rfl,hq4⟩)))
      go_ret2
      exact PRowsR.mk_ HV.out (HXR.out.trans (by repeat (first|exact zr _|assumption|refine za ?_ _|refine zd ?_|refine zn ?_ _|refine zt ?_ (by assumption))))
     | some S =>
      have HST3:=Lib.hid (hsm S hq)
      have hSl:=hlen S hq
      have HLN:=Lib.hid (show ∀(w':World),Ext wa w'→Calls Tryz.prog 38 #[.agg #[.bool rb,.slice A9 n9 c9]] w' fun e w''=>e = .returned (.tuple #[.string ⟨S.toArray⟩,.int .i64 0])∧Ext w' w'' from fun w' h=>by
       refine (HLI.out w' h).mono ?_
       rintro e w9 ⟨h1,h2 | ⟨s9,h2,h3⟩⟩
       ·rw [hq] at h2;cases h2.1
       ·rw [hq] at h2;cases h2;exact ⟨h3,h1⟩)
      obtain ⟨S2,hS2⟩:∃S2,S++[10]=S2:=⟨_,rfl⟩
      have cs2:(⟨S.toArray⟩++⟨#[10]⟩:ByteArray)=⟨S2.toArray⟩:=by rw [←hS2];exact zab S [10]
      have l2:S2.length≤3007:=by rw [←hS2,List.length_append,List.length_singleton];omega
      rw [hS2] at HST3
      clear hsm hno hlen hq HLI hS2
      go_wp2_with (first
      | (go_at_call 35;first
       | ((with_reducible refine (HRP1.out _ (by repeat (first|exact zr _|assumption|refine za ?_ _|refine zd ?_|refine zn ?_ _|refine zt ?_ (by assumption)))).mono ?_);rintro e w2 ⟨rfl,hq2⟩;obtain ⟨y0,y1,yz⟩:=(HBX.out.ext (HXB.out.trans (by repeat (first|exact zr _|assumption|refine za ?_ _|refine zd ?_|refine zn ?_ _|refine zt ?_ (by assumption)):Ext wa w2))).facts)
       | (((with_reducible refine (HRP2.out _ (by repeat (first|exact zr _|assumption|refine za ?_ _|refine zd ?_|refine zn ?_ _|refine zt ?_ (by assumption)))).mono ?_);rintro e w3 ⟨rfl,hq3⟩;obtain ⟨z0,z1,zz⟩:=(HBX.out.ext (HXB.out.trans (by repeat (first|exact zr _|assumption|refine za ?_ _|refine zd ?_|refine zn ?_ _|refine zt ?_ (by assumption)):Ext wa w3))).facts;obtain ⟨hc3,hf3,hz3⟩:=(by repeat (first|exact zr _|assumption|refine za ?_ _|refine zd ?_|refine zn ?_ _|refine zt ?_ (by assumption)):Ext wa w3).facts)))
      | (go_at_call 38;((with_reducible refine (HLN.out _ (by repeat (first|exact zr _|assumption|refine za ?_ _|refine zd ?_|refine zn ?_ _|refine zt ?_ (by assumption)))).mono ?_);rintro e w4 ⟨rfl,hq4⟩))
      | (go_at_call 36;((with_reducible refine (zgg S2 (HWS.out.ext (by repeat (first|exact zr _|assumption|refine za ?_ _|refine zd ?_|refine zn ?_ _|refine zt ?_ (by assumption)))) (by omega)).mono ?_);rintro e w7 ⟨rfl,hs9⟩;have HS9:=Lib.hid hs9;clear hs9)))
      go_roundw
      case rel=>exact ⟨i+1,T++S2,by go_num,by omega,by rw [List.length_append];omega,HST3,HS9⟩
      case measure=>simp [intOf] <;> omega
  ·obtain rfl:m=i:=by omega
   have hml:=HML.out
   have hfin:=HST.out.fin (by omega)
   have q1:¬((m:Int)<(m:Int)):=by omega
   by_cases hl6:60000<T.length
   ·have HV:=Lib.hid (zeO HC.out hfin hl6)
    have p3:(60000:Int)<(T.length:Int):=by omega
    clear hfin hml
    go_wp2_with (first
     | (go_at_call 39;((refine (Tryz.Builder_Len_f _ _ _ _ HWS.out.bl).mono ?_);rintro e w3 ⟨rfl,rfl⟩;rw [zbg])))
    go_ret2
    exact PRowsR.mk_ HV.out (HXR.out.trans (by repeat (first|exact zr _|assumption|refine za ?_ _|refine zd ?_|refine zn ?_ _|refine zt ?_ (by assumption))))
   ·have HV:=Lib.hid (ze6 HC.out hfin hl6)
    have p3:¬((60000:Int)<(T.length:Int)):=by omega
    clear hfin hml
    go_wp2_with (first
     | (go_at_call 39;((refine (Tryz.Builder_Len_f _ _ _ _ HWS.out.bl).mono ?_);rintro e w3 ⟨rfl,rfl⟩;rw [zbg]))
     | (go_at_call 40;((refine (Tryz.Builder_String_any_k w1.heap.size _ T _ HWS.out.bl (Below.size HWS.out.ex)).mono ?_);rintro e w4 ⟨rfl, -,hq4, -⟩;have HS4:=Lib.hid (Below.trans HWS.out.ex hq4))))
    go_ret2
    exact PRowsR.mk_ HV.out (HW0.out.trans (HE1.out.trans HS4.out))
theorem zeE (s:Int) (A:Option Addr) (m c:Nat) (rows:List Ro) (w:World) (hr:Rws w (fun _=>True) A m rows) (hg:Glob w) :
  Calls Tryz.prog 10 #[.agg #[.int .i64 s,.slice A m c]] w (PRowsR s rows w):=by
 by_cases h0:chkC s rows=0
 ·exact zht s A m c rows w hr hg h0
 ·exact zku s _ A m c rows w hr rfl h0
end Go.Proofs.YtkneghkbgingdaaGreatDoor
/- The rows of a chart are no longer than their capacities;how that is read off what comes in. -/
namespace Go.Proofs.YtkneghkbgingdaaGreatDoor
set_option maxRecDepth 100000
open Go.RowKit Go.ChangeShapes Go.WideShapes Go.Joins
def Caps (w:World) (A:Option Addr) (n:Nat):Prop:=∃xs:List Raw,Vec shRaw w A n xs∧∀x∈xs,x.n≤x.c
theorem Caps.ext {w w':World} {A:Option Addr} {n:Nat} (h:Caps w A n) (hb:Ext w w'):Caps w' A n:=by
 obtain ⟨xs,h1,h2⟩:=h
 exact ⟨xs,h1.ext hb,h2⟩
theorem Caps.at_ {w:World} {A1:Option Addr} {b off n k n1 c1:Nat} (h:Caps w (some ⟨b,off,none⟩) n) (hk:k<n) (hc:w.cell? ⟨b,off+k*2+1,none⟩=some (.slice A1 n1 c1)):n1≤c1:=by
 obtain ⟨xs,h1,h2⟩:=h
 obtain ⟨b',off',e,_,h3⟩:=h1.2 (by omega)
 cases e
 have hx:xs[k]?=some (xs.getD k raw0):=zi6 (by rw [h1.1];exact hk)
 have h4:w.cell? ⟨b,off+k*2+1,none⟩=some (.slice (xs.getD k raw0).A (xs.getD k raw0).n (xs.getD k raw0).c):=h3 k _ hx 1 _ rfl
 rw [hc] at h4
 cases h4
 exact h2 _ (List.mem_of_getElem? hx)
theorem Caps.none_ (w:World) (A:Option Addr):Caps w A 0:=⟨[],Vec.none_ _ _ _,fun x hx=>by cases hx⟩
section
variable {H:Type} {enc:TypeId×Value→H} {w:World} {base:Nat} {spare:Nat→Bool} {held:Bool}
theorem zfl {fuel:Nat} {A0:Option Addr} {n0 c0:Nat} {y:DataW H×List MemPlace} (h:DataW.trod enc Tryz.prog w base spare held fuel 22 [.slice A0 n0 c0]=some y):Caps w A0 n0:=by
 obtain ⟨A,n,c,xs,e,hv,hm,hq⟩:=zcT (S:=shRaw) (Q:=fun x=>x.n≤x.c) Tryz.underlying22 (by kernel_rfl) (fun fuel cs y hl hy=>by
  obtain ⟨xs,m,_,_,_,hxl,hel⟩:=DataW.trod_struct Tryz.underlying75 hy
  match cs,hl with
  | [c0,c1],_ =>
   match xs,hxl with
   | [y0,y1],_ =>
    have C1:Tryz.prog.cellsOf 4=1:=by kernel_rfl
    have C2:Tryz.prog.cellsOf 73=1:=by kernel_rfl
    have h0:=hel 0 _ rfl
    have h1:=hel 1 _ rfl
    simp [C1,C2] at h0 h1
    obtain ⟨b,e1,_⟩:=DataW.trod_bool Tryz.underlying4 h0
    obtain ⟨A',n',c',l,rfl,hv,hm,hb⟩:=zdf h1
    simp at e1
    subst e1
    exact ⟨⟨b,A',n',c'⟩,rfl,zhW Tryz.underlying73 h1⟩) h
 cases e
 exact ⟨xs,hv,hq⟩
theorem zcR {r:Reach} {b0:Nat} {v:Value} {d:DataW H} {p:List MemPlace} (hv:Value.okWide Tryz.prog w r b0 24 v) (h:DataW.Trod enc Tryz.prog w base spare held 24 v d p) :
  ∃(s:Int) (A:Option Addr) (n c:Nat) (l:List Ro),v = .agg #[.int .i64 s,.slice A n c]∧Rws w (fun _=>True) A n l∧Caps w A n:=by
 obtain ⟨v0,v1,y0,y1,n,rfl, -, -,h0,h1⟩:=open_agg2 Tryz.underlying24 (by kernel_rfl) (by kernel_rfl) hv h
 obtain ⟨s,e0, -, -⟩:=DataW.trod_int Tryz.underlying3 h0
 obtain ⟨A,n,c,l,rfl,hl⟩:=zeV h1
 simp at e0
 subst e0
 exact ⟨s,A,n,c,l,rfl,hl,zfl h1⟩
end
end Go.Proofs.YtkneghkbgingdaaGreatDoor
/- The contract of Counts of charts. -/
namespace Go.Proofs.YtkneghkbgingdaaGreatDoor
set_option maxRecDepth 100000
open Go.RowKit Go.ChangeShapes Go.WideShapes Go.Joins Go.Shelf
attribute [local go_sem] Oper.semAt_some
theorem KpT.app {n₀:Nat} {W w1:World} {v v':Value} {B k:Nat} {T t e:TypeId} {xs:List Value} {o:Obj} (hT:T≠e) (ht:T≠t) (hv:Boxed W B t v) (hr:W.ownsRow n₀ e 1 v k xs) (hg:(W.alloc o).grownBy w1 v.ownBlock) (hb:Below n₀ W (w1.setCell ⟨B,0,none⟩ v')):KpT n₀ T W (w1.setCell ⟨B,0,none⟩ v'):=by
 refine ⟨hb,fun b hty=>?_⟩
 have hlt:=hty.lt
 have h1:b≠B:=by
  rintro rfl
  obtain ⟨cs,f,hc⟩:=hty
  have h9:=(show W.heap[_]?=_ from hv).symm.trans hc
  cases h9
  exact ht rfl
 have h2:some b≠v.ownBlock:=by
  rcases hr.2 with ⟨rfl,_⟩ | ⟨g,cap,cur,rfl,_,hgb,_⟩
  ·simp [Value.ownBlock]
  ·intro e'
   obtain rfl:b=g:=by simpa [Value.ownBlock] using e'
   obtain ⟨cs,f,hc⟩:=hty
   rw [hgb] at hc
   cases hc
   exact hT rfl
 rw [Below.heap_setCell w1 ⟨B,0,none⟩ v' b h1]
 exact (hg.block b (by simp;omega) h2).trans (Below.heap_alloc _ _ _ hlt)
end Go.Proofs.YtkneghkbgingdaaGreatDoor
/- The contracts of the reference's Check,Counts,Great and SameInts of charts. -/
namespace Go.Proofs.YtkneghkbgingdaaGreatDoor
set_option maxRecDepth 100000
open Go.RowKit Go.ChangeShapes Go.WideShapes Go.Joins
set_option maxHeartbeats 2000000 in
theorem zcS (s:Int) (A:Option Addr) (m c:Nat) (rows:List Ro) (w:World) (hr:Rws w (fun _=>True) A m rows) :
  Calls Tryz.prog 30 #[.agg #[.int .i64 s,.slice A m c]] w fun e w'=>e = .returned (.int .i64 (chkC s rows))∧Ext w w':=by
 have hml:=hr.len
 have hmm:=hr.1
 unfold maxLen at hmm
 have hm2:(m:Int)≤9223372036854775807:=by omega
 have HR:=Lib.hid hr
 have HL:=Lib.hid hml
 clear hr hml hmm
 by_cases h1:100<m
 ·have HE:=Lib.hid (show chkC s rows=4 by rw [chkC,if_pos (by rw [HL.out];exact h1)])
  go_enter Tryz.func30,Tryz.ntmps30
  go_wp2_with fail
  go_ret
  exact ⟨by rw [HE.out];rfl,by repeat (first|exact zr _|assumption|refine za ?_ _|refine zd ?_|refine zn ?_ _|refine zt ?_ (by assumption))⟩
 have hm3:decide ((100:Int)<(m:Int))=false:=by simp;omega
 by_cases h2:s<0
 ·have HE:=Lib.hid (show chkC s rows=8 by rw [chkC,if_neg (by rw [HL.out];exact h1),if_pos (.inl h2)])
  go_enter Tryz.func30,Tryz.ntmps30
  go_wp2_with fail
  go_ret
  exact ⟨by rw [HE.out];rfl,by repeat (first|exact zr _|assumption|refine za ?_ _|refine zd ?_|refine zn ?_ _|refine zt ?_ (by assumption))⟩
 have hs2:decide (s<0)=false:=by simp;omega
 by_cases h3:200<s
 ·have HE:=Lib.hid (show chkC s rows=8 by rw [chkC,if_neg (by rw [HL.out];exact h1),if_pos (.inr h3)])
  go_enter Tryz.func30,Tryz.ntmps30
  go_wp2_with fail
  go_ret
  exact ⟨by rw [HE.out];rfl,by repeat (first|exact zr _|assumption|refine za ?_ _|refine zd ?_|refine zn ?_ _|refine zt ?_ (by assumption))⟩
 have hs3:decide (200<s)=false:=by simp;omega
 have HE:=Lib.hid (show chkC s rows=chkGo s rows by rw [chkC,if_neg (by rw [HL.out];exact h1),if_neg (by omega)])
 go_enter Tryz.func30,Tryz.ntmps30
 go_wp2_with fail
 go_loopw [3,4] (fun u i wr=>∃(k:Nat) (q:Int),i = .int .i64 k∧u = .int .i64 q∧k≤m∧Hid (chkGo q (rows.drop k)=chkGo s rows)∧Hid (Ext (w.alloc (.cells #[.int .i64 s,.slice A m c] 24)) wr)) (fun _ i _=>m-(intOf i).toNat)
 case atStart=>exact ⟨0,s,rfl,rfl,Nat.zero_le _,Lib.hid (by simp),Lib.hid (by repeat (first|exact zr _|assumption|refine za ?_ _|refine zd ?_|refine zn ?_ _|refine zt ?_ (by assumption)))⟩
 case round =>
  obtain ⟨k,q,rfl,rfl,hk,HG,HX⟩:=hrel
  by_cases hlt:k<m
  ·obtain ⟨b,off,A',m',c',rfl,hb0, -,d0,d1,hv,hm',hby, -⟩:=(HR.out.ext ((Ext.alloc (Ext.refl w) _).trans HX.out)).at_ hlt
   have q0:(0:Int)≤(k:Int):=by omega
   have q1:(k:Int)<(m:Int):=by omega
   have HW:=Lib.hid hv
   have hby:=Lib.hid hby
   have hm':=Lib.hid hm'
   have hx:=HX.out
   obtain ⟨hf1,hf2,hf3⟩:=hx.facts
   have HD:=Lib.hid (zlu (l:=rows) (k:=k) (by rw [HL.out];exact hlt))
   clear hv
   generalize hrow:rows.getD k ro0=row at *
   clear hrow
   by_cases h4:allE row.cells=0
   ·by_cases h5:usL row.cells=q
    ·have HA:=Lib.hid h4
     have HU:=Lib.hid (show usG row.cells=q by rw [zg5 h4];exact h5)
     have HM:=Lib.hid (zlt h4)
     have HN:=Lib.hid (show chkGo (mkL row.cells) (rows.drop (k+1))=chkGo s rows by rw [←HG.out,HD.out,chkGo,if_neg (by simp [h4]),if_neg (by simp [h5])])
     clear h4 h5
     go_wp2_with (first
      | (go_at_call 62;((with_reducible refine (zcY m' c' A' row.cells _ (HW.out.ext (by repeat (first|exact zr _|assumption|refine za ?_ _|refine zd ?_|refine zn ?_ _|refine zt ?_ (by assumption)))) hm'.out).mono ?_);rintro e w1 ⟨rfl,hq1⟩;rw [HA.out,HU.out];obtain ⟨hg1,hg2,hg3⟩:=(Ext.trans hx hq1).facts;obtain ⟨hh1,hh2,hh3⟩:=hq1.facts))
      | (go_at_call 63;((with_reducible refine (zhr m' c' A' row.cells _ (HW.out.ext (by repeat (first|exact zr _|assumption|refine za ?_ _|refine zd ?_|refine zn ?_ _|refine zt ?_ (by assumption)))) hm'.out).mono ?_);rintro e w2 ⟨rfl,hq2⟩;rw [HA.out,HM.out])))
     go_roundw
     case rel=>exact ⟨k+1,mkL row.cells,by go_num,rfl,by omega,HN,Lib.hid (by repeat (first|exact zr _|assumption|refine za ?_ _|refine zd ?_|refine zn ?_ _|refine zt ?_ (by assumption)))⟩
     case measure=>simp [intOf];omega
    ·have HA:=Lib.hid h4
     have hb:(usG row.cells != q)=true:=by rw [zg5 h4];simpa using h5
     have HN:=Lib.hid (show chkGo s rows=26 by rw [←HG.out,HD.out,chkGo,if_neg (by simp [h4]),if_pos h5])
     clear h4 h5
     go_wp2_with (first | (go_at_call 62;((with_reducible refine (zcY m' c' A' row.cells _ (HW.out.ext (by repeat (first|exact zr _|assumption|refine za ?_ _|refine zd ?_|refine zn ?_ _|refine zt ?_ (by assumption)))) hm'.out).mono ?_);rintro e w1 ⟨rfl,hq1⟩;rw [HA.out])))
     go_ret
     exact ⟨by rw [HE.out,HN.out];rfl,by have:=HX.out;exact (Ext.alloc (Ext.refl w) _).trans (by repeat (first|exact zr _|assumption|refine za ?_ _|refine zd ?_|refine zn ?_ _|refine zt ?_ (by assumption)))⟩
   ·have hb:(allE row.cells != 0)=true:=by simpa using h4
    have HN:=Lib.hid (show chkGo s rows=allE row.cells by rw [←HG.out,HD.out,chkGo,if_pos h4])
    clear h4
    go_wp2_with (first | (go_at_call 62;((with_reducible refine (zcY m' c' A' row.cells _ (HW.out.ext (by repeat (first|exact zr _|assumption|refine za ?_ _|refine zd ?_|refine zn ?_ _|refine zt ?_ (by assumption)))) hm'.out).mono ?_);rintro e w1 ⟨rfl,hq1⟩)))
    go_ret
    exact ⟨by rw [HE.out,HN.out];rfl,by have:=HX.out;exact (Ext.alloc (Ext.refl w) _).trans (by repeat (first|exact zr _|assumption|refine za ?_ _|refine zd ?_|refine zn ?_ _|refine zt ?_ (by assumption)))⟩
  ·obtain rfl:k=m:=by omega
   have HN:=Lib.hid (show chkGo s rows=0 by rw [←HG.out,List.drop_of_length_le (Nat.le_of_eq HL.out)];rfl)
   have hx:=HX.out
   obtain ⟨hf1,hf2,hf3⟩:=hx.facts
   go_wp2_with fail
   go_ret
   exact ⟨by rw [HE.out,HN.out];rfl,(Ext.alloc (Ext.refl w) _).trans hx⟩
end Go.Proofs.YtkneghkbgingdaaGreatDoor
