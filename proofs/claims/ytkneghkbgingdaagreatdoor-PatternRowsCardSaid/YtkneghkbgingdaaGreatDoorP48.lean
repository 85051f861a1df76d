/- Rows of the reference. -/
import Derived.Test.YtkneghkbgingdaaGreatDoorP44
import Derived.Test.YtkneghkbgingdaaGreatDoorP47
import Derived.Test.YtkneghkbgingdaaGreatDoorP38
namespace Go.Proofs.YtkneghkbgingdaaGreatDoor
set_option maxRecDepth 100000
set_option maxRecDepth 100000
open Go.RowKit Go.ChangeShapes Go.WideShapes Go.Joins
theorem zir {rb:Bool} {cs:List St} (h:ttextE (termsT cs)≠0):lineT ⟨rb,cs⟩=none:=by
 rw [lineT]
 exact if_pos h
theorem zkW {rb:Bool} {cs:List St} (h:ttextE (termsT cs)=0) (h2:wT (termsT cs)=[]):lineT ⟨rb,cs⟩=some (sideB rb):=by
 have h3:lineT ⟨rb,cs⟩=some (sideB rb++if wT (termsT cs)=[] then [] else 32::wT (termsT cs)):=if_neg (fun h9=>h9 h)
 rw [h3,if_pos h2,List.append_nil]
theorem ziv {rb:Bool} {cs:List St} (h:ttextE (termsT cs)=0) (h2:wT (termsT cs)≠[]):lineT ⟨rb,cs⟩=some (sideB rb++32::wT (termsT cs)):=by
 have h3:lineT ⟨rb,cs⟩=some (sideB rb++if wT (termsT cs)=[] then [] else 32::wT (termsT cs)):=if_neg (fun h9=>h9 h)
 rw [h3,if_neg h2]
theorem zkv (s x:Int) (A:Option Addr) (m c:Nat) (rows:List Ro) (w:World) (hr:Rws w (fun _=>True) A m rows) (hx:chkC s rows=x) (h0:x≠0) :
  Calls Tryz.prog 11 #[.agg #[.int .i64 s,.slice A m c]] w (PRowsR s rows w):=by
 have HR:=Lib.hid hr
 have HX:=Lib.hid hx
 have HV:=Lib.hid (zgM hx h0)
 have hb0:Ext w (w.alloc (.cells #[.int .i64 s,.slice A m c] 24)):=(Ext.refl _).alloc _
 have hne:(x != 0)=true:=by simpa using h0
 clear hr hx h0
 go_enter Tryz.func11,Tryz.ntmps11
 go_wp2_with (go_at_call 30;((with_reducible refine (zcS s A m c rows _ (HR.out.ext (hb0.trans (by repeat (first|exact zr _|assumption|refine za ?_ _|refine zd ?_|refine zn ?_ _|refine zt ?_ (by assumption)))))).mono ?_);rintro e w1 ⟨rfl,hq1⟩;rw [HX.out]))
 go_ret2
 exact PRowsR.mk_ HV.out (hb0.trans (by repeat (first|exact zr _|assumption|refine za ?_ _|refine zd ?_|refine zn ?_ _|refine zt ?_ (by assumption))))
set_option maxHeartbeats 8000000 in
theorem zhC (s:Int) (A:Option Addr) (m c:Nat) (rows:List Ro) (w:World) (hr:Rws w (fun _=>True) A m rows) (hcp:Caps w A m) (h0:chkC s rows=0) :
  Calls Tryz.prog 11 #[.agg #[.int .i64 s,.slice A m c]] w (PRowsR s rows w):=by
 have HR:=Lib.hid hr
 have HCP:=Lib.hid hcp
 have HC:=Lib.hid h0
 obtain ⟨hl100,hall⟩:=zcI h0
 have HAL:=Lib.hid hall
 have hml:rows.length=m:=hr.len
 have HML:=Lib.hid hml
 have hm100:m≤100:=by omega
 have HBX:=Lib.hid (BoxC.start w s A m c)
 have HW0:=Lib.hid (show Ext w (w.alloc (.cells #[.int .i64 s,.slice A m c] 24)) from (Ext.refl w).alloc _)
 clear hr hcp h0 hall hl100 hml
 go_enter Tryz.func11,Tryz.ntmps11
 go_wp2_with (first
  | (go_at_call 30;((with_reducible refine (zcS s A m c rows _ (HR.out.ext (HW0.out.trans (by repeat (first|exact zr _|assumption|refine za ?_ _|refine zd ?_|refine zn ?_ _|refine zt ?_ (by assumption)))))).mono ?_);rintro e w1 ⟨rfl,hq1⟩;rw [HC.out];obtain ⟨x0,x1,xz⟩:=(HBX.out.ext (by repeat (first|exact zr _|assumption|refine za ?_ _|refine zd ?_|refine zn ?_ _|refine zt ?_ (by assumption)):Ext _ w1)).facts)))
 have HE1:=Lib.hid (show Ext (w.alloc (.cells #[.int .i64 s,.slice A m c] 24)) w1 from hq1)
 clear hq1 x0 x1 xz
 go_loopw [5,6] (fun v u wr=>∃(i:Nat) (T:List UInt8),v = .string ⟨T.toArray⟩∧u = .int .i64 (i:Int)∧i≤m∧T.length≤3100*i∧Hid (RowSt rows i T)∧Hid (Ext (w.alloc (.cells #[.int .i64 s,.slice A m c] 24)) wr)) (fun _ u _=>m-(intOf u).toNat)
 case atStart=>exact ⟨0,[],rfl,rfl,Nat.zero_le _,Nat.zero_le _,Lib.hid (RowSt.start rows),HE1⟩
 case round =>
  obtain ⟨i,T,rfl,rfl,hi,hTl,HST,HXB⟩:=hrel
  obtain ⟨wa,rfl⟩:∃wa:World,wa=wr:=⟨_,rfl⟩
  have HXR:=Lib.hid (HW0.out.trans HXB.out)
  obtain ⟨x0,x1,xz⟩:=(HBX.out.ext HXB.out).facts
  have q0:(0:Int)≤(i:Int):=by omega
  by_cases hlt:i<m
  ·have q1:(i:Int)<(m:Int):=by omega
   have hml:=HML.out
   obtain ⟨b9,off9,A9,n9,c9,rfl,hlt9, -,d0,d1,hv9,hn9,hby9, -⟩:=(HR.out.ext HXR.out).at_ hlt
   have hnc9:=(HCP.out.ext HXR.out).at_ hlt d1
   have hra:=fun (k:Nat) (h1:1≤k) (h2:k≤2) (w':World) (h:Ext wa w')=>zhd (some ⟨b9,off9,none⟩) m c rows i k w' (HR.out.ext (HXR.out.trans h)) hi (by omega) h1 h2
   have h1:=hra 1 (by omega) (by omega)
   have h2:=hra 2 (by omega) (by omega)
   have ho:=zgL rows i 1
   have ht:=zgL rows i 2
   have hA1:=ziO (l:=rows) (i:=i)
   have hA2:=ziK (l:=rows) (i:=i)
   generalize repT rows i 1=o at *
   generalize repT rows i 2=t at *
   have HRP1:=Lib.hid (show ∀(w':World),Ext wa w'→Calls Tryz.prog 41 #[.slice (some ⟨b9,off9,none⟩) m c,.int .i64 (i:Int),.int .i64 1] w' fun e w''=>e = .returned (.int .i64 (o:Int))∧Ext w' w'' from h1)
   have HRP2:=Lib.hid (show ∀(w':World),Ext wa w'→Calls Tryz.prog 41 #[.slice (some ⟨b9,off9,none⟩) m c,.int .i64 (i:Int),.int .i64 2] w' fun e w''=>e = .returned (.int .i64 (t:Int))∧Ext w' w'' from h2)
   have i1:=IntWalk.i64_in (2*(t:Int)) (by omega)
   clear hra h1 h2
   by_cases hot:o<2*t
   ·have HAA:=Lib.hid (hA2 hot)
    have p1:(o:Int)<2*(t:Int):=by omega
    have p4:(0:Int)<(t:Int):=by omega
    clear hA1 hA2 hv9 hn9 hby9 d0 d1 hot
    by_cases ho0:0<o
    ·have p5:(0:Int)<(o:Int):=by omega
     have HAG:=Lib.hid (HAA.out)
     have hle:=zeT (by omega) HAG.out.1 HAG.out.2
     have hid1:=fun (w':World)=>zai 2 (by omega) w'
     have HIK:=Lib.hid (show ∀(w':World),Calls Tryz.prog 42 #[.int .i64 2] w' fun e w''=>e = .returned (.string ⟨(decD 2).toArray⟩)∧Ext w' w'' from hid1)
     have HIM:=Lib.hid (fun (w':World)=>zai t (by omega) w')
     have hd1:=zaj 2
     have hd2:=zaj t
     have HST2:=Lib.hid (HST.out.agn (by omega) HAG.out.1 HAG.out.2 (by omega))
     obtain ⟨D1,hD1⟩:∃D1,decD 2=D1:=⟨_,rfl⟩
     obtain ⟨D2,hD2⟩:∃D2,decD t=D2:=⟨_,rfl⟩
     rw [hD1] at HIK hd1
     rw [hD2] at HIM hd2
     obtain ⟨S0,hS0⟩:∃S0,T++agnB=S0:=⟨_,rfl⟩
     obtain ⟨S1,hS1⟩:∃S1,S0++D1=S1:=⟨_,rfl⟩
     obtain ⟨S2,hS2⟩:∃S2,S1++[32]=S2:=⟨_,rfl⟩
     obtain ⟨S3,hS3⟩:∃S3,S2++D2=S3:=⟨_,rfl⟩
     obtain ⟨S4,hS4⟩:∃S4,S3++[10]=S4:=⟨_,rfl⟩
     have cs0:(⟨T.toArray⟩++⟨#[97,103,97,105,110,32]⟩:ByteArray)=⟨S0.toArray⟩:=by rw [←hS0];exact zab T agnB
     have cs1:(⟨S0.toArray⟩++⟨D1.toArray⟩:ByteArray)=⟨S1.toArray⟩:=by rw [←hS1];exact zab S0 D1
     have cs2:(⟨S1.toArray⟩++⟨#[32]⟩:ByteArray)=⟨S2.toArray⟩:=by rw [←hS2];exact zab S1 [32]
     have cs3:(⟨S2.toArray⟩++⟨D2.toArray⟩:ByteArray)=⟨S3.toArray⟩:=by rw [←hS3];exact zab S2 D2
     have cs4:(⟨S3.toArray⟩++⟨#[10]⟩:ByteArray)=⟨S4.toArray⟩:=by rw [←hS4];exact zab S3 [10]
     have l0:S0.length=T.length+6:=by rw [←hS0,List.length_append,show agnB.length=6 from rfl]
     have l1:S1.length≤T.length+26:=by rw [←hS1,List.length_append];omega
     have l2:S2.length≤T.length+27:=by rw [←hS2,List.length_append,List.length_singleton];omega
     have l3:S3.length≤T.length+47:=by rw [←hS3,List.length_append];omega
     have l4:S4.length≤T.length+48:=by rw [←hS4,List.length_append,List.length_singleton];omega
     have HST3:=Lib.hid (show RowSt rows (i+2*t) S4 by
      have h9:=HST2.out
      rw [hD1,hD2] at h9
      rw [←hS4,←hS3,←hS2,←hS1,←hS0]
      simpa using h9)
     have j1:=IntWalk.i64_in ((2:Int)*(t:Int)) (by omega)
     have j2:=IntWalk.i64_in ((i:Int)+(2:Int)*(t:Int)) (by omega)
     have p2:(0:Int)<(t:Int):=by have:=HAG.out.2;omega
     have hle2:i+2*t≤m:=by omega
     have hle3:1≤t:=HAG.out.2
     clear hS0 hS1 hS2 hS3 hS4 hD1 hD2 hid1 hle HST2 HAG HST
     go_wp2_with fail
     go_region_held3 (fun wx=>wx.cell? ⟨w.heap.size,1,none⟩=some (.slice (some ⟨b9,off9,none⟩) m c)) (go_keep) (first
      | (go_at_call 41;first
       | ((with_reducible refine (HRP1.out _ (by repeat (first|exact zr _|assumption|refine za ?_ _|refine zd ?_|refine zn ?_ _|refine zt ?_ (by assumption)))).mono ?_);rintro e w2 ⟨rfl,hq2⟩;obtain ⟨y0,y1,yz⟩:=(HBX.out.ext (HXB.out.trans (by repeat (first|exact zr _|assumption|refine za ?_ _|refine zd ?_|refine zn ?_ _|refine zt ?_ (by assumption)):Ext wa w2))).facts)
       | ((with_reducible refine (HRP2.out _ (by repeat (first|exact zr _|assumption|refine za ?_ _|refine zd ?_|refine zn ?_ _|refine zt ?_ (by assumption)))).mono ?_);rintro e w3 ⟨rfl,hq3⟩;obtain ⟨z0,z1,zz⟩:=(HBX.out.ext (HXB.out.trans (by repeat (first|exact zr _|assumption|refine za ?_ _|refine zd ?_|refine zn ?_ _|refine zt ?_ (by assumption)):Ext wa w3))).facts;obtain ⟨hc3,hf3,hz3⟩:=(by repeat (first|exact zr _|assumption|refine za ?_ _|refine zd ?_|refine zn ?_ _|refine zt ?_ (by assumption)):Ext wa w3).facts)))
     all_goals
      go_wp2_with (first
       | (go_at_call 42;first | ((with_reducible refine (HIK.out _).mono ?_);rintro e w5 ⟨rfl,hq5⟩) | (((with_reducible refine (HIM.out _).mono ?_);rintro e w6 ⟨rfl,hq6⟩))))
      go_roundw
      case rel=>exact ⟨i+2*t,S4,by go_num,by go_num,by omega,by omega,HST3,Lib.hid (HXB.out.trans (by repeat (first|exact zr _|assumption|refine za ?_ _|refine zd ?_|refine zn ?_ _|refine zt ?_ (by assumption))))⟩
      case measure=>simp [intOf] <;> omega
    ·have p5:¬((0:Int)<(o:Int)):=by omega
     have HAG:=Lib.hid (HAA.out)
     have hle:=zeT (by omega) HAG.out.1 HAG.out.2
     have hid1:=fun (w':World)=>zai 2 (by omega) w'
     have HIK:=Lib.hid (show ∀(w':World),Calls Tryz.prog 42 #[.int .i64 2] w' fun e w''=>e = .returned (.string ⟨(decD 2).toArray⟩)∧Ext w' w'' from hid1)
     have HIM:=Lib.hid (fun (w':World)=>zai t (by omega) w')
     have hd1:=zaj 2
     have hd2:=zaj t
     have HST2:=Lib.hid (HST.out.agn (by omega) HAG.out.1 HAG.out.2 (by omega))
     obtain ⟨D1,hD1⟩:∃D1,decD 2=D1:=⟨_,rfl⟩
     obtain ⟨D2,hD2⟩:∃D2,decD t=D2:=⟨_,rfl⟩
     rw [hD1] at HIK hd1
     rw [hD2] at HIM hd2
     obtain ⟨S0,hS0⟩:∃S0,T++agnB=S0:=⟨_,rfl⟩
     obtain ⟨S1,hS1⟩:∃S1,S0++D1=S1:=⟨_,rfl⟩
     obtain ⟨S2,hS2⟩:∃S2,S1++[32]=S2:=⟨_,rfl⟩
     obtain ⟨S3,hS3⟩:∃S3,S2++D2=S3:=⟨_,rfl⟩
     obtain ⟨S4,hS4⟩:∃S4,S3++[10]=S4:=⟨_,rfl⟩
     have cs0:(⟨T.toArray⟩++⟨#[97,103,97,105,110,32]⟩:ByteArray)=⟨S0.toArray⟩:=by rw [←hS0];exact zab T agnB
     have cs1:(⟨S0.toArray⟩++⟨D1.toArray⟩:ByteArray)=⟨S1.toArray⟩:=by rw [←hS1];exact zab S0 D1
     have cs2:(⟨S1.toArray⟩++⟨#[32]⟩:ByteArray)=⟨S2.toArray⟩:=by rw [←hS2];exact zab S1 [32]
     have cs3:(⟨S2.toArray⟩++⟨D2.toArray⟩:ByteArray)=⟨S3.toArray⟩:=by rw [←hS3];exact zab S2 D2
     have cs4:(⟨S3.toArray⟩++⟨#[10]⟩:ByteArray)=⟨S4.toArray⟩:=by rw [←hS4];exact zab S3 [10]
     have l0:S0.length=T.length+6:=by rw [←hS0,List.length_append,show agnB.length=6 from rfl]
     have l1:S1.length≤T.length+26:=by rw [←hS1,List.length_append];omega
     have l2:S2.length≤T.length+27:=by rw [←hS2,List.length_append,List.length_singleton];omega
     have l3:S3.length≤T.length+47:=by rw [←hS3,List.length_append];omega
     have l4:S4.length≤T.length+48:=by rw [←hS4,List.length_append,List.length_singleton];omega
     have HST3:=Lib.hid (show RowSt rows (i+2*t) S4 by
      have h9:=HST2.out
      rw [hD1,hD2] at h9
      rw [←hS4,←hS3,←hS2,←hS1,←hS0]
      simpa using h9)
     have j1:=IntWalk.i64_in ((2:Int)*(t:Int)) (by omega)
     have j2:=IntWalk.i64_in ((i:Int)+(2:Int)*(t:Int)) (by omega)
     have p2:(0:Int)<(t:Int):=by have:=HAG.out.2;omega
     have hle2:i+2*t≤m:=by omega
     have hle3:1≤t:=HAG.out.2
     clear hS0 hS1 hS2 hS3 hS4 hD1 hD2 hid1 hle HST2 HAG HST
     go_wp2_with fail
     go_region_held3 (fun wx=>wx.cell? ⟨w.heap.size,1,none⟩=some (.slice (some ⟨b9,off9,none⟩) m c)) (go_keep) (first
      | (go_at_call 41;first
       | ((with_reducible refine (HRP1.out _ (by repeat (first|exact zr _|assumption|refine za ?_ _|refine zd ?_|refine zn ?_ _|refine zt ?_ (by assumption)))).mono ?_);rintro e w2 ⟨rfl,hq2⟩;obtain ⟨y0,y1,yz⟩:=(HBX.out.ext (HXB.out.trans (by repeat (first|exact zr _|assumption|refine za ?_ _|refine zd ?_|refine zn ?_ _|refine zt ?_ (by assumption)):Ext wa w2))).facts)
       | ((with_reducible refine (HRP2.out _ (by repeat (first|exact zr _|assumption|refine za ?_ _|refine zd ?_|refine zn ?_ _|refine zt ?_ (by assumption)))).mono ?_);rintro e w3 ⟨rfl,hq3⟩;obtain ⟨z0,z1,zz⟩:=(HBX.out.ext (HXB.out.trans (by repeat (first|exact zr _|assumption|refine za ?_ _|refine zd ?_|refine zn ?_ _|refine zt ?_ (by assumption)):Ext wa w3))).facts;obtain ⟨hc3,hf3,hz3⟩:=(by repeat (first|exact zr _|assumption|refine za ?_ _|refine zd ?_|refine zn ?_ _|refine zt ?_ (by assumption)):Ext wa w3).facts)))
     all_goals
      go_wp2_with (first
       | (go_at_call 42;first | ((with_reducible refine (HIK.out _).mono ?_);rintro e w5 ⟨rfl,hq5⟩) | (((with_reducible refine (HIM.out _).mono ?_);rintro e w6 ⟨rfl,hq6⟩))))
      go_roundw
      case rel=>exact ⟨i+2*t,S4,by go_num,by go_num,by omega,by omega,HST3,Lib.hid (HXB.out.trans (by repeat (first|exact zr _|assumption|refine za ?_ _|refine zd ?_|refine zn ?_ _|refine zt ?_ (by assumption))))⟩
      case measure=>simp [intOf] <;> omega
   ·have hA3:=hA1 hot
    have p1:¬((o:Int)<2*(t:Int)):=by omega
    by_cases ho0:0<o
    ·have HAA:=Lib.hid (And.intro hA3 ho0)
     have p5:(0:Int)<(o:Int):=by omega
     clear hA1 hA2 hA3 hv9 hn9 hby9 d0 d1 hot ho0
     have HAG:=Lib.hid (HAA.out)
     have hle:=zeT (by omega) HAG.out.1 HAG.out.2
     have hid1:=fun (w':World)=>zai 1 (by omega) w'
     have HIK:=Lib.hid (show ∀(w':World),Calls Tryz.prog 42 #[.int .i64 1] w' fun e w''=>e = .returned (.string ⟨(decD 1).toArray⟩)∧Ext w' w'' from hid1)
     have HIM:=Lib.hid (fun (w':World)=>zai o (by omega) w')
     have hd1:=zaj 1
     have hd2:=zaj o
     have HST2:=Lib.hid (HST.out.agn (by omega) HAG.out.1 HAG.out.2 (by omega))
     obtain ⟨D1,hD1⟩:∃D1,decD 1=D1:=⟨_,rfl⟩
     obtain ⟨D2,hD2⟩:∃D2,decD o=D2:=⟨_,rfl⟩
     rw [hD1] at HIK hd1
     rw [hD2] at HIM hd2
     obtain ⟨S0,hS0⟩:∃S0,T++agnB=S0:=⟨_,rfl⟩
     obtain ⟨S1,hS1⟩:∃S1,S0++D1=S1:=⟨_,rfl⟩
     obtain ⟨S2,hS2⟩:∃S2,S1++[32]=S2:=⟨_,rfl⟩
     obtain ⟨S3,hS3⟩:∃S3,S2++D2=S3:=⟨_,rfl⟩
     obtain ⟨S4,hS4⟩:∃S4,S3++[10]=S4:=⟨_,rfl⟩
     have cs0:(⟨T.toArray⟩++⟨#[97,103,97,105,110,32]⟩:ByteArray)=⟨S0.toArray⟩:=by rw [←hS0];exact zab T agnB
     have cs1:(⟨S0.toArray⟩++⟨D1.toArray⟩:ByteArray)=⟨S1.toArray⟩:=by rw [←hS1];exact zab S0 D1
     have cs2:(⟨S1.toArray⟩++⟨#[32]⟩:ByteArray)=⟨S2.toArray⟩:=by rw [←hS2];exact zab S1 [32]
     have cs3:(⟨S2.toArray⟩++⟨D2.toArray⟩:ByteArray)=⟨S3.toArray⟩:=by rw [←hS3];exact zab S2 D2
     have cs4:(⟨S3.toArray⟩++⟨#[10]⟩:ByteArray)=⟨S4.toArray⟩:=by rw [←hS4];exact zab S3 [10]
     have l0:S0.length=T.length+6:=by rw [←hS0,List.length_append,show agnB.length=6 from rfl]
     have l1:S1.length≤T.length+26:=by rw [←hS1,List.length_append];omega
     have l2:S2.length≤T.length+27:=by rw [←hS2,List.length_append,List.length_singleton];omega
     have l3:S3.length≤T.length+47:=by rw [←hS3,List.length_append];omega
     have l4:S4.length≤T.length+48:=by rw [←hS4,List.length_append,List.length_singleton];omega
     have HST3:=Lib.hid (show RowSt rows (i+1*o) S4 by
      have h9:=HST2.out
      rw [hD1,hD2] at h9
      rw [←hS4,←hS3,←hS2,←hS1,←hS0]
      simpa using h9)
     have j1:=IntWalk.i64_in ((1:Int)*(o:Int)) (by omega)
     have j2:=IntWalk.i64_in ((i:Int)+(1:Int)*(o:Int)) (by omega)
     have p2:(0:Int)<(o:Int):=by have:=HAG.out.2;omega
     have hle2:i+1*o≤m:=by omega
     have hle3:1≤o:=HAG.out.2
     clear hS0 hS1 hS2 hS3 hS4 hD1 hD2 hid1 hle HST2 HAG HST
     go_wp2_with fail
     go_region_held3 (fun wx=>wx.cell? ⟨w.heap.size,1,none⟩=some (.slice (some ⟨b9,off9,none⟩) m c)) (go_keep) (first
      | (go_at_call 41;first
       | ((with_reducible refine (HRP1.out _ (by repeat (first|exact zr _|assumption|refine za ?_ _|refine zd ?_|refine zn ?_ _|refine zt ?_ (by assumption)))).mono ?_);rintro e w2 ⟨rfl,hq2⟩;obtain ⟨y0,y1,yz⟩:=(HBX.out.ext (HXB.out.trans (by repeat (first|exact zr _|assumption|refine za ?_ _|refine zd ?_|refine zn ?_ _|refine zt ?_ (by assumption)):Ext wa w2))).facts)
       | ((with_reducible refine (HRP2.out _ (by repeat (first|exact zr _|assumption|refine za ?_ _|refine zd ?_|refine zn ?_ _|refine zt ?_ (by assumption)))).mono ?_);rintro e w3 ⟨rfl,hq3⟩;obtain ⟨z0,z1,zz⟩:=(HBX.out.ext (HXB.out.trans (by repeat (first|exact zr _|assumption|refine za ?_ _|refine zd ?_|refine zn ?_ _|refine zt ?_ (by assumption)):Ext wa w3))).facts;obtain ⟨hc3,hf3,hz3⟩:=(by repeat (first|exact zr _|assumption|refine za ?_ _|refine zd ?_|refine zn ?_ _|refine zt ?_ (by assumption)):Ext wa w3).facts)))
     all_goals
      go_wp2_with (first
       | (go_at_call 42;first | ((with_reducible refine (HIK.out _).mono ?_);rintro e w5 ⟨rfl,hq5⟩) | (((with_reducible refine (HIM.out _).mono ?_);rintro e w6 ⟨rfl,hq6⟩))))
      go_roundw
      case rel=>exact ⟨i+1*o,S4,by go_num,by go_num,by omega,by omega,HST3,Lib.hid (HXB.out.trans (by repeat (first|exact zr _|assumption|refine za ?_ _|refine zd ?_|refine zn ?_ _|refine zt ?_ (by assumption))))⟩
      case measure=>simp [intOf] <;> omega
    ·have p2:¬((0:Int)<(o:Int)):=by omega
     have p3:¬((0:Int)<(t:Int)):=by omega
     have HA3:=Lib.hid (show (agnT rows i).2=0 by rw [hA3];show o=0;omega)
     obtain ⟨hb1,hb2⟩:=HAL.out i (by omega)
     have i5:=IntWalk.i64_in ((i:Int)+1) (by omega)
     have hsm:=fun s (h:lineT (rows.getD i ro0)=some s)=>HST.out.line (by omega) HA3.out h
     have hno:=fun (h:lineT (rows.getD i ro0)=none)=>HST.out.none (by omega) HA3.out h
     generalize rows.getD i ro0=r at *
     obtain ⟨rb,cs⟩:=r
     simp only at d0 d1 hv9 hby9 hb1 hb2
     have hn200:n9≤200:=by rw [←hv9.1];exact hb2
     have HTM:=Lib.hid (fun (w':World) (h:Ext wa w')=>zhF n9 c9 A9 cs w' (hv9.ext h) hby9 hn200 hnc9 hb1)
     have HTX:=Lib.hid (fun (A:Option Addr) (n cap:Nat) (w':World) (ht:Tv w' A n (termsT cs))=>zhL (termsT cs) (by have:=zdx hb1 hb2;omega) A n cap w' ht)
     have hcs:=zeG hb1 hb2
     clear hA1 hA2 hA3 hot ho0 hv9 hby9 hb1 hb2 hn9 hnc9
     rcases hcs with ⟨h1,h2,h3⟩ | ⟨h1,h2⟩
     ·have HT1:=Lib.hid h1
      have HT2:=Lib.hid h2
      by_cases h0:wT (termsT cs)=[]
      ·have HT3:=Lib.hid h0
       have hs9:=hsm _ (zkW h1 h0)
       clear hsm hno h1 h2 h3 h0
       cases rb
       ·have HQ:=Lib.hid hs9
        clear hs9
        obtain ⟨S0,hS0⟩:∃S0,T++[102,114,111,110,116]=S0:=⟨_,rfl⟩
        have cs0:(⟨T.toArray⟩++⟨#[102,114,111,110,116]⟩:ByteArray)=⟨S0.toArray⟩:=by rw [←hS0];exact zab T [102,114,111,110,116]
        have l0:S0.length=T.length+5:=by rw [←hS0,List.length_append];rfl
        obtain ⟨S4,hS4⟩:∃S4,S0++[10]=S4:=⟨_,rfl⟩
        have cs4:(⟨S0.toArray⟩++⟨#[10]⟩:ByteArray)=⟨S4.toArray⟩:=by rw [←hS4];exact zab S0 [10]
        have l4:S4.length=S0.length+1:=by rw [←hS4,List.length_append];rfl
        have HST3:=Lib.hid (show RowSt rows (i+1) S4 by
         have h9:=HQ.out
         rw [←hS4,←hS0]
         simpa [sideB] using h9)
        clear hS0 hS4 HQ
        go_wp2_with fail
        go_region_held3 (fun wx=>wx.cell? ⟨w.heap.size,1,none⟩=some (.slice (some ⟨b9,off9,none⟩) m c)) (go_keep) (first
         | (go_at_call 41;first
          | ((with_reducible refine (HRP1.out _ (by repeat (first|exact zr _|assumption|refine za ?_ _|refine zd ?_|refine zn ?_ _|refine zt ?_ (by assumption)))).mono ?_);rintro e w2 ⟨rfl,hq2⟩;obtain ⟨y0,y1,yz⟩:=(HBX.out.ext (HXB.out.trans (by repeat (first|exact zr _|assumption|refine za ?_ _|refine zd ?_|refine zn ?_ _|refine zt ?_ (by assumption)):Ext wa w2))).facts)
          | ((with_reducible refine (HRP2.out _ (by repeat (first|exact zr _|assumption|refine za ?_ _|refine zd ?_|refine zn ?_ _|refine zt ?_ (by assumption)))).mono ?_);rintro e w3 ⟨rfl,hq3⟩;obtain ⟨z0,z1,zz⟩:=(HBX.out.ext (HXB.out.trans (by repeat (first|exact zr _|assumption|refine za ?_ _|refine zd ?_|refine zn ?_ _|refine zt ?_ (by assumption)):Ext wa w3))).facts;obtain ⟨hc3,hf3,hz3⟩:=(by repeat (first|exact zr _|assumption|refine za ?_ _|refine zd ?_|refine zn ?_ _|refine zt ?_ (by assumption)):Ext wa w3).facts)))
        all_goals
         go_wp2_with (first
          | (go_at_call 44;((with_reducible refine (HTM.out _ (by repeat (first|exact zr _|assumption|refine za ?_ _|refine zd ?_|refine zn ?_ _|refine zt ?_ (by assumption)))).mono ?_);rintro e w5 ⟨A1,c1,rfl,hq5,hv1⟩;have HV1:=Lib.hid hv1;clear hv1))
          | (go_at_call 43;((with_reducible refine (HTX.out _ _ _ _ HV1.out.tv).mono ?_);rintro e w6 ⟨rfl,hq6⟩;rw [HT1.out,HT2.out,HT3.out])))
         go_roundw
         case rel=>exact ⟨i+1,S4,by go_num,by go_num,by omega,by omega,HST3,Lib.hid (HXB.out.trans (by repeat (first|exact zr _|assumption|refine za ?_ _|refine zd ?_|refine zn ?_ _|refine zt ?_ (by assumption))))⟩
         case measure=>simp [intOf] <;> omega
       ·have HQ:=Lib.hid hs9
        clear hs9
        obtain ⟨S0,hS0⟩:∃S0,T++[98,97,99,107]=S0:=⟨_,rfl⟩
        have cs0:(⟨T.toArray⟩++⟨#[98,97,99,107]⟩:ByteArray)=⟨S0.toArray⟩:=by rw [←hS0];exact zab T [98,97,99,107]
        have l0:S0.length=T.length+4:=by rw [←hS0,List.length_append];rfl
        obtain ⟨S4,hS4⟩:∃S4,S0++[10]=S4:=⟨_,rfl⟩
        have cs4:(⟨S0.toArray⟩++⟨#[10]⟩:ByteArray)=⟨S4.toArray⟩:=by rw [←hS4];exact zab S0 [10]
        have l4:S4.length=S0.length+1:=by rw [←hS4,List.length_append];rfl
        have HST3:=Lib.hid (show RowSt rows (i+1) S4 by
         have h9:=HQ.out
         rw [←hS4,←hS0]
         simpa [sideB] using h9)
        clear hS0 hS4 HQ
        go_wp2_with fail
        go_region_held3 (fun wx=>wx.cell? ⟨w.heap.size,1,none⟩=some (.slice (some ⟨b9,off9,none⟩) m c)) (go_keep) (first
         | (go_at_call 41;first
          | ((with_reducible refine (HRP1.out _ (by repeat (first|exact zr _|assumption|refine za ?_ _|refine zd ?_|refine zn ?_ _|refine zt ?_ (by assumption)))).mono ?_);rintro e w2 ⟨rfl,hq2⟩;obtain ⟨y0,y1,yz⟩:=(HBX.out.ext (HXB.out.trans (by repeat (first|exact zr _|assumption|refine za ?_ _|refine zd ?_|refine zn ?_ _|refine zt ?_ (by assumption)):Ext wa w2))).facts)
          | ((with_reducible refine (HRP2.out _ (by repeat (first|exact zr _|assumption|refine za ?_ _|refine zd ?_|refine zn ?_ _|refine zt ?_ (by assumption)))).mono ?_);rintro e w3 ⟨rfl,hq3⟩;obtain ⟨z0,z1,zz⟩:=(HBX.out.ext (HXB.out.trans (by repeat (first|exact zr _|assumption|refine za ?_ _|refine zd ?_|refine zn ?_ _|refine zt ?_ (by assumption)):Ext wa w3))).facts;obtain ⟨hc3,hf3,hz3⟩:=(by repeat (first|exact zr _|assumption|refine za ?_ _|refine zd ?_|refine zn ?_ _|refine zt ?_ (by assumption)):Ext wa w3).facts)))
        all_goals
         go_wp2_with (first
          | (go_at_call 44;((with_reducible refine (HTM.out _ (by repeat (first|exact zr _|assumption|refine za ?_ _|refine zd ?_|refine zn ?_ _|refine zt ?_ (by assumption)))).mono ?_);rintro e w5 ⟨A1,c1,rfl,hq5,hv1⟩;have HV1:=Lib.hid hv1;clear hv1))
          | (go_at_call 43;((with_reducible refine (HTX.out _ _ _ _ HV1.out.tv).mono ?_);rintro e w6 ⟨rfl,hq6⟩;rw [HT1.out,HT2.out,HT3.out])))
         go_roundw
         case rel=>exact ⟨i+1,S4,by go_num,by go_num,by omega,by omega,HST3,Lib.hid (HXB.out.trans (by repeat (first|exact zr _|assumption|refine za ?_ _|refine zd ?_|refine zn ?_ _|refine zt ?_ (by assumption))))⟩
         case measure=>simp [intOf] <;> omega
      ·obtain ⟨X,hX⟩:∃X,wT (termsT cs)=X:=⟨_,rfl⟩
       have hs9:=hsm _ (ziv h1 h0)
       rw [hX] at h0 h3 hs9
       have HT3:=Lib.hid hX
       have hq9:(0:Int)<(X.length:Int):=by have:=List.length_pos_iff.2 h0;omega
       clear hsm hno h1 h2 h0 hX
       cases rb
       ·have HQ:=Lib.hid hs9
        clear hs9
        obtain ⟨S0,hS0⟩:∃S0,T++[102,114,111,110,116]=S0:=⟨_,rfl⟩
        have cs0:(⟨T.toArray⟩++⟨#[102,114,111,110,116]⟩:ByteArray)=⟨S0.toArray⟩:=by rw [←hS0];exact zab T [102,114,111,110,116]
        have l0:S0.length=T.length+5:=by rw [←hS0,List.length_append];rfl
        obtain ⟨S1,hS1⟩:∃S1,S0++[32]=S1:=⟨_,rfl⟩
        obtain ⟨S2,hS2⟩:∃S2,S1++X=S2:=⟨_,rfl⟩
        obtain ⟨S4,hS4⟩:∃S4,S2++[10]=S4:=⟨_,rfl⟩
        have cs1:(⟨S0.toArray⟩++⟨#[32]⟩:ByteArray)=⟨S1.toArray⟩:=by rw [←hS1];exact zab S0 [32]
        have cs2:(⟨S1.toArray⟩++⟨X.toArray⟩:ByteArray)=⟨S2.toArray⟩:=by rw [←hS2];exact zab S1 X
        have cs4:(⟨S2.toArray⟩++⟨#[10]⟩:ByteArray)=⟨S4.toArray⟩:=by rw [←hS4];exact zab S2 [10]
        have l1:S1.length=S0.length+1:=by rw [←hS1,List.length_append];rfl
        have l2:S2.length=S1.length+X.length:=by rw [←hS2,List.length_append]
        have l4:S4.length=S2.length+1:=by rw [←hS4,List.length_append];rfl
        have HST3:=Lib.hid (show RowSt rows (i+1) S4 by
         have h9:=HQ.out
         rw [←hS4,←hS2,←hS1,←hS0]
         simpa [sideB] using h9)
        clear hS0 hS1 hS2 hS4 HQ
        go_wp2_with fail
        go_region_held3 (fun wx=>wx.cell? ⟨w.heap.size,1,none⟩=some (.slice (some ⟨b9,off9,none⟩) m c)) (go_keep) (first
         | (go_at_call 41;first
          | ((with_reducible refine (HRP1.out _ (by repeat (first|exact zr _|assumption|refine za ?_ _|refine zd ?_|refine zn ?_ _|refine zt ?_ (by assumption)))).mono ?_);rintro e w2 ⟨rfl,hq2⟩;obtain ⟨y0,y1,yz⟩:=(HBX.out.ext (HXB.out.trans (by repeat (first|exact zr _|assumption|refine za ?_ _|refine zd ?_|refine zn ?_ _|refine zt ?_ (by assumption)):Ext wa w2))).facts)
          | ((with_reducible refine (HRP2.out _ (by repeat (first|exact zr _|assumption|refine za ?_ _|refine zd ?_|refine zn ?_ _|refine zt ?_ (by assumption)))).mono ?_);rintro e w3 ⟨rfl,hq3⟩;obtain ⟨z0,z1,zz⟩:=(HBX.out.ext (HXB.out.trans (by repeat (first|exact zr _|assumption|refine za ?_ _|refine zd ?_|refine zn ?_ _|refine zt ?_ (by assumption)):Ext wa w3))).facts;obtain ⟨hc3,hf3,hz3⟩:=(by repeat (first|exact zr _|assumption|refine za ?_ _|refine zd ?_|refine zn ?_ _|refine zt ?_ (by assumption)):Ext wa w3).facts)))
        all_goals
         go_wp2_with (first
          | (go_at_call 44;((with_reducible refine (HTM.out _ (by repeat (first|exact zr _|assumption|refine za ?_ _|refine zd ?_|refine zn ?_ _|refine zt ?_ (by assumption)))).mono ?_);rintro e w5 ⟨A1,c1,rfl,hq5,hv1⟩;have HV1:=Lib.hid hv1;clear hv1))
          | (go_at_call 43;((with_reducible refine (HTX.out _ _ _ _ HV1.out.tv).mono ?_);rintro e w6 ⟨rfl,hq6⟩;rw [HT1.out,HT2.out,HT3.out])))
         go_roundw
         case rel=>exact ⟨i+1,S4,by go_num,by go_num,by omega,by omega,HST3,Lib.hid (HXB.out.trans (by repeat (first|exact zr _|assumption|refine za ?_ _|refine zd ?_|refine zn ?_ _|refine zt ?_ (by assumption))))⟩
         case measure=>simp [intOf] <;> omega
       ·have HQ:=Lib.hid hs9
        clear hs9
        obtain ⟨S0,hS0⟩:∃S0,T++[98,97,99,107]=S0:=⟨_,rfl⟩
        have cs0:(⟨T.toArray⟩++⟨#[98,97,99,107]⟩:ByteArray)=⟨S0.toArray⟩:=by rw [←hS0];exact zab T [98,97,99,107]
        have l0:S0.length=T.length+4:=by rw [←hS0,List.length_append];rfl
        obtain ⟨S1,hS1⟩:∃S1,S0++[32]=S1:=⟨_,rfl⟩
        obtain ⟨S2,hS2⟩:∃S2,S1++X=S2:=⟨_,rfl⟩
        obtain ⟨S4,hS4⟩:∃S4,S2++[10]=S4:=⟨_,rfl⟩
        have cs1:(⟨S0.toArray⟩++⟨#[32]⟩:ByteArray)=⟨S1.toArray⟩:=by rw [←hS1];exact zab S0 [32]
        have cs2:(⟨S1.toArray⟩++⟨X.toArray⟩:ByteArray)=⟨S2.toArray⟩:=by rw [←hS2];exact zab S1 X
        have cs4:(⟨S2.toArray⟩++⟨#[10]⟩:ByteArray)=⟨S4.toArray⟩:=by rw [←hS4];exact zab S2 [10]
        have l1:S1.length=S0.length+1:=by rw [←hS1,List.length_append];rfl
        have l2:S2.length=S1.length+X.length:=by rw [←hS2,List.length_append]
        have l4:S4.length=S2.length+1:=by rw [←hS4,List.length_append];rfl
        have HST3:=Lib.hid (show RowSt rows (i+1) S4 by
         have h9:=HQ.out
         rw [←hS4,←hS2,←hS1,←hS0]
         simpa [sideB] using h9)
        clear hS0 hS1 hS2 hS4 HQ
        go_wp2_with fail
        go_region_held3 (fun wx=>wx.cell? ⟨w.heap.size,1,none⟩=some (.slice (some ⟨b9,off9,none⟩) m c)) (go_keep) (first
         | (go_at_call 41;first
          | ((with_reducible refine (HRP1.out _ (by repeat (first|exact zr _|assumption|refine za ?_ _|refine zd ?_|refine zn ?_ _|refine zt ?_ (by assumption)))).mono ?_);rintro e w2 ⟨rfl,hq2⟩;obtain ⟨y0,y1,yz⟩:=(HBX.out.ext (HXB.out.trans (by repeat (first|exact zr _|assumption|refine za ?_ _|refine zd ?_|refine zn ?_ _|refine zt ?_ (by assumption)):Ext wa w2))).facts)
          | ((with_reducible refine (HRP2.out _ (by repeat (first|exact zr _|assumption|refine za ?_ _|refine zd ?_|refine zn ?_ _|refine zt ?_ (by assumption)))).mono ?_);rintro e w3 ⟨rfl,hq3⟩;obtain ⟨z0,z1,zz⟩:=(HBX.out.ext (HXB.out.trans (by repeat (first|exact zr _|assumption|refine za ?_ _|refine zd ?_|refine zn ?_ _|refine zt ?_ (by assumption)):Ext wa w3))).facts;obtain ⟨hc3,hf3,hz3⟩:=(by repeat (first|exact zr _|assumption|refine za ?_ _|refine zd ?_|refine zn ?_ _|refine zt ?_ (by assumption)):Ext wa w3).facts)))
        all_goals
         go_wp2_with (first
          | (go_at_call 44;((with_reducible refine (HTM.out _ (by repeat (first|exact zr _|assumption|refine za ?_ _|refine zd ?_|refine zn ?_ _|refine zt ?_ (by assumption)))).mono ?_);rintro e w5 ⟨A1,c1,rfl,hq5,hv1⟩;have HV1:=Lib.hid hv1;clear hv1))
          | (go_at_call 43;((with_reducible refine (HTX.out _ _ _ _ HV1.out.tv).mono ?_);rintro e w6 ⟨rfl,hq6⟩;rw [HT1.out,HT2.out,HT3.out])))
         go_roundw
         case rel=>exact ⟨i+1,S4,by go_num,by go_num,by omega,by omega,HST3,Lib.hid (HXB.out.trans (by repeat (first|exact zr _|assumption|refine za ?_ _|refine zd ?_|refine zn ?_ _|refine zt ?_ (by assumption))))⟩
         case measure=>simp [intOf] <;> omega
     ·have HT1:=Lib.hid h1
      have HT2:=Lib.hid h2
      have HV:=Lib.hid (ze2 HC.out (hno (zir (by rw [h1];decide))))
      clear hsm hno h1 h2
      obtain ⟨S0,hS0⟩:∃S0,T++sideB rb=S0:=⟨_,rfl⟩
      have l0:S0.length≤T.length+5:=by rw [←hS0,List.length_append];cases rb <;> simp [sideB]
      cases rb
      ·have cs0:(⟨T.toArray⟩++⟨#[102,114,111,110,116]⟩:ByteArray)=⟨S0.toArray⟩:=by rw [←hS0];exact zab T _
       clear hS0
       go_wp2_with fail
       go_region_held3 (fun wx=>wx.cell? ⟨w.heap.size,1,none⟩=some (.slice (some ⟨b9,off9,none⟩) m c)) (go_keep) (first
        | (go_at_call 41;first
         | ((with_reducible refine (HRP1.out _ (by repeat (first|exact zr _|assumption|refine za ?_ _|refine zd ?_|refine zn ?_ _|refine zt ?_ (by assumption)))).mono ?_);rintro e w2 ⟨rfl,hq2⟩;obtain ⟨y0,y1,yz⟩:=(HBX.out.ext (HXB.out.trans (by repeat (first|exact zr _|assumption|refine za ?_ _|refine zd ?_|refine zn ?_ _|refine zt ?_ (by assumption)):Ext wa w2))).facts)
         | ((with_reducible refine (HRP2.out _ (by repeat (first|exact zr _|assumption|refine za ?_ _|refine zd ?_|refine zn ?_ _|refine zt ?_ (by assumption)))).mono ?_);rintro e w3 ⟨rfl,hq3⟩;obtain ⟨z0,z1,zz⟩:=(HBX.out.ext (HXB.out.trans (by repeat (first|exact zr _|assumption|refine za ?_ _|refine zd ?_|refine zn ?_ _|refine zt ?_ (by assumption)):Ext wa w3))).facts;obtain ⟨hc3,hf3,hz3⟩:=(by repeat (first|exact zr _|assumption|refine za ?_ _|refine zd ?_|refine zn ?_ _|refine zt ?_ (by assumption)):Ext wa w3).facts)))
       all_goals
        go_wp2_with (first
         | (go_at_call 44;((with_reducible refine (HTM.out _ (by repeat (first|exact zr _|assumption|refine za ?_ _|refine zd ?_|refine zn ?_ _|refine zt ?_ (by assumption)))).mono ?_);rintro e w5 ⟨A1,c1,rfl,hq5,hv1⟩;have HV1:=Lib.hid hv1;clear hv1))
         | (go_at_call 43;((with_reducible refine (HTX.out _ _ _ _ HV1.out.tv).mono ?_);rintro e w6 ⟨rfl,hq6⟩;rw [HT1.out,HT2.out])))
        go_ret2
        exact PRowsR.mk_ HV.out (HXR.out.trans (by repeat (first|exact zr _|assumption|refine za ?_ _|refine zd ?_|refine zn ?_ _|refine zt ?_ (by assumption))))
      ·have cs0:(⟨T.toArray⟩++⟨#[98,97,99,107]⟩:ByteArray)=⟨S0.toArray⟩:=by rw [←hS0];exact zab T _
       clear hS0
       go_wp2_with fail
       go_region_held3 (fun wx=>wx.cell? ⟨w.heap.size,1,none⟩=some (.slice (some ⟨b9,off9,none⟩) m c)) (go_keep) (first
        | (go_at_call 41;first
         | ((with_reducible refine (HRP1.out _ (by repeat (first|exact zr _|assumption|refine za ?_ _|refine zd ?_|refine zn ?_ _|refine zt ?_ (by assumption)))).mono ?_);rintro e w2 ⟨rfl,hq2⟩;obtain ⟨y0,y1,yz⟩:=(HBX.out.ext (HXB.out.trans (by repeat (first|exact zr _|assumption|refine za ?_ _|refine zd ?_|refine zn ?_ _|refine zt ?_ (by assumption)):Ext wa w2))).facts)
         | ((with_reducible refine (HRP2.out _ (by repeat (first|exact zr _|assumption|refine za ?_ _|refine zd ?_|refine zn ?_ _|refine zt ?_ (by assumption)))).mono ?_);rintro e w3 ⟨rfl,hq3⟩;obtain ⟨z0,z1,zz⟩:=(HBX.out.ext (HXB.out.trans (by repeat (first|exact zr _|assumption|refine za ?_ _|refine zd ?_|refine zn ?_ _|refine zt ?_ (by assumption)):Ext wa w3))).facts;obtain ⟨hc3,hf3,hz3⟩:=(by repeat (first|exact zr _|assumption|refine za ?_ _|refine zd ?_|refine zn ?_ _|refine zt ?_ (by assumption)):Ext wa w3).facts)))
       all_goals
        go_wp2_with (first
         | (go_at_call 44;((with_reducible refine (HTM.out _ (by repeat (first|exact zr _|assumption|refine za ?_ _|refine zd ?_|refine zn ?_ _|refine zt ?_ (by assumption)))).mono ?_);rintro e w5 ⟨A1,c1,rfl,hq5,hv1⟩;have HV1:=Lib.hid hv1;clear hv1))
         | (go_at_call 43;((with_reducible refine (HTX.out _ _ _ _ HV1.out.tv).mono ?_);rintro e w6 ⟨rfl,hq6⟩;rw [HT1.out,HT2.out])))
        go_ret2
        exact PRowsR.mk_ HV.out (HXR.out.trans (by repeat (first|exact zr _|assumption|refine za ?_ _|refine zd ?_|refine zn ?_ _|refine zt ?_ (by assumption))))
  ·obtain rfl:m=i:=by omega
   have hml:=HML.out
   have hfin:=HST.out.fin (by omega)
   have q1:¬((m:Int)<(m:Int)):=by omega
   by_cases hl6:60000<T.length
   ·have HV:=Lib.hid (zeO HC.out hfin hl6)
    have p3:(60000:Int)<(T.length:Int):=by omega
    clear hfin hml
    go_wp2_with fail
    go_ret2
    exact PRowsR.mk_ HV.out HXR.out
   ·have HV:=Lib.hid (ze6 HC.out hfin hl6)
    have p3:¬((60000:Int)<(T.length:Int)):=by omega
    clear hfin hml
    go_wp2_with fail
    go_ret2
    exact PRowsR.mk_ HV.out HXR.out
theorem zc9 (s:Int) (A:Option Addr) (m c:Nat) (rows:List Ro) (w:World) (hr:Rws w (fun _=>True) A m rows) (hcp:Caps w A m) :
  Calls Tryz.prog 11 #[.agg #[.int .i64 s,.slice A m c]] w (PRowsR s rows w):=by
 by_cases h0:chkC s rows=0
 ·exact zhC s A m c rows w hr hcp h0
 ·exact zkv s _ A m c rows w hr rfl h0
end Go.Proofs.YtkneghkbgingdaaGreatDoor
