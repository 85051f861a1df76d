/- Rows of the reference. -/
import Derived.Test.YtkneghkbgingdaaGreatDoorT37
import Derived.Test.YtkneghkbgingdaaGreatDoorT20
import Derived.Test.YtkneghkbgingdaaGreatDoorT30
namespace Go.Proofs.YtkneghkbgingdaaGreatDoor
set_option maxHeartbeats 16000000
set_option maxRecDepth 100000
open Go.RowKit Go.ChangeShapes Go.WideShapes Go.Joins
theorem zkd {rb:Bool} {cs:List St} (h:ttextE (termsT cs)≠0):lineT ⟨rb,cs⟩=none:=by
 rw [lineT]
 exact if_pos h
theorem zme {rb:Bool} {cs:List St} (h:ttextE (termsT cs)=0) (h2:wT (termsT cs)=[]):lineT ⟨rb,cs⟩=some (sideB rb):=by
 have h3:lineT ⟨rb,cs⟩=some (sideB rb++if wT (termsT cs)=[] then [] else 32::wT (termsT cs)):=if_neg (fun h9=>h9 h)
 rw [h3,if_pos h2,ZC]
theorem zke {rb:Bool} {cs:List St} (h:ttextE (termsT cs)=0) (h2:wT (termsT cs)≠[]):lineT ⟨rb,cs⟩=some (sideB rb++32::wT (termsT cs)):=by
 have h3:lineT ⟨rb,cs⟩=some (sideB rb++if wT (termsT cs)=[] then [] else 32::wT (termsT cs)):=if_neg (fun h9=>h9 h)
 rw [h3,if_neg h2]
theorem zmP (s x:Int) (A:Option Addr) (m c:Nat) (rows:List Ro) (w:World) (hr:Rws w (fun _=>True) A m rows) (hx:chkC s rows=x) (h0:x≠0) :
  Calls Tryz.prog 11 #[.agg #[.int .i64 s,.slice A m c]] w (PRowsR s rows w):=by
 have HR:=Za hr
 have HX:=Za hx
 have HV:=Za (zh7 hx h0)
 have aa:Ext w (w.alloc (.cells #[.int .i64 s,.slice A m c] 24)):=(Zf _).alloc _
 have hne:(x != 0)=true:=by simpa using h0
 clear hr hx h0
 go_enter Tryz.func11,Tryz.ntmps11
 go_wp2_with (go_at_call 30;((with_reducible refine (zcb s A m c rows _ (HR.out.ext (aa.trans zx))).mono ?_);rintro e w1 ⟨rfl,hq1⟩;rw [HX.out]))
 go_ret2
 exact PRowsR.mk_ HV.out (aa.trans zx)
theorem zi5 (s:Int) (A:Option Addr) (m c:Nat) (rows:List Ro) (w:World) (hr:Rws w (fun _=>True) A m rows) (hcp:Caps w A m) (h0:chkC s rows=0) :
  Calls Tryz.prog 11 #[.agg #[.int .i64 s,.slice A m c]] w (PRowsR s rows w):=by
 have HR:=Za hr
 have a1:=Za hcp
 have HC:=Za h0
 obtain ⟨aI,aE⟩:=zc3 h0
 have a0:=Za aE
 have aB:rows.length=m:=hr.len
 have aY:=Za aB
 have hm100:m<=100:=by omega
 have ad:=Za (BoxC.start w s A m c)
 have aZ:=Za (show Ext w (w.alloc (.cells #[.int .i64 s,.slice A m c] 24)) from (Zf w).alloc _)
 clear hr hcp h0 aE aI aB
 go_enter Tryz.func11,Tryz.ntmps11
 go_wp2_with (first
  | (go_at_call 30;((with_reducible refine (zcb s A m c rows _ (HR.out.ext (aZ.out.trans zx))).mono ?_);rintro e w1 ⟨rfl,hq1⟩;rw [HC.out];obtain ⟨x0,x1,xz⟩:=(ad.out.ext (zx:Ext _ w1)).facts)))
 have a2:=Za (show Ext (w.alloc (.cells #[.int .i64 s,.slice A m c] 24)) w1 from hq1)
 clear hq1 x0 x1 xz
 go_loopw [5,6] (fun v u wr=>∃(i:Nat) (T:List UInt8),v = .string ⟨T.toArray⟩/\u = .int .i64 (i:Int)/\i<=m/\T.length<=3100*i/\Hid (RowSt rows i T)/\Hid (Ext (w.alloc (.cells #[.int .i64 s,.slice A m c] 24)) wr)) (fun _ u _=>m-(intOf u).toNat)
 case atStart=>exact ⟨0,[],rfl,rfl,Zy _,Zy _,Za (RowSt.start rows),a2⟩
 case round =>
  obtain ⟨i,T,rfl,rfl,hi,hTl,ak,ab⟩:=hrel
  obtain ⟨wa,rfl⟩:∃wa:World,wa=wr:=⟨_,rfl⟩
  have ay:=Za (aZ.out.trans ab.out)
  obtain ⟨x0,x1,xz⟩:=(ad.out.ext ab.out).facts
  have q0:(0:Int)<=(i:Int):=by omega
  by_cases hlt:i<m
  ·have q1:(i:Int)<(m:Int):=by omega
   have aB:=aY.out
   obtain ⟨b9,off9,A9,n9,c9,rfl,hlt9, -,d0,d1,aC,aV,ai, -⟩:=(HR.out.ext ay.out).at_ hlt
   have aN:=(a1.out.ext ay.out).at_ hlt d1
   have aW:=fun (k:Nat) (h1:1<=k) (h2:k<=2) (w':World) (h:Ext wa w')=>ziS (some ⟨b9,off9,none⟩) m c rows i k w' (HR.out.ext (ay.out.trans h)) hi (by omega) h1 h2
   have h1:=aW 1 (by omega) (by omega)
   have h2:=aW 2 (by omega) (by omega)
   have ho:=zh6 rows i 1
   have ht:=zh6 rows i 2
   have aQ:=zjp (l:=rows) (i:=i)
   have aR:=zjq (l:=rows) (i:=i)
   generalize repT rows i 1=o at *
   generalize repT rows i 2=t at *
   have ae:=Za (show ∀(w':World),Ext wa w'->Calls Tryz.prog 41 #[.slice (some ⟨b9,off9,none⟩) m c,.int .i64 (i:Int),.int .i64 1] w' fun e w''=>e = .returned (.int .i64 (o:Int))/\Ext w' w'' from h1)
   have af:=Za (show ∀(w':World),Ext wa w'->Calls Tryz.prog 41 #[.slice (some ⟨b9,off9,none⟩) m c,.int .i64 (i:Int),.int .i64 2] w' fun e w''=>e = .returned (.int .i64 (t:Int))/\Ext w' w'' from h2)
   have i1:=Zh (2*(t:Int)) (by omega)
   clear aW h1 h2
   by_cases hot:o<2*t
   ·have aP:=Za (aR hot)
    have p1:(o:Int)<2*(t:Int):=by omega
    have p4:(0:Int)<(t:Int):=by omega
    clear aQ aR aC aV ai d0 d1 hot
    by_cases aU:0<o
    ·have p5:(0:Int)<(o:Int):=by omega
     have ac:=Za (aP.out)
     have aJ:=zff (by omega) ac.out.1 ac.out.2
     have ah:=fun (w':World)=>zad 2 (by omega) w'
     have am:=Za (show ∀(w':World),Calls Tryz.prog 42 #[.int .i64 2] w' fun e w''=>e = .returned (.string ⟨(decD 2).toArray⟩)/\Ext w' w'' from ah)
     have an:=Za (fun (w':World)=>zad t (by omega) w')
     have aG:=zac 2
     have aH:=zac t
     have ag:=Za (ak.out.agn (by omega) ac.out.1 ac.out.2 (by omega))
     obtain ⟨D1,hD1⟩:∃D1,decD 2=D1:=⟨_,rfl⟩
     obtain ⟨D2,hD2⟩:∃D2,decD t=D2:=⟨_,rfl⟩
     rw [hD1] at am aG
     rw [hD2] at an aH
     obtain ⟨S0,hS0⟩:∃S0,T++agnB=S0:=⟨_,rfl⟩
     obtain ⟨S1,hS1⟩:∃S1,S0++D1=S1:=⟨_,rfl⟩
     obtain ⟨S2,hS2⟩:∃S2,S1++[32]=S2:=⟨_,rfl⟩
     obtain ⟨S3,hS3⟩:∃S3,S2++D2=S3:=⟨_,rfl⟩
     obtain ⟨S4,hS4⟩:∃S4,S3++[10]=S4:=⟨_,rfl⟩
     have cs0:(⟨T.toArray⟩++⟨#[97,103,97,105,110,32]⟩:ByteArray)=⟨S0.toArray⟩:=by rw [<-hS0];exact zaa T agnB
     have cs1:(⟨S0.toArray⟩++⟨D1.toArray⟩:ByteArray)=⟨S1.toArray⟩:=by rw [<-hS1];exact zaa S0 D1
     have cs2:(⟨S1.toArray⟩++⟨#[32]⟩:ByteArray)=⟨S2.toArray⟩:=by rw [<-hS2];exact zaa S1 [32]
     have cs3:(⟨S2.toArray⟩++⟨D2.toArray⟩:ByteArray)=⟨S3.toArray⟩:=by rw [<-hS3];exact zaa S2 D2
     have cs4:(⟨S3.toArray⟩++⟨#[10]⟩:ByteArray)=⟨S4.toArray⟩:=by rw [<-hS4];exact zaa S3 [10]
     have l0:S0.length=T.length+6:=by rw [<-hS0,Zb,show agnB.length=6 from rfl]
     have l1:S1.length<=T.length+26:=by rw [<-hS1,Zb];omega
     have l2:S2.length<=T.length+27:=by rw [<-hS2,Zb,Zv];omega
     have l3:S3.length<=T.length+47:=by rw [<-hS3,Zb];omega
     have l4:S4.length<=T.length+48:=by rw [<-hS4,Zb,Zv];omega
     have aa:=Za (show RowSt rows (i+2*t) S4 by
      have h9:=ag.out
      rw [hD1,hD2] at h9
      rw [<-hS4,<-hS3,<-hS2,<-hS1,<-hS0]
      simpa using h9)
     have j1:=Zh ((2:Int)*(t:Int)) (by omega)
     have j2:=Zh ((i:Int)+(2:Int)*(t:Int)) (by omega)
     have p2:(0:Int)<(t:Int):=by have:=ac.out.2;omega
     have aK:i+2*t<=m:=by omega
     have aL:1<=t:=ac.out.2
     clear hS0 hS1 hS2 hS3 hS4 hD1 hD2 ah aJ ag ac ak
     go_wp2_with fail
     go_region_held3 (fun wx=>wx.cell? ⟨w.heap.size,1,none⟩=some (.slice (some ⟨b9,off9,none⟩) m c)) (go_keep) (first
      | (go_at_call 41;first
       | ((with_reducible refine (ae.out _ zx).mono ?_);rintro e w2 ⟨rfl,hq2⟩;obtain ⟨y0,y1,yz⟩:=(ad.out.ext (ab.out.trans (zx:Ext wa w2))).facts)
       | ((with_reducible refine (af.out _ zx).mono ?_);rintro e w3 ⟨rfl,aq⟩;obtain ⟨z0,z1,zz⟩:=(ad.out.ext (ab.out.trans (zx:Ext wa w3))).facts;obtain ⟨ao,ap,av⟩:=(zx:Ext wa w3).facts)))
     all_goals
      go_wp2_with (first
       | (go_at_call 42;first | ((with_reducible refine (am.out _).mono ?_);rintro e w5 ⟨rfl,ar⟩) | (((with_reducible refine (an.out _).mono ?_);rintro e w6 ⟨rfl,au⟩))))
      go_roundw
      case rel=>exact ⟨i+2*t,S4,by go_num,by go_num,by omega,by omega,aa,Za (ab.out.trans zx)⟩
      case measure=>simp [intOf] <;> omega
    ·have p5:¬((0:Int)<(o:Int)):=by omega
     have ac:=Za (aP.out)
     have aJ:=zff (by omega) ac.out.1 ac.out.2
     have ah:=fun (w':World)=>zad 2 (by omega) w'
     have am:=Za (show ∀(w':World),Calls Tryz.prog 42 #[.int .i64 2] w' fun e w''=>e = .returned (.string ⟨(decD 2).toArray⟩)/\Ext w' w'' from ah)
     have an:=Za (fun (w':World)=>zad t (by omega) w')
     have aG:=zac 2
     have aH:=zac t
     have ag:=Za (ak.out.agn (by omega) ac.out.1 ac.out.2 (by omega))
     obtain ⟨D1,hD1⟩:∃D1,decD 2=D1:=⟨_,rfl⟩
     obtain ⟨D2,hD2⟩:∃D2,decD t=D2:=⟨_,rfl⟩
     rw [hD1] at am aG
     rw [hD2] at an aH
     obtain ⟨S0,hS0⟩:∃S0,T++agnB=S0:=⟨_,rfl⟩
     obtain ⟨S1,hS1⟩:∃S1,S0++D1=S1:=⟨_,rfl⟩
     obtain ⟨S2,hS2⟩:∃S2,S1++[32]=S2:=⟨_,rfl⟩
     obtain ⟨S3,hS3⟩:∃S3,S2++D2=S3:=⟨_,rfl⟩
     obtain ⟨S4,hS4⟩:∃S4,S3++[10]=S4:=⟨_,rfl⟩
     have cs0:(⟨T.toArray⟩++⟨#[97,103,97,105,110,32]⟩:ByteArray)=⟨S0.toArray⟩:=by rw [<-hS0];exact zaa T agnB
     have cs1:(⟨S0.toArray⟩++⟨D1.toArray⟩:ByteArray)=⟨S1.toArray⟩:=by rw [<-hS1];exact zaa S0 D1
     have cs2:(⟨S1.toArray⟩++⟨#[32]⟩:ByteArray)=⟨S2.toArray⟩:=by rw [<-hS2];exact zaa S1 [32]
     have cs3:(⟨S2.toArray⟩++⟨D2.toArray⟩:ByteArray)=⟨S3.toArray⟩:=by rw [<-hS3];exact zaa S2 D2
     have cs4:(⟨S3.toArray⟩++⟨#[10]⟩:ByteArray)=⟨S4.toArray⟩:=by rw [<-hS4];exact zaa S3 [10]
     have l0:S0.length=T.length+6:=by rw [<-hS0,Zb,show agnB.length=6 from rfl]
     have l1:S1.length<=T.length+26:=by rw [<-hS1,Zb];omega
     have l2:S2.length<=T.length+27:=by rw [<-hS2,Zb,Zv];omega
     have l3:S3.length<=T.length+47:=by rw [<-hS3,Zb];omega
     have l4:S4.length<=T.length+48:=by rw [<-hS4,Zb,Zv];omega
     have aa:=Za (show RowSt rows (i+2*t) S4 by
      have h9:=ag.out
      rw [hD1,hD2] at h9
      rw [<-hS4,<-hS3,<-hS2,<-hS1,<-hS0]
      simpa using h9)
     have j1:=Zh ((2:Int)*(t:Int)) (by omega)
     have j2:=Zh ((i:Int)+(2:Int)*(t:Int)) (by omega)
     have p2:(0:Int)<(t:Int):=by have:=ac.out.2;omega
     have aK:i+2*t<=m:=by omega
     have aL:1<=t:=ac.out.2
     clear hS0 hS1 hS2 hS3 hS4 hD1 hD2 ah aJ ag ac ak
     go_wp2_with fail
     go_region_held3 (fun wx=>wx.cell? ⟨w.heap.size,1,none⟩=some (.slice (some ⟨b9,off9,none⟩) m c)) (go_keep) (first
      | (go_at_call 41;first
       | ((with_reducible refine (ae.out _ zx).mono ?_);rintro e w2 ⟨rfl,hq2⟩;obtain ⟨y0,y1,yz⟩:=(ad.out.ext (ab.out.trans (zx:Ext wa w2))).facts)
       | ((with_reducible refine (af.out _ zx).mono ?_);rintro e w3 ⟨rfl,aq⟩;obtain ⟨z0,z1,zz⟩:=(ad.out.ext (ab.out.trans (zx:Ext wa w3))).facts;obtain ⟨ao,ap,av⟩:=(zx:Ext wa w3).facts)))
     all_goals
      go_wp2_with (first
       | (go_at_call 42;first | ((with_reducible refine (am.out _).mono ?_);rintro e w5 ⟨rfl,ar⟩) | (((with_reducible refine (an.out _).mono ?_);rintro e w6 ⟨rfl,au⟩))))
      go_roundw
      case rel=>exact ⟨i+2*t,S4,by go_num,by go_num,by omega,by omega,aa,Za (ab.out.trans zx)⟩
      case measure=>simp [intOf] <;> omega
   ·have aS:=aQ hot
    have p1:¬((o:Int)<2*(t:Int)):=by omega
    by_cases aU:0<o
    ·have aP:=Za (And.intro aS aU)
     have p5:(0:Int)<(o:Int):=by omega
     clear aQ aR aS aC aV ai d0 d1 hot aU
     have ac:=Za (aP.out)
     have aJ:=zff (by omega) ac.out.1 ac.out.2
     have ah:=fun (w':World)=>zad 1 (by omega) w'
     have am:=Za (show ∀(w':World),Calls Tryz.prog 42 #[.int .i64 1] w' fun e w''=>e = .returned (.string ⟨(decD 1).toArray⟩)/\Ext w' w'' from ah)
     have an:=Za (fun (w':World)=>zad o (by omega) w')
     have aG:=zac 1
     have aH:=zac o
     have ag:=Za (ak.out.agn (by omega) ac.out.1 ac.out.2 (by omega))
     obtain ⟨D1,hD1⟩:∃D1,decD 1=D1:=⟨_,rfl⟩
     obtain ⟨D2,hD2⟩:∃D2,decD o=D2:=⟨_,rfl⟩
     rw [hD1] at am aG
     rw [hD2] at an aH
     obtain ⟨S0,hS0⟩:∃S0,T++agnB=S0:=⟨_,rfl⟩
     obtain ⟨S1,hS1⟩:∃S1,S0++D1=S1:=⟨_,rfl⟩
     obtain ⟨S2,hS2⟩:∃S2,S1++[32]=S2:=⟨_,rfl⟩
     obtain ⟨S3,hS3⟩:∃S3,S2++D2=S3:=⟨_,rfl⟩
     obtain ⟨S4,hS4⟩:∃S4,S3++[10]=S4:=⟨_,rfl⟩
     have cs0:(⟨T.toArray⟩++⟨#[97,103,97,105,110,32]⟩:ByteArray)=⟨S0.toArray⟩:=by rw [<-hS0];exact zaa T agnB
     have cs1:(⟨S0.toArray⟩++⟨D1.toArray⟩:ByteArray)=⟨S1.toArray⟩:=by rw [<-hS1];exact zaa S0 D1
     have cs2:(⟨S1.toArray⟩++⟨#[32]⟩:ByteArray)=⟨S2.toArray⟩:=by rw [<-hS2];exact zaa S1 [32]
     have cs3:(⟨S2.toArray⟩++⟨D2.toArray⟩:ByteArray)=⟨S3.toArray⟩:=by rw [<-hS3];exact zaa S2 D2
     have cs4:(⟨S3.toArray⟩++⟨#[10]⟩:ByteArray)=⟨S4.toArray⟩:=by rw [<-hS4];exact zaa S3 [10]
     have l0:S0.length=T.length+6:=by rw [<-hS0,Zb,show agnB.length=6 from rfl]
     have l1:S1.length<=T.length+26:=by rw [<-hS1,Zb];omega
     have l2:S2.length<=T.length+27:=by rw [<-hS2,Zb,Zv];omega
     have l3:S3.length<=T.length+47:=by rw [<-hS3,Zb];omega
     have l4:S4.length<=T.length+48:=by rw [<-hS4,Zb,Zv];omega
     have aa:=Za (show RowSt rows (i+1*o) S4 by
      have h9:=ag.out
      rw [hD1,hD2] at h9
      rw [<-hS4,<-hS3,<-hS2,<-hS1,<-hS0]
      simpa using h9)
     have j1:=Zh ((1:Int)*(o:Int)) (by omega)
     have j2:=Zh ((i:Int)+(1:Int)*(o:Int)) (by omega)
     have p2:(0:Int)<(o:Int):=by have:=ac.out.2;omega
     have aK:i+1*o<=m:=by omega
     have aL:1<=o:=ac.out.2
     clear hS0 hS1 hS2 hS3 hS4 hD1 hD2 ah aJ ag ac ak
     go_wp2_with fail
     go_region_held3 (fun wx=>wx.cell? ⟨w.heap.size,1,none⟩=some (.slice (some ⟨b9,off9,none⟩) m c)) (go_keep) (first
      | (go_at_call 41;first
       | ((with_reducible refine (ae.out _ zx).mono ?_);rintro e w2 ⟨rfl,hq2⟩;obtain ⟨y0,y1,yz⟩:=(ad.out.ext (ab.out.trans (zx:Ext wa w2))).facts)
       | ((with_reducible refine (af.out _ zx).mono ?_);rintro e w3 ⟨rfl,aq⟩;obtain ⟨z0,z1,zz⟩:=(ad.out.ext (ab.out.trans (zx:Ext wa w3))).facts;obtain ⟨ao,ap,av⟩:=(zx:Ext wa w3).facts)))
     all_goals
      go_wp2_with (first
       | (go_at_call 42;first | ((with_reducible refine (am.out _).mono ?_);rintro e w5 ⟨rfl,ar⟩) | (((with_reducible refine (an.out _).mono ?_);rintro e w6 ⟨rfl,au⟩))))
      go_roundw
      case rel=>exact ⟨i+1*o,S4,by go_num,by go_num,by omega,by omega,aa,Za (ab.out.trans zx)⟩
      case measure=>simp [intOf] <;> omega
    ·have p2:¬((0:Int)<(o:Int)):=by omega
     have p3:¬((0:Int)<(t:Int)):=by omega
     have aX:=Za (show (agnT rows i).2=0 by rw [aS];show o=0;omega)
     obtain ⟨aF,hb2⟩:=a0.out i (by omega)
     have i5:=Zh ((i:Int)+1) (by omega)
     have aO:=fun s (h:lineT (rows.getD i ro0)=some s)=>ak.out.line (by omega) aX.out h
     have aT:=fun (h:lineT (rows.getD i ro0)=none)=>ak.out.none (by omega) aX.out h
     generalize rows.getD i ro0=r at *
     obtain ⟨rb,cs⟩:=r
     simp only at d0 d1 aC ai aF hb2
     have aM:n9<=200:=by rw [<-aC.1];exact hb2
     have az:=Za (fun (w':World) (h:Ext wa w')=>zi7 n9 c9 A9 cs w' (aC.ext h) ai aM aN aF)
     have aA:=Za (fun (A:Option Addr) (n cap:Nat) (w':World) (ht:Tv w' A n (termsT cs))=>zjj (termsT cs) (by have:=zeh aF hb2;omega) A n cap w' ht)
     have a3:=zge aF hb2
     clear aQ aR aS hot aU aC ai aF hb2 aV aN
     rcases a3 with ⟨h1,h2,h3⟩ | ⟨h1,h2⟩
     ·have aw:=Za h1
      have ax:=Za h2
      by_cases h0:wT (termsT cs)=[]
      ·have aD:=Za h0
       have aj:=aO _ (zme h1 h0)
       clear aO aT h1 h2 h3 h0
       cases rb
       ·have HQ:=Za aj
        clear aj
        obtain ⟨S0,hS0⟩:∃S0,T++[102,114,111,110,116]=S0:=⟨_,rfl⟩
        have cs0:(⟨T.toArray⟩++⟨#[102,114,111,110,116]⟩:ByteArray)=⟨S0.toArray⟩:=by rw [<-hS0];exact zaa T [102,114,111,110,116]
        have l0:S0.length=T.length+5:=by rw [<-hS0,Zb];rfl
        obtain ⟨S4,hS4⟩:∃S4,S0++[10]=S4:=⟨_,rfl⟩
        have cs4:(⟨S0.toArray⟩++⟨#[10]⟩:ByteArray)=⟨S4.toArray⟩:=by rw [<-hS4];exact zaa S0 [10]
        have l4:S4.length=S0.length+1:=by rw [<-hS4,Zb];rfl
        have aa:=Za (show RowSt rows (i+1) S4 by
         have h9:=HQ.out
         rw [<-hS4,<-hS0]
         simpa [sideB] using h9)
        clear hS0 hS4 HQ
        go_wp2_with fail
        go_region_held3 (fun wx=>wx.cell? ⟨w.heap.size,1,none⟩=some (.slice (some ⟨b9,off9,none⟩) m c)) (go_keep) (first
         | (go_at_call 41;first
          | ((with_reducible refine (ae.out _ zx).mono ?_);rintro e w2 ⟨rfl,hq2⟩;obtain ⟨y0,y1,yz⟩:=(ad.out.ext (ab.out.trans (zx:Ext wa w2))).facts)
          | ((with_reducible refine (af.out _ zx).mono ?_);rintro e w3 ⟨rfl,aq⟩;obtain ⟨z0,z1,zz⟩:=(ad.out.ext (ab.out.trans (zx:Ext wa w3))).facts;obtain ⟨ao,ap,av⟩:=(zx:Ext wa w3).facts)))
        all_goals
         go_wp2_with (first
          | (go_at_call 44;((with_reducible refine (az.out _ zx).mono ?_);rintro e w5 ⟨A1,c1,rfl,ar,hv1⟩;have HV1:=Za hv1;clear hv1))
          | (go_at_call 43;((with_reducible refine (aA.out _ _ _ _ HV1.out.tv).mono ?_);rintro e w6 ⟨rfl,au⟩;rw [aw.out,ax.out,aD.out])))
         go_roundw
         case rel=>exact ⟨i+1,S4,by go_num,by go_num,by omega,by omega,aa,Za (ab.out.trans zx)⟩
         case measure=>simp [intOf] <;> omega
       ·have HQ:=Za aj
        clear aj
        obtain ⟨S0,hS0⟩:∃S0,T++[98,97,99,107]=S0:=⟨_,rfl⟩
        have cs0:(⟨T.toArray⟩++⟨#[98,97,99,107]⟩:ByteArray)=⟨S0.toArray⟩:=by rw [<-hS0];exact zaa T [98,97,99,107]
        have l0:S0.length=T.length+4:=by rw [<-hS0,Zb];rfl
        obtain ⟨S4,hS4⟩:∃S4,S0++[10]=S4:=⟨_,rfl⟩
        have cs4:(⟨S0.toArray⟩++⟨#[10]⟩:ByteArray)=⟨S4.toArray⟩:=by rw [<-hS4];exact zaa S0 [10]
        have l4:S4.length=S0.length+1:=by rw [<-hS4,Zb];rfl
        have aa:=Za (show RowSt rows (i+1) S4 by
         have h9:=HQ.out
         rw [<-hS4,<-hS0]
         simpa [sideB] using h9)
        clear hS0 hS4 HQ
        go_wp2_with fail
        go_region_held3 (fun wx=>wx.cell? ⟨w.heap.size,1,none⟩=some (.slice (some ⟨b9,off9,none⟩) m c)) (go_keep) (first
         | (go_at_call 41;first
          | ((with_reducible refine (ae.out _ zx).mono ?_);rintro e w2 ⟨rfl,hq2⟩;obtain ⟨y0,y1,yz⟩:=(ad.out.ext (ab.out.trans (zx:Ext wa w2))).facts)
          | ((with_reducible refine (af.out _ zx).mono ?_);rintro e w3 ⟨rfl,aq⟩;obtain ⟨z0,z1,zz⟩:=(ad.out.ext (ab.out.trans (zx:Ext wa w3))).facts;obtain ⟨ao,ap,av⟩:=(zx:Ext wa w3).facts)))
        all_goals
         go_wp2_with (first
          | (go_at_call 44;((with_reducible refine (az.out _ zx).mono ?_);rintro e w5 ⟨A1,c1,rfl,ar,hv1⟩;have HV1:=Za hv1;clear hv1))
          | (go_at_call 43;((with_reducible refine (aA.out _ _ _ _ HV1.out.tv).mono ?_);rintro e w6 ⟨rfl,au⟩;rw [aw.out,ax.out,aD.out])))
         go_roundw
         case rel=>exact ⟨i+1,S4,by go_num,by go_num,by omega,by omega,aa,Za (ab.out.trans zx)⟩
         case measure=>simp [intOf] <;> omega
      ·obtain ⟨X,hX⟩:∃X,wT (termsT cs)=X:=⟨_,rfl⟩
       have aj:=aO _ (zke h1 h0)
       rw [hX] at h0 h3 aj
       have aD:=Za hX
       have hq9:(0:Int)<(X.length:Int):=by have:=ZM.2 h0;omega
       clear aO aT h1 h2 h0 hX
       cases rb
       ·have HQ:=Za aj
        clear aj
        obtain ⟨S0,hS0⟩:∃S0,T++[102,114,111,110,116]=S0:=⟨_,rfl⟩
        have cs0:(⟨T.toArray⟩++⟨#[102,114,111,110,116]⟩:ByteArray)=⟨S0.toArray⟩:=by rw [<-hS0];exact zaa T [102,114,111,110,116]
        have l0:S0.length=T.length+5:=by rw [<-hS0,Zb];rfl
        obtain ⟨S1,hS1⟩:∃S1,S0++[32]=S1:=⟨_,rfl⟩
        obtain ⟨S2,hS2⟩:∃S2,S1++X=S2:=⟨_,rfl⟩
        obtain ⟨S4,hS4⟩:∃S4,S2++[10]=S4:=⟨_,rfl⟩
        have cs1:(⟨S0.toArray⟩++⟨#[32]⟩:ByteArray)=⟨S1.toArray⟩:=by rw [<-hS1];exact zaa S0 [32]
        have cs2:(⟨S1.toArray⟩++⟨X.toArray⟩:ByteArray)=⟨S2.toArray⟩:=by rw [<-hS2];exact zaa S1 X
        have cs4:(⟨S2.toArray⟩++⟨#[10]⟩:ByteArray)=⟨S4.toArray⟩:=by rw [<-hS4];exact zaa S2 [10]
        have l1:S1.length=S0.length+1:=by rw [<-hS1,Zb];rfl
        have l2:S2.length=S1.length+X.length:=by rw [<-hS2,Zb]
        have l4:S4.length=S2.length+1:=by rw [<-hS4,Zb];rfl
        have aa:=Za (show RowSt rows (i+1) S4 by
         have h9:=HQ.out
         rw [<-hS4,<-hS2,<-hS1,<-hS0]
         simpa [sideB] using h9)
        clear hS0 hS1 hS2 hS4 HQ
        go_wp2_with fail
        go_region_held3 (fun wx=>wx.cell? ⟨w.heap.size,1,none⟩=some (.slice (some ⟨b9,off9,none⟩) m c)) (go_keep) (first
         | (go_at_call 41;first
          | ((with_reducible refine (ae.out _ zx).mono ?_);rintro e w2 ⟨rfl,hq2⟩;obtain ⟨y0,y1,yz⟩:=(ad.out.ext (ab.out.trans (zx:Ext wa w2))).facts)
          | ((with_reducible refine (af.out _ zx).mono ?_);rintro e w3 ⟨rfl,aq⟩;obtain ⟨z0,z1,zz⟩:=(ad.out.ext (ab.out.trans (zx:Ext wa w3))).facts;obtain ⟨ao,ap,av⟩:=(zx:Ext wa w3).facts)))
        all_goals
         go_wp2_with (first
          | (go_at_call 44;((with_reducible refine (az.out _ zx).mono ?_);rintro e w5 ⟨A1,c1,rfl,ar,hv1⟩;have HV1:=Za hv1;clear hv1))
          | (go_at_call 43;((with_reducible refine (aA.out _ _ _ _ HV1.out.tv).mono ?_);rintro e w6 ⟨rfl,au⟩;rw [aw.out,ax.out,aD.out])))
         go_roundw
         case rel=>exact ⟨i+1,S4,by go_num,by go_num,by omega,by omega,aa,Za (ab.out.trans zx)⟩
         case measure=>simp [intOf] <;> omega
       ·have HQ:=Za aj
        clear aj
        obtain ⟨S0,hS0⟩:∃S0,T++[98,97,99,107]=S0:=⟨_,rfl⟩
        have cs0:(⟨T.toArray⟩++⟨#[98,97,99,107]⟩:ByteArray)=⟨S0.toArray⟩:=by rw [<-hS0];exact zaa T [98,97,99,107]
        have l0:S0.length=T.length+4:=by rw [<-hS0,Zb];rfl
        obtain ⟨S1,hS1⟩:∃S1,S0++[32]=S1:=⟨_,rfl⟩
        obtain ⟨S2,hS2⟩:∃S2,S1++X=S2:=⟨_,rfl⟩
        obtain ⟨S4,hS4⟩:∃S4,S2++[10]=S4:=⟨_,rfl⟩
        have cs1:(⟨S0.toArray⟩++⟨#[32]⟩:ByteArray)=⟨S1.toArray⟩:=by rw [<-hS1];exact zaa S0 [32]
        have cs2:(⟨S1.toArray⟩++⟨X.toArray⟩:ByteArray)=⟨S2.toArray⟩:=by rw [<-hS2];exact zaa S1 X
        have cs4:(⟨S2.toArray⟩++⟨#[10]⟩:ByteArray)=⟨S4.toArray⟩:=by rw [<-hS4];exact zaa S2 [10]
        have l1:S1.length=S0.length+1:=by rw [<-hS1,Zb];rfl
        have l2:S2.length=S1.length+X.length:=by rw [<-hS2,Zb]
        have l4:S4.length=S2.length+1:=by rw [<-hS4,Zb];rfl
        have aa:=Za (show RowSt rows (i+1) S4 by
         have h9:=HQ.out
         rw [<-hS4,<-hS2,<-hS1,<-hS0]
         simpa [sideB] using h9)
        clear hS0 hS1 hS2 hS4 HQ
        go_wp2_with fail
        go_region_held3 (fun wx=>wx.cell? ⟨w.heap.size,1,none⟩=some (.slice (some ⟨b9,off9,none⟩) m c)) (go_keep) (first
         | (go_at_call 41;first
          | ((with_reducible refine (ae.out _ zx).mono ?_);rintro e w2 ⟨rfl,hq2⟩;obtain ⟨y0,y1,yz⟩:=(ad.out.ext (ab.out.trans (zx:Ext wa w2))).facts)
          | ((with_reducible refine (af.out _ zx).mono ?_);rintro e w3 ⟨rfl,aq⟩;obtain ⟨z0,z1,zz⟩:=(ad.out.ext (ab.out.trans (zx:Ext wa w3))).facts;obtain ⟨ao,ap,av⟩:=(zx:Ext wa w3).facts)))
        all_goals
         go_wp2_with (first
          | (go_at_call 44;((with_reducible refine (az.out _ zx).mono ?_);rintro e w5 ⟨A1,c1,rfl,ar,hv1⟩;have HV1:=Za hv1;clear hv1))
          | (go_at_call 43;((with_reducible refine (aA.out _ _ _ _ HV1.out.tv).mono ?_);rintro e w6 ⟨rfl,au⟩;rw [aw.out,ax.out,aD.out])))
         go_roundw
         case rel=>exact ⟨i+1,S4,by go_num,by go_num,by omega,by omega,aa,Za (ab.out.trans zx)⟩
         case measure=>simp [intOf] <;> omega
     ·have aw:=Za h1
      have ax:=Za h2
      have HV:=Za (zfX HC.out (aT (zkd (by rw [h1];decide))))
      clear aO aT h1 h2
      obtain ⟨S0,hS0⟩:∃S0,T++sideB rb=S0:=⟨_,rfl⟩
      have l0:S0.length<=T.length+5:=by rw [<-hS0,Zb];cases rb <;> simp [sideB]
      cases rb
      ·have cs0:(⟨T.toArray⟩++⟨#[102,114,111,110,116]⟩:ByteArray)=⟨S0.toArray⟩:=by rw [<-hS0];exact zaa T _
       clear hS0
       go_wp2_with fail
       go_region_held3 (fun wx=>wx.cell? ⟨w.heap.size,1,none⟩=some (.slice (some ⟨b9,off9,none⟩) m c)) (go_keep) (first
        | (go_at_call 41;first
         | ((with_reducible refine (ae.out _ zx).mono ?_);rintro e w2 ⟨rfl,hq2⟩;obtain ⟨y0,y1,yz⟩:=(ad.out.ext (ab.out.trans (zx:Ext wa w2))).facts)
         | ((with_reducible refine (af.out _ zx).mono ?_);rintro e w3 ⟨rfl,aq⟩;obtain ⟨z0,z1,zz⟩:=(ad.out.ext (ab.out.trans (zx:Ext wa w3))).facts;obtain ⟨ao,ap,av⟩:=(zx:Ext wa w3).facts)))
       all_goals
        go_wp2_with (first
         | (go_at_call 44;((with_reducible refine (az.out _ zx).mono ?_);rintro e w5 ⟨A1,c1,rfl,ar,hv1⟩;have HV1:=Za hv1;clear hv1))
         | (go_at_call 43;((with_reducible refine (aA.out _ _ _ _ HV1.out.tv).mono ?_);rintro e w6 ⟨rfl,au⟩;rw [aw.out,ax.out])))
        go_ret2
        exact PRowsR.mk_ HV.out (ay.out.trans zx)
      ·have cs0:(⟨T.toArray⟩++⟨#[98,97,99,107]⟩:ByteArray)=⟨S0.toArray⟩:=by rw [<-hS0];exact zaa T _
       clear hS0
       go_wp2_with fail
       go_region_held3 (fun wx=>wx.cell? ⟨w.heap.size,1,none⟩=some (.slice (some ⟨b9,off9,none⟩) m c)) (go_keep) (first
        | (go_at_call 41;first
         | ((with_reducible refine (ae.out _ zx).mono ?_);rintro e w2 ⟨rfl,hq2⟩;obtain ⟨y0,y1,yz⟩:=(ad.out.ext (ab.out.trans (zx:Ext wa w2))).facts)
         | ((with_reducible refine (af.out _ zx).mono ?_);rintro e w3 ⟨rfl,aq⟩;obtain ⟨z0,z1,zz⟩:=(ad.out.ext (ab.out.trans (zx:Ext wa w3))).facts;obtain ⟨ao,ap,av⟩:=(zx:Ext wa w3).facts)))
       all_goals
        go_wp2_with (first
         | (go_at_call 44;((with_reducible refine (az.out _ zx).mono ?_);rintro e w5 ⟨A1,c1,rfl,ar,hv1⟩;have HV1:=Za hv1;clear hv1))
         | (go_at_call 43;((with_reducible refine (aA.out _ _ _ _ HV1.out.tv).mono ?_);rintro e w6 ⟨rfl,au⟩;rw [aw.out,ax.out])))
        go_ret2
        exact PRowsR.mk_ HV.out (ay.out.trans zx)
  ·obtain rfl:m=i:=by omega
   have aB:=aY.out
   have al:=ak.out.fin (by omega)
   have q1:¬((m:Int)<(m:Int)):=by omega
   by_cases hl6:60000<T.length
   ·have HV:=Za (zfW HC.out al hl6)
    have p3:(60000:Int)<(T.length:Int):=by omega
    clear al aB
    go_wp2_with fail
    go_ret2
    exact PRowsR.mk_ HV.out ay.out
   ·have HV:=Za (zfV HC.out al hl6)
    have p3:¬((60000:Int)<(T.length:Int)):=by omega
    clear al aB
    go_wp2_with fail
    go_ret2
    exact PRowsR.mk_ HV.out ay.out
theorem zk0 (s:Int) (A:Option Addr) (m c:Nat) (rows:List Ro) (w:World) (hr:Rws w (fun _=>True) A m rows) (hcp:Caps w A m) :
  Calls Tryz.prog 11 #[.agg #[.int .i64 s,.slice A m c]] w (PRowsR s rows w):=by
 by_cases h0:chkC s rows=0
 ·exact zi5 s A m c rows w hr hcp h0
 ·exact zmP s _ A m c rows w hr rfl h0
end Go.Proofs.YtkneghkbgingdaaGreatDoor
