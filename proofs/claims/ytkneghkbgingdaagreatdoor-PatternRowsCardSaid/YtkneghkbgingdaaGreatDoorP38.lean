/- The reference's Written and Text of a list of terms. -/
import Derived.Test.YtkneghkbgingdaaGreatDoorP15
import Derived.Test.YtkneghkbgingdaaGreatDoorP35
import Derived.Test.YtkneghkbgingdaaGreatDoorP09
namespace Go.Proofs.YtkneghkbgingdaaGreatDoor
set_option maxRecDepth 100000
set_option maxRecDepth 100000
open Go.RowKit Go.ChangeShapes Go.WideShapes Go.Joins
theorem zbI {w:World} {g0:Nat} {c:St} (h:w.heap[g0]?=some (.cells #[.int .u8 c.k,.bool c.p,.int .i64 c.a,.int .i64 c.b] 132 (0,0))):Vec shSt w (some ⟨g0,0,none⟩) 1 [c]:=zdw h
def moreW (k:Nat):Tms→List UInt8
 | .nil=>[]
 | .cons n c g r=>(if k=0 then [] else [32])++wT (.cons n c g r)
theorem zhs (k:Nat) (n:Int) (c:St) (g r:Tms):moreW k (.cons n c g r)=(if k=0 then [] else [32])++(headW c g++timesW n)++moreW (k+1) r:=by
 rw [moreW]
 cases r with
 | nil =>
  rw [zcr,moreW]
  simp
 | cons n2 c2 g2 r2 =>
  rw [zbE _ _ _ _ (by simp),moreW,if_neg (show ¬(k+1=0) by omega)]
  simp
set_option maxHeartbeats 8000000 in
theorem zcs:∀(M:Nat),M≤5000→∀(t:Tms),t.size≤M→fineT t=true→∀(A:Option Addr) (n cap:Nat) (w:World),Tv w A n t →
  Calls Tryz.prog 75 #[.slice A n cap] w fun e w'=>e = .returned (.string ⟨(wT t).toArray⟩)∧Ext w w':=by
 intro M
 induction M using Nat.strongRecOn with
 | ind M ih =>
  intro hM t ht hf A n cap w hv
  have HI:=Lib.hid ih
  have HV:=Lib.hid hv
  have hnm:n≤5000:=by have h1:=hv.1;have h2:=zav t;omega
  have hbig:(wT t).length≤1000000:=by have h1:=zjW hf;omega
  clear ih hv
  go_enter Tryz.func75,Tryz.ntmps75
  go_wp2_with fail
  go_loopw [3,4] (fun u i wr=>∃(k:Nat) (S:List UInt8) (rest:Tms),i = .int .i64 k∧u = .string ⟨S.toArray⟩∧rest.cnt+k=n∧rest.size≤M ∧
   Hid (fineT rest=true∧S++moreW k rest=wT t∧Ext w wr∧(0<rest.cnt→∃b off,A=some ⟨b,off,none⟩∧b<wr.heap.size∧TAt wr rest b (off+k*6)))) (fun _ i _=>n-(intOf i).toNat)
  case atStart =>
   refine ⟨0,[],t,rfl,rfl,by have:=HV.out.1;omega,ht,Lib.hid ⟨hf,?_,Ext.refl _,fun h=>?_⟩⟩
   ·cases t <;> rfl
   obtain ⟨h1,h2,h3⟩:=HV.out
   obtain ⟨b,off,e,hb,hc⟩:=h3 (by omega)
   exact ⟨b,off,e,hb,by simpa using hc⟩
  case round =>
   obtain ⟨k,S,rest,rfl,rfl,hcnt,hrs,HH⟩:=hrel
   by_cases hlt:0<rest.cnt
   ·obtain ⟨N,c,g,r,rfl⟩:=zaR hlt
    obtain ⟨b,off,rfl,hb1,hc⟩:=HH.out.2.2.2 hlt
    obtain ⟨A',n',cap',c0,c1,c2,c3,c4,c5,hkk,hg,hr⟩:=hc.head
    obtain ⟨⟨hN0,hN1⟩,hfg,hfr⟩:=za4 HH.out.1
    have hxr:=HH.out.2.2.1
    have hsum:=HH.out.2.1
    rw [zhs] at hsum
    simp only [Tms.cnt,Tms.size] at hcnt hrs
    have hkn:k<n:=by omega
    have hz:=World.block_lt_of_cell? wr _ c0
    have HC:=Lib.hid (fun (w':World) (h:Ext wr w')=>HI.out (M-1) (by omega) (by omega) g (by omega) hfg A' n' cap' w' (hg.ext h))
    have hgn:=hg.1
    have HF:=Lib.hid hfr
    have HKK:=Lib.hid hkk
    have HR9:=Lib.hid hr
    have hof:g = .nil→okSt c=true:=fun h0=>(zaK HH.out.1).2.2.2.1 h0
    clear hc hr hkk
    obtain ⟨ck,cp,ca,cb⟩:=c
    simp only at c1 c2 c3 c4
    obtain ⟨NN,rfl⟩:∃NN:Nat,N=(NN:Int):=⟨N.toNat,by omega⟩
    have HDC:=Lib.hid (fun (w':World)=>zai NN (by omega) w')
    obtain ⟨D,hD⟩:∃D,decD NN=D:=⟨_,rfl⟩
    have hDl:=zaj NN
    have htw:timesW (NN:Int)=if (1:Int)<NN then 42::D else []:=by rw [timesW,Int.toNat_natCast,hD]
    rw [hD] at HDC hDl
    have q0:(0:Int)≤(k:Int):=by omega
    have q1:(k:Int)<(n:Int):=by omega
    clear hD
    by_cases hn':0<n'
    ·have hge:g ≠ .nil:=by rintro rfl;simp [Tms.cnt] at hgn;omega
     obtain ⟨W,hW⟩:∃W,wT g=W:=⟨_,rfl⟩
     have hhd:headW ⟨ck,cp,ca,cb⟩ g=40::(W++[41]):=by rw [zaW hge,hW]
     have HW:=Lib.hid hW
     clear hW hof
     by_cases hk0:k=0
     ·have qz:¬((0:Int)<(k:Int)):=by omega
      by_cases hmn:(1:Int)<(NN:Int)
      ·obtain ⟨S2,hS2⟩:∃x,S++[40]=x:=⟨_,rfl⟩
       have ccS2:(⟨S.toArray⟩++⟨#[40]⟩:ByteArray)=⟨S2.toArray⟩:=by rw [←hS2];exact zab S [40]
       obtain ⟨S3,hS3⟩:∃x,S2++W=x:=⟨_,rfl⟩
       have ccS3:(⟨S2.toArray⟩++⟨W.toArray⟩:ByteArray)=⟨S3.toArray⟩:=by rw [←hS3];exact zab S2 W
       obtain ⟨S4,hS4⟩:∃x,S3++[41]=x:=⟨_,rfl⟩
       have ccS4:(⟨S3.toArray⟩++⟨#[41]⟩:ByteArray)=⟨S4.toArray⟩:=by rw [←hS4];exact zab S3 [41]
       obtain ⟨S5,hS5⟩:∃x,S4++[42]=x:=⟨_,rfl⟩
       have ccS5:(⟨S4.toArray⟩++⟨#[42]⟩:ByteArray)=⟨S5.toArray⟩:=by rw [←hS5];exact zab S4 [42]
       obtain ⟨S6,hS6⟩:∃x,S5++D=x:=⟨_,rfl⟩
       have ccS6:(⟨S5.toArray⟩++⟨D.toArray⟩:ByteArray)=⟨S6.toArray⟩:=by rw [←hS6];exact zab S5 D
       have HFIN:=Lib.hid (show S6++moreW (k+1) r=wT t from by
        rw [←hsum,←hS6,←hS5,←hS4,←hS3,←hS2,hhd,htw,if_pos hk0,if_pos hmn]
        simp)
       have lS6:S6.length≤1000000:=by
        have h9:=congrArg List.length HFIN.out
        rw [List.length_append] at h9
        omega
       have lD:D.length≤1000000:=by
        have h9:=congrArg List.length hS6
        rw [List.length_append] at h9
        omega
       have lS5:S5.length≤1000000:=by
        have h9:=congrArg List.length hS6
        rw [List.length_append] at h9
        omega
       have lS4:S4.length≤1000000:=by
        have h9:=congrArg List.length hS5
        rw [List.length_append] at h9
        omega
       have lS3:S3.length≤1000000:=by
        have h9:=congrArg List.length hS4
        rw [List.length_append] at h9
        omega
       have lW:W.length≤1000000:=by
        have h9:=congrArg List.length hS3
        rw [List.length_append] at h9
        omega
       have lS2:S2.length≤1000000:=by
        have h9:=congrArg List.length hS3
        rw [List.length_append] at h9
        omega
       have lS:S.length≤1000000:=by
        have h9:=congrArg List.length hS2
        rw [List.length_append] at h9
        omega
       clear hS2 hS3 hS4 hS5 hS6 hsum hhd htw hk0
       go_wp2_with (first
        | (go_at_call 75;((with_reducible refine (HC.out _ (by repeat (first|exact zr _|assumption|refine za ?_ _|refine zd ?_|refine zn ?_ _|refine zt ?_ (by assumption)))).mono ?_);rintro e w1 ⟨rfl,hq1⟩;rw [HW.out];obtain ⟨hf1,hf2,hf3⟩:=(Ext.trans hxr hq1).facts;obtain ⟨hg1,hg2,hg3⟩:=hq1.facts))
        | (go_at_call 42;((with_reducible refine (HDC.out _).mono ?_);rintro e w2 ⟨rfl,hq2⟩;obtain ⟨hk1,hk2,hk3⟩:=hq2.facts)))
       go_roundw
       case rel =>
        have hxx:Ext wr w2:=by repeat (first|exact zr _|assumption|refine za ?_ _|refine zd ?_|refine zn ?_ _|refine zt ?_ (by assumption))
        refine ⟨k+1,S6,r,by go_num,rfl,by omega,by omega,Lib.hid ⟨HF.out,HFIN.out,hxr.trans hxx,fun h=>?_⟩⟩
        refine ⟨b,off,rfl,Nat.lt_of_lt_of_le hb1 (Below.size hxx),?_⟩
        rw [show off+(k+1)*6=off+k*6+6 by omega]
        exact HR9.out.ext hxx hb1
       case measure=>simp [intOf];omega
      ·obtain ⟨S2,hS2⟩:∃x,S++[40]=x:=⟨_,rfl⟩
       have ccS2:(⟨S.toArray⟩++⟨#[40]⟩:ByteArray)=⟨S2.toArray⟩:=by rw [←hS2];exact zab S [40]
       obtain ⟨S3,hS3⟩:∃x,S2++W=x:=⟨_,rfl⟩
       have ccS3:(⟨S2.toArray⟩++⟨W.toArray⟩:ByteArray)=⟨S3.toArray⟩:=by rw [←hS3];exact zab S2 W
       obtain ⟨S4,hS4⟩:∃x,S3++[41]=x:=⟨_,rfl⟩
       have ccS4:(⟨S3.toArray⟩++⟨#[41]⟩:ByteArray)=⟨S4.toArray⟩:=by rw [←hS4];exact zab S3 [41]
       have HFIN:=Lib.hid (show S4++moreW (k+1) r=wT t from by
        rw [←hsum,←hS4,←hS3,←hS2,hhd,htw,if_pos hk0,if_neg hmn]
        simp)
       have lS4:S4.length≤1000000:=by
        have h9:=congrArg List.length HFIN.out
        rw [List.length_append] at h9
        omega
       have lS3:S3.length≤1000000:=by
        have h9:=congrArg List.length hS4
        rw [List.length_append] at h9
        omega
       have lW:W.length≤1000000:=by
        have h9:=congrArg List.length hS3
        rw [List.length_append] at h9
        omega
       have lS2:S2.length≤1000000:=by
        have h9:=congrArg List.length hS3
        rw [List.length_append] at h9
        omega
       have lS:S.length≤1000000:=by
        have h9:=congrArg List.length hS2
        rw [List.length_append] at h9
        omega
       clear hS2 hS3 hS4 hsum hhd htw hk0
       go_wp2_with (first
        | (go_at_call 75;((with_reducible refine (HC.out _ (by repeat (first|exact zr _|assumption|refine za ?_ _|refine zd ?_|refine zn ?_ _|refine zt ?_ (by assumption)))).mono ?_);rintro e w1 ⟨rfl,hq1⟩;rw [HW.out];obtain ⟨hf1,hf2,hf3⟩:=(Ext.trans hxr hq1).facts;obtain ⟨hg1,hg2,hg3⟩:=hq1.facts)))
       go_roundw
       case rel =>
        have hxx:Ext wr w1:=by repeat (first|exact zr _|assumption|refine za ?_ _|refine zd ?_|refine zn ?_ _|refine zt ?_ (by assumption))
        refine ⟨k+1,S4,r,by go_num,rfl,by omega,by omega,Lib.hid ⟨HF.out,HFIN.out,hxr.trans hxx,fun h=>?_⟩⟩
        refine ⟨b,off,rfl,Nat.lt_of_lt_of_le hb1 (Below.size hxx),?_⟩
        rw [show off+(k+1)*6=off+k*6+6 by omega]
        exact HR9.out.ext hxx hb1
       case measure=>simp [intOf];omega
     ·have qz:(0:Int)<(k:Int):=by omega
      by_cases hmn:(1:Int)<(NN:Int)
      ·obtain ⟨S1,hS1⟩:∃x,S++[32]=x:=⟨_,rfl⟩
       have ccS1:(⟨S.toArray⟩++⟨#[32]⟩:ByteArray)=⟨S1.toArray⟩:=by rw [←hS1];exact zab S [32]
       obtain ⟨S2,hS2⟩:∃x,S1++[40]=x:=⟨_,rfl⟩
       have ccS2:(⟨S1.toArray⟩++⟨#[40]⟩:ByteArray)=⟨S2.toArray⟩:=by rw [←hS2];exact zab S1 [40]
       obtain ⟨S3,hS3⟩:∃x,S2++W=x:=⟨_,rfl⟩
       have ccS3:(⟨S2.toArray⟩++⟨W.toArray⟩:ByteArray)=⟨S3.toArray⟩:=by rw [←hS3];exact zab S2 W
       obtain ⟨S4,hS4⟩:∃x,S3++[41]=x:=⟨_,rfl⟩
       have ccS4:(⟨S3.toArray⟩++⟨#[41]⟩:ByteArray)=⟨S4.toArray⟩:=by rw [←hS4];exact zab S3 [41]
       obtain ⟨S5,hS5⟩:∃x,S4++[42]=x:=⟨_,rfl⟩
       have ccS5:(⟨S4.toArray⟩++⟨#[42]⟩:ByteArray)=⟨S5.toArray⟩:=by rw [←hS5];exact zab S4 [42]
       obtain ⟨S6,hS6⟩:∃x,S5++D=x:=⟨_,rfl⟩
       have ccS6:(⟨S5.toArray⟩++⟨D.toArray⟩:ByteArray)=⟨S6.toArray⟩:=by rw [←hS6];exact zab S5 D
       have HFIN:=Lib.hid (show S6++moreW (k+1) r=wT t from by
        rw [←hsum,←hS6,←hS5,←hS4,←hS3,←hS2,←hS1,hhd,htw,if_neg hk0,if_pos hmn]
        simp)
       have lS6:S6.length≤1000000:=by
        have h9:=congrArg List.length HFIN.out
        rw [List.length_append] at h9
        omega
       have lD:D.length≤1000000:=by
        have h9:=congrArg List.length hS6
        rw [List.length_append] at h9
        omega
       have lS5:S5.length≤1000000:=by
        have h9:=congrArg List.length hS6
        rw [List.length_append] at h9
        omega
       have lS4:S4.length≤1000000:=by
        have h9:=congrArg List.length hS5
        rw [List.length_append] at h9
        omega
       have lS3:S3.length≤1000000:=by
        have h9:=congrArg List.length hS4
        rw [List.length_append] at h9
        omega
       have lW:W.length≤1000000:=by
        have h9:=congrArg List.length hS3
        rw [List.length_append] at h9
        omega
       have lS2:S2.length≤1000000:=by
        have h9:=congrArg List.length hS3
        rw [List.length_append] at h9
        omega
       have lS1:S1.length≤1000000:=by
        have h9:=congrArg List.length hS2
        rw [List.length_append] at h9
        omega
       have lS:S.length≤1000000:=by
        have h9:=congrArg List.length hS1
        rw [List.length_append] at h9
        omega
       clear hS1 hS2 hS3 hS4 hS5 hS6 hsum hhd htw hk0
       go_wp2_with (first
        | (go_at_call 75;((with_reducible refine (HC.out _ (by repeat (first|exact zr _|assumption|refine za ?_ _|refine zd ?_|refine zn ?_ _|refine zt ?_ (by assumption)))).mono ?_);rintro e w1 ⟨rfl,hq1⟩;rw [HW.out];obtain ⟨hf1,hf2,hf3⟩:=(Ext.trans hxr hq1).facts;obtain ⟨hg1,hg2,hg3⟩:=hq1.facts))
        | (go_at_call 42;((with_reducible refine (HDC.out _).mono ?_);rintro e w2 ⟨rfl,hq2⟩;obtain ⟨hk1,hk2,hk3⟩:=hq2.facts)))
       go_roundw
       case rel =>
        have hxx:Ext wr w2:=by repeat (first|exact zr _|assumption|refine za ?_ _|refine zd ?_|refine zn ?_ _|refine zt ?_ (by assumption))
        refine ⟨k+1,S6,r,by go_num,rfl,by omega,by omega,Lib.hid ⟨HF.out,HFIN.out,hxr.trans hxx,fun h=>?_⟩⟩
        refine ⟨b,off,rfl,Nat.lt_of_lt_of_le hb1 (Below.size hxx),?_⟩
        rw [show off+(k+1)*6=off+k*6+6 by omega]
        exact HR9.out.ext hxx hb1
       case measure=>simp [intOf];omega
      ·obtain ⟨S1,hS1⟩:∃x,S++[32]=x:=⟨_,rfl⟩
       have ccS1:(⟨S.toArray⟩++⟨#[32]⟩:ByteArray)=⟨S1.toArray⟩:=by rw [←hS1];exact zab S [32]
       obtain ⟨S2,hS2⟩:∃x,S1++[40]=x:=⟨_,rfl⟩
       have ccS2:(⟨S1.toArray⟩++⟨#[40]⟩:ByteArray)=⟨S2.toArray⟩:=by rw [←hS2];exact zab S1 [40]
       obtain ⟨S3,hS3⟩:∃x,S2++W=x:=⟨_,rfl⟩
       have ccS3:(⟨S2.toArray⟩++⟨W.toArray⟩:ByteArray)=⟨S3.toArray⟩:=by rw [←hS3];exact zab S2 W
       obtain ⟨S4,hS4⟩:∃x,S3++[41]=x:=⟨_,rfl⟩
       have ccS4:(⟨S3.toArray⟩++⟨#[41]⟩:ByteArray)=⟨S4.toArray⟩:=by rw [←hS4];exact zab S3 [41]
       have HFIN:=Lib.hid (show S4++moreW (k+1) r=wT t from by
        rw [←hsum,←hS4,←hS3,←hS2,←hS1,hhd,htw,if_neg hk0,if_neg hmn]
        simp)
       have lS4:S4.length≤1000000:=by
        have h9:=congrArg List.length HFIN.out
        rw [List.length_append] at h9
        omega
       have lS3:S3.length≤1000000:=by
        have h9:=congrArg List.length hS4
        rw [List.length_append] at h9
        omega
       have lW:W.length≤1000000:=by
        have h9:=congrArg List.length hS3
        rw [List.length_append] at h9
        omega
       have lS2:S2.length≤1000000:=by
        have h9:=congrArg List.length hS3
        rw [List.length_append] at h9
        omega
       have lS1:S1.length≤1000000:=by
        have h9:=congrArg List.length hS2
        rw [List.length_append] at h9
        omega
       have lS:S.length≤1000000:=by
        have h9:=congrArg List.length hS1
        rw [List.length_append] at h9
        omega
       clear hS1 hS2 hS3 hS4 hsum hhd htw hk0
       go_wp2_with (first
        | (go_at_call 75;((with_reducible refine (HC.out _ (by repeat (first|exact zr _|assumption|refine za ?_ _|refine zd ?_|refine zn ?_ _|refine zt ?_ (by assumption)))).mono ?_);rintro e w1 ⟨rfl,hq1⟩;rw [HW.out];obtain ⟨hf1,hf2,hf3⟩:=(Ext.trans hxr hq1).facts;obtain ⟨hg1,hg2,hg3⟩:=hq1.facts)))
       go_roundw
       case rel =>
        have hxx:Ext wr w1:=by repeat (first|exact zr _|assumption|refine za ?_ _|refine zd ?_|refine zn ?_ _|refine zt ?_ (by assumption))
        refine ⟨k+1,S4,r,by go_num,rfl,by omega,by omega,Lib.hid ⟨HF.out,HFIN.out,hxr.trans hxx,fun h=>?_⟩⟩
        refine ⟨b,off,rfl,Nat.lt_of_lt_of_le hb1 (Below.size hxx),?_⟩
        rw [show off+(k+1)*6=off+k*6+6 by omega]
        exact HR9.out.ext hxx hb1
       case measure=>simp [intOf];omega
    ·obtain rfl:=zaz (t:=g) (by omega)
     obtain rfl:n'=0:=by omega
     have HOK:=Lib.hid (show allB [⟨ck,cp,ca,cb⟩]=true by simp [allB,hof rfl])
     obtain ⟨W,hW⟩:∃W,textL [⟨ck,cp,ca,cb⟩]=W:=⟨_,rfl⟩
     have hhd:headW ⟨ck,cp,ca,cb⟩ .nil=W:=by rw [←hW];rfl
     have HW:=Lib.hid hW
     clear hW hof
     by_cases hk0:k=0
     ·have qz:¬((0:Int)<(k:Int)):=by omega
      by_cases hmn:(1:Int)<(NN:Int)
      ·obtain ⟨S4,hS4⟩:∃x,S++W=x:=⟨_,rfl⟩
       have ccS4:(⟨S.toArray⟩++⟨W.toArray⟩:ByteArray)=⟨S4.toArray⟩:=by rw [←hS4];exact zab S W
       obtain ⟨S5,hS5⟩:∃x,S4++[42]=x:=⟨_,rfl⟩
       have ccS5:(⟨S4.toArray⟩++⟨#[42]⟩:ByteArray)=⟨S5.toArray⟩:=by rw [←hS5];exact zab S4 [42]
       obtain ⟨S6,hS6⟩:∃x,S5++D=x:=⟨_,rfl⟩
       have ccS6:(⟨S5.toArray⟩++⟨D.toArray⟩:ByteArray)=⟨S6.toArray⟩:=by rw [←hS6];exact zab S5 D
       have HFIN:=Lib.hid (show S6++moreW (k+1) r=wT t from by
        rw [←hsum,←hS6,←hS5,←hS4,hhd,htw,if_pos hk0,if_pos hmn]
        simp)
       have lS6:S6.length≤1000000:=by
        have h9:=congrArg List.length HFIN.out
        rw [List.length_append] at h9
        omega
       have lD:D.length≤1000000:=by
        have h9:=congrArg List.length hS6
        rw [List.length_append] at h9
        omega
       have lS5:S5.length≤1000000:=by
        have h9:=congrArg List.length hS6
        rw [List.length_append] at h9
        omega
       have lS4:S4.length≤1000000:=by
        have h9:=congrArg List.length hS5
        rw [List.length_append] at h9
        omega
       have lW:W.length≤1000000:=by
        have h9:=congrArg List.length hS4
        rw [List.length_append] at h9
        omega
       have lS:S.length≤1000000:=by
        have h9:=congrArg List.length hS4
        rw [List.length_append] at h9
        omega
       clear hS4 hS5 hS6 hsum hhd htw hk0
       go_wp2_with (first
        | (go_at_call 108;((with_reducible refine (za3 1 1 _ [⟨ck,cp,ca,cb⟩] _ (zbI (zfi (by simp))) (by omega) HOK.out).mono ?_);rintro e w1 ⟨rfl,hq1⟩;rw [HW.out];have hq9:Ext wr w1:=Ext.trans (by repeat (first|exact zr _|assumption|refine za ?_ _|refine zd ?_|refine zn ?_ _|refine zt ?_ (by assumption))) hq1;obtain ⟨hg1,hg2,hg3⟩:=hq9.facts))
        | (go_at_call 42;((with_reducible refine (HDC.out _).mono ?_);rintro e w2 ⟨rfl,hq2⟩;obtain ⟨hk1,hk2,hk3⟩:=hq2.facts)))
       go_roundw
       case rel =>
        have hxx:Ext wr w2:=by repeat (first|exact zr _|assumption|refine za ?_ _|refine zd ?_|refine zn ?_ _|refine zt ?_ (by assumption))
        refine ⟨k+1,S6,r,by go_num,rfl,by omega,by omega,Lib.hid ⟨HF.out,HFIN.out,hxr.trans hxx,fun h=>?_⟩⟩
        refine ⟨b,off,rfl,Nat.lt_of_lt_of_le hb1 (Below.size hxx),?_⟩
        rw [show off+(k+1)*6=off+k*6+6 by omega]
        exact HR9.out.ext hxx hb1
       case measure=>simp [intOf];omega
      ·obtain ⟨S4,hS4⟩:∃x,S++W=x:=⟨_,rfl⟩
       have ccS4:(⟨S.toArray⟩++⟨W.toArray⟩:ByteArray)=⟨S4.toArray⟩:=by rw [←hS4];exact zab S W
       have HFIN:=Lib.hid (show S4++moreW (k+1) r=wT t from by
        rw [←hsum,←hS4,hhd,htw,if_pos hk0,if_neg hmn]
        simp)
       have lS4:S4.length≤1000000:=by
        have h9:=congrArg List.length HFIN.out
        rw [List.length_append] at h9
        omega
       have lW:W.length≤1000000:=by
        have h9:=congrArg List.length hS4
        rw [List.length_append] at h9
        omega
       have lS:S.length≤1000000:=by
        have h9:=congrArg List.length hS4
        rw [List.length_append] at h9
        omega
       clear hS4 hsum hhd htw hk0
       go_wp2_with (first
        | (go_at_call 108;((with_reducible refine (za3 1 1 _ [⟨ck,cp,ca,cb⟩] _ (zbI (zfi (by simp))) (by omega) HOK.out).mono ?_);rintro e w1 ⟨rfl,hq1⟩;rw [HW.out];have hq9:Ext wr w1:=Ext.trans (by repeat (first|exact zr _|assumption|refine za ?_ _|refine zd ?_|refine zn ?_ _|refine zt ?_ (by assumption))) hq1;obtain ⟨hg1,hg2,hg3⟩:=hq9.facts)))
       go_roundw
       case rel =>
        have hxx:Ext wr w1:=by repeat (first|exact zr _|assumption|refine za ?_ _|refine zd ?_|refine zn ?_ _|refine zt ?_ (by assumption))
        refine ⟨k+1,S4,r,by go_num,rfl,by omega,by omega,Lib.hid ⟨HF.out,HFIN.out,hxr.trans hxx,fun h=>?_⟩⟩
        refine ⟨b,off,rfl,Nat.lt_of_lt_of_le hb1 (Below.size hxx),?_⟩
        rw [show off+(k+1)*6=off+k*6+6 by omega]
        exact HR9.out.ext hxx hb1
       case measure=>simp [intOf];omega
     ·have qz:(0:Int)<(k:Int):=by omega
      by_cases hmn:(1:Int)<(NN:Int)
      ·obtain ⟨S1,hS1⟩:∃x,S++[32]=x:=⟨_,rfl⟩
       have ccS1:(⟨S.toArray⟩++⟨#[32]⟩:ByteArray)=⟨S1.toArray⟩:=by rw [←hS1];exact zab S [32]
       obtain ⟨S4,hS4⟩:∃x,S1++W=x:=⟨_,rfl⟩
       have ccS4:(⟨S1.toArray⟩++⟨W.toArray⟩:ByteArray)=⟨S4.toArray⟩:=by rw [←hS4];exact zab S1 W
       obtain ⟨S5,hS5⟩:∃x,S4++[42]=x:=⟨_,rfl⟩
       have ccS5:(⟨S4.toArray⟩++⟨#[42]⟩:ByteArray)=⟨S5.toArray⟩:=by rw [←hS5];exact zab S4 [42]
       obtain ⟨S6,hS6⟩:∃x,S5++D=x:=⟨_,rfl⟩
       have ccS6:(⟨S5.toArray⟩++⟨D.toArray⟩:ByteArray)=⟨S6.toArray⟩:=by rw [←hS6];exact zab S5 D
       have HFIN:=Lib.hid (show S6++moreW (k+1) r=wT t from by
        rw [←hsum,←hS6,←hS5,←hS4,←hS1,hhd,htw,if_neg hk0,if_pos hmn]
        simp)
       have lS6:S6.length≤1000000:=by
        have h9:=congrArg List.length HFIN.out
        rw [List.length_append] at h9
        omega
       have lD:D.length≤1000000:=by
        have h9:=congrArg List.length hS6
        rw [List.length_append] at h9
        omega
       have lS5:S5.length≤1000000:=by
        have h9:=congrArg List.length hS6
        rw [List.length_append] at h9
        omega
       have lS4:S4.length≤1000000:=by
        have h9:=congrArg List.length hS5
        rw [List.length_append] at h9
        omega
       have lW:W.length≤1000000:=by
        have h9:=congrArg List.length hS4
        rw [List.length_append] at h9
        omega
       have lS1:S1.length≤1000000:=by
        have h9:=congrArg List.length hS4
        rw [List.length_append] at h9
        omega
       have lS:S.length≤1000000:=by
        have h9:=congrArg List.length hS1
        rw [List.length_append] at h9
        omega
       clear hS1 hS4 hS5 hS6 hsum hhd htw hk0
       go_wp2_with (first
        | (go_at_call 108;((with_reducible refine (za3 1 1 _ [⟨ck,cp,ca,cb⟩] _ (zbI (zfi (by simp))) (by omega) HOK.out).mono ?_);rintro e w1 ⟨rfl,hq1⟩;rw [HW.out];have hq9:Ext wr w1:=Ext.trans (by repeat (first|exact zr _|assumption|refine za ?_ _|refine zd ?_|refine zn ?_ _|refine zt ?_ (by assumption))) hq1;obtain ⟨hg1,hg2,hg3⟩:=hq9.facts))
        | (go_at_call 42;((with_reducible refine (HDC.out _).mono ?_);rintro e w2 ⟨rfl,hq2⟩;obtain ⟨hk1,hk2,hk3⟩:=hq2.facts)))
       go_roundw
       case rel =>
        have hxx:Ext wr w2:=by repeat (first|exact zr _|assumption|refine za ?_ _|refine zd ?_|refine zn ?_ _|refine zt ?_ (by assumption))
        refine ⟨k+1,S6,r,by go_num,rfl,by omega,by omega,Lib.hid ⟨HF.out,HFIN.out,hxr.trans hxx,fun h=>?_⟩⟩
        refine ⟨b,off,rfl,Nat.lt_of_lt_of_le hb1 (Below.size hxx),?_⟩
        rw [show off+(k+1)*6=off+k*6+6 by omega]
        exact HR9.out.ext hxx hb1
       case measure=>simp [intOf];omega
      ·obtain ⟨S1,hS1⟩:∃x,S++[32]=x:=⟨_,rfl⟩
       have ccS1:(⟨S.toArray⟩++⟨#[32]⟩:ByteArray)=⟨S1.toArray⟩:=by rw [←hS1];exact zab S [32]
       obtain ⟨S4,hS4⟩:∃x,S1++W=x:=⟨_,rfl⟩
       have ccS4:(⟨S1.toArray⟩++⟨W.toArray⟩:ByteArray)=⟨S4.toArray⟩:=by rw [←hS4];exact zab S1 W
       have HFIN:=Lib.hid (show S4++moreW (k+1) r=wT t from by
        rw [←hsum,←hS4,←hS1,hhd,htw,if_neg hk0,if_neg hmn]
        simp)
       have lS4:S4.length≤1000000:=by
        have h9:=congrArg List.length HFIN.out
        rw [List.length_append] at h9
        omega
       have lW:W.length≤1000000:=by
        have h9:=congrArg List.length hS4
        rw [List.length_append] at h9
        omega
       have lS1:S1.length≤1000000:=by
        have h9:=congrArg List.length hS4
        rw [List.length_append] at h9
        omega
       have lS:S.length≤1000000:=by
        have h9:=congrArg List.length hS1
        rw [List.length_append] at h9
        omega
       clear hS1 hS4 hsum hhd htw hk0
       go_wp2_with (first
        | (go_at_call 108;((with_reducible refine (za3 1 1 _ [⟨ck,cp,ca,cb⟩] _ (zbI (zfi (by simp))) (by omega) HOK.out).mono ?_);rintro e w1 ⟨rfl,hq1⟩;rw [HW.out];have hq9:Ext wr w1:=Ext.trans (by repeat (first|exact zr _|assumption|refine za ?_ _|refine zd ?_|refine zn ?_ _|refine zt ?_ (by assumption))) hq1;obtain ⟨hg1,hg2,hg3⟩:=hq9.facts)))
       go_roundw
       case rel =>
        have hxx:Ext wr w1:=by repeat (first|exact zr _|assumption|refine za ?_ _|refine zd ?_|refine zn ?_ _|refine zt ?_ (by assumption))
        refine ⟨k+1,S4,r,by go_num,rfl,by omega,by omega,Lib.hid ⟨HF.out,HFIN.out,hxr.trans hxx,fun h=>?_⟩⟩
        refine ⟨b,off,rfl,Nat.lt_of_lt_of_le hb1 (Below.size hxx),?_⟩
        rw [show off+(k+1)*6=off+k*6+6 by omega]
        exact HR9.out.ext hxx hb1
       case measure=>simp [intOf];omega
   ·obtain rfl:=zaz (t:=rest) (by omega)
    simp only [Tms.cnt] at hcnt
    obtain rfl:k=n:=by omega
    have HS:=Lib.hid (show S=wT t from by have h9:=HH.out.2.1;rw [show moreW k Tms.nil=[] from rfl,List.append_nil] at h9;exact h9)
    go_wp2_with fail
    go_ret
    exact ⟨by rw [HS.out];rfl,HH.out.2.2.1⟩
set_option maxHeartbeats 4000000 in
theorem zhL (t:Tms) (ht:t.size≤5000) (A:Option Addr) (n cap:Nat) (w:World) (hv:Tv w A n t) :
  Calls Tryz.prog 43 #[.slice A n cap] w fun e w'=>e = .returned (.tuple #[.string ⟨(ttextV t).toArray⟩,.int .i64 (ttextE t)])∧Ext w w':=by
 have HV:=Lib.hid hv
 clear hv
 by_cases hc:tchkE t=0
 ·obtain ⟨-,hf, -⟩:True∧fineT t=true∧True:=⟨trivial,(zaG hc).2.2,trivial⟩
  have HC:=Lib.hid (fun (w':World) (hx:Ext w w')=>zcs 5000 (Nat.le_refl _) t ht hf A n cap w' (HV.out.ext hx))
  have hbig:(wT t).length≤1000000:=by have h1:=zjW hf;omega
  have HK:=Lib.hid hc
  obtain ⟨W,hW⟩:∃W,wT t=W:=⟨_,rfl⟩
  rw [hW] at HC hbig
  by_cases hl:3000<W.length
  ·have HE:=Lib.hid (show ttextE t=4∧ttextV t=[] from by
    have h1:ttextE t=4:=by rw [ttextE,if_neg (by simp [hc]),if_pos (by rw [hW];exact hl)]
    exact ⟨h1,by rw [ttextV,h1,if_neg (by omega)]⟩)
   have hl2:(3000:Int)<(W.length:Int):=by omega
   clear hc hW
   go_enter Tryz.func43,Tryz.ntmps43
   go_wp2_with (first
    | (go_at_call 74;((with_reducible refine (zbu t ht A n cap _ (HV.out.ext (by repeat (first|exact zr _|assumption|refine za ?_ _|refine zd ?_|refine zn ?_ _|refine zt ?_ (by assumption))))).mono ?_);rintro e w1 ⟨rfl,hq1⟩;rw [HK.out]))
    | (go_at_call 75;((with_reducible refine (HC.out _ (by repeat (first|exact zr _|assumption|refine za ?_ _|refine zd ?_|refine zn ?_ _|refine zt ?_ (by assumption)))).mono ?_);rintro e w2 ⟨rfl,hq2⟩)))
   go_ret2
   exact ⟨by rw [HE.out.1,HE.out.2];rfl,by repeat (first|exact zr _|assumption|refine za ?_ _|refine zd ?_|refine zn ?_ _|refine zt ?_ (by assumption))⟩
  ·have HE:=Lib.hid (show ttextE t=0∧ttextV t=W from by
    have h1:ttextE t=0:=by rw [ttextE,if_neg (by simp [hc]),if_neg (by rw [hW];exact hl)]
    exact ⟨h1,by rw [ttextV,h1,if_pos rfl,hW]⟩)
   have hl2:¬(3000:Int)<(W.length:Int):=by omega
   clear hc hW
   go_enter Tryz.func43,Tryz.ntmps43
   go_wp2_with (first
    | (go_at_call 74;((with_reducible refine (zbu t ht A n cap _ (HV.out.ext (by repeat (first|exact zr _|assumption|refine za ?_ _|refine zd ?_|refine zn ?_ _|refine zt ?_ (by assumption))))).mono ?_);rintro e w1 ⟨rfl,hq1⟩;rw [HK.out]))
    | (go_at_call 75;((with_reducible refine (HC.out _ (by repeat (first|exact zr _|assumption|refine za ?_ _|refine zd ?_|refine zn ?_ _|refine zt ?_ (by assumption)))).mono ?_);rintro e w2 ⟨rfl,hq2⟩)))
   go_ret2
   exact ⟨by rw [HE.out.1,HE.out.2];rfl,by repeat (first|exact zr _|assumption|refine za ?_ _|refine zd ?_|refine zn ?_ _|refine zt ?_ (by assumption))⟩
 ·have HE:=Lib.hid (show ttextE t=tchkE t∧ttextV t=[] from by
   have h1:ttextE t=tchkE t:=by rw [ttextE,if_pos hc]
   exact ⟨h1,by rw [ttextV,h1,if_neg hc]⟩)
  generalize hq:tchkE t=q at *
  have HQ:=Lib.hid hq
  have hb:(q != 0)=true:=by simpa using hc
  clear hc hq
  go_enter Tryz.func43,Tryz.ntmps43
  go_wp2_with (first
   | (go_at_call 74;((with_reducible refine (zbu t ht A n cap _ (HV.out.ext (by repeat (first|exact zr _|assumption|refine za ?_ _|refine zd ?_|refine zn ?_ _|refine zt ?_ (by assumption))))).mono ?_);rintro e w1 ⟨rfl,hq1⟩;rw [HQ.out])))
  go_ret2
  exact ⟨by rw [HE.out.1,HE.out.2];rfl,by repeat (first|exact zr _|assumption|refine za ?_ _|refine zd ?_|refine zn ?_ _|refine zt ?_ (by assumption))⟩
end Go.Proofs.YtkneghkbgingdaaGreatDoor
