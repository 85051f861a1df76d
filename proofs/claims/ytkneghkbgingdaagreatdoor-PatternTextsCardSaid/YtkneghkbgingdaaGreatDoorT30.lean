/- The reference's Written and Text of a list of terms. -/
import Derived.Test.YtkneghkbgingdaaGreatDoorT26
namespace Go.Proofs.YtkneghkbgingdaaGreatDoor
set_option maxHeartbeats 16000000
set_option maxRecDepth 100000
open Go.RowKit Go.ChangeShapes Go.WideShapes Go.Joins
theorem zb1 {w:World} {g0:Nat} {c:St} (h:w.heap[g0]?=some (.cells #[.int .u8 c.k,.bool c.p,.int .i64 c.a,.int .i64 c.b] 132 (0,0))):Vec shSt w (some ⟨g0,0,none⟩) 1 [c]:=zel h
def moreW (k:Nat):Tms->List UInt8
 | .nil=>[]
 | .cons n c g r=>(if k=0 then [] else [32])++wT (.cons n c g r)
theorem ziF (k:Nat) (n:Int) (c:St) (g r:Tms):moreW k (.cons n c g r)=(if k=0 then [] else [32])++(headW c g++timesW n)++moreW (k+1) r:=by
 rw [moreW]
 cases r with
 | nil =>
  rw [zcZ,moreW]
  simp
 | cons n2 c2 g2 r2 =>
  rw [zbW _ _ _ _ (by simp),moreW,if_neg (show ¬(k+1=0) by omega)]
  simp
theorem zcY:∀(M:Nat),M<=5000->∀(t:Tms),t.size<=M->fineT t=true->∀(A:Option Addr) (n cap:Nat) (w:World),Tv w A n t ->
  Calls Tryz.prog 75 #[.slice A n cap] w fun e w'=>e = .returned (.string ⟨(wT t).toArray⟩)/\Ext w w':=by
 intro M
 induction M using Nat.strongRecOn with
 | ind M ih =>
  intro hM t ht hf A n cap w hv
  have HI:=Za ih
  have HV:=Za hv
  have hnm:n<=5000:=by have h1:=hv.1;have h2:=zap t;omega
  have hbig:(wT t).length<=1000000:=by have h1:=zlt hf;omega
  clear ih hv
  go_enter Tryz.func75,Tryz.ntmps75
  go_wp2_with fail
  go_loopw [3,4] (fun u i wr=>∃(k:Nat) (S:List UInt8) (rest:Tms),i = .int .i64 k/\u = .string ⟨S.toArray⟩/\rest.cnt+k=n/\rest.size<=M /\
   Hid (fineT rest=true/\S++moreW k rest=wT t/\Ext w wr/\(0<rest.cnt->∃b off,A=some ⟨b,off,none⟩/\b<wr.heap.size/\TAt wr rest b (off+k*6)))) (fun _ i _=>n-(intOf i).toNat)
  case atStart =>
   refine ⟨0,[],t,rfl,rfl,by have:=HV.out.1;omega,ht,Za ⟨hf,?_,Zf _,fun h=>?_⟩⟩
   ·cases t <;> rfl
   obtain ⟨h1,h2,h3⟩:=HV.out
   obtain ⟨b,off,e,hb,hc⟩:=h3 (by omega)
   exact ⟨b,off,e,hb,by simpa using hc⟩
  case round =>
   obtain ⟨k,S,rest,rfl,rfl,hcnt,aC,HH⟩:=hrel
   by_cases hlt:0<rest.cnt
   ·obtain ⟨N,c,g,r,rfl⟩:=zaO hlt
    obtain ⟨b,off,rfl,ae,hc⟩:=HH.out.2.2.2 hlt
    obtain ⟨A',n',cap',c0,c1,c2,c3,c4,c5,aw,hg,hr⟩:=hc.head
    obtain ⟨⟨hN0,hN1⟩,ay,az⟩:=za9 HH.out.1
    have ag:=HH.out.2.2.1
    have ab:=HH.out.2.1
    rw [ziF] at ab
    simp only [Tms.cnt,Tms.size] at hcnt aC
    have hkn:k<n:=by omega
    have hz:=Zn wr _ c0
    have HC:=Za (fun (w':World) (h:Ext wr w')=>HI.out (M-1) (by omega) (by omega) g (by omega) ay A' n' cap' w' (hg.ext h))
    have aB:=hg.1
    have HF:=Za az
    have HKK:=Za aw
    have ah:=Za hr
    have av:g = .nil->okSt c=true:=fun h0=>(zaM HH.out.1).2.2.2.1 h0
    clear hc hr aw
    obtain ⟨ck,cp,ca,cb⟩:=c
    simp only at c1 c2 c3 c4
    obtain ⟨NN,rfl⟩:∃NN:Nat,N=(NN:Int):=⟨N.toNat,by omega⟩
    have al:=Za (fun (w':World)=>zad NN (by omega) w')
    obtain ⟨D,hD⟩:∃D,decD NN=D:=⟨_,rfl⟩
    have ax:=zac NN
    have af:timesW (NN:Int)=if (1:Int)<NN then 42::D else []:=by rw [timesW,Int.toNat_natCast,hD]
    rw [hD] at al ax
    have q0:(0:Int)<=(k:Int):=by omega
    have q1:(k:Int)<(n:Int):=by omega
    clear hD
    by_cases hn':0<n'
    ·have aA:g ≠ .nil:=by rintro rfl;simp [Tms.cnt] at aB;omega
     obtain ⟨W,hW⟩:∃W,wT g=W:=⟨_,rfl⟩
     have ad:headW ⟨ck,cp,ca,cb⟩ g=40::(W++[41]):=by rw [zaX aA,hW]
     have HW:=Za hW
     clear hW av
     by_cases hk0:k=0
     ·have qz:¬((0:Int)<(k:Int)):=by omega
      by_cases hmn:(1:Int)<(NN:Int)
      ·obtain ⟨S2,hS2⟩:∃x,S++[40]=x:=⟨_,rfl⟩
       have ccS2:(⟨S.toArray⟩++⟨#[40]⟩:ByteArray)=⟨S2.toArray⟩:=by rw [<-hS2];exact zaa S [40]
       obtain ⟨S3,hS3⟩:∃x,S2++W=x:=⟨_,rfl⟩
       have ccS3:(⟨S2.toArray⟩++⟨W.toArray⟩:ByteArray)=⟨S3.toArray⟩:=by rw [<-hS3];exact zaa S2 W
       obtain ⟨S4,hS4⟩:∃x,S3++[41]=x:=⟨_,rfl⟩
       have ccS4:(⟨S3.toArray⟩++⟨#[41]⟩:ByteArray)=⟨S4.toArray⟩:=by rw [<-hS4];exact zaa S3 [41]
       obtain ⟨S5,hS5⟩:∃x,S4++[42]=x:=⟨_,rfl⟩
       have ccS5:(⟨S4.toArray⟩++⟨#[42]⟩:ByteArray)=⟨S5.toArray⟩:=by rw [<-hS5];exact zaa S4 [42]
       obtain ⟨S6,hS6⟩:∃x,S5++D=x:=⟨_,rfl⟩
       have ccS6:(⟨S5.toArray⟩++⟨D.toArray⟩:ByteArray)=⟨S6.toArray⟩:=by rw [<-hS6];exact zaa S5 D
       have aa:=Za (show S6++moreW (k+1) r=wT t from by
        rw [<-ab,<-hS6,<-hS5,<-hS4,<-hS3,<-hS2,ad,af,if_pos hk0,if_pos hmn]
        simp)
       have lS6:S6.length<=1000000:=by
        have h9:=congrArg List.length aa.out
        rw [Zb] at h9
        omega
       have lD:D.length<=1000000:=by
        have h9:=congrArg List.length hS6
        rw [Zb] at h9
        omega
       have lS5:S5.length<=1000000:=by
        have h9:=congrArg List.length hS6
        rw [Zb] at h9
        omega
       have lS4:S4.length<=1000000:=by
        have h9:=congrArg List.length hS5
        rw [Zb] at h9
        omega
       have lS3:S3.length<=1000000:=by
        have h9:=congrArg List.length hS4
        rw [Zb] at h9
        omega
       have lW:W.length<=1000000:=by
        have h9:=congrArg List.length hS3
        rw [Zb] at h9
        omega
       have lS2:S2.length<=1000000:=by
        have h9:=congrArg List.length hS3
        rw [Zb] at h9
        omega
       have lS:S.length<=1000000:=by
        have h9:=congrArg List.length hS2
        rw [Zb] at h9
        omega
       clear hS2 hS3 hS4 hS5 hS6 ab ad af hk0
       go_wp2_with (first
        | (go_at_call 75;((with_reducible refine (HC.out _ zx).mono ?_);rintro e w1 ⟨rfl,hq1⟩;rw [HW.out];obtain ⟨an,ao,ap⟩:=(Zi ag hq1).facts;obtain ⟨hg1,ai,aj⟩:=hq1.facts))
        | (go_at_call 42;((with_reducible refine (al.out _).mono ?_);rintro e w2 ⟨rfl,hq2⟩;obtain ⟨aq,ar,au⟩:=hq2.facts)))
       go_roundw
       case rel =>
        have ac:Ext wr w2:=zx
        refine ⟨k+1,S6,r,by go_num,rfl,by omega,by omega,Za ⟨HF.out,aa.out,ag.trans ac,fun h=>?_⟩⟩
        refine ⟨b,off,rfl,Zo ae (Zl ac),?_⟩
        rw [show off+(k+1)*6=off+k*6+6 by omega]
        exact ah.out.ext ac ae
       case measure=>simp [intOf];omega
      ·obtain ⟨S2,hS2⟩:∃x,S++[40]=x:=⟨_,rfl⟩
       have ccS2:(⟨S.toArray⟩++⟨#[40]⟩:ByteArray)=⟨S2.toArray⟩:=by rw [<-hS2];exact zaa S [40]
       obtain ⟨S3,hS3⟩:∃x,S2++W=x:=⟨_,rfl⟩
       have ccS3:(⟨S2.toArray⟩++⟨W.toArray⟩:ByteArray)=⟨S3.toArray⟩:=by rw [<-hS3];exact zaa S2 W
       obtain ⟨S4,hS4⟩:∃x,S3++[41]=x:=⟨_,rfl⟩
       have ccS4:(⟨S3.toArray⟩++⟨#[41]⟩:ByteArray)=⟨S4.toArray⟩:=by rw [<-hS4];exact zaa S3 [41]
       have aa:=Za (show S4++moreW (k+1) r=wT t from by
        rw [<-ab,<-hS4,<-hS3,<-hS2,ad,af,if_pos hk0,if_neg hmn]
        simp)
       have lS4:S4.length<=1000000:=by
        have h9:=congrArg List.length aa.out
        rw [Zb] at h9
        omega
       have lS3:S3.length<=1000000:=by
        have h9:=congrArg List.length hS4
        rw [Zb] at h9
        omega
       have lW:W.length<=1000000:=by
        have h9:=congrArg List.length hS3
        rw [Zb] at h9
        omega
       have lS2:S2.length<=1000000:=by
        have h9:=congrArg List.length hS3
        rw [Zb] at h9
        omega
       have lS:S.length<=1000000:=by
        have h9:=congrArg List.length hS2
        rw [Zb] at h9
        omega
       clear hS2 hS3 hS4 ab ad af hk0
       go_wp2_with (first
        | (go_at_call 75;((with_reducible refine (HC.out _ zx).mono ?_);rintro e w1 ⟨rfl,hq1⟩;rw [HW.out];obtain ⟨an,ao,ap⟩:=(Zi ag hq1).facts;obtain ⟨hg1,ai,aj⟩:=hq1.facts)))
       go_roundw
       case rel =>
        have ac:Ext wr w1:=zx
        refine ⟨k+1,S4,r,by go_num,rfl,by omega,by omega,Za ⟨HF.out,aa.out,ag.trans ac,fun h=>?_⟩⟩
        refine ⟨b,off,rfl,Zo ae (Zl ac),?_⟩
        rw [show off+(k+1)*6=off+k*6+6 by omega]
        exact ah.out.ext ac ae
       case measure=>simp [intOf];omega
     ·have qz:(0:Int)<(k:Int):=by omega
      by_cases hmn:(1:Int)<(NN:Int)
      ·obtain ⟨S1,hS1⟩:∃x,S++[32]=x:=⟨_,rfl⟩
       have ccS1:(⟨S.toArray⟩++⟨#[32]⟩:ByteArray)=⟨S1.toArray⟩:=by rw [<-hS1];exact zaa S [32]
       obtain ⟨S2,hS2⟩:∃x,S1++[40]=x:=⟨_,rfl⟩
       have ccS2:(⟨S1.toArray⟩++⟨#[40]⟩:ByteArray)=⟨S2.toArray⟩:=by rw [<-hS2];exact zaa S1 [40]
       obtain ⟨S3,hS3⟩:∃x,S2++W=x:=⟨_,rfl⟩
       have ccS3:(⟨S2.toArray⟩++⟨W.toArray⟩:ByteArray)=⟨S3.toArray⟩:=by rw [<-hS3];exact zaa S2 W
       obtain ⟨S4,hS4⟩:∃x,S3++[41]=x:=⟨_,rfl⟩
       have ccS4:(⟨S3.toArray⟩++⟨#[41]⟩:ByteArray)=⟨S4.toArray⟩:=by rw [<-hS4];exact zaa S3 [41]
       obtain ⟨S5,hS5⟩:∃x,S4++[42]=x:=⟨_,rfl⟩
       have ccS5:(⟨S4.toArray⟩++⟨#[42]⟩:ByteArray)=⟨S5.toArray⟩:=by rw [<-hS5];exact zaa S4 [42]
       obtain ⟨S6,hS6⟩:∃x,S5++D=x:=⟨_,rfl⟩
       have ccS6:(⟨S5.toArray⟩++⟨D.toArray⟩:ByteArray)=⟨S6.toArray⟩:=by rw [<-hS6];exact zaa S5 D
       have aa:=Za (show S6++moreW (k+1) r=wT t from by
        rw [<-ab,<-hS6,<-hS5,<-hS4,<-hS3,<-hS2,<-hS1,ad,af,if_neg hk0,if_pos hmn]
        simp)
       have lS6:S6.length<=1000000:=by
        have h9:=congrArg List.length aa.out
        rw [Zb] at h9
        omega
       have lD:D.length<=1000000:=by
        have h9:=congrArg List.length hS6
        rw [Zb] at h9
        omega
       have lS5:S5.length<=1000000:=by
        have h9:=congrArg List.length hS6
        rw [Zb] at h9
        omega
       have lS4:S4.length<=1000000:=by
        have h9:=congrArg List.length hS5
        rw [Zb] at h9
        omega
       have lS3:S3.length<=1000000:=by
        have h9:=congrArg List.length hS4
        rw [Zb] at h9
        omega
       have lW:W.length<=1000000:=by
        have h9:=congrArg List.length hS3
        rw [Zb] at h9
        omega
       have lS2:S2.length<=1000000:=by
        have h9:=congrArg List.length hS3
        rw [Zb] at h9
        omega
       have lS1:S1.length<=1000000:=by
        have h9:=congrArg List.length hS2
        rw [Zb] at h9
        omega
       have lS:S.length<=1000000:=by
        have h9:=congrArg List.length hS1
        rw [Zb] at h9
        omega
       clear hS1 hS2 hS3 hS4 hS5 hS6 ab ad af hk0
       go_wp2_with (first
        | (go_at_call 75;((with_reducible refine (HC.out _ zx).mono ?_);rintro e w1 ⟨rfl,hq1⟩;rw [HW.out];obtain ⟨an,ao,ap⟩:=(Zi ag hq1).facts;obtain ⟨hg1,ai,aj⟩:=hq1.facts))
        | (go_at_call 42;((with_reducible refine (al.out _).mono ?_);rintro e w2 ⟨rfl,hq2⟩;obtain ⟨aq,ar,au⟩:=hq2.facts)))
       go_roundw
       case rel =>
        have ac:Ext wr w2:=zx
        refine ⟨k+1,S6,r,by go_num,rfl,by omega,by omega,Za ⟨HF.out,aa.out,ag.trans ac,fun h=>?_⟩⟩
        refine ⟨b,off,rfl,Zo ae (Zl ac),?_⟩
        rw [show off+(k+1)*6=off+k*6+6 by omega]
        exact ah.out.ext ac ae
       case measure=>simp [intOf];omega
      ·obtain ⟨S1,hS1⟩:∃x,S++[32]=x:=⟨_,rfl⟩
       have ccS1:(⟨S.toArray⟩++⟨#[32]⟩:ByteArray)=⟨S1.toArray⟩:=by rw [<-hS1];exact zaa S [32]
       obtain ⟨S2,hS2⟩:∃x,S1++[40]=x:=⟨_,rfl⟩
       have ccS2:(⟨S1.toArray⟩++⟨#[40]⟩:ByteArray)=⟨S2.toArray⟩:=by rw [<-hS2];exact zaa S1 [40]
       obtain ⟨S3,hS3⟩:∃x,S2++W=x:=⟨_,rfl⟩
       have ccS3:(⟨S2.toArray⟩++⟨W.toArray⟩:ByteArray)=⟨S3.toArray⟩:=by rw [<-hS3];exact zaa S2 W
       obtain ⟨S4,hS4⟩:∃x,S3++[41]=x:=⟨_,rfl⟩
       have ccS4:(⟨S3.toArray⟩++⟨#[41]⟩:ByteArray)=⟨S4.toArray⟩:=by rw [<-hS4];exact zaa S3 [41]
       have aa:=Za (show S4++moreW (k+1) r=wT t from by
        rw [<-ab,<-hS4,<-hS3,<-hS2,<-hS1,ad,af,if_neg hk0,if_neg hmn]
        simp)
       have lS4:S4.length<=1000000:=by
        have h9:=congrArg List.length aa.out
        rw [Zb] at h9
        omega
       have lS3:S3.length<=1000000:=by
        have h9:=congrArg List.length hS4
        rw [Zb] at h9
        omega
       have lW:W.length<=1000000:=by
        have h9:=congrArg List.length hS3
        rw [Zb] at h9
        omega
       have lS2:S2.length<=1000000:=by
        have h9:=congrArg List.length hS3
        rw [Zb] at h9
        omega
       have lS1:S1.length<=1000000:=by
        have h9:=congrArg List.length hS2
        rw [Zb] at h9
        omega
       have lS:S.length<=1000000:=by
        have h9:=congrArg List.length hS1
        rw [Zb] at h9
        omega
       clear hS1 hS2 hS3 hS4 ab ad af hk0
       go_wp2_with (first
        | (go_at_call 75;((with_reducible refine (HC.out _ zx).mono ?_);rintro e w1 ⟨rfl,hq1⟩;rw [HW.out];obtain ⟨an,ao,ap⟩:=(Zi ag hq1).facts;obtain ⟨hg1,ai,aj⟩:=hq1.facts)))
       go_roundw
       case rel =>
        have ac:Ext wr w1:=zx
        refine ⟨k+1,S4,r,by go_num,rfl,by omega,by omega,Za ⟨HF.out,aa.out,ag.trans ac,fun h=>?_⟩⟩
        refine ⟨b,off,rfl,Zo ae (Zl ac),?_⟩
        rw [show off+(k+1)*6=off+k*6+6 by omega]
        exact ah.out.ext ac ae
       case measure=>simp [intOf];omega
    ·obtain rfl:=zas (t:=g) (by omega)
     obtain rfl:n'=0:=by omega
     have am:=Za (show allB [⟨ck,cp,ca,cb⟩]=true by simp [allB,av rfl])
     obtain ⟨W,hW⟩:∃W,textL [⟨ck,cp,ca,cb⟩]=W:=⟨_,rfl⟩
     have ad:headW ⟨ck,cp,ca,cb⟩ .nil=W:=by rw [<-hW];rfl
     have HW:=Za hW
     clear hW av
     by_cases hk0:k=0
     ·have qz:¬((0:Int)<(k:Int)):=by omega
      by_cases hmn:(1:Int)<(NN:Int)
      ·obtain ⟨S4,hS4⟩:∃x,S++W=x:=⟨_,rfl⟩
       have ccS4:(⟨S.toArray⟩++⟨W.toArray⟩:ByteArray)=⟨S4.toArray⟩:=by rw [<-hS4];exact zaa S W
       obtain ⟨S5,hS5⟩:∃x,S4++[42]=x:=⟨_,rfl⟩
       have ccS5:(⟨S4.toArray⟩++⟨#[42]⟩:ByteArray)=⟨S5.toArray⟩:=by rw [<-hS5];exact zaa S4 [42]
       obtain ⟨S6,hS6⟩:∃x,S5++D=x:=⟨_,rfl⟩
       have ccS6:(⟨S5.toArray⟩++⟨D.toArray⟩:ByteArray)=⟨S6.toArray⟩:=by rw [<-hS6];exact zaa S5 D
       have aa:=Za (show S6++moreW (k+1) r=wT t from by
        rw [<-ab,<-hS6,<-hS5,<-hS4,ad,af,if_pos hk0,if_pos hmn]
        simp)
       have lS6:S6.length<=1000000:=by
        have h9:=congrArg List.length aa.out
        rw [Zb] at h9
        omega
       have lD:D.length<=1000000:=by
        have h9:=congrArg List.length hS6
        rw [Zb] at h9
        omega
       have lS5:S5.length<=1000000:=by
        have h9:=congrArg List.length hS6
        rw [Zb] at h9
        omega
       have lS4:S4.length<=1000000:=by
        have h9:=congrArg List.length hS5
        rw [Zb] at h9
        omega
       have lW:W.length<=1000000:=by
        have h9:=congrArg List.length hS4
        rw [Zb] at h9
        omega
       have lS:S.length<=1000000:=by
        have h9:=congrArg List.length hS4
        rw [Zb] at h9
        omega
       clear hS4 hS5 hS6 ab ad af hk0
       go_wp2_with (first
        | (go_at_call 108;((with_reducible refine (zbd 1 1 _ [⟨ck,cp,ca,cb⟩] _ (zb1 (zfj (by simp))) (by omega) am.out).mono ?_);rintro e w1 ⟨rfl,hq1⟩;rw [HW.out];have ak:Ext wr w1:=Zi zx hq1;obtain ⟨hg1,ai,aj⟩:=ak.facts))
        | (go_at_call 42;((with_reducible refine (al.out _).mono ?_);rintro e w2 ⟨rfl,hq2⟩;obtain ⟨aq,ar,au⟩:=hq2.facts)))
       go_roundw
       case rel =>
        have ac:Ext wr w2:=zx
        refine ⟨k+1,S6,r,by go_num,rfl,by omega,by omega,Za ⟨HF.out,aa.out,ag.trans ac,fun h=>?_⟩⟩
        refine ⟨b,off,rfl,Zo ae (Zl ac),?_⟩
        rw [show off+(k+1)*6=off+k*6+6 by omega]
        exact ah.out.ext ac ae
       case measure=>simp [intOf];omega
      ·obtain ⟨S4,hS4⟩:∃x,S++W=x:=⟨_,rfl⟩
       have ccS4:(⟨S.toArray⟩++⟨W.toArray⟩:ByteArray)=⟨S4.toArray⟩:=by rw [<-hS4];exact zaa S W
       have aa:=Za (show S4++moreW (k+1) r=wT t from by
        rw [<-ab,<-hS4,ad,af,if_pos hk0,if_neg hmn]
        simp)
       have lS4:S4.length<=1000000:=by
        have h9:=congrArg List.length aa.out
        rw [Zb] at h9
        omega
       have lW:W.length<=1000000:=by
        have h9:=congrArg List.length hS4
        rw [Zb] at h9
        omega
       have lS:S.length<=1000000:=by
        have h9:=congrArg List.length hS4
        rw [Zb] at h9
        omega
       clear hS4 ab ad af hk0
       go_wp2_with (first
        | (go_at_call 108;((with_reducible refine (zbd 1 1 _ [⟨ck,cp,ca,cb⟩] _ (zb1 (zfj (by simp))) (by omega) am.out).mono ?_);rintro e w1 ⟨rfl,hq1⟩;rw [HW.out];have ak:Ext wr w1:=Zi zx hq1;obtain ⟨hg1,ai,aj⟩:=ak.facts)))
       go_roundw
       case rel =>
        have ac:Ext wr w1:=zx
        refine ⟨k+1,S4,r,by go_num,rfl,by omega,by omega,Za ⟨HF.out,aa.out,ag.trans ac,fun h=>?_⟩⟩
        refine ⟨b,off,rfl,Zo ae (Zl ac),?_⟩
        rw [show off+(k+1)*6=off+k*6+6 by omega]
        exact ah.out.ext ac ae
       case measure=>simp [intOf];omega
     ·have qz:(0:Int)<(k:Int):=by omega
      by_cases hmn:(1:Int)<(NN:Int)
      ·obtain ⟨S1,hS1⟩:∃x,S++[32]=x:=⟨_,rfl⟩
       have ccS1:(⟨S.toArray⟩++⟨#[32]⟩:ByteArray)=⟨S1.toArray⟩:=by rw [<-hS1];exact zaa S [32]
       obtain ⟨S4,hS4⟩:∃x,S1++W=x:=⟨_,rfl⟩
       have ccS4:(⟨S1.toArray⟩++⟨W.toArray⟩:ByteArray)=⟨S4.toArray⟩:=by rw [<-hS4];exact zaa S1 W
       obtain ⟨S5,hS5⟩:∃x,S4++[42]=x:=⟨_,rfl⟩
       have ccS5:(⟨S4.toArray⟩++⟨#[42]⟩:ByteArray)=⟨S5.toArray⟩:=by rw [<-hS5];exact zaa S4 [42]
       obtain ⟨S6,hS6⟩:∃x,S5++D=x:=⟨_,rfl⟩
       have ccS6:(⟨S5.toArray⟩++⟨D.toArray⟩:ByteArray)=⟨S6.toArray⟩:=by rw [<-hS6];exact zaa S5 D
       have aa:=Za (show S6++moreW (k+1) r=wT t from by
        rw [<-ab,<-hS6,<-hS5,<-hS4,<-hS1,ad,af,if_neg hk0,if_pos hmn]
        simp)
       have lS6:S6.length<=1000000:=by
        have h9:=congrArg List.length aa.out
        rw [Zb] at h9
        omega
       have lD:D.length<=1000000:=by
        have h9:=congrArg List.length hS6
        rw [Zb] at h9
        omega
       have lS5:S5.length<=1000000:=by
        have h9:=congrArg List.length hS6
        rw [Zb] at h9
        omega
       have lS4:S4.length<=1000000:=by
        have h9:=congrArg List.length hS5
        rw [Zb] at h9
        omega
       have lW:W.length<=1000000:=by
        have h9:=congrArg List.length hS4
        rw [Zb] at h9
        omega
       have lS1:S1.length<=1000000:=by
        have h9:=congrArg List.length hS4
        rw [Zb] at h9
        omega
       have lS:S.length<=1000000:=by
        have h9:=congrArg List.length hS1
        rw [Zb] at h9
        omega
       clear hS1 hS4 hS5 hS6 ab ad af hk0
       go_wp2_with (first
        | (go_at_call 108;((with_reducible refine (zbd 1 1 _ [⟨ck,cp,ca,cb⟩] _ (zb1 (zfj (by simp))) (by omega) am.out).mono ?_);rintro e w1 ⟨rfl,hq1⟩;rw [HW.out];have ak:Ext wr w1:=Zi zx hq1;obtain ⟨hg1,ai,aj⟩:=ak.facts))
        | (go_at_call 42;((with_reducible refine (al.out _).mono ?_);rintro e w2 ⟨rfl,hq2⟩;obtain ⟨aq,ar,au⟩:=hq2.facts)))
       go_roundw
       case rel =>
        have ac:Ext wr w2:=zx
        refine ⟨k+1,S6,r,by go_num,rfl,by omega,by omega,Za ⟨HF.out,aa.out,ag.trans ac,fun h=>?_⟩⟩
        refine ⟨b,off,rfl,Zo ae (Zl ac),?_⟩
        rw [show off+(k+1)*6=off+k*6+6 by omega]
        exact ah.out.ext ac ae
       case measure=>simp [intOf];omega
      ·obtain ⟨S1,hS1⟩:∃x,S++[32]=x:=⟨_,rfl⟩
       have ccS1:(⟨S.toArray⟩++⟨#[32]⟩:ByteArray)=⟨S1.toArray⟩:=by rw [<-hS1];exact zaa S [32]
       obtain ⟨S4,hS4⟩:∃x,S1++W=x:=⟨_,rfl⟩
       have ccS4:(⟨S1.toArray⟩++⟨W.toArray⟩:ByteArray)=⟨S4.toArray⟩:=by rw [<-hS4];exact zaa S1 W
       have aa:=Za (show S4++moreW (k+1) r=wT t from by
        rw [<-ab,<-hS4,<-hS1,ad,af,if_neg hk0,if_neg hmn]
        simp)
       have lS4:S4.length<=1000000:=by
        have h9:=congrArg List.length aa.out
        rw [Zb] at h9
        omega
       have lW:W.length<=1000000:=by
        have h9:=congrArg List.length hS4
        rw [Zb] at h9
        omega
       have lS1:S1.length<=1000000:=by
        have h9:=congrArg List.length hS4
        rw [Zb] at h9
        omega
       have lS:S.length<=1000000:=by
        have h9:=congrArg List.length hS1
        rw [Zb] at h9
        omega
       clear hS1 hS4 ab ad af hk0
       go_wp2_with (first
        | (go_at_call 108;((with_reducible refine (zbd 1 1 _ [⟨ck,cp,ca,cb⟩] _ (zb1 (zfj (by simp))) (by omega) am.out).mono ?_);rintro e w1 ⟨rfl,hq1⟩;rw [HW.out];have ak:Ext wr w1:=Zi zx hq1;obtain ⟨hg1,ai,aj⟩:=ak.facts)))
       go_roundw
       case rel =>
        have ac:Ext wr w1:=zx
        refine ⟨k+1,S4,r,by go_num,rfl,by omega,by omega,Za ⟨HF.out,aa.out,ag.trans ac,fun h=>?_⟩⟩
        refine ⟨b,off,rfl,Zo ae (Zl ac),?_⟩
        rw [show off+(k+1)*6=off+k*6+6 by omega]
        exact ah.out.ext ac ae
       case measure=>simp [intOf];omega
   ·obtain rfl:=zas (t:=rest) (by omega)
    simp only [Tms.cnt] at hcnt
    obtain rfl:k=n:=by omega
    have HS:=Za (show S=wT t from by have h9:=HH.out.2.1;rw [show moreW k Tms.nil=[] from rfl,ZC] at h9;exact h9)
    go_wp2_with fail
    go_ret
    exact ⟨by rw [HS.out];rfl,HH.out.2.2.1⟩
theorem zjj (t:Tms) (ht:t.size<=5000) (A:Option Addr) (n cap:Nat) (w:World) (hv:Tv w A n t) :
  Calls Tryz.prog 43 #[.slice A n cap] w fun e w'=>e = .returned (.tuple #[.string ⟨(ttextV t).toArray⟩,.int .i64 (ttextE t)])/\Ext w w':=by
 have HV:=Za hv
 clear hv
 by_cases hc:tchkE t=0
 ·obtain ⟨-,hf, -⟩:True/\fineT t=true/\True:=⟨trivial,(zaN hc).2.2,trivial⟩
  have HC:=Za (fun (w':World) (hx:Ext w w')=>zcY 5000 (Zg _) t ht hf A n cap w' (HV.out.ext hx))
  have aa:(wT t).length<=1000000:=by have h1:=zlt hf;omega
  have HK:=Za hc
  obtain ⟨W,hW⟩:∃W,wT t=W:=⟨_,rfl⟩
  rw [hW] at HC aa
  by_cases hl:3000<W.length
  ·have HE:=Za (show ttextE t=4/\ttextV t=[] from by
    have h1:ttextE t=4:=by rw [ttextE,if_neg (by simp [hc]),if_pos (by rw [hW];exact hl)]
    exact ⟨h1,by rw [ttextV,h1,if_neg (by omega)]⟩)
   have ab:(3000:Int)<(W.length:Int):=by omega
   clear hc hW
   go_enter Tryz.func43,Tryz.ntmps43
   go_wp2_with (first
    | (go_at_call 74;((with_reducible refine (zbI t ht A n cap _ (HV.out.ext zx)).mono ?_);rintro e w1 ⟨rfl,hq1⟩;rw [HK.out]))
    | (go_at_call 75;((with_reducible refine (HC.out _ zx).mono ?_);rintro e w2 ⟨rfl,hq2⟩)))
   go_ret2
   exact ⟨by rw [HE.out.1,HE.out.2];rfl,zx⟩
  ·have HE:=Za (show ttextE t=0/\ttextV t=W from by
    have h1:ttextE t=0:=by rw [ttextE,if_neg (by simp [hc]),if_neg (by rw [hW];exact hl)]
    exact ⟨h1,by rw [ttextV,h1,if_pos rfl,hW]⟩)
   have ab:¬(3000:Int)<(W.length:Int):=by omega
   clear hc hW
   go_enter Tryz.func43,Tryz.ntmps43
   go_wp2_with (first
    | (go_at_call 74;((with_reducible refine (zbI t ht A n cap _ (HV.out.ext zx)).mono ?_);rintro e w1 ⟨rfl,hq1⟩;rw [HK.out]))
    | (go_at_call 75;((with_reducible refine (HC.out _ zx).mono ?_);rintro e w2 ⟨rfl,hq2⟩)))
   go_ret2
   exact ⟨by rw [HE.out.1,HE.out.2];rfl,zx⟩
 ·have HE:=Za (show ttextE t=tchkE t/\ttextV t=[] from by
   have h1:ttextE t=tchkE t:=by rw [ttextE,if_pos hc]
   exact ⟨h1,by rw [ttextV,h1,if_neg hc]⟩)
  generalize hq:tchkE t=q at *
  have HQ:=Za hq
  have hb:(q != 0)=true:=by simpa using hc
  clear hc hq
  go_enter Tryz.func43,Tryz.ntmps43
  go_wp2_with (first
   | (go_at_call 74;((with_reducible refine (zbI t ht A n cap _ (HV.out.ext zx)).mono ?_);rintro e w1 ⟨rfl,hq1⟩;rw [HQ.out])))
  go_ret2
  exact ⟨by rw [HE.out.1,HE.out.2];rfl,zx⟩
end Go.Proofs.YtkneghkbgingdaaGreatDoor
