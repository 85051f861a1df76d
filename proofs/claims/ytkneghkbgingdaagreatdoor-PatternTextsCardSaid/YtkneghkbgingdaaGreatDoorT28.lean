/- The reference's term: its walk. -/
import Derived.Test.YtkneghkbgingdaaGreatDoorT27
import Derived.Deep.CutBlock
namespace Go.Proofs.YtkneghkbgingdaaGreatDoor
set_option maxHeartbeats 16000000
set_option maxRecDepth 100000
open Go.RowKit Go.ChangeShapes Go.WideShapes Go.Joins
theorem zoO {x:UInt8} (h:isDg x=true):(48:Int)<=(x.toNat:Int)/\(x.toNat:Int)<=57:=by
 unfold isDg at h
 simp only [Zt,ZG] at h
 have h1:=UInt8.le_iff_toNat_le.1 h.1
 have h2:=UInt8.le_iff_toNat_le.1 h.2
 rw [show (48:UInt8).toNat=48 from rfl] at h1
 rw [show (57:UInt8).toNat=57 from rfl] at h2
 omega
theorem zoN {x:UInt8} (h:isDg x=false):(x.toNat:Int)<48∨57<(x.toNat:Int):=by
 by_cases h1:x.toNat<48
 ·exact .inl (by omega)
 ·by_cases h2:57<x.toNat
  ·exact .inr (by omega)
  ·exfalso
   have:isDg x=true:=by
    unfold isDg
    simp only [Zt,ZG]
    refine ⟨UInt8.le_iff_toNat_le.2 ?_,UInt8.le_iff_toNat_le.2 ?_⟩
    ·rw [show (48:UInt8).toNat=48 from rfl];omega
    ·rw [show (57:UInt8).toNat=57 from rfl];omega
   rw [h] at this
   cases this
theorem zgM {s:List UInt8} {c:St} (h:parseL s=some [c]):0<=c.k/\c.k<=255:=by
 obtain ⟨_,h1,_⟩:=zcn.1 h
 have h2:=(za8 h1).2.1
 have h3:okSt c=true:=by simpa [allB] using h2
 have h4:=zbe (zml h3).1
 omega
def tailB (s:List UInt8) (j:Nat):Bool:=decide (0<j/\j<s.length/\s.getD (j-1) 0=42)
def grpB (S:List UInt8) (d:Nat):Bool:=decide (1<S.length/\S.getD 0 0=40/\S.getD (S.length-1) 0=41/\0<d)
theorem zoz {x:UInt8} {k:UInt8} (h:x≠k):((x.toNat:Int)==(k.toNat:Int))=false:=by
 rw [Ze]
 intro e
 exact h (ZQ.1 (by omega))
theorem zk1 (k d:Nat) (s:List UInt8) (w:World) (hd:d<=20) (hl:s.length<=10000)
  (HL:∀(f2:Nat),f2<k->∀(d2:Nat) (s2:List UInt8) (w2:World) (di2:Int),di2=(d2:Int)->d2<=20->s2.length<=10000->3*s2.length+3<=f2->Calls Tryz.prog 150 #[.string ⟨s2.toArray⟩,.int .i64 di2] w2 (RListR (listP f2 d2 s2) w2))
  (hf:3*s.length+2<=k):Calls Tryz.prog 177 #[.string ⟨s.toArray⟩,.int .i64 (d:Int)] w (RTermR (rlT k d s) w):=by
 obtain ⟨k,rfl⟩:∃k',k=k'+2:=⟨k-2,by omega⟩
 have aw:=Za HL
 have ax:=Za (SB.start w)
 have hd0:(0:Int)<=(d:Int):=by omega
 clear HL
 go_enter Tryz.func177,Tryz.ntmps177
 go_upto_block 0 with fail
 go_cut [7] (fun a wx=>∃j:Nat,a = .int .i64 (j:Int)/\j<=s.length/\Hid (∀y∈s.drop j,isDg y=true)/\Hid (j=0∨isDg (s.getD (j-1) 0)=false)/\Hid (SB w zsR none .nil wx))
 case first =>
  go_wp2_with fail
  go_loopw [7] (fun i wr=>∃j:Nat,i = .int .i64 (j:Int)/\j<=s.length/\Hid (∀y∈s.drop j,isDg y=true)/\Hid (SB w zsR none .nil wr)) (fun i _=>(intOf i).toNat)
  case atStart=>exact ⟨s.length,rfl,Zg _,Za (by simp),ax⟩
  case round =>
   obtain ⟨j,rfl,hj,HD,HS⟩:=hrel
   by_cases h0:j=0
   ·subst h0
    go_wp2_with fail
    go_meet
    exact ⟨0,rfl,by omega,HD,Za (.inl rfl),HS⟩
   ·obtain ⟨j,rfl⟩:∃j',j=j'+1:=⟨j-1,by omega⟩
    have q1:(0:Int)<((j+1:Nat):Int):=by omega
    have q0:(0:Int)<=(j:Int):=by omega
    have q2:(j:Int)<(s.length:Int):=by omega
    have i1:=Zh (((j+1:Nat):Int)-1) (by omega)
    have i2:((j+1:Nat):Int)-1=(j:Int):=by omega
    have h5:=zam s j
    obtain ⟨x,hx⟩:∃x,s.getD j 0=x:=⟨_,rfl⟩
    rw [hx] at h5
    have HX:=Za hx
    clear hx h0
    cases hdg:isDg x with
    | true =>
     obtain ⟨g1,g2⟩:=zoO hdg
     have HN:=Za (show ∀y∈s.drop j,isDg y=true from by
      rw [zjX (by omega),HX.out]
      intro y hy
      rcases ZI.1 hy with rfl | hy
      ·exact hdg
      ·exact HD.out y hy)
     clear hdg
     go_wp2_with fail
     go_roundw
     case rel=>exact ⟨j,by go_num,by omega,HN,HS⟩
     case measure=>simp [intOf] <;> omega
    | false =>
     have HN:=Za (show j+1=0∨isDg (s.getD (j+1-1) 0)=false from .inr (by rw [Nat.add_sub_cancel,HX.out];exact hdg))
     rcases zoN hdg with g1 | g1
     ·have g2:¬((48:Int)<=(x.toNat:Int)):=by omega
      clear hdg
      go_wp2_with fail
      go_meet
      exact ⟨j+1,rfl,hj,HD,HN,HS⟩
     ·have g2:(48:Int)<=(x.toNat:Int):=by omega
      have g3:¬((x.toNat:Int)<=57):=by omega
      clear hdg
      go_wp2_with fail
      go_meet
      exact ⟨j+1,rfl,hj,HD,HN,HS⟩
 case rest =>
  obtain ⟨j,rfl,hj,HD,HE,HS⟩:=hcut
  have q0:(0:Int)<=(j:Int):=by omega
  go_upto_region 5 with fail
  go_cut [49] (fun c wx=>c = .bool (tailB s j)/\Hid (SB w zsR none .nil wx))
  case first =>
   by_cases h0:j=0
   ·subst h0
    have HB:=Za (show tailB s 0=false from ZF (by omega))
    go_wp2_with fail
    go_meet
    exact ⟨by rw [HB.out],HS⟩
   ·have q1:(0:Int)<(j:Int):=by omega
    by_cases h1:j=s.length
    ·have HB:=Za (show tailB s j=false from ZF (by omega))
     have q2:¬((j:Int)<(s.length:Int)):=by omega
     clear h0 h1
     go_wp2_with fail
     go_meet
     exact ⟨by rw [HB.out],HS⟩
    ·have q2:(j:Int)<(s.length:Int):=by omega
     obtain ⟨j,rfl⟩:∃j',j=j'+1:=⟨j-1,by omega⟩
     have i1:=Zh (((j+1:Nat):Int)-1) (by omega)
     have i2:((j+1:Nat):Int)-1=(j:Int):=by omega
     have q3:(0:Int)<=(j:Int):=by omega
     have q4:(j:Int)<(s.length:Int):=by omega
     have h5:=zam s j
     obtain ⟨x,hx⟩:∃x,s.getD j 0=x:=⟨_,rfl⟩
     rw [hx] at h5
     have HX:=Za hx
     clear hx h0
     by_cases af:x=42
     ·subst af
      have HB:=Za (show tailB s (j+1)=true from ZW ⟨by omega,by omega,by rw [Nat.add_sub_cancel];exact HX.out⟩)
      clear h1
      go_wp2_with fail
      go_meet
      exact ⟨by rw [HB.out],HS⟩
     ·have HB:=Za (show tailB s (j+1)=false from ZF (fun h9=>af (by rw [<-HX.out];exact h9.2.2)))
      have b42:((x.toNat:Int)==42)=false:=zoz (k:=42) af
      clear h1 af
      go_wp2_with fail
      go_meet
      exact ⟨by rw [HB.out],HS⟩
  case rest =>
   clear HS
   obtain ⟨rfl,HS⟩:=hcut
   go_upto_if 49 with fail
   go_cut [0] (fun a wx=>∃(S:List UInt8) (n:Nat),a = .string ⟨S.toArray⟩/\S.length<=s.length/\Hid (rlT (k+2) d s=rlB (k+1) d (n:Int) S)/\Hid (SB w #[.int .i64 (n:Int),.int .u8 0,.bool false,.int .i64 0,.int .i64 0,.slice none 0 0] none .nil wx))
   case first =>
    cases hb:tailB s j with
    | false =>
     have HR:=Za (zpa (f:=k+1) (d:=d) hj HD.out HE.out (by
      have h9:=of_decide_eq_false hb
      by_cases e1:j=0
      ·exact .inl e1
      ·by_cases e2:j=s.length
       ·exact .inr (.inl e2)
       ·exact .inr (.inr (fun e3=>h9 ⟨by omega,by omega,e3⟩))))
     clear hb
     go_wp2_with fail
     go_meet
     exact ⟨s,1,rfl,Zg _,HR,HS⟩
    | true =>
     obtain ⟨h0,h1,af⟩:=of_decide_eq_true hb
     have ab:=zor (f:=k+1) (d:=d) h0 h1 HD.out af
     have q1:(j:Int)<=(s.length:Int):=by omega
     obtain ⟨j,rfl⟩:∃j',j=j'+1:=⟨j-1,by omega⟩
     rw [Nat.add_sub_cancel] at ab
     have i1:=Zh (((j+1:Nat):Int)-1) (by omega)
     have i2:((j+1:Nat):Int)-1=(j:Int):=by omega
     have q3:(0:Int)<=(j:Int):=by omega
     have q4:(j:Int)<=(s.length:Int):=by omega
     have aB:(⟨s.toArray⟩:ByteArray).extract (j+1) s.length=⟨(s.drop (j+1)).toArray⟩:=zai s (j+1) s.length (Zg _)
     have aA:(⟨s.toArray⟩:ByteArray).extract 0 j=⟨(s.take j).toArray⟩:=zar s j
     obtain ⟨D,hD⟩:∃D,s.drop (j+1)=D:=⟨_,rfl⟩
     obtain ⟨S,hS⟩:∃S,s.take j=S:=⟨_,rfl⟩
     have ap:S.length<=s.length:=by rw [<-hS,Zx];omega
     have az:D.length<=100000:=by rw [<-hD,Zu];omega
     rw [hD] at aB
     rw [hS] at aA
     rw [hD,hS] at ab
     have al:=Za (fun (w':World)=>zae D az w')
     obtain ⟨y0,y1,y2,y3,y4,y5,xf,xz⟩:=SB.six HS.out
     have z0:=xf 0
     have z1:=xf 1
     have z2:=xf 2
     have z3:=xf 3
     have z4:=xf 4
     have z5:=xf 5
     clear xf
     obtain ⟨t0,t1,t2,t3,t4,t5,tf,tz⟩:=SB.res HS.out
     have v0:=tf 0
     have v1:=tf 1
     have v2:=tf 2
     have v3:=tf 3
     have v4:=tf 4
     have v5:=tf 5
     clear tf
     clear hD hS hb af h0 h1
     cases hn:numS D with
     | none =>
      have HR:=Za (show rlT (k+2) d s=none by rw [ab,hn])
      have HQ:=Za hn
      clear ab hn
      go_wp2_with (first
       | (go_at_call 83;((with_reducible refine (al.out _).mono ?_);rintro e w1 ⟨rfl,hq1⟩;rw [show numN D=0 from by unfold numN;rw [HQ.out];rfl,show (numS D).isSome=false from by rw [HQ.out];rfl];have aa:=Za (HS.out.ext hq1);obtain ⟨y0,y1,y2,y3,y4,y5,xf,xz⟩:=SB.six aa.out;have z0:=xf 0;have z1:=xf 1;have z2:=xf 2;have z3:=xf 3;have z4:=xf 4;have z5:=xf 5;clear xf;obtain ⟨t0,t1,t2,t3,t4,t5,tf,tz⟩:=SB.res aa.out;have v0:=tf 0;have v1:=tf 1;have v2:=tf 2;have v3:=tf 3;have v4:=tf 4;have v5:=tf 5;clear tf)))
      have h9:=(aa.out).fin (.int .i64 1) (.int .u8 0) (.bool false) (.int .i64 0) (.int .i64 0) (.slice none 0 0)
      obtain ⟨k1,k2,r0,r1,r2,r3,r4,r5⟩:=h9
      unfold sixR at k1 k2 r0 r1 r2 r3 r4 r5
      exact bodyPost_ret (v := .tuple #[.agg #[.int .i64 1,.int .u8 0,.bool false,.int .i64 0,.int .i64 0,.slice none 0 0],.bool false]) (by simp [results,Tryz.f177,go_sem,r0,r1,r2,r3,r4,r5]) rfl (RTermR.no HR.out k1)
     | some n =>
      have HQ:=Za hn
      by_cases h2:n<2
      ·have HR:=Za (show rlT (k+2) d s=none by rw [ab,hn];exact if_pos h2)
       have ay:(n:Int)<2:=by omega
       clear ab hn
       go_wp2_with (first
        | (go_at_call 83;((with_reducible refine (al.out _).mono ?_);rintro e w1 ⟨rfl,hq1⟩;rw [show numN D=(n:Int) from by unfold numN;rw [HQ.out];rfl,show (numS D).isSome=true from by rw [HQ.out];rfl];have aa:=Za (HS.out.ext hq1);obtain ⟨y0,y1,y2,y3,y4,y5,xf,xz⟩:=SB.six aa.out;have z0:=xf 0;have z1:=xf 1;have z2:=xf 2;have z3:=xf 3;have z4:=xf 4;have z5:=xf 5;clear xf;obtain ⟨t0,t1,t2,t3,t4,t5,tf,tz⟩:=SB.res aa.out;have v0:=tf 0;have v1:=tf 1;have v2:=tf 2;have v3:=tf 3;have v4:=tf 4;have v5:=tf 5;clear tf)))
       have h9:=(aa.out).fin (.int .i64 1) (.int .u8 0) (.bool false) (.int .i64 0) (.int .i64 0) (.slice none 0 0)
       obtain ⟨k1,k2,r0,r1,r2,r3,r4,r5⟩:=h9
       unfold sixR at k1 k2 r0 r1 r2 r3 r4 r5
       exact bodyPost_ret (v := .tuple #[.agg #[.int .i64 1,.int .u8 0,.bool false,.int .i64 0,.int .i64 0,.slice none 0 0],.bool false]) (by simp [results,Tryz.f177,go_sem,r0,r1,r2,r3,r4,r5]) rfl (RTermR.no HR.out k1)
      ·have HR:=Za (show rlT (k+2) d s=rlB (k+1) d (n:Int) S by rw [ab,hn];exact if_neg h2)
       have ay:¬((n:Int)<2):=by omega
       clear ab hn
       go_wp2_with (first
        | (go_at_call 83;((with_reducible refine (al.out _).mono ?_);rintro e w1 ⟨rfl,hq1⟩;rw [show numN D=(n:Int) from by unfold numN;rw [HQ.out];rfl,show (numS D).isSome=true from by rw [HQ.out];rfl];have aa:=Za (HS.out.ext hq1);obtain ⟨y0,y1,y2,y3,y4,y5,xf,xz⟩:=SB.six aa.out;have z0:=xf 0;have z1:=xf 1;have z2:=xf 2;have z3:=xf 3;have z4:=xf 4;have z5:=xf 5;clear xf;obtain ⟨t0,t1,t2,t3,t4,t5,tf,tz⟩:=SB.res aa.out;have v0:=tf 0;have v1:=tf 1;have v2:=tf 2;have v3:=tf 3;have v4:=tf 4;have v5:=tf 5;clear tf)))
       go_meet
       exact ⟨S,n,rfl,ap,HR,Za (aa.out.put 0 (.int .i64 (n:Int)))⟩
   case rest =>
    clear HS HD HE
    obtain ⟨S,n,rfl,ap,HR,HS⟩:=hcut
    clear q0 hj
    go_upto_region 11 with fail
    go_cut [89] (fun c wx=>c = .bool (grpB S d)/\Hid (SB w #[.int .i64 (n:Int),.int .u8 0,.bool false,.int .i64 0,.int .i64 0,.slice none 0 0] none .nil wx))
    case first =>
     by_cases h0:1<S.length
     ·have q1:(1:Int)<(S.length:Int):=by omega
      have h5:=zam S 0
      obtain ⟨x,hx⟩:∃x,S.getD 0 0=x:=⟨_,rfl⟩
      rw [hx] at h5
      have HX:=Za hx
      clear hx
      by_cases h40:x=40
      ·subst h40
       obtain ⟨m,hm⟩:∃m,S.length=m+1:=⟨S.length-1,by omega⟩
       have i1:=Zh ((S.length:Int)-1) (by omega)
       have i2:(S.length:Int)-1=(m:Int):=by omega
       have q3:(0:Int)<=(m:Int):=by omega
       have q4:(m:Int)<(S.length:Int):=by omega
       have h6:=zam S m
       obtain ⟨z,hz⟩:∃z,S.getD m 0=z:=⟨_,rfl⟩
       rw [hz] at h6
       have HZ:=Za (show S.getD (S.length-1) 0=z by rw [show S.length-1=m by omega];exact hz)
       clear hz
       have HM:=Za hm
       clear hm
       by_cases h41:z=41
       ·subst h41
        by_cases hdp:0<d
        ·have HB:=Za (show grpB S d=true from ZW ⟨h0,HX.out,HZ.out,hdp⟩)
         have q5:(0:Int)<(d:Int):=by omega
         go_wp2_with fail
         go_meet
         exact ⟨by rw [HB.out],HS⟩
        ·have HB:=Za (show grpB S d=false from ZF (fun h9=>hdp h9.2.2.2))
         have q5:¬((0:Int)<(d:Int)):=by omega
         go_wp2_with fail
         go_meet
         exact ⟨by rw [HB.out],HS⟩
       ·have HB:=Za (show grpB S d=false from ZF (fun h9=>h41 (by rw [<-HZ.out];exact h9.2.2.1)))
        have b41:((z.toNat:Int)==41)=false:=zoz (k:=41) h41
        clear h41
        go_wp2_with fail
        go_meet
        exact ⟨by rw [HB.out],HS⟩
      ·have HB:=Za (show grpB S d=false from ZF (fun h9=>h40 (by rw [<-HX.out];exact h9.2.1)))
       have b40:((x.toNat:Int)==40)=false:=zoz (k:=40) h40
       clear h40
       go_wp2_with fail
       go_meet
       exact ⟨by rw [HB.out],HS⟩
     ·have HB:=Za (show grpB S d=false from ZF (fun h9=>h0 h9.1))
      have q1:¬((1:Int)<(S.length:Int)):=by omega
      go_wp2_with fail
      go_meet
      exact ⟨by rw [HB.out],HS⟩
    case rest =>
     clear HS
     obtain ⟨rfl,HS⟩:=hcut
     obtain ⟨y0,y1,y2,y3,y4,y5,xf,xz⟩:=SB.six HS.out
     have z0:=xf 0
     have z1:=xf 1
     have z2:=xf 2
     have z3:=xf 3
     have z4:=xf 4
     have z5:=xf 5
     clear xf
     obtain ⟨t0,t1,t2,t3,t4,t5,tf,tz⟩:=SB.res HS.out
     have v0:=tf 0
     have v1:=tf 1
     have v2:=tf 2
     have v3:=tf 3
     have v4:=tf 4
     have v5:=tf 5
     clear tf
     go_upto_if 89 with fail
     go_cut [] (fun wx=>Hid (rlT (k+2) d s=match parseL S with | some [c]=>some ((n:Int),c,.nil) | _=>none)/\Hid (SB w #[.int .i64 (n:Int),.int .u8 0,.bool false,.int .i64 0,.int .i64 0,.slice none 0 0] none .nil wx))
     case first =>
      cases hb:grpB S d with
      | false =>
       have HN:=Za (HR.out.trans (zo9 (of_decide_eq_false hb)))
       clear hb
       go_wp2_with fail
       go_meet
       exact ⟨HN,HS⟩
      | true =>
       obtain ⟨h0,h1,h2,h3⟩:=of_decide_eq_true hb
       obtain ⟨d,rfl⟩:∃d',d=d'+1:=⟨d-1,by omega⟩
       have ab:=HR.out.trans (zop (f:=k) (n:=(n:Int)) h0 h1 h2 h3)
       rw [Nat.add_sub_cancel] at ab
       have ah:(⟨S.toArray⟩:ByteArray).extract 1 (S.length-1)=⟨((S.drop 1).take (S.length-1-1)).toArray⟩:=zg4 S 1 (S.length-1)
       obtain ⟨I,hI⟩:∃I,(S.drop 1).take (S.length-1-1)=I:=⟨_,rfl⟩
       have hIl:I.length+2=S.length:=by rw [<-hI,Zx,Zu];omega
       rw [hI] at ah ab
       obtain ⟨m,hm⟩:∃m,S.length-1=m:=⟨_,rfl⟩
       rw [hm] at ah
       have aq:S.length=m+1:=by omega
       have i1:=Zh ((S.length:Int)-1) (by omega)
       have i2:(S.length:Int)-1=(m:Int):=by omega
       have i3:=Zh (((d+1:Nat):Int)-1) (by omega)
       have i4:((d+1:Nat):Int)-1=(d:Int):=by omega
       have q3:(1:Int)<=(m:Int):=by omega
       have q4:(m:Int)<=(S.length:Int):=by omega
       have ak:=Za (fun (w':World) (di:Int) (hdi:di=(d:Int))=>aw.out k (by omega) d I w' di hdi (by omega) (by omega) (by omega))
       have HSM:=Za aq
       clear hI hm h0 h1 h2 h3 hb aq
       cases hq:listP k d I with
       | none =>
        have HN:=Za (show rlT (k+2) (d+1) s=none by rw [ab,hq];rfl)
        have HQ:=Za hq
        clear ab hq
        go_wp2_with (first
         | (go_at_call 150;((with_reducible refine (ak.out _ _ (by omega)).mono ?_);rintro e w1 ⟨hb,hn, -⟩;have h9:=hn HQ.out;subst h9;have aa:=Za (HS.out.ext hb);clear hb hn;obtain ⟨y0,y1,y2,y3,y4,y5,xf,xz⟩:=SB.six aa.out;have z0:=xf 0;have z1:=xf 1;have z2:=xf 2;have z3:=xf 3;have z4:=xf 4;have z5:=xf 5;clear xf;obtain ⟨t0,t1,t2,t3,t4,t5,tf,tz⟩:=SB.res aa.out;have v0:=tf 0;have v1:=tf 1;have v2:=tf 2;have v3:=tf 3;have v4:=tf 4;have v5:=tf 5;clear tf)))
        have h9:=(aa.out.put 5 (.slice none 0 0)).fin (.int .i64 (n:Int)) (.int .u8 0) (.bool false) (.int .i64 0) (.int .i64 0) (.slice none 0 0)
        obtain ⟨k1,k2,r0,r1,r2,r3,r4,r5⟩:=h9
        unfold sixR at k1 k2 r0 r1 r2 r3 r4 r5
        exact bodyPost_ret (v := .tuple #[.agg #[.int .i64 (n:Int),.int .u8 0,.bool false,.int .i64 0,.int .i64 0,.slice none 0 0],.bool false]) (by simp [results,Tryz.f177,go_sem,r0,r1,r2,r3,r4,r5]) rfl (RTermR.no HN.out k1)
       | some g =>
        have HQ:=Za hq
        by_cases hg0:g.cnt=0
        ·have HN:=Za (show rlT (k+2) (d+1) s=none by rw [ab,hq];exact if_pos hg0)
         have ao:=Za hg0
         have hg1:¬((0:Int)<(g.cnt:Int)):=by omega
         clear ab hq hg0
         go_wp2_with (first
          | (go_at_call 150;((with_reducible refine (ak.out _ _ (by omega)).mono ?_);rintro e w1 ⟨hb, -,hy⟩;obtain ⟨v9,rfl,ai⟩:=hy _ HQ.out;obtain ⟨A9,c9,rfl, -⟩:=zaA ai (by have:=ao.out;omega);have aa:=Za (HS.out.ext hb);clear hb hy ai;obtain ⟨y0,y1,y2,y3,y4,y5,xf,xz⟩:=SB.six aa.out;have z0:=xf 0;have z1:=xf 1;have z2:=xf 2;have z3:=xf 3;have z4:=xf 4;have z5:=xf 5;clear xf;obtain ⟨t0,t1,t2,t3,t4,t5,tf,tz⟩:=SB.res aa.out;have v0:=tf 0;have v1:=tf 1;have v2:=tf 2;have v3:=tf 3;have v4:=tf 4;have v5:=tf 5;clear tf)))
         have h9:=(aa.out.put 5 (.slice A9 g.cnt c9)).fin (.int .i64 (n:Int)) (.int .u8 0) (.bool false) (.int .i64 0) (.int .i64 0) (.slice A9 g.cnt c9)
         obtain ⟨k1,k2,r0,r1,r2,r3,r4,r5⟩:=h9
         unfold sixR at k1 k2 r0 r1 r2 r3 r4 r5
         exact bodyPost_ret (v := .tuple #[.agg #[.int .i64 (n:Int),.int .u8 0,.bool false,.int .i64 0,.int .i64 0,.slice A9 g.cnt c9],.bool false]) (by simp [results,Tryz.f177,go_sem,r0,r1,r2,r3,r4,r5];exact ao.out) rfl (RTermR.no HN.out k1)
        ·have HN:=Za (show rlT (k+2) (d+1) s=some ((n:Int),st0,g) by rw [ab,hq];exact if_neg hg0)
         have hgl:=zfA hq
         have hg1:(0:Int)<(g.cnt:Int):=by omega
         have hg2:0<g.cnt:=by omega
         clear ab hq
         go_wp2_with (first
          | (go_at_call 150;((with_reducible refine (ak.out _ _ (by omega)).mono ?_);rintro e w1 ⟨hb, -,hy⟩;obtain ⟨v9,rfl,ai⟩:=hy _ HQ.out;obtain ⟨A9,c9,rfl,au⟩:=zaA ai (by omega);have aa:=Za ((HS.out.ext hb).grp (au.mono fun b _ hk=>(by have h8:=(Zm.1 HS.out.bx).1;omega)));clear hb hy ai au;obtain ⟨y0,y1,y2,y3,y4,y5,xf,xz⟩:=SB.six aa.out;have z0:=xf 0;have z1:=xf 1;have z2:=xf 2;have z3:=xf 3;have z4:=xf 4;have z5:=xf 5;clear xf;obtain ⟨t0,t1,t2,t3,t4,t5,tf,tz⟩:=SB.res aa.out;have v0:=tf 0;have v1:=tf 1;have v2:=tf 2;have v3:=tf 3;have v4:=tf 4;have v5:=tf 5;clear tf)))
         have h9:=(aa.out.put 5 (.slice A9 g.cnt c9)).fin (.int .i64 (n:Int)) (.int .u8 0) (.bool false) (.int .i64 0) (.int .i64 0) (.slice A9 g.cnt c9)
         obtain ⟨k1,k2,r0,r1,r2,r3,r4,r5⟩:=h9
         unfold sixR at k1 k2 r0 r1 r2 r3 r4 r5
         exact bodyPost_ret (v := .tuple #[.agg #[.int .i64 (n:Int),.int .u8 0,.bool false,.int .i64 0,.int .i64 0,.slice A9 g.cnt c9],.bool true]) (by simp [results,Tryz.f177,go_sem,r0,r1,r2,r3,r4,r5]) rfl (RTermR.yes (c:=st0) HN.out k1 k2 (by decide))
     case rest =>
      clear HS y0 y1 y2 y3 y4 y5 z0 z1 z2 z3 z4 z5 t0 t1 t2 t3 t4 t5 v0 v1 v2 v3 v4 v5 xz tz
      obtain ⟨HN,HS⟩:=hcut
      obtain ⟨y0,y1,y2,y3,y4,y5,xf,xz⟩:=SB.six HS.out
      have z0:=xf 0
      have z1:=xf 1
      have z2:=xf 2
      have z3:=xf 3
      have z4:=xf 4
      have z5:=xf 5
      clear xf
      obtain ⟨t0,t1,t2,t3,t4,t5,tf,tz⟩:=SB.res HS.out
      have v0:=tf 0
      have v1:=tf 1
      have v2:=tf 2
      have v3:=tf 3
      have v4:=tf 4
      have v5:=tf 5
      clear tf
      have am:=Za (fun (w':World)=>zi4 S (by omega) w')
      cases hpl:parseL S with
      | none =>
       have ag:=Za (show rlT (k+2) d s=none by rw [HN.out,hpl])
       have ad:=Za (zcE hpl)
       clear hpl
       go_wp2_with (first
        | (go_at_call 88;((with_reducible refine (am.out _).mono ?_);rintro e w5 ⟨v5,rfl,ac,ae⟩;rw [ad.out.2] at ac;rw [ad.out.1];obtain ⟨A5,c5,rfl, -, -⟩:=zaf ac;have aa:=Za (HS.out.ext ae);clear ac ae;obtain ⟨y0,y1,y2,y3,y4,y5,xf,xz⟩:=SB.six aa.out;have z0:=xf 0;have z1:=xf 1;have z2:=xf 2;have z3:=xf 3;have z4:=xf 4;have z5:=xf 5;clear xf;obtain ⟨t0,t1,t2,t3,t4,t5,tf,tz⟩:=SB.res aa.out;have v0:=tf 0;have v1:=tf 1;have v2:=tf 2;have v3:=tf 3;have v4:=tf 4;have v5:=tf 5;clear tf)))
       have h9:=(aa.out).fin (.int .i64 (n:Int)) (.int .u8 0) (.bool false) (.int .i64 0) (.int .i64 0) (.slice none 0 0)
       obtain ⟨k1,k2,r0,r1,r2,r3,r4,r5⟩:=h9
       unfold sixR at k1 k2 r0 r1 r2 r3 r4 r5
       exact bodyPost_ret (v := .tuple #[.agg #[.int .i64 (n:Int),.int .u8 0,.bool false,.int .i64 0,.int .i64 0,.slice none 0 0],.bool false]) (by simp [results,Tryz.f177,go_sem,r0,r1,r2,r3,r4,r5]) rfl (RTermR.no ag.out k1)
      | some L =>
       by_cases hp:∃c,L=[c]
       ·obtain ⟨⟨ck,cp,ca,cb⟩,rfl⟩:=hp
        have ag:=Za (show rlT (k+2) d s=some ((n:Int),⟨ck,cp,ca,cb⟩,.nil) by rw [HN.out,hpl])
        have ad:=Za (zbo hpl)
        have av:=Za (zgM hpl)
        clear hpl
        go_wp2_with (first
         | (go_at_call 88;((with_reducible refine (am.out _).mono ?_);rintro e w5 ⟨v5,rfl,ac,ae⟩;rw [ad.out.2] at ac;rw [ad.out.1];obtain ⟨A5,c5,rfl,aj,an⟩:=zaf ac;obtain ⟨b5,o5,rfl,hlt5,ar⟩:=Sts.all aj (by simp);obtain ⟨m0,m1,m2,m3⟩:=ar 0 (by simp);simp only [ZR,Nat.zero_mul,Nat.add_zero] at m0 m1 m2 m3;have aa:=Za (HS.out.ext ae);clear ac aj an ar ae;obtain ⟨y0,y1,y2,y3,y4,y5,xf,xz⟩:=SB.six aa.out;have z0:=xf 0;have z1:=xf 1;have z2:=xf 2;have z3:=xf 3;have z4:=xf 4;have z5:=xf 5;clear xf;obtain ⟨t0,t1,t2,t3,t4,t5,tf,tz⟩:=SB.res aa.out;have v0:=tf 0;have v1:=tf 1;have v2:=tf 2;have v3:=tf 3;have v4:=tf 4;have v5:=tf 5;clear tf)))
        have h9:=((((aa.out.put 1 (.int .u8 ck)).put 2 (.bool cp)).put 3 (.int .i64 ca)).put 4 (.int .i64 cb)).fin (.int .i64 (n:Int)) (.int .u8 ck) (.bool cp) (.int .i64 ca) (.int .i64 cb) (.slice none 0 0)
        obtain ⟨k1,k2,r0,r1,r2,r3,r4,r5⟩:=h9
        unfold sixR at k1 k2 r0 r1 r2 r3 r4 r5
        exact bodyPost_ret (v := .tuple #[.agg #[.int .i64 (n:Int),.int .u8 ck,.bool cp,.int .i64 ca,.int .i64 cb,.slice none 0 0],.bool true]) (by simp [results,Tryz.f177,go_sem,r0,r1,r2,r3,r4,r5]) rfl (RTermR.yes ag.out k1 k2 av.out)
       ·have ag:=Za (show rlT (k+2) d s=none by
         rw [HN.out,hpl]
         split
         ·rename_i c e;exact absurd ⟨c,by injection e⟩ hp
         ·rfl)
        have ad:=Za (zbo hpl)
        have hL1:(((L.length:Nat):Int) != 1)=true:=by
         rw [bne_iff_ne]
         intro e
         match L,hp,e with
         | [c],hp,_=>exact hp ⟨c,rfl⟩
         | [],_,e=>simp at e
         | _::_::_,_,e=>simp at e <;> omega
        clear hpl hp
        go_wp2_with (first
         | (go_at_call 88;((with_reducible refine (am.out _).mono ?_);rintro e w5 ⟨v5,rfl,ac,ae⟩;rw [ad.out.2] at ac;rw [ad.out.1];obtain ⟨A5,c5,rfl, -, -⟩:=zaf ac;have aa:=Za (HS.out.ext ae);clear ac ae;obtain ⟨y0,y1,y2,y3,y4,y5,xf,xz⟩:=SB.six aa.out;have z0:=xf 0;have z1:=xf 1;have z2:=xf 2;have z3:=xf 3;have z4:=xf 4;have z5:=xf 5;clear xf;obtain ⟨t0,t1,t2,t3,t4,t5,tf,tz⟩:=SB.res aa.out;have v0:=tf 0;have v1:=tf 1;have v2:=tf 2;have v3:=tf 3;have v4:=tf 4;have v5:=tf 5;clear tf)))
        have h9:=(aa.out).fin (.int .i64 (n:Int)) (.int .u8 0) (.bool false) (.int .i64 0) (.int .i64 0) (.slice none 0 0)
        obtain ⟨k1,k2,r0,r1,r2,r3,r4,r5⟩:=h9
        unfold sixR at k1 k2 r0 r1 r2 r3 r4 r5
        exact bodyPost_ret (v := .tuple #[.agg #[.int .i64 (n:Int),.int .u8 0,.bool false,.int .i64 0,.int .i64 0,.slice none 0 0],.bool false]) (by simp [results,Tryz.f177,go_sem,r0,r1,r2,r3,r4,r5]) rfl (RTermR.no ag.out k1)
end Go.Proofs.YtkneghkbgingdaaGreatDoor
