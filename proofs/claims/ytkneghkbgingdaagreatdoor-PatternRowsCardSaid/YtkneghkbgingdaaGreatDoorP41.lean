/- Rows of a list held against each other (the reference's same). -/
import Derived.Test.YtkneghkbgingdaaGreatDoorP01
import Derived.Test.YtkneghkbgingdaaGreatDoorP17
import Derived.Test.YtkneghkbgingdaaGreatDoorP06
import Derived.Test.YtkneghkbgingdaaGreatDoorP26
import Derived.Test.YtkneghkbgingdaaGreatDoorP08
namespace Go.Proofs.YtkneghkbgingdaaGreatDoor
set_option maxRecDepth 100000
set_option maxRecDepth 100000
open Go.RowKit Go.ChangeShapes Go.WideShapes Go.Joins
set_option maxHeartbeats 4000000 in
theorem zh8 (A:Option Addr) (n c:Nat) (l:List Ro) (i j:Nat) (w:World) (hr:Rws w (fun _=>True) A n l) (hi:i<n) (hj:j<n) :
  Calls Tryz.prog 73 #[.slice A n c,.int .i64 i,.int .i64 j] w fun e w'=>e = .returned (.bool (decide (l.getD i ro0=l.getD j ro0)))∧Ext w w':=by
 obtain ⟨b,off,A1,n1,c1,rfl,hlt, -,d0,d1,v1,m1, -, -⟩:=hr.at_ hi
 obtain ⟨b2,off2,A2,n2,c2,e2, -, -,f0,f1,v2,m2, -, -⟩:=hr.at_ hj
 cases e2
 have q0:(0:Int)≤(i:Int):=by omega
 have q1:(i:Int)<(n:Int):=by omega
 have q2:(0:Int)≤(j:Int):=by omega
 have q3:(j:Int)<(n:Int):=by omega
 generalize l.getD i ro0=x at *
 generalize l.getD j ro0=y at *
 obtain ⟨xb,xc⟩:=x
 obtain ⟨yb,yc⟩:=y
 simp only at d0 f0 v1 v2
 have HV1:=Lib.hid v1
 have HV2:=Lib.hid v2
 have HM1:=Lib.hid m1
 clear hr v1 v2 m1 m2
 by_cases hb:xb=yb
 ·subst hb
  obtain ⟨z,hz⟩:∃z,decide (xc=yc)=z:=⟨_,rfl⟩
  have HN:=Lib.hid (show decide ((⟨xb,xc⟩:Ro)=⟨xb,yc⟩)=z by rw [←hz];simp)
  have HZ:=Lib.hid hz
  have hbb:(xb==xb)=true:=by simp
  clear hz
  go_enter Tryz.func73,Tryz.ntmps73
  go_wp2_with fail
  go_region_held3 (fun wx=>wx.cell? ⟨b,off+i*2,none⟩=some (.bool xb)∧wx.cell? ⟨b,off+j*2,none⟩=some (.bool xb)∧wx.cell? ⟨b,off+i*2+1,none⟩=some (.slice A1 n1 c1)∧wx.cell? ⟨b,off+j*2+1,none⟩=some (.slice A2 n2 c2)) (go_keep) (first
   | (go_at_call 49;((with_reducible refine (zdb n1 n2 c1 c2 A1 A2 xc yc _ (HV1.out.ext (by repeat (first|exact zr _|assumption|refine za ?_ _|refine zd ?_|refine zn ?_ _|refine zt ?_ (by assumption)))) (HV2.out.ext (by repeat (first|exact zr _|assumption|refine za ?_ _|refine zd ?_|refine zn ?_ _|refine zt ?_ (by assumption)))) HM1.out).mono ?_);rintro e w5 ⟨rfl,hq5⟩;rw [HZ.out];have hq9:Ext w w5:=Ext.trans (by repeat (first|exact zr _|assumption|refine za ?_ _|refine zd ?_|refine zn ?_ _|refine zt ?_ (by assumption))) hq5;obtain ⟨h1,h2,h3⟩:=hq9.facts;have d0':=(h1 _ _ hlt).trans d0;have d1':=(h1 _ _ hlt).trans d1;have f0':=(h1 _ _ hlt).trans f0;have f1':=(h1 _ _ hlt).trans f1)))
  all_goals
   go_wp2_with fail
   go_ret
   exact ⟨by rw [HN.out];rfl,hq9⟩
 ·have HN:=Lib.hid (show decide ((⟨xb,xc⟩:Ro)=⟨yb,yc⟩)=false by simp [hb])
  have hbb:(xb==yb)=false:=by simpa using hb
  clear hb
  go_enter Tryz.func73,Tryz.ntmps73
  go_wp2_with fail
  go_quiet (fail)
  go_wp2_with fail
  go_ret
  exact ⟨by rw [HN.out];rfl,by repeat (first|exact zr _|assumption|refine za ?_ _|refine zd ?_|refine zn ?_ _|refine zt ?_ (by assumption))⟩
end Go.Proofs.YtkneghkbgingdaaGreatDoor
/- How many times rows come again: the reference's again. -/
namespace Go.Proofs.YtkneghkbgingdaaGreatDoor
set_option maxRecDepth 100000
set_option maxRecDepth 100000
open Go.RowKit Go.ChangeShapes Go.WideShapes Go.Joins
theorem zfe {l:List Ro} {k f i:Nat} (h:l.getD i ro0=l.getD (i-k) ro0):eqRun l k (f+1) i=eqRun l k f (i+1)+1:=by rw [eqRun,if_pos h]
theorem zgq {l:List Ro} {k f i:Nat} (h:¬l.getD i ro0=l.getD (i-k) ro0):eqRun l k f i=0:=by
 cases f with
 | zero=>rfl
 | succ f=>rw [eqRun,if_neg h]
set_option maxHeartbeats 4000000 in
theorem zhd (A:Option Addr) (n c:Nat) (l:List Ro) (i k:Nat) (w:World) (hr:Rws w (fun _=>True) A n l) (hi:i≤n) (hn:n≤1000) (hk1:1≤k) (hk2:k≤2) :
  Calls Tryz.prog 41 #[.slice A n c,.int .i64 i,.int .i64 k] w fun e w'=>e = .returned (.int .i64 (repT l i k:Nat))∧Ext w w':=by
 have HRV:=Lib.hid hr
 have HLL:=Lib.hid hr.len
 have q0:(0:Int)≤(i:Int):=by omega
 have k0:(1:Int)≤(k:Int):=by omega
 have k1:((k:Int)==0)=false:=by rw [beq_eq_false_iff_ne];omega
 clear hr
 by_cases hki:i<k
 ·have HN:=Lib.hid (show repT l i k=0 by rw [repT,if_pos hki])
  have p1:¬((k:Int)≤(i:Int)):=by omega
  go_enter Tryz.func41,Tryz.ntmps41
  go_wp2_with fail
  go_loopw [7] (fun v wr=>v = .int .i64 0∧wr=w) (fun _ _=>0)
  case atStart=>exact ⟨rfl,rfl⟩
  case round =>
   obtain ⟨rfl,hwr⟩:=hrel
   rw [hwr]
   clear hwr
   go_wp2_with fail
   go_ret
   exact ⟨by rw [HN.out];simp,by repeat (first|exact zr _|assumption|refine za ?_ _|refine zd ?_|refine zn ?_ _|refine zt ?_ (by assumption))⟩
 ·have p1:(k:Int)≤(i:Int):=by omega
  go_enter Tryz.func41,Tryz.ntmps41
  go_wp2_with fail
  go_loopw [7] (fun v wr=>∃m:Nat,v = .int .i64 (m:Int)∧m≤n-i∧Hid (eqRun l k (n-i) i=m+eqRun l k (n-i-m) (i+m))∧Hid (Ext w wr)) (fun v _=>n-i-(intOf v).toNat)
  case atStart=>exact ⟨0,rfl,Nat.zero_le _,Lib.hid (by simp),Lib.hid (Ext.refl _)⟩
  case round =>
   obtain ⟨m,rfl,hm,HQ,HE⟩:=hrel
   obtain ⟨wa,rfl⟩:∃wa:World,wa=wr:=⟨_,rfl⟩
   have m0:(0:Int)≤(m:Int):=by omega
   obtain ⟨d,hd,hdn⟩:∃d:Nat,(m:Int) / (k:Int)=(d:Int)∧d≤m:=⟨m / k,by simp,Nat.div_le_self m k⟩
   have hw:=IntWalk.i64_in ((m:Int) / (k:Int)) (by rw [hd];omega)
   clear hd hdn d
   have i1:=IntWalk.i64_in ((i:Int)+(m:Int)) (by omega)
   have i2:=IntWalk.i64_in ((i:Int)+(m:Int)-(k:Int)) (by omega)
   by_cases hlt:i+m<n
   ·have q1:(i:Int)+(m:Int)<(n:Int):=by omega
    have e1:(i:Int)+(m:Int)=((i+m:Nat):Int):=by omega
    have e2:(i:Int)+(m:Int)-(k:Int)=((i+m-k:Nat):Int):=by omega
    have hsm:=fun (w':World) (h:Ext wa w')=>zh8 A n c l (i+m) (i+m-k) w' (HRV.out.ext (HE.out.trans h)) (by omega) (by omega)
    rw [←e1,←e2] at hsm
    obtain ⟨f,hf⟩:∃f,n-i-m=f+1:=⟨n-i-m-1,by omega⟩
    have hf2:n-i-(m+1)=f:=by omega
    have hq:=HQ.out
    rw [hf] at hq
    by_cases hz:l.getD (i+m) ro0=l.getD (i+m-k) ro0
    ·rw [decide_eq_true hz] at hsm
     have HSM:=Lib.hid hsm
     have HN:=Lib.hid (show eqRun l k (n-i) i=(m+1)+eqRun l k (n-i-(m+1)) (i+(m+1)) by rw [hq,zfe hz,hf2,show i+(m+1)=i+m+1 by omega];omega)
     clear hsm hz hq hf hf2 e1 e2
     go_wp2_with (first
      | (go_at_call 73;((with_reducible refine (HSM.out _ (by repeat (first|exact zr _|assumption|refine za ?_ _|refine zd ?_|refine zn ?_ _|refine zt ?_ (by assumption)))).mono ?_);rintro e w5 ⟨rfl,hq5⟩)))
     go_roundw
     case rel=>exact ⟨m+1,by go_num,by omega,HN,Lib.hid (HE.out.trans (by repeat (first|exact zr _|assumption|refine za ?_ _|refine zd ?_|refine zn ?_ _|refine zt ?_ (by assumption))))⟩
     case measure=>simp [intOf] <;> omega
    ·rw [decide_eq_false hz] at hsm
     have HSM:=Lib.hid hsm
     have HN:=Lib.hid (show repT l i k=m / k by rw [repT,if_neg hki,HLL.out,hq,zgq hz,Nat.add_zero])
     clear hsm hz hq hf hf2 e1 e2
     go_wp2_with (first
      | (go_at_call 73;((with_reducible refine (HSM.out _ (by repeat (first|exact zr _|assumption|refine za ?_ _|refine zd ?_|refine zn ?_ _|refine zt ?_ (by assumption)))).mono ?_);rintro e w5 ⟨rfl,hq5⟩)))
     go_ret
     exact ⟨by rw [HN.out];simp,HE.out.trans (by repeat (first|exact zr _|assumption|refine za ?_ _|refine zd ?_|refine zn ?_ _|refine zt ?_ (by assumption)))⟩
   ·have q1:¬((i:Int)+(m:Int)<(n:Int)):=by omega
    have HN:=Lib.hid (show repT l i k=m / k by
     rw [repT,if_neg hki,HLL.out,HQ.out,show n-i-m=0 by omega]
     rfl)
    go_wp2_with fail
    go_ret
    exact ⟨by rw [HN.out];simp,HE.out⟩
end Go.Proofs.YtkneghkbgingdaaGreatDoor
/- How many times rows come again: the program's repeats. -/
namespace Go.Proofs.YtkneghkbgingdaaGreatDoor
set_option maxRecDepth 100000
set_option maxRecDepth 100000
open Go.RowKit Go.ChangeShapes Go.WideShapes Go.Joins
set_option maxHeartbeats 8000000 in
theorem zf8 (A:Option Addr) (n c:Nat) (l:List Ro) (i k:Nat) (w:World) (hr:Rws w (fun _=>True) A n l) (hi:i≤n) (hn:n≤1000) (hk1:1≤k) (hk2:k≤2) :
  Calls Tryz.prog 35 #[.slice A n c,.int .i64 i,.int .i64 k] w fun e w'=>e = .returned (.int .i64 (repT l i k:Nat))∧Ext w w':=by
 have HRV:=Lib.hid hr
 have HLL:=Lib.hid hr.len
 have q0:(0:Int)≤(i:Int):=by omega
 have k0:(1:Int)≤(k:Int):=by omega
 have k1:((k:Int)==0)=false:=by rw [beq_eq_false_iff_ne];omega
 clear hr
 by_cases hki:i<k
 ·have HN:=Lib.hid (show repT l i k=0 by rw [repT,if_pos hki])
  have p1:(i:Int)<(k:Int):=by omega
  go_enter Tryz.func35,Tryz.ntmps35
  go_wp2_with fail
  go_ret
  exact ⟨by rw [HN.out];simp,by repeat (first|exact zr _|assumption|refine za ?_ _|refine zd ?_|refine zn ?_ _|refine zt ?_ (by assumption))⟩
 ·have p1:¬((i:Int)<(k:Int)):=by omega
  go_enter Tryz.func35,Tryz.ntmps35
  go_wp2_with fail
  go_loopw [7] (fun v wr=>∃m:Nat,v = .int .i64 (m:Int)∧m≤n-i∧Hid (eqRun l k (n-i) i=m+eqRun l k (n-i-m) (i+m))∧Hid (Ext w wr)) (fun v _=>n-i-(intOf v).toNat)
  case atStart=>exact ⟨0,rfl,Nat.zero_le _,Lib.hid (by simp),Lib.hid (Ext.refl _)⟩
  case round =>
   obtain ⟨m,rfl,hm,HQ,HE⟩:=hrel
   obtain ⟨wa,rfl⟩:∃wa:World,wa=wr:=⟨_,rfl⟩
   have m0:(0:Int)≤(m:Int):=by omega
   obtain ⟨d,hd,hdn⟩:∃d:Nat,(m:Int) / (k:Int)=(d:Int)∧d≤m:=⟨m / k,by simp,Nat.div_le_self m k⟩
   have hw:=IntWalk.i64_in ((m:Int) / (k:Int)) (by rw [hd];omega)
   clear hd hdn d
   have i1:=IntWalk.i64_in ((i:Int)+(m:Int)) (by omega)
   have i2:=IntWalk.i64_in ((i:Int)+(m:Int)-(k:Int)) (by omega)
   by_cases hlt:i+m<n
   ·have q1:(i:Int)+(m:Int)<(n:Int):=by omega
    have e1:(i:Int)+(m:Int)=((i+m:Nat):Int):=by omega
    have e2:(i:Int)+(m:Int)-(k:Int)=((i+m-k:Nat):Int):=by omega
    have q2:(0:Int)≤(i:Int)+(m:Int):=by omega
    have q3:(0:Int)≤(i:Int)+(m:Int)-(k:Int):=by omega
    have q4:(i:Int)+(m:Int)-(k:Int)<(n:Int):=by omega
    have q5:(k:Int)≤(i:Int)+(m:Int):=by omega
    obtain ⟨f,hf⟩:∃f,n-i-m=f+1:=⟨n-i-m-1,by omega⟩
    have hf2:n-i-(m+1)=f:=by omega
    have hq:=HQ.out
    rw [hf] at hq
    obtain ⟨b,off,A1,n1,c1,rfl,hlt1, -,d0,d1,v1,m1, -, -⟩:=(HRV.out.ext HE.out).at_ (k:=i+m) hlt
    obtain ⟨b2,off2,A2,n2,c2,e9, -, -,f0,f1,v2,m2, -, -⟩:=(HRV.out.ext HE.out).at_ (k:=i+m-k) (by omega)
    cases e9
    have HS:=Lib.hid (show decide (l.getD (i+m) ro0=l.getD (i+m-k) ro0)=(decide ((l.getD (i+m) ro0).back=(l.getD (i+m-k) ro0).back) && decide ((l.getD (i+m) ro0).cells=(l.getD (i+m-k) ro0).cells)) by
     generalize l.getD (i+m) ro0=x
     generalize l.getD (i+m-k) ro0=y
     obtain ⟨xb,xc⟩:=x
     obtain ⟨yb,yc⟩:=y
     simp)
    have HY:=Lib.hid (fun (h:l.getD (i+m) ro0=l.getD (i+m-k) ro0)=>show eqRun l k (n-i) i=(m+1)+eqRun l k (n-i-(m+1)) (i+(m+1)) by rw [hq,zfe h,hf2,show i+(m+1)=i+m+1 by omega];omega)
    have HN:=Lib.hid (fun (h:¬l.getD (i+m) ro0=l.getD (i+m-k) ro0)=>show repT l i k=m / k by rw [repT,if_neg hki,HLL.out,hq,zgq h,Nat.add_zero])
    clear hq hf hf2 f
    obtain ⟨xb,hxb⟩:∃xb,(l.getD (i+m) ro0).back=xb:=⟨_,rfl⟩
    obtain ⟨yb,hyb⟩:∃yb,(l.getD (i+m-k) ro0).back=yb:=⟨_,rfl⟩
    obtain ⟨xc,hxc⟩:∃xc,(l.getD (i+m) ro0).cells=xc:=⟨_,rfl⟩
    obtain ⟨yc,hyc⟩:∃yc,(l.getD (i+m-k) ro0).cells=yc:=⟨_,rfl⟩
    have HS2:=HS.out
    rw [hxb,hyb,hxc,hyc] at HS2
    have HS:=Lib.hid HS2
    clear HS2
    rw [hxb] at d0
    rw [hyb] at f0
    rw [hxc] at v1
    rw [hyc] at v2
    have HV1:=Lib.hid v1
    have HV2:=Lib.hid v2
    have HM1:=Lib.hid m1
    clear v1 v2 m1 m2 hxb hyb hxc hyc
    have e3:((i:Int)+(m:Int)-(k:Int)).toNat=i+m-k:=by omega
    have e4:((i:Int)+(m:Int)).toNat=i+m:=by omega
    clear e1 e2
    by_cases hb:xb=yb
    ·subst hb
     have hbb:(xb==xb)=true:=by simp
     obtain ⟨z,hz⟩:∃z,decide (xc=yc)=z:=⟨_,rfl⟩
     have HZ:=Lib.hid hz
     have HS2:=HS.out
     rw [hz,decide_eq_true rfl,Bool.true_and] at HS2
     have HS:=Lib.hid HS2
     clear HS2 hz
     go_wp2_with fail
     go_region_held3 (fun wx=>wx.cell? ⟨b,off+(i+m)*2,none⟩=some (.bool xb)∧wx.cell? ⟨b,off+(i+m-k)*2,none⟩=some (.bool xb)∧wx.cell? ⟨b,off+(i+m)*2+1,none⟩=some (.slice A1 n1 c1)∧wx.cell? ⟨b,off+(i+m-k)*2+1,none⟩=some (.slice A2 n2 c2)) (go_keep) (first
      | (go_at_call 68;((with_reducible refine (zjN n1 n2 c1 c2 A1 A2 xc yc _ (HV1.out.ext (by repeat (first|exact zr _|assumption|refine za ?_ _|refine zd ?_|refine zn ?_ _|refine zt ?_ (by assumption)))) (HV2.out.ext (by repeat (first|exact zr _|assumption|refine za ?_ _|refine zd ?_|refine zn ?_ _|refine zt ?_ (by assumption)))) HM1.out).mono ?_);rintro e w5 ⟨rfl,hq5⟩;rw [HZ.out];have hq9:Ext wa w5:=Ext.trans (by repeat (first|exact zr _|assumption|refine za ?_ _|refine zd ?_|refine zn ?_ _|refine zt ?_ (by assumption))) hq5;obtain ⟨h1,h2,h3⟩:=hq9.facts;have d0':=(h1 _ _ hlt1).trans d0;have d1':=(h1 _ _ hlt1).trans d1;have f0':=(h1 _ _ hlt1).trans f0;have f1':=(h1 _ _ hlt1).trans f1)))
     all_goals
      cases z with
      | true =>
       go_wp2_with fail
       go_roundw
       case rel=>exact ⟨m+1,by go_num,by omega,Lib.hid (HY.out (of_decide_eq_true HS.out)),Lib.hid (HE.out.trans (by repeat (first|exact zr _|assumption|refine za ?_ _|refine zd ?_|refine zn ?_ _|refine zt ?_ (by assumption))))⟩
       case measure=>simp [intOf] <;> omega
      | false =>
       go_wp2_with fail
       go_ret
       exact ⟨by rw [HN.out (of_decide_eq_false HS.out)];simp,HE.out.trans (by repeat (first|exact zr _|assumption|refine za ?_ _|refine zd ?_|refine zn ?_ _|refine zt ?_ (by assumption)))⟩
    ·have hbb:(xb==yb)=false:=by simpa using hb
     have HS2:=HS.out
     rw [decide_eq_false hb,Bool.false_and] at HS2
     have HN2:=Lib.hid (HN.out (of_decide_eq_false HS2))
     clear HS2 hb
     go_wp2_with fail
     go_quiet (fail)
     go_wp2_with fail
     go_ret
     exact ⟨by rw [HN2.out];simp,HE.out.trans (by repeat (first|exact zr _|assumption|refine za ?_ _|refine zd ?_|refine zn ?_ _|refine zt ?_ (by assumption)))⟩
   ·have q1:¬((i:Int)+(m:Int)<(n:Int)):=by omega
    have q2:decide ((i:Int)+(m:Int)<(n:Int))=false:=decide_eq_false q1
    have HN:=Lib.hid (show repT l i k=m / k by
     rw [repT,if_neg hki,HLL.out,HQ.out,show n-i-m=0 by omega]
     rfl)
    go_wp2_with fail
    go_quiet (fail)
    go_wp2_with fail
    go_ret
    exact ⟨by rw [HN.out];simp,HE.out.trans (by repeat (first|exact zr _|assumption|refine za ?_ _|refine zd ?_|refine zn ?_ _|refine zt ?_ (by assumption)))⟩
end Go.Proofs.YtkneghkbgingdaaGreatDoor
/- The finder of the shortest list: the walk of list. -/
namespace Go.Proofs.YtkneghkbgingdaaGreatDoor
set_option maxRecDepth 100000
set_option maxRecDepth 100000
open Go.RowKit Go.ChangeShapes Go.WideShapes Go.Joins
set_option maxHeartbeats 8000000 in
theorem zj9 (g n c:Nat) (A:Option Addr) (l:List St) (hn:n≤60) (hln:l.length=n) (hby:Bytes l) (hne:∀b off,A=some ⟨b,off,none⟩→b≠g):∀(M a m:Nat) (tab:Nat→Nat→Chc) (w:World),m≤M→1≤m→a+m≤n→Vec shSt w A n l→FAt w g n c A tab→(∀N,TabOk l tab N)→∀(ai mi:Int),ai=(a:Int)→mi=(m:Int) →
  Calls Tryz.prog 138 #[.pointer (some ⟨g,0,none⟩),.int .i64 ai,.int .i64 mi] w (ListR l g n c A 134 (mkT M (sub l a m)) w):=by
 intro M
 induction M with
 | zero=>intro a m tab w h0 h1;omega
 | succ M ih =>
  intro a m tab w hM h1 ham hv ht hok ai mi hai hmi
  subst hai
  subst hmi
  have IH:=Lib.hid ih
  have HV:=Lib.hid hv
  have HT:=Lib.hid ht
  have HOK:=Lib.hid hok
  have ha:a<60:=by omega
  have hm:m≤60:=by omega
  have q0:(0:Int)≤(a:Int):=by omega
  have q1:(a:Int)<60:=by omega
  have q2:(0:Int)≤(m:Int):=by omega
  have q3:(m:Int)<61:=by omega
  have hsn:=zbD (l:=l) (a:=a) (n:=m) (by omega) h1
  have hsl:=zau (l:=l) (a:=a) (n:=m) (by omega)
  have hmd:=zfL hsn
  rw [hsl] at hmd
  obtain ⟨zt,hzt,hzs⟩:=zcg
  have HZT:=Lib.hid hzt
  have HZS:=Lib.hid hzs
  clear ih hv ht hok hzt hzs
  go_enter Tryz.func138,Tryz.ntmps138
  go_upto_region 3 with (first
   | (go_at_call 166;((with_reducible refine (zih g n c A l hn hln hne m a m tab _ (Nat.le_refl _) h1 ham HV.out HT.out (HOK.out m) _ _ rfl rfl).mono ?_);rintro e w1 ⟨tab1,rfl,hq⟩;have HQ:=Lib.hid hq;have c0:=hq.at_.tb a m 0 ha hm (by omega);have c1:=hq.at_.tb a m 1 ha hm (by omega);have c2:=hq.at_.tb a m 2 ha hm (by omega);rw [hq.it] at c0 c1 c2;rw [Nat.add_zero] at c0;have z1:=hq.at_.lt;clear hq)))
  have hmk:mkT (M+1) (sub l a m)=if 0<(ch (sub l a m)).part then (mkT M ((sub l a m).take (ch (sub l a m)).part)).app (mkT M ((sub l a m).drop (ch (sub l a m)).part)) else if 0<(ch (sub l a m)).period then .cons (((sub l a m).length / (ch (sub l a m)).period:Nat):Int) st0 (mkT M ((sub l a m).take (ch (sub l a m)).period)) .nil else .cons ((sub l a m).length:Int) ((sub l a m).getD 0 st0) .nil .nil:=rfl
  obtain ⟨pt,hpt⟩:∃x,(ch (sub l a m)).part=x:=⟨_,rfl⟩
  obtain ⟨pd,hpd⟩:∃x,(ch (sub l a m)).period=x:=⟨_,rfl⟩
  have e1:fld (ch (sub l a m)) 1=pd:=hpd
  have e2:fld (ch (sub l a m)) 2=pt:=hpt
  rw [e1] at c1
  rw [e2] at c2
  rw [e1,e2]
  rw [hpt,hpd,hsl] at hmk
  rw [hpt,hpd] at hmd
  generalize hwb:World.alloc w1 _=wb
  have hbz:wb.heap.size=w1.heap.size+1:=by rw [←hwb];simp
  have b1:wb.cell? ⟨w1.heap.size,1,none⟩=some (.int .i64 (pd:Nat)):=by rw [←hwb];simp [go_sem]
  have b2:wb.cell? ⟨w1.heap.size,2,none⟩=some (.int .i64 (pt:Nat)):=by rw [←hwb];simp [go_sem]
  have HEB:=Lib.hid (show Ext w1 wb by rw [←hwb];exact (Ext.refl _).alloc _)
  clear hwb c0 c1 c2
  have hb:(pt<m∧pd<m):=by
   rcases hmd with ⟨hx, -⟩ | ⟨h2,h3,h4, -⟩ | ⟨h2,h3,h4, -⟩
   ·rw [hx] at hpt hpd
    simp only at hpt hpd
    omega
   ·omega
   ·omega
  have hd2:0<pd→2≤pd:=by
   rcases hmd with ⟨hx, -⟩ | ⟨h2,h3,h4, -⟩ | ⟨h2,h3,h4, -⟩
   ·rw [hx] at hpd
    simp only at hpd
    omega
   ·omega
   ·omega
  have HW1:=Lib.hid (show Vec shSt wb A n l from (HV.out.far HQ.out.but hne).ext HEB.out)
  have HO1:=Lib.hid (HQ.out.all HOK.out)
  have HF1:=Lib.hid (HQ.out.at_.ext HEB.out)
  have hgw:g<w.heap.size:=HT.out.lt
  have hw1:w.heap.size≤w1.heap.size:=HQ.out.but.size
  have HBW:=Lib.hid (HQ.out.but.trans (But.of_ext HEB.out _))
  clear hmd hpt hpd e1 e2
  by_cases hp0:0<pt
  ·rw [if_pos hp0,za9 (by omega),zcF (by omega)] at hmk
   have hx1:=zbD (l:=l) (a:=a) (n:=pt) (by omega) (by omega)
   have hx2:=zbD (l:=l) (a:=a+pt) (n:=m-pt) (by omega) (by omega)
   have k1:=zby M (sub l a pt) hx1 (by rw [zau (by omega)];omega)
   have k2:=zby M (sub l (a+pt) (m-pt)) hx2 (by rw [zau (by omega)];omega)
   rw [zau (by omega)] at k1 k2
   have HMK:=Lib.hid hmk
   have t1:((0:Int)<(pt:Int)):=by omega
   have i1:=IntWalk.i64_in ((a:Int)+(pt:Int)) (by omega)
   have i2:=IntWalk.i64_in ((m:Int)-(pt:Int)) (by omega)
   clear hmk hx1 hx2
   have E3:=Lib.hid (show (a:Int)+(pt:Int)=((a+pt:Nat):Int) by omega)
   have E4:=Lib.hid (show (m:Int)-(pt:Int)=((m-pt:Nat):Int) by omega)
   clear b1
   go_upto_region 4 with fail
   go_region_held3 (fun w'=>w'.cell? ⟨w1.heap.size,2,none⟩=some (.int .i64 (pt:Nat))) (go_keep)
    (first
     | (go_at_call 138;(first
      | ((with_reducible refine (IH.out (a+pt) (m-pt) _ _ (by omega) (by omega) (by omega) (HV2.out.ext (by repeat (first|exact zr _|assumption|refine za ?_ _|refine zd ?_|refine zn ?_ _|refine zt ?_ (by assumption)))) (HF2.out.ext (by repeat (first|exact zr _|assumption|refine za ?_ _|refine zd ?_|refine zn ?_ _|refine zt ?_ (by assumption)))) HO2.out _ _ E3.out E4.out).mono ?_);rintro e w3 ⟨v2,tab3,rfl,hf3,ho3,hb3,hw3⟩;have HF3:=Lib.hid hf3;have HO3:=Lib.hid ho3;have HB3:=Lib.hid ((But.of_ext (by repeat (first|exact zr _|assumption|refine za ?_ _|refine zd ?_|refine zn ?_ _|refine zt ?_ (by assumption))) (some g)).trans hb3:But (some g) w2 w3);have HN3:=Lib.hid (show OwnT w3 w2.heap.size 134 v2 (mkT M (sub l (a+pt) (m-pt))).cnt (mkT M (sub l (a+pt) (m-pt))) from hw3);have b4:=(But.cell (p:=⟨w1.heap.size,2,none⟩) HB3.out (by have:=HB2.out.size;show w1.heap.size<w2.heap.size;omega) (by intro e9;have e8:w1.heap.size=g:=(by simpa using e9);omega)).trans b3;clear hf3 ho3 hb3 hw3)
      | (((with_reducible refine (IH.out a pt _ _ (by omega) (by omega) (by omega) (HW1.out.ext (by repeat (first|exact zr _|assumption|refine za ?_ _|refine zd ?_|refine zn ?_ _|refine zt ?_ (by assumption)))) (HF1.out.ext (by repeat (first|exact zr _|assumption|refine za ?_ _|refine zd ?_|refine zn ?_ _|refine zt ?_ (by assumption)))) HO1.out _ _ rfl rfl).mono ?_);rintro e w2 ⟨v1,tab2,rfl,hf2,ho2,hb2,hw2⟩;have HF2:=Lib.hid hf2;have HO2:=Lib.hid ho2;have HB2:=Lib.hid ((But.of_ext (by repeat (first|exact zr _|assumption|refine za ?_ _|refine zd ?_|refine zn ?_ _|refine zt ?_ (by assumption))) (some g)).trans hb2:But (some g) wb w2);have HV2:=Lib.hid (HW1.out.far HB2.out hne);have HN2:=Lib.hid (show OwnT w2 wb.heap.size 134 v1 (mkT M (sub l a pt)).cnt (mkT M (sub l a pt)) from hw2);have b3:=(But.cell (p:=⟨w1.heap.size,2,none⟩) HB2.out (by show w1.heap.size<wb.heap.size;omega) (by intro e9;have e8:w1.heap.size=g:=(by simpa using e9);omega)).trans b2;clear hf2 ho2 hb2 hw2))))
     | (refine zc8 (g:=g) 91 134 zt 56 (by rfl) (by rfl) Tryz.underlying91 HZT.out HZS.out (by omega) (by rfl) (by rfl) HN2.out HN3.out HB2.out HB3.out (by omega) (by omega) ?_;intro v' w4 hown4 hbut4 hkeep4;have b5:=(But.cell (p:=⟨w1.heap.size,2,none⟩) hbut4.out (by show w1.heap.size<wb.heap.size;omega) (by intro e9;have e8:w1.heap.size=g:=(by simpa using e9);omega)).trans b2))
   go_wp2
   go_ret
   rw [HMK.out]
   exact ⟨_,tab3,rfl,hkeep4.out _ _ _ _ HF3.out,HO3.out,HBW.out.trans hbut4.out,by rw [zbn];exact hown4.low (by omega)⟩
  have t1:¬((0:Int)<(pt:Int)):=by omega
  rw [if_neg hp0] at hmk
  by_cases hp1:0<pd
  ·rw [if_pos hp1,za9 (by omega)] at hmk
   have HMK:=Lib.hid hmk
   have t2:((0:Int)<(pd:Int)):=by omega
   have k1:=zby M (sub l a pd) (zbD (l:=l) (by omega) (by omega)) (by rw [zau (by omega)];omega)
   rw [zau (by omega)] at k1
   have tz:¬pd=0:=by omega
   obtain ⟨q,hq⟩:∃q,m / pd=q:=⟨_,rfl⟩
   have td2:(m:Int) / (pd:Int)=(q:Int):=by rw [←hq];rfl
   have td:(m:Int).tdiv (pd:Int)=(q:Int):=by rw [Int.tdiv_eq_ediv_of_nonneg (by omega)];exact td2
   have hqm:q≤m:=by rw [←hq];exact Nat.div_le_self _ _
   have tw:=IntWalk.i64_in (q:Int) (by omega)
   have HQ9:=Lib.hid hq
   clear hq
   clear hmk
   go_upto_region 6 with fail
   go_region_held3 (fun w'=>w'.cell? ⟨w1.heap.size,1,none⟩=some (.int .i64 (pd:Nat))) (go_keep)
    (first
     | (go_at_call 138;((with_reducible refine (IH.out a pd _ _ (by omega) (by omega) (by omega) (HW1.out.ext (by repeat (first|exact zr _|assumption|refine za ?_ _|refine zd ?_|refine zn ?_ _|refine zt ?_ (by assumption)))) (HF1.out.ext (by repeat (first|exact zr _|assumption|refine za ?_ _|refine zd ?_|refine zn ?_ _|refine zt ?_ (by assumption)))) HO1.out _ _ rfl rfl).mono ?_);rintro e w2 ⟨v1,tab2,rfl,hf2,ho2,hb2,hw2⟩;obtain ⟨A2,c2,rfl,hk2⟩:=zaD hw2 (by omega);have HF2:=Lib.hid hf2;have HO2:=Lib.hid ho2;have HB2:=Lib.hid ((But.of_ext (by repeat (first|exact zr _|assumption|refine za ?_ _|refine zd ?_|refine zn ?_ _|refine zt ?_ (by assumption))) (some g)).trans hb2:But (some g) wb w2);have HK2:=Lib.hid (show TvK w2 (fun b=>wb.heap.size≤b) A2 (mkT M (sub l a pd)).cnt (mkT M (sub l a pd)) from hk2);have b3:=(But.cell (p:=⟨w1.heap.size,1,none⟩) HB2.out (by show w1.heap.size<wb.heap.size;omega) (by intro e9;have e8:w1.heap.size=g:=(by simpa using e9);omega)).trans b1;clear hf2 ho2 hb2 hw2 hk2)))
   all_goals (go_wp2;go_ret;rw [HMK.out,HQ9.out];exact ⟨_,tab2,rfl,HF2.out.ext ((Ext.refl _).alloc _),HO2.out,(HBW.out.trans HB2.out).trans (But.of_ext ((Ext.refl _).alloc _) _),ze8 w2 w.heap.size 134 (q:Int) 0 false 0 0 (by have:=HB2.out.size;omega) (by omega) (HK2.out.mono fun b _ hb=>by omega)⟩)
  have t2:¬((0:Int)<(pd:Int)):=by omega
  rw [if_neg hp1,zer (by omega),Nat.add_zero] at hmk
  have HMK:=Lib.hid hmk
  have HBY:=Lib.hid (hby a (by omega))
  clear hmk hby
  obtain ⟨b,off,rfl,hb,hc⟩:=Sts.all HW1.out (by omega)
  obtain ⟨k1,k2,k3,k4⟩:=hc a (by omega)
  have g0:=HF1.out.hd
  have t3:(a:Int)<(n:Int):=by omega
  generalize hs:l.getD a st0=s at *
  obtain ⟨s1,s2,s3,s4⟩:=s
  simp only at k1 k2 k3 k4
  have n1:((a:Int)).toNat=a:=by omega
  go_wp2_with fail
  go_ret
  rw [HMK.out]
  exact ⟨_,tab1,rfl,HF1.out.ext ((Ext.refl _).alloc _),HO1.out,HBW.out.trans (But.of_ext ((Ext.refl _).alloc _) _),by
   rw [←hbz]
   exact ze8 wb w.heap.size 134 (m:Int) s1 s2 s3 s4 (by omega) HBY.out (TvK.none_ _ _ _)⟩
end Go.Proofs.YtkneghkbgingdaaGreatDoor
/- Find of the shortest list. -/
namespace Go.Proofs.YtkneghkbgingdaaGreatDoor
set_option maxRecDepth 100000
set_option maxRecDepth 100000
open Go.RowKit Go.ChangeShapes Go.WideShapes Go.Joins
def findE (l:List St):Int:=if 60<l.length then 4 else if allB l=true then 0 else 8
def findL (l:List St):Tms:=if findE l=0 then findT l else .nil
def FindR (l:List St) (w:World) (e:Ending) (w':World):Prop :=
 ∃(A:Option Addr) (c:Nat),e = .returned (.tuple #[.slice A (findL l).cnt c,.int .i64 (findE l)])∧Ext w w'∧TvK w' (fun b=>w.heap.size≤b) A (findL l).cnt (findL l)
theorem FindR.none_ {l:List St} {w w':World} {x:Int} (hx:findE l=x) (h0:x≠0) (h:Ext w w'):FindR l w (.returned (.tuple #[.slice none 0 0,.int .i64 x])) w':=by
 have h1:findL l = .nil:=by rw [findL,if_neg (by rw [hx];exact h0)]
 exact ⟨none,0,by rw [h1,hx];rfl,h,by rw [h1];exact TvK.none_ _ _ _⟩
set_option maxHeartbeats 8000000 in
theorem zlg (n c:Nat) (A:Option Addr) (l:List St) (w:World) (hl:Vec shSt w A n l) (hby:Bytes l) (hn:n≤maxLen) :
  Calls Tryz.prog 103 #[.slice A n c] w (FindR l w):=by
 have HX:=Lib.hid hl
 have hlen:=hl.1
 unfold maxLen at hn
 by_cases hn60:60<n
 ·have q1:((60:Int)<(n:Int)):=by omega
  have HE:=Lib.hid (show findE l=4 by rw [findE,if_pos (by omega)])
  clear hl
  go_enter Tryz.func103,Tryz.ntmps103
  go_wp2_with fail
  go_ret2
  exact FindR.none_ HE.out (by decide) (by repeat (first|exact zr _|assumption|refine za ?_ _|refine zd ?_|refine zn ?_ _|refine zt ?_ (by assumption)))
 have q1:¬((60:Int)<(n:Int)):=by omega
 clear hl
 go_enter Tryz.func103,Tryz.ntmps103
 go_wp2_with fail
 go_loopw [12] (fun i wr=>∃k:Nat,i = .int .i64 k∧k≤n∧Hid (∀j,j<k→okSt (l.getD j st0)=true)∧Hid (Ext w wr)) (fun i _=>n-(intOf i).toNat)
 case atStart=>exact ⟨0,rfl,by omega,Lib.hid (fun j hj=>absurd hj (by omega)),Lib.hid (by repeat (first|exact zr _|assumption|refine za ?_ _|refine zd ?_|refine zn ?_ _|refine zt ?_ (by assumption)))⟩
 case round =>
  obtain ⟨k,rfl,hk,HA,HE⟩:=hrel
  have hx:=HE.out
  by_cases hlt:k<n
  ·obtain ⟨b,off,rfl,hb,hc⟩:=Sts.all (HX.out.ext hx) (by omega)
   obtain ⟨c1,c2,c3,c4⟩:=hc k hlt
   have hby1:=hby k (by omega)
   have q0:(0:Int)≤(k:Int):=by omega
   have q2:(k:Int)<(n:Int):=by omega
   have HOK:=Lib.hid (show okSt (l.getD k st0)=false→findE l=8 from fun h=>by rw [findE,if_neg (by omega),if_neg (by rw [zcB (n:=n) (k:=k) hlen hlt h];simp)])
   have HA2:=Lib.hid (show okSt (l.getD k st0)=true→∀j,j<k+1→okSt (l.getD j st0)=true from fun h j hj=>by
    by_cases e:j=k
    ·subst e;exact h
    ·exact HA.out j (by omega))
   clear hc
   generalize hs:l.getD k st0=s at *
   obtain ⟨s1,s2,s3,s4⟩:=s
   simp only at c1 c2 c3 c4 hby1
   clear hs
   cases hok:okSt ⟨s1,s2,s3,s4⟩
   case false =>
    have HQ:=Lib.hid (show okE ⟨s1,s2,s3,s4⟩=8 by rw [okE,hok];rfl)
    have HF:=Lib.hid (HOK.out hok)
    clear HOK HA2 hok
    go_wp2_with (first
     | (go_at_call 137;((with_reducible refine (zaY s1 s2 s3 s4 hby1.1 hby1.2 _).mono ?_);rintro e w2 ⟨rfl,hq⟩;rw [HQ.out])))
    go_ret2
    exact FindR.none_ HF.out (by decide) (by repeat (first|exact zr _|assumption|refine za ?_ _|refine zd ?_|refine zn ?_ _|refine zt ?_ (by assumption)))
   case true =>
    have HQ:=Lib.hid (show okE ⟨s1,s2,s3,s4⟩=0 by rw [okE,hok];rfl)
    have HA3:=Lib.hid (HA2.out hok)
    clear HOK HA2 hok
    go_wp2_with (first
     | (go_at_call 137;((with_reducible refine (zaY s1 s2 s3 s4 hby1.1 hby1.2 _).mono ?_);rintro e w2 ⟨rfl,hq⟩;rw [HQ.out])))
    go_roundw
    case rel=>exact ⟨k+1,by go_num,by omega,HA3,Lib.hid (by repeat (first|exact zr _|assumption|refine za ?_ _|refine zd ?_|refine zn ?_ _|refine zt ?_ (by assumption)))⟩
    case measure=>simp [intOf];omega
  ·obtain rfl:k=n:=by omega
   have hall:=zel hlen HA.out
   have HB:=Lib.hid hall
   by_cases hn0:k=0
   ·subst hn0
    go_wp2_with fail
    go_ret2
    have e1:l=[]:=List.eq_nil_of_length_eq_zero hlen
    subst e1
    exact ⟨none,0,rfl,HE.out,TvK.none_ _ _ _⟩
   have hn1:¬((k:Int)=0):=by omega
   have hn2:((k:Int)==0)=false:=by rw [beq_eq_false_iff_ne];exact hn1
   obtain ⟨Z,hZ,hZs,hZ0⟩:=zgc wr
   have hZe:¬(Z=#[]):=by rintro rfl;simp at hZs
   have HF:=Lib.hid (FAt.new_ wr (t:=193) A k c hZs hZ0)
   have HNE:=Lib.hid (show ∀b off,A=some ⟨b,off,none⟩→b≠wr.heap.size from fun b off e=>by
    obtain ⟨b',off',e',hb,_⟩:=HX.out.2 (by omega)
    rw [e] at e'
    cases e'
    have:=Below.size hx
    omega)
   have HV:=Lib.hid (HX.out.ext (hx.trans ((Ext.refl wr).alloc (Obj.cells (Z.setIfInBounds 0 (Value.slice A k c)) 193))))
   have HW:=Lib.hid (show Ext w (wr.alloc (Obj.cells (Z.setIfInBounds 0 (Value.slice A k c)) 193)) from hx.trans ((Ext.refl _).alloc _))
   have hsz:(wr.alloc (Obj.cells (Z.setIfInBounds 0 (Value.slice A k c)) 193)).heap.size=wr.heap.size+1:=by simp
   clear hZs hZ0
   have HZ0:=Lib.hid (show (0:Int)=((0:Nat):Int) from rfl)
   go_upto_region 12 with (fail)
   generalize hwf:wr.alloc (Obj.cells (Z.setIfInBounds 0 (Value.slice A k c)) 193)=wf at *
   clear hZ hwf hn1 hn2
   have hcnt:=zby k l (by rintro rfl;simp at hlen;omega) (by omega)
   go_wp2_with (first
    | (go_at_call 138;((with_reducible refine (zj9 wr.heap.size k c A l (by omega) hlen hby HNE.out k 0 k _ _ (Nat.le_refl _) (by omega) (by omega) HV.out HF.out (TabOk.empty l) (0:Int) (k:Int) HZ0.out rfl).mono ?_);rw [show sub l 0 k=l by rw [←hlen];exact zjB l];rintro e w2 ⟨v1,tab2,rfl,hf2,ho2,hb2,hw2⟩;obtain ⟨A2,c2,rfl,hk2⟩:=zaD hw2 (by omega);have HB2:=Lib.hid hb2;have HK2:=Lib.hid hk2;clear hf2 ho2 hb2 hw2 hk2)))
   go_ret2
   have hE:findE l=0:=by rw [findE,if_neg (by omega),if_pos HB.out]
   have hL:findL l=mkT k l:=by rw [findL,if_pos hE,findT,if_neg (by rintro rfl;simp at hlen;omega),hlen]
   have hws:=Below.size hx
   refine ⟨A2,c2,by rw [hE,hL];rfl,?_,by rw [hL];exact HK2.out.mono fun b _ hb=>by omega⟩
   exact Below.trans HW.out (HB2.out.below (by omega) (fun k h=>by cases h;exact hws))
end Go.Proofs.YtkneghkbgingdaaGreatDoor
/- Terms of a row,put together from the left. -/
namespace Go.Proofs.YtkneghkbgingdaaGreatDoor
set_option maxRecDepth 100000
set_option maxRecDepth 100000
open Go.RowKit Go.ChangeShapes Go.WideShapes Go.Joins
theorem zc7 {x:St} {a b:Tms} (h:RunI a) (h0:a ≠ .nil):consR x (a.app b)=(consR x a).app b:=by
 rcases zbJ h with rfl | ⟨n,c,r,rfl, -, -⟩
 ·exact absurd rfl h0
 ·by_cases e:x=c
  ·subst e
   simp [consR,Tms.app]
  ·simp [consR,Tms.app,e]
theorem zjd:∀ {a b:Tms},RunI (a.app b)→RunI a:=by
 intro a
 induction a with
 | nil=>intro b _;trivial
 | cons n c g r _ ih =>
  intro b h
  rw [Tms.app] at h
  rcases zbJ h with e | ⟨n',c',r',e,h1,h2⟩
  ·cases e
  ·cases e
   exact ⟨h1,ih h2⟩
theorem ze0 (d:St):∀l:List St,∃(t0:Tms) (N:Nat),1≤N∧N≤l.length+1∧runsT (l++[d])=t0.app (.cons N d .nil .nil)∧runsT (l++[d]++[d])=t0.app (.cons ((N:Int)+1) d .nil .nil) ∧
  ∀c,c≠d→runsT (l++[d]++[c])=(runsT (l++[d])).app (.cons 1 c .nil .nil):=by
 intro l
 induction l with
 | nil =>
  refine ⟨.nil,1,by omega,by simp,rfl,by simp [runsT,consR,Tms.app],fun c hc=>?_⟩
  have hc2:¬d=c:=fun e=>hc e.symm
  simp [runsT,consR,Tms.app,hc2]
 | cons x l ih =>
  obtain ⟨t0,N,h1,h2,h3,h4,h5⟩:=ih
  have hR:RunI (runsT (l++[d])):=(zbX _).1
  have hnn:runsT (l++[d]) ≠ .nil:=by
   rw [h3]
   intro e
   have:=congrArg Tms.cnt e
   rw [zbn] at this
   simp [Tms.cnt] at this
  have e5:∀c,c≠d→runsT (x::l++[d]++[c])=(runsT (x::l++[d])).app (.cons 1 c .nil .nil):=fun c hc=>by
   show consR x (runsT (l++[d]++[c]))=(consR x (runsT (l++[d]))).app _
   rw [h5 c hc,zc7 hR hnn]
  by_cases h0:t0 = .nil
  ·subst h0
   simp only [Tms.app] at h3 h4
   by_cases e:x=d
   ·refine ⟨.nil,N+1,by omega,by simp only [List.length_cons];omega,?_,?_,e5⟩
    ·show consR x (runsT (l++[d]))=_
     rw [h3];simp [consR,e,Tms.app]
    ·show consR x (runsT (l++[d]++[d]))=_
     rw [h4];simp [consR,e,Tms.app]
   ·refine ⟨.cons 1 x .nil .nil,N,h1,by simp only [List.length_cons];omega,?_,?_,e5⟩
    ·show consR x (runsT (l++[d]))=_
     rw [h3];simp [consR,e,Tms.app]
    ·show consR x (runsT (l++[d]++[d]))=_
     rw [h4];simp [consR,e,Tms.app]
  ·have hR0:RunI t0:=zjd (b := .cons N d .nil .nil) (by rw [←h3];exact hR)
   refine ⟨consR x t0,N,h1,by simp only [List.length_cons];omega,?_,?_,e5⟩
   ·show consR x (runsT (l++[d]))=_
    rw [h3,zc7 hR0 h0]
   ·show consR x (runsT (l++[d]++[d]))=_
    rw [h4,zc7 hR0 h0]
theorem zhw {l:List St} {i:Nat} (h:i<l.length):l.take (i+1)=l.take i++[l.getD i st0]:=by
 rw [List.take_add_one,List.getElem?_eq_getElem h,List.getD_eq_getElem?_getD,List.getElem?_eq_getElem h]
 rfl
theorem zjn {l:List St} {i:Nat} (h0:0<i) (h:i<l.length) (he:l.getD i st0=l.getD (i-1) st0):∃(t0:Tms) (N:Nat),1≤N∧N≤i∧runsT (l.take i)=t0.app (.cons N (l.getD (i-1) st0) .nil .nil)∧runsT (l.take (i+1))=t0.app (.cons ((N:Int)+1) (l.getD (i-1) st0) .nil .nil):=by
 obtain ⟨j,rfl⟩:∃j,i=j+1:=⟨i-1,by omega⟩
 rw [Nat.add_sub_cancel] at he ⊢
 obtain ⟨t0,N,h1,h2,h3,h4, -⟩:=ze0 (l.getD j st0) (l.take j)
 refine ⟨t0,N,h1,by rw [List.length_take] at h2;omega,?_,?_⟩
 ·rw [zhw (by omega),h3]
 ·rw [zhw h,he,zhw (by omega),h4]
theorem zhR {l:List St} {i:Nat} (h:i<l.length) (he:i=0∨l.getD i st0≠l.getD (i-1) st0):runsT (l.take (i+1))=(runsT (l.take i)).app (.cons 1 (l.getD i st0) .nil .nil):=by
 cases i with
 | zero=>rw [zhw h];rfl
 | succ j =>
  rw [Nat.add_sub_cancel] at he
  obtain ⟨t0,N,h1,h2,h3,h4,h5⟩:=ze0 (l.getD j st0) (l.take j)
  rw [zhw h,zhw (by omega)]
  exact h5 _ (he.resolve_left (by omega))
theorem zkz {l:List St}:(runsT l).cnt≤l.length:=by
 have h1:=zav (runsT l)
 have h2:=(zbX l).2.2.1
 omega
theorem zfW {l:List St} {i j:Nat} (hij:i<j) (hj:j≤l.length) (hs:∀p,i≤p→p<j→l.getD p st0=l.getD i st0) (he:j=l.length∨l.getD j st0≠l.getD i st0) :
  runsT (l.drop i) = .cons ((j:Int)-(i:Int)) (l.getD i st0) .nil (runsT (l.drop j)):=by
 obtain ⟨n,hn⟩:∃n,j=i+(n+1):=⟨j-i-1,by omega⟩
 have e:l.drop i=List.replicate (n+1) (l.getD i st0)++l.drop j:=by
  apply List.ext_getElem?
  intro p
  rw [List.getElem?_drop]
  by_cases hp:p<n+1
  ·rw [List.getElem?_append_left (by rw [List.length_replicate];exact hp),List.getElem?_replicate,if_pos hp,List.getElem?_eq_getElem (by omega),←hs (i+p) (by omega) (by omega),List.getD_eq_getElem?_getD,List.getElem?_eq_getElem (by omega)]
   rfl
  ·rw [List.getElem?_append_right (by rw [List.length_replicate];omega),List.length_replicate,List.getElem?_drop]
   congr 1
   omega
 rw [e,zhU _ n (l.drop j) ?_]
 ·congr 1
  omega
 ·rw [List.head?_drop]
  rcases he with h | h
  ·rw [List.getElem?_eq_none (by omega)]
   simp
  ·by_cases hl:j<l.length
   ·rw [List.getElem?_eq_getElem hl]
    intro h9
    apply h
    rw [List.getD_eq_getElem?_getD,List.getElem?_eq_getElem hl]
    exact Option.some.inj h9
   ·rw [List.getElem?_eq_none (by omega)]
    simp
theorem ziE {w:World} {K:Nat→Prop}:∀ {a b:Tms} {L:List Value},RwK w K (a.app b) L→∃L1 L2,L=L1++L2∧RwK w K a L1∧RwK w K b L2:=by
 intro a
 induction a with
 | nil=>intro b L h;exact ⟨[],L,rfl,rfl,h⟩
 | cons n c g r _ ih =>
  intro b L h
  obtain ⟨A,m,cap,L',rfl,hk,hg,hr⟩:=h
  obtain ⟨L1,L2,rfl,h1,h2⟩:=ih hr
  exact ⟨_++L1,L2,by rw [List.append_assoc],⟨A,m,cap,L1,rfl,hk,hg,h1⟩,h2⟩
theorem OwnT.bump {w W0:World} {e:TypeId} {v:Value} {k:Nat} {t0:Tms} {N:Int} {c:St} (h:OwnT w W0.heap.size e v k (t0.app (.cons N c .nil .nil))) (hx:Ext W0 w) (u:Int) :
  ∃g cap,v = .slice (some ⟨g,0,none⟩) k cap∧W0.heap.size≤g∧g<w.heap.size∧k=t0.cnt+1∧w.cell? ⟨g,(k-1)*6,none⟩=some (.int .i64 N)∧w.frozen? ⟨g,(k-1)*6,none⟩=false ∧
   OwnT (w.setCell ⟨g,(k-1)*6,none⟩ (.int .i64 u)) W0.heap.size e v k (t0.app (.cons u c .nil .nil))∧Ext W0 (w.setCell ⟨g,(k-1)*6,none⟩ (.int .i64 u)):=by
 obtain ⟨h1,L,h2,h3⟩:=h
 rw [zbn] at h1
 simp only [Tms.cnt] at h1
 have hk:k=t0.cnt+1:=by omega
 obtain ⟨g,cap,rfl,hg1,hg2⟩:=World.ownsRow.form h2 (by omega)
 obtain ⟨L1,L2,rfl,r1,r2⟩:=ziE h3
 have hl1:L1.length=(k-1)*6:=by rw [r1.len];omega
 obtain ⟨A,n,cp,L',e1,hck,hgt,hr⟩:=r2
 have e2:L'=[]:=hr
 subst e2
 rw [List.append_nil] at e1
 subst e1
 refine ⟨g,cap,rfl,hg1,hg2,hk,?_,World.ownsRow.frozenAt h2 _,⟨by rw [zbn];simp only [Tms.cnt];omega,L1++[.int .i64 u,.int .u8 c.k,.bool c.p,.int .i64 c.a,.int .i64 c.b,.slice A n cp],?_,?_⟩,Below.setCell hx (by simpa using hg1) _⟩
 ·rw [World.ownsRow.cellAt h2 _ (by omega),List.getElem?_append_right (by omega),hl1,Nat.sub_self]
  rfl
 ·have h9:=(World.ownsRow.stored h2 ((k-1)*6) (.int .i64 u)).1
  rw [List.set_append_right _ _ (by omega),hl1,Nat.sub_self] at h9
  exact h9
 ·have hc:∀b,b<w.heap.size→(W0.heap.size≤b∧some b≠(Value.slice (some ⟨g,0,none⟩) k cap).ownBlock)→(W0.heap.size≤b∧some b≠(Value.slice (some ⟨g,0,none⟩) k cap).ownBlock)∧∀o,(w.setCell ⟨g,(k-1)*6,none⟩ (.int .i64 u)).cell? ⟨b,o,none⟩=w.cell? ⟨b,o,none⟩:=fun b _ hb =>
   ⟨hb,fun o=>World.cell?_setCell_other w _ _ _ (fun e=>hb.2 (by have:=congrArg Addr.block e;simp at this;simp [Value.ownBlock,this]))⟩
  have hz:w.heap.size≤(w.setCell ⟨g,(k-1)*6,none⟩ (.int .i64 u)).heap.size:=by simp [World.setCell]
  exact (r1.keep hz hc).app ⟨A,n,cp,[],rfl,hck,hgt.keep hz hc,rfl⟩
theorem OwnT.bump2 {w W0:World} {e:TypeId} {g k cap:Nat} {t0:Tms} {N:Int} {c:St} (h:OwnT w W0.heap.size e (.slice (some ⟨g,0,none⟩) k cap) k (t0.app (.cons N c .nil .nil))) (hx:Ext W0 w) (u:Int) :
  OwnT (w.setCell ⟨g,(k-1)*6,none⟩ (.int .i64 u)) W0.heap.size e (.slice (some ⟨g,0,none⟩) k cap) k (t0.app (.cons u c .nil .nil))∧Ext W0 (w.setCell ⟨g,(k-1)*6,none⟩ (.int .i64 u)):=by
 obtain ⟨g',cap',e, -, -, -, -, -,h1,h2⟩:=OwnT.bump h hx u
 cases e
 exact ⟨h1,h2⟩
theorem zaF {P:Program} {ops:Array Oper} {rest:List Oper} {o:Oper} {a:Act} {Q:Exit→Act→World→Prop} {w wx:World} (T e:TypeId) (z:Value) (bytes:Nat) {s x:Operand} {v:Value} {k:Nat} (g0:Nat) {t g:Tms} (N:Int) (c:St) {A:Option Addr} {n cap:Nat}
  (hgd:o.guard=none) (ho:o.op = .call { callee := .builtin .append,args:=#[s,x],argTypes:=#[T,T] })
  (ht:P.underlying T=some (.slice e)) (hinfo:(P.info? e).map (fun i=>(i.zero,i.size,i.bytes))=some (some z,6,bytes)) (hzs:z.cells.size=6) (hby:bytes≤1000)
  (hs:a.eval s=v) (hx:a.eval x = .slice (some ⟨g0,0,none⟩) 1 1) (hown:OwnT wx w.heap.size e v k t) (hext:Ext w wx) (hck:0≤c.k∧c.k≤255)
  (hg:TvK wx (fun b=>w.heap.size≤b∧some b≠v.ownBlock) A n g)
  (hA:∀j u,([.int .i64 N,.int .u8 c.k,.bool c.p,.int .i64 c.a,.int .i64 c.b,.slice A n cap]:List Value)[j]?=some u→wx.cell? ⟨g0,j,none⟩=some u) (hk:k+1≤1000000)
  (h:∀A' c' w1,OwnT w1 w.heap.size e (.slice A' (k+1) c') (k+1) (t.app (.cons N c g .nil))→Hid (Ext w w1)→wpList P ops Q rest (a.put o.dst (.slice A' (k+1) c')) w1):wpList P ops Q (o::rest) a wx :=
 wpList_plain hgd fun _ hK=>zbA T e z bytes g0 N c ho ht hinfo hzs hby hs hx hown hext hck hg hA hk fun v' w' h2 h3=>by
  obtain ⟨A',c',rfl, -⟩:=zaD h2 hk
  exact hK _ _ (h A' c' w' h2 h3)
def TermsR (l:List St) (w:World) (e:Ending) (w':World):Prop:=∃(A:Option Addr) (c:Nat),e = .returned (.slice A (termsT l).cnt c)∧Ext w w'∧TvK w' (fun b=>w.heap.size≤b) A (termsT l).cnt (termsT l)
theorem TermsR.of {l:List St} {w w':World} {A:Option Addr} {k c:Nat} {t:Tms} (ht:t=termsT l) (hk:TvK w' (fun b=>w.heap.size≤b) A k t) (he:Ext w w'):TermsR l w (.returned (.slice A k c)) w':=by
 subst ht
 obtain rfl:=hk.1
 exact ⟨A,c,rfl,he,hk⟩
theorem zeS {l:List St} (ha:allB l=true) (h:l.length≤60):findL l=termsT l:=by
 have h1:findE l=0:=by rw [findE,if_neg (by omega),if_pos ha]
 rw [findL,if_pos h1,termsT,if_pos h]
theorem zlE {l:List St} {n:Nat} (hl:l.length=n) (ha:allB l=true) (h:n≤60):findL l=termsT l:=zeS ha (by omega)
end Go.Proofs.YtkneghkbgingdaaGreatDoor
/- The reference's table of choices: how it lies in memory. -/
namespace Go.Proofs.YtkneghkbgingdaaGreatDoor
set_option maxRecDepth 100000
set_option maxRecDepth 100000
open Go.RowKit Go.ChangeShapes Go.WideShapes Go.Joins
def chc (c:Chc):List Value:=[.int .i64 (c.size:Nat),.int .i64 (c.period:Nat),.int .i64 (c.part:Nat)]
def shCh:Shp Chc where
 size:=3
 cells:=chc
 pos:=by omega
 len _:=rfl
 one p u h:=by
  simp [chc] at h
  rcases h with h | h | h <;> subst h <;> rfl
abbrev Hdr:Type:=Option Addr×Nat×Nat
def shHd:Shp Hdr where
 size:=1
 cells h:=[.slice h.1 h.2.1 h.2.2]
 pos:=by omega
 len _:=rfl
 one p u h:=by
  simp at h
  subst h
  rfl
def tabRow (l:List St) (r:Nat):List Chc:=if r=0 then List.replicate (l.length+1) ⟨0,0,0⟩ else (List.range (l.length+1-r)).map (fun i=>ch (sub l i r))
theorem zhl {l:List St} {r i:Nat} (hr:1≤r) (hi:i+r≤l.length):(tabRow l r)[i]?=some (ch (sub l i r)):=by
 unfold tabRow
 rw [if_neg (by omega),List.getElem?_map,List.getElem?_range (by omega)]
 rfl
def TbR (w:World) (A:Option Addr) (k:Nat) (l:List St):Prop:=∃H:List Hdr,Vec shHd w A k H∧∀r x,H[r]?=some x→Vec shCh w x.1 x.2.1 (tabRow l r)
theorem TbR.ext {w w':World} {A:Option Addr} {k:Nat} {l:List St} (h:TbR w A k l) (hb:Ext w w'):TbR w' A k l:=by
 obtain ⟨H,h1,h2⟩:=h
 exact ⟨H,h1.ext hb,fun r x hx=>(h2 r x hx).ext hb⟩
theorem TbR.get {w:World} {A:Option Addr} {k r i:Nat} {l:List St} {x:Chc} (h:TbR w A k l) (hk:r<k) (hx0:(tabRow l r)[i]?=some x) :
  ∃b off b' off' n' c',A=some ⟨b,off,none⟩∧b<w.heap.size∧w.cell? ⟨b,off+r,none⟩=some (.slice (some ⟨b',off',none⟩) n' c')∧i<n'∧b'<w.heap.size ∧
   w.cell? ⟨b',off'+i*3,none⟩=some (.int .i64 (x.size:Nat))∧w.cell? ⟨b',off'+i*3+1,none⟩=some (.int .i64 (x.period:Nat))∧w.cell? ⟨b',off'+i*3+2,none⟩=some (.int .i64 (x.part:Nat)):=by
 obtain ⟨H,h1,h2⟩:=h
 obtain ⟨b,off,rfl,hb,hc⟩:=h1.2 (by omega)
 have hl:=h1.1
 have hx:H[r]?=some (H[r]'(by omega)):=List.getElem?_eq_getElem (by omega)
 generalize H[r]'(by omega)=y at hx
 obtain ⟨A',n',c'⟩:=y
 have h3:=h2 r _ hx
 have h4:w.cell? ⟨b,off+(r*1+0),none⟩=some (.slice A' n' c'):=hc r _ hx 0 _ rfl
 rw [Nat.mul_one,Nat.add_zero] at h4
 have h5:(tabRow l r).length=n':=h3.1
 have h6:=(List.getElem?_eq_some_iff.1 hx0).1
 obtain ⟨b',off',e,hb',hc'⟩:=h3.2 (by show 0<n';omega)
 simp only at e
 subst e
 exact ⟨b,off,b',off',n',c',rfl,hb,h4,by omega,hb',hc' i _ hx0 0 _ rfl,hc' i _ hx0 1 _ rfl,hc' i _ hx0 2 _ rfl⟩
theorem TbR.at_ {w:World} {A:Option Addr} {k r i:Nat} {l:List St} (h:TbR w A k l) (hr:1≤r) (hk:r<k) (hi:i+r≤l.length) :
  ∃b off b' off' n' c',A=some ⟨b,off,none⟩∧b<w.heap.size∧w.cell? ⟨b,off+r,none⟩=some (.slice (some ⟨b',off',none⟩) n' c')∧i<n'∧b'<w.heap.size ∧
   w.cell? ⟨b',off'+i*3,none⟩=some (.int .i64 ((ch (sub l i r)).size:Nat))∧w.cell? ⟨b',off'+i*3+1,none⟩=some (.int .i64 ((ch (sub l i r)).period:Nat))∧w.cell? ⟨b',off'+i*3+2,none⟩=some (.int .i64 ((ch (sub l i r)).part:Nat)) :=
 h.get hk (zhl hr hi)
def TbO (w:World) (B:Nat) (e:TypeId) (v:Value) (k:Nat) (l:List St):Prop :=
 ∃H:List Hdr,OwnV shHd w B e v k H∧∀r x,H[r]?=some x→Vec shCh w x.1 x.2.1 (tabRow l r)∧∀b off,x.1=some ⟨b,off,none⟩→0<x.2.1→B≤b∧some b≠v.ownBlock
theorem TbO.ext {w w':World} {B k:Nat} {e:TypeId} {v:Value} {l:List St} (h:TbO w B e v k l) (hb:Ext w w'):TbO w' B e v k l:=by
 obtain ⟨H,h1,h2⟩:=h
 exact ⟨H,h1.ext hb,fun r x hx=>⟨(h2 r x hx).1.ext hb,(h2 r x hx).2⟩⟩
theorem TbO.read {w:World} {B k:Nat} {e:TypeId} {v:Value} {l:List St} (h:TbO w B e v k l):∃A c,v = .slice A k c∧TbR w A k l:=by
 obtain ⟨H,h1,h2⟩:=h
 obtain ⟨A,c,e1,h3⟩:=zcf h1
 exact ⟨A,c,e1,H,h3,fun r x hx=>(h2 r x hx).1⟩
theorem TbO.push {wx w1:World} {B k:Nat} {e:TypeId} {v v':Value} {l:List St} {A:Option Addr} {n c:Nat} {H:List Hdr}
  (h2:∀r x,H[r]?=some x→Vec shCh wx x.1 x.2.1 (tabRow l r)∧∀b off,x.1=some ⟨b,off,none⟩→0<x.2.1→B≤b∧some b≠v.ownBlock) (hk:H.length=k)
  (hr:Vec shCh wx A n (tabRow l k)) (hb:∀b off,A=some ⟨b,off,none⟩→0<n→B≤b∧some b≠v.ownBlock) (hg:wx.grownBy w1 v.ownBlock) (hv:v'.ownBlock=v.ownBlock∨v'.ownBlock=some wx.heap.size)
  (h1:OwnV shHd w1 B e v' (k+1) (H++[(A,n,c)])):TbO w1 B e v' (k+1) l:=by
 have key:∀ {A:Option Addr} {n:Nat} {L:List Chc},Vec shCh wx A n L→(∀b off,A=some ⟨b,off,none⟩→0<n→B≤b∧some b≠v.ownBlock)→Vec shCh w1 A n L∧∀b off,A=some ⟨b,off,none⟩→0<n→B≤b∧some b≠v'.ownBlock:=by
  intro A n L h hx
  refine ⟨⟨h.1,fun hn=>?_⟩,fun b off e0 hn=>⟨(hx b off e0 hn).1,?_⟩⟩
  ·obtain ⟨b,off,e0,hlt,hc⟩:=h.2 hn
   exact ⟨b,off,e0,Nat.lt_of_lt_of_le hlt (But.size hg),fun j x hj i u hu=>(But.cell (p:=⟨b,_,none⟩) hg hlt (hx b off e0 hn).2).trans (hc j x hj i u hu)⟩
  ·obtain ⟨b2,off2,e2,hlt,_⟩:=h.2 hn
   rw [e0] at e2
   cases e2
   rcases hv with hv | hv
   ·rw [hv];exact (hx b off e0 hn).2
   ·rw [hv];intro e9;cases e9;omega
 refine ⟨_,h1,fun r x hx=>?_⟩
 rcases Nat.lt_or_ge r k with hrk | hrk
 ·rw [List.getElem?_append_left (by omega)] at hx
  exact key (h2 r x hx).1 (h2 r x hx).2
 ·rw [List.getElem?_append_right (by omega),hk] at hx
  obtain ⟨h0,h3⟩:=List.getElem?_eq_some_iff.1 hx
  obtain rfl:r=k:=by simp at h0;omega
  simp at h3
  subst h3
  exact key hr hb
theorem zjt (w:World) (l:List St) {A:Option Addr} {n:Nat} (h:Vec shCh w A n (List.replicate (l.length+1) ⟨0,0,0⟩)):Vec shCh w A n (tabRow l 0):=by
 rw [tabRow,if_pos rfl]
 exact h
def rowUp (l:List St) (n i:Nat):List Chc:=(List.range i).map (fun j=>ch (sub l j n))
theorem zco (l:List St) (n i:Nat):rowUp l n (i+1)=rowUp l n i++[ch (sub l i n)]:=by
 simp [rowUp,List.range_succ]
theorem zjs {l:List St} {n i:Nat} (h1:1≤n) (h2:n≤l.length) (hi:i+n=l.length+1):rowUp l n i=tabRow l n:=by
 rw [tabRow,if_neg (by omega),rowUp]
 congr 2
 omega
theorem Vec.sub_ {w:World} {b off n a m:Nat} {l:List St} (h:Vec shSt w (some ⟨b,off,none⟩) n l) (ham:a+m≤n):Vec shSt w (some ⟨b,off+a*4,none⟩) m (sub l a m):=by
 have hl:=h.1
 refine ⟨zau (by omega),fun hm=>?_⟩
 obtain ⟨b',off',e,hb,hc⟩:=h.2 (by omega)
 cases e
 refine ⟨b,_,rfl,hb,fun k x hx i u hu=>?_⟩
 have hk:k<m:=by
  have:=(List.getElem?_eq_some_iff.1 hx).1
  rw [zau (by omega)] at this
  exact this
 rw [sub,List.getElem?_take,if_pos hk,List.getElem?_drop] at hx
 have:=hc (a+k) x hx i u hu
 rw [←this]
 congr 2
 show off+a*4+(k*4+i)=off+((a+k)*4+i)
 omega
end Go.Proofs.YtkneghkbgingdaaGreatDoor
