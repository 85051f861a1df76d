/- The contracts of the functions of stitch that count. -/
import Derived.Test.YtbjgpbojjhldaaaGreatDoorY03
import Derived.Deep.QuietTactic
import Derived.BigQuiet
import Derived.Laws.Small
import Derived.Deep.DeepCutAuto
set_option maxHeartbeats 16000000
namespace Go.Proofs.YtbjgpbojjhldaaaGreatDoor
set_option maxRecDepth 100000
open Go.RowKit
def formV (k:Int):Value := .agg #[.string ⟨(flt k).toArray⟩,.int .i64 (fa0 k),.int .i64 (fa1 k),.int .i64 (fb0 k),.int .i64 (fb1 k),.bool (fsd k),.int .i64 (fus k),.int .i64 (fmd k)]
theorem zaR (n lo hi:Int) (w:World) :
  Calls Tryz.prog 88 #[.int .i64 n,.agg #[.int .i64 lo,.int .i64 hi]] w fun e w'=>e = .returned (.bool (inR n lo hi))/\Ext w w':=by
 by_cases h:lo<=n
 ·go_enter Tryz.func88,Tryz.ntmps88
  go_wp2
  go_ret
  exact ⟨by simp [inR,h],zx⟩
 ·go_enter Tryz.func88,Tryz.ntmps88
  go_wp2
  go_ret
  exact ⟨by rw [zj5 (by omega)];rfl,zx⟩
def form0:Value := .agg #[.string ⟨#[]⟩,.int .i64 0,.int .i64 0,.int .i64 0,.int .i64 0,.bool false,.int .i64 0,.int .i64 0]
def formR (k:Int):Value:=if kindB k then formV k else form0
theorem zap (k:Int) (h0:0<=k) (h1:k<=255) (w:World):Calls Tryz.prog 87 #[.int .u8 k] w fun e w'=>e = .returned (.tuple #[formR k,.bool (kindB k)])/\Ext w w':=by
 go_enter Tryz.func87,Tryz.ntmps87
 go_upto_region 4 with (fail)
 have HR:∀b,kindB k=b->formR k=if b then formV k else form0:=fun b h=>by rw [formR,h]
 have aa:=Za HR
 clear HR
 cases hb:kindB k
 ·have HF:=Za (aa.out _ hb)
  have HB:=Za hb
  have ab:=zq4 hb
  clear hb
  rcases ab with ab | ab
  all_goals
   go_wp2
   exact bodyPost_ret (v := .tuple #[.agg #[.string ⟨#[]⟩,.int .i64 0,.int .i64 0,.int .i64 0,.int .i64 0,.bool false,.int .i64 0,.int .i64 0],.bool false]) (by simp [results,Tryz.results87,go_sem]) rfl ⟨by rw [HF.out,HB.out];rfl,by repeat (first | exact Ze _ | assumption | refine ZD ?_ _ | refine ZR ?_ | refine Ext.drewN ?_ _ | refine ZJ ?_ (by simp) _)⟩
 ·rcases zad hb with e | e | e | e | e | e | e | e | e | e
  ·subst e
   have HF:=Za (aa.out _ hb)
   clear hb h0 h1
   go_wp2
   exact bodyPost_ret (v := .tuple #[.agg #[.string ⟨#[]⟩,.int .i64 0,.int .i64 0,.int .i64 0,.int .i64 0,.bool true,.int .i64 1,.int .i64 1],.bool true]) (by simp [results,Tryz.results87,go_sem]) rfl ⟨by rw [HF.out];rfl,by repeat (first | exact Ze _ | assumption | refine ZD ?_ _ | refine ZR ?_ | refine Ext.drewN ?_ _ | refine ZJ ?_ (by simp) _)⟩
  ·subst e
   have HF:=Za (aa.out _ hb)
   clear hb h0 h1
   go_wp2
   exact bodyPost_ret (v := .tuple #[.agg #[.string ⟨#[]⟩,.int .i64 0,.int .i64 0,.int .i64 0,.int .i64 0,.bool false,.int .i64 0,.int .i64 1],.bool true]) (by simp [results,Tryz.results87,go_sem]) rfl ⟨by rw [HF.out];rfl,by repeat (first | exact Ze _ | assumption | refine ZD ?_ _ | refine ZR ?_ | refine Ext.drewN ?_ _ | refine ZJ ?_ (by simp) _)⟩
  ·subst e
   have HF:=Za (aa.out _ hb)
   clear hb h0 h1
   go_wp2
   exact bodyPost_ret (v := .tuple #[.agg #[.string ⟨#[102]⟩,.int .i64 2,.int .i64 4,.int .i64 0,.int .i64 0,.bool true,.int .i64 2,.int .i64 1],.bool true]) (by simp [results,Tryz.results87,go_sem]) rfl ⟨by rw [HF.out];rfl,by repeat (first | exact Ze _ | assumption | refine ZD ?_ _ | refine ZR ?_ | refine Ext.drewN ?_ _ | refine ZJ ?_ (by simp) _)⟩
  ·subst e
   have HF:=Za (aa.out _ hb)
   clear hb h0 h1
   go_wp2
   exact bodyPost_ret (v := .tuple #[.agg #[.string ⟨#[108]⟩,.int .i64 2,.int .i64 4,.int .i64 0,.int .i64 0,.bool true,.int .i64 2,.int .i64 1],.bool true]) (by simp [results,Tryz.results87,go_sem]) rfl ⟨by rw [HF.out];rfl,by repeat (first | exact Ze _ | assumption | refine ZD ?_ _ | refine ZR ?_ | refine Ext.drewN ?_ _ | refine ZJ ?_ (by simp) _)⟩
  ·subst e
   have HF:=Za (aa.out _ hb)
   clear hb h0 h1
   go_wp2
   exact bodyPost_ret (v := .tuple #[.agg #[.string ⟨#[109]⟩,.int .i64 2,.int .i64 4,.int .i64 0,.int .i64 0,.bool true,.int .i64 1,.int .i64 2],.bool true]) (by simp [results,Tryz.results87,go_sem]) rfl ⟨by rw [HF.out];rfl,by repeat (first | exact Ze _ | assumption | refine ZD ?_ _ | refine ZR ?_ | refine Ext.drewN ?_ _ | refine ZJ ?_ (by simp) _)⟩
  ·subst e
   have HF:=Za (aa.out _ hb)
   clear hb h0 h1
   go_wp2
   exact bodyPost_ret (v := .tuple #[.agg #[.string ⟨#[120]⟩,.int .i64 1,.int .i64 6,.int .i64 1,.int .i64 6,.bool true,.int .i64 3,.int .i64 3],.bool true]) (by simp [results,Tryz.results87,go_sem]) rfl ⟨by rw [HF.out];rfl,by repeat (first | exact Ze _ | assumption | refine ZD ?_ _ | refine ZR ?_ | refine Ext.drewN ?_ _ | refine ZJ ?_ (by simp) _)⟩
  ·subst e
   have HF:=Za (aa.out _ hb)
   clear hb h0 h1
   go_wp2
   exact bodyPost_ret (v := .tuple #[.agg #[.string ⟨#[121]⟩,.int .i64 1,.int .i64 6,.int .i64 1,.int .i64 6,.bool true,.int .i64 3,.int .i64 3],.bool true]) (by simp [results,Tryz.results87,go_sem]) rfl ⟨by rw [HF.out];rfl,by repeat (first | exact Ze _ | assumption | refine ZD ?_ _ | refine ZR ?_ | refine Ext.drewN ?_ _ | refine ZJ ?_ (by simp) _)⟩
  ·subst e
   have HF:=Za (aa.out _ hb)
   clear hb h0 h1
   go_wp2
   exact bodyPost_ret (v := .tuple #[.agg #[.string ⟨#[115]⟩,.int .i64 0,.int .i64 0,.int .i64 0,.int .i64 0,.bool true,.int .i64 1,.int .i64 1],.bool true]) (by simp [results,Tryz.results87,go_sem]) rfl ⟨by rw [HF.out];rfl,by repeat (first | exact Ze _ | assumption | refine ZD ?_ _ | refine ZR ?_ | refine Ext.drewN ?_ _ | refine ZJ ?_ (by simp) _)⟩
  ·subst e
   have HF:=Za (aa.out _ hb)
   clear hb h0 h1
   go_wp2
   exact bodyPost_ret (v := .tuple #[.agg #[.string ⟨#[]⟩,.int .i64 1,.int .i64 200,.int .i64 0,.int .i64 0,.bool false,.int .i64 0,.int .i64 2],.bool true]) (by simp [results,Tryz.results87,go_sem]) rfl ⟨by rw [HF.out];rfl,by repeat (first | exact Ze _ | assumption | refine ZD ?_ _ | refine ZR ?_ | refine Ext.drewN ?_ _ | refine ZJ ?_ (by simp) _)⟩
  ·subst e
   have HF:=Za (aa.out _ hb)
   clear hb h0 h1
   go_wp2
   exact bodyPost_ret (v := .tuple #[.agg #[.string ⟨#[111]⟩,.int .i64 1,.int .i64 200,.int .i64 0,.int .i64 0,.bool true,.int .i64 2,.int .i64 0],.bool true]) (by simp [results,Tryz.results87,go_sem]) rfl ⟨by rw [HF.out];rfl,by repeat (first | exact Ze _ | assumption | refine ZD ?_ _ | refine ZR ?_ | refine Ext.drewN ?_ _ | refine ZJ ?_ (by simp) _)⟩
theorem zmu (k:Int) (h0:0<=k) (h1:k<=255) (hb:kindB k=false) (w:World):Calls Tryz.prog 87 #[.int .u8 k] w fun e w'=>e = .returned (.tuple #[form0,.bool false])/\Ext w w':=by
 have:=zap k h0 h1 w
 rwa [formR,hb] at this
theorem zb8 (k:Int) (hb:kindB k=true) (w:World):Calls Tryz.prog 87 #[.int .u8 k] w fun e w'=>e = .returned (.tuple #[formV k,.bool true])/\Ext w w':=by
 have h2:=zaq hb
 have:=zap k (by omega) (by omega) w
 rwa [formR,hb] at this
end Go.Proofs.YtbjgpbojjhldaaaGreatDoor
/- The contracts of Check,sum,All,Uses,Makes and Same of stitch. -/
namespace Go.Proofs.YtbjgpbojjhldaaaGreatDoor
set_option maxRecDepth 100000
open Go.RowKit
theorem zaG (k:Int) (p:Bool) (a b:Int) (h0:0<=k) (h1:k<=255) (w:World) :
  Calls Tryz.prog 52 #[.agg #[.int .u8 k,.bool p,.int .i64 a,.int .i64 b]] w fun e w'=>e = .returned (.int .i64 (okE ⟨k,p,a,b⟩))/\Ext w w':=by
 cases hk:kindB k
 ·have HE:=Za (show okE ⟨k,p,a,b⟩=8 by simp [okE,okSt,hk])
  go_enter Tryz.func52,Tryz.ntmps52
  go_wp2_with (go_at_call 87;((with_reducible refine (zmu k h0 h1 hk _).mono ?_);rintro e w1 ⟨rfl,ab⟩;unfold form0))
  go_ret
  exact ⟨by rw [HE.out];rfl,zx⟩
 cases ha:inR a (fa0 k) (fa1 k)
 ·have HE:=Za (show okE ⟨k,p,a,b⟩=8 by simp [okE,okSt,hk,ha])
  go_enter Tryz.func52,Tryz.ntmps52
  go_wp2_with (first | (go_at_call 87;((with_reducible refine (zb8 k hk _).mono ?_);rintro e w1 ⟨rfl,ab⟩;unfold formV;obtain ⟨hf1,ad,ae⟩:=ab.facts)) | (go_at_call 88;((with_reducible refine (zaR a (fa0 k) (fa1 k) _).mono ?_);rintro e w2 ⟨rfl,aa⟩;obtain ⟨af,ag,ah⟩:=aa.facts;obtain ⟨ai,aj,ak⟩:=(Zm ((ab.alloc _)) aa).facts)))
  go_ret
  exact ⟨by rw [HE.out];rfl,zx⟩
 cases hb:inR b (fb0 k) (fb1 k)
 ·have HE:=Za (show okE ⟨k,p,a,b⟩=8 by simp [okE,okSt,hk,ha,hb])
  go_enter Tryz.func52,Tryz.ntmps52
  go_wp2_with (first | (go_at_call 87;((with_reducible refine (zb8 k hk _).mono ?_);rintro e w1 ⟨rfl,ab⟩;unfold formV;obtain ⟨hf1,ad,ae⟩:=ab.facts)) | (go_at_call 88;((with_reducible refine (zaR a (fa0 k) (fa1 k) _).mono ?_);rintro e w2 ⟨rfl,aa⟩;obtain ⟨af,ag,ah⟩:=aa.facts;obtain ⟨ai,aj,ak⟩:=(Zm ((ab.alloc _)) aa).facts)) | (go_at_call 88;((with_reducible refine (zaR b (fb0 k) (fb1 k) _).mono ?_);rintro e w3 ⟨rfl,ac⟩;obtain ⟨al,am,ao⟩:=(aa.trans ac).facts;obtain ⟨ap,aq,ar⟩:=(Zm (Zm ((ab.alloc _)) aa) ac).facts)))
  go_ret
  exact ⟨by rw [HE.out];rfl,zx⟩
 have HE:=Za (show okE ⟨k,p,a,b⟩=if (p && !fsd k) then 8 else 0 by cases p <;> cases e:fsd k <;> simp [okE,okSt,hk,ha,hb,e])
 cases p
 ·go_enter Tryz.func52,Tryz.ntmps52
  go_wp2_with (first | (go_at_call 87;((with_reducible refine (zb8 k hk _).mono ?_);rintro e w1 ⟨rfl,ab⟩;unfold formV;obtain ⟨hf1,ad,ae⟩:=ab.facts)) | (go_at_call 88;((with_reducible refine (zaR a (fa0 k) (fa1 k) _).mono ?_);rintro e w2 ⟨rfl,aa⟩;obtain ⟨af,ag,ah⟩:=aa.facts;obtain ⟨ai,aj,ak⟩:=(Zm ((ab.alloc _)) aa).facts)) | (go_at_call 88;((with_reducible refine (zaR b (fb0 k) (fb1 k) _).mono ?_);rintro e w3 ⟨rfl,ac⟩;obtain ⟨al,am,ao⟩:=(aa.trans ac).facts;obtain ⟨ap,aq,ar⟩:=(Zm (Zm ((ab.alloc _)) aa) ac).facts)))
  go_ret
  exact ⟨by rw [HE.out];rfl,zx⟩
 cases hs:fsd k
 all_goals
  rw [hs] at HE
  go_enter Tryz.func52,Tryz.ntmps52
  go_wp2_with (first | (go_at_call 87;((with_reducible refine (zb8 k hk _).mono ?_);rintro e w1 ⟨rfl,ab⟩;unfold formV;obtain ⟨hf1,ad,ae⟩:=ab.facts)) | (go_at_call 88;((with_reducible refine (zaR a (fa0 k) (fa1 k) _).mono ?_);rintro e w2 ⟨rfl,aa⟩;obtain ⟨af,ag,ah⟩:=aa.facts;obtain ⟨ai,aj,ak⟩:=(Zm ((ab.alloc _)) aa).facts)) | (go_at_call 88;((with_reducible refine (zaR b (fb0 k) (fb1 k) _).mono ?_);rintro e w3 ⟨rfl,ac⟩;obtain ⟨al,am,ao⟩:=(aa.trans ac).facts;obtain ⟨ap,aq,ar⟩:=(Zm (Zm ((ab.alloc _)) aa) ac).facts)))
  go_ret
  exact ⟨by rw [HE.out];rfl,zx⟩
theorem zft (k:Int) (p:Bool) (a b how:Int) (ha : -1000<=a/\a<=1000) (hb : -1000<=b/\b<=1000) (hh:0<=how/\how<=3) (w:World) :
  Calls Tryz.prog 126 #[.agg #[.int .u8 k,.bool p,.int .i64 a,.int .i64 b],.int .i64 how] w fun e w'=>e = .returned (.int .i64 (lpV a b how))/\Ext w w':=by
 obtain ⟨ha0,ha1⟩:=ha
 obtain ⟨hb0,hb1⟩:=hb
 have i0:∀(x y:Int) w,(Instr.index 126 (.agg #[.int .i64 0,.int .i64 1,.int .i64 x,.int .i64 y]) (.int .i64 0)).run Tryz.prog w = .ok (.int .i64 0) w:=fun _ _ _=>by kernel_rfl
 have i1:∀(x y:Int) w,(Instr.index 126 (.agg #[.int .i64 0,.int .i64 1,.int .i64 x,.int .i64 y]) (.int .i64 1)).run Tryz.prog w = .ok (.int .i64 1) w:=fun _ _ _=>by kernel_rfl
 have i2:∀(x y:Int) w,(Instr.index 126 (.agg #[.int .i64 0,.int .i64 1,.int .i64 x,.int .i64 y]) (.int .i64 2)).run Tryz.prog w = .ok (.int .i64 x) w:=fun _ _ _=>by kernel_rfl
 have i3:∀(x y:Int) w,(Instr.index 126 (.agg #[.int .i64 0,.int .i64 1,.int .i64 x,.int .i64 y]) (.int .i64 3)).run Tryz.prog w = .ok (.int .i64 y) w:=fun _ _ _=>by kernel_rfl
 have aa:how=0∨how=1∨how=2∨how=3:=by omega
 rcases aa with rfl | rfl | rfl | rfl
 all_goals
  go_enter Tryz.func126,Tryz.ntmps126
  go_wp2
  go_ret
  exact ⟨rfl,zx⟩
theorem zlk (n c:Nat) (A:Option Addr) (l:List St) (w:World) (hl:Vec shSt w A n l) (hn:n<=200) (hb:allB l=true) :
  Calls Tryz.prog 83 #[.slice A n c] w fun e w'=>e = .returned (.tuple #[.int .i64 (usL l),.int .i64 (mkL l)])/\Ext w w':=by
 have HX:=Za hl
 have HB:=Za hb
 have HL:=Za hl.1
 clear hl hb
 go_enter Tryz.func83,Tryz.ntmps83
 go_wp2_with fail
 go_loopw [2,3,10] (fun u m i wr=>∃k:Nat,k<=n/\i = .int .i64 k/\u = .int .i64 (usL (l.take k))/\m = .int .i64 (mkL (l.take k))/\Hid (Ext w wr)) (fun _ _ i _=>n-(intOf i).toNat)
 case atStart=>exact ⟨0,by omega,rfl,by simp [usL],by simp [mkL],Ze _⟩
 case round =>
  obtain ⟨k,hk,rfl,rfl,rfl,aa⟩:=hrel
  have hxr:=aa.out
  by_cases hlt:k<n
  ·obtain ⟨b,off,rfl,hb1,hc⟩:=Sts.all (Vec.ext HX.out aa.out) (by omega)
   obtain ⟨c1,c2,c3,c4⟩:=hc k hlt
   have hz:=Zn wr _ c1
   have hok:=zda HB.out (k:=k) (by rw [HL.out];exact hlt)
   have h1:=Za (zh2 (l:=l) (k:=k) (by rw [HL.out];exact hlt))
   have h2:=Za (zhA (l:=l) (k:=k) (by rw [HL.out];exact hlt))
   obtain ⟨⟨s1,s2⟩,⟨s3,s4⟩⟩:=zll HB.out k (by rw [HL.out];omega)
   have ad:=Za (zaK hok)
   obtain ⟨⟨t1,t2,t3,t4⟩,⟨t5,t6⟩,⟨t7,t8⟩,⟨t9,t10⟩,⟨t11,t12⟩⟩:=zky hok
   clear hc hok
   generalize l.getD k st0=s at *
   obtain ⟨sk,sp,sa,sb⟩:=s
   simp only at c1 c2 c3 c4 t1 t2 t3 t4 t5 t6 t7 t8 t9 t10 t11 t12
   unfold usV at t5 t6 h1
   unfold mkV at t7 t8 h2
   simp only at t5 t6 t7 t8 h1 h2
   generalize usL (l.take k)=U at *
   generalize mkL (l.take k)=M at *
   go_wp2_with (first | (go_at_call 87;((with_reducible refine (zb8 sk ad.out _).mono ?_);rintro e w1 ⟨rfl,ab⟩;unfold formV;obtain ⟨hf1,hf2,hf3⟩:=ab.facts)) | (go_at_call 126;((with_reducible refine (zft sk sp sa sb (fus sk) (by omega) (by omega) (by omega) _).mono ?_);rintro e w2 ⟨rfl,ac⟩;obtain ⟨hg1,hg2,hg3⟩:=ac.facts;obtain ⟨hh1,hh2,hh3⟩:=(Zm (ab.alloc _) ac).facts)) | (go_at_call 126;((with_reducible refine (zft sk sp sa sb (fmd sk) (by omega) (by omega) (by omega) _).mono ?_);rintro e w3 ⟨rfl,hq3⟩)))
   go_roundw
   case rel=>exact ⟨k+1,by omega,by go_num,by rw [h1.out],by rw [h2.out],zx⟩
   case measure=>simp [intOf];omega
  ·obtain rfl:k=n:=by omega
   have e1:l.take k=l:=Zs (by rw [HL.out];omega)
   rw [e1]
   clear e1
   go_wp2
   go_ret2
   exact ⟨rfl,zx⟩
theorem zhc (k:Int) (p:Bool) (a b:Int) (h0:0<=k) (h1:k<=255) (w:World) :
  Calls Tryz.prog 82 #[.agg #[.int .u8 k,.bool p,.int .i64 a,.int .i64 b]] w fun e w'=>e = .returned (.bool (!okSt ⟨k,p,a,b⟩))/\Ext w w':=by
 have HE:=Za (show okE ⟨k,p,a,b⟩=if okSt ⟨k,p,a,b⟩ then 0 else 8 from rfl)
 have hc:=zaG k p a b h0 h1
 cases h:okSt ⟨k,p,a,b⟩
 all_goals
  rw [h] at HE
  rw [show okE ⟨k,p,a,b⟩=_ from HE.out] at hc
  have HC:=Za hc
  clear hc
  go_enter Tryz.func82,Tryz.ntmps82
  go_wp2_with (go_at_call 52;((with_reducible refine (HC.out _).mono ?_);rintro e w1 ⟨rfl,hq1⟩))
  go_ret
  exact ⟨rfl,zx⟩
theorem ziw (n c:Nat) (A:Option Addr) (l:List St) (w:World) (hl:Vec shSt w A n l) (hn:n<=maxLen) (hby:Bytes l) :
  Calls Tryz.prog 125 #[.slice A n c,.func (.func 82) #[] #[]] w fun e w'=>(∃j:Int,e = .returned (.int .i64 j)/\decide (0<=j) = !allB l /\ -1<=j)/\Ext w w':=by
 have HX:=Za hl
 have HL:=Za hl.1
 have ac:=Za hby
 unfold maxLen at hn
 have hn2:(n:Int)<=9223372036854775807:=by omega
 clear hl hby hn
 go_enter Tryz.func125,Tryz.ntmps125
 go_wp2_with fail
 go_loopw [8] (fun i wr=>∃k:Nat,k<=n/\i = .int .i64 k/\Hid (∀j,j<k->okSt (l.getD j st0)=true)/\Hid (Ext w wr)) (fun i _=>n-(intOf i).toNat)
 case atStart=>exact ⟨0,by omega,rfl,fun j hj=>absurd hj (by omega),Ze _⟩
 case round =>
  obtain ⟨k,hk,rfl,aa,ab⟩:=hrel
  have hxr:=ab.out
  by_cases hlt:k<n
  ·obtain ⟨b,off,rfl,hb1,hc⟩:=Sts.all (Vec.ext HX.out ab.out) (by omega)
   obtain ⟨c1,c2,c3,c4⟩:=hc k hlt
   obtain ⟨y1,y2⟩:=ac.out k (by rw [HL.out];exact hlt)
   clear hc
   cases hr:okSt (l.getD k st0)
   ·have HA:=Za (zhd HL.out hlt hr)
    generalize l.getD k st0=s at *
    obtain ⟨sk,sp,sa,sb⟩:=s
    simp only at c1 c2 c3 c4 y1 y2
    have HR:=Za hr
    clear hr aa
    go_wp2_with fail
    refine (zhc sk sp sa sb y1 y2 wr).mono ?_
    rintro e w1 ⟨rfl,ad⟩
    rw [HR.out]
    go_wp2
    go_ret
    exact ⟨⟨k,rfl,by rw [HA.out];simp,by omega⟩,zx⟩
   ·have HA:=Za (show ∀j,j<k+1->okSt (l.getD j st0)=true from fun j hj=>by
      by_cases e:j=k
      ·subst e;exact hr
      ·exact aa.out j (by omega))
    generalize l.getD k st0=s at *
    obtain ⟨sk,sp,sa,sb⟩:=s
    simp only at c1 c2 c3 c4 y1 y2
    have HR:=Za hr
    clear hr aa
    go_wp2_with fail
    refine (zhc sk sp sa sb y1 y2 wr).mono ?_
    rintro e w1 ⟨rfl,ad⟩
    rw [HR.out]
    go_wp2
    go_roundw
    case rel=>exact ⟨k+1,by omega,by go_num,HA,zx⟩
    case measure=>simp [intOf];omega
  ·obtain rfl:k=n:=by omega
   have HA:=Za (zi9 HL.out aa.out)
   go_wp2
   go_ret
   exact ⟨⟨-1,rfl,by rw [HA.out];simp,by omega⟩,zx⟩
theorem zex (n c:Nat) (A:Option Addr) (l:List St) (w:World) (hl:Vec shSt w A n l) (hn:n<=maxLen) (hby:Bytes l) :
  Calls Tryz.prog 81 #[.slice A n c,.func (.func 82) #[] #[]] w fun e w'=>e = .returned (.bool (!allB l))/\Ext w w':=by
 have HI:=Za (ziw n c A l w hl hn hby)
 go_enter Tryz.func81,Tryz.ntmps81
 go_wp2_with (go_at_call 125;((with_reducible refine (HI.out).mono ?_);rintro e w1 ⟨⟨j,rfl,hj,hj2⟩,hq1⟩;have HJ:=Za hj;clear hj))
 go_ret
 exact ⟨by rw [<-HJ.out];rfl,zx⟩
theorem zcm (n c:Nat) (A:Option Addr) (l:List St) (w:World) (hl:Vec shSt w A n l) (hn:n<=maxLen) (hby:Bytes l) :
  Calls Tryz.prog 49 #[.slice A n c] w fun e w'=>e = .returned (.int .i64 (allE l))/\Ext w w':=by
 have HX:=Za hl
 have HL:=Za hl.1
 have hn2:(n:Int)<=9223372036854775807:=by unfold maxLen at hn;omega
 by_cases h1:200<n
 ·have HE:=Za (zja (l:=l) (by rw [HL.out];exact h1))
  clear hl hby
  go_enter Tryz.func49,Tryz.ntmps49
  go_wp2
  go_ret
  exact ⟨by rw [HE.out];rfl,zx⟩
 have HI:=Za (zex n c A l w hl hn hby)
 clear hl hby
 cases h2:allB l
 ·have HE:=Za (zlP (l:=l) (by rw [HL.out];exact h1) h2)
  go_enter Tryz.func49,Tryz.ntmps49
  go_wp2_with (go_at_call 81;((with_reducible refine (HI.out).mono ?_);rintro e w1 ⟨rfl,aa⟩))
  go_ret
  exact ⟨by rw [HE.out];rfl,zx⟩
 have HB:=Za h2
 have ab:=zll h2 l.length (Zb _)
 rw [Zs (Zb _)] at ab
 rw [HL.out] at ab
 obtain ⟨⟨s1,s2⟩,⟨s3,s4⟩⟩:=ab
 have hmx:∀(ts:Array TypeId) (t:TypeId) (w:World),(Builtin.max_ ts t #[.int .i64 (usL l),.int .i64 (mkL l)]).run Tryz.prog w = .ok (.int .i64 (max (usL l) (mkL l))) w:=fun ts t w=>by
  rw [run_max_int2];congr 2;split <;> omega
 by_cases h3:200<max (usL l) (mkL l)
 ·have HE:=Za (zjb (l:=l) (by rw [HL.out];exact h1) h2 h3)
  have ac:decide (200<max (usL l) (mkL l))=true:=by simpa using h3
  clear h3
  go_enter Tryz.func49,Tryz.ntmps49
  go_wp2_with (first | (go_at_call 81;((with_reducible refine (HI.out).mono ?_);rintro e w1 ⟨rfl,aa⟩)) | (go_at_call 83;((with_reducible refine (zlk n c A l _ (Vec.ext HX.out aa) (by omega) HB.out).mono ?_);rintro e w2 ⟨rfl,ad⟩)))
  go_ret
  exact ⟨by rw [HE.out];rfl,zx⟩
 ·have HE:=Za (zoS (l:=l) (by rw [HL.out];exact h1) h2 h3)
  have ac:decide (200<max (usL l) (mkL l))=false:=by simpa using h3
  clear h3
  go_enter Tryz.func49,Tryz.ntmps49
  go_wp2_with (first | (go_at_call 81;((with_reducible refine (HI.out).mono ?_);rintro e w1 ⟨rfl,aa⟩)) | (go_at_call 83;((with_reducible refine (zlk n c A l _ (Vec.ext HX.out aa) (by omega) HB.out).mono ?_);rintro e w2 ⟨rfl,ad⟩)))
  go_ret
  exact ⟨by rw [HE.out];rfl,zx⟩
end Go.Proofs.YtbjgpbojjhldaaaGreatDoor
/- The contracts of Uses,Makes and Same of stitch,and of the reference of what counts. -/
namespace Go.Proofs.YtbjgpbojjhldaaaGreatDoor
set_option maxRecDepth 100000
open Go.RowKit
attribute [local go_sem] zaA

end Go.Proofs.YtbjgpbojjhldaaaGreatDoor
