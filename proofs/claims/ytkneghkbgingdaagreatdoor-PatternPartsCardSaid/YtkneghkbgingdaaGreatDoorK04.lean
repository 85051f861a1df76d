/- The contracts of the functions of stitch that count. -/
import Derived.Test.YtkneghkbgingdaaGreatDoorK03
namespace Go.Proofs.YtkneghkbgingdaaGreatDoor
set_option maxHeartbeats 16000000
set_option maxRecDepth 100000
open Go.RowKit
def formV (k:Int):Value := .agg #[.string ⟨(flt k).toArray⟩,.int .i64 (fa0 k),.int .i64 (fa1 k),.int .i64 (fb0 k),.int .i64 (fb1 k),.bool (fsd k),.int .i64 (fus k),.int .i64 (fmd k)]
theorem zaU (n lo hi:Int) (w:World) :
  Calls Tryz.prog 165 #[.int .i64 n,.agg #[.int .i64 lo,.int .i64 hi]] w fun e w'=>e = .returned (.bool (inR n lo hi))∧Ext w w':=by
 by_cases h:lo≤n
 ·go_enter Tryz.func165,Tryz.ntmps165
  go_wp2
  go_ret
  exact ⟨by simp [inR,h],zx⟩
 ·go_enter Tryz.func165,Tryz.ntmps165
  go_wp2
  go_ret
  exact ⟨by rw [zmr (by omega)];rfl,zx⟩
def form0:Value := .agg #[.string ⟨#[]⟩,.int .i64 0,.int .i64 0,.int .i64 0,.int .i64 0,.bool false,.int .i64 0,.int .i64 0]
def formR (k:Int):Value:=if kindB k then formV k else form0
theorem zas (k:Int) (h0:0≤k) (h1:k≤255) (w:World):Calls Tryz.prog 157 #[.int .u8 k] w fun e w'=>e = .returned (.tuple #[formR k,.bool (kindB k)])∧Ext w w':=by
 go_enter Tryz.func157,Tryz.ntmps157
 go_upto_region 4 with (fail)
 have HR:∀b,kindB k=b→formR k=if b then formV k else form0:=fun b h=>by rw [formR,h]
 have HRH:=Za HR
 clear HR
 cases hb:kindB k
 ·have HF:=Za (HRH.out _ hb)
  have HB:=Za hb
  have hb2:=znA hb
  clear hb
  rcases hb2 with hb2 | hb2
  all_goals
   go_wp2
   exact bodyPost_ret (v := .tuple #[.agg #[.string ⟨#[]⟩,.int .i64 0,.int .i64 0,.int .i64 0,.int .i64 0,.bool false,.int .i64 0,.int .i64 0],.bool false]) (by simp [results,Tryz.results157,go_sem]) rfl ⟨by rw [HF.out,HB.out];rfl,by repeat (first | exact Zd _ | assumption | refine Zl ?_ _ | refine ZN ?_ | refine Ext.drewN ?_ _ | refine Zi ?_ (by simp) _)⟩
 ·rcases zay hb with e | e | e | e | e | e | e | e | e | e
  ·subst e
   have HF:=Za (HRH.out _ hb)
   clear hb h0 h1
   go_wp2
   exact bodyPost_ret (v := .tuple #[.agg #[.string ⟨#[]⟩,.int .i64 0,.int .i64 0,.int .i64 0,.int .i64 0,.bool true,.int .i64 1,.int .i64 1],.bool true]) (by simp [results,Tryz.results157,go_sem]) rfl ⟨by rw [HF.out];rfl,by repeat (first | exact Zd _ | assumption | refine Zl ?_ _ | refine ZN ?_ | refine Ext.drewN ?_ _ | refine Zi ?_ (by simp) _)⟩
  ·subst e
   have HF:=Za (HRH.out _ hb)
   clear hb h0 h1
   go_wp2
   exact bodyPost_ret (v := .tuple #[.agg #[.string ⟨#[]⟩,.int .i64 0,.int .i64 0,.int .i64 0,.int .i64 0,.bool false,.int .i64 0,.int .i64 1],.bool true]) (by simp [results,Tryz.results157,go_sem]) rfl ⟨by rw [HF.out];rfl,by repeat (first | exact Zd _ | assumption | refine Zl ?_ _ | refine ZN ?_ | refine Ext.drewN ?_ _ | refine Zi ?_ (by simp) _)⟩
  ·subst e
   have HF:=Za (HRH.out _ hb)
   clear hb h0 h1
   go_wp2
   exact bodyPost_ret (v := .tuple #[.agg #[.string ⟨#[102]⟩,.int .i64 2,.int .i64 4,.int .i64 0,.int .i64 0,.bool true,.int .i64 2,.int .i64 1],.bool true]) (by simp [results,Tryz.results157,go_sem]) rfl ⟨by rw [HF.out];rfl,by repeat (first | exact Zd _ | assumption | refine Zl ?_ _ | refine ZN ?_ | refine Ext.drewN ?_ _ | refine Zi ?_ (by simp) _)⟩
  ·subst e
   have HF:=Za (HRH.out _ hb)
   clear hb h0 h1
   go_wp2
   exact bodyPost_ret (v := .tuple #[.agg #[.string ⟨#[108]⟩,.int .i64 2,.int .i64 4,.int .i64 0,.int .i64 0,.bool true,.int .i64 2,.int .i64 1],.bool true]) (by simp [results,Tryz.results157,go_sem]) rfl ⟨by rw [HF.out];rfl,by repeat (first | exact Zd _ | assumption | refine Zl ?_ _ | refine ZN ?_ | refine Ext.drewN ?_ _ | refine Zi ?_ (by simp) _)⟩
  ·subst e
   have HF:=Za (HRH.out _ hb)
   clear hb h0 h1
   go_wp2
   exact bodyPost_ret (v := .tuple #[.agg #[.string ⟨#[109]⟩,.int .i64 2,.int .i64 4,.int .i64 0,.int .i64 0,.bool true,.int .i64 1,.int .i64 2],.bool true]) (by simp [results,Tryz.results157,go_sem]) rfl ⟨by rw [HF.out];rfl,by repeat (first | exact Zd _ | assumption | refine Zl ?_ _ | refine ZN ?_ | refine Ext.drewN ?_ _ | refine Zi ?_ (by simp) _)⟩
  ·subst e
   have HF:=Za (HRH.out _ hb)
   clear hb h0 h1
   go_wp2
   exact bodyPost_ret (v := .tuple #[.agg #[.string ⟨#[120]⟩,.int .i64 1,.int .i64 6,.int .i64 1,.int .i64 6,.bool true,.int .i64 3,.int .i64 3],.bool true]) (by simp [results,Tryz.results157,go_sem]) rfl ⟨by rw [HF.out];rfl,by repeat (first | exact Zd _ | assumption | refine Zl ?_ _ | refine ZN ?_ | refine Ext.drewN ?_ _ | refine Zi ?_ (by simp) _)⟩
  ·subst e
   have HF:=Za (HRH.out _ hb)
   clear hb h0 h1
   go_wp2
   exact bodyPost_ret (v := .tuple #[.agg #[.string ⟨#[121]⟩,.int .i64 1,.int .i64 6,.int .i64 1,.int .i64 6,.bool true,.int .i64 3,.int .i64 3],.bool true]) (by simp [results,Tryz.results157,go_sem]) rfl ⟨by rw [HF.out];rfl,by repeat (first | exact Zd _ | assumption | refine Zl ?_ _ | refine ZN ?_ | refine Ext.drewN ?_ _ | refine Zi ?_ (by simp) _)⟩
  ·subst e
   have HF:=Za (HRH.out _ hb)
   clear hb h0 h1
   go_wp2
   exact bodyPost_ret (v := .tuple #[.agg #[.string ⟨#[115]⟩,.int .i64 0,.int .i64 0,.int .i64 0,.int .i64 0,.bool true,.int .i64 1,.int .i64 1],.bool true]) (by simp [results,Tryz.results157,go_sem]) rfl ⟨by rw [HF.out];rfl,by repeat (first | exact Zd _ | assumption | refine Zl ?_ _ | refine ZN ?_ | refine Ext.drewN ?_ _ | refine Zi ?_ (by simp) _)⟩
  ·subst e
   have HF:=Za (HRH.out _ hb)
   clear hb h0 h1
   go_wp2
   exact bodyPost_ret (v := .tuple #[.agg #[.string ⟨#[]⟩,.int .i64 1,.int .i64 200,.int .i64 0,.int .i64 0,.bool false,.int .i64 0,.int .i64 2],.bool true]) (by simp [results,Tryz.results157,go_sem]) rfl ⟨by rw [HF.out];rfl,by repeat (first | exact Zd _ | assumption | refine Zl ?_ _ | refine ZN ?_ | refine Ext.drewN ?_ _ | refine Zi ?_ (by simp) _)⟩
  ·subst e
   have HF:=Za (HRH.out _ hb)
   clear hb h0 h1
   go_wp2
   exact bodyPost_ret (v := .tuple #[.agg #[.string ⟨#[111]⟩,.int .i64 1,.int .i64 200,.int .i64 0,.int .i64 0,.bool true,.int .i64 2,.int .i64 0],.bool true]) (by simp [results,Tryz.results157,go_sem]) rfl ⟨by rw [HF.out];rfl,by repeat (first | exact Zd _ | assumption | refine Zl ?_ _ | refine ZN ?_ | refine Ext.drewN ?_ _ | refine Zi ?_ (by simp) _)⟩
theorem zkz (k:Int) (h0:0≤k) (h1:k≤255) (hb:kindB k=false) (w:World):Calls Tryz.prog 157 #[.int .u8 k] w fun e w'=>e = .returned (.tuple #[form0,.bool false])∧Ext w w':=by
 have:=zas k h0 h1 w
 rwa [formR,hb] at this
theorem zcb (k:Int) (hb:kindB k=true) (w:World):Calls Tryz.prog 157 #[.int .u8 k] w fun e w'=>e = .returned (.tuple #[formV k,.bool true])∧Ext w w':=by
 have h2:=zbf hb
 have:=zas k (by omega) (by omega) w
 rwa [formR,hb] at this
end Go.Proofs.YtkneghkbgingdaaGreatDoor
