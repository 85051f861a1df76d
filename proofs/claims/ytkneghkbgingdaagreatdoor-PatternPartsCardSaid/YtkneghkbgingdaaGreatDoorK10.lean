/- The text of a stitch. -/
import Derived.Test.YtkneghkbgingdaaGreatDoorK09
namespace Go.Proofs.YtkneghkbgingdaaGreatDoor
set_option maxHeartbeats 16000000
set_option maxRecDepth 100000
open Go.RowKit
theorem zlK (w:World):Calls Tryz.prog 157 #[.int .u8 1] w fun e w'=>e = .returned (.tuple #[.agg #[.string ⟨#[]⟩,.int .i64 0,.int .i64 0,.int .i64 0,.int .i64 0,.bool true,.int .i64 1,.int .i64 1],.bool true])∧Ext w w':=zas 1 (by omega) (by omega) w
theorem ziw (w:World):Calls Tryz.prog 157 #[.int .u8 3] w fun e w'=>e = .returned (.tuple #[.agg #[.string ⟨#[102]⟩,.int .i64 2,.int .i64 4,.int .i64 0,.int .i64 0,.bool true,.int .i64 2,.int .i64 1],.bool true])∧Ext w w':=zas 3 (by omega) (by omega) w
theorem zix (w:World):Calls Tryz.prog 157 #[.int .u8 4] w fun e w'=>e = .returned (.tuple #[.agg #[.string ⟨#[108]⟩,.int .i64 2,.int .i64 4,.int .i64 0,.int .i64 0,.bool true,.int .i64 2,.int .i64 1],.bool true])∧Ext w w':=zas 4 (by omega) (by omega) w
theorem ziy (w:World):Calls Tryz.prog 157 #[.int .u8 5] w fun e w'=>e = .returned (.tuple #[.agg #[.string ⟨#[109]⟩,.int .i64 2,.int .i64 4,.int .i64 0,.int .i64 0,.bool true,.int .i64 1,.int .i64 2],.bool true])∧Ext w w':=zas 5 (by omega) (by omega) w
theorem ziz (w:World):Calls Tryz.prog 157 #[.int .u8 6] w fun e w'=>e = .returned (.tuple #[.agg #[.string ⟨#[120]⟩,.int .i64 1,.int .i64 6,.int .i64 1,.int .i64 6,.bool true,.int .i64 3,.int .i64 3],.bool true])∧Ext w w':=zas 6 (by omega) (by omega) w
theorem ziA (w:World):Calls Tryz.prog 157 #[.int .u8 7] w fun e w'=>e = .returned (.tuple #[.agg #[.string ⟨#[121]⟩,.int .i64 1,.int .i64 6,.int .i64 1,.int .i64 6,.bool true,.int .i64 3,.int .i64 3],.bool true])∧Ext w w':=zas 7 (by omega) (by omega) w
theorem ziB (w:World):Calls Tryz.prog 157 #[.int .u8 8] w fun e w'=>e = .returned (.tuple #[.agg #[.string ⟨#[115]⟩,.int .i64 0,.int .i64 0,.int .i64 0,.int .i64 0,.bool true,.int .i64 1,.int .i64 1],.bool true])∧Ext w w':=zas 8 (by omega) (by omega) w
theorem zfJ (w:World):Calls Tryz.prog 157 #[.int .u8 10] w fun e w'=>e = .returned (.tuple #[.agg #[.string ⟨#[111]⟩,.int .i64 1,.int .i64 200,.int .i64 0,.int .i64 0,.bool true,.int .i64 2,.int .i64 0],.bool true])∧Ext w w':=zas 10 (by omega) (by omega) w
theorem znG {s:St} (h:okSt s=true):0≤s.a∧s.a≤200∧0≤s.b∧s.b≤6:=by
 obtain ⟨hk,ha,hb,_⟩:=zlP h
 have ha:=zbf ha
 have hb:=zbf hb
 rcases zay hk with e | e | e | e | e | e | e | e | e | e <;> rw [e] at ha hb <;> simp [fa0,fa1,fb0,fb1] at ha hb <;> omega
theorem zn0 (p:Bool) (a b:Int) (w:World) :
  Calls Tryz.prog 182 #[.agg #[.int .u8 1,.bool p,.int .i64 a,.int .i64 b]] w fun e w'=>e = .returned (.string ⟨(wordT ⟨1,p,a,b⟩).toArray⟩)∧Ext w w':=by
 cases p
 ·go_enter Tryz.func182,Tryz.ntmps182
  go_wp2_with (first
   | (go_at_call 157;((with_reducible refine (zlK _).mono ?_);rintro e w1 ⟨rfl,hq1⟩;obtain ⟨hc1,hf1,hz1⟩:=hq1.facts)))
  exact bodyPost_ret (v := .string ((⟨#[107]⟩:ByteArray)++(⟨#[]⟩:ByteArray))) (by simp [results,Tryz.f182,go_sem]) rfl ⟨congrArg (fun x=>Ending.returned (.string x)) (ByteArray.ext (by rw [show wordT ⟨1,false,a,b⟩=[107]++[]++[]++[] from by rfl];simp)),zx⟩
 ·go_enter Tryz.func182,Tryz.ntmps182
  go_wp2_with (first
   | (go_at_call 157;((with_reducible refine (zlK _).mono ?_);rintro e w1 ⟨rfl,hq1⟩;obtain ⟨hc1,hf1,hz1⟩:=hq1.facts)))
  exact bodyPost_ret (v := .string ((⟨#[112]⟩:ByteArray)++(⟨#[]⟩:ByteArray))) (by simp [results,Tryz.f182,go_sem]) rfl ⟨congrArg (fun x=>Ending.returned (.string x)) (ByteArray.ext (by rw [show wordT ⟨1,true,a,b⟩=[112]++[]++[]++[] from by rfl];simp)),zx⟩
theorem zn1 (p:Bool) (a b:Int) (w:World) :
  Calls Tryz.prog 182 #[.agg #[.int .u8 2,.bool p,.int .i64 a,.int .i64 b]] w fun e w'=>e = .returned (.string ⟨(wordT ⟨2,p,a,b⟩).toArray⟩)∧Ext w w':=by
 go_enter Tryz.func182,Tryz.ntmps182
 go_wp2
 go_ret
 exact ⟨rfl,zx⟩
theorem zn2 (p:Bool) (a b:Int) (h0:0≤a) (h1:a≤200) (w:World) (hg:Glob w) :
  Calls Tryz.prog 182 #[.agg #[.int .u8 3,.bool p,.int .i64 a,.int .i64 b]] w fun e w'=>e = .returned (.string ⟨(wordT ⟨3,p,a,b⟩).toArray⟩)∧Ext w w':=by
 have HG:=Za hg
 clear hg
 have d1:=zae a.toNat
 cases p
 ·go_enter Tryz.func182,Tryz.ntmps182
  go_wp2_with (first
   | (go_at_call 157;((with_reducible refine (ziw _).mono ?_);rintro e w1 ⟨rfl,hq1⟩;obtain ⟨hc1,hf1,hz1⟩:=hq1.facts))
   | (go_at_call 37;(first | ((with_reducible refine (zaf a h0 (by omega) _ (HG.out.ext zx)).mono ?_);rintro e w2 ⟨rfl,hq2⟩;obtain ⟨hc2,hf2,hz2⟩:=hq2.facts))))
  exact bodyPost_ret (v := .string ((⟨#[107]⟩:ByteArray)++(⟨#[102]⟩:ByteArray)++(⟨(decD a.toNat).toArray⟩:ByteArray))) (by simp [results,Tryz.f182,go_sem]) rfl ⟨congrArg (fun x=>Ending.returned (.string x)) (ByteArray.ext (by rw [show wordT ⟨3,false,a,b⟩=[107]++[102]++decD a.toNat++[] from by rfl];simp)),zx⟩
 ·go_enter Tryz.func182,Tryz.ntmps182
  go_wp2_with (first
   | (go_at_call 157;((with_reducible refine (ziw _).mono ?_);rintro e w1 ⟨rfl,hq1⟩;obtain ⟨hc1,hf1,hz1⟩:=hq1.facts))
   | (go_at_call 37;(first | ((with_reducible refine (zaf a h0 (by omega) _ (HG.out.ext zx)).mono ?_);rintro e w2 ⟨rfl,hq2⟩;obtain ⟨hc2,hf2,hz2⟩:=hq2.facts))))
  exact bodyPost_ret (v := .string ((⟨#[112]⟩:ByteArray)++(⟨#[102]⟩:ByteArray)++(⟨(decD a.toNat).toArray⟩:ByteArray))) (by simp [results,Tryz.f182,go_sem]) rfl ⟨congrArg (fun x=>Ending.returned (.string x)) (ByteArray.ext (by rw [show wordT ⟨3,true,a,b⟩=[112]++[102]++decD a.toNat++[] from by rfl];simp)),zx⟩
theorem zn3 (p:Bool) (a b:Int) (h0:0≤a) (h1:a≤200) (w:World) (hg:Glob w) :
  Calls Tryz.prog 182 #[.agg #[.int .u8 4,.bool p,.int .i64 a,.int .i64 b]] w fun e w'=>e = .returned (.string ⟨(wordT ⟨4,p,a,b⟩).toArray⟩)∧Ext w w':=by
 have HG:=Za hg
 clear hg
 have d1:=zae a.toNat
 cases p
 ·go_enter Tryz.func182,Tryz.ntmps182
  go_wp2_with (first
   | (go_at_call 157;((with_reducible refine (zix _).mono ?_);rintro e w1 ⟨rfl,hq1⟩;obtain ⟨hc1,hf1,hz1⟩:=hq1.facts))
   | (go_at_call 37;(first | ((with_reducible refine (zaf a h0 (by omega) _ (HG.out.ext zx)).mono ?_);rintro e w2 ⟨rfl,hq2⟩;obtain ⟨hc2,hf2,hz2⟩:=hq2.facts))))
  exact bodyPost_ret (v := .string ((⟨#[107]⟩:ByteArray)++(⟨#[108]⟩:ByteArray)++(⟨(decD a.toNat).toArray⟩:ByteArray))) (by simp [results,Tryz.f182,go_sem]) rfl ⟨congrArg (fun x=>Ending.returned (.string x)) (ByteArray.ext (by rw [show wordT ⟨4,false,a,b⟩=[107]++[108]++decD a.toNat++[] from by rfl];simp)),zx⟩
 ·go_enter Tryz.func182,Tryz.ntmps182
  go_wp2_with (first
   | (go_at_call 157;((with_reducible refine (zix _).mono ?_);rintro e w1 ⟨rfl,hq1⟩;obtain ⟨hc1,hf1,hz1⟩:=hq1.facts))
   | (go_at_call 37;(first | ((with_reducible refine (zaf a h0 (by omega) _ (HG.out.ext zx)).mono ?_);rintro e w2 ⟨rfl,hq2⟩;obtain ⟨hc2,hf2,hz2⟩:=hq2.facts))))
  exact bodyPost_ret (v := .string ((⟨#[112]⟩:ByteArray)++(⟨#[108]⟩:ByteArray)++(⟨(decD a.toNat).toArray⟩:ByteArray))) (by simp [results,Tryz.f182,go_sem]) rfl ⟨congrArg (fun x=>Ending.returned (.string x)) (ByteArray.ext (by rw [show wordT ⟨4,true,a,b⟩=[112]++[108]++decD a.toNat++[] from by rfl];simp)),zx⟩
theorem zn4 (p:Bool) (a b:Int) (h0:0≤a) (h1:a≤200) (w:World) (hg:Glob w) :
  Calls Tryz.prog 182 #[.agg #[.int .u8 5,.bool p,.int .i64 a,.int .i64 b]] w fun e w'=>e = .returned (.string ⟨(wordT ⟨5,p,a,b⟩).toArray⟩)∧Ext w w':=by
 have HG:=Za hg
 clear hg
 have d1:=zae a.toNat
 cases p
 ·go_enter Tryz.func182,Tryz.ntmps182
  go_wp2_with (first
   | (go_at_call 157;((with_reducible refine (ziy _).mono ?_);rintro e w1 ⟨rfl,hq1⟩;obtain ⟨hc1,hf1,hz1⟩:=hq1.facts))
   | (go_at_call 37;(first | ((with_reducible refine (zaf a h0 (by omega) _ (HG.out.ext zx)).mono ?_);rintro e w2 ⟨rfl,hq2⟩;obtain ⟨hc2,hf2,hz2⟩:=hq2.facts))))
  exact bodyPost_ret (v := .string ((⟨#[107]⟩:ByteArray)++(⟨#[109]⟩:ByteArray)++(⟨(decD a.toNat).toArray⟩:ByteArray))) (by simp [results,Tryz.f182,go_sem]) rfl ⟨congrArg (fun x=>Ending.returned (.string x)) (ByteArray.ext (by rw [show wordT ⟨5,false,a,b⟩=[107]++[109]++decD a.toNat++[] from by rfl];simp)),zx⟩
 ·go_enter Tryz.func182,Tryz.ntmps182
  go_wp2_with (first
   | (go_at_call 157;((with_reducible refine (ziy _).mono ?_);rintro e w1 ⟨rfl,hq1⟩;obtain ⟨hc1,hf1,hz1⟩:=hq1.facts))
   | (go_at_call 37;(first | ((with_reducible refine (zaf a h0 (by omega) _ (HG.out.ext zx)).mono ?_);rintro e w2 ⟨rfl,hq2⟩;obtain ⟨hc2,hf2,hz2⟩:=hq2.facts))))
  exact bodyPost_ret (v := .string ((⟨#[112]⟩:ByteArray)++(⟨#[109]⟩:ByteArray)++(⟨(decD a.toNat).toArray⟩:ByteArray))) (by simp [results,Tryz.f182,go_sem]) rfl ⟨congrArg (fun x=>Ending.returned (.string x)) (ByteArray.ext (by rw [show wordT ⟨5,true,a,b⟩=[112]++[109]++decD a.toNat++[] from by rfl];simp)),zx⟩
theorem zn5 (p:Bool) (a b:Int) (h0:0≤a) (h1:a≤200) (h2:0≤b) (h3:b≤6) (w:World) (hg:Glob w) :
  Calls Tryz.prog 182 #[.agg #[.int .u8 6,.bool p,.int .i64 a,.int .i64 b]] w fun e w'=>e = .returned (.string ⟨(wordT ⟨6,p,a,b⟩).toArray⟩)∧Ext w w':=by
 have HG:=Za hg
 clear hg
 have d1:=zae a.toNat
 have d2:=zae b.toNat
 cases p
 ·go_enter Tryz.func182,Tryz.ntmps182
  go_wp2_with (first
   | (go_at_call 157;((with_reducible refine (ziz _).mono ?_);rintro e w1 ⟨rfl,hq1⟩;obtain ⟨hc1,hf1,hz1⟩:=hq1.facts))
   | (go_at_call 37;(first | ((with_reducible refine (zaf a h0 (by omega) _ (HG.out.ext zx)).mono ?_);rintro e w2 ⟨rfl,hq2⟩;obtain ⟨hc2,hf2,hz2⟩:=hq2.facts;have hqb:=Zb hq1 (Zb ((Zd w1).alloc (.cells #[.string ⟨#[120]⟩,.int .i64 1,.int .i64 6,.int .i64 1,.int .i64 6,.bool true,.int .i64 3,.int .i64 3] 216)) hq2);obtain ⟨hcb,hfb,hzb⟩:=hqb.facts) | ((with_reducible refine (zaf b h2 (by omega) _ (HG.out.ext zx)).mono ?_);rintro e w3 ⟨rfl,hq3⟩))))
  exact bodyPost_ret (v := .string ((⟨#[107]⟩:ByteArray)++(⟨#[120]⟩:ByteArray)++(⟨(decD a.toNat).toArray⟩:ByteArray)++((⟨#[47]⟩:ByteArray)++(⟨(decD b.toNat).toArray⟩:ByteArray)))) (by simp [results,Tryz.f182,go_sem]) rfl ⟨congrArg (fun x=>Ending.returned (.string x)) (ByteArray.ext (by rw [show wordT ⟨6,false,a,b⟩=[107]++[120]++decD a.toNat++(47::decD b.toNat) from by rfl];simp)),zx⟩
 ·go_enter Tryz.func182,Tryz.ntmps182
  go_wp2_with (first
   | (go_at_call 157;((with_reducible refine (ziz _).mono ?_);rintro e w1 ⟨rfl,hq1⟩;obtain ⟨hc1,hf1,hz1⟩:=hq1.facts))
   | (go_at_call 37;(first | ((with_reducible refine (zaf a h0 (by omega) _ (HG.out.ext zx)).mono ?_);rintro e w2 ⟨rfl,hq2⟩;obtain ⟨hc2,hf2,hz2⟩:=hq2.facts;have hqb:=Zb hq1 (Zb ((Zd w1).alloc (.cells #[.string ⟨#[120]⟩,.int .i64 1,.int .i64 6,.int .i64 1,.int .i64 6,.bool true,.int .i64 3,.int .i64 3] 216)) hq2);obtain ⟨hcb,hfb,hzb⟩:=hqb.facts) | ((with_reducible refine (zaf b h2 (by omega) _ (HG.out.ext zx)).mono ?_);rintro e w3 ⟨rfl,hq3⟩))))
  exact bodyPost_ret (v := .string ((⟨#[112]⟩:ByteArray)++(⟨#[120]⟩:ByteArray)++(⟨(decD a.toNat).toArray⟩:ByteArray)++((⟨#[47]⟩:ByteArray)++(⟨(decD b.toNat).toArray⟩:ByteArray)))) (by simp [results,Tryz.f182,go_sem]) rfl ⟨congrArg (fun x=>Ending.returned (.string x)) (ByteArray.ext (by rw [show wordT ⟨6,true,a,b⟩=[112]++[120]++decD a.toNat++(47::decD b.toNat) from by rfl];simp)),zx⟩
theorem zn6 (p:Bool) (a b:Int) (h0:0≤a) (h1:a≤200) (h2:0≤b) (h3:b≤6) (w:World) (hg:Glob w) :
  Calls Tryz.prog 182 #[.agg #[.int .u8 7,.bool p,.int .i64 a,.int .i64 b]] w fun e w'=>e = .returned (.string ⟨(wordT ⟨7,p,a,b⟩).toArray⟩)∧Ext w w':=by
 have HG:=Za hg
 clear hg
 have d1:=zae a.toNat
 have d2:=zae b.toNat
 cases p
 ·go_enter Tryz.func182,Tryz.ntmps182
  go_wp2_with (first
   | (go_at_call 157;((with_reducible refine (ziA _).mono ?_);rintro e w1 ⟨rfl,hq1⟩;obtain ⟨hc1,hf1,hz1⟩:=hq1.facts))
   | (go_at_call 37;(first | ((with_reducible refine (zaf a h0 (by omega) _ (HG.out.ext zx)).mono ?_);rintro e w2 ⟨rfl,hq2⟩;obtain ⟨hc2,hf2,hz2⟩:=hq2.facts;have hqb:=Zb hq1 (Zb ((Zd w1).alloc (.cells #[.string ⟨#[121]⟩,.int .i64 1,.int .i64 6,.int .i64 1,.int .i64 6,.bool true,.int .i64 3,.int .i64 3] 216)) hq2);obtain ⟨hcb,hfb,hzb⟩:=hqb.facts) | ((with_reducible refine (zaf b h2 (by omega) _ (HG.out.ext zx)).mono ?_);rintro e w3 ⟨rfl,hq3⟩))))
  exact bodyPost_ret (v := .string ((⟨#[107]⟩:ByteArray)++(⟨#[121]⟩:ByteArray)++(⟨(decD a.toNat).toArray⟩:ByteArray)++((⟨#[47]⟩:ByteArray)++(⟨(decD b.toNat).toArray⟩:ByteArray)))) (by simp [results,Tryz.f182,go_sem]) rfl ⟨congrArg (fun x=>Ending.returned (.string x)) (ByteArray.ext (by rw [show wordT ⟨7,false,a,b⟩=[107]++[121]++decD a.toNat++(47::decD b.toNat) from by rfl];simp)),zx⟩
 ·go_enter Tryz.func182,Tryz.ntmps182
  go_wp2_with (first
   | (go_at_call 157;((with_reducible refine (ziA _).mono ?_);rintro e w1 ⟨rfl,hq1⟩;obtain ⟨hc1,hf1,hz1⟩:=hq1.facts))
   | (go_at_call 37;(first | ((with_reducible refine (zaf a h0 (by omega) _ (HG.out.ext zx)).mono ?_);rintro e w2 ⟨rfl,hq2⟩;obtain ⟨hc2,hf2,hz2⟩:=hq2.facts;have hqb:=Zb hq1 (Zb ((Zd w1).alloc (.cells #[.string ⟨#[121]⟩,.int .i64 1,.int .i64 6,.int .i64 1,.int .i64 6,.bool true,.int .i64 3,.int .i64 3] 216)) hq2);obtain ⟨hcb,hfb,hzb⟩:=hqb.facts) | ((with_reducible refine (zaf b h2 (by omega) _ (HG.out.ext zx)).mono ?_);rintro e w3 ⟨rfl,hq3⟩))))
  exact bodyPost_ret (v := .string ((⟨#[112]⟩:ByteArray)++(⟨#[121]⟩:ByteArray)++(⟨(decD a.toNat).toArray⟩:ByteArray)++((⟨#[47]⟩:ByteArray)++(⟨(decD b.toNat).toArray⟩:ByteArray)))) (by simp [results,Tryz.f182,go_sem]) rfl ⟨congrArg (fun x=>Ending.returned (.string x)) (ByteArray.ext (by rw [show wordT ⟨7,true,a,b⟩=[112]++[121]++decD a.toNat++(47::decD b.toNat) from by rfl];simp)),zx⟩
theorem zn7 (p:Bool) (a b:Int) (w:World) :
  Calls Tryz.prog 182 #[.agg #[.int .u8 8,.bool p,.int .i64 a,.int .i64 b]] w fun e w'=>e = .returned (.string ⟨(wordT ⟨8,p,a,b⟩).toArray⟩)∧Ext w w':=by
 cases p
 ·go_enter Tryz.func182,Tryz.ntmps182
  go_wp2_with (first
   | (go_at_call 157;((with_reducible refine (ziB _).mono ?_);rintro e w1 ⟨rfl,hq1⟩;obtain ⟨hc1,hf1,hz1⟩:=hq1.facts)))
  exact bodyPost_ret (v := .string ((⟨#[107]⟩:ByteArray)++(⟨#[115]⟩:ByteArray))) (by simp [results,Tryz.f182,go_sem]) rfl ⟨congrArg (fun x=>Ending.returned (.string x)) (ByteArray.ext (by rw [show wordT ⟨8,false,a,b⟩=[107]++[115]++[]++[] from by rfl];simp)),zx⟩
 ·go_enter Tryz.func182,Tryz.ntmps182
  go_wp2_with (first
   | (go_at_call 157;((with_reducible refine (ziB _).mono ?_);rintro e w1 ⟨rfl,hq1⟩;obtain ⟨hc1,hf1,hz1⟩:=hq1.facts)))
  exact bodyPost_ret (v := .string ((⟨#[112]⟩:ByteArray)++(⟨#[115]⟩:ByteArray))) (by simp [results,Tryz.f182,go_sem]) rfl ⟨congrArg (fun x=>Ending.returned (.string x)) (ByteArray.ext (by rw [show wordT ⟨8,true,a,b⟩=[112]++[115]++[]++[] from by rfl];simp)),zx⟩
theorem zn8 (p:Bool) (a b:Int) (h0:0≤a) (h1:a≤200) (w:World) (hg:Glob w) :
  Calls Tryz.prog 182 #[.agg #[.int .u8 9,.bool p,.int .i64 a,.int .i64 b]] w fun e w'=>e = .returned (.string ⟨(wordT ⟨9,p,a,b⟩).toArray⟩)∧Ext w w':=by
 have HG:=Za hg
 clear hg
 have d1:=zae a.toNat
 go_enter Tryz.func182,Tryz.ntmps182
 go_wp2_with (first
   | (go_at_call 37;(first | ((with_reducible refine (zaf a h0 (by omega) _ (HG.out.ext zx)).mono ?_);rintro e w2 ⟨rfl,hq2⟩;obtain ⟨hc2,hf2,hz2⟩:=hq2.facts))))
 go_ret
 exact ⟨congrArg (fun x=>Ending.returned (.string x)) (ByteArray.ext (by rw [show wordT ⟨9,p,a,b⟩=[111,110]++decD a.toNat from rfl];simp)),zx⟩
theorem znc (p:Bool) (a b:Int) (h0:0≤a) (h1:a≤200) (w:World) (hg:Glob w) :
  Calls Tryz.prog 182 #[.agg #[.int .u8 10,.bool p,.int .i64 a,.int .i64 b]] w fun e w'=>e = .returned (.string ⟨(wordT ⟨10,p,a,b⟩).toArray⟩)∧Ext w w':=by
 have HG:=Za hg
 clear hg
 have d1:=zae a.toNat
 cases p
 ·go_enter Tryz.func182,Tryz.ntmps182
  go_wp2_with (first
   | (go_at_call 157;((with_reducible refine (zfJ _).mono ?_);rintro e w1 ⟨rfl,hq1⟩;obtain ⟨hc1,hf1,hz1⟩:=hq1.facts))
   | (go_at_call 37;(first | ((with_reducible refine (zaf a h0 (by omega) _ (HG.out.ext zx)).mono ?_);rintro e w2 ⟨rfl,hq2⟩;obtain ⟨hc2,hf2,hz2⟩:=hq2.facts))))
  exact bodyPost_ret (v := .string ((⟨#[107]⟩:ByteArray)++(⟨#[111]⟩:ByteArray)++(⟨(decD a.toNat).toArray⟩:ByteArray))) (by simp [results,Tryz.f182,go_sem]) rfl ⟨congrArg (fun x=>Ending.returned (.string x)) (ByteArray.ext (by rw [show wordT ⟨10,false,a,b⟩=[107]++[111]++decD a.toNat++[] from by rfl];simp)),zx⟩
 ·go_enter Tryz.func182,Tryz.ntmps182
  go_wp2_with (first
   | (go_at_call 157;((with_reducible refine (zfJ _).mono ?_);rintro e w1 ⟨rfl,hq1⟩;obtain ⟨hc1,hf1,hz1⟩:=hq1.facts))
   | (go_at_call 37;(first | ((with_reducible refine (zaf a h0 (by omega) _ (HG.out.ext zx)).mono ?_);rintro e w2 ⟨rfl,hq2⟩;obtain ⟨hc2,hf2,hz2⟩:=hq2.facts))))
  exact bodyPost_ret (v := .string ((⟨#[112]⟩:ByteArray)++(⟨#[111]⟩:ByteArray)++(⟨(decD a.toNat).toArray⟩:ByteArray))) (by simp [results,Tryz.f182,go_sem]) rfl ⟨congrArg (fun x=>Ending.returned (.string x)) (ByteArray.ext (by rw [show wordT ⟨10,true,a,b⟩=[112]++[111]++decD a.toNat++[] from by rfl];simp)),zx⟩
theorem zlC (s:St) (h:okSt s=true) (w:World) (hg:Glob w) :
  Calls Tryz.prog 182 #[.agg #[.int .u8 s.k,.bool s.p,.int .i64 s.a,.int .i64 s.b]] w fun e w'=>e = .returned (.string ⟨(wordT s).toArray⟩)∧Ext w w':=by
 obtain ⟨h0,h1,h2,h3⟩:=znG h
 obtain ⟨k,p,a,b⟩:=s
 have hk:=zec h
 simp only at h0 h1 h2 h3 hk ⊢
 rcases zay hk with e | e | e | e | e | e | e | e | e | e <;> subst e
 ·exact zn0 p a b w
 ·exact zn1 p a b w
 ·exact zn2 p a b h0 h1 w hg
 ·exact zn3 p a b h0 h1 w hg
 ·exact zn4 p a b h0 h1 w hg
 ·exact zn5 p a b h0 h1 h2 h3 w hg
 ·exact zn6 p a b h0 h1 h2 h3 w hg
 ·exact zn7 p a b w
 ·exact zn8 p a b h0 h1 w hg
 ·exact znc p a b h0 h1 w hg
end Go.Proofs.YtkneghkbgingdaaGreatDoor
