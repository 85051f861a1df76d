/- The text of a stitch. -/
import Derived.Test.YtbjgpbojjhldaaaGreatDoorY08
set_option maxHeartbeats 16000000
namespace Go.Proofs.YtbjgpbojjhldaaaGreatDoor
set_option maxRecDepth 100000
open Go.RowKit
theorem zov (w:World):Calls Tryz.prog 87 #[.int .u8 1] w fun e w'=>e = .returned (.tuple #[.agg #[.string ⟨#[]⟩,.int .i64 0,.int .i64 0,.int .i64 0,.int .i64 0,.bool true,.int .i64 1,.int .i64 1],.bool true])/\Ext w w':=zap 1 (by omega) (by omega) w
theorem zjQ (w:World):Calls Tryz.prog 87 #[.int .u8 3] w fun e w'=>e = .returned (.tuple #[.agg #[.string ⟨#[102]⟩,.int .i64 2,.int .i64 4,.int .i64 0,.int .i64 0,.bool true,.int .i64 2,.int .i64 1],.bool true])/\Ext w w':=zap 3 (by omega) (by omega) w
theorem zjR (w:World):Calls Tryz.prog 87 #[.int .u8 4] w fun e w'=>e = .returned (.tuple #[.agg #[.string ⟨#[108]⟩,.int .i64 2,.int .i64 4,.int .i64 0,.int .i64 0,.bool true,.int .i64 2,.int .i64 1],.bool true])/\Ext w w':=zap 4 (by omega) (by omega) w
theorem zjS (w:World):Calls Tryz.prog 87 #[.int .u8 5] w fun e w'=>e = .returned (.tuple #[.agg #[.string ⟨#[109]⟩,.int .i64 2,.int .i64 4,.int .i64 0,.int .i64 0,.bool true,.int .i64 1,.int .i64 2],.bool true])/\Ext w w':=zap 5 (by omega) (by omega) w
theorem zjT (w:World):Calls Tryz.prog 87 #[.int .u8 6] w fun e w'=>e = .returned (.tuple #[.agg #[.string ⟨#[120]⟩,.int .i64 1,.int .i64 6,.int .i64 1,.int .i64 6,.bool true,.int .i64 3,.int .i64 3],.bool true])/\Ext w w':=zap 6 (by omega) (by omega) w
theorem zjU (w:World):Calls Tryz.prog 87 #[.int .u8 7] w fun e w'=>e = .returned (.tuple #[.agg #[.string ⟨#[121]⟩,.int .i64 1,.int .i64 6,.int .i64 1,.int .i64 6,.bool true,.int .i64 3,.int .i64 3],.bool true])/\Ext w w':=zap 7 (by omega) (by omega) w
theorem zjV (w:World):Calls Tryz.prog 87 #[.int .u8 8] w fun e w'=>e = .returned (.tuple #[.agg #[.string ⟨#[115]⟩,.int .i64 0,.int .i64 0,.int .i64 0,.int .i64 0,.bool true,.int .i64 1,.int .i64 1],.bool true])/\Ext w w':=zap 8 (by omega) (by omega) w
theorem zgp (w:World):Calls Tryz.prog 87 #[.int .u8 10] w fun e w'=>e = .returned (.tuple #[.agg #[.string ⟨#[111]⟩,.int .i64 1,.int .i64 200,.int .i64 0,.int .i64 0,.bool true,.int .i64 2,.int .i64 0],.bool true])/\Ext w w':=zap 10 (by omega) (by omega) w
theorem zsg {s:St} (h:okSt s=true):0<=s.a/\s.a<=200/\0<=s.b/\s.b<=6:=by
 obtain ⟨hk,ha,hb,_⟩:=zhG h
 have ha:=zaq ha
 have hb:=zaq hb
 rcases zad hk with e | e | e | e | e | e | e | e | e | e <;> rw [e] at ha hb <;> simp [fa0,fa1,fb0,fb1] at ha hb <;> omega
theorem zrT (p:Bool) (a b:Int) (w:World) :
  Calls Tryz.prog 84 #[.agg #[.int .u8 1,.bool p,.int .i64 a,.int .i64 b]] w fun e w'=>e = .returned (.string ⟨(wordT ⟨1,p,a,b⟩).toArray⟩)/\Ext w w':=by
 cases p
 ·go_enter Tryz.func84,Tryz.ntmps84
  go_wp2_with (first
   | (go_at_call 87;((with_reducible refine (zov _).mono ?_);rintro e w1 ⟨rfl,aa⟩;obtain ⟨hc1,hf1,hz1⟩:=aa.facts)))
  exact bodyPost_ret (v := .string ((⟨#[107]⟩:ByteArray)++(⟨#[]⟩:ByteArray))) (by simp [results,Tryz.f84,go_sem]) rfl ⟨congrArg (fun x=>Ending.returned (.string x)) (ByteArray.ext (by rw [show wordT ⟨1,false,a,b⟩=[107]++[]++[]++[] from by rfl];simp)),zx⟩
 ·go_enter Tryz.func84,Tryz.ntmps84
  go_wp2_with (first
   | (go_at_call 87;((with_reducible refine (zov _).mono ?_);rintro e w1 ⟨rfl,aa⟩;obtain ⟨hc1,hf1,hz1⟩:=aa.facts)))
  exact bodyPost_ret (v := .string ((⟨#[112]⟩:ByteArray)++(⟨#[]⟩:ByteArray))) (by simp [results,Tryz.f84,go_sem]) rfl ⟨congrArg (fun x=>Ending.returned (.string x)) (ByteArray.ext (by rw [show wordT ⟨1,true,a,b⟩=[112]++[]++[]++[] from by rfl];simp)),zx⟩
theorem zrU (p:Bool) (a b:Int) (w:World) :
  Calls Tryz.prog 84 #[.agg #[.int .u8 2,.bool p,.int .i64 a,.int .i64 b]] w fun e w'=>e = .returned (.string ⟨(wordT ⟨2,p,a,b⟩).toArray⟩)/\Ext w w':=by
 go_enter Tryz.func84,Tryz.ntmps84
 go_wp2
 go_ret
 exact ⟨rfl,zx⟩
theorem zrV (p:Bool) (a b:Int) (h0:0<=a) (h1:a<=200) (w:World) (hg:Glob w) :
  Calls Tryz.prog 84 #[.agg #[.int .u8 3,.bool p,.int .i64 a,.int .i64 b]] w fun e w'=>e = .returned (.string ⟨(wordT ⟨3,p,a,b⟩).toArray⟩)/\Ext w w':=by
 have HG:=Za hg
 clear hg
 have d1:=zaj a.toNat
 cases p
 ·go_enter Tryz.func84,Tryz.ntmps84
  go_wp2_with (first
   | (go_at_call 87;((with_reducible refine (zjQ _).mono ?_);rintro e w1 ⟨rfl,aa⟩;obtain ⟨hc1,hf1,hz1⟩:=aa.facts))
   | (go_at_call 36;(first | ((with_reducible refine (zaf a h0 (by omega) _ (HG.out.ext zx)).mono ?_);rintro e w2 ⟨rfl,ab⟩;obtain ⟨ac,ad,ae⟩:=ab.facts))))
  exact bodyPost_ret (v := .string ((⟨#[107]⟩:ByteArray)++(⟨#[102]⟩:ByteArray)++(⟨(decD a.toNat).toArray⟩:ByteArray))) (by simp [results,Tryz.f84,go_sem]) rfl ⟨congrArg (fun x=>Ending.returned (.string x)) (ByteArray.ext (by rw [show wordT ⟨3,false,a,b⟩=[107]++[102]++decD a.toNat++[] from by rfl];simp)),zx⟩
 ·go_enter Tryz.func84,Tryz.ntmps84
  go_wp2_with (first
   | (go_at_call 87;((with_reducible refine (zjQ _).mono ?_);rintro e w1 ⟨rfl,aa⟩;obtain ⟨hc1,hf1,hz1⟩:=aa.facts))
   | (go_at_call 36;(first | ((with_reducible refine (zaf a h0 (by omega) _ (HG.out.ext zx)).mono ?_);rintro e w2 ⟨rfl,ab⟩;obtain ⟨ac,ad,ae⟩:=ab.facts))))
  exact bodyPost_ret (v := .string ((⟨#[112]⟩:ByteArray)++(⟨#[102]⟩:ByteArray)++(⟨(decD a.toNat).toArray⟩:ByteArray))) (by simp [results,Tryz.f84,go_sem]) rfl ⟨congrArg (fun x=>Ending.returned (.string x)) (ByteArray.ext (by rw [show wordT ⟨3,true,a,b⟩=[112]++[102]++decD a.toNat++[] from by rfl];simp)),zx⟩
theorem zrW (p:Bool) (a b:Int) (h0:0<=a) (h1:a<=200) (w:World) (hg:Glob w) :
  Calls Tryz.prog 84 #[.agg #[.int .u8 4,.bool p,.int .i64 a,.int .i64 b]] w fun e w'=>e = .returned (.string ⟨(wordT ⟨4,p,a,b⟩).toArray⟩)/\Ext w w':=by
 have HG:=Za hg
 clear hg
 have d1:=zaj a.toNat
 cases p
 ·go_enter Tryz.func84,Tryz.ntmps84
  go_wp2_with (first
   | (go_at_call 87;((with_reducible refine (zjR _).mono ?_);rintro e w1 ⟨rfl,aa⟩;obtain ⟨hc1,hf1,hz1⟩:=aa.facts))
   | (go_at_call 36;(first | ((with_reducible refine (zaf a h0 (by omega) _ (HG.out.ext zx)).mono ?_);rintro e w2 ⟨rfl,ab⟩;obtain ⟨ac,ad,ae⟩:=ab.facts))))
  exact bodyPost_ret (v := .string ((⟨#[107]⟩:ByteArray)++(⟨#[108]⟩:ByteArray)++(⟨(decD a.toNat).toArray⟩:ByteArray))) (by simp [results,Tryz.f84,go_sem]) rfl ⟨congrArg (fun x=>Ending.returned (.string x)) (ByteArray.ext (by rw [show wordT ⟨4,false,a,b⟩=[107]++[108]++decD a.toNat++[] from by rfl];simp)),zx⟩
 ·go_enter Tryz.func84,Tryz.ntmps84
  go_wp2_with (first
   | (go_at_call 87;((with_reducible refine (zjR _).mono ?_);rintro e w1 ⟨rfl,aa⟩;obtain ⟨hc1,hf1,hz1⟩:=aa.facts))
   | (go_at_call 36;(first | ((with_reducible refine (zaf a h0 (by omega) _ (HG.out.ext zx)).mono ?_);rintro e w2 ⟨rfl,ab⟩;obtain ⟨ac,ad,ae⟩:=ab.facts))))
  exact bodyPost_ret (v := .string ((⟨#[112]⟩:ByteArray)++(⟨#[108]⟩:ByteArray)++(⟨(decD a.toNat).toArray⟩:ByteArray))) (by simp [results,Tryz.f84,go_sem]) rfl ⟨congrArg (fun x=>Ending.returned (.string x)) (ByteArray.ext (by rw [show wordT ⟨4,true,a,b⟩=[112]++[108]++decD a.toNat++[] from by rfl];simp)),zx⟩
theorem zrX (p:Bool) (a b:Int) (h0:0<=a) (h1:a<=200) (w:World) (hg:Glob w) :
  Calls Tryz.prog 84 #[.agg #[.int .u8 5,.bool p,.int .i64 a,.int .i64 b]] w fun e w'=>e = .returned (.string ⟨(wordT ⟨5,p,a,b⟩).toArray⟩)/\Ext w w':=by
 have HG:=Za hg
 clear hg
 have d1:=zaj a.toNat
 cases p
 ·go_enter Tryz.func84,Tryz.ntmps84
  go_wp2_with (first
   | (go_at_call 87;((with_reducible refine (zjS _).mono ?_);rintro e w1 ⟨rfl,aa⟩;obtain ⟨hc1,hf1,hz1⟩:=aa.facts))
   | (go_at_call 36;(first | ((with_reducible refine (zaf a h0 (by omega) _ (HG.out.ext zx)).mono ?_);rintro e w2 ⟨rfl,ab⟩;obtain ⟨ac,ad,ae⟩:=ab.facts))))
  exact bodyPost_ret (v := .string ((⟨#[107]⟩:ByteArray)++(⟨#[109]⟩:ByteArray)++(⟨(decD a.toNat).toArray⟩:ByteArray))) (by simp [results,Tryz.f84,go_sem]) rfl ⟨congrArg (fun x=>Ending.returned (.string x)) (ByteArray.ext (by rw [show wordT ⟨5,false,a,b⟩=[107]++[109]++decD a.toNat++[] from by rfl];simp)),zx⟩
 ·go_enter Tryz.func84,Tryz.ntmps84
  go_wp2_with (first
   | (go_at_call 87;((with_reducible refine (zjS _).mono ?_);rintro e w1 ⟨rfl,aa⟩;obtain ⟨hc1,hf1,hz1⟩:=aa.facts))
   | (go_at_call 36;(first | ((with_reducible refine (zaf a h0 (by omega) _ (HG.out.ext zx)).mono ?_);rintro e w2 ⟨rfl,ab⟩;obtain ⟨ac,ad,ae⟩:=ab.facts))))
  exact bodyPost_ret (v := .string ((⟨#[112]⟩:ByteArray)++(⟨#[109]⟩:ByteArray)++(⟨(decD a.toNat).toArray⟩:ByteArray))) (by simp [results,Tryz.f84,go_sem]) rfl ⟨congrArg (fun x=>Ending.returned (.string x)) (ByteArray.ext (by rw [show wordT ⟨5,true,a,b⟩=[112]++[109]++decD a.toNat++[] from by rfl];simp)),zx⟩
theorem zrY (p:Bool) (a b:Int) (h0:0<=a) (h1:a<=200) (h2:0<=b) (h3:b<=6) (w:World) (hg:Glob w) :
  Calls Tryz.prog 84 #[.agg #[.int .u8 6,.bool p,.int .i64 a,.int .i64 b]] w fun e w'=>e = .returned (.string ⟨(wordT ⟨6,p,a,b⟩).toArray⟩)/\Ext w w':=by
 have HG:=Za hg
 clear hg
 have d1:=zaj a.toNat
 have d2:=zaj b.toNat
 cases p
 ·go_enter Tryz.func84,Tryz.ntmps84
  go_wp2_with (first
   | (go_at_call 87;((with_reducible refine (zjT _).mono ?_);rintro e w1 ⟨rfl,aa⟩;obtain ⟨hc1,hf1,hz1⟩:=aa.facts))
   | (go_at_call 36;(first | ((with_reducible refine (zaf a h0 (by omega) _ (HG.out.ext zx)).mono ?_);rintro e w2 ⟨rfl,ab⟩;obtain ⟨ad,af,ai⟩:=ab.facts;have ac:=Zm aa (Zm ((Ze w1).alloc (.cells #[.string ⟨#[120]⟩,.int .i64 1,.int .i64 6,.int .i64 1,.int .i64 6,.bool true,.int .i64 3,.int .i64 3] 134)) ab);obtain ⟨ae,ag,aj⟩:=ac.facts) | ((with_reducible refine (zaf b h2 (by omega) _ (HG.out.ext zx)).mono ?_);rintro e w3 ⟨rfl,ah⟩))))
  exact bodyPost_ret (v := .string ((⟨#[107]⟩:ByteArray)++(⟨#[120]⟩:ByteArray)++(⟨(decD a.toNat).toArray⟩:ByteArray)++((⟨#[47]⟩:ByteArray)++(⟨(decD b.toNat).toArray⟩:ByteArray)))) (by simp [results,Tryz.f84,go_sem]) rfl ⟨congrArg (fun x=>Ending.returned (.string x)) (ByteArray.ext (by rw [show wordT ⟨6,false,a,b⟩=[107]++[120]++decD a.toNat++(47::decD b.toNat) from by rfl];simp)),zx⟩
 ·go_enter Tryz.func84,Tryz.ntmps84
  go_wp2_with (first
   | (go_at_call 87;((with_reducible refine (zjT _).mono ?_);rintro e w1 ⟨rfl,aa⟩;obtain ⟨hc1,hf1,hz1⟩:=aa.facts))
   | (go_at_call 36;(first | ((with_reducible refine (zaf a h0 (by omega) _ (HG.out.ext zx)).mono ?_);rintro e w2 ⟨rfl,ab⟩;obtain ⟨ad,af,ai⟩:=ab.facts;have ac:=Zm aa (Zm ((Ze w1).alloc (.cells #[.string ⟨#[120]⟩,.int .i64 1,.int .i64 6,.int .i64 1,.int .i64 6,.bool true,.int .i64 3,.int .i64 3] 134)) ab);obtain ⟨ae,ag,aj⟩:=ac.facts) | ((with_reducible refine (zaf b h2 (by omega) _ (HG.out.ext zx)).mono ?_);rintro e w3 ⟨rfl,ah⟩))))
  exact bodyPost_ret (v := .string ((⟨#[112]⟩:ByteArray)++(⟨#[120]⟩:ByteArray)++(⟨(decD a.toNat).toArray⟩:ByteArray)++((⟨#[47]⟩:ByteArray)++(⟨(decD b.toNat).toArray⟩:ByteArray)))) (by simp [results,Tryz.f84,go_sem]) rfl ⟨congrArg (fun x=>Ending.returned (.string x)) (ByteArray.ext (by rw [show wordT ⟨6,true,a,b⟩=[112]++[120]++decD a.toNat++(47::decD b.toNat) from by rfl];simp)),zx⟩
theorem zrZ (p:Bool) (a b:Int) (h0:0<=a) (h1:a<=200) (h2:0<=b) (h3:b<=6) (w:World) (hg:Glob w) :
  Calls Tryz.prog 84 #[.agg #[.int .u8 7,.bool p,.int .i64 a,.int .i64 b]] w fun e w'=>e = .returned (.string ⟨(wordT ⟨7,p,a,b⟩).toArray⟩)/\Ext w w':=by
 have HG:=Za hg
 clear hg
 have d1:=zaj a.toNat
 have d2:=zaj b.toNat
 cases p
 ·go_enter Tryz.func84,Tryz.ntmps84
  go_wp2_with (first
   | (go_at_call 87;((with_reducible refine (zjU _).mono ?_);rintro e w1 ⟨rfl,aa⟩;obtain ⟨hc1,hf1,hz1⟩:=aa.facts))
   | (go_at_call 36;(first | ((with_reducible refine (zaf a h0 (by omega) _ (HG.out.ext zx)).mono ?_);rintro e w2 ⟨rfl,ab⟩;obtain ⟨ad,af,ai⟩:=ab.facts;have ac:=Zm aa (Zm ((Ze w1).alloc (.cells #[.string ⟨#[121]⟩,.int .i64 1,.int .i64 6,.int .i64 1,.int .i64 6,.bool true,.int .i64 3,.int .i64 3] 134)) ab);obtain ⟨ae,ag,aj⟩:=ac.facts) | ((with_reducible refine (zaf b h2 (by omega) _ (HG.out.ext zx)).mono ?_);rintro e w3 ⟨rfl,ah⟩))))
  exact bodyPost_ret (v := .string ((⟨#[107]⟩:ByteArray)++(⟨#[121]⟩:ByteArray)++(⟨(decD a.toNat).toArray⟩:ByteArray)++((⟨#[47]⟩:ByteArray)++(⟨(decD b.toNat).toArray⟩:ByteArray)))) (by simp [results,Tryz.f84,go_sem]) rfl ⟨congrArg (fun x=>Ending.returned (.string x)) (ByteArray.ext (by rw [show wordT ⟨7,false,a,b⟩=[107]++[121]++decD a.toNat++(47::decD b.toNat) from by rfl];simp)),zx⟩
 ·go_enter Tryz.func84,Tryz.ntmps84
  go_wp2_with (first
   | (go_at_call 87;((with_reducible refine (zjU _).mono ?_);rintro e w1 ⟨rfl,aa⟩;obtain ⟨hc1,hf1,hz1⟩:=aa.facts))
   | (go_at_call 36;(first | ((with_reducible refine (zaf a h0 (by omega) _ (HG.out.ext zx)).mono ?_);rintro e w2 ⟨rfl,ab⟩;obtain ⟨ad,af,ai⟩:=ab.facts;have ac:=Zm aa (Zm ((Ze w1).alloc (.cells #[.string ⟨#[121]⟩,.int .i64 1,.int .i64 6,.int .i64 1,.int .i64 6,.bool true,.int .i64 3,.int .i64 3] 134)) ab);obtain ⟨ae,ag,aj⟩:=ac.facts) | ((with_reducible refine (zaf b h2 (by omega) _ (HG.out.ext zx)).mono ?_);rintro e w3 ⟨rfl,ah⟩))))
  exact bodyPost_ret (v := .string ((⟨#[112]⟩:ByteArray)++(⟨#[121]⟩:ByteArray)++(⟨(decD a.toNat).toArray⟩:ByteArray)++((⟨#[47]⟩:ByteArray)++(⟨(decD b.toNat).toArray⟩:ByteArray)))) (by simp [results,Tryz.f84,go_sem]) rfl ⟨congrArg (fun x=>Ending.returned (.string x)) (ByteArray.ext (by rw [show wordT ⟨7,true,a,b⟩=[112]++[121]++decD a.toNat++(47::decD b.toNat) from by rfl];simp)),zx⟩
theorem zr0 (p:Bool) (a b:Int) (w:World) :
  Calls Tryz.prog 84 #[.agg #[.int .u8 8,.bool p,.int .i64 a,.int .i64 b]] w fun e w'=>e = .returned (.string ⟨(wordT ⟨8,p,a,b⟩).toArray⟩)/\Ext w w':=by
 cases p
 ·go_enter Tryz.func84,Tryz.ntmps84
  go_wp2_with (first
   | (go_at_call 87;((with_reducible refine (zjV _).mono ?_);rintro e w1 ⟨rfl,aa⟩;obtain ⟨hc1,hf1,hz1⟩:=aa.facts)))
  exact bodyPost_ret (v := .string ((⟨#[107]⟩:ByteArray)++(⟨#[115]⟩:ByteArray))) (by simp [results,Tryz.f84,go_sem]) rfl ⟨congrArg (fun x=>Ending.returned (.string x)) (ByteArray.ext (by rw [show wordT ⟨8,false,a,b⟩=[107]++[115]++[]++[] from by rfl];simp)),zx⟩
 ·go_enter Tryz.func84,Tryz.ntmps84
  go_wp2_with (first
   | (go_at_call 87;((with_reducible refine (zjV _).mono ?_);rintro e w1 ⟨rfl,aa⟩;obtain ⟨hc1,hf1,hz1⟩:=aa.facts)))
  exact bodyPost_ret (v := .string ((⟨#[112]⟩:ByteArray)++(⟨#[115]⟩:ByteArray))) (by simp [results,Tryz.f84,go_sem]) rfl ⟨congrArg (fun x=>Ending.returned (.string x)) (ByteArray.ext (by rw [show wordT ⟨8,true,a,b⟩=[112]++[115]++[]++[] from by rfl];simp)),zx⟩
theorem zr1 (p:Bool) (a b:Int) (h0:0<=a) (h1:a<=200) (w:World) (hg:Glob w) :
  Calls Tryz.prog 84 #[.agg #[.int .u8 9,.bool p,.int .i64 a,.int .i64 b]] w fun e w'=>e = .returned (.string ⟨(wordT ⟨9,p,a,b⟩).toArray⟩)/\Ext w w':=by
 have HG:=Za hg
 clear hg
 have d1:=zaj a.toNat
 go_enter Tryz.func84,Tryz.ntmps84
 go_wp2_with (first
   | (go_at_call 36;(first | ((with_reducible refine (zaf a h0 (by omega) _ (HG.out.ext zx)).mono ?_);rintro e w2 ⟨rfl,aa⟩;obtain ⟨hc2,hf2,hz2⟩:=aa.facts))))
 go_ret
 exact ⟨congrArg (fun x=>Ending.returned (.string x)) (ByteArray.ext (by rw [show wordT ⟨9,p,a,b⟩=[111,110]++decD a.toNat from rfl];simp)),zx⟩
theorem zqD (p:Bool) (a b:Int) (h0:0<=a) (h1:a<=200) (w:World) (hg:Glob w) :
  Calls Tryz.prog 84 #[.agg #[.int .u8 10,.bool p,.int .i64 a,.int .i64 b]] w fun e w'=>e = .returned (.string ⟨(wordT ⟨10,p,a,b⟩).toArray⟩)/\Ext w w':=by
 have HG:=Za hg
 clear hg
 have d1:=zaj a.toNat
 cases p
 ·go_enter Tryz.func84,Tryz.ntmps84
  go_wp2_with (first
   | (go_at_call 87;((with_reducible refine (zgp _).mono ?_);rintro e w1 ⟨rfl,aa⟩;obtain ⟨hc1,hf1,hz1⟩:=aa.facts))
   | (go_at_call 36;(first | ((with_reducible refine (zaf a h0 (by omega) _ (HG.out.ext zx)).mono ?_);rintro e w2 ⟨rfl,ab⟩;obtain ⟨ac,ad,ae⟩:=ab.facts))))
  exact bodyPost_ret (v := .string ((⟨#[107]⟩:ByteArray)++(⟨#[111]⟩:ByteArray)++(⟨(decD a.toNat).toArray⟩:ByteArray))) (by simp [results,Tryz.f84,go_sem]) rfl ⟨congrArg (fun x=>Ending.returned (.string x)) (ByteArray.ext (by rw [show wordT ⟨10,false,a,b⟩=[107]++[111]++decD a.toNat++[] from by rfl];simp)),zx⟩
 ·go_enter Tryz.func84,Tryz.ntmps84
  go_wp2_with (first
   | (go_at_call 87;((with_reducible refine (zgp _).mono ?_);rintro e w1 ⟨rfl,aa⟩;obtain ⟨hc1,hf1,hz1⟩:=aa.facts))
   | (go_at_call 36;(first | ((with_reducible refine (zaf a h0 (by omega) _ (HG.out.ext zx)).mono ?_);rintro e w2 ⟨rfl,ab⟩;obtain ⟨ac,ad,ae⟩:=ab.facts))))
  exact bodyPost_ret (v := .string ((⟨#[112]⟩:ByteArray)++(⟨#[111]⟩:ByteArray)++(⟨(decD a.toNat).toArray⟩:ByteArray))) (by simp [results,Tryz.f84,go_sem]) rfl ⟨congrArg (fun x=>Ending.returned (.string x)) (ByteArray.ext (by rw [show wordT ⟨10,true,a,b⟩=[112]++[111]++decD a.toNat++[] from by rfl];simp)),zx⟩
theorem zop (s:St) (h:okSt s=true) (w:World) (hg:Glob w) :
  Calls Tryz.prog 84 #[.agg #[.int .u8 s.k,.bool s.p,.int .i64 s.a,.int .i64 s.b]] w fun e w'=>e = .returned (.string ⟨(wordT s).toArray⟩)/\Ext w w':=by
 obtain ⟨h0,h1,h2,h3⟩:=zsg h
 obtain ⟨k,p,a,b⟩:=s
 have hk:=zaK h
 simp only at h0 h1 h2 h3 hk ⊢
 rcases zad hk with e | e | e | e | e | e | e | e | e | e <;> subst e
 ·exact zrT p a b w
 ·exact zrU p a b w
 ·exact zrV p a b h0 h1 w hg
 ·exact zrW p a b h0 h1 w hg
 ·exact zrX p a b h0 h1 w hg
 ·exact zrY p a b h0 h1 h2 h3 w hg
 ·exact zrZ p a b h0 h1 h2 h3 w hg
 ·exact zr0 p a b w
 ·exact zr1 p a b h0 h1 w hg
 ·exact zqD p a b h0 h1 w hg
end Go.Proofs.YtbjgpbojjhldaaaGreatDoor
/- The text of a list of stitches. -/
namespace Go.Proofs.YtbjgpbojjhldaaaGreatDoor
set_option maxRecDepth 100000
open Go.RowKit
theorem zmB {t:List St} {s:St} {n:Nat} {g:List (St×Nat)} (h:grp t=(s,n)::g):t≠[]/\t.getD 0 st0=s:=by
 cases t with
 | nil=>cases h
 | cons x t =>
  refine ⟨by simp,?_⟩
  rcases zbp x t with ⟨m,g',h1,h2,h3⟩ | ⟨h1,h2⟩
  ·rw [h3] at h;injection h with h4 _;injection h4
  ·rw [h1] at h;injection h with h4 _;injection h4
theorem zgs:∀(q:Nat) (l:List St) (s:St),1<=q->q<=l.length->(∀t,t<q->l.getD t st0=s)->(q=1∨s.k=1)->(s.k≠1∨q=l.length∨l.getD q st0≠s)->grp l=(s,q)::grp (l.drop q):=by
 intro q
 induction q with
 | zero=>intro l s h;omega
 | succ q ih =>
  intro l s _ hl hs hk ab
  cases l with
  | nil=>simp at hl
  | cons x t =>
   have hx:x=s:=by have:=hs 0 (by omega);simpa using this
   subst hx
   rcases Nat.eq_zero_or_pos q with h0 | h0
   ·subst h0
    rcases zbp x t with ⟨m,g,h1,h2,h3⟩ | ⟨h1,h2⟩
    ·exfalso
     obtain ⟨g1,g2⟩:=zmB h1
     rcases ab with h | h | h
     ·exact h h2
     ·simp at h;exact g1 h
     ·simp at h
      apply h
      rw [Zd] at g2
      exact g2
    ·rw [h1];rfl
   ·have aa:x.k=1:=by rcases hk with h | h <;> first | omega | exact h
    have h4:=ih t x h0 (by simpa using hl) (fun j hj=>by have:=hs (j+1) (by omega);simpa using this) (.inr aa) (by
     rcases ab with h | h | h
     ·exact .inl h
     ·right;left;simpa using h
     ·right;right;simpa using h)
    rw [grp,h4]
    simp [aa]
theorem zj8 (d:UInt8) (ws:List (List UInt8)) (m:Nat) (h:∀x∈ws,x.length<=m):(joinB d ws).length<=(m+1)*ws.length:=zdu h
theorem zdS {x:St×Nat} (h:okSt x.1=true):(wordG x).length<=100:=by
 have h1:=Zu.1 zh4 x.1 (zdz h)
 simp only [wordOk,Zp,Zy] at h1
 have h2:=zaj x.2
 unfold wordG
 rw [Zc]
 split
 ·omega
 ·simp;omega
theorem zeV (n c:Nat) (A:Option Addr) (l:List St) (w:World) (hl:Vec shSt w A n l) (hn:n<=200) (ho:allB l=true) (hg:Glob w) :
  Calls Tryz.prog 50 #[.slice A n c] w fun e w'=>e = .returned (.string ⟨(textL l).toArray⟩)/\Ext w w':=by
 have HX:=Za hl
 have HO:=Za ho
 have HG:=Za hg
 have HL:=Za hl.1
 have HW:=Za (show (joinB 32 ((grp l).map wordG)).length<=100000000 by
  have h1:=zj8 32 ((grp l).map wordG) 100 (fun x hx=>by
   obtain ⟨y,hy,rfl⟩:=List.mem_map.1 hx
   exact zdS (Zu.1 ho _ (zgr hy).1))
  have h2:=zjY l
  have h3:=hl.1
  rw [List.length_map] at h1
  omega)
 clear hl ho hg
 go_enter Tryz.func50,Tryz.ntmps50
 go_wp2_with fail
 go_loopw [3,4] (fun u i wr=>∃(V:Value) (k j:Nat) (ws:List (List UInt8)),V=u/\i = .int .i64 k/\k<=n/\j<=k/\Hid (OwnV shStr wr w.heap.size 9 V j ws)/\Hid (Ext w wr)/\Hid (ws++(grp (l.drop k)).map wordG=(grp l).map wordG)) (fun _ i _=>n-(intOf i).toNat)
 case atStart=>exact ⟨_,0,0,[],rfl,rfl,ZK _,Zb _,Za (OwnV.nil _ _ _ _),Za zx,Za (by simp)⟩
 case round =>
  obtain ⟨V,k,j,ws,rfl,rfl,hk,hj,HV,HE,HT⟩:=hrel
  obtain ⟨wa,rfl⟩:∃wa:World,wa=wr:=⟨_,rfl⟩
  have hxr:=HE.out
  by_cases hlt:k<n
  ·obtain ⟨b,off,rfl,hb1,hc⟩:=Sts.all (Vec.ext HX.out HE.out) (by omega)
   have HC:=Za hc
   obtain ⟨c1,c2,c3,c4⟩:=hc k hlt
   have hok:=zda HO.out (k:=k) (by rw [HL.out];omega)
   obtain ⟨s,hs⟩:∃s,l.getD k st0=s:=⟨_,rfl⟩
   rw [hs] at c1 c2 c3 c4 hok
   have HS:=Za hs
   clear hs hc
   obtain ⟨sk,sp,sa,sb⟩:=s
   simp only at c1 c2 c3 c4
   have q0:(0:Int)<=(k:Int):=by omega
   have q1:(k:Int)<(n:Int):=by omega
   obtain ⟨T,hT⟩:∃T,wordT ⟨sk,sp,sa,sb⟩=T:=⟨_,rfl⟩
   have aj:=Za (show ∀w',Glob w'->Calls Tryz.prog 84 #[.agg #[.int .u8 sk,.bool sp,.int .i64 sa,.int .i64 sb]] w' fun e w''=>e = .returned (.string ⟨T.toArray⟩)/\Ext w' w'' from fun w' hg=>by
    have h9:=zop ⟨sk,sp,sa,sb⟩ hok w' hg
    rw [hT] at h9
    exact h9)
   have tl:T.length<=100:=by
    have h9:=zdS (x:=(⟨sk,sp,sa,sb⟩,1)) hok
    rw [<-hT]
    simpa [wordG] using h9
   have ag:=Za (show wordG (⟨sk,sp,sa,sb⟩,1)=T by rw [<-hT];simp [wordG])
   have au:=Za hT
   have hn9:(n:Int)<=200:=by omega
   clear hT
   go_wp2_with fail
   go_loopw [5] (fun q wi=>∃(m:Nat),q = .int .i64 m/\1<=m/\k+m<=n/\Hid (m=1∨sk=1)/\Hid (∀t,t<m->l.getD (k+t) st0=⟨sk,sp,sa,sb⟩)/\Hid (Ext wa wi)) (fun q _=>n-k-(intOf q).toNat)
   case atStart=>exact ⟨1,rfl,Zb _,by omega,Za (.inl rfl),Za (fun t ht=>(by obtain rfl:t=0:=(by omega);exact HS.out)),Za zx⟩
   case round =>
    obtain ⟨m,rfl,ar,hm2,ay,HA,ae⟩:=hrel
    have ai:=Za (HE.out.trans ae.out)
    have af:=Za (fun (w':World) (h:Ext wr w')=>(⟨ai.out.trans h,ae.out.trans h⟩:Ext w w'/\Ext wa w'))
    have d1:=(Zl (p:=⟨b,off+k*4,none⟩) ae.out hb1).trans c1
    have d2:=(Zl (p:=⟨b,off+k*4+1,none⟩) ae.out hb1).trans c2
    have d3:=(Zl (p:=⟨b,off+k*4+2,none⟩) ae.out hb1).trans c3
    have d4:=(Zl (p:=⟨b,off+k*4+3,none⟩) ae.out hb1).trans c4
    by_cases hk1:sk=1
    ·by_cases hkm:k+m<n
     ·obtain ⟨e1,e2,e3,e4⟩:=HC.out (k+m) hkm
      replace e1:=(Zl (p:=⟨b,_,none⟩) ae.out hb1).trans e1
      replace e2:=(Zl (p:=⟨b,_,none⟩) ae.out hb1).trans e2
      replace e3:=(Zl (p:=⟨b,_,none⟩) ae.out hb1).trans e3
      replace e4:=(Zl (p:=⟨b,_,none⟩) ae.out hb1).trans e4
      have i1:=Zj ((k:Int)+(m:Int)) (by omega)
      have q2:(0:Int)<=(k:Int)+(m:Int):=by omega
      have q3:(k:Int)+(m:Int)<(n:Int):=by omega
      by_cases hxy:l.getD (k+m) st0=⟨sk,sp,sa,sb⟩
      ·rw [hxy] at e1 e2 e3 e4
       simp only at e1 e2 e3 e4
       have aw:=Za (show ∀t,t<m+1->l.getD (k+t) st0=⟨sk,sp,sa,sb⟩ from fun t ht=>by
        by_cases e:t=m
        ·subst e;exact hxy
        ·exact HA.out t (by omega))
       clear hxy
       subst hk1
       go_wp2_with fail
       go_quiet (fail)
       go_wp2
       go_roundw
       case rel=>exact ⟨m+1,by go_num,by omega,by omega,Za (by first | exact .inr rfl | exact .inr trivial),aw,Za zx⟩
       case measure=>simp [intOf];omega
      ·generalize hy:l.getD (k+m) st0=y at *
       obtain ⟨y1,y2,y3,y4⟩:=y
       simp only at e1 e2 e3 e4
       have hne:=zfE hxy
       have ax:=Za hxy
       clear hxy
       subst hk1
       go_wp2_with fail
       go_quiet (fail)
       go_wp2_with fail
       have HQ:=Za (show grp (l.drop k)=(⟨1,sp,sa,sb⟩,m)::grp (l.drop (k+m)) by
        have h9:=zgs m (l.drop k) ⟨1,sp,sa,sb⟩ ar (by rw [ZA,HL.out];omega) (fun t ht=>by rw [<-HA.out t ht];simp [List.getD_eq_getElem?_getD]) (.inr rfl) (.inr (.inr (by have h8:(l.drop k).getD m st0=⟨y1,y2,y3,y4⟩:=(by rw [<-hy];simp [List.getD_eq_getElem?_getD]);rw [h8];exact ax.out)))
        rw [h9,List.drop_drop])
       by_cases hm:m=1
       ·subst hm
        go_wp2_with (first
         | (go_at_call 84;(((with_reducible refine (aj.out _ (HG.out.ext (ai.out.trans zx))).mono ?_);rintro e w5 ⟨rfl,hq5⟩;have ad:=Za (af.out _ (Zm zx hq5)).1;have HX5:=Za (af.out _ (Zm zx hq5)).2;clear hq5)))
         | (at_builtin;(refine zaa (S:=shStr) (w:=w) (m:=1) (xs:=[T]) 31 9 (.string ⟨#[]⟩) 16 (by rfl) (by rfl) Tryz.underlying31 za9 (by rfl) (by omega) (by rfl) (by rfl) (OwnV.ext HV.out (HX5.out.trans zx)) (ad.out.trans zx) (Vec.lit2 (by simp) rfl rfl) (by omega) ?_;intro v' w6 aa ab ac)))
        have HN:=Za aa
        have HF:=Za (show (ws++[T])++(grp (l.drop (k+1))).map wordG=(grp l).map wordG by
         rw [<-HT.out,HQ.out,<-ag.out]
         simp)
        clear aa ac
        go_roundw
        case rel=>exact ⟨v',k+1,j+1,ws++[T],rfl,by go_num,by omega,by omega,HN,ab,HF⟩
        case measure=>simp [intOf];omega
       ·have az:(1:Int)<(m:Int):=by omega
        obtain ⟨D,hD⟩:∃D,decD m=D:=⟨_,rfl⟩
        obtain ⟨G,hG⟩:∃G,T++D=G:=⟨_,rfl⟩
        have am:=Za (show ∀w',Glob w'->Calls Tryz.prog 36 #[.int .i64 (m:Int)] w' fun e w''=>e = .returned (.string ⟨D.toArray⟩)/\Ext w' w'' from fun w' hg=>by
         have h9:=zaf (m:Int) (by omega) (by omega) w' hg
         rw [Int.toNat_natCast,hD] at h9
         exact h9)
        have aq:(⟨T.toArray⟩++⟨D.toArray⟩:ByteArray)=⟨G.toArray⟩:=by rw [zeT,hG]
        have ak:wordG (⟨1,sp,sa,sb⟩,m)=G:=by rw [wordG,if_pos (by simp only;omega),au.out,hD,hG]
        have ao:=Za ak
        have dl:D.length<=20:=by rw [<-hD];exact zaj m
        clear hD hG ak
        go_wp2_with (first
         | (go_at_call 84;(((with_reducible refine (aj.out _ (HG.out.ext (ai.out.trans zx))).mono ?_);rintro e w5 ⟨rfl,hq5⟩;have ad:=Za (af.out _ (Zm zx hq5)).1;have HX5:=Za (af.out _ (Zm zx hq5)).2;clear hq5)))
         | (go_at_call 36;(((with_reducible refine (am.out _ (HG.out.ext (ad.out.trans zx))).mono ?_);rintro e w7 ⟨rfl,ah⟩;have al:=Za (ad.out.trans (Zm (show Ext w5 _ from zx) ah));have ap:=Za (HX5.out.trans (Zm (show Ext w5 _ from zx) ah));clear ah)))
         | (at_builtin;(refine zaa (S:=shStr) (w:=w) (m:=1) (xs:=[G]) 31 9 (.string ⟨#[]⟩) 16 (by rfl) (by rfl) Tryz.underlying31 za9 (by rfl) (by omega) (by rfl) (by rfl) (OwnV.ext HV.out (ap.out.trans zx)) (al.out.trans zx) (Vec.lit2 (by simp) rfl rfl) (by omega) ?_;intro v' w6 aa ab ac)))
        have HN:=Za aa
        have HF:=Za (show (ws++[G])++(grp (l.drop (k+m))).map wordG=(grp l).map wordG by
         rw [<-HT.out,HQ.out,List.map_cons,ao.out]
         simp)
        clear aa ac
        go_roundw
        case rel=>exact ⟨v',k+m,j+1,ws++[G],rfl,by go_num,by omega,by omega,HN,ab,HF⟩
        case measure=>simp [intOf];omega
     ·have i1:=Zj ((k:Int)+(m:Int)) (by omega)
      have q3:decide ((k:Int)+(m:Int)<(n:Int))=false:=by simp;omega
      subst hk1
      go_wp2_with fail
      go_quiet (fail)
      go_wp2_with fail
      have HQ:=Za (show grp (l.drop k)=(⟨1,sp,sa,sb⟩,m)::grp (l.drop (k+m)) by
       have h9:=zgs m (l.drop k) ⟨1,sp,sa,sb⟩ ar (by rw [ZA,HL.out];omega) (fun t ht=>by rw [<-HA.out t ht];simp [List.getD_eq_getElem?_getD]) (.inr rfl) (.inr (.inl (by rw [ZA,HL.out];omega)))
       rw [h9,List.drop_drop])
      by_cases hm:m=1
      ·subst hm
       go_wp2_with (first
        | (go_at_call 84;(((with_reducible refine (aj.out _ (HG.out.ext (ai.out.trans zx))).mono ?_);rintro e w5 ⟨rfl,hq5⟩;have ad:=Za (af.out _ (Zm zx hq5)).1;have HX5:=Za (af.out _ (Zm zx hq5)).2;clear hq5)))
        | (at_builtin;(refine zaa (S:=shStr) (w:=w) (m:=1) (xs:=[T]) 31 9 (.string ⟨#[]⟩) 16 (by rfl) (by rfl) Tryz.underlying31 za9 (by rfl) (by omega) (by rfl) (by rfl) (OwnV.ext HV.out (HX5.out.trans zx)) (ad.out.trans zx) (Vec.lit2 (by simp) rfl rfl) (by omega) ?_;intro v' w6 aa ab ac)))
       have HN:=Za aa
       have HF:=Za (show (ws++[T])++(grp (l.drop (k+1))).map wordG=(grp l).map wordG by
        rw [<-HT.out,HQ.out,<-ag.out]
        simp)
       clear aa ac
       go_roundw
       case rel=>exact ⟨v',k+1,j+1,ws++[T],rfl,by go_num,by omega,by omega,HN,ab,HF⟩
       case measure=>simp [intOf];omega
      ·have az:(1:Int)<(m:Int):=by omega
       obtain ⟨D,hD⟩:∃D,decD m=D:=⟨_,rfl⟩
       obtain ⟨G,hG⟩:∃G,T++D=G:=⟨_,rfl⟩
       have am:=Za (show ∀w',Glob w'->Calls Tryz.prog 36 #[.int .i64 (m:Int)] w' fun e w''=>e = .returned (.string ⟨D.toArray⟩)/\Ext w' w'' from fun w' hg=>by
        have h9:=zaf (m:Int) (by omega) (by omega) w' hg
        rw [Int.toNat_natCast,hD] at h9
        exact h9)
       have aq:(⟨T.toArray⟩++⟨D.toArray⟩:ByteArray)=⟨G.toArray⟩:=by rw [zeT,hG]
       have ak:wordG (⟨1,sp,sa,sb⟩,m)=G:=by rw [wordG,if_pos (by simp only;omega),au.out,hD,hG]
       have ao:=Za ak
       have dl:D.length<=20:=by rw [<-hD];exact zaj m
       clear hD hG ak
       go_wp2_with (first
        | (go_at_call 84;(((with_reducible refine (aj.out _ (HG.out.ext (ai.out.trans zx))).mono ?_);rintro e w5 ⟨rfl,hq5⟩;have ad:=Za (af.out _ (Zm zx hq5)).1;have HX5:=Za (af.out _ (Zm zx hq5)).2;clear hq5)))
        | (go_at_call 36;(((with_reducible refine (am.out _ (HG.out.ext (ad.out.trans zx))).mono ?_);rintro e w7 ⟨rfl,ah⟩;have al:=Za (ad.out.trans (Zm (show Ext w5 _ from zx) ah));have ap:=Za (HX5.out.trans (Zm (show Ext w5 _ from zx) ah));clear ah)))
        | (at_builtin;(refine zaa (S:=shStr) (w:=w) (m:=1) (xs:=[G]) 31 9 (.string ⟨#[]⟩) 16 (by rfl) (by rfl) Tryz.underlying31 za9 (by rfl) (by omega) (by rfl) (by rfl) (OwnV.ext HV.out (ap.out.trans zx)) (al.out.trans zx) (Vec.lit2 (by simp) rfl rfl) (by omega) ?_;intro v' w6 aa ab ac)))
       have HN:=Za aa
       have HF:=Za (show (ws++[G])++(grp (l.drop (k+m))).map wordG=(grp l).map wordG by
        rw [<-HT.out,HQ.out,List.map_cons,ao.out]
        simp)
       clear aa ac
       go_roundw
       case rel=>exact ⟨v',k+m,j+1,ws++[G],rfl,by go_num,by omega,by omega,HN,ab,HF⟩
       case measure=>simp [intOf];omega
    ·have hk2:(sk==1)=false:=by simpa using hk1
     have HK:=Za hk1
     obtain rfl:m=1:=by rcases ay.out with h | h <;> first | exact h | exact absurd h hk1
     clear hk1
     go_wp2_with fail
     go_quiet (fail)
     go_wp2_with fail
     have HQ:=Za (show grp (l.drop k)=(⟨sk,sp,sa,sb⟩,1)::grp (l.drop (k+1)) by
      have h9:=zgs 1 (l.drop k) ⟨sk,sp,sa,sb⟩ ar (by rw [ZA,HL.out];omega) (fun t ht=>by rw [<-HA.out t ht];simp [List.getD_eq_getElem?_getD]) (.inl rfl) (.inl HK.out)
      rw [h9,List.drop_drop])
     go_wp2_with (first
      | (go_at_call 84;(((with_reducible refine (aj.out _ (HG.out.ext (ai.out.trans zx))).mono ?_);rintro e w5 ⟨rfl,hq5⟩;have ad:=Za (af.out _ (Zm zx hq5)).1;have HX5:=Za (af.out _ (Zm zx hq5)).2;clear hq5)))
      | (at_builtin;(refine zaa (S:=shStr) (w:=w) (m:=1) (xs:=[T]) 31 9 (.string ⟨#[]⟩) 16 (by rfl) (by rfl) Tryz.underlying31 za9 (by rfl) (by omega) (by rfl) (by rfl) (OwnV.ext HV.out (HX5.out.trans zx)) (ad.out.trans zx) (Vec.lit2 (by simp) rfl rfl) (by omega) ?_;intro v' w6 aa ab ac)))
     have HN:=Za aa
     have HF:=Za (show (ws++[T])++(grp (l.drop (k+1))).map wordG=(grp l).map wordG by
      rw [<-HT.out,HQ.out,<-ag.out]
      simp)
     clear aa ac
     go_roundw
     case rel=>exact ⟨v',k+1,j+1,ws++[T],rfl,by go_num,by omega,by omega,HN,ab,HF⟩
     case measure=>simp [intOf];omega
  ·obtain rfl:k=n:=by omega
   have av:=Za (show ws=(grp l).map wordG by
    have h9:=HT.out
    rw [ZE (Nat.le_of_eq HL.out)] at h9
    simpa [grp] using h9)
   obtain ⟨A9,c9,rfl,hv9, -⟩:=zan HV.out
   go_wp2_with (go_at_call 85;((with_reducible refine (zhx w.heap.size j c9 A9 ws 32 9 _ (OwnV.ext HV.out zx) (by rw [av.out];exact HW.out) (by omega)).mono ?_);rintro e w8 ⟨rfl,hq8⟩))
   go_ret
   exact ⟨by rw [av.out];rfl,zx⟩
end Go.Proofs.YtbjgpbojjhldaaaGreatDoor
/- Text of stitches. -/
namespace Go.Proofs.YtbjgpbojjhldaaaGreatDoor
set_option maxRecDepth 100000
open Go.RowKit
def textG (l:List St):List UInt8:=if allE l=0 then textL l else []
theorem zdM (n c:Nat) (A:Option Addr) (l:List St) (w:World) (hl:Vec shSt w A n l) (hn:n<=maxLen) (hby:Bytes l) (hg:Glob w) :
  Calls Tryz.prog 24 #[.slice A n c] w fun e w'=>e = .returned (.tuple #[.string ⟨(textG l).toArray⟩,.int .i64 (allE l)])/\Ext w w':=by
 have HX:=Za hl
 have HG:=Za hg
 have HS:=Za (zcm n c A l w hl hn hby)
 by_cases h0:allE l=0
 ·obtain ⟨h1,h2, -, -⟩:=zaZ h0
  have hs:=zbL h0
  have HA:=Za h0
  have h3:n<=200:=by rw [<-hl.1];exact h1
  have HT:=Za (fun (w':World) (hb:Ext w w')=>zeV n c A l w' (hl.ext hb) h3 h2 (hg.ext hb))
  have HTG:=Za (show textG l=textL l by rw [textG,if_pos h0])
  rw [textG,if_pos h0]
  clear hl hg hby h0 h1 h2
  generalize textL l=T at *
  have hs2:¬((3000:Int)<(T.length:Int)):=by omega
  go_enter Tryz.func24,Tryz.ntmps24
  go_wp2_with (first
   | (go_at_call 49;((with_reducible refine HS.out.mono ?_);rintro e w1 ⟨rfl,aa⟩;rw [HA.out]))
   | (go_at_call 50;((with_reducible refine (HT.out _ zx).mono ?_);rintro e w2 ⟨rfl,hq2⟩)))
  go_ret2
  exact ⟨by rw [HA.out];rfl,zx⟩
 ·rw [textG,if_neg h0]
  obtain ⟨x,hx⟩:∃x,allE l=x:=⟨_,rfl⟩
  rw [hx] at h0
  have HA:=Za hx
  have hb:(x != 0)=true:=by simpa using h0
  clear hl hg hby h0 hx
  go_enter Tryz.func24,Tryz.ntmps24
  go_wp2_with (first
   | (go_at_call 49;((with_reducible refine HS.out.mono ?_);rintro e w1 ⟨rfl,aa⟩;rw [HA.out])))
  go_ret2
  exact ⟨by rw [HA.out];rfl,zx⟩
end Go.Proofs.YtbjgpbojjhldaaaGreatDoor
/- The walk of write: the text of terms goes into a builder. -/
namespace Go.Proofs.YtbjgpbojjhldaaaGreatDoor
set_option maxRecDepth 100000
open Go.RowKit Go.ChangeShapes Go.WideShapes Go.Joins
def sepT (k:Nat) (r:Tms):List UInt8:=match r with
 | .nil=>[]
 | r=>if k=0 then wT r else 32::wT r
theorem zeR (t:Tms):sepT 0 t=wT t:=by cases t <;> rfl
theorem zk8 (k:Nat):sepT k .nil=[]:=rfl
theorem zfI (N:Int) (c:St) (g r:Tms):sepT 0 (.cons N c g r)=headW c g++(timesW N++sepT 1 r):=by
 rw [zeR]
 by_cases hr:r = .nil
 ·subst hr;rw [zh3,zk8,ZF]
 ·rw [ze0 _ _ _ _ hr,Zr]
  cases r with
  | nil=>exact absurd rfl hr
  | cons=>rfl
theorem znF {k:Nat} (hk:0<k) (N:Int) (c:St) (g r:Tms):sepT k (.cons N c g r)=32::(headW c g++(timesW N++sepT 1 r)):=by
 have h:=zfI N c g r
 rw [zeR] at h
 rw [<-h]
 show (if k=0 then wT (.cons N c g r) else 32::wT (.cons N c g r))=_
 rw [if_neg (by omega)]
theorem zqk {k:Nat} (hk:0<k) (r:Tms):sepT k r=sepT 1 r:=by
 cases r with
 | nil=>rfl
 | cons N c g r=>show (if k=0 then wT (.cons N c g r) else 32::wT (.cons N c g r))=32::wT (.cons N c g r);rw [if_neg (by omega)]
theorem zaV {w:World} {g:Nat} {cs:Array Value} {T:TypeId} {fz:Nat×Nat} (h:w.heap[g]?=some (.cells cs T fz)):∀j,w.cell? ⟨g,j,none⟩=cs[j]?:=fun j=>cell_of_row w g j cs T fz h
theorem zo0 {w:World} (o:Obj):(w.alloc o).heap[w.heap.size]?=some o:=heap_alloc_new w _
theorem zqK {w:World} {g:Nat} {o:Obj} (h:g=w.heap.size):(w.alloc o).heap[g]?=some o:=by subst h;exact heap_alloc_new w _
theorem WSt.box {W0 w0 w:World} {b g:Nat} {l:List UInt8} {cs:Array Value} {T:TypeId} {fz:Nat×Nat} (h:WSt W0 w0 b l w) (hb:w0.heap[g]?=some (.cells cs T fz)) (hg:g≠b) (hT:T≠5):w.heap[g]?=some (.cells cs T fz) :=
 h.kp g _ hb (by simpa using hg) (fun c fz' e=>by cases e;exact hT rfl)
theorem zqJ {T e:TypeId} {B b:Nat} {bs:List Value} {w:World} (h:Lib.IsBuilderF T e B b bs w):b<w.heap.size:=by
 have at_:∀p,Lib.BuilderAtF T e B b p bs w->b<w.heap.size:=fun p ⟨_,v,hbk,_⟩=>(Zh.1 hbk).1
 exact h.elim (at_ _) (at_ _)
theorem zn1 {W0 w0 w:World} {b:Nat} {l:List UInt8} (h:WSt W0 w0 b l w) (hl:l.length<=1000000000) :
  Calls Tryz.prog 93 #[.pointer (some ⟨b,0,none⟩),.int .u8 32] w fun e w'=>e = .returned .nilIface/\WSt W0 w0 b (l++[32]) w':=zcH 32 32 (by rfl) h hl
theorem zn2 {W0 w0 w:World} {b:Nat} {l:List UInt8} (h:WSt W0 w0 b l w) (hl:l.length<=1000000000) :
  Calls Tryz.prog 93 #[.pointer (some ⟨b,0,none⟩),.int .u8 40] w fun e w'=>e = .returned .nilIface/\WSt W0 w0 b (l++[40]) w':=zcH 40 40 (by rfl) h hl
theorem zn3 {W0 w0 w:World} {b:Nat} {l:List UInt8} (h:WSt W0 w0 b l w) (hl:l.length<=1000000000) :
  Calls Tryz.prog 93 #[.pointer (some ⟨b,0,none⟩),.int .u8 41] w fun e w'=>e = .returned .nilIface/\WSt W0 w0 b (l++[41]) w':=zcH 41 41 (by rfl) h hl
theorem zi3 {w:World} {g:Nat} {k:Int} {p:Bool} {a b:Int} {T:TypeId} (h:w.heap[g]?=some (.cells #[.int .u8 k,.bool p,.int .i64 a,.int .i64 b] T (0,0))):Vec shSt w (some ⟨g,0,none⟩) 1 [⟨k,p,a,b⟩]:=by
 refine ⟨rfl,fun _=>⟨g,0,rfl,(Zh.1 h).1,fun j x hx i u hu=>?_⟩⟩
 have hj:j=0:=by
  have:=(ZB.1 hx).1
  simpa using this
 subst hj
 simp at hx
 subst hx
 rw [zaV h]
 simpa [shSt,stc] using hu
theorem zlM:∀(M:Nat),M<=5000->∀(t:Tms),t.size<=M->fineT t=true->∀(W0 w0:World) (b:Nat) (A:Option Addr) (n cap:Nat) (l:List UInt8) (w:World),Glob W0->Tv W0 A n t->WSt W0 w0 b l w->l.length+(wT t).length<=10000000 ->
  Calls Tryz.prog 55 #[.pointer (some ⟨b,0,none⟩),.slice A n cap] w fun e w'=>e = .returned (.tuple #[])/\WSt W0 w0 b (l++wT t) w':=by
 intro M
 induction M using Nat.strongRecOn with
 | ind M ih =>
  intro hM t ht hf W0 w0 b A n cap l w hg hv hs aj
  have HI:=Za ih
  have HV:=Za hv
  have HG:=Za hg
  have ar:=Za hs
  have HF:=Za hf
  have aB:=Za aj
  have hnm:n<=5000:=by have h1:=hv.1;have h2:=za8 t;omega
  clear ih hv hg hs hf aj
  go_enter Tryz.func55,Tryz.ntmps55
  go_wp2_with fail
  go_loopw [10] (fun i wr=>∃(k:Nat) (cur:List UInt8) (rest:Tms),i = .int .i64 k/\rest.cnt+k=n/\rest.size<=M /\
   Hid (WSt W0 w0 b cur wr/\cur++sepT k rest=l++wT t/\fineT rest=true/\(0<rest.cnt->∃b1 off,A=some ⟨b1,off,none⟩/\b1<W0.heap.size/\TAt W0 rest b1 (off+k*6)))) (fun i _=>n-(intOf i).toNat)
  case atStart =>
   refine ⟨0,l,t,rfl,by have:=HV.out.1;omega,ht,Za ⟨ar.out.ext zx,by rw [zeR],HF.out,fun h=>?_⟩⟩
   obtain ⟨h1,h2,h3⟩:=HV.out
   obtain ⟨b,off,e,hb,hc⟩:=h3 (by omega)
   exact ⟨b,off,e,hb,by simpa using hc⟩
  case round =>
   obtain ⟨k,cur,rest,rfl,ai,aJ,HH⟩:=hrel
   by_cases hlt:0<rest.cnt
   ·obtain ⟨N,c,g,r,rfl⟩:=zb1 hlt
    obtain ⟨b1,off,rfl,hb1,hc⟩:=HH.out.2.2.2 hlt
    obtain ⟨A',n',cap',d0,d1,d2,d3,d4,d5,ax,hg,hr⟩:=hc.head
    have ak:=HH.out.1
    have ap:=ak.ex
    obtain ⟨⟨hN0,hN1⟩,au,av⟩:=zb5 HH.out.2.2.1
    obtain ⟨-, -, -,hok, -⟩:=zcw HH.out.2.2.1
    have az:=Za av
    simp only [Tms.cnt,Tms.size] at ai aJ
    have hkn:k<n:=by omega
    have hz:b1<wr.heap.size:=Zi hb1 (Zt ap)
    have hbl:=zqJ ak.bl
    have ae:=fun (w1:World) (cu:List UInt8) (wx:World) (h:WSt W0 w1 b cu wx) (hl:cu.length+(wT g).length<=10000000)=>HI.out (M-1) (by omega) (by omega) g (by omega) au W0 w1 b A' n' cap' cu wx HG.out hg h hl
    have HC:=Za ae
    have aw:=hg.1
    have q0:(0:Int)<=(k:Int):=by omega
    have q1:(k:Int)<(n:Int):=by omega
    have HR:=Za hr
    have aA:=Za ax
    have ay:=Za HH.out.2.1
    have am:=Za (show cur.length+(sepT k (.cons N c g r)).length<=10000000 by
     have h1:=congrArg List.length HH.out.2.1
     rw [Zc,Zc] at h1
     have:=aB.out
     omega)
    have al:=Za hok
    have aq:=Za (fun (w':World) (h:Ext W0 w')=>zaf N (by omega) (by omega) w' (HG.out.ext h))
    obtain ⟨ck,cp,ca,cb⟩:=c
    simp only at d1 d2 d3 d4
    obtain ⟨wq,rfl⟩:∃wq:World,wq=wr:=⟨_,rfl⟩
    have fwd:∀(o:Nat) (u:Value),W0.cell? ⟨b1,o,none⟩=some u->wq.cell? ⟨b1,o,none⟩=some u:=fun o u h=>(Zl (p:=⟨b1,o,none⟩) ap hb1).trans h
    have c0:=fwd _ _ d0
    have c1:=fwd _ _ d1
    have c2:=fwd _ _ d2
    have c3:=fwd _ _ d3
    have c4:=fwd _ _ d4
    have c5:=fwd _ _ d5
    have af:=Za (zo0 (w:=wq) (.cells #[.int .i64 N,.int .u8 ck,.bool cp,.int .i64 ca,.int .i64 cb,.slice A' n' cap'] 140))
    have aD:=Za ak
    have HS:=Za (ak.ext ((Ze wq).alloc (.cells #[.int .i64 N,.int .u8 ck,.bool cp,.int .i64 ca,.int .i64 cb,.slice A' n' cap'] 140))).here
    have ag:wq.heap.size≠b:=by omega
    have ab:(¬((0:Int)<(k:Int))/\Hid (sepT k (.cons N ⟨ck,cp,ca,cb⟩ g r)=[]++(headW ⟨ck,cp,ca,cb⟩ g++(timesW N++sepT 1 r))))∨(((0:Int)<(k:Int))/\Hid (sepT k (.cons N ⟨ck,cp,ca,cb⟩ g r)=[32]++(headW ⟨ck,cp,ca,cb⟩ g++(timesW N++sepT 1 r)))):=by
     rcases Nat.eq_zero_or_pos k with h | h
     ·left;subst h;exact ⟨by omega,Za (zfI _ _ _ _)⟩
     ·right;exact ⟨by omega,Za (znF h _ _ _ _)⟩
    obtain ⟨T,hT⟩:∃T,textL [⟨ck,cp,ca,cb⟩]=T:=⟨_,rfl⟩
    have ac:(((0:Int)<(n':Int))/\Hid (headW ⟨ck,cp,ca,cb⟩ g=[40]++(wT g++[41])))∨(¬((0:Int)<(n':Int))/\Hid (headW ⟨ck,cp,ca,cb⟩ g=T)/\Hid (okSt ⟨ck,cp,ca,cb⟩=true)):=by
     rcases Nat.eq_zero_or_pos n' with h | h
     ·right;obtain rfl:=zbc (t:=g) (by omega);exact ⟨by omega,Za hT,Za (al.out rfl)⟩
     ·left;exact ⟨by omega,Za (zcZ (by rintro rfl;simp [Tms.cnt] at aw;omega))⟩
    have aC:=Za (fun (ho:okSt ⟨ck,cp,ca,cb⟩=true) (w':World) (hb:Ext W0 w') (g0:Nat) (hx:w'.heap[g0]?=some (.cells #[.int .u8 ck,.bool cp,.int .i64 ca,.int .i64 cb] 92 (0,0)))=>(show Calls Tryz.prog 24 #[.slice (some ⟨g0,0,none⟩) 1 1] w' fun e w''=>e = .returned (.tuple #[.string ⟨T.toArray⟩,.int .i64 0])/\Ext w' w'' from by
     have h:=zdM 1 1 (some ⟨g0,0,none⟩) [⟨ck,cp,ca,cb⟩] w' (zi3 hx) (by unfold maxLen;omega) (fun j hj=>by obtain rfl:j=0:=(by simpa using hj);exact aA.out) (HG.out.ext hb)
     rw [textG,if_pos (zct ho).1,(zct ho).1,hT] at h
     exact h))
    have aF:=zaj N.toNat
    obtain ⟨D,hD⟩:∃D,decD N.toNat=D:=⟨_,rfl⟩
    rw [hD] at aF aq
    have hcat:(⟨#[42]⟩++⟨D.toArray⟩:ByteArray)=⟨(42::D).toArray⟩:=zeT [42] D
    have ad:(1<N/\Hid (timesW N=42::D))∨(¬1<N/\Hid (timesW N=[])):=by
     by_cases h:1<N
     ·left;exact ⟨h,Za (by rw [timesW,if_pos h,hD])⟩
     ·right;exact ⟨h,Za (by rw [timesW,if_neg h])⟩
    clear ae hc ap av au ax fwd hg hr d0 d1 d2 d3 d4 d5 ak hok HF al ar aw hT hD
    rcases ab with ⟨aG,ab⟩ | ⟨aG,ab⟩ <;> rcases ac with ⟨aH,ac⟩ | ⟨aH,ac,al⟩ <;> rcases ad with ⟨aE,ad⟩ | ⟨aE,ad⟩
    all_goals
     have ah:=Za (show ∀x y z u:List UInt8,sepT k (.cons N ⟨ck,cp,ca,cb⟩ g r)=x++(y++(z++u))->cur.length+x.length+y.length+z.length<=10000000 from fun x y z u h=>by have h1:=am.out;rw [h] at h1;simp only [Zc] at h1;omega)
    all_goals
     go_wp2_with (first
      | (go_at_call 93;(first
       | ((with_reducible refine (zn1 (HS.out.ext zx) ?_).mono ?_);(focus (have h9:=ah.out _ _ _ _ ab.out;rw [ac.out,ad.out] at h9;simp only [Zc,Zk,List.length_nil] at h9 ⊢;omega));rintro e w1 ⟨rfl,aa⟩;replace HS:=Za aa;have bx:=HS.out.box af.out ag (by decide);have bc:=zaV bx;have x0:=bc 0;have x1:=bc 1;have x2:=bc 2;have x3:=bc 3;have x4:=bc 4;have x5:=bc 5;simp only [List.getElem?_toArray,List.getElem?_cons_zero,List.getElem?_cons_succ] at x0 x1 x2 x3 x4 x5;clear bx bc aa)
       | ((with_reducible refine (zn2 (HS.out.ext zx) ?_).mono ?_);(focus (have h9:=ah.out _ _ _ _ ab.out;rw [ac.out,ad.out] at h9;simp only [Zc,Zk,List.length_nil] at h9 ⊢;omega));rintro e w1 ⟨rfl,aa⟩;replace HS:=Za aa;have bx:=HS.out.box af.out ag (by decide);have bc:=zaV bx;have x0:=bc 0;have x1:=bc 1;have x2:=bc 2;have x3:=bc 3;have x4:=bc 4;have x5:=bc 5;simp only [List.getElem?_toArray,List.getElem?_cons_zero,List.getElem?_cons_succ] at x0 x1 x2 x3 x4 x5;clear bx bc aa)
       | (((with_reducible refine (zn3 (HS.out.ext zx) ?_).mono ?_);(focus (have h9:=ah.out _ _ _ _ ab.out;rw [ac.out,ad.out] at h9;simp only [Zc,Zk,List.length_nil] at h9 ⊢;omega));rintro e w1 ⟨rfl,aa⟩;replace HS:=Za aa;have bx:=HS.out.box af.out ag (by decide);have bc:=zaV bx;have x0:=bc 0;have x1:=bc 1;have x2:=bc 2;have x3:=bc 3;have x4:=bc 4;have x5:=bc 5;simp only [List.getElem?_toArray,List.getElem?_cons_zero,List.getElem?_cons_succ] at x0 x1 x2 x3 x4 x5;clear bx bc aa))))
      | (go_at_call 55;((with_reducible refine (HC.out _ _ _ (HS.out.ext zx) ?_).mono ?_);(focus (have h9:=ah.out _ _ _ _ ab.out;rw [ac.out,ad.out] at h9;simp only [Zc,Zk,List.length_nil] at h9 ⊢;omega));rintro e w1 ⟨rfl,aa⟩;replace HS:=Za aa;have bx:=HS.out.box af.out ag (by decide);have bc:=zaV bx;have x0:=bc 0;have x1:=bc 1;have x2:=bc 2;have x3:=bc 3;have x4:=bc 4;have x5:=bc 5;simp only [List.getElem?_toArray,List.getElem?_cons_zero,List.getElem?_cons_succ] at x0 x1 x2 x3 x4 x5;clear bx bc aa))
      | (go_at_call 24;((with_reducible refine (aC.out al.out _ (HS.out.ex.trans zx) _ (zqK (by simp))).mono ?_);rintro e w1 ⟨rfl,ao⟩;have aa:=HS.out.ext (Zm zx ao);replace HS:=Za aa;have bx:=HS.out.box af.out ag (by decide);have bc:=zaV bx;have x0:=bc 0;have x1:=bc 1;have x2:=bc 2;have x3:=bc 3;have x4:=bc 4;have x5:=bc 5;simp only [List.getElem?_toArray,List.getElem?_cons_zero,List.getElem?_cons_succ] at x0 x1 x2 x3 x4 x5;clear bx bc aa))
      | (go_at_call 36;((with_reducible refine (aq.out _ (HS.out.ex.trans zx)).mono ?_);rintro e w1 ⟨rfl,ao⟩;have aa:=HS.out.ext (Zm zx ao);replace HS:=Za aa;have bx:=HS.out.box af.out ag (by decide);have bc:=zaV bx;have x0:=bc 0;have x1:=bc 1;have x2:=bc 2;have x3:=bc 3;have x4:=bc 4;have x5:=bc 5;simp only [List.getElem?_toArray,List.getElem?_cons_zero,List.getElem?_cons_succ] at x0 x1 x2 x3 x4 x5;clear bx bc aa))
      | (go_at_call 37;((with_reducible refine (zr2 _ (HS.out.ext zx) ?_).mono ?_);(focus (have h9:=ah.out _ _ _ _ ab.out;rw [ac.out,ad.out] at h9;simp only [Zc,Zk,List.length_nil] at h9 ⊢;omega));rintro e w1 ⟨rfl,aa⟩;replace HS:=Za aa;have bx:=HS.out.box af.out ag (by decide);have bc:=zaV bx;have x0:=bc 0;have x1:=bc 1;have x2:=bc 2;have x3:=bc 3;have x4:=bc 4;have x5:=bc 5;simp only [List.getElem?_toArray,List.getElem?_cons_zero,List.getElem?_cons_succ] at x0 x1 x2 x3 x4 x5;clear bx bc aa)))
    all_goals
     go_roundw
     case rel =>
      refine ⟨k+1,_,r,by go_num,by omega,by omega,Za ⟨HS.out.base (aD.out.kp.alloc _),?_,az.out,fun h=>⟨b1,off,rfl,hb1,?_⟩⟩⟩
      ·rw [<-ay.out,ab.out,ac.out,ad.out,zqk (by omega)]
       simp
      ·rw [show off+(k+1)*6=off+k*6+6 by omega]
       exact HR.out
     case measure=>simp [intOf];omega
   ·have aI:rest.cnt=0:=by omega
    obtain rfl:=zbc aI
    simp only [Tms.cnt] at ai
    obtain ⟨e2,e3, -⟩:=HH.out
    obtain rfl:k=n:=by omega
    rw [zk8,ZF] at e3
    subst e3
    have HE:=Za e2
    clear e2
    go_wp2_with fail
    go_end0
    exact ⟨rfl,HE.out⟩
end Go.Proofs.YtbjgpbojjhldaaaGreatDoor
/- Text of terms. -/
namespace Go.Proofs.YtbjgpbojjhldaaaGreatDoor
set_option maxRecDepth 100000
open Go.RowKit Go.ChangeShapes Go.WideShapes Go.Joins
theorem zlO (w1:World):WSt w1 (w1.alloc (.cells #[.pointer none,.slice none 0 0] 75)) w1.heap.size [] (w1.alloc (.cells #[.pointer none,.slice none 0 0] 75)) :=
 ⟨zf6 w1 _ 5 _ (Zb _),(Ze w1).alloc _,Lib.OthersKept.refl _ _ _⟩
theorem zrR:∀ {t:Tms},fineT t=true->(wT t).length<=200*t.size:=by
 intro t
 induction t with
 | nil=>intro _;simp [wT,Tms.size]
 | cons n c g r ih1 ih2 =>
  intro h
  obtain ⟨hn,hg,hr,hc,_⟩:=zcw h
  have h1:=ih1 hg
  have h2:=ih2 hr
  have h3:(timesW n).length<=21:=by
   unfold timesW
   have:=zaj n.toNat
   split
   ·simp;omega
   ·simp
  have h4:(headW c g).length<=100+(wT g).length:=by
   by_cases h0:g = .nil
   ·subst h0
    have h5:=zdS (x:=(c,1)) (hc rfl)
    show (textL [c]).length<=_
    rw [zfS]
    have:(wordT c).length<=100:=by simpa [wordG] using h5
    omega
   ·rw [zcZ h0]
    simp
    omega
  simp only [Tms.size]
  by_cases h0:r = .nil
  ·subst h0
   rw [zh3,Zc]
   omega
  ·rw [ze0 _ _ _ _ h0,Zc,Zc,Zk]
   omega
def TxR (t:Tms) (w:World) (e:Ending) (w':World):Prop:=e = .returned (.tuple #[.string ⟨(ttextV t).toArray⟩,.int .i64 (ttextE t)])/\Ext w w'
theorem zfV (t:Tms) (ht:t.size<=5000) (A:Option Addr) (n cap:Nat) (w:World) (hv:Tv w A n t) (hg:Glob w) :
  Calls Tryz.prog 27 #[.slice A n cap] w (TxR t w):=by
 have HV:=Za hv
 have HG:=Za hg
 obtain ⟨x,hx⟩:∃x,tchkE t=x:=⟨_,rfl⟩
 by_cases h0:x=0
 case neg =>
  have HT:=Za (show ttextE t=x/\ttextV t=[] by
   have h1:ttextE t=x:=by rw [ttextE,hx,if_pos h0]
   exact ⟨h1,by rw [ttextV,h1,if_neg h0]⟩)
  have HX:=Za hx
  have hb:(x != 0)=true:=by simpa using h0
  clear hv hg hx h0
  go_enter Tryz.func27,Tryz.ntmps27
  go_wp2_with (go_at_call 54;((with_reducible refine (zbl t ht A n cap _ (HV.out.ext zx)).mono ?_);rintro e w1 ⟨rfl,ac⟩;rw [HX.out]))
  go_ret2
  exact ⟨by rw [HT.out.1,HT.out.2];rfl,zx⟩
 subst h0
 have HX:=Za hx
 obtain ⟨hs,hd,hf⟩:=zen hx
 have ag:=zrR hf
 obtain ⟨T,hT⟩:∃T,wT t=T:=⟨_,rfl⟩
 rw [hT] at ag
 have hW:=fun (w0:World) (b:Nat) (w':World) (h1:Glob w0) (h2:Tv w0 A n t) (h3:WSt w0 w' b [] w')=>(show Calls Tryz.prog 55 #[.pointer (some ⟨b,0,none⟩),.slice A n cap] w' fun e w''=>e = .returned (.tuple #[])/\WSt w0 w' b T w'' from by
  have h:=zlM 5000 (by omega) t ht hf w0 w' b A n cap [] w' h1 h2 h3 (by rw [hT];simp;omega)
  rw [hT,List.nil_append] at h
  exact h)
 have HW:=Za hW
 have HE:(3000<T.length/\Hid (ttextE t=4/\ttextV t=[]))∨(¬3000<T.length/\Hid (ttextE t=0/\ttextV t=T)):=by
  by_cases h:3000<T.length
  ·left
   have h1:ttextE t=4:=by rw [ttextE,hx,if_neg (by simp),hT,if_pos h]
   exact ⟨h,Za ⟨h1,by rw [ttextV,h1,if_neg (by decide)]⟩⟩
  ·right
   have h1:ttextE t=0:=by rw [ttextE,hx,if_neg (by simp),hT,if_neg h]
   exact ⟨h,Za ⟨h1,by rw [ttextV,h1,if_pos rfl,hT]⟩⟩
 clear hv hg hx hW hT hf hs hd
 rcases HE with ⟨hl,HE⟩ | ⟨hl,HE⟩
 ·have ae:((3000:Int)<(T.length:Int)):=by omega
  go_enter Tryz.func27,Tryz.ntmps27
  go_wp2_with (first
   | (go_at_call 54;((with_reducible refine (zbl t ht A n cap _ (HV.out.ext zx)).mono ?_);rintro e w1 ⟨rfl,ac⟩;rw [HX.out]))
   | (go_at_call 55;((with_reducible refine (HW.out w1 _ _ (HG.out.ext zx) (HV.out.ext zx) (zlO w1)).mono ?_);rintro e w2 ⟨rfl,ab⟩;have aa:=Za ab;clear ab))
   | (go_at_call 56;((refine (Tryz.Builder_Len_f _ _ _ _ aa.out.bl).mono ?_);rintro e w3 ⟨rfl,rfl⟩;rw [zbz])))
  go_ret2
  exact ⟨by rw [HE.out.1,HE.out.2];rfl,Zm zx aa.out.ex⟩
 ·have ae:¬((3000:Int)<(T.length:Int)):=by omega
  go_enter Tryz.func27,Tryz.ntmps27
  go_wp2_with (first
   | (go_at_call 54;((with_reducible refine (zbl t ht A n cap _ (HV.out.ext zx)).mono ?_);rintro e w1 ⟨rfl,ac⟩;rw [HX.out]))
   | (go_at_call 55;((with_reducible refine (HW.out w1 _ _ (HG.out.ext zx) (HV.out.ext zx) (zlO w1)).mono ?_);rintro e w2 ⟨rfl,ab⟩;have aa:=Za ab;clear ab))
   | (go_at_call 56;((refine (Tryz.Builder_Len_f _ _ _ _ aa.out.bl).mono ?_);rintro e w3 ⟨rfl,rfl⟩;rw [zbz]))
   | (go_at_call 38;((refine (Tryz.Builder_String_any_k w1.heap.size _ T _ aa.out.bl (Zt aa.out.ex)).mono ?_);rintro e w4 ⟨rfl, -,af, -⟩;have ad:=Za (Below.trans aa.out.ex af))))
  go_ret2
  exact ⟨by rw [HE.out.1,HE.out.2];rfl,Zm zx ad.out⟩
end Go.Proofs.YtbjgpbojjhldaaaGreatDoor
