/- What the laws of gauge share: how a gauge is opened, and that the chapter's examples stand. -/
import Derived.Test.YtgcdbnhddjajbaaLaw
import Derived.Test.YtgcdbnhddjajbaaGaugeF
import Derived.Test.YtgcdbnhddjajbaaGaugeQ
namespace Go.Proofs.Ytgcdbnhddjajbaa
open Go.ChangeShapes Go.WideShapes Go.ChangeAt Go.RowKit Go.Joins

section
variable {H : Type} {enc : TypeId × Value → H} {w : World} {base : Nat} {spare : Nat → Bool} {held : Bool}
theorem cells_gauge : Try.prog.cellsOf 23 = 4 := by kernel_rfl
theorem open_gauge {r : Reach} {b0 : Nat} {v : Value} {d : DataW H} {p : List MemPlace} (hv : Value.okWide Try.prog w r b0 23 v) (h : DataW.Trod enc Try.prog w base spare held 23 v d p) :
    ∃ a b c d' : Int, v = .agg #[.int .i64 a, .int .i64 b, .int .i64 c, .int .i64 d'] := by
  obtain ⟨v0, v1, v2, v3, y0, y1, y2, y3, n, rfl, -, -, h0, h1, h2, h3⟩ := open_agg4 Try.underlying23 (by kernel_rfl) cells_gauge hv h
  obtain ⟨a, e0, -, -⟩ := DataW.trod_int Try.underlying3 h0
  obtain ⟨b, e1, -, -⟩ := DataW.trod_int Try.underlying3 h1
  obtain ⟨c, e2, -, -⟩ := DataW.trod_int Try.underlying3 h2
  obtain ⟨d', e3, -, -⟩ := DataW.trod_int Try.underlying3 h3
  simp at e0 e1 e2 e3
  subst e0 e1 e2 e3
  exact ⟨a, b, c, d', rfl⟩
end

theorem given_any (w : World) : Calls Try.prog 26 #[] w fun e w' => e = .returned (.agg #[.int .i64 22, .int .i64 1000, .int .i64 30, .int .i64 1000]) ∧ Ext w w' := by
  go_enter Try.func26, Try.ntmps26
  go_wp2
  exact bodyPost_ret (v := .agg #[.int .i64 22, .int .i64 1000, .int .i64 30, .int .i64 1000]) (by simp [results, Try.results26, go_sem]) rfl ⟨rfl, (Ext.refl _).alloc _⟩
theorem stitches_c {a b c d n v e : Int} (w : World) (h : scaleG (gok a b c d) n 1000000 (near (n * a) b) 1000000 = (v, e)) :
    Calls Try.prog 10 #[.agg #[.int .i64 a, .int .i64 b, .int .i64 c, .int .i64 d], .int .i64 n] w fun x w' => x = .returned (.tuple #[.int .i64 v, .int .i64 e]) ∧ Ext w w' := by
  have := stitches_any a b c d n w
  rwa [h] at this
theorem rows_c {a b c d n v e : Int} (w : World) (h : scaleG (gok a b c d) n 1000000 (near (n * c) d) 1000000 = (v, e)) :
    Calls Try.prog 12 #[.agg #[.int .i64 a, .int .i64 b, .int .i64 c, .int .i64 d], .int .i64 n] w fun x w' => x = .returned (.tuple #[.int .i64 v, .int .i64 e]) ∧ Ext w w' := by
  have := rows_any a b c d n w
  rwa [h] at this
theorem width_c {a b c d n v e : Int} (w : World) (h : scaleG (gok a b c d) n 1000000 (near (n * b) a) 1000000 = (v, e)) :
    Calls Try.prog 14 #[.agg #[.int .i64 a, .int .i64 b, .int .i64 c, .int .i64 d], .int .i64 n] w fun x w' => x = .returned (.tuple #[.int .i64 v, .int .i64 e]) ∧ Ext w w' := by
  have := width_any a b c d n w
  rwa [h] at this
theorem height_c {a b c d n v e : Int} (w : World) (h : scaleG (gok a b c d) n 1000000 (near (n * d) c) 1000000 = (v, e)) :
    Calls Try.prog 16 #[.agg #[.int .i64 a, .int .i64 b, .int .i64 c, .int .i64 d], .int .i64 n] w fun x w' => x = .returned (.tuple #[.int .i64 v, .int .i64 e]) ∧ Ext w w' := by
  have := height_any a b c d n w
  rwa [h] at this
theorem fit_c {a b c d width every extra v e : Int} (w : World) (h : fitG (gok a b c d) a b width every extra = (v, e)) :
    Calls Try.prog 20 #[.agg #[.int .i64 a, .int .i64 b, .int .i64 c, .int .i64 d], .int .i64 width, .int .i64 every, .int .i64 extra] w fun x w' => x = .returned (.tuple #[.int .i64 v, .int .i64 e]) ∧ Ext w w' := by
  have := fit_any a b c d width every extra w
  rwa [h] at this
theorem change_c {a b c d a' b' c' d' n v e : Int} (w : World) (h : scaleG (gok a b c d && gok a' b' c' d') n 1000000 (near (n * (b * a')) (a * b')) 1000000 = (v, e)) :
    Calls Try.prog 22 #[.agg #[.int .i64 a, .int .i64 b, .int .i64 c, .int .i64 d], .agg #[.int .i64 a', .int .i64 b', .int .i64 c', .int .i64 d'], .int .i64 n] w fun x w' => x = .returned (.tuple #[.int .i64 v, .int .i64 e]) ∧ Ext w w' := by
  have := change_any a b c d a' b' c' d' n w
  rwa [h] at this
theorem gcheck_c {a b c d e : Int} (w : World) (h : gerr a b c d = e) :
    Calls Try.prog 18 #[.agg #[.int .i64 a, .int .i64 b, .int .i64 c, .int .i64 d]] w fun x w' => x = .returned (.int .i64 e) ∧ Ext w w' := by
  have := gcheck_any a b c d w
  rwa [h] at this
theorem alEv1 : scaleG (gok 22 1000 30 1000) 5000 1000000 (near (5000 * 22) 1000) 1000000 = (110, 0) := by decide +kernel
theorem alEv2 : scaleG (gok 22 1000 30 1000) 1140 1000000 (near (1140 * 22) 1000) 1000000 = (25, 0) := by decide +kernel
theorem alEv3 : scaleG (gok 22 1000 30 1000) 1140 1000000 (near (1140 * 30) 1000) 1000000 = (34, 0) := by decide +kernel
theorem alEv4 : scaleG (gok 22 1000 30 1000) 25 1000000 (near (25 * 1000) 22) 1000000 = (1136, 0) := by decide +kernel
theorem alEv5 : fitG (gok 22 1000 30 1000) 22 1000 1140 6 1 = (25, 0) := by decide +kernel
theorem alEv6 : fitG (gok 22 1000 30 1000) 22 1000 1140 8 1 = (25, 0) := by decide +kernel
theorem alEv7 : fitG (gok 22 1000 30 1000) 22 1000 1140 10 2 = (22, 0) := by decide +kernel
theorem alEv8 : scaleG (gok 22 1000 30 1000 && gok 20 1000 1 1) 110 1000000 (near (110 * (1000 * 20)) (22 * 1000)) 1000000 = (100, 0) := by decide +kernel
set_option maxRecDepth 100000 in
set_option maxHeartbeats 1000000 in
theorem alive_any (w : World) : Calls Try.prog 24 #[] w fun e w' => e = .returned (.bool true) ∧ Ext w w' := by
  have hb : Ext w w := Ext.refl _
  go_enter Try.func24, Try.ntmps24
  go_wp2_with (first | (go_at_call 26; ((with_reducible refine (given_any _).mono ?_); rintro e w1 ⟨rfl, hq⟩; replace hb := Ext.via hb hq (by repeat (first | exact Ext.refl _ | refine Ext.drew ?_ | refine Ext.drewN ?_ _ | refine Ext.alloc ?_ _)); clear hq; obtain ⟨hc, hf, hz⟩ := hb.facts)) | (go_at_call 10; ((with_reducible refine (stitches_c _ alEv1).mono ?_); rintro e w1 ⟨rfl, hq⟩; replace hb := Ext.via hb hq (by repeat (first | exact Ext.refl _ | refine Ext.drew ?_ | refine Ext.drewN ?_ _ | refine Ext.alloc ?_ _)); clear hq; obtain ⟨hc, hf, hz⟩ := hb.facts)) | (go_at_call 10; ((with_reducible refine (stitches_c _ alEv2).mono ?_); rintro e w1 ⟨rfl, hq⟩; replace hb := Ext.via hb hq (by repeat (first | exact Ext.refl _ | refine Ext.drew ?_ | refine Ext.drewN ?_ _ | refine Ext.alloc ?_ _)); clear hq; obtain ⟨hc, hf, hz⟩ := hb.facts)) | (go_at_call 12; ((with_reducible refine (rows_c _ alEv3).mono ?_); rintro e w1 ⟨rfl, hq⟩; replace hb := Ext.via hb hq (by repeat (first | exact Ext.refl _ | refine Ext.drew ?_ | refine Ext.drewN ?_ _ | refine Ext.alloc ?_ _)); clear hq; obtain ⟨hc, hf, hz⟩ := hb.facts)) | (go_at_call 14; ((with_reducible refine (width_c _ alEv4).mono ?_); rintro e w1 ⟨rfl, hq⟩; replace hb := Ext.via hb hq (by repeat (first | exact Ext.refl _ | refine Ext.drew ?_ | refine Ext.drewN ?_ _ | refine Ext.alloc ?_ _)); clear hq; obtain ⟨hc, hf, hz⟩ := hb.facts)) | (go_at_call 20; ((with_reducible refine (fit_c _ alEv5).mono ?_); rintro e w1 ⟨rfl, hq⟩; replace hb := Ext.via hb hq (by repeat (first | exact Ext.refl _ | refine Ext.drew ?_ | refine Ext.drewN ?_ _ | refine Ext.alloc ?_ _)); clear hq; obtain ⟨hc, hf, hz⟩ := hb.facts)) | (go_at_call 20; ((with_reducible refine (fit_c _ alEv6).mono ?_); rintro e w1 ⟨rfl, hq⟩; replace hb := Ext.via hb hq (by repeat (first | exact Ext.refl _ | refine Ext.drew ?_ | refine Ext.drewN ?_ _ | refine Ext.alloc ?_ _)); clear hq; obtain ⟨hc, hf, hz⟩ := hb.facts)) | (go_at_call 20; ((with_reducible refine (fit_c _ alEv7).mono ?_); rintro e w1 ⟨rfl, hq⟩; replace hb := Ext.via hb hq (by repeat (first | exact Ext.refl _ | refine Ext.drew ?_ | refine Ext.drewN ?_ _ | refine Ext.alloc ?_ _)); clear hq; obtain ⟨hc, hf, hz⟩ := hb.facts)) | (go_at_call 22; ((with_reducible refine (change_c _ alEv8).mono ?_); rintro e w1 ⟨rfl, hq⟩; replace hb := Ext.via hb hq (by repeat (first | exact Ext.refl _ | refine Ext.drew ?_ | refine Ext.drewN ?_ _ | refine Ext.alloc ?_ _)); clear hq; obtain ⟨hc, hf, hz⟩ := hb.facts)))
  go_ret
  exact ⟨rfl, by repeat (first | exact Ext.refl _ | refine Ext.alloc ?_ _ | refine Ext.drew ?_ | refine Ext.drewN ?_ _ | refine Ext.trans ?_ (by assumption))⟩
end Go.Proofs.Ytgcdbnhddjajbaa
