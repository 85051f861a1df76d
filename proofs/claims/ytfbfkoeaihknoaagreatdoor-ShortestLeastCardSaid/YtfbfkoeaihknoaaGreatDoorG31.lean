/- few, and facts on shortest lists for the laws. -/
import Derived.Test.YtfbfkoeaihknoaaGreatDoorG30
import Derived.Test.YtfbfkoeaihknoaaGreatDoorG11
import Derived.Test.YtfbfkoeaihknoaaGreatDoorTie
namespace Go.Proofs.YtfbfkoeaihknoaaGreatDoor
set_option maxRecDepth 100000
set_option maxRecDepth 100000
open Go.RowKit Go.ChangeShapes Go.WideShapes Go.Joins
def fewB (l : List St) : Bool := decide (l.length ≤ 24) && allB l
theorem few_e {l : List St} (h : fewB l = true) : l.length ≤ 24 ∧ allB l = true := by simpa [fewB] using h
set_option maxHeartbeats 4000000 in
theorem few_any (n c : Nat) (A : Option Addr) (l : List St) (w : World) (hl : Vec shSt w A n l) (hn : n ≤ maxLen) :
    Calls Tryz.prog 16 #[.slice A n c] w fun e w' => e = .returned (.bool (fewB l)) ∧ Ext w w' := by
  have HX := Lib.hid hl
  have hlen := hl.1
  unfold maxLen at hn
  clear hl
  go_enter Tryz.func16, Tryz.ntmps16
  go_wp2_with fail
  go_loopw [3] (fun i wr => ∃ k : Nat, i = .int .i64 k ∧ k ≤ n ∧ k ≤ 25 ∧ Hid (∀ j, j < k → okSt (l.getD j st0) = true) ∧ Hid (Ext w wr)) (fun i _ => n - (intOf i).toNat)
  case atStart => exact ⟨0, rfl, by omega, by omega, Lib.hid (fun j hj => absurd hj (by omega)), Lib.hid (by repeat (first | exact Ext.refl _ | assumption | refine Ext.alloc ?_ _ | refine Ext.drew ?_ | refine Ext.drewN ?_ _ | refine Ext.trans ?_ (by assumption)))⟩
  case round =>
    obtain ⟨k, rfl, hk, hk2, HA, HE⟩ := hrel
    have hx := HE.out
    by_cases hlt : k < n ∧ k ≤ 24
    · obtain ⟨hlt, h24⟩ := hlt
      obtain ⟨b, off, rfl, hb, hc⟩ := Sts.all (HX.out.ext hx) (by omega)
      obtain ⟨c1, c2, c3, c4⟩ := hc k hlt
      have q0 : (0 : Int) ≤ (k : Int) := by omega
      have q1 : (k : Int) < (n : Int) := by omega
      have q2 : (k : Int) ≤ 24 := by omega
      have HOK := Lib.hid (show okSt (l.getD k st0) = false → fewB l = false from fun h => by rw [fewB, allB_bad (n := n) (k := k) hlen hlt h]; simp)
      have HA2 := Lib.hid (show okSt (l.getD k st0) = true → ∀ j, j < k + 1 → okSt (l.getD j st0) = true from fun h j hj => by
        by_cases e : j = k
        · subst e; exact h
        · exact HA.out j (by omega))
      clear hc
      generalize hs : l.getD k st0 = s at *
      obtain ⟨s1, s2, s3, s4⟩ := s
      simp only at c1 c2 c3 c4
      clear hs
      cases hok : okSt ⟨s1, s2, s3, s4⟩
      case false =>
        have HQ := Lib.hid (show okE ⟨s1, s2, s3, s4⟩ = 8 by rw [okE, hok]; rfl)
        have HF := Lib.hid (HOK.out hok)
        clear HOK HA2 hok
        go_wp2_with (first
          | (go_at_call 35; go_loud ((with_reducible refine (rcheck_any s1 s2 s3 s4 _).mono ?_); rintro e w2 ⟨rfl, hq⟩; rw [HQ.out])))
        go_ret
        exact ⟨by rw [HF.out]; rfl, by repeat (first | exact Ext.refl _ | assumption | refine Ext.alloc ?_ _ | refine Ext.drew ?_ | refine Ext.drewN ?_ _ | refine Ext.trans ?_ (by assumption))⟩
      case true =>
        have HQ := Lib.hid (show okE ⟨s1, s2, s3, s4⟩ = 0 by rw [okE, hok]; rfl)
        have HA3 := Lib.hid (HA2.out hok)
        clear HOK HA2 hok
        go_wp2_with (first
          | (go_at_call 35; go_loud ((with_reducible refine (rcheck_any s1 s2 s3 s4 _).mono ?_); rintro e w2 ⟨rfl, hq⟩; rw [HQ.out])))
        go_roundw
        case rel => exact ⟨k + 1, by go_num, by omega, by omega, HA3, Lib.hid (by repeat (first | exact Ext.refl _ | assumption | refine Ext.alloc ?_ _ | refine Ext.drew ?_ | refine Ext.drewN ?_ _ | refine Ext.trans ?_ (by assumption)))⟩
        case measure => simp [intOf]; omega
    · by_cases hkn : k < n
      · have q1 : (k : Int) < (n : Int) := by omega
        have q2 : ¬ ((k : Int) ≤ 24) := by omega
        have q3 : ¬ ((n : Int) ≤ 24) := by omega
        have HF := Lib.hid (show fewB l = false by rw [fewB]; simp; intro h; omega)
        go_wp2_with fail
        go_ret
        exact ⟨by rw [HF.out]; simp, by repeat (first | exact Ext.refl _ | assumption | refine Ext.alloc ?_ _ | refine Ext.drew ?_ | refine Ext.drewN ?_ _ | refine Ext.trans ?_ (by assumption))⟩
      · obtain rfl : k = n := by omega
        have HB := Lib.hid (allB_ok hlen HA.out)
        by_cases h24 : k ≤ 24
        · have q2 : ((k : Int) ≤ 24) := by omega
          have HF := Lib.hid (show fewB l = true by rw [fewB, HB.out]; simp; omega)
          go_wp2_with fail
          go_ret
          exact ⟨by rw [HF.out]; simp, by repeat (first | exact Ext.refl _ | assumption | refine Ext.alloc ?_ _ | refine Ext.drew ?_ | refine Ext.drewN ?_ _ | refine Ext.trans ?_ (by assumption))⟩
        · have q2 : ¬ ((k : Int) ≤ 24) := by omega
          have HF := Lib.hid (show fewB l = false by rw [fewB]; simp; intro h; omega)
          go_wp2_with fail
          go_ret
          exact ⟨by rw [HF.out]; simp, by repeat (first | exact Ext.refl _ | assumption | refine Ext.alloc ?_ _ | refine Ext.drew ?_ | refine Ext.drewN ?_ _ | refine Ext.trans ?_ (by assumption))⟩
theorem rep_all {n : Nat} {g : List St} (h : allB g = true) : allB (rep n g) = true := by
  induction n with
  | zero => rfl
  | succ n ih => rw [rep, allB_app, h, ih]; rfl
theorem fine_all : ∀ {t : Tms}, fineT t = true → allB t.cells = true ∧ t.pos := by
  intro t
  induction t with
  | nil => intro _; exact ⟨rfl, trivial⟩
  | cons N c g r ih1 ih2 =>
    intro h
    obtain ⟨hn, hg, hr, hc, -⟩ := fine_parts h
    obtain ⟨a1, a2⟩ := ih1 hg
    obtain ⟨b1, b2⟩ := ih2 hr
    refine ⟨?_, hn.1, a2, b2⟩
    rw [cells_own, allB_app, b1, Bool.and_true]
    apply rep_all
    by_cases h0 : g = .nil
    · subst h0
      rw [own_one]
      simp [allB, hc rfl]
    · rw [own_grp c (by cases g with | nil => exact absurd rfl h0 | cons => simp [Tms.cnt])]
      exact a1
end Go.Proofs.YtfbfkoeaihknoaaGreatDoor
/- What the rows' listed variables give. -/
namespace Go.Proofs.YtfbfkoeaihknoaaGreatDoor
set_option maxRecDepth 100000
set_option maxRecDepth 100000
open Go.ChangeShapes Go.WideShapes Go.ChangeAt Go.RowKit
theorem star_err : "*" ++ "errors.errorString" = "*errors.errorString" := by decide
theorem row_err (u : TypeId) (h : Tryz.prog.typeName? 3 u = some "*errors.errorString") : u = 193 :=
  typeName_ptr_named (nm := "errors.errorString") (by rw [star_err]; kernel_rfl) (by kernel_rfl) (by decide) u (by rw [star_err]; exact h)
theorem pow_tab : Rows.laid_internal_strconv_uint64pow10 (H := Unit) = Lib.tabData .u64 Lib.pow10Tab := by rfl
theorem glob_of {W : World} (hL : laidMet Tryz.prog [("math/bits.deBruijn32tab", Rows.laid_math_bits_deBruijn32tab), ("math/bits.deBruijn64tab", Rows.laid_math_bits_deBruijn64tab), ("internal/strconv.uint64pow10", Rows.laid_internal_strconv_uint64pow10), ("unicode/utf8.acceptRanges", Rows.laid_unicode_utf8_acceptRanges), ("strconv.ErrRange", Rows.laid_strconv_ErrRange), ("strconv.ErrSyntax", Rows.laid_strconv_ErrSyntax), ("unicode/utf8.first", Rows.laid_unicode_utf8_first)] W) (hsh : W.ShapedOpen Tryz.prog) : Glob W := by
  have h1 := laidMet.tail (laidMet.tail hL)
  have h2 := laidMet.tail (laidMet.tail h1)
  have h3 := laidMet.tail h2
  rw [pow_tab] at h1
  refine ⟨Lib.tabIs_of_head (g := 0) (t := 148) (e := 134) (n := 20) (by kernel_rfl) (by kernel_rfl) (by kernel_rfl) (by kernel_rfl) (by kernel_rfl) (by kernel_rfl) h1, ?_, ?_, Tryz.laysM146.s1_3 W hsh⟩
  · obtain ⟨a, s, h, -⟩ := laid_sentinel (g := 1) (ti := 83) (tp := 193) (te := 195) (ts := 9) h3 (by kernel_rfl) (by kernel_rfl) Tryz.underlying83 row_err (by kernel_rfl) Tryz.underlying195 rfl rfl (by kernel_rfl) (by kernel_rfl) (by kernel_rfl)
    exact ⟨_, _, h⟩
  · obtain ⟨a, s, h, -⟩ := laid_sentinel (g := 2) (ti := 83) (tp := 193) (te := 195) (ts := 9) h2 (by kernel_rfl) (by kernel_rfl) Tryz.underlying83 row_err (by kernel_rfl) Tryz.underlying195 rfl rfl (by kernel_rfl) (by kernel_rfl) (by kernel_rfl)
    exact ⟨_, _, h⟩
end Go.Proofs.YtfbfkoeaihknoaaGreatDoor
