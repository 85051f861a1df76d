/- The walks of fine, the reference's fine, many and Great of terms. -/
import Derived.Test.YtgbmeefcnjdjbaaTmsD
import Derived.Test.YtgbmeefcnjdjbaaStitchJ
namespace Go.Proofs.Ytgbmeefcnjdjbaa
set_option maxRecDepth 100000
open Go.RowKit Go.ChangeShapes Go.WideShapes Go.Joins
theorem fine_badN {N : Int} {c : St} {g r : Tms} (h : inR N 1 200 = false) : fineT (.cons N c g r) = false := by
  by_cases hg : g = .nil
  · subst hg; rw [fine_one, h]; rfl
  · rw [fine_grp _ _ _ _ hg, h]; rfl
theorem fine_badC {N : Int} {c : St} {r : Tms} (h : okSt c = false) : fineT (.cons N c .nil r) = false := by
  rw [fine_one, h]; simp
theorem fine_badG {N : Int} {c : St} {g r : Tms} (hg : g ≠ .nil) (h : c ≠ st0 ∨ fineT g = false) : fineT (.cons N c g r) = false := by
  rw [fine_grp _ _ _ _ hg]
  rcases h with h | h
  · simp [h]
  · simp [h]
theorem fine_okC {N : Int} {c : St} {r : Tms} (h : inR N 1 200 = true) (h2 : okSt c = true) : fineT (.cons N c .nil r) = fineT r := by
  rw [fine_one, h, h2]; simp
theorem fine_okG {N : Int} {g r : Tms} (hg : g ≠ .nil) (h : inR N 1 200 = true) (h2 : fineT g = true) : fineT (.cons N st0 g r) = fineT r := by
  rw [fine_grp _ _ _ _ hg, h, h2]; simp
theorem okE_0 {s : St} (h : okSt s = true) : okE s = 0 := by rw [okE, h]; rfl
theorem okE_8 {s : St} (h : okSt s = false) : okE s = 8 := by rw [okE, h]; rfl
theorem chk_ok {k : Int} {p : Bool} {a b : Int} (h0 : 0 ≤ k) (h1 : k ≤ 255) (h : okSt ⟨k, p, a, b⟩ = true) (w : World) :
    Calls Try.prog 8 #[.agg #[.int .u8 k, .bool p, .int .i64 a, .int .i64 b]] w fun e w' => e = .returned (.int .i64 0) ∧ Ext w w' := by
  have := check_any k p a b h0 h1 w
  rwa [okE_0 h] at this
theorem chk_no {k : Int} {p : Bool} {a b : Int} (h0 : 0 ≤ k) (h1 : k ≤ 255) (h : okSt ⟨k, p, a, b⟩ = false) (w : World) :
    Calls Try.prog 8 #[.agg #[.int .u8 k, .bool p, .int .i64 a, .int .i64 b]] w fun e w' => e = .returned (.int .i64 8) ∧ Ext w w' := by
  have := check_any k p a b h0 h1 w
  rwa [okE_8 h] at this
theorem rchk_ok {k : Int} {p : Bool} {a b : Int} (h : okSt ⟨k, p, a, b⟩ = true) (w : World) :
    Calls Try.prog 10 #[.agg #[.int .u8 k, .bool p, .int .i64 a, .int .i64 b]] w fun e w' => e = .returned (.int .i64 0) ∧ Ext w w' := by
  have := rcheck_any k p a b w
  rwa [okE_0 h] at this
theorem rchk_no {k : Int} {p : Bool} {a b : Int} (h : okSt ⟨k, p, a, b⟩ = false) (w : World) :
    Calls Try.prog 10 #[.agg #[.int .u8 k, .bool p, .int .i64 a, .int .i64 b]] w fun e w' => e = .returned (.int .i64 8) ∧ Ext w w' := by
  have := rcheck_any k p a b w
  rwa [okE_8 h] at this
attribute [local go_sem] run_equalIn_st
/-- how many terms the reference counts -/
def manyG (f : Tms → Int) : Int → Tms → Int
  | n, .nil => n
  | n, .cons _ _ g r => if n ≤ 250 then manyG f (n + 1 + f g) r else n
def manyT : Nat → Tms → Int
  | 0, t => if t.cnt = 0 then 0 else 251
  | d + 1, t => manyG (manyT d) 0 t
theorem manyG_bd {f : Tms → Int} {B : Int} (hf : ∀ g, 0 ≤ f g ∧ f g ≤ B) : ∀ (t : Tms) (n : Int), 0 ≤ n → n ≤ 251 + B → 0 ≤ manyG f n t ∧ manyG f n t ≤ 251 + B := by
  intro t
  induction t with
  | nil => intro n h0 h1; exact ⟨h0, h1⟩
  | cons N c g r _ ih =>
    intro n h0 h1
    rw [manyG]
    have := hf g
    split
    · exact ih _ (by omega) (by omega)
    · exact ⟨h0, h1⟩
theorem manyT_bd : ∀ (d : Nat) (t : Tms), 0 ≤ manyT d t ∧ manyT d t ≤ 251 * ((d : Int) + 1) := by
  intro d
  induction d with
  | zero => intro t; rw [manyT]; split <;> omega
  | succ d ih =>
    intro t
    rw [manyT]
    have := manyG_bd ih t 0 (by omega) (by omega)
    omega
theorem manyG_size {f : Tms → Int} (h0 : ∀ g, 0 ≤ f g) (hf : ∀ g, f g ≤ 250 → f g = g.size) : ∀ (t : Tms) (n : Int), 0 ≤ n → manyG f n t ≤ 250 → manyG f n t = n + t.size := by
  have ge : ∀ (t : Tms) (n : Int), n ≤ manyG f n t := by
    intro t
    induction t with
    | nil => intro n; exact Int.le_refl _
    | cons N c g r _ ih =>
      intro n
      rw [manyG]
      split
      · have := ih (n + 1 + f g)
        have := h0 g
        omega
      · exact Int.le_refl _
  intro t
  induction t with
  | nil => intro n _ _; simp [manyG, Tms.size]
  | cons N c g r _ ih =>
    intro n hn h
    rw [manyG] at h ⊢
    split at h
    · rename_i h1
      rw [if_pos h1]
      have h2 := ge r (n + 1 + f g)
      have h3 := h0 g
      have h4 := hf g (by omega)
      rw [ih _ (by omega) h, h4]
      simp only [Tms.size]
      omega
    · omega
theorem manyT_size : ∀ (d : Nat) (t : Tms), manyT d t ≤ 250 → manyT d t = t.size := by
  intro d
  induction d with
  | zero =>
    intro t h
    rw [manyT] at h ⊢
    split at h
    · rename_i h1
      rw [cnt_nil h1]; rfl
    · omega
  | succ d ih =>
    intro t h
    rw [manyT] at h ⊢
    have := manyG_size (fun g => (manyT_bd d g).1) ih t 0 (by omega) h
    omega
/-- whether a list is great -/
def greatT (t : Tms) : Bool := decide (250 < manyT 12 t)
theorem great_size {t : Tms} (h : greatT t = false) : t.size ≤ 250 := by
  have h1 : manyT 12 t ≤ 250 := by simp [greatT] at h; omega
  have := manyT_size 12 t h1
  omega
set_option maxHeartbeats 1000000 in
theorem many_any : ∀ (d : Nat), d ≤ 12 → ∀ (t : Tms) (x : Int), x = d → ∀ (A : Option Addr) (n cap : Nat) (w : World), Tv w A n t →
    Calls Try.prog 13 #[.slice A n cap, .int .i64 x] w fun e w' => e = .returned (.int .i64 (manyT d t)) ∧ Ext w w' := by
  intro d
  induction d with
  | zero =>
    intro hd t x hx A n cap w hv
    have HV := Lib.hid hv
    obtain rfl : x = 0 := by omega
    by_cases hn : n = 0
    · subst hn
      have HE := Lib.hid (show manyT 0 t = 0 by rw [manyT, if_pos HV.out.1])
      clear hx hv
      go_enter Try.func13, Try.ntmps13
      go_wp2_with fail
      refine wp_loop_rounds 1 ?_
      rw [rounds_succ]
      go_wp2_with fail
      go_ret
      exact ⟨by rw [HE.out]; rfl, by repeat (first | exact Ext.refl _ | assumption | refine Ext.alloc ?_ _ | refine Ext.drew ?_ | refine Ext.drewN ?_ _ | refine Ext.trans ?_ (by assumption))⟩
    · have HE := Lib.hid (show manyT 0 t = 251 by rw [manyT, if_neg (by have := HV.out.1; omega)])
      have hn1 : (0 : Int) < (n : Int) := by omega
      have hb : decide ((0 : Int) < (n : Int)) = true := by simp; omega
      clear hx hv
      go_enter Try.func13, Try.ntmps13
      go_wp2_with fail
      go_ret
      exact ⟨by rw [HE.out]; rfl, by repeat (first | exact Ext.refl _ | assumption | refine Ext.alloc ?_ _ | refine Ext.drew ?_ | refine Ext.drewN ?_ _ | refine Ext.trans ?_ (by assumption))⟩
  | succ d ih =>
    intro hd t x hx A n cap w hv
    have HI := Lib.hid (ih (by omega))
    have HV := Lib.hid hv
    have hnm := hv.2.1
    unfold maxLen at hnm
    have hn2 : (n : Int) ≤ 9223372036854775807 := by omega
    have hx0 : (x == 0) = false := beq_eq_false_iff_ne.2 (by omega)
    have hx1 : 1 ≤ x := by omega
    have hx2 : x ≤ 12 := by omega
    have HX := Lib.hid hx
    clear ih hv hx hnm
    go_enter Try.func13, Try.ntmps13
    go_wp2_with fail
    go_loopw [5, 6] (fun u i wr => ∃ (k : Nat) (U : Int) (rest : Tms), i = .int .i64 k ∧ u = .int .i64 U ∧ rest.cnt + k = n ∧ (0 ≤ U ∧ U ≤ 4000) ∧
      Hid (manyG (manyT d) U rest = manyT (d + 1) t ∧ Ext w wr ∧ (0 < rest.cnt → ∃ b off, A = some ⟨b, off, none⟩ ∧ b < wr.heap.size ∧ TAt wr rest b (off + k * 6)))) (fun _ i _ => n - (intOf i).toNat)
    case atStart =>
      refine ⟨0, 0, t, rfl, rfl, by have := HV.out.1; omega, by omega, Lib.hid ⟨rfl, Ext.refl _, fun h => ?_⟩⟩
      obtain ⟨h1, h2, h3⟩ := HV.out
      obtain ⟨b, off, e, hb, hc⟩ := h3 (by omega)
      exact ⟨b, off, e, hb, by simpa using hc⟩
    case round =>
      obtain ⟨k, U, rest, rfl, rfl, hcnt, ⟨hU0, hU1⟩, HH⟩ := hrel
      by_cases hlt : 0 < rest.cnt
      · obtain ⟨N, c, g, r, rfl⟩ := cnt_cons hlt
        simp only [Tms.cnt] at hcnt
        have hkn : k < n := by omega
        by_cases hU : U ≤ 250
        · obtain ⟨b, off, rfl, hb1, hc⟩ := HH.out.2.2 hlt
          obtain ⟨A', n', cap', c0, c1, c2, c3, c4, c5, hkk, hg, hr⟩ := hc.head
          have hxr := HH.out.2.1
          have hz := World.block_lt_of_cell? wr _ c0
          have hcall := fun (x' : Int) (hx' : x' = d) (w' : World) (h : Ext wr w') => HI.out g x' hx' A' n' cap' w' (hg.ext h)
          have HC := Lib.hid hcall
          clear hcall hc
          obtain ⟨hm0, hm1⟩ := manyT_bd d g
          have hG := Lib.hid (show manyG (manyT d) U (.cons N c g r) = manyG (manyT d) (U + 1 + manyT d g) r by rw [manyG, if_pos hU])
          generalize hmm : manyT d g = m at *
          have HMM := Lib.hid hmm
          clear hmm
          go_wp2_with (go_at_call 13; ((with_reducible refine (HC.out _ (by have := HX.out; omega) _ (by repeat (first | exact Ext.refl _ | assumption | refine Ext.alloc ?_ _ | refine Ext.drew ?_ | refine Ext.drewN ?_ _ | refine Ext.trans ?_ (by assumption)))).mono ?_); rintro e w1 ⟨rfl, hq1⟩))
          go_roundw
          case rel =>
            have hxx : Ext wr w1 := by repeat (first | exact Ext.refl _ | assumption | refine Ext.alloc ?_ _ | refine Ext.drew ?_ | refine Ext.drewN ?_ _ | refine Ext.trans ?_ (by assumption))
            obtain ⟨e2, e3, -⟩ := HH.out
            refine ⟨k + 1, U + 1 + m, r, by go_num, by go_num, by omega, by omega, Lib.hid ⟨by rw [← e2, hG.out], e3.trans hxx, fun h => ?_⟩⟩
            refine ⟨b, off, rfl, Nat.lt_of_lt_of_le hb1 (Below.size hxx), ?_⟩
            rw [show off + (k + 1) * 6 = off + k * 6 + 6 by omega]
            exact hr.ext hxx hb1
          case measure => simp [intOf]; omega
        · have hU' : decide (U ≤ 250) = false := by simp; omega
          obtain ⟨e2, e3, -⟩ := HH.out
          have q2 : manyT (d + 1) t = U := by rw [← e2, manyG, if_neg hU]
          have Q2 := Lib.hid q2
          clear q2
          go_wp2_with fail
          go_ret
          exact ⟨by rw [Q2.out]; rfl, by repeat (first | exact Ext.refl _ | assumption | refine Ext.alloc ?_ _ | refine Ext.drew ?_ | refine Ext.drewN ?_ _ | refine Ext.trans ?_ (by assumption))⟩
      · have hn0 : rest.cnt = 0 := by omega
        obtain rfl := cnt_nil hn0
        simp only [Tms.cnt] at hcnt
        obtain ⟨e2, e3, -⟩ := HH.out
        obtain rfl : k = n := by omega
        have Q2 := Lib.hid (show manyT (d + 1) t = U from e2.symm)
        clear e2
        go_wp2_with fail
        go_ret
        exact ⟨by rw [Q2.out]; rfl, by repeat (first | exact Ext.refl _ | assumption | refine Ext.alloc ?_ _ | refine Ext.drew ?_ | refine Ext.drewN ?_ _ | refine Ext.trans ?_ (by assumption))⟩
set_option maxHeartbeats 1000000 in
theorem great_any (t : Tms) (A : Option Addr) (n cap : Nat) (w : World) (hv : Tv w A n t) :
    Calls Try.prog 6 #[.slice A n cap] w fun e w' => e = .returned (.bool (greatT t)) ∧ Ext w w' := by
  have HV := Lib.hid hv
  obtain ⟨hm0, hm1⟩ := manyT_bd 12 t
  have HE := Lib.hid (show greatT t = decide (250 < manyT 12 t) from rfl)
  clear hv
  go_enter Try.func6, Try.ntmps6
  go_wp2_with (go_at_call 13; ((with_reducible refine (many_any 12 (by omega) t 12 (by omega) A n cap _ HV.out).mono ?_); rintro e w1 ⟨rfl, hq1⟩))
  go_ret
  exact ⟨by rw [HE.out]; rfl, by repeat (first | exact Ext.refl _ | assumption | refine Ext.alloc ?_ _ | refine Ext.drew ?_ | refine Ext.drewN ?_ _ | refine Ext.trans ?_ (by assumption))⟩
end Go.Proofs.Ytgbmeefcnjdjbaa
