/- The contracts of Same of charts, both. -/
import Derived.Test.YtfhecgipfhhchaaChartS
namespace Go.Proofs.Ytfhecgipfhhchaa
set_option maxRecDepth 100000
open Go.RowKit Go.ChangeShapes Go.WideShapes Go.Joins
theorem ro_eq {xs ys : List Ro} {n : Nat} (hx : xs.length = n) (hy : ys.length = n) (h : ∀ j, j < n → xs.getD j ro0 = ys.getD j ro0) : xs = ys := by
  apply List.ext_getElem (by omega)
  intro i h1 h2
  have := h i (by omega)
  rwa [List.getD_eq_getElem?_getD, List.getD_eq_getElem?_getD, List.getElem?_eq_getElem h1, List.getElem?_eq_getElem h2] at this
/-- whether two charts are the same -/
def sameC (s : Int) (l : List Ro) (t : Int) (r : List Ro) : Bool := decide (s = t ∧ l = r)
theorem sameC_no {s t : Int} {l r : List Ro} (h : ¬ (s = t ∧ l = r)) : sameC s l t r = false := by simpa [sameC] using h
theorem sameC_yes (s : Int) (l : List Ro) : sameC s l s l = true := by simp [sameC]
set_option maxRecDepth 100000 in
set_option maxHeartbeats 4000000 in
theorem rcsame_any (s t : Int) (A B : Option Addr) (m n c d : Nat) (l r : List Ro) (w : World) (hr : Rws w (fun _ => True) A m l) (hr2 : Rws w (fun _ => True) B n r) :
    Calls Try.prog 11 #[.agg #[.int .i64 s, .slice A m c], .agg #[.int .i64 t, .slice B n d]] w fun e w' => e = .returned (.bool (sameC s l t r)) ∧ Ext w w' := by
  have hml := hr.len
  have hnl := hr2.len
  have hmm := hr.1
  unfold maxLen at hmm
  have hm2 : (m : Int) ≤ 9223372036854775807 := by omega
  have HR := Lib.hid hr
  have HL := Lib.hid hml
  have HR2 := Lib.hid hr2
  have HL2 := Lib.hid hnl
  clear hr hml hmm hr2 hnl
  by_cases hst : s = t
  · subst hst
    by_cases hmn : m = n
    · subst hmn
      go_enter Try.func11, Try.ntmps11
      go_wp2_with fail
      go_loopw [5] (fun i wr => ∃ (k : Nat), i = .int .i64 k ∧ k ≤ m ∧ Hid (∀ j, j < k → l.getD j ro0 = r.getD j ro0) ∧ Hid (Ext ((w.alloc (.cells #[.int .i64 s, .slice A m c] 31)).alloc (.cells #[.int .i64 s, .slice B m d] 31)) wr)) (fun i _ => m - (intOf i).toNat)
      case atStart => exact ⟨0, rfl, Nat.zero_le _, Lib.hid (fun j hj => absurd hj (by omega)), Lib.hid (by repeat (first | exact Ext.refl _ | assumption | refine Ext.alloc ?_ _ | refine Ext.drew ?_ | refine Ext.drewN ?_ _ | refine Ext.trans ?_ (by assumption)))⟩
      case round =>
        obtain ⟨k, rfl, hk, HG, HX0⟩ := hrel
        have hx := HX0.out
        obtain ⟨hf1, hf2, hf3⟩ := hx.facts
        by_cases hlt : k < m
        · obtain ⟨b, off, A', m', c', rfl, hb0, -, c0, c1, hv, hm', hby, -⟩ := (HR.out.ext ((Ext.alloc (Ext.alloc (Ext.refl w) _) _).trans hx)).at_ hlt
          obtain ⟨b', off', B', n', d', rfl, hb0', -, e0, e1, hv', hn', hby', -⟩ := (HR2.out.ext ((Ext.alloc (Ext.alloc (Ext.refl w) _) _).trans hx)).at_ hlt
          have q0 : (0 : Int) ≤ (k : Int) := by omega
          have q1 : (k : Int) < (m : Int) := by omega
          have HW := Lib.hid hv
          have HW' := Lib.hid hv'
          have hm' := Lib.hid hm'
          clear hv hv' hn' hby hby'
          generalize hrow : l.getD k ro0 = x at *
          generalize hrow' : r.getD k ro0 = y at *
          have HX := Lib.hid hrow
          have HY := Lib.hid hrow'
          clear hrow hrow'
          obtain ⟨xb, xc⟩ := x
          obtain ⟨yb, yc⟩ := y
          simp only at c0 e0
          have hz1 : w.heap.size < wr.heap.size := hf3 _ (by simp only [World.size_alloc]; omega)
          have hz2 : w.heap.size + 1 < wr.heap.size := hf3 _ (by simp only [World.size_alloc]; omega)
          obtain ⟨wq, rfl⟩ : ∃ wq : World, wq = wr := ⟨_, rfl⟩
          have g0 : wq.cell? ⟨w.heap.size, 1, none⟩ = some (.slice (some ⟨b, off, none⟩) m c) := by rw [hf1 _ _ (by simp only [World.size_alloc]; omega)]; simp [go_sem]
          have g1 : wq.cell? ⟨w.heap.size + 1, 1, none⟩ = some (.slice (some ⟨b', off', none⟩) m d) := by rw [hf1 _ _ (by simp only [World.size_alloc]; omega)]; simp [go_sem]
          by_cases hbb : xb = yb
          · subst hbb
            by_cases hcc : xc = yc
            · subst hcc
              have HN := Lib.hid (show ∀ j, j < k + 1 → l.getD j ro0 = r.getD j ro0 from fun j hj => by
                rcases Nat.lt_or_ge j k with h | h
                · exact HG.out j h
                · obtain rfl : j = k := by omega
                  rw [HX.out, HY.out])
              go_wp2_with fail
              go_region_held3 (fun w' => w'.cell? ⟨w.heap.size, 1, none⟩ = some (.slice (some ⟨b, off, none⟩) m c) ∧ w'.cell? ⟨w.heap.size + 1, 1, none⟩ = some (.slice (some ⟨b', off', none⟩) m d) ∧ w'.cell? ⟨b, off + k * 2, none⟩ = some (.bool xb) ∧ w'.cell? ⟨b, off + k * 2 + 1, none⟩ = some (.slice A' m' c') ∧ w'.cell? ⟨b', off' + k * 2, none⟩ = some (.bool xb) ∧ w'.cell? ⟨b', off' + k * 2 + 1, none⟩ = some (.slice B' n' d')) (go_keep)
                (first | (go_at_call 26; ((with_reducible refine (rsame_any m' n' c' d' A' B' xc xc _ (HW.out.ext (by repeat (first | exact Ext.refl _ | assumption | refine Ext.alloc ?_ _ | refine Ext.drew ?_ | refine Ext.drewN ?_ _ | refine Ext.trans ?_ (by assumption)))) (HW'.out.ext (by repeat (first | exact Ext.refl _ | assumption | refine Ext.alloc ?_ _ | refine Ext.drew ?_ | refine Ext.drewN ?_ _ | refine Ext.trans ?_ (by assumption)))) hm'.out).mono ?_); rintro e w1 ⟨rfl, hq1⟩; rw [show decide (xc = xc) = true from decide_eq_true rfl]; have hq9 : Ext wq w1 := (by repeat (first | exact Ext.refl _ | assumption | refine Ext.alloc ?_ _ | refine Ext.drew ?_ | refine Ext.drewN ?_ _ | refine Ext.trans ?_ (by assumption))); obtain ⟨hg1, hg2, hg3⟩ := hq9.facts)))
              go_wp2
              go_roundw
              case rel => exact ⟨k + 1, by go_num, by omega, HN, Lib.hid (hx.trans hq9)⟩
              case measure => simp [intOf]; omega
            · have HD := Lib.hid (show decide (xc = yc) = false by simp [hcc])
              have HN := Lib.hid (sameC_no (s := s) (t := s) (l := l) (r := r) (fun h => by
                have h1 := HX.out
                rw [h.2, HY.out] at h1
                cases h1
                exact hcc rfl))
              clear hcc
              go_wp2_with fail
              go_region_held3 (fun w' => w'.cell? ⟨w.heap.size, 1, none⟩ = some (.slice (some ⟨b, off, none⟩) m c) ∧ w'.cell? ⟨w.heap.size + 1, 1, none⟩ = some (.slice (some ⟨b', off', none⟩) m d) ∧ w'.cell? ⟨b, off + k * 2, none⟩ = some (.bool xb) ∧ w'.cell? ⟨b, off + k * 2 + 1, none⟩ = some (.slice A' m' c') ∧ w'.cell? ⟨b', off' + k * 2, none⟩ = some (.bool xb) ∧ w'.cell? ⟨b', off' + k * 2 + 1, none⟩ = some (.slice B' n' d')) (go_keep)
                (first | (go_at_call 26; ((with_reducible refine (rsame_any m' n' c' d' A' B' xc yc _ (HW.out.ext (by repeat (first | exact Ext.refl _ | assumption | refine Ext.alloc ?_ _ | refine Ext.drew ?_ | refine Ext.drewN ?_ _ | refine Ext.trans ?_ (by assumption)))) (HW'.out.ext (by repeat (first | exact Ext.refl _ | assumption | refine Ext.alloc ?_ _ | refine Ext.drew ?_ | refine Ext.drewN ?_ _ | refine Ext.trans ?_ (by assumption)))) hm'.out).mono ?_); rintro e w1 ⟨rfl, hq1⟩; rw [HD.out]; have hq9 : Ext wq w1 := (by repeat (first | exact Ext.refl _ | assumption | refine Ext.alloc ?_ _ | refine Ext.drew ?_ | refine Ext.drewN ?_ _ | refine Ext.trans ?_ (by assumption))); obtain ⟨hg1, hg2, hg3⟩ := hq9.facts)))
              go_wp2
              go_ret
              exact ⟨by rw [HN.out]; rfl, (Ext.alloc (Ext.alloc (Ext.refl w) _) _).trans (hx.trans hq9)⟩
          · have HN := Lib.hid (sameC_no (s := s) (t := s) (l := l) (r := r) (fun h => by
              have h1 := HX.out
              rw [h.2, HY.out] at h1
              cases h1
              exact hbb rfl))
            have hb9 : (xb = true ∧ yb = false) ∨ (xb = false ∧ yb = true) := by cases xb <;> cases yb <;> simp at hbb ⊢
            clear hbb
            rcases hb9 with ⟨rfl, rfl⟩ | ⟨rfl, rfl⟩
            all_goals
              go_wp2_with fail
              go_quiet (fail)
              go_wp2
              go_ret
              exact ⟨by rw [HN.out]; rfl, (Ext.alloc (Ext.alloc (Ext.refl w) _) _).trans (by repeat (first | exact Ext.refl _ | assumption | refine Ext.alloc ?_ _ | refine Ext.drew ?_ | refine Ext.drewN ?_ _ | refine Ext.trans ?_ (by assumption)))⟩
        · obtain rfl : k = m := by omega
          have HE := Lib.hid (ro_eq HL.out HL2.out HG.out)
          have HN := Lib.hid (show sameC s l s r = true by rw [HE.out, sameC_yes])
          go_wp2_with fail
          go_ret
          exact ⟨by rw [HN.out]; rfl, (Ext.alloc (Ext.alloc (Ext.refl w) _) _).trans hx⟩
    · have HN := Lib.hid (sameC_no (s := s) (t := s) (l := l) (r := r) (fun h => hmn (by rw [← HL.out, h.2, HL2.out])))
      have hne : ((m : Int) != (n : Int)) = true := by simp; omega
      go_enter Try.func11, Try.ntmps11
      go_wp2_with fail
      go_ret
      exact ⟨by rw [HN.out]; rfl, by repeat (first | exact Ext.refl _ | assumption | refine Ext.alloc ?_ _ | refine Ext.drew ?_ | refine Ext.drewN ?_ _ | refine Ext.trans ?_ (by assumption))⟩
  · have HN := Lib.hid (sameC_no (s := s) (t := t) (l := l) (r := r) (fun h => hst h.1))
    have hne : (s != t) = true := by simpa using hst
    clear hst
    go_enter Try.func11, Try.ntmps11
    go_wp2_with fail
    go_ret
    exact ⟨by rw [HN.out]; rfl, by repeat (first | exact Ext.refl _ | assumption | refine Ext.alloc ?_ _ | refine Ext.drew ?_ | refine Ext.drewN ?_ _ | refine Ext.trans ?_ (by assumption))⟩
end Go.Proofs.Ytfhecgipfhhchaa
