/- The Check of patterns. -/
import Derived.Test.YtfhecgipfhhchaaPtN
import Derived.Test.YtfhecgipfhhchaaChartJ
import Derived.Test.YtfhecgipfhhchaaGauK
namespace Go.Proofs.Ytfhecgipfhhchaa
set_option maxRecDepth 100000
set_option maxRecDepth 100000
open Go.RowKit Go.ChangeShapes Go.WideShapes Go.Joins
theorem entersP (K : Nat) (h : ((Try.prog.funcs[K]?).map fun f => (f.name == "runtime.NumGoroutine", f.body.isNone)) = some (false, false)) : ∀ args w, (callFunc K args).run Try.prog w = .ok (.enter K args) w := by
  intro args w
  obtain ⟨f, hf, h2⟩ := Option.map_eq_some_iff.1 h
  simp only [Prod.mk.injEq] at h2
  simp [callFunc, hf]
  rw [if_neg (by simpa using h2.1), if_neg (by intro e; simp [e] at h2)]
section
variable {nm : List UInt8} {g1 g2 g3 g4 : Int} {As Ac : Option Addr} {ns cs nc cc : Nat}
/-- a pattern in a box -/
def BoxP (w : World) (b : Nat) (nm : List UInt8) (g1 g2 g3 g4 : Int) (As : Option Addr) (ns cs : Nat) (Ac : Option Addr) (nc cc : Nat) : Prop :=
  w.heap[b]? = some (.cells #[.string ⟨nm.toArray⟩, .int .i64 g1, .int .i64 g2, .int .i64 g3, .int .i64 g4, .slice As ns cs, .slice Ac nc cc] 27 (0, 0))
theorem BoxP.ext {w w' : World} {b : Nat} (h : BoxP w b nm g1 g2 g3 g4 As ns cs Ac nc cc) (hb : Ext w w') : BoxP w' b nm g1 g2 g3 g4 As ns cs Ac nc cc := by
  unfold BoxP at h ⊢
  rw [hb.block _ (Array.getElem?_eq_some_iff.1 h).1]
  exact h
theorem BoxP.facts {w : World} {b : Nat} (h : BoxP w b nm g1 g2 g3 g4 As ns cs Ac nc cc) :
    w.cell? ⟨b, 0, none⟩ = some (.string ⟨nm.toArray⟩) ∧ w.cell? ⟨b, 1, none⟩ = some (.int .i64 g1) ∧ w.cell? ⟨b, 2, none⟩ = some (.int .i64 g2) ∧ w.cell? ⟨b, 3, none⟩ = some (.int .i64 g3) ∧ w.cell? ⟨b, 4, none⟩ = some (.int .i64 g4) ∧
      w.cell? ⟨b, 5, none⟩ = some (.slice As ns cs) ∧ w.cell? ⟨b, 6, none⟩ = some (.slice Ac nc cc) ∧ b < w.heap.size :=
  ⟨(cell_of_row w _ 0 _ _ (0, 0) h).trans rfl, (cell_of_row w _ 1 _ _ (0, 0) h).trans rfl, (cell_of_row w _ 2 _ _ (0, 0) h).trans rfl, (cell_of_row w _ 3 _ _ (0, 0) h).trans rfl, (cell_of_row w _ 4 _ _ (0, 0) h).trans rfl, (cell_of_row w _ 5 _ _ (0, 0) h).trans rfl, (cell_of_row w _ 6 _ _ (0, 0) h).trans rfl, (Array.getElem?_eq_some_iff.1 h).1⟩
theorem BoxP.start (w : World) (nm : List UInt8) (g1 g2 g3 g4 : Int) (As : Option Addr) (ns cs : Nat) (Ac : Option Addr) (nc cc : Nat) : BoxP (w.alloc (.cells #[.string ⟨nm.toArray⟩, .int .i64 g1, .int .i64 g2, .int .i64 g3, .int .i64 g4, .slice As ns cs, .slice Ac nc cc] 27)) w.heap.size nm g1 g2 g3 g4 As ns cs Ac nc cc := heap_alloc_new w _
theorem pc1_any {b : Nat} {st : List Stf} (i : Nat) (w : World) (hb : BoxP w b nm g1 g2 g3 g4 As ns cs Ac nc cc) (hs : Vec shStf w As ns st) (hi : i < ns) :
    Calls Try.prog 18 #[.int .i64 i, .pointer (some ⟨b, 0, none⟩)] w fun e w' => e = .returned (.string ⟨(stN st i).toArray⟩) ∧ Ext w w' := by
  obtain ⟨x0, x1, x2, x3, x4, x5, x6, xz⟩ := hb.facts
  obtain ⟨b', off, rfl, hlt, c0, c1⟩ := Stf.at_ hs hi
  have q0 : (0 : Int) ≤ (i : Int) := by omega
  have q1 : (i : Int) < (ns : Int) := by omega
  generalize stN st i = Y at *
  clear hb hs
  go_enter Try.func18, Try.ntmps18
  go_wp2_with fail
  go_ret
  exact ⟨rfl, Ext.refl _⟩
theorem pc2_any {b : Nat} {se : List Sec} (i : Nat) (w : World) (hb : BoxP w b nm g1 g2 g3 g4 As ns cs Ac nc cc) (hs : Secs w Ac nc se) (hi : i < nc) :
    Calls Try.prog 19 #[.int .i64 i, .pointer (some ⟨b, 0, none⟩)] w fun e w' => e = .returned (.string ⟨(seN se i).toArray⟩) ∧ Ext w w' := by
  obtain ⟨x0, x1, x2, x3, x4, x5, x6, xz⟩ := hb.facts
  obtain ⟨b', off, A', n', c', rfl, hlt, c0, c1, c2, hr, hcap⟩ := hs.at_ hi
  have q0 : (0 : Int) ≤ (i : Int) := by omega
  have q1 : (i : Int) < (nc : Int) := by omega
  generalize seN se i = Y at *
  clear hb hs hr
  go_enter Try.func19, Try.ntmps19
  go_wp2_with fail
  go_ret
  exact ⟨rfl, Ext.refl _⟩
end
theorem gram_bad {st : List Stf} {n k : Nat} (hk : k < n) (h : ¬ (1 ≤ (st.getD k stf0).g ∧ (st.getD k stf0).g ≤ 100000)) : gramB st n = false := by
  unfold gramB
  rw [List.all_eq_false]
  exact ⟨k, List.mem_range.2 hk, by simp only [decide_eq_true_eq]; exact h⟩
theorem pat_many {nm : List UInt8} {ge : Int} {st : List Stf} {se : List Sec} (h : 20 < st.length ∨ 20 < se.length) : patE nm ge st se = 4 := by rw [patE, if_pos h]
theorem pat_bad {nm : List UInt8} {ge : Int} {st : List Stf} {se : List Sec} (h : ¬ (20 < st.length ∨ 20 < se.length)) (h2 : fineP nm ge st se = false) : patE nm ge st se = 8 := by
  rw [patE, if_neg h, if_neg (by rw [h2]; simp)]
theorem pat_twice {nm : List UInt8} {ge : Int} {st : List Stf} {se : List Sec} (h : ¬ (20 < st.length ∨ 20 < se.length)) (h2 : fineP nm ge st se = true) (h3 : twiceB (stN st) st.length = true ∨ twiceB (seN se) se.length = true) : patE nm ge st se = 14 := by
  rw [patE, if_neg h, if_pos h2, if_pos h3]
theorem pat_first {nm : List UInt8} {ge : Int} {st : List Stf} {se : List Sec} (h : ¬ (20 < st.length ∨ 20 < se.length)) (h2 : fineP nm ge st se = true) (h3 : twiceB (stN st) st.length = false) (h4 : twiceB (seN se) se.length = false) : patE nm ge st se = firstE se se.length 0 := by
  rw [patE, if_neg h, if_pos h2, if_neg (by rw [h3, h4]; simp)]
theorem first_bad {se : List Sec} {n k : Nat} (h : chkC (se.getD k sec0).s (se.getD k sec0).rows ≠ 0) : firstE se (n + 1) k = chkC (se.getD k sec0).s (se.getD k sec0).rows := by rw [firstE, if_pos h]
theorem first_ok {se : List Sec} {n k : Nat} (h : chkC (se.getD k sec0).s (se.getD k sec0).rows = 0) : firstE se (n + 1) k = firstE se n (k + 1) := by rw [firstE, if_neg (fun h9 => h9 h)]
set_option maxHeartbeats 16000000 in
theorem pcheck_any (nm : List UInt8) (g1 g2 g3 g4 : Int) (As : Option Addr) (ns cs : Nat) (st : List Stf) (Ac : Option Addr) (nc cc : Nat) (se : List Sec) (w : World) (hs : Vec shStf w As ns st) (hc : Secs w Ac nc se)
    (hnl : nm.length ≤ 100) (hsl : ∀ i, i < ns → (stN st i).length ≤ 100) (hcl : ∀ i, i < nc → (seN se i).length ≤ 100) (hn1 : ns ≤ 30) (hn2 : nc ≤ 30) :
    Calls Try.prog 9 #[.agg #[.string ⟨nm.toArray⟩, .int .i64 g1, .int .i64 g2, .int .i64 g3, .int .i64 g4, .slice As ns cs, .slice Ac nc cc]] w fun e w' => e = .returned (.int .i64 (patE nm (gerr g1 g2 g3 g4) st se)) ∧ Ext w w' := by
  have HLS := Lib.hid hs.1
  have HLC := Lib.hid hc.len
  have HSV := Lib.hid hs
  have HCV := Lib.hid hc
  have HBX := Lib.hid (BoxP.start w nm g1 g2 g3 g4 As ns cs Ac nc cc)
  have HW0 := Lib.hid (show Ext w (w.alloc (.cells #[.string ⟨nm.toArray⟩, .int .i64 g1, .int .i64 g2, .int .i64 g3, .int .i64 g4, .slice As ns cs, .slice Ac nc cc] 27)) from (Ext.refl w).alloc _)
  have HN1 := Lib.hid (fun (w' : World) (hx : Ext (w.alloc (.cells #[.string ⟨nm.toArray⟩, .int .i64 g1, .int .i64 g2, .int .i64 g3, .int .i64 g4, .slice As ns cs, .slice Ac nc cc] 27)) w') => names_any ns 18 #[.pointer (some ⟨w.heap.size, 0, none⟩)] (stN st) w' (by omega) (entersP _ (by kernel_rfl))
    (fun i w1 hi h1 => pc1_any i w1 (HBX.out.ext (hx.trans h1)) (HSV.out.ext ((HW0.out.trans hx).trans h1)) hi) (fun i hi => by have := hsl i hi; omega))
  have HN2 := Lib.hid (fun (w' : World) (hx : Ext (w.alloc (.cells #[.string ⟨nm.toArray⟩, .int .i64 g1, .int .i64 g2, .int .i64 g3, .int .i64 g4, .slice As ns cs, .slice Ac nc cc] 27)) w') => names_any nc 19 #[.pointer (some ⟨w.heap.size, 0, none⟩)] (seN se) w' (by omega) (entersP _ (by kernel_rfl))
    (fun i w1 hi h1 => pc2_any i w1 (HBX.out.ext (hx.trans h1)) (HCV.out.ext ((HW0.out.trans hx).trans h1)) hi) (fun i hi => by have := hcl i hi; omega))
  have HWN := Lib.hid (fun (w' : World) => word_any nm (by omega) w')
  have HGE := Lib.hid (fun (w' : World) => gcheck_any g1 g2 g3 g4 w')
  obtain ⟨R, hR⟩ : ∃ R, patE nm (gerr g1 g2 g3 g4) st se = R := ⟨_, rfl⟩
  have HR := Lib.hid hR
  rw [hR]
  clear hs hc hsl hcl hR
  by_cases h20 : 20 < ns
  · have HN := Lib.hid (show R = 4 by rw [← HR.out]; exact pat_many (.inl (by rw [HLS.out]; exact h20)))
    have p1 : (20 : Int) < (ns : Int) := by omega
    clear h20
    go_enter Try.func9, Try.ntmps9
    go_wp2_with fail
    go_ret
    exact ⟨by rw [HN.out]; rfl, by repeat (first | exact Ext.refl _ | assumption | refine Ext.alloc ?_ _ | refine Ext.drew ?_ | refine Ext.drewN ?_ _ | refine Ext.trans ?_ (by assumption))⟩
  have p1 : ¬ ((20 : Int) < (ns : Int)) := by omega
  by_cases h21 : 20 < nc
  · have HN := Lib.hid (show R = 4 by rw [← HR.out]; exact pat_many (.inr (by rw [HLC.out]; exact h21)))
    have p2 : (20 : Int) < (nc : Int) := by omega
    clear h20 h21
    go_enter Try.func9, Try.ntmps9
    go_wp2_with fail
    go_ret
    exact ⟨by rw [HN.out]; rfl, by repeat (first | exact Ext.refl _ | assumption | refine Ext.alloc ?_ _ | refine Ext.drew ?_ | refine Ext.drewN ?_ _ | refine Ext.trans ?_ (by assumption))⟩
  have p2 : ¬ ((20 : Int) < (nc : Int)) := by omega
  have HNM := Lib.hid (show ¬ (20 < st.length ∨ 20 < se.length) by rw [HLS.out, HLC.out]; omega)
  clear h20 h21
  have HFP := Lib.hid (show fineP nm (gerr g1 g2 g3 g4) st se = (wordS nm && wordsB (stN st) ns && wordsB (seN se) nc && decide (nc ≠ 0) && decide (gerr g1 g2 g3 g4 = 0) && gramB st ns) by rw [fineP, HLS.out, HLC.out])
  obtain ⟨a1, e1⟩ : ∃ a, wordS nm = a := ⟨_, rfl⟩
  obtain ⟨a2, e2⟩ : ∃ a, wordsB (stN st) ns = a := ⟨_, rfl⟩
  obtain ⟨a3, e3⟩ : ∃ a, wordsB (seN se) nc = a := ⟨_, rfl⟩
  obtain ⟨t1, e4⟩ : ∃ a, twiceB (stN st) ns = a := ⟨_, rfl⟩
  obtain ⟨t2, e5⟩ : ∃ a, twiceB (seN se) nc = a := ⟨_, rfl⟩
  obtain ⟨ge, e6⟩ : ∃ a, gerr g1 g2 g3 g4 = a := ⟨_, rfl⟩
  rw [e1, e2, e3, e6] at HFP
  rw [e6] at HGE HR
  rw [e2, e4] at HN1
  rw [e3, e5] at HN2
  rw [e1] at HWN
  have HT1 := Lib.hid e4
  have HT2 := Lib.hid e5
  clear e1 e2 e3 e4 e5 e6
  cases a1 with
  | false =>
    have HN := Lib.hid (show R = 8 by rw [← HR.out]; exact pat_bad HNM.out (by rw [HFP.out]; simp))
    go_enter Try.func9, Try.ntmps9
    go_wp2_with (first
      | (go_at_call 17; (first | ((with_reducible refine (HN1.out _ (by repeat (first | exact Ext.refl _ | assumption | refine Ext.alloc ?_ _ | refine Ext.drew ?_ | refine Ext.drewN ?_ _ | refine Ext.trans ?_ (by assumption)))).mono ?_); rintro e w1 ⟨rfl, hq1⟩; obtain ⟨x0, x1, x2, x3, x4, x5, x6, xz⟩ := (HBX.out.ext (by repeat (first | exact Ext.refl _ | assumption | refine Ext.alloc ?_ _ | refine Ext.drew ?_ | refine Ext.drewN ?_ _ | refine Ext.trans ?_ (by assumption)) : Ext _ w1)).facts) | (go_loud ((with_reducible refine (HN2.out _ (by repeat (first | exact Ext.refl _ | assumption | refine Ext.alloc ?_ _ | refine Ext.drew ?_ | refine Ext.drewN ?_ _ | refine Ext.trans ?_ (by assumption)))).mono ?_); rintro e w2 ⟨rfl, hq2⟩; obtain ⟨x0, x1, x2, x3, x4, x5, x6, xz⟩ := (HBX.out.ext (by repeat (first | exact Ext.refl _ | assumption | refine Ext.alloc ?_ _ | refine Ext.drew ?_ | refine Ext.drewN ?_ _ | refine Ext.trans ?_ (by assumption)) : Ext _ w2)).facts))))
      | (go_at_call 20; go_loud ((with_reducible refine (HWN.out _).mono ?_); rintro e w3 ⟨rfl, hq3⟩; obtain ⟨x0, x1, x2, x3, x4, x5, x6, xz⟩ := (HBX.out.ext (by repeat (first | exact Ext.refl _ | assumption | refine Ext.alloc ?_ _ | refine Ext.drew ?_ | refine Ext.drewN ?_ _ | refine Ext.trans ?_ (by assumption)) : Ext _ w3)).facts)))
    go_ret
    exact ⟨by rw [HN.out]; rfl, by repeat (first | exact Ext.refl _ | assumption | refine Ext.alloc ?_ _ | refine Ext.drew ?_ | refine Ext.drewN ?_ _ | refine Ext.trans ?_ (by assumption))⟩
  | true =>
    cases a2 with
    | false =>
      have HN := Lib.hid (show R = 8 by rw [← HR.out]; exact pat_bad HNM.out (by rw [HFP.out]; simp))
      go_enter Try.func9, Try.ntmps9
      go_wp2_with (first
        | (go_at_call 17; (first | ((with_reducible refine (HN1.out _ (by repeat (first | exact Ext.refl _ | assumption | refine Ext.alloc ?_ _ | refine Ext.drew ?_ | refine Ext.drewN ?_ _ | refine Ext.trans ?_ (by assumption)))).mono ?_); rintro e w1 ⟨rfl, hq1⟩; obtain ⟨x0, x1, x2, x3, x4, x5, x6, xz⟩ := (HBX.out.ext (by repeat (first | exact Ext.refl _ | assumption | refine Ext.alloc ?_ _ | refine Ext.drew ?_ | refine Ext.drewN ?_ _ | refine Ext.trans ?_ (by assumption)) : Ext _ w1)).facts) | (go_loud ((with_reducible refine (HN2.out _ (by repeat (first | exact Ext.refl _ | assumption | refine Ext.alloc ?_ _ | refine Ext.drew ?_ | refine Ext.drewN ?_ _ | refine Ext.trans ?_ (by assumption)))).mono ?_); rintro e w2 ⟨rfl, hq2⟩; obtain ⟨x0, x1, x2, x3, x4, x5, x6, xz⟩ := (HBX.out.ext (by repeat (first | exact Ext.refl _ | assumption | refine Ext.alloc ?_ _ | refine Ext.drew ?_ | refine Ext.drewN ?_ _ | refine Ext.trans ?_ (by assumption)) : Ext _ w2)).facts))))
        | (go_at_call 20; go_loud ((with_reducible refine (HWN.out _).mono ?_); rintro e w3 ⟨rfl, hq3⟩; obtain ⟨x0, x1, x2, x3, x4, x5, x6, xz⟩ := (HBX.out.ext (by repeat (first | exact Ext.refl _ | assumption | refine Ext.alloc ?_ _ | refine Ext.drew ?_ | refine Ext.drewN ?_ _ | refine Ext.trans ?_ (by assumption)) : Ext _ w3)).facts)))
      go_ret
      exact ⟨by rw [HN.out]; rfl, by repeat (first | exact Ext.refl _ | assumption | refine Ext.alloc ?_ _ | refine Ext.drew ?_ | refine Ext.drewN ?_ _ | refine Ext.trans ?_ (by assumption))⟩
    | true =>
      cases a3 with
      | false =>
        have HN := Lib.hid (show R = 8 by rw [← HR.out]; exact pat_bad HNM.out (by rw [HFP.out]; simp))
        go_enter Try.func9, Try.ntmps9
        go_wp2_with (first
          | (go_at_call 17; (first | ((with_reducible refine (HN1.out _ (by repeat (first | exact Ext.refl _ | assumption | refine Ext.alloc ?_ _ | refine Ext.drew ?_ | refine Ext.drewN ?_ _ | refine Ext.trans ?_ (by assumption)))).mono ?_); rintro e w1 ⟨rfl, hq1⟩; obtain ⟨x0, x1, x2, x3, x4, x5, x6, xz⟩ := (HBX.out.ext (by repeat (first | exact Ext.refl _ | assumption | refine Ext.alloc ?_ _ | refine Ext.drew ?_ | refine Ext.drewN ?_ _ | refine Ext.trans ?_ (by assumption)) : Ext _ w1)).facts) | (go_loud ((with_reducible refine (HN2.out _ (by repeat (first | exact Ext.refl _ | assumption | refine Ext.alloc ?_ _ | refine Ext.drew ?_ | refine Ext.drewN ?_ _ | refine Ext.trans ?_ (by assumption)))).mono ?_); rintro e w2 ⟨rfl, hq2⟩; obtain ⟨x0, x1, x2, x3, x4, x5, x6, xz⟩ := (HBX.out.ext (by repeat (first | exact Ext.refl _ | assumption | refine Ext.alloc ?_ _ | refine Ext.drew ?_ | refine Ext.drewN ?_ _ | refine Ext.trans ?_ (by assumption)) : Ext _ w2)).facts))))
          | (go_at_call 20; go_loud ((with_reducible refine (HWN.out _).mono ?_); rintro e w3 ⟨rfl, hq3⟩; obtain ⟨x0, x1, x2, x3, x4, x5, x6, xz⟩ := (HBX.out.ext (by repeat (first | exact Ext.refl _ | assumption | refine Ext.alloc ?_ _ | refine Ext.drew ?_ | refine Ext.drewN ?_ _ | refine Ext.trans ?_ (by assumption)) : Ext _ w3)).facts)))
        go_ret
        exact ⟨by rw [HN.out]; rfl, by repeat (first | exact Ext.refl _ | assumption | refine Ext.alloc ?_ _ | refine Ext.drew ?_ | refine Ext.drewN ?_ _ | refine Ext.trans ?_ (by assumption))⟩
      | true =>
        by_cases h0 : nc = 0
        · have HN := Lib.hid (show R = 8 by rw [← HR.out]; exact pat_bad HNM.out (by rw [HFP.out]; simp [h0]))
          have p3 : ((nc : Int) == 0) = true := by simp [h0]
          clear h0
          go_enter Try.func9, Try.ntmps9
          go_wp2_with (first
            | (go_at_call 17; (first | ((with_reducible refine (HN1.out _ (by repeat (first | exact Ext.refl _ | assumption | refine Ext.alloc ?_ _ | refine Ext.drew ?_ | refine Ext.drewN ?_ _ | refine Ext.trans ?_ (by assumption)))).mono ?_); rintro e w1 ⟨rfl, hq1⟩; obtain ⟨x0, x1, x2, x3, x4, x5, x6, xz⟩ := (HBX.out.ext (by repeat (first | exact Ext.refl _ | assumption | refine Ext.alloc ?_ _ | refine Ext.drew ?_ | refine Ext.drewN ?_ _ | refine Ext.trans ?_ (by assumption)) : Ext _ w1)).facts) | (go_loud ((with_reducible refine (HN2.out _ (by repeat (first | exact Ext.refl _ | assumption | refine Ext.alloc ?_ _ | refine Ext.drew ?_ | refine Ext.drewN ?_ _ | refine Ext.trans ?_ (by assumption)))).mono ?_); rintro e w2 ⟨rfl, hq2⟩; obtain ⟨x0, x1, x2, x3, x4, x5, x6, xz⟩ := (HBX.out.ext (by repeat (first | exact Ext.refl _ | assumption | refine Ext.alloc ?_ _ | refine Ext.drew ?_ | refine Ext.drewN ?_ _ | refine Ext.trans ?_ (by assumption)) : Ext _ w2)).facts))))
            | (go_at_call 20; go_loud ((with_reducible refine (HWN.out _).mono ?_); rintro e w3 ⟨rfl, hq3⟩; obtain ⟨x0, x1, x2, x3, x4, x5, x6, xz⟩ := (HBX.out.ext (by repeat (first | exact Ext.refl _ | assumption | refine Ext.alloc ?_ _ | refine Ext.drew ?_ | refine Ext.drewN ?_ _ | refine Ext.trans ?_ (by assumption)) : Ext _ w3)).facts)))
          go_ret
          exact ⟨by rw [HN.out]; rfl, by repeat (first | exact Ext.refl _ | assumption | refine Ext.alloc ?_ _ | refine Ext.drew ?_ | refine Ext.drewN ?_ _ | refine Ext.trans ?_ (by assumption))⟩
        have p3 : ((nc : Int) == 0) = false := by rw [beq_eq_false_iff_ne]; omega
        have HNZ := Lib.hid h0
        clear h0
        by_cases hg : ge = 0
        case neg =>
          have HN := Lib.hid (show R = 8 by rw [← HR.out]; exact pat_bad HNM.out (by rw [HFP.out]; simp [hg]))
          have p4 : (ge != 0) = true := by simpa using hg
          clear hg
          go_enter Try.func9, Try.ntmps9
          go_wp2_with (first
            | (go_at_call 17; (first | ((with_reducible refine (HN1.out _ (by repeat (first | exact Ext.refl _ | assumption | refine Ext.alloc ?_ _ | refine Ext.drew ?_ | refine Ext.drewN ?_ _ | refine Ext.trans ?_ (by assumption)))).mono ?_); rintro e w1 ⟨rfl, hq1⟩; obtain ⟨x0, x1, x2, x3, x4, x5, x6, xz⟩ := (HBX.out.ext (by repeat (first | exact Ext.refl _ | assumption | refine Ext.alloc ?_ _ | refine Ext.drew ?_ | refine Ext.drewN ?_ _ | refine Ext.trans ?_ (by assumption)) : Ext _ w1)).facts) | (go_loud ((with_reducible refine (HN2.out _ (by repeat (first | exact Ext.refl _ | assumption | refine Ext.alloc ?_ _ | refine Ext.drew ?_ | refine Ext.drewN ?_ _ | refine Ext.trans ?_ (by assumption)))).mono ?_); rintro e w2 ⟨rfl, hq2⟩; obtain ⟨x0, x1, x2, x3, x4, x5, x6, xz⟩ := (HBX.out.ext (by repeat (first | exact Ext.refl _ | assumption | refine Ext.alloc ?_ _ | refine Ext.drew ?_ | refine Ext.drewN ?_ _ | refine Ext.trans ?_ (by assumption)) : Ext _ w2)).facts))))
            | (go_at_call 20; go_loud ((with_reducible refine (HWN.out _).mono ?_); rintro e w3 ⟨rfl, hq3⟩; obtain ⟨x0, x1, x2, x3, x4, x5, x6, xz⟩ := (HBX.out.ext (by repeat (first | exact Ext.refl _ | assumption | refine Ext.alloc ?_ _ | refine Ext.drew ?_ | refine Ext.drewN ?_ _ | refine Ext.trans ?_ (by assumption)) : Ext _ w3)).facts))
            | (go_at_call 21; go_loud ((with_reducible refine (HGE.out _).mono ?_); rintro e w4 ⟨rfl, hq4⟩; obtain ⟨x0, x1, x2, x3, x4, x5, x6, xz⟩ := (HBX.out.ext (by repeat (first | exact Ext.refl _ | assumption | refine Ext.alloc ?_ _ | refine Ext.drew ?_ | refine Ext.drewN ?_ _ | refine Ext.trans ?_ (by assumption)) : Ext _ w4)).facts)))
          go_ret
          exact ⟨by rw [HN.out]; rfl, by repeat (first | exact Ext.refl _ | assumption | refine Ext.alloc ?_ _ | refine Ext.drew ?_ | refine Ext.drewN ?_ _ | refine Ext.trans ?_ (by assumption))⟩
        subst hg
        go_enter Try.func9, Try.ntmps9
        go_wp2_with (first
          | (go_at_call 17; (first | ((with_reducible refine (HN1.out _ (by repeat (first | exact Ext.refl _ | assumption | refine Ext.alloc ?_ _ | refine Ext.drew ?_ | refine Ext.drewN ?_ _ | refine Ext.trans ?_ (by assumption)))).mono ?_); rintro e w1 ⟨rfl, hq1⟩; obtain ⟨x0, x1, x2, x3, x4, x5, x6, xz⟩ := (HBX.out.ext (by repeat (first | exact Ext.refl _ | assumption | refine Ext.alloc ?_ _ | refine Ext.drew ?_ | refine Ext.drewN ?_ _ | refine Ext.trans ?_ (by assumption)) : Ext _ w1)).facts) | (go_loud ((with_reducible refine (HN2.out _ (by repeat (first | exact Ext.refl _ | assumption | refine Ext.alloc ?_ _ | refine Ext.drew ?_ | refine Ext.drewN ?_ _ | refine Ext.trans ?_ (by assumption)))).mono ?_); rintro e w2 ⟨rfl, hq2⟩; obtain ⟨x0, x1, x2, x3, x4, x5, x6, xz⟩ := (HBX.out.ext (by repeat (first | exact Ext.refl _ | assumption | refine Ext.alloc ?_ _ | refine Ext.drew ?_ | refine Ext.drewN ?_ _ | refine Ext.trans ?_ (by assumption)) : Ext _ w2)).facts))))
          | (go_at_call 20; go_loud ((with_reducible refine (HWN.out _).mono ?_); rintro e w3 ⟨rfl, hq3⟩; obtain ⟨x0, x1, x2, x3, x4, x5, x6, xz⟩ := (HBX.out.ext (by repeat (first | exact Ext.refl _ | assumption | refine Ext.alloc ?_ _ | refine Ext.drew ?_ | refine Ext.drewN ?_ _ | refine Ext.trans ?_ (by assumption)) : Ext _ w3)).facts))
          | (go_at_call 21; go_loud ((with_reducible refine (HGE.out _).mono ?_); rintro e w4 ⟨rfl, hq4⟩; obtain ⟨x0, x1, x2, x3, x4, x5, x6, xz⟩ := (HBX.out.ext (by repeat (first | exact Ext.refl _ | assumption | refine Ext.alloc ?_ _ | refine Ext.drew ?_ | refine Ext.drewN ?_ _ | refine Ext.trans ?_ (by assumption)) : Ext _ w4)).facts)))
        go_loopw [65] (fun v wr => ∃ k : Nat, v = .int .i64 (k : Int) ∧ k ≤ ns ∧ Hid (gramB st k = true) ∧ Hid (Ext (w.alloc (.cells #[.string ⟨nm.toArray⟩, .int .i64 g1, .int .i64 g2, .int .i64 g3, .int .i64 g4, .slice As ns cs, .slice Ac nc cc] 27)) wr)) (fun v _ => ns - (intOf v).toNat)
        case atStart => exact ⟨0, rfl, Nat.zero_le _, Lib.hid rfl, Lib.hid (by repeat (first | exact Ext.refl _ | assumption | refine Ext.alloc ?_ _ | refine Ext.drew ?_ | refine Ext.drewN ?_ _ | refine Ext.trans ?_ (by assumption)))⟩
        case round =>
          obtain ⟨k, rfl, hk, HG, HE⟩ := hrel
          obtain ⟨wa, rfl⟩ : ∃ wa : World, wa = wr := ⟨_, rfl⟩
          have q0 : (0 : Int) ≤ (k : Int) := by omega
          by_cases hlt : k < ns
          · have q1 : (k : Int) < (ns : Int) := by omega
            obtain ⟨b', off, rfl, hb', c0, c1⟩ := Stf.at_ (HSV.out.ext (HW0.out.trans HE.out)) hlt
            generalize stN st k = Y at c0
            obtain ⟨gk, hgk⟩ : ∃ gk, (st.getD k stf0).g = gk := ⟨_, rfl⟩
            rw [hgk] at c1
            have HGK := Lib.hid hgk
            clear hgk
            by_cases hlo : gk < 1
            · have HN := Lib.hid (show R = 8 by rw [← HR.out]; exact pat_bad HNM.out (by rw [HFP.out, gram_bad hlt (by rw [HGK.out]; omega)]; simp))
              go_wp2_with fail
              go_ret
              exact ⟨by rw [HN.out]; rfl, HW0.out.trans (HE.out.trans (by repeat (first | exact Ext.refl _ | assumption | refine Ext.alloc ?_ _ | refine Ext.drew ?_ | refine Ext.drewN ?_ _ | refine Ext.trans ?_ (by assumption))))⟩
            · by_cases hhi : 100000 < gk
              · have HN := Lib.hid (show R = 8 by rw [← HR.out]; exact pat_bad HNM.out (by rw [HFP.out, gram_bad hlt (by rw [HGK.out]; omega)]; simp))
                go_wp2_with fail
                go_ret
                exact ⟨by rw [HN.out]; rfl, HW0.out.trans (HE.out.trans (by repeat (first | exact Ext.refl _ | assumption | refine Ext.alloc ?_ _ | refine Ext.drew ?_ | refine Ext.drewN ?_ _ | refine Ext.trans ?_ (by assumption))))⟩
              · have HN := Lib.hid (show gramB st (k + 1) = true by rw [gram_succ, HG.out, HGK.out, decide_eq_true (show 1 ≤ gk ∧ gk ≤ 100000 by omega)]; rfl)
                go_wp2_with fail
                go_roundw
                case rel => exact ⟨k + 1, by go_num, by omega, HN, Lib.hid (HE.out.trans (by repeat (first | exact Ext.refl _ | assumption | refine Ext.alloc ?_ _ | refine Ext.drew ?_ | refine Ext.drewN ?_ _ | refine Ext.trans ?_ (by assumption))))⟩
                case measure => simp [intOf] <;> omega
          · obtain rfl : ns = k := by omega
            have HFT := Lib.hid (show fineP nm 0 st se = true by rw [HFP.out, HG.out]; simp [HNZ.out])
            obtain ⟨x0, x1, x2, x3, x4, x5, x6, xz⟩ := (HBX.out.ext HE.out).facts
            cases t1 with
            | true =>
              have HN := Lib.hid (show R = 14 by rw [← HR.out]; exact pat_twice HNM.out HFT.out (.inl (by rw [HLS.out]; exact HT1.out)))
              go_wp2_with fail
              go_ret
              exact ⟨by rw [HN.out]; rfl, HW0.out.trans (HE.out.trans (by repeat (first | exact Ext.refl _ | assumption | refine Ext.alloc ?_ _ | refine Ext.drew ?_ | refine Ext.drewN ?_ _ | refine Ext.trans ?_ (by assumption))))⟩
            | false =>
              cases t2 with
              | true =>
                have HN := Lib.hid (show R = 14 by rw [← HR.out]; exact pat_twice HNM.out HFT.out (.inr (by rw [HLC.out]; exact HT2.out)))
                go_wp2_with fail
                go_ret
                exact ⟨by rw [HN.out]; rfl, HW0.out.trans (HE.out.trans (by repeat (first | exact Ext.refl _ | assumption | refine Ext.alloc ?_ _ | refine Ext.drew ?_ | refine Ext.drewN ?_ _ | refine Ext.trans ?_ (by assumption))))⟩
              | false =>
                have HN := Lib.hid (show R = firstE se nc 0 by rw [← HR.out, pat_first HNM.out HFT.out (by rw [HLS.out]; exact HT1.out) (by rw [HLC.out]; exact HT2.out), HLC.out])
                go_wp2_with fail
                go_loopw [85] (fun v wr => ∃ j : Nat, v = .int .i64 (j : Int) ∧ j ≤ nc ∧ Hid (R = firstE se (nc - j) j) ∧ Hid (Ext (w.alloc (.cells #[.string ⟨nm.toArray⟩, .int .i64 g1, .int .i64 g2, .int .i64 g3, .int .i64 g4, .slice As ns cs, .slice Ac nc cc] 27)) wr)) (fun v _ => nc - (intOf v).toNat)
                case atStart => exact ⟨0, rfl, Nat.zero_le _, HN, Lib.hid (HE.out.trans (by repeat (first | exact Ext.refl _ | assumption | refine Ext.alloc ?_ _ | refine Ext.drew ?_ | refine Ext.drewN ?_ _ | refine Ext.trans ?_ (by assumption))))⟩
                case round =>
                  clear x0 x1 x2 x3 x4 x5 x6 xz HN
                  obtain ⟨j, rfl, hj, HF, HEJ⟩ := hrel
                  obtain ⟨wb, rfl⟩ : ∃ wb : World, wb = wr := ⟨_, rfl⟩
                  have p5 : (0 : Int) ≤ (j : Int) := by omega
                  by_cases hjl : j < nc
                  · have p6 : (j : Int) < (nc : Int) := by omega
                    obtain ⟨b', off, A', n', c', rfl, hb', c0, c1, c2, hr, hcap⟩ := (HCV.out.ext (HW0.out.trans HEJ.out)).at_ hjl
                    have HRW := Lib.hid hr
                    obtain ⟨m, hm⟩ : ∃ m, nc - j = m + 1 := ⟨nc - j - 1, by omega⟩
                    have HM := Lib.hid (show nc - (j + 1) = m by omega)
                    have hF2 := HF.out
                    rw [hm] at hF2
                    generalize seN se j = Y at c0
                    obtain ⟨S, hS⟩ : ∃ S, (se.getD j sec0).s = S := ⟨_, rfl⟩
                    obtain ⟨L, hL⟩ : ∃ L, (se.getD j sec0).rows = L := ⟨_, rfl⟩
                    rw [hS] at c1
                    rw [hL] at HRW
                    obtain ⟨x, hx⟩ : ∃ x, chkC S L = x := ⟨_, rfl⟩
                    have HCK := Lib.hid (fun (w' : World) (h : Ext wb w') => ccheck_any S A' n' c' L w' (HRW.out.ext h))
                    rw [hx] at HCK
                    by_cases hx0 : x = 0
                    · have HN2 := Lib.hid (show R = firstE se (nc - (j + 1)) (j + 1) by rw [HM.out, hF2, first_ok (by rw [hS, hL, hx]; exact hx0)])
                      subst hx0
                      clear hS hL hx hm hF2 hr
                      go_wp2_with (first
                        | (go_at_call 22; go_loud ((with_reducible refine (HCK.out _ (by repeat (first | exact Ext.refl _ | assumption | refine Ext.alloc ?_ _ | refine Ext.drew ?_ | refine Ext.drewN ?_ _ | refine Ext.trans ?_ (by assumption)))).mono ?_); rintro e w5 ⟨rfl, hq5⟩)))
                      go_roundw
                      case rel => exact ⟨j + 1, by go_num, by omega, HN2, Lib.hid (HEJ.out.trans (by repeat (first | exact Ext.refl _ | assumption | refine Ext.alloc ?_ _ | refine Ext.drew ?_ | refine Ext.drewN ?_ _ | refine Ext.trans ?_ (by assumption))))⟩
                      case measure => simp [intOf] <;> omega
                    · have HN2 := Lib.hid (show R = x by rw [hF2, first_bad (by rw [hS, hL, hx]; exact hx0), hS, hL, hx])
                      have p7 : (x != 0) = true := by simpa using hx0
                      clear hS hL hx hm hF2 hr hx0
                      go_wp2_with (first
                        | (go_at_call 22; go_loud ((with_reducible refine (HCK.out _ (by repeat (first | exact Ext.refl _ | assumption | refine Ext.alloc ?_ _ | refine Ext.drew ?_ | refine Ext.drewN ?_ _ | refine Ext.trans ?_ (by assumption)))).mono ?_); rintro e w5 ⟨rfl, hq5⟩)))
                      go_ret
                      exact ⟨by rw [HN2.out]; rfl, HW0.out.trans (HEJ.out.trans (by repeat (first | exact Ext.refl _ | assumption | refine Ext.alloc ?_ _ | refine Ext.drew ?_ | refine Ext.drewN ?_ _ | refine Ext.trans ?_ (by assumption))))⟩
                  · obtain rfl : j = nc := by omega
                    have HN2 := Lib.hid (show R = 0 by rw [HF.out, Nat.sub_self]; rfl)
                    go_wp2_with fail
                    go_ret
                    exact ⟨by rw [HN2.out]; rfl, HW0.out.trans HEJ.out⟩
end Go.Proofs.Ytfhecgipfhhchaa
