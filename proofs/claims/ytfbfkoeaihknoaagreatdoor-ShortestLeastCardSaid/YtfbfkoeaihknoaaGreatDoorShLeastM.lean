/- The shortest list of some cells expands to them, and no list that expands to them is shorter; for any valid list that expands to at most 60 cells, and at most 24 valid cells. -/
import Derived.Test.YtfbfkoeaihknoaaGreatDoorG31
import Derived.Test.YtfbfkoeaihknoaaGreatDoorG10
import Derived.Test.YtfbfkoeaihknoaaGreatDoorCards
namespace Go.Proofs.YtfbfkoeaihknoaaGreatDoor
set_option maxRecDepth 100000
set_option maxRecDepth 100000
open Go.ChangeShapes Go.WideShapes Go.ChangeAt Go.RowKit Go.Joins
theorem exp_c {t : Tms} {L : List St} {A : Option Addr} {cap : Nat} {w : World} (m : Nat) (hv : Tv w A t.cnt t) (hk : tchkE t = 0) (hc : t.cells = L) (hm : L.length = m) :
    Calls Tryz.prog 24 #[.slice A t.cnt cap] w fun e w' => ∃ (A' : Option Addr) (c' : Nat), e = .returned (.tuple #[.slice A' m c', .int .i64 0]) ∧ Ext w w' ∧ Vec shSt w' A' m L := by
  have hs := (tchk_e hk).1
  refine (texp_any t (by omega) A _ cap w hv).mono ?_
  rintro e w' ⟨A', n', c', rfl, h1, h2, -⟩
  rw [if_pos hk, hc] at h2
  obtain rfl : n' = m := h2.1.symm.trans hm
  rw [hk]
  exact ⟨A', c', rfl, h1, h2⟩
theorem expx_c {t : Tms} {x : Int} {A : Option Addr} {n cap : Nat} {w : World} (hv : Tv w A n t) (hs : t.size ≤ 5000) (hk : tchkE t = x) :
    Calls Tryz.prog 24 #[.slice A n cap] w fun e w' => ∃ (A' : Option Addr) (n' c' : Nat), e = .returned (.tuple #[.slice A' n' c', .int .i64 x]) ∧ Ext w w' := by
  refine (texp_any t hs A n cap w hv).mono ?_
  rintro e w' ⟨A', n', c', rfl, h1, -, -⟩
  rw [hk]
  exact ⟨A', n', c', rfl, h1⟩
theorem expt_c {t : Tms} {L : List St} {A : Option Addr} {n cap : Nat} {w : World} (m : Nat) (hv : Tv w A n t) (hk : tchkE t = 0) (hc : t.cells = L) (hm : L.length = m) :
    Calls Tryz.prog 24 #[.slice A n cap] w fun e w' => ∃ (A' : Option Addr) (c' : Nat), e = .returned (.tuple #[.slice A' m c', .int .i64 0]) ∧ Ext w w' ∧ Vec shSt w' A' m L := by
  obtain rfl := hv.1
  exact exp_c m hv hk hc hm
theorem sizet_c {t : Tms} {A : Option Addr} {n cap k : Nat} {w : World} (hv : Tv w A n t) (hk : tchkE t = 0) (hs : t.size = k) :
    Calls Tryz.prog 26 #[.slice A n cap] w fun e w' => e = .returned (.tuple #[.int .i64 (k : Int), .int .i64 0]) ∧ Ext w w' := by
  have h1 := (tchk_e hk).1
  have h := tsize_any t (by omega) A n cap w hv
  have hz : tszV t = (k : Int) := by
    rw [tszV, if_pos hk]
    unfold szM
    omega
  rw [hz, hk] at h
  exact h
theorem same_c {n m c d : Nat} {A B : Option Addr} {l : List St} {w : World} (hx : Vec shSt w A n l) (hy : Vec shSt w B m l) (hn : n ≤ maxLen) :
    Calls Tryz.prog 25 #[.slice A n c, .slice B m d] w fun e w' => e = .returned (.bool true) ∧ Ext w w' := by
  have h := rsame_any n m c d A B l l w hx hy hn
  rw [show decide (l = l) = true by simp] at h
  exact h
set_option maxHeartbeats 8000000 in
theorem shortestLeast_walk (m cap n c : Nat) (A B : Option Addr) (t : Tms) (l : List St) (w : World) (ht0 : Tv w A m t) (hl : Vec shSt w B n l) (hn : n ≤ maxLen) (hg : Glob w) :
    Calls Tryz.prog 8 #[.slice A m cap, .slice B n c] w fun e w' => e = .returned (.bool true) ∧ Ext w w' := by
  have HT := Lib.hid ht0
  have HL := Lib.hid hl
  have HLL := Lib.hid hl.1
  have HG := Lib.hid hg
  have HN := Lib.hid hn
  clear ht0 hl hg
  unfold maxLen at hn
  cases hga : greatT t
  case true =>
    have HGA := Lib.hid hga
    clear hga
    go_enter Tryz.func8, Tryz.ntmps8
    go_wp2_with (first
      | (go_at_call 15; go_loud ((with_reducible refine (shalive_any _ (HG.out.ext (by repeat (first | exact Ext.refl _ | assumption | refine Ext.alloc ?_ _ | refine Ext.drew ?_ | refine Ext.drewN ?_ _ | refine Ext.trans ?_ (by assumption))))).mono ?_); rintro e w1 ⟨rfl, hq1⟩))
      | (go_at_call 9; go_loud ((with_reducible refine (great_any t A m cap _ (HT.out.ext (by repeat (first | exact Ext.refl _ | assumption | refine Ext.alloc ?_ _ | refine Ext.drew ?_ | refine Ext.drewN ?_ _ | refine Ext.trans ?_ (by assumption))))).mono ?_); rintro e w2 ⟨rfl, hq2⟩; rw [HGA.out]))
      | (go_at_call 16; go_loud ((with_reducible refine (few_any n c B l _ (HL.out.ext (by repeat (first | exact Ext.refl _ | assumption | refine Ext.alloc ?_ _ | refine Ext.drew ?_ | refine Ext.drewN ?_ _ | refine Ext.trans ?_ (by assumption)))) HN.out).mono ?_); rintro e w3 ⟨rfl, hq3⟩; rw [HFE.out])))
    all_goals (go_ret; exact ⟨by first | rfl | simp, by repeat (first | exact Ext.refl _ | assumption | refine Ext.alloc ?_ _ | refine Ext.drew ?_ | refine Ext.drewN ?_ _ | refine Ext.trans ?_ (by assumption))⟩)
  have ht : t.size ≤ 5000 := by have := great_size hga; omega
  have HGA := Lib.hid hga
  clear hga
  cases hfe : fewB l
  case false =>
    have HFE := Lib.hid hfe
    clear hfe
    go_enter Tryz.func8, Tryz.ntmps8
    go_wp2_with (first
      | (go_at_call 15; go_loud ((with_reducible refine (shalive_any _ (HG.out.ext (by repeat (first | exact Ext.refl _ | assumption | refine Ext.alloc ?_ _ | refine Ext.drew ?_ | refine Ext.drewN ?_ _ | refine Ext.trans ?_ (by assumption))))).mono ?_); rintro e w1 ⟨rfl, hq1⟩))
      | (go_at_call 9; go_loud ((with_reducible refine (great_any t A m cap _ (HT.out.ext (by repeat (first | exact Ext.refl _ | assumption | refine Ext.alloc ?_ _ | refine Ext.drew ?_ | refine Ext.drewN ?_ _ | refine Ext.trans ?_ (by assumption))))).mono ?_); rintro e w2 ⟨rfl, hq2⟩; rw [HGA.out]))
      | (go_at_call 16; go_loud ((with_reducible refine (few_any n c B l _ (HL.out.ext (by repeat (first | exact Ext.refl _ | assumption | refine Ext.alloc ?_ _ | refine Ext.drew ?_ | refine Ext.drewN ?_ _ | refine Ext.trans ?_ (by assumption)))) HN.out).mono ?_); rintro e w3 ⟨rfl, hq3⟩; rw [HFE.out])))
    all_goals (go_ret; exact ⟨by first | rfl | simp, by repeat (first | exact Ext.refl _ | assumption | refine Ext.alloc ?_ _ | refine Ext.drew ?_ | refine Ext.drewN ?_ _ | refine Ext.trans ?_ (by assumption))⟩)
  obtain ⟨h24, hal⟩ := few_e hfe
  have hn24 : n ≤ 24 := by rw [← HLL.out]; exact h24
  have HFE := Lib.hid hfe
  have HK1 := Lib.hid (find_chk hal (by omega))
  have HC1 := Lib.hid (find_cells l)
  clear hfe h24
  by_cases hk0 : tchkE t = 0
  case neg =>
    obtain ⟨x, hx⟩ : ∃ x, tchkE t = x := ⟨_, rfl⟩
    have HKT := Lib.hid hx
    have HKN := Lib.hid (show x ≠ 0 by rw [← hx]; exact hk0)
    have hne : (x != 0) = true := by rw [hx] at hk0; simpa using hk0
    clear hx hk0
    go_enter Tryz.func8, Tryz.ntmps8
    go_wp2_with (first
      | (go_at_call 15; go_loud ((with_reducible refine (shalive_any _ (HG.out.ext (by repeat (first | exact Ext.refl _ | assumption | refine Ext.alloc ?_ _ | refine Ext.drew ?_ | refine Ext.drewN ?_ _ | refine Ext.trans ?_ (by assumption))))).mono ?_); rintro e w1 ⟨rfl, hq1⟩))
      | (go_at_call 9; go_loud ((with_reducible refine (great_any t A m cap _ (HT.out.ext (by repeat (first | exact Ext.refl _ | assumption | refine Ext.alloc ?_ _ | refine Ext.drew ?_ | refine Ext.drewN ?_ _ | refine Ext.trans ?_ (by assumption))))).mono ?_); rintro e w2 ⟨rfl, hq2⟩; rw [HGA.out]))
      | (go_at_call 16; go_loud ((with_reducible refine (few_any n c B l _ (HL.out.ext (by repeat (first | exact Ext.refl _ | assumption | refine Ext.alloc ?_ _ | refine Ext.drew ?_ | refine Ext.drewN ?_ _ | refine Ext.trans ?_ (by assumption)))) HN.out).mono ?_); rintro e w3 ⟨rfl, hq3⟩; rw [HFE.out]))
      | (go_at_call 23; (first | (go_loud ((with_reducible refine (find_c (HL.out.ext (by repeat (first | exact Ext.refl _ | assumption | refine Ext.alloc ?_ _ | refine Ext.drew ?_ | refine Ext.drewN ?_ _ | refine Ext.trans ?_ (by assumption)))) hal (by omega)).mono ?_); rintro e w4 ⟨A4, c4, rfl, hq4, hv4⟩; have HV4 := Lib.hid hv4; clear hv4))))
      | (go_at_call 24; (first | ((with_reducible refine (expx_c (HT.out.ext (by repeat (first | exact Ext.refl _ | assumption | refine Ext.alloc ?_ _ | refine Ext.drew ?_ | refine Ext.drewN ?_ _ | refine Ext.trans ?_ (by assumption)))) ht HKT.out).mono ?_); rintro e w7 ⟨A7, n7, c7, rfl, hq7⟩) | (go_loud ((with_reducible refine (exp_c n (HV4.out.ext (by repeat (first | exact Ext.refl _ | assumption | refine Ext.alloc ?_ _ | refine Ext.drew ?_ | refine Ext.drewN ?_ _ | refine Ext.trans ?_ (by assumption)))) HK1.out HC1.out HLL.out).mono ?_); rintro e w5 ⟨A5, c5, rfl, hq5, hv5⟩; have HV5 := Lib.hid hv5; clear hv5))))
      | (go_at_call 25; (first | (go_loud ((with_reducible refine (same_c (HV5.out.ext (by repeat (first | exact Ext.refl _ | assumption | refine Ext.alloc ?_ _ | refine Ext.drew ?_ | refine Ext.drewN ?_ _ | refine Ext.trans ?_ (by assumption)))) (HL.out.ext (by repeat (first | exact Ext.refl _ | assumption | refine Ext.alloc ?_ _ | refine Ext.drew ?_ | refine Ext.drewN ?_ _ | refine Ext.trans ?_ (by assumption)))) HN.out).mono ?_); rintro e w6 ⟨rfl, hq6⟩)))))
    all_goals (go_ret; exact ⟨by first | rfl | simp, by repeat (first | exact Ext.refl _ | assumption | refine Ext.alloc ?_ _ | refine Ext.drew ?_ | refine Ext.drewN ?_ _ | refine Ext.trans ?_ (by assumption))⟩)
  obtain ⟨hts, htd, htf⟩ := tchk_parts hk0
  have hcl := (tchk_e hk0).2.2.2
  obtain ⟨hca, hcp⟩ := fine_all htf
  obtain ⟨C, hC⟩ : ∃ C, t.cells = C := ⟨_, rfl⟩
  obtain ⟨q, hq⟩ : ∃ q, C.length = q := ⟨_, rfl⟩
  have hfl := find_least hcp
  rw [hC] at hcl hca hfl
  have HKT := Lib.hid hk0
  have HCT := Lib.hid hC
  have HQ := Lib.hid hq
  rw [hq] at hcl
  by_cases h60 : 60 < q
  · have q1 : ((60 : Int) < (q : Int)) := by omega
    clear hk0 hC hq hfl
    go_enter Tryz.func8, Tryz.ntmps8
    go_wp2_with (first
      | (go_at_call 15; go_loud ((with_reducible refine (shalive_any _ (HG.out.ext (by repeat (first | exact Ext.refl _ | assumption | refine Ext.alloc ?_ _ | refine Ext.drew ?_ | refine Ext.drewN ?_ _ | refine Ext.trans ?_ (by assumption))))).mono ?_); rintro e w1 ⟨rfl, hq1⟩))
      | (go_at_call 9; go_loud ((with_reducible refine (great_any t A m cap _ (HT.out.ext (by repeat (first | exact Ext.refl _ | assumption | refine Ext.alloc ?_ _ | refine Ext.drew ?_ | refine Ext.drewN ?_ _ | refine Ext.trans ?_ (by assumption))))).mono ?_); rintro e w2 ⟨rfl, hq2⟩; rw [HGA.out]))
      | (go_at_call 16; go_loud ((with_reducible refine (few_any n c B l _ (HL.out.ext (by repeat (first | exact Ext.refl _ | assumption | refine Ext.alloc ?_ _ | refine Ext.drew ?_ | refine Ext.drewN ?_ _ | refine Ext.trans ?_ (by assumption)))) HN.out).mono ?_); rintro e w3 ⟨rfl, hq3⟩; rw [HFE.out]))
      | (go_at_call 23; (first | (go_loud ((with_reducible refine (find_c (HL.out.ext (by repeat (first | exact Ext.refl _ | assumption | refine Ext.alloc ?_ _ | refine Ext.drew ?_ | refine Ext.drewN ?_ _ | refine Ext.trans ?_ (by assumption)))) hal (by omega)).mono ?_); rintro e w4 ⟨A4, c4, rfl, hq4, hv4⟩; have HV4 := Lib.hid hv4; clear hv4))))
      | (go_at_call 24; (first | ((with_reducible refine (expt_c q (HT.out.ext (by repeat (first | exact Ext.refl _ | assumption | refine Ext.alloc ?_ _ | refine Ext.drew ?_ | refine Ext.drewN ?_ _ | refine Ext.trans ?_ (by assumption)))) HKT.out HCT.out HQ.out).mono ?_); rintro e w7 ⟨A7, c7, rfl, hq7, hv7⟩; have HV7 := Lib.hid hv7; clear hv7) | (go_loud ((with_reducible refine (exp_c n (HV4.out.ext (by repeat (first | exact Ext.refl _ | assumption | refine Ext.alloc ?_ _ | refine Ext.drew ?_ | refine Ext.drewN ?_ _ | refine Ext.trans ?_ (by assumption)))) HK1.out HC1.out HLL.out).mono ?_); rintro e w5 ⟨A5, c5, rfl, hq5, hv5⟩; have HV5 := Lib.hid hv5; clear hv5))))
      | (go_at_call 25; (first | (go_loud ((with_reducible refine (same_c (HV5.out.ext (by repeat (first | exact Ext.refl _ | assumption | refine Ext.alloc ?_ _ | refine Ext.drew ?_ | refine Ext.drewN ?_ _ | refine Ext.trans ?_ (by assumption)))) (HL.out.ext (by repeat (first | exact Ext.refl _ | assumption | refine Ext.alloc ?_ _ | refine Ext.drew ?_ | refine Ext.drewN ?_ _ | refine Ext.trans ?_ (by assumption)))) HN.out).mono ?_); rintro e w6 ⟨rfl, hq6⟩)))))
    all_goals (go_ret; exact ⟨by first | rfl | simp, by repeat (first | exact Ext.refl _ | assumption | refine Ext.alloc ?_ _ | refine Ext.drew ?_ | refine Ext.drewN ?_ _ | refine Ext.trans ?_ (by assumption))⟩)
  have q1 : ¬ ((60 : Int) < (q : Int)) := by omega
  have HK2 := Lib.hid (find_chk hca (by rw [hq]; omega))
  have HC2 := Lib.hid (find_cells C)
  obtain ⟨k1, hk1⟩ : ∃ k, (findT C).size = k := ⟨_, rfl⟩
  obtain ⟨k2, hk2⟩ : ∃ k, t.size = k := ⟨_, rfl⟩
  rw [hk1, hk2] at hfl
  have q2 : (k1 : Int) ≤ (k2 : Int) := by omega
  have HS1 := Lib.hid hk1
  have HS2 := Lib.hid hk2
  have HQM := Lib.hid (show q ≤ maxLen by unfold maxLen; omega)
  clear hk0 hC hq hk1 hk2 hfl
  go_enter Tryz.func8, Tryz.ntmps8
  go_wp2_with (first
    | (go_at_call 15; go_loud ((with_reducible refine (shalive_any _ (HG.out.ext (by repeat (first | exact Ext.refl _ | assumption | refine Ext.alloc ?_ _ | refine Ext.drew ?_ | refine Ext.drewN ?_ _ | refine Ext.trans ?_ (by assumption))))).mono ?_); rintro e w1 ⟨rfl, hq1⟩))
    | (go_at_call 9; go_loud ((with_reducible refine (great_any t A m cap _ (HT.out.ext (by repeat (first | exact Ext.refl _ | assumption | refine Ext.alloc ?_ _ | refine Ext.drew ?_ | refine Ext.drewN ?_ _ | refine Ext.trans ?_ (by assumption))))).mono ?_); rintro e w2 ⟨rfl, hq2⟩; rw [HGA.out]))
    | (go_at_call 16; go_loud ((with_reducible refine (few_any n c B l _ (HL.out.ext (by repeat (first | exact Ext.refl _ | assumption | refine Ext.alloc ?_ _ | refine Ext.drew ?_ | refine Ext.drewN ?_ _ | refine Ext.trans ?_ (by assumption)))) HN.out).mono ?_); rintro e w3 ⟨rfl, hq3⟩; rw [HFE.out]))
    | (go_at_call 23; (first | ((with_reducible refine (find_c (HV7.out.ext (by repeat (first | exact Ext.refl _ | assumption | refine Ext.alloc ?_ _ | refine Ext.drew ?_ | refine Ext.drewN ?_ _ | refine Ext.trans ?_ (by assumption)))) hca (by omega)).mono ?_); rintro e w8 ⟨A8, c8, rfl, hq8, hv8⟩; have HV8 := Lib.hid hv8; clear hv8) | (go_loud ((with_reducible refine (find_c (HL.out.ext (by repeat (first | exact Ext.refl _ | assumption | refine Ext.alloc ?_ _ | refine Ext.drew ?_ | refine Ext.drewN ?_ _ | refine Ext.trans ?_ (by assumption)))) hal (by omega)).mono ?_); rintro e w4 ⟨A4, c4, rfl, hq4, hv4⟩; have HV4 := Lib.hid hv4; clear hv4))))
    | (go_at_call 24; (first | ((with_reducible refine (exp_c q (HV8.out.ext (by repeat (first | exact Ext.refl _ | assumption | refine Ext.alloc ?_ _ | refine Ext.drew ?_ | refine Ext.drewN ?_ _ | refine Ext.trans ?_ (by assumption)))) HK2.out HC2.out HQ.out).mono ?_); rintro e w9 ⟨A9, c9, rfl, hq9, hv9⟩; have HV9 := Lib.hid hv9; clear hv9) | ((with_reducible refine (expt_c q (HT.out.ext (by repeat (first | exact Ext.refl _ | assumption | refine Ext.alloc ?_ _ | refine Ext.drew ?_ | refine Ext.drewN ?_ _ | refine Ext.trans ?_ (by assumption)))) HKT.out HCT.out HQ.out).mono ?_); rintro e w7 ⟨A7, c7, rfl, hq7, hv7⟩; have HV7 := Lib.hid hv7; clear hv7) | (go_loud ((with_reducible refine (exp_c n (HV4.out.ext (by repeat (first | exact Ext.refl _ | assumption | refine Ext.alloc ?_ _ | refine Ext.drew ?_ | refine Ext.drewN ?_ _ | refine Ext.trans ?_ (by assumption)))) HK1.out HC1.out HLL.out).mono ?_); rintro e w5 ⟨A5, c5, rfl, hq5, hv5⟩; have HV5 := Lib.hid hv5; clear hv5))))
    | (go_at_call 25; (first | ((with_reducible refine (same_c (HV9.out.ext (by repeat (first | exact Ext.refl _ | assumption | refine Ext.alloc ?_ _ | refine Ext.drew ?_ | refine Ext.drewN ?_ _ | refine Ext.trans ?_ (by assumption)))) (HV7.out.ext (by repeat (first | exact Ext.refl _ | assumption | refine Ext.alloc ?_ _ | refine Ext.drew ?_ | refine Ext.drewN ?_ _ | refine Ext.trans ?_ (by assumption)))) HQM.out).mono ?_); rintro e w10 ⟨rfl, hq10⟩) | (go_loud ((with_reducible refine (same_c (HV5.out.ext (by repeat (first | exact Ext.refl _ | assumption | refine Ext.alloc ?_ _ | refine Ext.drew ?_ | refine Ext.drewN ?_ _ | refine Ext.trans ?_ (by assumption)))) (HL.out.ext (by repeat (first | exact Ext.refl _ | assumption | refine Ext.alloc ?_ _ | refine Ext.drew ?_ | refine Ext.drewN ?_ _ | refine Ext.trans ?_ (by assumption)))) HN.out).mono ?_); rintro e w6 ⟨rfl, hq6⟩))))
    | (go_at_call 26; (first | ((with_reducible refine (sizet_c (HT.out.ext (by repeat (first | exact Ext.refl _ | assumption | refine Ext.alloc ?_ _ | refine Ext.drew ?_ | refine Ext.drewN ?_ _ | refine Ext.trans ?_ (by assumption)))) HKT.out HS2.out).mono ?_); rintro e w12 ⟨rfl, hq12⟩) | ((with_reducible refine (sizet_c (HV8.out.ext (by repeat (first | exact Ext.refl _ | assumption | refine Ext.alloc ?_ _ | refine Ext.drew ?_ | refine Ext.drewN ?_ _ | refine Ext.trans ?_ (by assumption)))) HK2.out HS1.out).mono ?_); rintro e w11 ⟨rfl, hq11⟩))))
  all_goals (go_ret; exact ⟨by first | rfl | simp, by repeat (first | exact Ext.refl _ | assumption | refine Ext.alloc ?_ _ | refine Ext.drew ?_ | refine Ext.drewN ?_ _ | refine Ext.trans ?_ (by assumption))⟩)

set_option maxRecDepth 100000 in
theorem shortestLeast_lifted (os : Os) (started : os.Started) (H : Type) (enc : TypeId × Value → H) :
    ReturnsInHanded {} Tryz.checked os 8 .any (fun w args => (Rows.shortestLeastSpec.pre enc Tryz.prog Tryz.f8 [] false w args ∧ laidMetH Tryz.prog [("math/bits.deBruijn32tab", Rows.laid_math_bits_deBruijn32tab), ("math/bits.deBruijn64tab", Rows.laid_math_bits_deBruijn64tab), ("internal/strconv.uint64pow10", Rows.laid_internal_strconv_uint64pow10), ("unicode/utf8.acceptRanges", Rows.laid_unicode_utf8_acceptRanges), ("strconv.ErrRange", Rows.laid_strconv_ErrRange), ("strconv.ErrSyntax", Rows.laid_strconv_ErrSyntax), ("unicode/utf8.first", Rows.laid_unicode_utf8_first)] w) ∧ sizedMet enc Tryz.prog Tryz.f8 (OpenSpec.ofChange Rows.shortestLeastSpec) false w args)
      (Rows.shortestLeastSpec.post enc Tryz.prog Tryz.f8 false true false false) := by
  refine returns_laid (C := Tryz.checked) (X := fun w _ => laidMetH Tryz.prog [("math/bits.deBruijn32tab", Rows.laid_math_bits_deBruijn32tab), ("math/bits.deBruijn64tab", Rows.laid_math_bits_deBruijn64tab), ("internal/strconv.uint64pow10", Rows.laid_internal_strconv_uint64pow10), ("unicode/utf8.acceptRanges", Rows.laid_unicode_utf8_acceptRanges), ("strconv.ErrRange", Rows.laid_strconv_ErrRange), ("strconv.ErrSyntax", Rows.laid_strconv_ErrSyntax), ("unicode/utf8.first", Rows.laid_unicode_utf8_first)] w) (fun _ _ _ hh h => h.of_heap hh) own started (by kernel_rfl) Tryz.func8
    (ChangeSpec.witness_shaped (enc := enc) (C := Tryz.checked) (os := os) (X := fun w _ => laidMetH Tryz.prog [("math/bits.deBruijn32tab", Rows.laid_math_bits_deBruijn32tab), ("math/bits.deBruijn64tab", Rows.laid_math_bits_deBruijn64tab), ("internal/strconv.uint64pow10", Rows.laid_internal_strconv_uint64pow10), ("unicode/utf8.acceptRanges", Rows.laid_unicode_utf8_acceptRanges), ("strconv.ErrRange", Rows.laid_strconv_ErrRange), ("strconv.ErrSyntax", Rows.laid_strconv_ErrSyntax), ("unicode/utf8.first", Rows.laid_unicode_utf8_first)] w) false (World.laidAll Tryz.prog os [("math/bits.deBruijn32tab", Rows.laid_math_bits_deBruijn32tab), ("math/bits.deBruijn64tab", Rows.laid_math_bits_deBruijn64tab), ("internal/strconv.uint64pow10", Rows.laid_internal_strconv_uint64pow10), ("unicode/utf8.acceptRanges", Rows.laid_unicode_utf8_acceptRanges), ("strconv.ErrRange", Rows.laid_strconv_ErrRange), ("strconv.ErrSyntax", Rows.laid_strconv_ErrSyntax), ("unicode/utf8.first", Rows.laid_unicode_utf8_first)]) #[.slice none 0 0, .slice none 0 0] 8 (World.laidAll_os _ _ _)
      (World.shaped_of_ZipB (by kernel_rfl) (by kernel_rfl)) (by kernel_rfl) (by kernel_rfl) (by kernel_rfl)
      (by rw [MakeChecks.laidMetH_plain _ _ _ (by kernel_rfl)]; exact laidMet_laidAll _ (by kernel_rfl) (by kernel_rfl))) ?_
  intro W base args ds gs before hval0 hW hL hsh
  have hval : ∀ (j : Nat) t v, Tryz.f8.params[j]? = some t → args[j]? = some v → Value.okWide Tryz.prog W .any base t v := hval0
  have hW' := hW
  obtain ⟨p, q, hA0, hV, rfl, hfz, hnd⟩ := hW
  have hA : DataW.TrodAll enc Tryz.prog W 0 (fun _ => true) true Tryz.f8.params.toList args.toList ds p := hA0
  rw [Tryz.params8] at hA hval
  obtain ⟨v0, vs0, d0, ds0, p0, q0, hargs, rfl, rfl, h0, r0⟩ := trodAll_cons hA
  obtain ⟨v1, vs1, d1, ds1, p1, q1, rfl, rfl, rfl, h1, r1⟩ := trodAll_cons r0
  obtain ⟨rfl, rfl, rfl⟩ := trodAll_nil r1
  obtain rfl : args = #[v0, v1] := by cases args; simp_all
  obtain ⟨rfl, rfl⟩ := trodVars_none hV
  obtain ⟨At, nt, ct, t, rfl, hit⟩ := open_tms_arg (hval 0 22 v0 rfl rfl) h0
  obtain ⟨Aa, na, ca, a, rfl, hia, hma, hya⟩ := open_sts_arg (hval 1 35 v1 rfl rfl) h1
  rw [MakeChecks.laidMetH_plain _ _ _ (by kernel_rfl)] at hL
  have hG := glob_of hL hsh
  refine (shortestLeast_walk nt ct na ca At Aa t a W hit hia hma hG).mono fun e W' ⟨he, hg⟩ => ?_
  subst he
  exact ⟨_, rfl, law_post laid_out rfl Tryz.underlying4 (by kernel_rfl) rfl hW' rfl hg⟩

theorem shortestLeast_holds : Rows.ShortestLeastSaid :=
  OpenClaim.holds_of_wide 8 Tryz.f8 rfl rfl rfl rfl rfl rfl rfl ⟨rfl, rfl, rfl, rfl, rfl⟩ rfl rfl rfl rfl rfl (by kernel_rfl) Tryz.func8 (by kernel_rfl)
    (of_decide_eq_true (by kernel_rfl)) (by unfold Func.isWrapper; first | (rw [if_pos (by decide +kernel)]; kernel_rfl) | (rw [if_neg (by decide +kernel)]; exact ⟨rfl, rfl⟩))
    (fun os started H enc _ => shortestLeast_lifted os started H enc)

theorem shortestLeast_card : Rows.ShortestLeastCardSaid :=
  Claim7.holds_tied_plain_at .later [] [.data, .data, .data, .data, .sentinel, .sentinel, .pinned] true (true, "e5f9bd0f772c11d510c8057603114c1f06b52d64d41fd05283189a068ebb2edc") true
    shortestLeast_holds (fun _ h => by cases h) (by kernel_rfl) (fun _ h => by cases h) shortestLeast_row_tie rfl ⟨rfl, rfl⟩ (by kernel_rfl) rfl
    (fun f fn hf hfn => by
      obtain rfl : f = 8 := Option.some.inj ((show Tryz.prog.funcNamed "raddle/raddlelaw42.ShortestLeast" = some 8 by kernel_rfl).symm.trans hf) |>.symm
      obtain rfl : fn = Tryz.f8 := (Option.some.inj (Tryz.func8.symm.trans hfn)).symm
      exact ⟨by kernel_rfl, fun j t ht => by
        rw [Tryz.params8] at ht
        have hm : t ∈ [22, 35] := by simpa using Array.mem_of_getElem? ht
        have hall : ([22, 35].all fun u => !Tryz.prog.wantsStandIn u) = true := by kernel_rfl
        exact (show Tryz.prog.wantsStandIn t = false by simpa using List.all_eq_true.1 hall t hm)⟩)
    (by kernel_rfl)
end Go.Proofs.YtfbfkoeaihknoaaGreatDoor
