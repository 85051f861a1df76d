/- Names: whether all are words, and whether two are the same; over any function value that makes names. -/
import Derived.Test.YtfhecgipfhhchaaPtW
import Derived.Test.YtfhecgipfhhchaaApp
namespace Go.Proofs.Ytfhecgipfhhchaa
set_option maxRecDepth 100000
set_option maxRecDepth 100000
open Go.RowKit Go.ChangeShapes Go.WideShapes Go.Joins
set_option maxHeartbeats 8000000 in
theorem names_any (n K : Nat) (caps : Array Value) (g : Nat → List UInt8) (w : World) (hn : n ≤ 2000)
    (hK : ∀ args w, (callFunc K args).run Try.prog w = .ok (.enter K args) w)
    (hcl : ∀ (i : Nat) (w1 : World), i < n → Ext w w1 → Calls Try.prog K (#[.int .i64 i] ++ caps) w1 fun e w2 => e = .returned (.string ⟨(g i).toArray⟩) ∧ Ext w1 w2)
    (hgl : ∀ i, i < n → (g i).length ≤ 100000) :
    Calls Try.prog 17 #[.int .i64 n, .func (.func K) #[] caps] w fun e w' => e = .returned (.tuple #[.bool (wordsB g n), .bool (twiceB g n)]) ∧ Ext w w' := by
  have HK := Lib.hid hK
  have HC := Lib.hid hcl
  have HL := Lib.hid hgl
  clear hK hcl hgl
  go_enter Try.func17, Try.ntmps17
  go_wp2_with fail
  go_loopw [4, 5, 9] (fun a b v wr => ∃ (k : Nat) (u t : Bool), k ≤ n ∧ v = .int .i64 (k : Int) ∧ a = .bool u ∧ b = .bool t ∧ Hid (u = wordsB g k) ∧ Hid (t = twiceB g k) ∧ Hid (Ext w wr)) (fun _ _ v _ => n - (intOf v).toNat)
  case atStart => exact ⟨0, _, _, Nat.zero_le _, rfl, rfl, rfl, Lib.hid rfl, Lib.hid rfl, Lib.hid (Ext.refl _)⟩
  case round =>
    obtain ⟨k, u, t0, hk, rfl, rfl, rfl, HW, HT, HE⟩ := hrel
    obtain ⟨wa, rfl⟩ : ∃ wa : World, wa = wr := ⟨_, rfl⟩
    have q0 : (0 : Int) ≤ (k : Int) := by omega
    by_cases hlt : k < n
    · have q1 : (k : Int) < (n : Int) := by omega
      obtain ⟨X, hX⟩ : ∃ X, g k = X := ⟨_, rfl⟩
      have hXl : X.length ≤ 100000 := by rw [← hX]; exact HL.out k hlt
      have HCK := Lib.hid (fun (w1 : World) (h : Ext w w1) => (show Calls Try.prog K (#[.int .i64 k] ++ caps) w1 fun e w2 => e = .returned (.string ⟨X.toArray⟩) ∧ Ext w1 w2 from by have h9 := HC.out k w1 hlt h; rw [hX] at h9; exact h9))
      have HX := Lib.hid hX
      clear hX
      cases hu : u with
      | false =>
        have HW2 := Lib.hid (show false = wordsB g (k + 1) by rw [words_succ, ← HW.out, hu]; rfl)
        clear hu
        have HE3 := HE
        go_wp2_with fail
        go_loopw [5, 20] (fun b v wr => ∃ (j : Nat) (t : Bool), j ≤ k ∧ v = .int .i64 (j : Int) ∧ b = .bool t ∧ Hid (t = (twiceB g k || amongB g k j)) ∧ Hid (Ext w wr)) (fun _ v _ => k - (intOf v).toNat)
        case atStart => exact ⟨0, _, Nat.zero_le _, rfl, rfl, Lib.hid (by rw [HT.out, show amongB g k 0 = false from rfl, Bool.or_false]), HE3⟩
        case round =>
          obtain ⟨j, t, hj, rfl, rfl, HTJ, HEJ⟩ := hrel
          obtain ⟨wb, rfl⟩ : ∃ wb : World, wb = wr := ⟨_, rfl⟩
          have p0 : (0 : Int) ≤ (j : Int) := by omega
          by_cases hjl : j < k
          · have p1 : (j : Int) < (k : Int) := by omega
            obtain ⟨Y, hY⟩ : ∃ Y, g j = Y := ⟨_, rfl⟩
            have HCJ := Lib.hid (fun (w1 : World) (h : Ext w w1) => (show Calls Try.prog K (#[.int .i64 j] ++ caps) w1 fun e w2 => e = .returned (.string ⟨Y.toArray⟩) ∧ Ext w1 w2 from by have h9 := HC.out j w1 (by omega) h; rw [hY] at h9; exact h9))
            have HAM := Lib.hid (show (twiceB g k || amongB g k (j + 1)) = ((twiceB g k || amongB g k j) || (X == Y)) by rw [among_succ, HX.out, hY, Bool.or_assoc])
            clear hY
            cases ht : t with
            | true =>
              have HN := Lib.hid (show true = (twiceB g k || amongB g k (j + 1)) by rw [HAM.out, ← HTJ.out, ht]; rfl)
              clear ht
              go_wp2_with fail
              go_roundw
              case rel => exact ⟨j + 1, true, by omega, by go_num, rfl, HN, HEJ⟩
              case measure => simp [intOf] <;> omega
            | false =>
              by_cases hxy : X = Y
              · have HN := Lib.hid (show true = (twiceB g k || amongB g k (j + 1)) by rw [HAM.out, hxy]; simp)
                have hb1 : (X == Y) = true := by simpa using hxy
                clear ht hxy
                go_wp2_with fail
                rw [HK.out, Oper.upon_enter]
                refine (HCK.out _ HEJ.out).mono ?_
                rintro e w5 ⟨rfl, hq5⟩
                have HQ5 := Lib.hid (HEJ.out.trans hq5)
                go_wp2_with fail
                rw [HK.out, Oper.upon_enter]
                refine (HCJ.out _ HQ5.out).mono ?_
                rintro e w6 ⟨rfl, hq6⟩
                have HQ6 := Lib.hid (HQ5.out.trans hq6)
                go_wp2_with fail
                go_roundw
                case rel => exact ⟨j + 1, true, by omega, by go_num, by simp, HN, HQ6⟩
                case measure => simp [intOf] <;> omega
              · have HN := Lib.hid (show false = (twiceB g k || amongB g k (j + 1)) by rw [HAM.out, ← HTJ.out, ht]; simp [hxy])
                have hb1 : (X == Y) = false := by simpa using hxy
                clear ht hxy
                go_wp2_with fail
                rw [HK.out, Oper.upon_enter]
                refine (HCK.out _ HEJ.out).mono ?_
                rintro e w5 ⟨rfl, hq5⟩
                have HQ5 := Lib.hid (HEJ.out.trans hq5)
                go_wp2_with fail
                rw [HK.out, Oper.upon_enter]
                refine (HCJ.out _ HQ5.out).mono ?_
                rintro e w6 ⟨rfl, hq6⟩
                have HQ6 := Lib.hid (HQ5.out.trans hq6)
                go_wp2_with fail
                go_roundw
                case rel => exact ⟨j + 1, false, by omega, by go_num, by simp, HN, HQ6⟩
                case measure => simp [intOf] <;> omega
          · obtain rfl : j = k := by omega
            go_wp2_with fail
            go_roundw
            case rel => exact ⟨j + 1, _, t, by omega, by go_num, rfl, rfl, HW2, Lib.hid (by rw [twice_succ]; exact HTJ.out), HEJ⟩
            case measure => simp [intOf] <;> omega
      | true =>
        obtain ⟨z, hz⟩ : ∃ z, wordS X = z := ⟨_, rfl⟩
        have HZ := Lib.hid hz
        have HW2 := Lib.hid (show z = wordsB g (k + 1) by rw [words_succ, ← HW.out, hu, HX.out, hz]; rfl)
        clear hu hz
        go_wp2_with fail
        rw [HK.out, Oper.upon_enter]
        refine (HCK.out _ HE.out).mono ?_
        rintro e w3 ⟨rfl, hq3⟩
        have HQ3 := Lib.hid (HE.out.trans hq3)
        go_wp2_with (first
          | (go_at_call 20; ((with_reducible refine (word_any X hXl _).mono ?_); rintro e w4 ⟨rfl, hq4⟩; rw [HZ.out])))
        have HE3 := Lib.hid (HQ3.out.trans hq4)
        go_loopw [5, 20] (fun b v wr => ∃ (j : Nat) (t : Bool), j ≤ k ∧ v = .int .i64 (j : Int) ∧ b = .bool t ∧ Hid (t = (twiceB g k || amongB g k j)) ∧ Hid (Ext w wr)) (fun _ v _ => k - (intOf v).toNat)
        case atStart => exact ⟨0, _, Nat.zero_le _, rfl, rfl, Lib.hid (by rw [HT.out, show amongB g k 0 = false from rfl, Bool.or_false]), HE3⟩
        case round =>
          obtain ⟨j, t, hj, rfl, rfl, HTJ, HEJ⟩ := hrel
          obtain ⟨wb, rfl⟩ : ∃ wb : World, wb = wr := ⟨_, rfl⟩
          have p0 : (0 : Int) ≤ (j : Int) := by omega
          by_cases hjl : j < k
          · have p1 : (j : Int) < (k : Int) := by omega
            obtain ⟨Y, hY⟩ : ∃ Y, g j = Y := ⟨_, rfl⟩
            have HCJ := Lib.hid (fun (w1 : World) (h : Ext w w1) => (show Calls Try.prog K (#[.int .i64 j] ++ caps) w1 fun e w2 => e = .returned (.string ⟨Y.toArray⟩) ∧ Ext w1 w2 from by have h9 := HC.out j w1 (by omega) h; rw [hY] at h9; exact h9))
            have HAM := Lib.hid (show (twiceB g k || amongB g k (j + 1)) = ((twiceB g k || amongB g k j) || (X == Y)) by rw [among_succ, HX.out, hY, Bool.or_assoc])
            clear hY
            cases ht : t with
            | true =>
              have HN := Lib.hid (show true = (twiceB g k || amongB g k (j + 1)) by rw [HAM.out, ← HTJ.out, ht]; rfl)
              clear ht
              go_wp2_with fail
              go_roundw
              case rel => exact ⟨j + 1, true, by omega, by go_num, rfl, HN, HEJ⟩
              case measure => simp [intOf] <;> omega
            | false =>
              by_cases hxy : X = Y
              · have HN := Lib.hid (show true = (twiceB g k || amongB g k (j + 1)) by rw [HAM.out, hxy]; simp)
                have hb1 : (X == Y) = true := by simpa using hxy
                clear ht hxy
                go_wp2_with fail
                rw [HK.out, Oper.upon_enter]
                refine (HCK.out _ HEJ.out).mono ?_
                rintro e w5 ⟨rfl, hq5⟩
                have HQ5 := Lib.hid (HEJ.out.trans hq5)
                go_wp2_with fail
                rw [HK.out, Oper.upon_enter]
                refine (HCJ.out _ HQ5.out).mono ?_
                rintro e w6 ⟨rfl, hq6⟩
                have HQ6 := Lib.hid (HQ5.out.trans hq6)
                go_wp2_with fail
                go_roundw
                case rel => exact ⟨j + 1, true, by omega, by go_num, by simp, HN, HQ6⟩
                case measure => simp [intOf] <;> omega
              · have HN := Lib.hid (show false = (twiceB g k || amongB g k (j + 1)) by rw [HAM.out, ← HTJ.out, ht]; simp [hxy])
                have hb1 : (X == Y) = false := by simpa using hxy
                clear ht hxy
                go_wp2_with fail
                rw [HK.out, Oper.upon_enter]
                refine (HCK.out _ HEJ.out).mono ?_
                rintro e w5 ⟨rfl, hq5⟩
                have HQ5 := Lib.hid (HEJ.out.trans hq5)
                go_wp2_with fail
                rw [HK.out, Oper.upon_enter]
                refine (HCJ.out _ HQ5.out).mono ?_
                rintro e w6 ⟨rfl, hq6⟩
                have HQ6 := Lib.hid (HQ5.out.trans hq6)
                go_wp2_with fail
                go_roundw
                case rel => exact ⟨j + 1, false, by omega, by go_num, by simp, HN, HQ6⟩
                case measure => simp [intOf] <;> omega
          · obtain rfl : j = k := by omega
            go_wp2_with fail
            go_roundw
            case rel => exact ⟨j + 1, _, t, by omega, by go_num, rfl, rfl, HW2, Lib.hid (by rw [twice_succ]; exact HTJ.out), HEJ⟩
            case measure => simp [intOf] <;> omega
    · obtain rfl : k = n := by omega
      go_wp2_with fail
      go_ret2
      exact ⟨by rw [HW.out, HT.out]; rfl, HE.out⟩
end Go.Proofs.Ytfhecgipfhhchaa
