/- The reference's Number and kind. -/
import Derived.Test.YtfbfkoeaihknoaaGreatDoorH04
import Derived.Test.YtfbfkoeaihknoaaGreatDoorH10
import Derived.Test.YtfbfkoeaihknoaaGreatDoorH03
namespace Go.Proofs.YtfbfkoeaihknoaaGreatDoor
set_option maxRecDepth 100000
set_option maxRecDepth 100000
open Go.RowKit
theorem valD_next {l : List UInt8} {k : Nat} (hk : k < l.length) : valD (l.take (k + 1)) = 10 * valD (l.take k) + ((l.getD k 0).toNat - 48) := by
  rw [List.take_add_one, List.getElem?_eq_getElem hk, List.getD_eq_getElem?_getD, List.getElem?_eq_getElem hk]
  unfold valD
  rw [List.foldl_append]
  rfl
theorem all_next {l : List UInt8} {k : Nat} (hk : k < l.length) : (l.take (k + 1)).all isDg = ((l.take k).all isDg && isDg (l.getD k 0)) := by
  rw [List.take_add_one, List.getElem?_eq_getElem hk, List.getD_eq_getElem?_getD, List.getElem?_eq_getElem hk]
  rw [List.all_append, show (some l[k]).toList = [l[k]] from rfl, List.all_cons, List.all_nil, Bool.and_true]
  rfl
theorem all_not {l : List UInt8} {k : Nat} (hk : k < l.length) (h : isDg (l.getD k 0) = false) : l.all isDg = false := by
  rw [Bool.eq_false_iff]
  intro h9
  rw [List.getD_eq_getElem?_getD, List.getElem?_eq_getElem hk] at h
  have := List.all_eq_true.1 h9 l[k] (List.getElem_mem _)
  rw [show (some l[k]).getD 0 = l[k] from rfl] at h
  rw [h] at this
  cases this
/-- what Number returns -/
def numN (l : List UInt8) : Int := (((numS l).getD 0 : Nat) : Int)
def NumR (l : List UInt8) (w : World) (e : Ending) (w' : World) : Prop := e = .returned (.tuple #[.int .i64 (numN l), .bool (numS l).isSome]) ∧ Ext w w'
theorem num_no {l : List UInt8} {w w' : World} (h : numS l = none) (hb : Ext w w') : NumR l w (.returned (.tuple #[.int .i64 0, .bool false])) w' := by
  refine ⟨?_, hb⟩
  unfold numN
  rw [h]
  rfl
theorem num_yes {l : List UInt8} {n : Nat} {w w' : World} (h : numS l = some n) (hb : Ext w w') : NumR l w (.returned (.tuple #[.int .i64 (n : Int), .bool true])) w' := by
  refine ⟨?_, hb⟩
  unfold numN
  rw [h]
  rfl
set_option maxHeartbeats 4000000 in
theorem refnumber_any (l : List UInt8) (hl : l.length ≤ 100000) (w : World) : Calls Tryz.prog 68 #[.string ⟨l.toArray⟩] w (NumR l w) := by
  by_cases h0 : l.length = 0
  · have HN := Lib.hid (show numS l = none by rw [numS, if_pos (.inl h0)])
    have q : (l.length : Int) = 0 := by omega
    go_enter Tryz.func68, Tryz.ntmps68
    go_wp2_with fail
    go_ret2
    exact num_no HN.out (Ext.refl _)
  by_cases h4 : 4 < l.length
  · have HN := Lib.hid (show numS l = none by rw [numS, if_pos (.inr (.inl h4))])
    have q : (4 : Int) < (l.length : Int) := by omega
    have q0 : ¬ ((l.length : Int) = 0) := by omega
    go_enter Tryz.func68, Tryz.ntmps68
    go_wp2_with fail
    go_ret2
    exact num_no HN.out (Ext.refl _)
  have p0 : ¬ ((l.length : Int) = 0) := by omega
  have p4 : ¬ ((4 : Int) < (l.length : Int)) := by omega
  have h50 := str_at l 0
  by_cases h1 : 1 < l.length
  · have p1 : (1 : Int) < (l.length : Int) := by omega
    by_cases hz : l.getD 0 0 = 48
    · have hh : l.head? = some 48 := by
        rw [List.head?_eq_getElem?, List.getElem?_eq_getElem (by omega)]
        rw [List.getD_eq_getElem?_getD, List.getElem?_eq_getElem (by omega)] at hz
        exact congrArg some hz
      have HN := Lib.hid (show numS l = none by rw [numS, if_pos (.inr (.inr ⟨h1, hh⟩))])
      clear hh
      rw [hz] at h50
      clear hz
      go_enter Tryz.func68, Tryz.ntmps68
      go_wp2_with fail
      go_ret2
      exact num_no HN.out (Ext.refl _)
    · have hsp : ¬ (l.length = 0 ∨ 4 < l.length ∨ (1 < l.length ∧ l.head? = some 48)) := by
        rintro (h | h | ⟨-, h⟩)
        · omega
        · omega
        · apply hz
          rw [List.head?_eq_getElem?, List.getElem?_eq_getElem (by omega)] at h
          rw [List.getD_eq_getElem?_getD, List.getElem?_eq_getElem (by omega)]
          exact Option.some.inj h
      have HYES := Lib.hid (fun (h : l.all isDg = true) => (show numS l = some (valD l) by rw [numS, if_neg hsp, if_pos h]))
      have HNO := Lib.hid (fun (h : l.all isDg = false) => (show numS l = none by rw [numS, if_neg hsp, if_neg (by rw [h]; simp)]))
      have hne : (((l.getD 0 0).toNat : Int) == 48) = false := by
        rw [beq_eq_false_iff_ne]
        intro h
        exact hz (UInt8.toNat_inj.1 (by rw [show (48 : UInt8).toNat = 48 from rfl]; omega))
      clear hsp hz
      generalize l.getD 0 0 = z0 at *
      go_enter Tryz.func68, Tryz.ntmps68
      go_wp2_with fail
      go_loopw [4, 5] (fun x i wr => ∃ k : Nat, x = .int .i64 (valD (l.take k) : Int) ∧ i = .int .i64 k ∧ k ≤ l.length ∧ Hid ((l.take k).all isDg = true) ∧ Hid (Ext w wr)) (fun _ i _ => l.length - (intOf i).toNat)
      case atStart => exact ⟨0, rfl, rfl, by omega, Lib.hid rfl, Lib.hid (Ext.refl _)⟩
      case round =>
        obtain ⟨k, rfl, rfl, hk, HA, HE⟩ := hrel
        have hvs := valD_small HA.out (by rw [List.length_take]; omega)
        have q0 : (0 : Int) ≤ (k : Int) := by omega
        by_cases h1 : k < l.length
        · have q1 : (k : Int) < (l.length : Int) := by omega
          have h5 := str_at l k
          by_cases hd : isDg (l.getD k 0) = true
          · have hv := valD_next h1
            have ha := all_next h1
            rw [HA.out, hd] at ha
            have HA2 := Lib.hid ha
            obtain ⟨d1, d2⟩ := dg_val hd
            have HV := Lib.hid hv
            generalize l.getD k 0 = d at *
            generalize valD (l.take k) = V at *
            clear hv ha hd
            have e1 : ((d.toNat : Int) < 48) = False := by simp <;> omega
            have e2 : ((57 : Int) < (d.toNat : Int)) = False := by simp <;> omega
            have i1 := IntWalk.i64_in (10 * (V : Int)) ⟨by omega, by omega⟩
            have i2 := IntWalk.i64_in (10 * (V : Int) + ((d.toNat : Int) - 48)) ⟨by omega, by omega⟩
            have i3 : IntKind.u8.wrap ((d.toNat : Int) - 48) = (d.toNat : Int) - 48 := by rw [IntKind.wrap_u8]; omega
            have i4 := IntWalk.i64_in ((d.toNat : Int) - 48) ⟨by omega, by omega⟩
            go_wp2_with fail
            go_roundw
            case rel => exact ⟨k + 1, by rw [HV.out]; congr 1; omega, by go_num, by omega, HA2, HE⟩
            case measure => simp [intOf] <;> omega
          · have hd : isDg (l.getD k 0) = false := by simpa using hd
            have HN := Lib.hid (HNO.out (all_not h1 hd))
            have hcm : ((l.getD k 0).toNat : Int) < 48 ∨ (57 : Int) < ((l.getD k 0).toNat : Int) := by
              rw [isDg, Bool.and_eq_false_iff, decide_eq_false_iff_not, decide_eq_false_iff_not, UInt8.le_iff_toNat_le, UInt8.le_iff_toNat_le] at hd
              have e48 : (48 : UInt8).toNat = 48 := rfl
              have e57 : (57 : UInt8).toNat = 57 := rfl
              omega
            generalize l.getD k 0 = d at *
            clear hd
            rcases hcm with e1 | e1
            · go_wp2_with fail
              go_ret2
              exact num_no HN.out HE.out
            · have e2 : ¬ ((d.toNat : Int) < 48) := by omega
              go_wp2_with fail
              go_ret2
              exact num_no HN.out HE.out
        · obtain rfl : k = l.length := by omega
          have e9 : l.take l.length = l := List.take_of_length_le (Nat.le_refl _)
          rw [e9] at HA ⊢
          have HY := Lib.hid (HYES.out HA.out)
          go_wp2_with fail
          go_ret2
          exact num_yes HY.out HE.out
  · have p1 : ¬ ((1 : Int) < (l.length : Int)) := by omega
    have hsp : ¬ (l.length = 0 ∨ 4 < l.length ∨ (1 < l.length ∧ l.head? = some 48)) := by
      rintro (h | h | ⟨h, -⟩) <;> omega
    have HYES := Lib.hid (fun (h : l.all isDg = true) => (show numS l = some (valD l) by rw [numS, if_neg hsp, if_pos h]))
    have HNO := Lib.hid (fun (h : l.all isDg = false) => (show numS l = none by rw [numS, if_neg hsp, if_neg (by rw [h]; simp)]))
    clear hsp h50
    go_enter Tryz.func68, Tryz.ntmps68
    go_wp2_with fail
    go_loopw [4, 5] (fun x i wr => ∃ k : Nat, x = .int .i64 (valD (l.take k) : Int) ∧ i = .int .i64 k ∧ k ≤ l.length ∧ Hid ((l.take k).all isDg = true) ∧ Hid (Ext w wr)) (fun _ i _ => l.length - (intOf i).toNat)
    case atStart => exact ⟨0, rfl, rfl, by omega, Lib.hid rfl, Lib.hid (Ext.refl _)⟩
    case round =>
      obtain ⟨k, rfl, rfl, hk, HA, HE⟩ := hrel
      have hvs := valD_small HA.out (by rw [List.length_take]; omega)
      have q0 : (0 : Int) ≤ (k : Int) := by omega
      by_cases h1 : k < l.length
      · have q1 : (k : Int) < (l.length : Int) := by omega
        have h5 := str_at l k
        by_cases hd : isDg (l.getD k 0) = true
        · have hv := valD_next h1
          have ha := all_next h1
          rw [HA.out, hd] at ha
          have HA2 := Lib.hid ha
          obtain ⟨d1, d2⟩ := dg_val hd
          have HV := Lib.hid hv
          generalize l.getD k 0 = d at *
          generalize valD (l.take k) = V at *
          clear hv ha hd
          have e1 : ((d.toNat : Int) < 48) = False := by simp <;> omega
          have e2 : ((57 : Int) < (d.toNat : Int)) = False := by simp <;> omega
          have i1 := IntWalk.i64_in (10 * (V : Int)) ⟨by omega, by omega⟩
          have i2 := IntWalk.i64_in (10 * (V : Int) + ((d.toNat : Int) - 48)) ⟨by omega, by omega⟩
          have i3 : IntKind.u8.wrap ((d.toNat : Int) - 48) = (d.toNat : Int) - 48 := by rw [IntKind.wrap_u8]; omega
          have i4 := IntWalk.i64_in ((d.toNat : Int) - 48) ⟨by omega, by omega⟩
          go_wp2_with fail
          go_roundw
          case rel => exact ⟨k + 1, by rw [HV.out]; congr 1; omega, by go_num, by omega, HA2, HE⟩
          case measure => simp [intOf] <;> omega
        · have hd : isDg (l.getD k 0) = false := by simpa using hd
          have HN := Lib.hid (HNO.out (all_not h1 hd))
          have hcm : ((l.getD k 0).toNat : Int) < 48 ∨ (57 : Int) < ((l.getD k 0).toNat : Int) := by
            rw [isDg, Bool.and_eq_false_iff, decide_eq_false_iff_not, decide_eq_false_iff_not, UInt8.le_iff_toNat_le, UInt8.le_iff_toNat_le] at hd
            have e48 : (48 : UInt8).toNat = 48 := rfl
            have e57 : (57 : UInt8).toNat = 57 := rfl
            omega
          generalize l.getD k 0 = d at *
          clear hd
          rcases hcm with e1 | e1
          · go_wp2_with fail
            go_ret2
            exact num_no HN.out HE.out
          · have e2 : ¬ ((d.toNat : Int) < 48) := by omega
            go_wp2_with fail
            go_ret2
            exact num_no HN.out HE.out
      · obtain rfl : k = l.length := by omega
        have e9 : l.take l.length = l := List.take_of_length_le (Nat.le_refl _)
        rw [e9] at HA ⊢
        have HY := Lib.hid (HYES.out HA.out)
        go_wp2_with fail
        go_ret2
        exact num_yes HY.out HE.out
set_option maxHeartbeats 4000000 in
theorem refkind_any (c : UInt8) (w : World) : Calls Tryz.prog 83 #[.int .u8 (c.toNat : Int)] w fun e w' => e = .returned (.int .u8 (kindR c)) ∧ Ext w w' := by
  go_enter Tryz.func83, Tryz.ntmps83
  go_wp2_with fail
  go_loopw [5] (fun i wr => ∃ k : Nat, i = .int .i64 k ∧ k ≤ 7 ∧ Hid (∀ x ∈ ([102, 108, 109, 120, 121, 115, 111] : List UInt8).take k, c ≠ x) ∧ wr = w.alloc (.cells #[.int .u8 3, .int .u8 4, .int .u8 5, .int .u8 6, .int .u8 7, .int .u8 8, .int .u8 10] 5)) (fun i _ => 7 - (intOf i).toNat)
  case atStart => exact ⟨0, rfl, by omega, Lib.hid (by simp), rfl⟩
  case round =>
    obtain ⟨k, rfl, hk, HN, rfl⟩ := hrel
    have hb : Ext w (w.alloc (.cells #[.int .u8 3, .int .u8 4, .int .u8 5, .int .u8 6, .int .u8 7, .int .u8 8, .int .u8 10] 5)) := (Ext.refl _).alloc _
    by_cases e0 : k = 0
    · subst e0
      have hs : ∀ h, (⟨#[102, 108, 109, 120, 121, 115, 111]⟩ : ByteArray)[0]'h = (102 : UInt8) := fun _ => rfl
      by_cases hc : c = 102
      · have hv := Lib.hid (show kindR c = 3 by rw [hc]; decide)
        have hn : ((102 : Int) == (c.toNat : Int)) = true := by rw [hc]; rfl
        clear hc
        go_wp2_with fail
        go_ret
        exact ⟨by rw [hv.out]; rfl, hb⟩
      · have hne : ((c.toNat : Int) == 102) = false := by
          rw [beq_eq_false_iff_ne]
          intro h
          exact hc (UInt8.toNat_inj.1 (by rw [show (102 : UInt8).toNat = 102 from rfl]; omega))
        have hne2 : ((102 : Int) == (c.toNat : Int)) = false := by rw [beq_eq_false_iff_ne] at hne ⊢; omega
        have HN2 := Lib.hid (show ∀ x ∈ ([102, 108, 109, 120, 121, 115, 111] : List UInt8).take (0 + 1), c ≠ x from by
          intro x hx
          rw [show ([102, 108, 109, 120, 121, 115, 111] : List UInt8).take (0 + 1) = ([102, 108, 109, 120, 121, 115, 111] : List UInt8).take 0 ++ [102] from rfl] at hx
          rcases List.mem_append.1 hx with h | h
          · exact HN.out x h
          · rw [List.mem_singleton.1 h]; exact hc)
        clear hc HN
        go_wp2_with fail
        go_roundw
        case rel => exact ⟨0 + 1, rfl, by omega, HN2, by first | rfl | trivial⟩
        case measure => simp [intOf]
    by_cases e1 : k = 1
    · subst e1
      have hs : ∀ h, (⟨#[102, 108, 109, 120, 121, 115, 111]⟩ : ByteArray)[1]'h = (108 : UInt8) := fun _ => rfl
      by_cases hc : c = 108
      · have hv := Lib.hid (show kindR c = 4 by rw [hc]; decide)
        have hn : ((108 : Int) == (c.toNat : Int)) = true := by rw [hc]; rfl
        clear hc
        go_wp2_with fail
        go_ret
        exact ⟨by rw [hv.out]; rfl, hb⟩
      · have hne : ((c.toNat : Int) == 108) = false := by
          rw [beq_eq_false_iff_ne]
          intro h
          exact hc (UInt8.toNat_inj.1 (by rw [show (108 : UInt8).toNat = 108 from rfl]; omega))
        have hne2 : ((108 : Int) == (c.toNat : Int)) = false := by rw [beq_eq_false_iff_ne] at hne ⊢; omega
        have HN2 := Lib.hid (show ∀ x ∈ ([102, 108, 109, 120, 121, 115, 111] : List UInt8).take (1 + 1), c ≠ x from by
          intro x hx
          rw [show ([102, 108, 109, 120, 121, 115, 111] : List UInt8).take (1 + 1) = ([102, 108, 109, 120, 121, 115, 111] : List UInt8).take 1 ++ [108] from rfl] at hx
          rcases List.mem_append.1 hx with h | h
          · exact HN.out x h
          · rw [List.mem_singleton.1 h]; exact hc)
        clear hc HN
        go_wp2_with fail
        go_roundw
        case rel => exact ⟨1 + 1, rfl, by omega, HN2, by first | rfl | trivial⟩
        case measure => simp [intOf]
    by_cases e2 : k = 2
    · subst e2
      have hs : ∀ h, (⟨#[102, 108, 109, 120, 121, 115, 111]⟩ : ByteArray)[2]'h = (109 : UInt8) := fun _ => rfl
      by_cases hc : c = 109
      · have hv := Lib.hid (show kindR c = 5 by rw [hc]; decide)
        have hn : ((109 : Int) == (c.toNat : Int)) = true := by rw [hc]; rfl
        clear hc
        go_wp2_with fail
        go_ret
        exact ⟨by rw [hv.out]; rfl, hb⟩
      · have hne : ((c.toNat : Int) == 109) = false := by
          rw [beq_eq_false_iff_ne]
          intro h
          exact hc (UInt8.toNat_inj.1 (by rw [show (109 : UInt8).toNat = 109 from rfl]; omega))
        have hne2 : ((109 : Int) == (c.toNat : Int)) = false := by rw [beq_eq_false_iff_ne] at hne ⊢; omega
        have HN2 := Lib.hid (show ∀ x ∈ ([102, 108, 109, 120, 121, 115, 111] : List UInt8).take (2 + 1), c ≠ x from by
          intro x hx
          rw [show ([102, 108, 109, 120, 121, 115, 111] : List UInt8).take (2 + 1) = ([102, 108, 109, 120, 121, 115, 111] : List UInt8).take 2 ++ [109] from rfl] at hx
          rcases List.mem_append.1 hx with h | h
          · exact HN.out x h
          · rw [List.mem_singleton.1 h]; exact hc)
        clear hc HN
        go_wp2_with fail
        go_roundw
        case rel => exact ⟨2 + 1, rfl, by omega, HN2, by first | rfl | trivial⟩
        case measure => simp [intOf]
    by_cases e3 : k = 3
    · subst e3
      have hs : ∀ h, (⟨#[102, 108, 109, 120, 121, 115, 111]⟩ : ByteArray)[3]'h = (120 : UInt8) := fun _ => rfl
      by_cases hc : c = 120
      · have hv := Lib.hid (show kindR c = 6 by rw [hc]; decide)
        have hn : ((120 : Int) == (c.toNat : Int)) = true := by rw [hc]; rfl
        clear hc
        go_wp2_with fail
        go_ret
        exact ⟨by rw [hv.out]; rfl, hb⟩
      · have hne : ((c.toNat : Int) == 120) = false := by
          rw [beq_eq_false_iff_ne]
          intro h
          exact hc (UInt8.toNat_inj.1 (by rw [show (120 : UInt8).toNat = 120 from rfl]; omega))
        have hne2 : ((120 : Int) == (c.toNat : Int)) = false := by rw [beq_eq_false_iff_ne] at hne ⊢; omega
        have HN2 := Lib.hid (show ∀ x ∈ ([102, 108, 109, 120, 121, 115, 111] : List UInt8).take (3 + 1), c ≠ x from by
          intro x hx
          rw [show ([102, 108, 109, 120, 121, 115, 111] : List UInt8).take (3 + 1) = ([102, 108, 109, 120, 121, 115, 111] : List UInt8).take 3 ++ [120] from rfl] at hx
          rcases List.mem_append.1 hx with h | h
          · exact HN.out x h
          · rw [List.mem_singleton.1 h]; exact hc)
        clear hc HN
        go_wp2_with fail
        go_roundw
        case rel => exact ⟨3 + 1, rfl, by omega, HN2, by first | rfl | trivial⟩
        case measure => simp [intOf]
    by_cases e4 : k = 4
    · subst e4
      have hs : ∀ h, (⟨#[102, 108, 109, 120, 121, 115, 111]⟩ : ByteArray)[4]'h = (121 : UInt8) := fun _ => rfl
      by_cases hc : c = 121
      · have hv := Lib.hid (show kindR c = 7 by rw [hc]; decide)
        have hn : ((121 : Int) == (c.toNat : Int)) = true := by rw [hc]; rfl
        clear hc
        go_wp2_with fail
        go_ret
        exact ⟨by rw [hv.out]; rfl, hb⟩
      · have hne : ((c.toNat : Int) == 121) = false := by
          rw [beq_eq_false_iff_ne]
          intro h
          exact hc (UInt8.toNat_inj.1 (by rw [show (121 : UInt8).toNat = 121 from rfl]; omega))
        have hne2 : ((121 : Int) == (c.toNat : Int)) = false := by rw [beq_eq_false_iff_ne] at hne ⊢; omega
        have HN2 := Lib.hid (show ∀ x ∈ ([102, 108, 109, 120, 121, 115, 111] : List UInt8).take (4 + 1), c ≠ x from by
          intro x hx
          rw [show ([102, 108, 109, 120, 121, 115, 111] : List UInt8).take (4 + 1) = ([102, 108, 109, 120, 121, 115, 111] : List UInt8).take 4 ++ [121] from rfl] at hx
          rcases List.mem_append.1 hx with h | h
          · exact HN.out x h
          · rw [List.mem_singleton.1 h]; exact hc)
        clear hc HN
        go_wp2_with fail
        go_roundw
        case rel => exact ⟨4 + 1, rfl, by omega, HN2, by first | rfl | trivial⟩
        case measure => simp [intOf]
    by_cases e5 : k = 5
    · subst e5
      have hs : ∀ h, (⟨#[102, 108, 109, 120, 121, 115, 111]⟩ : ByteArray)[5]'h = (115 : UInt8) := fun _ => rfl
      by_cases hc : c = 115
      · have hv := Lib.hid (show kindR c = 8 by rw [hc]; decide)
        have hn : ((115 : Int) == (c.toNat : Int)) = true := by rw [hc]; rfl
        clear hc
        go_wp2_with fail
        go_ret
        exact ⟨by rw [hv.out]; rfl, hb⟩
      · have hne : ((c.toNat : Int) == 115) = false := by
          rw [beq_eq_false_iff_ne]
          intro h
          exact hc (UInt8.toNat_inj.1 (by rw [show (115 : UInt8).toNat = 115 from rfl]; omega))
        have hne2 : ((115 : Int) == (c.toNat : Int)) = false := by rw [beq_eq_false_iff_ne] at hne ⊢; omega
        have HN2 := Lib.hid (show ∀ x ∈ ([102, 108, 109, 120, 121, 115, 111] : List UInt8).take (5 + 1), c ≠ x from by
          intro x hx
          rw [show ([102, 108, 109, 120, 121, 115, 111] : List UInt8).take (5 + 1) = ([102, 108, 109, 120, 121, 115, 111] : List UInt8).take 5 ++ [115] from rfl] at hx
          rcases List.mem_append.1 hx with h | h
          · exact HN.out x h
          · rw [List.mem_singleton.1 h]; exact hc)
        clear hc HN
        go_wp2_with fail
        go_roundw
        case rel => exact ⟨5 + 1, rfl, by omega, HN2, by first | rfl | trivial⟩
        case measure => simp [intOf]
    by_cases e6 : k = 6
    · subst e6
      have hs : ∀ h, (⟨#[102, 108, 109, 120, 121, 115, 111]⟩ : ByteArray)[6]'h = (111 : UInt8) := fun _ => rfl
      by_cases hc : c = 111
      · have hv := Lib.hid (show kindR c = 10 by rw [hc]; decide)
        have hn : ((111 : Int) == (c.toNat : Int)) = true := by rw [hc]; rfl
        clear hc
        go_wp2_with fail
        go_ret
        exact ⟨by rw [hv.out]; rfl, hb⟩
      · have hne : ((c.toNat : Int) == 111) = false := by
          rw [beq_eq_false_iff_ne]
          intro h
          exact hc (UInt8.toNat_inj.1 (by rw [show (111 : UInt8).toNat = 111 from rfl]; omega))
        have hne2 : ((111 : Int) == (c.toNat : Int)) = false := by rw [beq_eq_false_iff_ne] at hne ⊢; omega
        have HN2 := Lib.hid (show ∀ x ∈ ([102, 108, 109, 120, 121, 115, 111] : List UInt8).take (6 + 1), c ≠ x from by
          intro x hx
          rw [show ([102, 108, 109, 120, 121, 115, 111] : List UInt8).take (6 + 1) = ([102, 108, 109, 120, 121, 115, 111] : List UInt8).take 6 ++ [111] from rfl] at hx
          rcases List.mem_append.1 hx with h | h
          · exact HN.out x h
          · rw [List.mem_singleton.1 h]; exact hc)
        clear hc HN
        go_wp2_with fail
        go_roundw
        case rel => exact ⟨6 + 1, rfl, by omega, HN2, by first | rfl | trivial⟩
        case measure => simp [intOf]
    obtain rfl : k = 7 := by omega
    have hv : kindR c = 0 := by
      have h9 := HN.out
      simp at h9
      obtain ⟨n1, n2, n3, n4, n5, n6, n7⟩ := h9
      simp [kindR, n1, n2, n3, n4, n5, n6, n7]
    have HV := Lib.hid hv
    clear hv
    go_wp2_with fail
    go_ret
    exact ⟨by rw [HV.out]; rfl, hb⟩
end Go.Proofs.YtfbfkoeaihknoaaGreatDoor
/- What the reference reads of a word. -/
namespace Go.Proofs.YtfbfkoeaihknoaaGreatDoor
set_option maxRecDepth 100000
set_option maxRecDepth 100000
open Go.RowKit
/-- what word returns -/
def WordR (x : Option (List St)) (w : World) (e : Ending) (w' : World) : Prop := ∃ (A : Option Addr) (n c : Nat), e = .returned (.tuple #[.slice A n c, .bool x.isSome]) ∧ Ext w w' ∧ (∀ L, x = some L → Vec shSt w' A n L)
theorem WordR.no {x : Option (List St)} {A : Option Addr} {n c : Nat} {w w' : World} (h : x = none) (hb : Ext w w') : WordR x w (.returned (.tuple #[.slice A n c, .bool false])) w' := by
  subst h
  exact ⟨A, n, c, rfl, hb, fun L h => by cases h⟩
theorem WordR.yes {x : Option (List St)} {L : List St} {A : Option Addr} {n c : Nat} {w w' : World} (h : x = some L) (hv : Vec shSt w' A n L) (hb : Ext w w') : WordR x w (.returned (.tuple #[.slice A n c, .bool true])) w' := by
  subst h
  exact ⟨A, n, c, rfl, hb, fun L' h => by cases h; exact hv⟩
theorem word_yo (w : World) : Calls Tryz.prog 70 #[.string ⟨([121, 111] : List UInt8).toArray⟩] w (WordR (some [⟨2, false, 0, 0⟩]) w) := by
  go_enter Tryz.func70, Tryz.ntmps70
  go_wp2_with fail
  go_ret2
  exact WordR.yes rfl (Vec.lit2 (by simp) rfl rfl) (by repeat (first | exact Ext.refl _ | assumption | refine Ext.alloc ?_ _ | refine Ext.drew ?_ | refine Ext.drewN ?_ _ | refine Ext.trans ?_ (by assumption)))
theorem word_nil (w : World) : Calls Tryz.prog 70 #[.string ⟨([] : List UInt8).toArray⟩] w (WordR none w) := by
  go_enter Tryz.func70, Tryz.ntmps70
  go_wp2_with fail
  go_ret2
  exact WordR.no rfl (by repeat (first | exact Ext.refl _ | assumption | refine Ext.alloc ?_ _ | refine Ext.drew ?_ | refine Ext.drewN ?_ _ | refine Ext.trans ?_ (by assumption)))
theorem word_on (l R : List UInt8) (hE : (l == [121, 111]) = false) (h2 : (2 : Int) < (l.length : Int)) (hp : (l.take 2 == [111, 110]) = true) (hx : (⟨l.toArray⟩ : ByteArray).extract 2 l.length = ⟨R.toArray⟩) (hl : R.length ≤ 100000) (w : World) :
    Calls Tryz.prog 70 #[.string ⟨l.toArray⟩] w (WordR ((numS R).bind fun a => some [⟨9, false, a, 0⟩]) w) := by
  have HN := Lib.hid (fun w' => refnumber_any R hl w')
  have hx0 := str_ext0 l 2
  cases hn : numS R with
  | none =>
    have HS := Lib.hid (show numN R = 0 ∧ (numS R).isSome = false by unfold numN; rw [hn]; exact ⟨rfl, rfl⟩)
    clear hn
    go_enter Tryz.func70, Tryz.ntmps70
    go_wp2_with (go_at_call 68; go_loud ((with_reducible refine (HN.out _).mono ?_); rintro e w1 ⟨rfl, hq1⟩; rw [HS.out.1, HS.out.2]))
    go_ret2
    exact WordR.no rfl (by repeat (first | exact Ext.refl _ | assumption | refine Ext.alloc ?_ _ | refine Ext.drew ?_ | refine Ext.drewN ?_ _ | refine Ext.trans ?_ (by assumption)))
  | some a =>
    have HS := Lib.hid (show numN R = (a : Int) ∧ (numS R).isSome = true by unfold numN; rw [hn]; exact ⟨rfl, rfl⟩)
    clear hn
    go_enter Tryz.func70, Tryz.ntmps70
    go_wp2_with (go_at_call 68; go_loud ((with_reducible refine (HN.out _).mono ?_); rintro e w1 ⟨rfl, hq1⟩; rw [HS.out.1, HS.out.2]))
    go_ret2
    exact WordR.yes rfl (Vec.lit2 (by simp) rfl rfl) (by repeat (first | exact Ext.refl _ | assumption | refine Ext.alloc ?_ _ | refine Ext.drew ?_ | refine Ext.drewN ?_ _ | refine Ext.trans ?_ (by assumption)))
theorem word_bad (l : List UInt8) (c : UInt8) (hE : (l == [121, 111]) = false) (hp : (l.take 2 == [111, 110]) = false) (h0 : ∀ h, (⟨l.toArray⟩ : ByteArray)[0]'h = c) (hl0 : ¬ (l.length : Int) = 0) (hk : ((c.toNat : Int) != 107) = true) (hq : ((c.toNat : Int) != 112) = true) (w : World) :
    Calls Tryz.prog 70 #[.string ⟨l.toArray⟩] w (WordR none w) := by
  have hx0 := str_ext0 l 2
  have hl1 : (0 : Int) < (l.length : Int) := by omega
  by_cases h2 : (2 : Int) < (l.length : Int)
  · go_enter Tryz.func70, Tryz.ntmps70
    go_wp2_with fail
    all_goals (go_ret2; exact WordR.no rfl (by repeat (first | exact Ext.refl _ | assumption | refine Ext.alloc ?_ _ | refine Ext.drew ?_ | refine Ext.drewN ?_ _ | refine Ext.trans ?_ (by assumption))))
  · go_enter Tryz.func70, Tryz.ntmps70
    go_wp2_with fail
    all_goals (go_ret2; exact WordR.no rfl (by repeat (first | exact Ext.refl _ | assumption | refine Ext.alloc ?_ _ | refine Ext.drew ?_ | refine Ext.drewN ?_ _ | refine Ext.trans ?_ (by assumption))))
theorem word_short (l : List UInt8) (c : UInt8) (hE : (l == [121, 111]) = false) (h2 : ¬ (2 : Int) < (l.length : Int)) (h0 : ∀ h, (⟨l.toArray⟩ : ByteArray)[0]'h = c) (hl0 : ¬ (l.length : Int) = 0) (hk : ((c.toNat : Int) != 107) = true) (hq : ((c.toNat : Int) != 112) = true) (w : World) :
    Calls Tryz.prog 70 #[.string ⟨l.toArray⟩] w (WordR none w) := by
  have hl1 : (0 : Int) < (l.length : Int) := by omega
  go_enter Tryz.func70, Tryz.ntmps70
  go_wp2_with fail
  all_goals (go_ret2; exact WordR.no rfl (by repeat (first | exact Ext.refl _ | assumption | refine Ext.alloc ?_ _ | refine Ext.drew ?_ | refine Ext.drewN ?_ _ | refine Ext.trans ?_ (by assumption))))
theorem word_one_107 (w : World) : Calls Tryz.prog 70 #[.string ⟨([107] : List UInt8).toArray⟩] w (WordR (some [⟨1, false, 0, 0⟩]) w) := by
  have h0 : ∀ h, (⟨([107] : List UInt8).toArray⟩ : ByteArray)[0]'h = (107 : UInt8) := fun _ => rfl
  go_enter Tryz.func70, Tryz.ntmps70
  go_wp2_with fail
  go_ret2
  exact WordR.yes rfl (Vec.lit2 (by simp) rfl rfl) (by repeat (first | exact Ext.refl _ | assumption | refine Ext.alloc ?_ _ | refine Ext.drew ?_ | refine Ext.drewN ?_ _ | refine Ext.trans ?_ (by assumption)))
theorem word_one_112 (w : World) : Calls Tryz.prog 70 #[.string ⟨([112] : List UInt8).toArray⟩] w (WordR (some [⟨1, true, 0, 0⟩]) w) := by
  have h0 : ∀ h, (⟨([112] : List UInt8).toArray⟩ : ByteArray)[0]'h = (112 : UInt8) := fun _ => rfl
  go_enter Tryz.func70, Tryz.ntmps70
  go_wp2_with fail
  go_ret2
  exact WordR.yes rfl (Vec.lit2 (by simp) rfl rfl) (by repeat (first | exact Ext.refl _ | assumption | refine Ext.alloc ?_ _ | refine Ext.drew ?_ | refine Ext.drewN ?_ _ | refine Ext.trans ?_ (by assumption)))
theorem numS_small {l : List UInt8} {n : Nat} (h : numS l = some n) : n < 10000 := by
  unfold numS at h
  split at h
  · cases h
  · rename_i h1
    split at h
    · rename_i h2
      cases h
      exact valD_small h2 (by omega)
    · cases h
set_option maxHeartbeats 4000000 in
theorem word_num_107 (l R : List UInt8) (d : UInt8) (r : List UInt8) (hld : l = 107 :: d :: r) (hR : R = d :: r) (hlen : (d :: r).length ≤ 100000) (N : Nat) (hn : numS R = some N) (X : Option (List St)) (hX : X = if 1 < N then some (List.replicate (min N 300) (⟨1, false, 0, 0⟩ : St)) else none) (w : World) :
    Calls Tryz.prog 70 #[.string ⟨l.toArray⟩] w (WordR X w) := by
  have hE : (l == [121, 111]) = false := by rw [hld]; simp
  have hp : (l.take 2 == [111, 110]) = false := by rw [hld]; simp
  have h0 : ∀ h, (⟨l.toArray⟩ : ByteArray)[0]'h = (107 : UInt8) := fun h => by rw [str_at l 0 h, hld]; rfl
  have hx1 : (⟨l.toArray⟩ : ByteArray).extract 1 l.length = ⟨R.toArray⟩ := by rw [str_extD l 1 _ (Nat.le_refl _), hld, hR]; rfl
  have hx0 := str_ext0 l 2
  have hl2 : (2 : Int) ≤ (l.length : Int) := by rw [hld]; simp only [List.length_cons]; omega
  have hl1 : ¬ ((l.length : Int) = 1) := by omega
  have hl9 : ¬ ((l.length : Int) = 0) := by omega
  have hl8 : (0 : Int) < (l.length : Int) := by omega
  have hl5 : ((l.length : Int) == 0) = false := by rw [beq_eq_false_iff_ne]; omega
  have hl6 : ((l.length : Int) == 1) = false := by rw [beq_eq_false_iff_ne]; omega
  have hl4 : ¬ l = [] := by rw [hld]; simp
  have hl7 : (1 : Int) ≤ (l.length : Int) := by omega
  have HN := Lib.hid (fun w' => refnumber_any R (by rw [hR]; exact hlen) w')
  have hNs := numS_small hn
  have HS := Lib.hid (show numN R = (N : Int) ∧ (numS R).isSome = true by unfold numN; rw [hn]; exact ⟨rfl, rfl⟩)
  have hb0 : Ext w (w.alloc (.cells #[.int .u8 1, .bool false, .int .i64 0, .int .i64 0] 39)) := (Ext.refl _).alloc _
  have HXX := Lib.hid hX
  clear hn hld hR hlen hX
  by_cases hl3 : (2 : Int) < (l.length : Int)
  · go_enter Tryz.func70, Tryz.ntmps70
    go_wp2_with (go_at_call 68; go_loud ((with_reducible refine (HN.out _).mono ?_); rintro e w1 ⟨rfl, hq1⟩; rw [HS.out.1, HS.out.2]))
    have HQ := Lib.hid hq1
    have HQ0 := Lib.hid (hb0.trans hq1)
    clear hq1
    go_loopw [9, 10] (fun u i wr => ∃ (V : Value) (k : Nat), V = u ∧ i = .int .i64 k ∧ k ≤ min N 300 ∧ Hid (OwnV shSt wr w1.heap.size 39 V k (List.replicate k (⟨1, false, 0, 0⟩ : St))) ∧ Hid (Ext w1 wr)) (fun _ i _ => 300 - (intOf i).toNat)
    case atStart => exact ⟨_, 0, rfl, rfl, by omega, Lib.hid (OwnV.nil _ _ _ _), Lib.hid (Ext.refl _)⟩
    case round =>
      obtain ⟨V, k, rfl, rfl, hk, HV, HE⟩ := hrel
      have hb := HQ.out.trans HE.out
      obtain ⟨hc, hf, hz⟩ := hb.facts
      by_cases hkN : k < min N 300
      · have q1 : (k : Int) < (N : Int) := by omega
        have q2 : (k : Int) < 300 := by omega
        go_wp2_with (at_builtin; go_loud (refine wpList_append_vecsB (S := shSt) (w := w1) (m := 1) (xs := [(⟨1, false, 0, 0⟩ : St)]) 35 39 (.agg #[.int .u8 0, .bool false, .int .i64 0, .int .i64 0]) 24 (by rfl) (by rfl) Tryz.underlying35 info_st (by rfl) (by omega) (by rfl) (by rfl) (OwnV.ext HV.out (by repeat (first | exact Ext.refl _ | refine Ext.alloc ?_ _))) (HE.out.trans (by repeat (first | exact Ext.refl _ | refine Ext.alloc ?_ _))) (Vec.lit2 (by simp) rfl rfl) (by omega) ?_; intro v' w6 hown6 hext6 hgr6))
        have HN6 := Lib.hid (show OwnV shSt w6 w1.heap.size 39 v' (k + 1) (List.replicate (k + 1) (⟨1, false, 0, 0⟩ : St)) from by rw [List.replicate_succ']; exact hown6)
        clear hown6 hgr6 hc hf hz
        go_roundw
        case rel => exact ⟨v', k + 1, rfl, by go_num, by omega, HN6, hext6⟩
        case measure => simp [intOf] <;> omega
      · obtain ⟨A9, c9, rfl, hv9, -⟩ := own_vecB HV.out
        have HV9 := Lib.hid hv9
        clear hv9
        have HB := Lib.hid (HQ0.out.trans HE.out)
        have HK := Lib.hid (show k = min N 300 by omega)
        by_cases h1 : 1 < N
        · have q3 : (1 : Int) < (N : Int) := by omega
          have HY := Lib.hid (show X = some (List.replicate k (⟨1, false, 0, 0⟩ : St)) by rw [HXX.out, if_pos h1, HK.out])
          clear h1
          by_cases hkn : k < N
          · have q1 : (k : Int) < (N : Int) := by omega
            have q2 : ¬ ((k : Int) < 300) := by omega
            go_wp2_with fail
            go_ret2
            exact WordR.yes HY.out HV9.out HB.out
          · have q1 : ¬ ((k : Int) < (N : Int)) := by omega
            go_wp2_with fail
            go_ret2
            exact WordR.yes HY.out HV9.out HB.out
        · have q3 : ¬ ((1 : Int) < (N : Int)) := by omega
          have q1 : ¬ ((k : Int) < (N : Int)) := by omega
          have HY := Lib.hid (show X = none by rw [HXX.out, if_neg h1])
          clear h1
          go_wp2_with fail
          go_ret2
          exact WordR.no HY.out HB.out
  · go_enter Tryz.func70, Tryz.ntmps70
    go_wp2_with (go_at_call 68; go_loud ((with_reducible refine (HN.out _).mono ?_); rintro e w1 ⟨rfl, hq1⟩; rw [HS.out.1, HS.out.2]))
    have HQ := Lib.hid hq1
    have HQ0 := Lib.hid (hb0.trans hq1)
    clear hq1
    go_loopw [9, 10] (fun u i wr => ∃ (V : Value) (k : Nat), V = u ∧ i = .int .i64 k ∧ k ≤ min N 300 ∧ Hid (OwnV shSt wr w1.heap.size 39 V k (List.replicate k (⟨1, false, 0, 0⟩ : St))) ∧ Hid (Ext w1 wr)) (fun _ i _ => 300 - (intOf i).toNat)
    case atStart => exact ⟨_, 0, rfl, rfl, by omega, Lib.hid (OwnV.nil _ _ _ _), Lib.hid (Ext.refl _)⟩
    case round =>
      obtain ⟨V, k, rfl, rfl, hk, HV, HE⟩ := hrel
      have hb := HQ.out.trans HE.out
      obtain ⟨hc, hf, hz⟩ := hb.facts
      by_cases hkN : k < min N 300
      · have q1 : (k : Int) < (N : Int) := by omega
        have q2 : (k : Int) < 300 := by omega
        go_wp2_with (at_builtin; go_loud (refine wpList_append_vecsB (S := shSt) (w := w1) (m := 1) (xs := [(⟨1, false, 0, 0⟩ : St)]) 35 39 (.agg #[.int .u8 0, .bool false, .int .i64 0, .int .i64 0]) 24 (by rfl) (by rfl) Tryz.underlying35 info_st (by rfl) (by omega) (by rfl) (by rfl) (OwnV.ext HV.out (by repeat (first | exact Ext.refl _ | refine Ext.alloc ?_ _))) (HE.out.trans (by repeat (first | exact Ext.refl _ | refine Ext.alloc ?_ _))) (Vec.lit2 (by simp) rfl rfl) (by omega) ?_; intro v' w6 hown6 hext6 hgr6))
        have HN6 := Lib.hid (show OwnV shSt w6 w1.heap.size 39 v' (k + 1) (List.replicate (k + 1) (⟨1, false, 0, 0⟩ : St)) from by rw [List.replicate_succ']; exact hown6)
        clear hown6 hgr6 hc hf hz
        go_roundw
        case rel => exact ⟨v', k + 1, rfl, by go_num, by omega, HN6, hext6⟩
        case measure => simp [intOf] <;> omega
      · obtain ⟨A9, c9, rfl, hv9, -⟩ := own_vecB HV.out
        have HV9 := Lib.hid hv9
        clear hv9
        have HB := Lib.hid (HQ0.out.trans HE.out)
        have HK := Lib.hid (show k = min N 300 by omega)
        by_cases h1 : 1 < N
        · have q3 : (1 : Int) < (N : Int) := by omega
          have HY := Lib.hid (show X = some (List.replicate k (⟨1, false, 0, 0⟩ : St)) by rw [HXX.out, if_pos h1, HK.out])
          clear h1
          by_cases hkn : k < N
          · have q1 : (k : Int) < (N : Int) := by omega
            have q2 : ¬ ((k : Int) < 300) := by omega
            go_wp2_with fail
            go_ret2
            exact WordR.yes HY.out HV9.out HB.out
          · have q1 : ¬ ((k : Int) < (N : Int)) := by omega
            go_wp2_with fail
            go_ret2
            exact WordR.yes HY.out HV9.out HB.out
        · have q3 : ¬ ((1 : Int) < (N : Int)) := by omega
          have q1 : ¬ ((k : Int) < (N : Int)) := by omega
          have HY := Lib.hid (show X = none by rw [HXX.out, if_neg h1])
          clear h1
          go_wp2_with fail
          go_ret2
          exact WordR.no HY.out HB.out
set_option maxHeartbeats 4000000 in
theorem word_num_112 (l R : List UInt8) (d : UInt8) (r : List UInt8) (hld : l = 112 :: d :: r) (hR : R = d :: r) (hlen : (d :: r).length ≤ 100000) (N : Nat) (hn : numS R = some N) (X : Option (List St)) (hX : X = if 1 < N then some (List.replicate (min N 300) (⟨1, true, 0, 0⟩ : St)) else none) (w : World) :
    Calls Tryz.prog 70 #[.string ⟨l.toArray⟩] w (WordR X w) := by
  have hE : (l == [121, 111]) = false := by rw [hld]; simp
  have hp : (l.take 2 == [111, 110]) = false := by rw [hld]; simp
  have h0 : ∀ h, (⟨l.toArray⟩ : ByteArray)[0]'h = (112 : UInt8) := fun h => by rw [str_at l 0 h, hld]; rfl
  have hx1 : (⟨l.toArray⟩ : ByteArray).extract 1 l.length = ⟨R.toArray⟩ := by rw [str_extD l 1 _ (Nat.le_refl _), hld, hR]; rfl
  have hx0 := str_ext0 l 2
  have hl2 : (2 : Int) ≤ (l.length : Int) := by rw [hld]; simp only [List.length_cons]; omega
  have hl1 : ¬ ((l.length : Int) = 1) := by omega
  have hl9 : ¬ ((l.length : Int) = 0) := by omega
  have hl8 : (0 : Int) < (l.length : Int) := by omega
  have hl5 : ((l.length : Int) == 0) = false := by rw [beq_eq_false_iff_ne]; omega
  have hl6 : ((l.length : Int) == 1) = false := by rw [beq_eq_false_iff_ne]; omega
  have hl4 : ¬ l = [] := by rw [hld]; simp
  have hl7 : (1 : Int) ≤ (l.length : Int) := by omega
  have HN := Lib.hid (fun w' => refnumber_any R (by rw [hR]; exact hlen) w')
  have hNs := numS_small hn
  have HS := Lib.hid (show numN R = (N : Int) ∧ (numS R).isSome = true by unfold numN; rw [hn]; exact ⟨rfl, rfl⟩)
  have hb0 : Ext w (w.alloc (.cells #[.int .u8 1, .bool true, .int .i64 0, .int .i64 0] 39)) := (Ext.refl _).alloc _
  have HXX := Lib.hid hX
  clear hn hld hR hlen hX
  by_cases hl3 : (2 : Int) < (l.length : Int)
  · go_enter Tryz.func70, Tryz.ntmps70
    go_wp2_with (go_at_call 68; go_loud ((with_reducible refine (HN.out _).mono ?_); rintro e w1 ⟨rfl, hq1⟩; rw [HS.out.1, HS.out.2]))
    have HQ := Lib.hid hq1
    have HQ0 := Lib.hid (hb0.trans hq1)
    clear hq1
    go_loopw [9, 10] (fun u i wr => ∃ (V : Value) (k : Nat), V = u ∧ i = .int .i64 k ∧ k ≤ min N 300 ∧ Hid (OwnV shSt wr w1.heap.size 39 V k (List.replicate k (⟨1, true, 0, 0⟩ : St))) ∧ Hid (Ext w1 wr)) (fun _ i _ => 300 - (intOf i).toNat)
    case atStart => exact ⟨_, 0, rfl, rfl, by omega, Lib.hid (OwnV.nil _ _ _ _), Lib.hid (Ext.refl _)⟩
    case round =>
      obtain ⟨V, k, rfl, rfl, hk, HV, HE⟩ := hrel
      have hb := HQ.out.trans HE.out
      obtain ⟨hc, hf, hz⟩ := hb.facts
      by_cases hkN : k < min N 300
      · have q1 : (k : Int) < (N : Int) := by omega
        have q2 : (k : Int) < 300 := by omega
        go_wp2_with (at_builtin; go_loud (refine wpList_append_vecsB (S := shSt) (w := w1) (m := 1) (xs := [(⟨1, true, 0, 0⟩ : St)]) 35 39 (.agg #[.int .u8 0, .bool false, .int .i64 0, .int .i64 0]) 24 (by rfl) (by rfl) Tryz.underlying35 info_st (by rfl) (by omega) (by rfl) (by rfl) (OwnV.ext HV.out (by repeat (first | exact Ext.refl _ | refine Ext.alloc ?_ _))) (HE.out.trans (by repeat (first | exact Ext.refl _ | refine Ext.alloc ?_ _))) (Vec.lit2 (by simp) rfl rfl) (by omega) ?_; intro v' w6 hown6 hext6 hgr6))
        have HN6 := Lib.hid (show OwnV shSt w6 w1.heap.size 39 v' (k + 1) (List.replicate (k + 1) (⟨1, true, 0, 0⟩ : St)) from by rw [List.replicate_succ']; exact hown6)
        clear hown6 hgr6 hc hf hz
        go_roundw
        case rel => exact ⟨v', k + 1, rfl, by go_num, by omega, HN6, hext6⟩
        case measure => simp [intOf] <;> omega
      · obtain ⟨A9, c9, rfl, hv9, -⟩ := own_vecB HV.out
        have HV9 := Lib.hid hv9
        clear hv9
        have HB := Lib.hid (HQ0.out.trans HE.out)
        have HK := Lib.hid (show k = min N 300 by omega)
        by_cases h1 : 1 < N
        · have q3 : (1 : Int) < (N : Int) := by omega
          have HY := Lib.hid (show X = some (List.replicate k (⟨1, true, 0, 0⟩ : St)) by rw [HXX.out, if_pos h1, HK.out])
          clear h1
          by_cases hkn : k < N
          · have q1 : (k : Int) < (N : Int) := by omega
            have q2 : ¬ ((k : Int) < 300) := by omega
            go_wp2_with fail
            go_ret2
            exact WordR.yes HY.out HV9.out HB.out
          · have q1 : ¬ ((k : Int) < (N : Int)) := by omega
            go_wp2_with fail
            go_ret2
            exact WordR.yes HY.out HV9.out HB.out
        · have q3 : ¬ ((1 : Int) < (N : Int)) := by omega
          have q1 : ¬ ((k : Int) < (N : Int)) := by omega
          have HY := Lib.hid (show X = none by rw [HXX.out, if_neg h1])
          clear h1
          go_wp2_with fail
          go_ret2
          exact WordR.no HY.out HB.out
  · go_enter Tryz.func70, Tryz.ntmps70
    go_wp2_with (go_at_call 68; go_loud ((with_reducible refine (HN.out _).mono ?_); rintro e w1 ⟨rfl, hq1⟩; rw [HS.out.1, HS.out.2]))
    have HQ := Lib.hid hq1
    have HQ0 := Lib.hid (hb0.trans hq1)
    clear hq1
    go_loopw [9, 10] (fun u i wr => ∃ (V : Value) (k : Nat), V = u ∧ i = .int .i64 k ∧ k ≤ min N 300 ∧ Hid (OwnV shSt wr w1.heap.size 39 V k (List.replicate k (⟨1, true, 0, 0⟩ : St))) ∧ Hid (Ext w1 wr)) (fun _ i _ => 300 - (intOf i).toNat)
    case atStart => exact ⟨_, 0, rfl, rfl, by omega, Lib.hid (OwnV.nil _ _ _ _), Lib.hid (Ext.refl _)⟩
    case round =>
      obtain ⟨V, k, rfl, rfl, hk, HV, HE⟩ := hrel
      have hb := HQ.out.trans HE.out
      obtain ⟨hc, hf, hz⟩ := hb.facts
      by_cases hkN : k < min N 300
      · have q1 : (k : Int) < (N : Int) := by omega
        have q2 : (k : Int) < 300 := by omega
        go_wp2_with (at_builtin; go_loud (refine wpList_append_vecsB (S := shSt) (w := w1) (m := 1) (xs := [(⟨1, true, 0, 0⟩ : St)]) 35 39 (.agg #[.int .u8 0, .bool false, .int .i64 0, .int .i64 0]) 24 (by rfl) (by rfl) Tryz.underlying35 info_st (by rfl) (by omega) (by rfl) (by rfl) (OwnV.ext HV.out (by repeat (first | exact Ext.refl _ | refine Ext.alloc ?_ _))) (HE.out.trans (by repeat (first | exact Ext.refl _ | refine Ext.alloc ?_ _))) (Vec.lit2 (by simp) rfl rfl) (by omega) ?_; intro v' w6 hown6 hext6 hgr6))
        have HN6 := Lib.hid (show OwnV shSt w6 w1.heap.size 39 v' (k + 1) (List.replicate (k + 1) (⟨1, true, 0, 0⟩ : St)) from by rw [List.replicate_succ']; exact hown6)
        clear hown6 hgr6 hc hf hz
        go_roundw
        case rel => exact ⟨v', k + 1, rfl, by go_num, by omega, HN6, hext6⟩
        case measure => simp [intOf] <;> omega
      · obtain ⟨A9, c9, rfl, hv9, -⟩ := own_vecB HV.out
        have HV9 := Lib.hid hv9
        clear hv9
        have HB := Lib.hid (HQ0.out.trans HE.out)
        have HK := Lib.hid (show k = min N 300 by omega)
        by_cases h1 : 1 < N
        · have q3 : (1 : Int) < (N : Int) := by omega
          have HY := Lib.hid (show X = some (List.replicate k (⟨1, true, 0, 0⟩ : St)) by rw [HXX.out, if_pos h1, HK.out])
          clear h1
          by_cases hkn : k < N
          · have q1 : (k : Int) < (N : Int) := by omega
            have q2 : ¬ ((k : Int) < 300) := by omega
            go_wp2_with fail
            go_ret2
            exact WordR.yes HY.out HV9.out HB.out
          · have q1 : ¬ ((k : Int) < (N : Int)) := by omega
            go_wp2_with fail
            go_ret2
            exact WordR.yes HY.out HV9.out HB.out
        · have q3 : ¬ ((1 : Int) < (N : Int)) := by omega
          have q1 : ¬ ((k : Int) < (N : Int)) := by omega
          have HY := Lib.hid (show X = none by rw [HXX.out, if_neg h1])
          clear h1
          go_wp2_with fail
          go_ret2
          exact WordR.no HY.out HB.out
end Go.Proofs.YtfbfkoeaihknoaaGreatDoor
/- number: what is read of the digits in front. -/
namespace Go.Proofs.YtfbfkoeaihknoaaGreatDoor
set_option maxRecDepth 100000
open Go.RowKit
theorem numR_0 {l : List UInt8} (h : headD 4 l = 0) : numR l = (-1, l) := by rw [numR, if_pos h]
theorem numR_1 {l : List UInt8} (h : headD 4 l ≠ 0) : numR l = ((valD (l.take (headD 4 l)) : Int), l.drop (headD 4 l)) := by rw [numR, if_neg h]
set_option maxHeartbeats 2000000 in
theorem number_any (l : List UInt8) (hl : l.length ≤ 100000) (w : World) (hg : Glob w) :
    Calls Tryz.prog 108 #[.string ⟨l.toArray⟩] w fun e w' => e = .returned (.tuple #[.int .i64 (numR l).1, .string ⟨(numR l).2.toArray⟩]) ∧ Ext w w' := by
  have HG := Lib.hid hg
  obtain ⟨hd1, hd2, hd3⟩ := headD_le 4 l
  have HD := Lib.hid hd3
  have HP := Lib.hid (fun k => headD_step (k := 4) (l := l) (n := k))
  obtain ⟨N, hN⟩ : ∃ N, headD 4 l = N := ⟨_, rfl⟩
  have HN := Lib.hid hN
  rw [hN] at hd1 hd2 HD HP
  clear hg hd3 hN
  have hx0 := fun k => str_ext0 l k
  have hxD := str_extD l N l.length (Nat.le_refl _)
  go_enter Tryz.func108, Tryz.ntmps108
  go_wp2_with fail
  go_loopw [4] (fun i wr => ∃ (k : Nat), i = .int .i64 k ∧ k ≤ N ∧ Hid (Ext w wr)) (fun i _ => N - (intOf i).toNat)
  case atStart => exact ⟨0, rfl, Nat.zero_le _, Lib.hid (by repeat (first | exact Ext.refl _ | assumption | refine Ext.alloc ?_ _ | refine Ext.drew ?_ | refine Ext.drewN ?_ _ | refine Ext.trans ?_ (by assumption)))⟩
  case round =>
    obtain ⟨k, rfl, hk, HE⟩ := hrel
    have hstep := HP.out k hk
    by_cases hlt : k < N
    · obtain ⟨h1, h2, h3⟩ := hstep.1 hlt
      have h4 := dg_val h3
      have h5 := str_at l k
      clear hstep h3
      have q0 : (0 : Int) ≤ (k : Int) := by omega
      have q1 : (k : Int) < (l.length : Int) := by omega
      have q2 : (k : Int) < 4 := by omega
      generalize hc : l.getD k 0 = c at *
      have q3 : (48 : Int) ≤ (c.toNat : Int) := by omega
      have q4 : (c.toNat : Int) ≤ 57 := by omega
      clear hc
      go_wp2_with fail
      go_roundw
      case rel => exact ⟨k + 1, by go_num, by omega, Lib.hid (by have := HE.out; repeat (first | exact Ext.refl _ | assumption | refine Ext.alloc ?_ _ | refine Ext.drew ?_ | refine Ext.drewN ?_ _ | refine Ext.trans ?_ (by assumption)))⟩
      case measure => simp [intOf]; omega
    · obtain rfl : N = k := by omega
      have hno : ¬ (N < 4 ∧ N < l.length ∧ isDg (l.getD N 0) = true) := fun h => hlt (hstep.2 h)
      by_cases hN0 : N = 0
      · subst hN0
        have HR := Lib.hid (numR_0 HN.out)
        have hz : (⟨l.toArray⟩ : ByteArray).extract 0 0 = ⟨#[]⟩ := by rw [str_ext0]; rfl
        by_cases hl4 : 0 < 4
        · by_cases hll : 0 < l.length
          · have h5 := str_at l 0
            have q0 : (0 : Int) ≤ (0 : Int) := by omega
            have q1 : (0 : Int) < (l.length : Int) := by omega
            have q2 : (0 : Int) < 4 := by omega
            have hnd : ¬ isDg (l.getD 0 0) = true := fun h => hno ⟨hl4, hll, h⟩
            generalize hc : l.getD 0 0 = c at *
            have hnd2 : c.toNat < 48 ∨ 57 < c.toNat := by
              by_cases h6 : c.toNat < 48
              · exact .inl h6
              · right
                rcases Nat.lt_or_ge 57 c.toNat with h7 | h7
                · exact h7
                · exfalso
                  apply hnd
                  simp only [isDg, Bool.and_eq_true, decide_eq_true_eq, UInt8.le_iff_toNat_le]
                  exact ⟨by simpa using Nat.le_of_not_lt h6, by simpa using h7⟩
            clear hc hnd hno hstep
            rcases hnd2 with h6 | h6
            · have q3 : (c.toNat : Int) < 48 := by omega
              go_wp2_with (go_at_call 82; go_loud (((with_reducible refine (atoi_e_any _ (HG.out.ext (by have := HE.out; repeat (first | exact Ext.refl _ | assumption | refine Ext.alloc ?_ _ | refine Ext.drew ?_ | refine Ext.drewN ?_ _ | refine Ext.trans ?_ (by assumption))))).mono ?_); rintro e w1 ⟨⟨te, pe, rfl⟩, hq1⟩)))
              go_ret2
              exact ⟨by rw [HR.out]; rfl, by have := HE.out; repeat (first | exact Ext.refl _ | assumption | refine Ext.alloc ?_ _ | refine Ext.drew ?_ | refine Ext.drewN ?_ _ | refine Ext.trans ?_ (by assumption))⟩
            · have q3 : (57 : Int) < (c.toNat : Int) := by omega
              have q4 : (48 : Int) ≤ (c.toNat : Int) := by omega
              go_wp2_with (go_at_call 82; go_loud (((with_reducible refine (atoi_e_any _ (HG.out.ext (by have := HE.out; repeat (first | exact Ext.refl _ | assumption | refine Ext.alloc ?_ _ | refine Ext.drew ?_ | refine Ext.drewN ?_ _ | refine Ext.trans ?_ (by assumption))))).mono ?_); rintro e w1 ⟨⟨te, pe, rfl⟩, hq1⟩)))
              go_ret2
              exact ⟨by rw [HR.out]; rfl, by have := HE.out; repeat (first | exact Ext.refl _ | assumption | refine Ext.alloc ?_ _ | refine Ext.drew ?_ | refine Ext.drewN ?_ _ | refine Ext.trans ?_ (by assumption))⟩
          · have q1 : ¬ ((0 : Int) < (l.length : Int)) := by omega
            clear hstep hno
            go_wp2_with (go_at_call 82; go_loud (((with_reducible refine (atoi_e_any _ (HG.out.ext (by have := HE.out; repeat (first | exact Ext.refl _ | assumption | refine Ext.alloc ?_ _ | refine Ext.drew ?_ | refine Ext.drewN ?_ _ | refine Ext.trans ?_ (by assumption))))).mono ?_); rintro e w1 ⟨⟨te, pe, rfl⟩, hq1⟩)))
            go_ret2
            exact ⟨by rw [HR.out]; rfl, by have := HE.out; repeat (first | exact Ext.refl _ | assumption | refine Ext.alloc ?_ _ | refine Ext.drew ?_ | refine Ext.drewN ?_ _ | refine Ext.trans ?_ (by assumption))⟩
        · have q2 : ¬ ((0 : Int) < 4) := by omega
          by_cases hll : 0 < l.length
          · have q1 : (0 : Int) < (l.length : Int) := by omega
            clear hstep hno
            go_wp2_with (go_at_call 82; go_loud (((with_reducible refine (atoi_e_any _ (HG.out.ext (by have := HE.out; repeat (first | exact Ext.refl _ | assumption | refine Ext.alloc ?_ _ | refine Ext.drew ?_ | refine Ext.drewN ?_ _ | refine Ext.trans ?_ (by assumption))))).mono ?_); rintro e w1 ⟨⟨te, pe, rfl⟩, hq1⟩)))
            go_ret2
            exact ⟨by rw [HR.out]; rfl, by have := HE.out; repeat (first | exact Ext.refl _ | assumption | refine Ext.alloc ?_ _ | refine Ext.drew ?_ | refine Ext.drewN ?_ _ | refine Ext.trans ?_ (by assumption))⟩
          · have q1 : ¬ ((0 : Int) < (l.length : Int)) := by omega
            clear hstep hno
            go_wp2_with (go_at_call 82; go_loud (((with_reducible refine (atoi_e_any _ (HG.out.ext (by have := HE.out; repeat (first | exact Ext.refl _ | assumption | refine Ext.alloc ?_ _ | refine Ext.drew ?_ | refine Ext.drewN ?_ _ | refine Ext.trans ?_ (by assumption))))).mono ?_); rintro e w1 ⟨⟨te, pe, rfl⟩, hq1⟩)))
            go_ret2
            exact ⟨by rw [HR.out]; rfl, by have := HE.out; repeat (first | exact Ext.refl _ | assumption | refine Ext.alloc ?_ _ | refine Ext.drew ?_ | refine Ext.drewN ?_ _ | refine Ext.trans ?_ (by assumption))⟩

      · have HR := Lib.hid (numR_1 (l := l) (by rw [HN.out]; exact hN0))
        rw [HN.out] at HR
        have HAT := Lib.hid (fun w' => atoi_digits_any (l.take N) (by rw [List.length_take]; omega) HD.out (fun e => by have h9 := congrArg List.length e; rw [List.length_take, List.length_nil] at h9; omega) w')
        have hp : (0 : Int) < (N : Int) := by omega
        generalize valD (l.take N) = V at *
        generalize l.drop N = R at *
        by_cases hl4 : N < 4
        · by_cases hll : N < l.length
          · have h5 := str_at l N
            have q0 : (0 : Int) ≤ (N : Int) := by omega
            have q1 : (N : Int) < (l.length : Int) := by omega
            have q2 : (N : Int) < 4 := by omega
            have hnd : ¬ isDg (l.getD N 0) = true := fun h => hno ⟨hl4, hll, h⟩
            generalize hc : l.getD N 0 = c at *
            have hnd2 : c.toNat < 48 ∨ 57 < c.toNat := by
              by_cases h6 : c.toNat < 48
              · exact .inl h6
              · right
                rcases Nat.lt_or_ge 57 c.toNat with h7 | h7
                · exact h7
                · exfalso
                  apply hnd
                  simp only [isDg, Bool.and_eq_true, decide_eq_true_eq, UInt8.le_iff_toNat_le]
                  exact ⟨by simpa using Nat.le_of_not_lt h6, by simpa using h7⟩
            clear hc hnd hno hstep
            rcases hnd2 with h6 | h6
            · have q3 : (c.toNat : Int) < 48 := by omega
              go_wp2_with (go_at_call 82; go_loud (((with_reducible refine (HAT.out _).mono ?_); rintro e w1 ⟨rfl, hq1⟩)))
              go_wp2
              go_quiet (fail)
              go_wp2
              go_ret2
              exact ⟨by rw [HR.out]; rfl, by have := HE.out; repeat (first | exact Ext.refl _ | assumption | refine Ext.alloc ?_ _ | refine Ext.drew ?_ | refine Ext.drewN ?_ _ | refine Ext.trans ?_ (by assumption))⟩
            · have q3 : (57 : Int) < (c.toNat : Int) := by omega
              have q4 : (48 : Int) ≤ (c.toNat : Int) := by omega
              go_wp2_with (go_at_call 82; go_loud (((with_reducible refine (HAT.out _).mono ?_); rintro e w1 ⟨rfl, hq1⟩)))
              go_wp2
              go_quiet (fail)
              go_wp2
              go_ret2
              exact ⟨by rw [HR.out]; rfl, by have := HE.out; repeat (first | exact Ext.refl _ | assumption | refine Ext.alloc ?_ _ | refine Ext.drew ?_ | refine Ext.drewN ?_ _ | refine Ext.trans ?_ (by assumption))⟩
          · have q1 : ¬ ((N : Int) < (l.length : Int)) := by omega
            clear hstep hno
            go_wp2_with (go_at_call 82; go_loud (((with_reducible refine (HAT.out _).mono ?_); rintro e w1 ⟨rfl, hq1⟩)))
            go_wp2
            go_quiet (fail)
            go_wp2
            go_ret2
            exact ⟨by rw [HR.out]; rfl, by have := HE.out; repeat (first | exact Ext.refl _ | assumption | refine Ext.alloc ?_ _ | refine Ext.drew ?_ | refine Ext.drewN ?_ _ | refine Ext.trans ?_ (by assumption))⟩
        · have q2 : ¬ ((N : Int) < 4) := by omega
          by_cases hll : N < l.length
          · have q1 : (N : Int) < (l.length : Int) := by omega
            clear hstep hno
            go_wp2_with (go_at_call 82; go_loud (((with_reducible refine (HAT.out _).mono ?_); rintro e w1 ⟨rfl, hq1⟩)))
            go_wp2
            go_quiet (fail)
            go_wp2
            go_ret2
            exact ⟨by rw [HR.out]; rfl, by have := HE.out; repeat (first | exact Ext.refl _ | assumption | refine Ext.alloc ?_ _ | refine Ext.drew ?_ | refine Ext.drewN ?_ _ | refine Ext.trans ?_ (by assumption))⟩
          · have q1 : ¬ ((N : Int) < (l.length : Int)) := by omega
            clear hstep hno
            go_wp2_with (go_at_call 82; go_loud (((with_reducible refine (HAT.out _).mono ?_); rintro e w1 ⟨rfl, hq1⟩)))
            go_wp2
            go_quiet (fail)
            go_wp2
            go_ret2
            exact ⟨by rw [HR.out]; rfl, by have := HE.out; repeat (first | exact Ext.refl _ | assumption | refine Ext.alloc ?_ _ | refine Ext.drew ?_ | refine Ext.drewN ?_ _ | refine Ext.trans ?_ (by assumption))⟩

end Go.Proofs.YtfbfkoeaihknoaaGreatDoor
