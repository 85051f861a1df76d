/- The reference's Number and kind. -/
import Derived.Test.YtpcefmopoceiiaaGreatDoorCut
import Derived.Test.YtpcefmopoceiiaaGreatDoorTextA
namespace Go.Proofs.YtpcefmopoceiiaaGreatDoor
set_option maxRecDepth 100000
set_option maxRecDepth 100000
open Go.RowKit
theorem valD_next {l : List UInt8} {k : Nat} (hk : k < l.length) : valD (l.take (k + 1)) = 10 * valD (l.take k) + ((l.getD k 0).toNat - 48) := by
  rw [List.take_add_one, List.getElem?_eq_getElem hk, List.getD_eq_getElem?_getD, List.getElem?_eq_getElem hk]
  unfold valD
  rw [List.foldl_append]
  rfl
theorem all_next {l : List UInt8} {k : Nat} (hk : k < l.length) : (l.take (k + 1)).all isDg = ((l.take k).all isDg && isDg (l.getD k 0)) := by
  rw [List.take_add_one, List.getElem?_eq_getElem hk, List.getD_eq_getElem?_getD, List.getElem?_eq_getElem hk]
  rw [List.all_append, show (some l[k]).toList = [l[k]] from rfl, List.all_cons, List.all_nil, Bool.and_true]
  rfl
theorem all_not {l : List UInt8} {k : Nat} (hk : k < l.length) (h : isDg (l.getD k 0) = false) : l.all isDg = false := by
  rw [Bool.eq_false_iff]
  intro h9
  rw [List.getD_eq_getElem?_getD, List.getElem?_eq_getElem hk] at h
  have := List.all_eq_true.1 h9 l[k] (List.getElem_mem _)
  rw [show (some l[k]).getD 0 = l[k] from rfl] at h
  rw [h] at this
  cases this
/-- what Number returns -/
def numN (l : List UInt8) : Int := (((numS l).getD 0 : Nat) : Int)
def NumR (l : List UInt8) (w : World) (e : Ending) (w' : World) : Prop := e = .returned (.tuple #[.int .i64 (numN l), .bool (numS l).isSome]) ∧ Ext w w'
theorem num_no {l : List UInt8} {w w' : World} (h : numS l = none) (hb : Ext w w') : NumR l w (.returned (.tuple #[.int .i64 0, .bool false])) w' := by
  refine ⟨?_, hb⟩
  unfold numN
  rw [h]
  rfl
theorem num_yes {l : List UInt8} {n : Nat} {w w' : World} (h : numS l = some n) (hb : Ext w w') : NumR l w (.returned (.tuple #[.int .i64 (n : Int), .bool true])) w' := by
  refine ⟨?_, hb⟩
  unfold numN
  rw [h]
  rfl
set_option maxHeartbeats 4000000 in
theorem refnumber_any (l : List UInt8) (hl : l.length ≤ 100000) (w : World) : Calls Tryz.prog 44 #[.string ⟨l.toArray⟩] w (NumR l w) := by
  by_cases h0 : l.length = 0
  · have HN := Lib.hid (show numS l = none by rw [numS, if_pos (.inl h0)])
    have q : (l.length : Int) = 0 := by omega
    go_enter Tryz.func44, Tryz.ntmps44
    go_wp2_with fail
    go_ret2
    exact num_no HN.out (Ext.refl _)
  by_cases h4 : 4 < l.length
  · have HN := Lib.hid (show numS l = none by rw [numS, if_pos (.inr (.inl h4))])
    have q : (4 : Int) < (l.length : Int) := by omega
    have q0 : ¬ ((l.length : Int) = 0) := by omega
    go_enter Tryz.func44, Tryz.ntmps44
    go_wp2_with fail
    go_ret2
    exact num_no HN.out (Ext.refl _)
  have p0 : ¬ ((l.length : Int) = 0) := by omega
  have p4 : ¬ ((4 : Int) < (l.length : Int)) := by omega
  have h50 := str_at l 0
  by_cases h1 : 1 < l.length
  · have p1 : (1 : Int) < (l.length : Int) := by omega
    by_cases hz : l.getD 0 0 = 48
    · have hh : l.head? = some 48 := by
        rw [List.head?_eq_getElem?, List.getElem?_eq_getElem (by omega)]
        rw [List.getD_eq_getElem?_getD, List.getElem?_eq_getElem (by omega)] at hz
        exact congrArg some hz
      have HN := Lib.hid (show numS l = none by rw [numS, if_pos (.inr (.inr ⟨h1, hh⟩))])
      clear hh
      rw [hz] at h50
      clear hz
      go_enter Tryz.func44, Tryz.ntmps44
      go_wp2_with fail
      go_ret2
      exact num_no HN.out (Ext.refl _)
    · have hsp : ¬ (l.length = 0 ∨ 4 < l.length ∨ (1 < l.length ∧ l.head? = some 48)) := by
        rintro (h | h | ⟨-, h⟩)
        · omega
        · omega
        · apply hz
          rw [List.head?_eq_getElem?, List.getElem?_eq_getElem (by omega)] at h
          rw [List.getD_eq_getElem?_getD, List.getElem?_eq_getElem (by omega)]
          exact Option.some.inj h
      have HYES := Lib.hid (fun (h : l.all isDg = true) => (show numS l = some (valD l) by rw [numS, if_neg hsp, if_pos h]))
      have HNO := Lib.hid (fun (h : l.all isDg = false) => (show numS l = none by rw [numS, if_neg hsp, if_neg (by rw [h]; simp)]))
      have hne : (((l.getD 0 0).toNat : Int) == 48) = false := by
        rw [beq_eq_false_iff_ne]
        intro h
        exact hz (UInt8.toNat_inj.1 (by rw [show (48 : UInt8).toNat = 48 from rfl]; omega))
      clear hsp hz
      generalize l.getD 0 0 = z0 at *
      go_enter Tryz.func44, Tryz.ntmps44
      go_wp2_with fail
      go_loopw [4, 5] (fun x i wr => ∃ k : Nat, x = .int .i64 (valD (l.take k) : Int) ∧ i = .int .i64 k ∧ k ≤ l.length ∧ Hid ((l.take k).all isDg = true) ∧ Hid (Ext w wr)) (fun _ i _ => l.length - (intOf i).toNat)
      case atStart => exact ⟨0, rfl, rfl, by omega, Lib.hid rfl, Lib.hid (Ext.refl _)⟩
      case round =>
        obtain ⟨k, rfl, rfl, hk, HA, HE⟩ := hrel
        have hvs := valD_small HA.out (by rw [List.length_take]; omega)
        have q0 : (0 : Int) ≤ (k : Int) := by omega
        by_cases h1 : k < l.length
        · have q1 : (k : Int) < (l.length : Int) := by omega
          have h5 := str_at l k
          by_cases hd : isDg (l.getD k 0) = true
          · have hv := valD_next h1
            have ha := all_next h1
            rw [HA.out, hd] at ha
            have HA2 := Lib.hid ha
            obtain ⟨d1, d2⟩ := dg_val hd
            have HV := Lib.hid hv
            generalize l.getD k 0 = d at *
            generalize valD (l.take k) = V at *
            clear hv ha hd
            have e1 : ((d.toNat : Int) < 48) = False := by simp <;> omega
            have e2 : ((57 : Int) < (d.toNat : Int)) = False := by simp <;> omega
            have i1 := IntWalk.i64_in (10 * (V : Int)) ⟨by omega, by omega⟩
            have i2 := IntWalk.i64_in (10 * (V : Int) + ((d.toNat : Int) - 48)) ⟨by omega, by omega⟩
            have i3 : IntKind.u8.wrap ((d.toNat : Int) - 48) = (d.toNat : Int) - 48 := by rw [IntKind.wrap_u8]; omega
            have i4 := IntWalk.i64_in ((d.toNat : Int) - 48) ⟨by omega, by omega⟩
            go_wp2_with fail
            go_roundw
            case rel => exact ⟨k + 1, by rw [HV.out]; congr 1; omega, by go_num, by omega, HA2, HE⟩
            case measure => simp [intOf] <;> omega
          · have hd : isDg (l.getD k 0) = false := by simpa using hd
            have HN := Lib.hid (HNO.out (all_not h1 hd))
            have hcm : ((l.getD k 0).toNat : Int) < 48 ∨ (57 : Int) < ((l.getD k 0).toNat : Int) := by
              rw [isDg, Bool.and_eq_false_iff, decide_eq_false_iff_not, decide_eq_false_iff_not, UInt8.le_iff_toNat_le, UInt8.le_iff_toNat_le] at hd
              have e48 : (48 : UInt8).toNat = 48 := rfl
              have e57 : (57 : UInt8).toNat = 57 := rfl
              omega
            generalize l.getD k 0 = d at *
            clear hd
            rcases hcm with e1 | e1
            · go_wp2_with fail
              go_ret2
              exact num_no HN.out HE.out
            · have e2 : ¬ ((d.toNat : Int) < 48) := by omega
              go_wp2_with fail
              go_ret2
              exact num_no HN.out HE.out
        · obtain rfl : k = l.length := by omega
          have e9 : l.take l.length = l := List.take_of_length_le (Nat.le_refl _)
          rw [e9] at HA ⊢
          have HY := Lib.hid (HYES.out HA.out)
          go_wp2_with fail
          go_ret2
          exact num_yes HY.out HE.out
  · have p1 : ¬ ((1 : Int) < (l.length : Int)) := by omega
    have hsp : ¬ (l.length = 0 ∨ 4 < l.length ∨ (1 < l.length ∧ l.head? = some 48)) := by
      rintro (h | h | ⟨h, -⟩) <;> omega
    have HYES := Lib.hid (fun (h : l.all isDg = true) => (show numS l = some (valD l) by rw [numS, if_neg hsp, if_pos h]))
    have HNO := Lib.hid (fun (h : l.all isDg = false) => (show numS l = none by rw [numS, if_neg hsp, if_neg (by rw [h]; simp)]))
    clear hsp h50
    go_enter Tryz.func44, Tryz.ntmps44
    go_wp2_with fail
    go_loopw [4, 5] (fun x i wr => ∃ k : Nat, x = .int .i64 (valD (l.take k) : Int) ∧ i = .int .i64 k ∧ k ≤ l.length ∧ Hid ((l.take k).all isDg = true) ∧ Hid (Ext w wr)) (fun _ i _ => l.length - (intOf i).toNat)
    case atStart => exact ⟨0, rfl, rfl, by omega, Lib.hid rfl, Lib.hid (Ext.refl _)⟩
    case round =>
      obtain ⟨k, rfl, rfl, hk, HA, HE⟩ := hrel
      have hvs := valD_small HA.out (by rw [List.length_take]; omega)
      have q0 : (0 : Int) ≤ (k : Int) := by omega
      by_cases h1 : k < l.length
      · have q1 : (k : Int) < (l.length : Int) := by omega
        have h5 := str_at l k
        by_cases hd : isDg (l.getD k 0) = true
        · have hv := valD_next h1
          have ha := all_next h1
          rw [HA.out, hd] at ha
          have HA2 := Lib.hid ha
          obtain ⟨d1, d2⟩ := dg_val hd
          have HV := Lib.hid hv
          generalize l.getD k 0 = d at *
          generalize valD (l.take k) = V at *
          clear hv ha hd
          have e1 : ((d.toNat : Int) < 48) = False := by simp <;> omega
          have e2 : ((57 : Int) < (d.toNat : Int)) = False := by simp <;> omega
          have i1 := IntWalk.i64_in (10 * (V : Int)) ⟨by omega, by omega⟩
          have i2 := IntWalk.i64_in (10 * (V : Int) + ((d.toNat : Int) - 48)) ⟨by omega, by omega⟩
          have i3 : IntKind.u8.wrap ((d.toNat : Int) - 48) = (d.toNat : Int) - 48 := by rw [IntKind.wrap_u8]; omega
          have i4 := IntWalk.i64_in ((d.toNat : Int) - 48) ⟨by omega, by omega⟩
          go_wp2_with fail
          go_roundw
          case rel => exact ⟨k + 1, by rw [HV.out]; congr 1; omega, by go_num, by omega, HA2, HE⟩
          case measure => simp [intOf] <;> omega
        · have hd : isDg (l.getD k 0) = false := by simpa using hd
          have HN := Lib.hid (HNO.out (all_not h1 hd))
          have hcm : ((l.getD k 0).toNat : Int) < 48 ∨ (57 : Int) < ((l.getD k 0).toNat : Int) := by
            rw [isDg, Bool.and_eq_false_iff, decide_eq_false_iff_not, decide_eq_false_iff_not, UInt8.le_iff_toNat_le, UInt8.le_iff_toNat_le] at hd
            have e48 : (48 : UInt8).toNat = 48 := rfl
            have e57 : (57 : UInt8).toNat = 57 := rfl
            omega
          generalize l.getD k 0 = d at *
          clear hd
          rcases hcm with e1 | e1
          · go_wp2_with fail
            go_ret2
            exact num_no HN.out HE.out
          · have e2 : ¬ ((d.toNat : Int) < 48) := by omega
            go_wp2_with fail
            go_ret2
            exact num_no HN.out HE.out
      · obtain rfl : k = l.length := by omega
        have e9 : l.take l.length = l := List.take_of_length_le (Nat.le_refl _)
        rw [e9] at HA ⊢
        have HY := Lib.hid (HYES.out HA.out)
        go_wp2_with fail
        go_ret2
        exact num_yes HY.out HE.out
set_option maxHeartbeats 4000000 in
theorem refkind_any (c : UInt8) (w : World) : Calls Tryz.prog 45 #[.int .u8 (c.toNat : Int)] w fun e w' => e = .returned (.int .u8 (kindR c)) ∧ Ext w w' := by
  go_enter Tryz.func45, Tryz.ntmps45
  go_wp2_with fail
  go_loopw [5] (fun i wr => ∃ k : Nat, i = .int .i64 k ∧ k ≤ 7 ∧ Hid (∀ x ∈ ([102, 108, 109, 120, 121, 115, 111] : List UInt8).take k, c ≠ x) ∧ wr = w.alloc (.cells #[.int .u8 3, .int .u8 4, .int .u8 5, .int .u8 6, .int .u8 7, .int .u8 8, .int .u8 10] 5)) (fun i _ => 7 - (intOf i).toNat)
  case atStart => exact ⟨0, rfl, by omega, Lib.hid (by simp), rfl⟩
  case round =>
    obtain ⟨k, rfl, hk, HN, rfl⟩ := hrel
    have hb : Ext w (w.alloc (.cells #[.int .u8 3, .int .u8 4, .int .u8 5, .int .u8 6, .int .u8 7, .int .u8 8, .int .u8 10] 5)) := (Ext.refl _).alloc _
    by_cases e0 : k = 0
    · subst e0
      have hs : ∀ h, (⟨#[102, 108, 109, 120, 121, 115, 111]⟩ : ByteArray)[0]'h = (102 : UInt8) := fun _ => rfl
      by_cases hc : c = 102
      · have hv := Lib.hid (show kindR c = 3 by rw [hc]; decide)
        have hn : ((102 : Int) == (c.toNat : Int)) = true := by rw [hc]; rfl
        clear hc
        go_wp2_with fail
        go_ret
        exact ⟨by rw [hv.out]; rfl, hb⟩
      · have hne : ((c.toNat : Int) == 102) = false := by
          rw [beq_eq_false_iff_ne]
          intro h
          exact hc (UInt8.toNat_inj.1 (by rw [show (102 : UInt8).toNat = 102 from rfl]; omega))
        have hne2 : ((102 : Int) == (c.toNat : Int)) = false := by rw [beq_eq_false_iff_ne] at hne ⊢; omega
        have HN2 := Lib.hid (show ∀ x ∈ ([102, 108, 109, 120, 121, 115, 111] : List UInt8).take (0 + 1), c ≠ x from by
          intro x hx
          rw [show ([102, 108, 109, 120, 121, 115, 111] : List UInt8).take (0 + 1) = ([102, 108, 109, 120, 121, 115, 111] : List UInt8).take 0 ++ [102] from rfl] at hx
          rcases List.mem_append.1 hx with h | h
          · exact HN.out x h
          · rw [List.mem_singleton.1 h]; exact hc)
        clear hc HN
        go_wp2_with fail
        go_roundw
        case rel => exact ⟨0 + 1, rfl, by omega, HN2, by first | rfl | trivial⟩
        case measure => simp [intOf]
    by_cases e1 : k = 1
    · subst e1
      have hs : ∀ h, (⟨#[102, 108, 109, 120, 121, 115, 111]⟩ : ByteArray)[1]'h = (108 : UInt8) := fun _ => rfl
      by_cases hc : c = 108
      · have hv := Lib.hid (show kindR c = 4 by rw [hc]; decide)
        have hn : ((108 : Int) == (c.toNat : Int)) = true := by rw [hc]; rfl
        clear hc
        go_wp2_with fail
        go_ret
        exact ⟨by rw [hv.out]; rfl, hb⟩
      · have hne : ((c.toNat : Int) == 108) = false := by
          rw [beq_eq_false_iff_ne]
          intro h
          exact hc (UInt8.toNat_inj.1 (by rw [show (108 : UInt8).toNat = 108 from rfl]; omega))
        have hne2 : ((108 : Int) == (c.toNat : Int)) = false := by rw [beq_eq_false_iff_ne] at hne ⊢; omega
        have HN2 := Lib.hid (show ∀ x ∈ ([102, 108, 109, 120, 121, 115, 111] : List UInt8).take (1 + 1), c ≠ x from by
          intro x hx
          rw [show ([102, 108, 109, 120, 121, 115, 111] : List UInt8).take (1 + 1) = ([102, 108, 109, 120, 121, 115, 111] : List UInt8).take 1 ++ [108] from rfl] at hx
          rcases List.mem_append.1 hx with h | h
          · exact HN.out x h
          · rw [List.mem_singleton.1 h]; exact hc)
        clear hc HN
        go_wp2_with fail
        go_roundw
        case rel => exact ⟨1 + 1, rfl, by omega, HN2, by first | rfl | trivial⟩
        case measure => simp [intOf]
    by_cases e2 : k = 2
    · subst e2
      have hs : ∀ h, (⟨#[102, 108, 109, 120, 121, 115, 111]⟩ : ByteArray)[2]'h = (109 : UInt8) := fun _ => rfl
      by_cases hc : c = 109
      · have hv := Lib.hid (show kindR c = 5 by rw [hc]; decide)
        have hn : ((109 : Int) == (c.toNat : Int)) = true := by rw [hc]; rfl
        clear hc
        go_wp2_with fail
        go_ret
        exact ⟨by rw [hv.out]; rfl, hb⟩
      · have hne : ((c.toNat : Int) == 109) = false := by
          rw [beq_eq_false_iff_ne]
          intro h
          exact hc (UInt8.toNat_inj.1 (by rw [show (109 : UInt8).toNat = 109 from rfl]; omega))
        have hne2 : ((109 : Int) == (c.toNat : Int)) = false := by rw [beq_eq_false_iff_ne] at hne ⊢; omega
        have HN2 := Lib.hid (show ∀ x ∈ ([102, 108, 109, 120, 121, 115, 111] : List UInt8).take (2 + 1), c ≠ x from by
          intro x hx
          rw [show ([102, 108, 109, 120, 121, 115, 111] : List UInt8).take (2 + 1) = ([102, 108, 109, 120, 121, 115, 111] : List UInt8).take 2 ++ [109] from rfl] at hx
          rcases List.mem_append.1 hx with h | h
          · exact HN.out x h
          · rw [List.mem_singleton.1 h]; exact hc)
        clear hc HN
        go_wp2_with fail
        go_roundw
        case rel => exact ⟨2 + 1, rfl, by omega, HN2, by first | rfl | trivial⟩
        case measure => simp [intOf]
    by_cases e3 : k = 3
    · subst e3
      have hs : ∀ h, (⟨#[102, 108, 109, 120, 121, 115, 111]⟩ : ByteArray)[3]'h = (120 : UInt8) := fun _ => rfl
      by_cases hc : c = 120
      · have hv := Lib.hid (show kindR c = 6 by rw [hc]; decide)
        have hn : ((120 : Int) == (c.toNat : Int)) = true := by rw [hc]; rfl
        clear hc
        go_wp2_with fail
        go_ret
        exact ⟨by rw [hv.out]; rfl, hb⟩
      · have hne : ((c.toNat : Int) == 120) = false := by
          rw [beq_eq_false_iff_ne]
          intro h
          exact hc (UInt8.toNat_inj.1 (by rw [show (120 : UInt8).toNat = 120 from rfl]; omega))
        have hne2 : ((120 : Int) == (c.toNat : Int)) = false := by rw [beq_eq_false_iff_ne] at hne ⊢; omega
        have HN2 := Lib.hid (show ∀ x ∈ ([102, 108, 109, 120, 121, 115, 111] : List UInt8).take (3 + 1), c ≠ x from by
          intro x hx
          rw [show ([102, 108, 109, 120, 121, 115, 111] : List UInt8).take (3 + 1) = ([102, 108, 109, 120, 121, 115, 111] : List UInt8).take 3 ++ [120] from rfl] at hx
          rcases List.mem_append.1 hx with h | h
          · exact HN.out x h
          · rw [List.mem_singleton.1 h]; exact hc)
        clear hc HN
        go_wp2_with fail
        go_roundw
        case rel => exact ⟨3 + 1, rfl, by omega, HN2, by first | rfl | trivial⟩
        case measure => simp [intOf]
    by_cases e4 : k = 4
    · subst e4
      have hs : ∀ h, (⟨#[102, 108, 109, 120, 121, 115, 111]⟩ : ByteArray)[4]'h = (121 : UInt8) := fun _ => rfl
      by_cases hc : c = 121
      · have hv := Lib.hid (show kindR c = 7 by rw [hc]; decide)
        have hn : ((121 : Int) == (c.toNat : Int)) = true := by rw [hc]; rfl
        clear hc
        go_wp2_with fail
        go_ret
        exact ⟨by rw [hv.out]; rfl, hb⟩
      · have hne : ((c.toNat : Int) == 121) = false := by
          rw [beq_eq_false_iff_ne]
          intro h
          exact hc (UInt8.toNat_inj.1 (by rw [show (121 : UInt8).toNat = 121 from rfl]; omega))
        have hne2 : ((121 : Int) == (c.toNat : Int)) = false := by rw [beq_eq_false_iff_ne] at hne ⊢; omega
        have HN2 := Lib.hid (show ∀ x ∈ ([102, 108, 109, 120, 121, 115, 111] : List UInt8).take (4 + 1), c ≠ x from by
          intro x hx
          rw [show ([102, 108, 109, 120, 121, 115, 111] : List UInt8).take (4 + 1) = ([102, 108, 109, 120, 121, 115, 111] : List UInt8).take 4 ++ [121] from rfl] at hx
          rcases List.mem_append.1 hx with h | h
          · exact HN.out x h
          · rw [List.mem_singleton.1 h]; exact hc)
        clear hc HN
        go_wp2_with fail
        go_roundw
        case rel => exact ⟨4 + 1, rfl, by omega, HN2, by first | rfl | trivial⟩
        case measure => simp [intOf]
    by_cases e5 : k = 5
    · subst e5
      have hs : ∀ h, (⟨#[102, 108, 109, 120, 121, 115, 111]⟩ : ByteArray)[5]'h = (115 : UInt8) := fun _ => rfl
      by_cases hc : c = 115
      · have hv := Lib.hid (show kindR c = 8 by rw [hc]; decide)
        have hn : ((115 : Int) == (c.toNat : Int)) = true := by rw [hc]; rfl
        clear hc
        go_wp2_with fail
        go_ret
        exact ⟨by rw [hv.out]; rfl, hb⟩
      · have hne : ((c.toNat : Int) == 115) = false := by
          rw [beq_eq_false_iff_ne]
          intro h
          exact hc (UInt8.toNat_inj.1 (by rw [show (115 : UInt8).toNat = 115 from rfl]; omega))
        have hne2 : ((115 : Int) == (c.toNat : Int)) = false := by rw [beq_eq_false_iff_ne] at hne ⊢; omega
        have HN2 := Lib.hid (show ∀ x ∈ ([102, 108, 109, 120, 121, 115, 111] : List UInt8).take (5 + 1), c ≠ x from by
          intro x hx
          rw [show ([102, 108, 109, 120, 121, 115, 111] : List UInt8).take (5 + 1) = ([102, 108, 109, 120, 121, 115, 111] : List UInt8).take 5 ++ [115] from rfl] at hx
          rcases List.mem_append.1 hx with h | h
          · exact HN.out x h
          · rw [List.mem_singleton.1 h]; exact hc)
        clear hc HN
        go_wp2_with fail
        go_roundw
        case rel => exact ⟨5 + 1, rfl, by omega, HN2, by first | rfl | trivial⟩
        case measure => simp [intOf]
    by_cases e6 : k = 6
    · subst e6
      have hs : ∀ h, (⟨#[102, 108, 109, 120, 121, 115, 111]⟩ : ByteArray)[6]'h = (111 : UInt8) := fun _ => rfl
      by_cases hc : c = 111
      · have hv := Lib.hid (show kindR c = 10 by rw [hc]; decide)
        have hn : ((111 : Int) == (c.toNat : Int)) = true := by rw [hc]; rfl
        clear hc
        go_wp2_with fail
        go_ret
        exact ⟨by rw [hv.out]; rfl, hb⟩
      · have hne : ((c.toNat : Int) == 111) = false := by
          rw [beq_eq_false_iff_ne]
          intro h
          exact hc (UInt8.toNat_inj.1 (by rw [show (111 : UInt8).toNat = 111 from rfl]; omega))
        have hne2 : ((111 : Int) == (c.toNat : Int)) = false := by rw [beq_eq_false_iff_ne] at hne ⊢; omega
        have HN2 := Lib.hid (show ∀ x ∈ ([102, 108, 109, 120, 121, 115, 111] : List UInt8).take (6 + 1), c ≠ x from by
          intro x hx
          rw [show ([102, 108, 109, 120, 121, 115, 111] : List UInt8).take (6 + 1) = ([102, 108, 109, 120, 121, 115, 111] : List UInt8).take 6 ++ [111] from rfl] at hx
          rcases List.mem_append.1 hx with h | h
          · exact HN.out x h
          · rw [List.mem_singleton.1 h]; exact hc)
        clear hc HN
        go_wp2_with fail
        go_roundw
        case rel => exact ⟨6 + 1, rfl, by omega, HN2, by first | rfl | trivial⟩
        case measure => simp [intOf]
    obtain rfl : k = 7 := by omega
    have hv : kindR c = 0 := by
      have h9 := HN.out
      simp at h9
      obtain ⟨n1, n2, n3, n4, n5, n6, n7⟩ := h9
      simp [kindR, n1, n2, n3, n4, n5, n6, n7]
    have HV := Lib.hid hv
    clear hv
    go_wp2_with fail
    go_ret
    exact ⟨by rw [HV.out]; rfl, hb⟩
end Go.Proofs.YtpcefmopoceiiaaGreatDoor
