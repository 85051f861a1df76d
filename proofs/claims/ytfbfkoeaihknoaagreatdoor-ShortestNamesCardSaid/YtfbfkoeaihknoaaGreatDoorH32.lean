/- The reader of terms: its state; take and until. -/
import Derived.Test.YtfbfkoeaihknoaaGreatDoorH28
import Derived.Test.YtfbfkoeaihknoaaGreatDoorH31
import Derived.Test.YtfbfkoeaihknoaaGreatDoorH03
import Derived.Lib.AtoiAll
import Derived.Test.YtfbfkoeaihknoaaGreatDoorH30
namespace Go.Proofs.YtfbfkoeaihknoaaGreatDoor
set_option maxRecDepth 100000
set_option maxRecDepth 100000
open Go.RowKit Go.ChangeShapes Go.WideShapes Go.Joins
/-- the number of a string, as Atoi takes it -/
def atoiO (l : List UInt8) : Option Int := match Lib.atoiAll l with
  | .ok v => some v
  | _ => none
theorem atoi_yes {l : List UInt8} {v : Int} (h : atoiO l = some v) (hl : l.length ≤ 1000000) (w : World) :
    Calls Tryz.prog 82 #[.string ⟨l.toArray⟩] w fun e w' => e = .returned (.tuple #[.int .i64 v, .nilIface]) ∧ Ext w w' := by
  have h1 : Lib.atoiAll l = .ok v := by
    unfold atoiO at h
    split at h
    · rename_i v' h2
      cases h
      exact h2
    · cases h
  refine (Tryz.strconv_Atoi_ok ⟨l.toArray⟩ (by rw [str_size]; omega) v (by rw [str_data]; exact h1) w).mono ?_
  rintro e w' ⟨rfl, h2⟩
  refine ⟨rfl, ?_⟩
  rcases h2 with rfl | ⟨t, rfl⟩
  · exact Ext.refl _
  · exact Lib.bytesWorld_below _ _ _
theorem atoi_no {l : List UInt8} (h : atoiO l = none) (hl : l.length ≤ 1000000) (w : World) (hg : Glob w) :
    Calls Tryz.prog 82 #[.string ⟨l.toArray⟩] w fun e w' => ∃ (v : Int) (te : TypeId) (p : Addr), e = .returned (.tuple #[.int .i64 v, .iface te (.pointer (some p))]) ∧ Ext w w' := by
  cases h1 : Lib.atoiAll l
  · unfold atoiO at h
    rw [h1] at h
    cases h
  · obtain ⟨tp, p, hv⟩ := hg.syn
    refine (Any.strconv_Atoi_syntax_var Tryz.laysC172 ⟨l.toArray⟩ (by rw [str_size]; omega) (by rw [str_data]; exact h1) tp p w hv).mono ?_
    rintro e w' ⟨N, rfl, _, _, hb⟩
    exact ⟨_, _, _, rfl, hb⟩
  · obtain ⟨tp, p, hv⟩ := hg.rng
    refine (Tryz.strconv_Atoi_range_var ⟨l.toArray⟩ (by rw [str_size]; omega) (by rw [str_data]; exact h1) tp p w hv).mono ?_
    rintro e w' ⟨N, rfl, _, _, hb⟩
    exact ⟨_, _, _, rfl, hb⟩
def atOk (k : Nat) : Bool := decide (atoiO (decD k) = some (k : Int))
theorem ats_ok : (List.range 201).all atOk = true := by decide +kernel
theorem at_hat : ∀ k : Nat, 2 ≤ k → k ≤ 200 → atoiO (decD k) = some (k : Int) := fun k _ h2 => by
  have h1 := List.all_eq_true.1 ats_ok k (List.mem_range.2 (by omega))
  simpa [atOk] using h1
/-- nothing is asked of the bytes (at first they were to be below 128) -/
def Asc (_ : List UInt8) : Prop := True
theorem Asc.suf {s r : List UInt8} (_ : Asc s) (_ : r <:+ s) : Asc r := trivial
theorem stop_in (x : UInt8) : ([32, 40, 41, 42] : List UInt8).contains x = isStop x := by
  unfold isStop
  simp only [List.contains_cons, List.contains_nil, Bool.or_false, Bool.or_assoc]
theorem until_app : ∀ s : List UInt8, (untilS s).1 ++ (untilS s).2 = s := by
  intro s
  induction s with
  | nil => rfl
  | cons x l ih =>
    rw [untilS]
    split
    · rfl
    · simp [ih]
theorem until_suf (s : List UInt8) : (untilS s).2 <:+ s := ⟨(untilS s).1, until_app s⟩
theorem until_ge (s : List UInt8) : Lib.indexAny s [32, 40, 41, 42] = if (untilS s).2 = [] then -1 else ((untilS s).1.length : Int) := by
  induction s with
  | nil => rfl
  | cons x l ih =>
    rw [Lib.indexAny, stop_in, untilS]
    by_cases h : isStop x = true
    · rw [if_pos h, if_pos h]
      simp
    · rw [if_neg h, if_neg h, ih]
      by_cases h2 : (untilS l).2 = []
      · simp [h2]
      · rw [if_neg h2]
        simp only [h2, if_false]
        have : ¬ (((untilS l).1.length : Int) == -1) = true := by simp
        rw [if_neg this]
        simp
theorem until_end {s : List UInt8} (h : (untilS s).2 = []) : (untilS s).1 = s := by
  have := until_app s
  rw [h, List.append_nil] at this
  exact this
/-- a reader in memory -/
def RdAt (w : World) (g : Nat) (s : List UInt8) (d : Int) : Prop := w.heap[g]? = some (.cells #[.string ⟨s.toArray⟩, .int .i64 d] 93 (0, 0))
theorem RdAt.ext {w w' : World} {g : Nat} {s : List UInt8} {d : Int} (h : RdAt w g s d) (hb : Ext w w') : RdAt w' g s d := by
  unfold RdAt
  rw [hb.block g (Array.getElem?_eq_some_iff.1 h).1]
  exact h
theorem RdAt.lt {w : World} {g : Nat} {s : List UInt8} {d : Int} (h : RdAt w g s d) : g < w.heap.size := (Array.getElem?_eq_some_iff.1 h).1
theorem RdAt.facts {w : World} {g : Nat} {s : List UInt8} {d : Int} (h : RdAt w g s d) : w.cell? ⟨g, 0, none⟩ = some (.string ⟨s.toArray⟩) ∧ w.cell? ⟨g, 1, none⟩ = some (.int .i64 d) ∧ w.frozen? ⟨g, 0, none⟩ = false ∧ w.frozen? ⟨g, 1, none⟩ = false ∧ g < w.heap.size :=
  ⟨by rw [cell_of_row w g _ _ _ (0, 0) h]; rfl, by rw [cell_of_row w g _ _ _ (0, 0) h]; rfl, frozen_of_row w g _ _ _ h, frozen_of_row w g _ _ _ h, h.lt⟩
theorem RdAt.set0 {w : World} {g : Nat} {s : List UInt8} {d : Int} (h : RdAt w g s d) (r : List UInt8) : RdAt (w.setCell ⟨g, 0, none⟩ (.string ⟨r.toArray⟩)) g r d := heap_setCell_same w g 0 _ _ _ h
theorem RdAt.set1 {w : World} {g : Nat} {s : List UInt8} {d : Int} (h : RdAt w g s d) (e : Int) : RdAt (w.setCell ⟨g, 1, none⟩ (.int .i64 e)) g s e := heap_setCell_same w g 1 _ _ _ h
/-- what take returns, and leaves -/
def hitB (x : UInt8) : List UInt8 → Bool
  | [] => false
  | y :: _ => y == x
def hitR (x : UInt8) : List UInt8 → List UInt8
  | [] => []
  | y :: r => if y == x then r else y :: r
def TakeR (g : Nat) (x : UInt8) (s : List UInt8) (d : Int) (w : World) (e : Ending) (w' : World) : Prop := e = .returned (.bool (hitB x s)) ∧ RdAt w' g (hitR x s) d ∧ But (some g) w w'
theorem hit_suf (x : UInt8) (s : List UInt8) : hitR x s <:+ s := by
  cases s with
  | nil => exact List.suffix_refl _
  | cons y r =>
    rw [hitR]
    split
    · exact ⟨[y], rfl⟩
    · exact List.suffix_refl _
set_option maxHeartbeats 2000000 in
theorem take_any (x : UInt8) (c : Int) (hc : (x.toNat : Int) = c) (g : Nat) (s : List UInt8) (d : Int) (w : World) (h : RdAt w g s d) (hl : s.length ≤ 100000) :
    Calls Tryz.prog 67 #[.pointer (some ⟨g, 0, none⟩), .int .u8 c] w (TakeR g x s d w) := by
  have HR := Lib.hid h
  obtain ⟨c0, c1, f0, f1, hz⟩ := h.facts
  clear h
  cases s with
  | nil =>
    go_enter Tryz.func67, Tryz.ntmps67
    go_wp2_with fail
    go_ret
    exact ⟨rfl, HR.out.ext (by repeat (first | exact Ext.refl _ | assumption | refine Ext.alloc ?_ _ | refine Ext.drew ?_ | refine Ext.drewN ?_ _ | refine Ext.trans ?_ (by assumption))), But.of_ext (by repeat (first | exact Ext.refl _ | assumption | refine Ext.alloc ?_ _ | refine Ext.drew ?_ | refine Ext.drewN ?_ _ | refine Ext.trans ?_ (by assumption))) _⟩
  | cons y r =>
    have hn : ((((y :: r).length : Nat) : Int) == 0) = false := by rw [beq_eq_false_iff_ne]; simp; omega
    have hi : ∀ h : 0 < (y :: r).length, (⟨(y :: r).toArray⟩ : ByteArray)[0]'(by rw [str_size]; exact h) = y := fun _ => rfl
    by_cases hx : y = x
    · subst hx
      subst hc
      have HH := Lib.hid (show hitB y (y :: r) = true ∧ hitR y (y :: r) = r by simp [hitB, hitR])
      have hex : (⟨(y :: r).toArray⟩ : ByteArray).extract 1 (r.length + 1) = ⟨r.toArray⟩ := str_extD (y :: r) 1 (r.length + 1) (by simp)
      go_enter Tryz.func67, Tryz.ntmps67
      go_wp2_with fail
      go_ret
      exact ⟨by rw [HH.out.1]; rfl, by rw [HH.out.2]; exact HR.out.set0 r, (But.refl _ _).own rfl _⟩
    · have HH := Lib.hid (show hitB x (y :: r) = false ∧ hitR x (y :: r) = y :: r by simp [hitB, hitR, hx])
      have hne : (((y.toNat : Nat) : Int) != c) = true := by
        rw [← hc]
        simp
        intro e
        apply hx
        exact UInt8.toNat_inj.1 (by omega)
      go_enter Tryz.func67, Tryz.ntmps67
      go_wp2_with fail
      go_ret
      exact ⟨by rw [HH.out.1]; rfl, by rw [HH.out.2]; exact HR.out, But.refl _ _⟩
/-- where the word ends -/
theorem idx_any (s : List UInt8) (_ : Asc s) (hl : s.length ≤ 100000) (w : World) :
    Calls Tryz.prog 95 #[.string ⟨s.toArray⟩, .string ⟨#[32, 40, 41, 42]⟩] w fun e w' => e = .returned (.int .i64 (if (untilS s).2 = [] then -1 else ((untilS s).1.length : Int))) ∧ Ext w w' := by
  have h := idx4_any s (by omega) w
  rw [until_ge] at h
  exact h
def UntilR (g : Nat) (s : List UInt8) (d : Int) (w : World) (e : Ending) (w' : World) : Prop := e = .returned (.string ⟨(untilS s).1.toArray⟩) ∧ RdAt w' g (untilS s).2 d ∧ But (some g) w w'
set_option maxHeartbeats 2000000 in
theorem until_any (g : Nat) (s : List UInt8) (d : Int) (w : World) (h : RdAt w g s d) (ha : Asc s) (hl : s.length ≤ 100000) :
    Calls Tryz.prog 81 #[.pointer (some ⟨g, 0, none⟩), .string ⟨#[32, 40, 41, 42]⟩] w (UntilR g s d w) := by
  have HR := Lib.hid h
  obtain ⟨c0, c1, f0, f1, hz⟩ := h.facts
  have HI := Lib.hid (fun (w' : World) => idx_any s ha hl w')
  clear h ha
  have happ := until_app s
  obtain ⟨X, hX⟩ : ∃ X, (untilS s).1 = X := ⟨_, rfl⟩
  obtain ⟨Y, hY⟩ : ∃ Y, (untilS s).2 = Y := ⟨_, rfl⟩
  rw [hX, hY] at happ
  by_cases h0 : Y = []
  · subst h0
    rw [List.append_nil] at happ
    subst happ
    have HXY := Lib.hid (And.intro hX hY)
    have HI2 := Lib.hid (fun (w' : World) => (show Calls Tryz.prog 95 #[.string ⟨X.toArray⟩, .string ⟨#[32, 40, 41, 42]⟩] w' fun e w'' => e = .returned (.int .i64 (-1)) ∧ Ext w' w'' from by
      have h9 := HI.out w'
      rw [hY, if_pos rfl] at h9
      exact h9))
    have e0 : (⟨X.toArray⟩ : ByteArray).extract 0 X.length = ⟨X.toArray⟩ := by rw [str_ext0, List.take_of_length_le (Nat.le_refl _)]
    have e1 : (⟨X.toArray⟩ : ByteArray).extract X.length X.length = ⟨([] : List UInt8).toArray⟩ := by rw [str_extD X X.length X.length (Nat.le_refl _), List.drop_of_length_le (Nat.le_refl _)]
    clear hX hY HI
    go_enter Tryz.func81, Tryz.ntmps81
    go_wp2_with (first
      | (go_at_call 95; go_loud ((with_reducible refine (HI2.out _).mono ?_); rintro e w1 ⟨rfl, hq1⟩; obtain ⟨x0, x1, x2, x3, x4⟩ := (HR.out.ext hq1).facts; have HQ := Lib.hid hq1)))
    go_ret
    exact ⟨by rw [HXY.out.1]; rfl, by rw [HXY.out.2]; exact (HR.out.ext HQ.out).set0 [], (But.of_ext HQ.out _).own rfl _⟩
  · have hlen : s.length = X.length + Y.length := by rw [← happ, List.length_append]
    have HXY := Lib.hid (And.intro hX hY)
    have HI2 := Lib.hid (fun (w' : World) => (show Calls Tryz.prog 95 #[.string ⟨s.toArray⟩, .string ⟨#[32, 40, 41, 42]⟩] w' fun e w'' => e = .returned (.int .i64 (X.length : Int)) ∧ Ext w' w'' from by
      have h9 := HI.out w'
      rw [hY, if_neg h0, hX] at h9
      exact h9))
    have e0 : (⟨s.toArray⟩ : ByteArray).extract 0 X.length = ⟨X.toArray⟩ := by rw [str_ext0, ← happ, List.take_left]
    have e1 : (⟨s.toArray⟩ : ByteArray).extract X.length (X.length + Y.length) = ⟨Y.toArray⟩ := by rw [str_extD s X.length (X.length + Y.length) (by omega), ← happ, List.drop_left]
    have b1 : (X.length : Int) ≤ (s.length : Int) := by omega
    have b2 : (0 : Int) ≤ (X.length : Int) := by omega
    have b3 : ¬ ((X.length : Int) < 0) := by omega
    clear hX hY HI happ h0
    go_enter Tryz.func81, Tryz.ntmps81
    go_wp2_with (first
      | (go_at_call 95; go_loud ((with_reducible refine (HI2.out _).mono ?_); rintro e w1 ⟨rfl, hq1⟩; obtain ⟨x0, x1, x2, x3, x4⟩ := (HR.out.ext hq1).facts; have HQ := Lib.hid hq1)))
    go_ret
    exact ⟨by rw [HXY.out.1]; rfl, by rw [HXY.out.2]; exact (HR.out.ext HQ.out).set0 Y, (But.of_ext HQ.out _).own rfl _⟩
end Go.Proofs.YtfbfkoeaihknoaaGreatDoor
/- The reader of terms in plain Lean: its steps by what is taken. -/
namespace Go.Proofs.YtfbfkoeaihknoaaGreatDoor
set_option maxRecDepth 100000
theorem rdN_hit (at_ : List UInt8 → Option Int) (c : St) (g : Tms) (s : List UInt8) : rdN at_ c g s = if hitB 42 s = true then (at_ (untilS (hitR 42 s)).1).map (fun n => ((n, c, g), (untilS (hitR 42 s)).2)) else some ((1, c, g), s) := by
  cases s with
  | nil => rfl
  | cons y r =>
    by_cases h : y = 42
    · subst h
      rw [rdN]
      simp only [hitB, hitR, beq_self_eq_true, if_true]
      cases at_ (untilS r).1 <;> rfl
    · have h1 : hitB 42 (y :: r) = false := by simp [hitB, h]
      rw [h1, if_neg (by simp), rdN]
      intro s e
      cases e
      exact h rfl
theorem rdT_grp (at_ : List UInt8 → Option Int) (f d : Nat) (s1 : List UInt8) : rdT at_ (f + 1) d (40 :: s1) = if 8 < d + 1 then none else (rdL at_ f (d + 1) s1).bind fun x => if hitB 41 x.2 = true then rdN at_ st0 x.1 (hitR 41 x.2) else none := by
  rw [rdT]
  split
  · rfl
  · cases h : rdL at_ f (d + 1) s1 with
    | none => rfl
    | some x =>
      obtain ⟨g, r⟩ := x
      rw [Option.bind_some]
      cases r with
      | nil => rfl
      | cons y r =>
        by_cases h : y = 41
        · subst h; simp [hitB, hitR]
        · have h1 : hitB 41 (y :: r) = false := by simp [hitB, h]
          simp only [h1]
          split
          · rename_i e
            cases e
            exact absurd rfl h
          · rfl
theorem rdT_word (at_ : List UInt8 → Option Int) (f d : Nat) {s : List UInt8} (h : hitB 40 s = false) : rdT at_ (f + 1) d s = match parseL (untilS s).1 with
    | some [c] => rdN at_ c .nil (untilS s).2
    | _ => none := by
  rw [rdT]
  · rfl
  · intro s1 e
    rw [e] at h
    simp [hitB] at h
theorem rdL_step (at_ : List UInt8 → Option Int) (f d : Nat) (s : List UInt8) : rdL at_ (f + 1) d s = (rdT at_ f d s).bind fun x => if hitB 32 x.2 = true then (rdL at_ f d (hitR 32 x.2)).map (fun y => (Tms.cons x.1.1 x.1.2.1 x.1.2.2 y.1, y.2)) else some (Tms.cons x.1.1 x.1.2.1 x.1.2.2 .nil, x.2) := by
  rw [rdL]
  cases h : rdT at_ f d s with
  | none => rfl
  | some x =>
    obtain ⟨⟨n, c, g⟩, r⟩ := x
    rw [Option.bind_some]
    cases r with
    | nil => rfl
    | cons y r =>
      by_cases h : y = 32
      · subst h; simp [hitB, hitR]
      · have h1 : hitB 32 (y :: r) = false := by simp [hitB, h]
        simp only [h1]
        split
        · rename_i e; cases e
        · rename_i e; cases e; exact absurd rfl h
        · rename_i e; cases e; rfl
end Go.Proofs.YtfbfkoeaihknoaaGreatDoor
