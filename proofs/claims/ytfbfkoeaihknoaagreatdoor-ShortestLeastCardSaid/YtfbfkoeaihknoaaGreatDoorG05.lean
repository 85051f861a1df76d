/- The finder of the shortest list: small facts for list. -/
import Derived.Test.YtfbfkoeaihknoaaGreatDoorG04
import Derived.Test.YtfbfkoeaihknoaaGreatDoorG00
import Derived.Test.YtfbfkoeaihknoaaGreatDoorG02
import Derived.Deep.QuietTactic
import Derived.BigQuiet
import Derived.Laws.Small
import Derived.Deep.RegionHeld3
import Derived.Deep.DeepCutAuto
namespace Go.Proofs.YtfbfkoeaihknoaaGreatDoor
set_option maxRecDepth 100000
set_option maxRecDepth 100000
open Go.RowKit Go.ChangeShapes Go.WideShapes Go.Joins
/-- a world from which, one block apart, the later one has only grown -/
theorem But.base {g : Nat} {w w' : World} (h : But (some g) w w') : ∃ wk : World, wk.heap.size = w.heap.size ∧ Ext wk w' := by
  by_cases hg : g < w.heap.size
  · have hg2 : g < w'.heap.size := Nat.lt_of_lt_of_le hg h.size
    refine ⟨{ w with heap := w.heap.modify g (fun _ => w'.heap[g]) }, by simp, ⟨h.os, h.tape, h.output, by simpa using h.size, fun k hk => ?_⟩⟩
    have hk2 : k < w.heap.size := by simpa using hk
    show w'.heap[k]? = (w.heap.modify g (fun _ => w'.heap[g]))[k]?
    rw [Array.getElem?_modify]
    by_cases e : g = k
    · subst e
      simp [hg, hg2]
    · rw [if_neg e]
      exact h.block k hk2 (by intro e9; cases e9; exact e rfl)
  · exact ⟨w, rfl, ⟨h.os, h.tape, h.output, h.size, fun k hk => h.block k hk (by intro e9; cases e9; omega)⟩⟩
/-- the table is empty, or right, whatever the length -/
theorem Least.all {l : List St} {g n c a m : Nat} {A : Option Addr} {tab tab' : Nat → Nat → Chc} {w w' : World} (h : Least l g n c A tab a m w w' tab') (hok : ∀ N, TabOk l tab N) : ∀ N, TabOk l tab' N := by
  intro N x y h1 h2 h3
  by_cases hy : y ≤ m
  · exact h.ok x y h1 hy h3
  · rw [h.up x y (by omega)]
    exact hok N x y h1 h2 h3
/-- the empty table -/
theorem TabOk.empty (l : List St) (N : Nat) : TabOk l (fun _ _ => ⟨0, 0, 0⟩) N := fun _ _ _ _ _ => .inl rfl
end Go.Proofs.YtfbfkoeaihknoaaGreatDoor
/- The finder's zero value: its cells. -/
namespace Go.Proofs.YtfbfkoeaihknoaaGreatDoor
set_option maxRecDepth 100000
set_option maxRecDepth 100000
open Go.RowKit Go.ChangeShapes Go.WideShapes Go.Joins
def isZ : Value → Bool
  | .int .i64 v => v == 0
  | _ => false
def finderOk : Option Value → Bool
  | some (.agg cs) => cs.size == 10981 && (cs.toList.drop 1).all isZ
  | _ => false
theorem finder_ok : finderOk ((Tryz.prog.info? 79).bind (·.zero)) = true := by decide +kernel
theorem isZ_e {v : Value} (h : isZ v = true) : v = .int .i64 0 := by
  unfold isZ at h
  split at h
  · rename_i x
    have : x = 0 := by simpa using h
    rw [this]
  · cases h
theorem zero_finder (w : World) : ∃ Z : Array Value, Sem.run Tryz.prog (zeroValue 79) w = .ok (.agg Z) w ∧ Z.size = 10981 ∧ ∀ i, 1 ≤ i → i < 10981 → Z[i]? = some (.int .i64 0) := by
  have h := finder_ok
  cases hi : Tryz.prog.info? 79 with
  | none => rw [hi] at h; cases h
  | some i0 =>
    rw [hi] at h
    cases hz : i0.zero with
    | none => rw [Option.bind_some, hz] at h; cases h
    | some z =>
      rw [Option.bind_some, hz] at h
      cases z with
      | agg cs =>
        simp only [finderOk, Bool.and_eq_true, beq_iff_eq, List.all_eq_true] at h
        refine ⟨cs, ?_, h.1, fun i h1 h2 => ?_⟩
        · simp [zeroValue, typeInfo, hi, hz, go_sem]
        · have hlt : i < cs.size := by omega
          rw [Array.getElem?_eq_getElem hlt]
          have hm : cs[i] ∈ cs.toList.drop 1 := by
            rw [List.mem_iff_getElem]
            refine ⟨i - 1, by simp; omega, ?_⟩
            rw [List.getElem_drop]
            simp only [Array.getElem_toList]
            congr 1
            omega
          rw [isZ_e (h.2 _ hm)]
      | _ => cases h
end Go.Proofs.YtfbfkoeaihknoaaGreatDoor
/- A finder just made: its table is empty. -/
namespace Go.Proofs.YtfbfkoeaihknoaaGreatDoor
set_option maxRecDepth 100000
set_option maxRecDepth 100000
open Go.RowKit Go.ChangeShapes Go.WideShapes Go.Joins
theorem FAt.new_ (w : World) {Z : Array Value} {t : TypeId} (A : Option Addr) (n c : Nat) (hs : Z.size = 10981) (hz : ∀ i, 1 ≤ i → i < 10981 → Z[i]? = some (.int .i64 0)) :
    FAt (w.alloc (.cells (Z.setIfInBounds 0 (.slice A n c)) t)) w.heap.size n c A (fun _ _ => ⟨0, 0, 0⟩) := by
  have h : (w.alloc (.cells (Z.setIfInBounds 0 (.slice A n c)) t)).heap[w.heap.size]? = some (.cells (Z.setIfInBounds 0 (.slice A n c)) t) := heap_alloc_new w _
  refine ⟨?_, fun o => ?_, fun a m i ha hm hi => ?_⟩
  · rw [cell_of_row _ w.heap.size 0 _ t (0, 0) h]
    simp [hs]
  · simp [go_sem]
  · rw [cell_of_row _ w.heap.size _ _ t (0, 0) h, Array.getElem?_setIfInBounds, if_neg (by omega), hz _ (by omega) (by omega)]
    match i, hi with
    | 0, _ => rfl
    | 1, _ => rfl
    | 2, _ => rfl
end Go.Proofs.YtfbfkoeaihknoaaGreatDoor
/- Lists of terms in memory. -/
namespace Go.Proofs.YtfbfkoeaihknoaaGreatDoor
set_option maxRecDepth 100000
open Go.RowKit Go.ChangeShapes Go.WideShapes Go.Joins
/-- the cells from this place on hold these terms, one behind the other -/
def TAt (w : World) : Tms → Nat → Nat → Prop
  | .nil, _, _ => True
  | .cons N c g r, b, off => ∃ (A : Option Addr) (n cap : Nat), w.cell? ⟨b, off, none⟩ = some (.int .i64 N) ∧ w.cell? ⟨b, off + 1, none⟩ = some (.int .u8 c.k) ∧ w.cell? ⟨b, off + 2, none⟩ = some (.bool c.p) ∧
      w.cell? ⟨b, off + 3, none⟩ = some (.int .i64 c.a) ∧ w.cell? ⟨b, off + 4, none⟩ = some (.int .i64 c.b) ∧ w.cell? ⟨b, off + 5, none⟩ = some (.slice A n cap) ∧ (0 ≤ c.k ∧ c.k ≤ 255) ∧
      g.cnt = n ∧ n ≤ maxLen ∧ (0 < n → ∃ b' off', A = some ⟨b', off', none⟩ ∧ b' < w.heap.size ∧ TAt w g b' off') ∧ TAt w r b (off + 6)
/-- the slice with this address and length reads as these terms -/
def Tv (w : World) (A : Option Addr) (n : Nat) (t : Tms) : Prop := t.cnt = n ∧ n ≤ maxLen ∧ (0 < n → ∃ b off, A = some ⟨b, off, none⟩ ∧ b < w.heap.size ∧ TAt w t b off)
theorem TAt.ext {w w' : World} (hb : Ext w w') : ∀ {t : Tms} {b off : Nat}, b < w.heap.size → TAt w t b off → TAt w' t b off := by
  intro t
  induction t with
  | nil => intro b off _ _; trivial
  | cons N c g r ih1 ih2 =>
    intro b off hlt ⟨A, n, cap, h0, h1, h2, h3, h4, h5, hk, hn, hm, hg, hr⟩
    have hc : ∀ o, w'.cell? ⟨b, o, none⟩ = w.cell? ⟨b, o, none⟩ := fun o => Below.cell (p := ⟨b, o, none⟩) hb hlt
    refine ⟨A, n, cap, (hc _).trans h0, (hc _).trans h1, (hc _).trans h2, (hc _).trans h3, (hc _).trans h4, (hc _).trans h5, hk, hn, hm, fun h => ?_, ih2 hlt hr⟩
    obtain ⟨b', off', e, hlt', hg'⟩ := hg h
    exact ⟨b', off', e, Nat.lt_of_lt_of_le hlt' (Below.size hb), ih1 hlt' hg'⟩
theorem Tv.ext {w w' : World} {A : Option Addr} {n : Nat} {t : Tms} (h : Tv w A n t) (hb : Ext w w') : Tv w' A n t :=
  ⟨h.1, h.2.1, fun hn => by
    obtain ⟨b, off, e, hlt, hc⟩ := h.2.2 hn
    exact ⟨b, off, e, Nat.lt_of_lt_of_le hlt (Below.size hb), TAt.ext hb hlt hc⟩⟩
theorem Tv.none_ (w : World) (A : Option Addr) : Tv w A 0 .nil := ⟨rfl, by unfold maxLen; omega, fun h => absurd h (by omega)⟩
theorem cnt_nil {t : Tms} (h : t.cnt = 0) : t = .nil := by
  cases t with
  | nil => rfl
  | cons => simp [Tms.cnt] at h
/-- the first of some terms -/
theorem TAt.head {w : World} {N : Int} {c : St} {g r : Tms} {b off : Nat} (h : TAt w (.cons N c g r) b off) :
    ∃ (A : Option Addr) (n cap : Nat), w.cell? ⟨b, off, none⟩ = some (.int .i64 N) ∧ w.cell? ⟨b, off + 1, none⟩ = some (.int .u8 c.k) ∧ w.cell? ⟨b, off + 2, none⟩ = some (.bool c.p) ∧
      w.cell? ⟨b, off + 3, none⟩ = some (.int .i64 c.a) ∧ w.cell? ⟨b, off + 4, none⟩ = some (.int .i64 c.b) ∧ w.cell? ⟨b, off + 5, none⟩ = some (.slice A n cap) ∧ (0 ≤ c.k ∧ c.k ≤ 255) ∧ Tv w A n g ∧ TAt w r b (off + 6) := by
  obtain ⟨A, n, cap, h0, h1, h2, h3, h4, h5, hk, hn, hm, hg, hr⟩ := h
  exact ⟨A, n, cap, h0, h1, h2, h3, h4, h5, hk, ⟨hn, hm, hg⟩, hr⟩
section
variable {H : Type} {enc : TypeId × Value → H} {w : World} {base : Nat} {spare : Nat → Bool} {held : Bool}
theorem one_term {fuel : Nat} {cs : List Value} {y : DataW H × List MemPlace} (hl : cs.length = 6) (hy : DataW.trod enc Tryz.prog w base spare held fuel 48 cs = some y) :
    ∃ (N : Int) (c : St) (v : Value) (m : Nat) (z : DataW H × List MemPlace), cs = [.int .i64 N, .int .u8 c.k, .bool c.p, .int .i64 c.a, .int .i64 c.b, v] ∧ (0 ≤ c.k ∧ c.k ≤ 255) ∧ fuel = m + 1 ∧
      DataW.trod enc Tryz.prog w base spare held m 22 [v] = some z := by
  obtain ⟨xs, m, hfu, _, _, hxl, hel⟩ := DataW.trod_struct Tryz.underlying48 hy
  match cs, hl with
  | [c0, c1, c2, c3, c4, c5], _ =>
    match xs, hxl with
    | [y0, y1, y2], _ =>
      have C0 : Tryz.prog.cellsOf 5 = 1 := by kernel_rfl
      have C1 : Tryz.prog.cellsOf 4 = 1 := by kernel_rfl
      have C2 : Tryz.prog.cellsOf 3 = 1 := by kernel_rfl
      have C3 : Tryz.prog.cellsOf 39 = 4 := by kernel_rfl
      have C4 : Tryz.prog.cellsOf 22 = 1 := by kernel_rfl
      have h0 := hel 0 _ rfl
      have h1 := hel 1 _ rfl
      have h2 := hel 2 _ rfl
      simp [C2, C3, C4] at h0 h1 h2
      obtain ⟨N, e0, _, _⟩ := DataW.trod_int Tryz.underlying3 h0
      obtain ⟨ys, m', _, _, _, hyl, hel'⟩ := DataW.trod_struct Tryz.underlying39 h1
      match ys, hyl with
      | [z0, z1, z2, z3], _ =>
        have k0 := hel' 0 _ rfl
        have k1 := hel' 1 _ rfl
        have k2 := hel' 2 _ rfl
        have k3 := hel' 3 _ rfl
        simp [C0, C1, C2] at k0 k1 k2 k3
        obtain ⟨n0, e1, _, wf0⟩ := DataW.trod_int Tryz.underlying5 k0
        have hwf := bounds_u8 wf0
        obtain ⟨n1, e2, _⟩ := DataW.trod_bool Tryz.underlying4 k1
        obtain ⟨n2, e3, _⟩ := DataW.trod_int Tryz.underlying3 k2
        obtain ⟨n3, e4, _⟩ := DataW.trod_int Tryz.underlying3 k3
        simp at e0 e1 e2 e3 e4
        subst e0 e1 e2 e3 e4
        exact ⟨N, ⟨n0, n1, n2, n3⟩, c5, m, y2, rfl, hwf, hfu, h2⟩
theorem open_tms : ∀ (fuel : Nat) (v : Value) (y : DataW H × List MemPlace), DataW.trod enc Tryz.prog w base spare held fuel 22 [v] = some y → ∃ (A : Option Addr) (n cap : Nat) (t : Tms), v = .slice A n cap ∧ Tv w A n t := by
  intro fuel
  induction fuel using Nat.strongRecOn with
  | ind fuel ih =>
    intro v y h
    rcases DataW.trod_slice Tryz.underlying22 h with h0 | ⟨a, len, cap', elems, rest, m, hfu, hcs, _, hb, hl, hm, hlen, hel, _, _⟩
    · obtain ⟨h1, _⟩ := h0
      simp only [List.cons.injEq, and_true] at h1
      exact ⟨none, 0, 0, .nil, h1, Tv.none_ _ _⟩
    · simp only [List.cons.injEq, and_true] at hcs
      have hC : Tryz.prog.cellsOf 48 = 6 := by kernel_rfl
      rw [hC] at hel
      have one : ∀ i, i < len → ∃ (N : Int) (c : St) (A : Option Addr) (n cap : Nat) (g : Tms), (0 ≤ c.k ∧ c.k ≤ 255) ∧ Tv w A n g ∧ a.block < w.heap.size ∧
          ∀ j u, [Value.int .i64 N, .int .u8 c.k, .bool c.p, .int .i64 c.a, .int .i64 c.b, .slice A n cap][j]? = some u → w.cell? (a.add (i * 6 + j)) = some u := by
        intro i hi
        have he := hel i hi
        rw [List.getElem?_eq_getElem (by omega)] at he
        obtain ⟨cs', hc1, hc2⟩ := Option.bind_eq_some_iff.1 he
        obtain ⟨hbk, hc3, hc4⟩ := World.cells?_some hc1
        obtain ⟨N, c, v', m', z, rfl, hk, hf, hz⟩ := one_term hc3 hc2
        obtain ⟨A, n, cap, g, rfl, hg⟩ := ih m' (by omega) v' z hz
        refine ⟨N, c, A, n, cap, g, hk, hg, ?_, fun j u hu => ?_⟩
        · have h1 := World.block_lt_of_cell? w _ (hc4 0 (by omega))
          have e : ∀ (a : Addr) k, (a.add k).block = a.block := fun a k => by unfold Addr.add; split <;> rfl
          rw [e, e] at h1
          exact h1
        · have hj : j < 6 := (List.getElem?_eq_some_iff.1 hu).1
          rw [← Go.Deep.add_add, hc4 j hj]
          exact hu
      cases len with
      | zero => exact ⟨some a, 0, cap', .nil, hcs, Tv.none_ _ _⟩
      | succ len =>
        obtain ⟨N0, c0, A0, n0, cap0, g0, _, _, hbk, hu0⟩ := one 0 (by omega)
        have h1 := hu0 0 _ rfl
        rw [show a.add (0 * 6 + 0) = a by simp [Addr.add]] at h1
        have hs := spot_none h1
        obtain ⟨b, off, spot⟩ := a
        obtain rfl : spot = none := hs
        have key : ∀ k, k ≤ len + 1 → ∃ t : Tms, t.cnt = k ∧ TAt w t b (off + (len + 1 - k) * 6) := by
          intro k
          induction k with
          | zero => intro _; exact ⟨.nil, rfl, trivial⟩
          | succ k ihk =>
            intro hk
            obtain ⟨t, ht, hat⟩ := ihk (by omega)
            obtain ⟨N, c, A, n, cap, g, hkk, hg, _, hu⟩ := one (len + 1 - (k + 1)) (by omega)
            have hu' : ∀ j u, [Value.int .i64 N, .int .u8 c.k, .bool c.p, .int .i64 c.a, .int .i64 c.b, .slice A n cap][j]? = some u → w.cell? ⟨b, off + (len + 1 - (k + 1)) * 6 + j, none⟩ = some u := by
              intro j u h
              have := hu j u h
              rw [add_plain, ← Nat.add_assoc] at this
              exact this
            refine ⟨.cons N c g t, by simp [Tms.cnt, ht], A, n, cap, hu' 0 _ rfl, hu' 1 _ rfl, hu' 2 _ rfl, hu' 3 _ rfl, hu' 4 _ rfl, hu' 5 _ rfl, hkk, hg.1, hg.2.1, hg.2.2, ?_⟩
            rw [show off + (len + 1 - (k + 1)) * 6 + 6 = off + (len + 1 - k) * 6 by omega]
            exact hat
        obtain ⟨t, ht, hat⟩ := key (len + 1) (Nat.le_refl _)
        refine ⟨some ⟨b, off, none⟩, len + 1, cap', t, hcs, ht, by omega, fun _ => ⟨b, off, rfl, hbk, ?_⟩⟩
        simpa using hat
theorem open_tms_arg {r : Reach} {b0 : Nat} {v : Value} {d : DataW H} {p : List MemPlace} (hv : Value.okWide Tryz.prog w r b0 22 v) (h : DataW.Trod enc Tryz.prog w base spare held 22 v d p) :
    ∃ (A : Option Addr) (n cap : Nat) (t : Tms), v = .slice A n cap ∧ Tv w A n t := by
  obtain ⟨a0, len, cap, rfl⟩ := okWide_slice Tryz.underlying22 hv
  obtain ⟨fuel, hf⟩ := h
  exact open_tms fuel _ _ hf
end
end Go.Proofs.YtfbfkoeaihknoaaGreatDoor
/- The walks of the checks of terms: size. -/
namespace Go.Proofs.YtfbfkoeaihknoaaGreatDoor
set_option maxRecDepth 100000
open Go.RowKit Go.ChangeShapes Go.WideShapes Go.Joins
theorem cnt_cons {t : Tms} (h : 0 < t.cnt) : ∃ N c g r, t = .cons N c g r := by
  cases t with
  | nil => simp [Tms.cnt] at h
  | cons N c g r => exact ⟨N, c, g, r, rfl⟩
theorem cnt_size : ∀ t : Tms, t.cnt ≤ t.size := by
  intro t
  induction t with
  | nil => simp [Tms.cnt]
  | cons N c g r h1 h2 => simp [Tms.cnt, Tms.size]; omega
theorem depth_le : ∀ t : Tms, t.depth ≤ t.size := by
  intro t
  induction t with
  | nil => simp [Tms.depth, Tms.size]
  | cons N c g r h1 h2 => simp [Tms.depth, Tms.size]; omega
theorem run_max_t {P : Program} {w : World} (ts : Array TypeId) (t : TypeId) (x y : Int) : (Builtin.max_ ts t #[.int .i64 x, .int .i64 y]).run P w = .ok (.int .i64 (max x y)) w := by
  rw [run_max_int2]
  congr 2
  split <;> omega
theorem run_min_t {P : Program} {w : World} (ts : Array TypeId) (t : TypeId) (x y : Int) : (Builtin.min_ ts t #[.int .i64 x, .int .i64 y]).run P w = .ok (.int .i64 (min x y)) w := by
  rw [run_min_int2]
  congr 2
  split <;> omega
set_option maxHeartbeats 1000000 in
theorem size_any : ∀ (M : Nat), M ≤ 5000 → ∀ (t : Tms), t.size ≤ M → ∀ (A : Option Addr) (n cap : Nat) (w : World), Tv w A n t →
    Calls Tryz.prog 37 #[.slice A n cap] w fun e w' => e = .returned (.tuple #[.int .i64 (szM t), .int .i64 t.depth]) ∧ Ext w w' := by
  intro M
  induction M using Nat.strongRecOn with
  | ind M ih =>
    intro hM t ht A n cap w hv
    have HI := Lib.hid ih
    have HV := Lib.hid hv
    have hnm : n ≤ 5000 := by have h1 := hv.1; have h2 := cnt_size t; omega
    clear ih hv
    go_enter Tryz.func37, Tryz.ntmps37
    go_wp2_with fail
    go_loopw [2, 3, 10] (fun u d i wr => ∃ (k : Nat) (U : Int) (D : Nat) (rest : Tms), i = .int .i64 k ∧ u = .int .i64 U ∧ d = .int .i64 D ∧ rest.cnt + k = n ∧ rest.size ≤ M ∧ (0 ≤ U ∧ U ≤ 201) ∧ D ≤ 5000 ∧
      Hid (min (U + rest.size) 201 = szM t ∧ max D rest.depth = t.depth ∧ Ext w wr ∧ (0 < rest.cnt → ∃ b off, A = some ⟨b, off, none⟩ ∧ b < wr.heap.size ∧ TAt wr rest b (off + k * 6)))) (fun _ _ i _ => n - (intOf i).toNat)
    case atStart =>
      refine ⟨0, 0, 0, t, rfl, rfl, rfl, by have := HV.out.1; omega, ht, by omega, by omega, Lib.hid ⟨by simp [szM], by simp, Ext.refl _, fun h => ?_⟩⟩
      obtain ⟨h1, h2, h3⟩ := HV.out
      obtain ⟨b, off, e, hb, hc⟩ := h3 (by omega)
      exact ⟨b, off, e, hb, by simpa using hc⟩
    case round =>
      obtain ⟨k, U, D, rest, rfl, rfl, rfl, hcnt, hrs, ⟨hU0, hU1⟩, hD, HH⟩ := hrel
      by_cases hlt : 0 < rest.cnt
      · obtain ⟨N, c, g, r, rfl⟩ := cnt_cons hlt
        obtain ⟨b, off, rfl, hb1, hc⟩ := HH.out.2.2.2 hlt
        obtain ⟨A', n', cap', c0, c1, c2, c3, c4, c5, hkk, hg, hr⟩ := hc.head
        have hxr := HH.out.2.2.1
        simp only [Tms.cnt, Tms.size] at hcnt hrs
        have hkn : k < n := by omega
        have hz := World.block_lt_of_cell? wr _ c0
        have hcall := fun (w' : World) (h : Ext wr w') => HI.out (M - 1) (by omega) (by omega) g (by omega) A' n' cap' w' (hg.ext h)
        have HC := Lib.hid hcall
        clear hcall hc
        have hg0 : 0 ≤ szM g ∧ szM g ≤ 201 := by unfold szM; omega
        have hgs : min (g.size : Int) 201 = szM g := rfl
        have hgd := depth_le g
        have hsz : (Tms.cons N c g r).size = 1 + g.size + r.size := rfl
        have hdp : (Tms.cons N c g r).depth = max (g.depth + 1) r.depth := rfl
        have m1 : ∀ (ts : Array TypeId) (t : TypeId) (w : World), (Builtin.min_ ts t #[.int .i64 (U + 1 + szM g), .int .i64 201]).run Tryz.prog w = .ok (.int .i64 (min (U + 1 + szM g) 201)) w := fun ts t w => run_min_t ts t _ _
        have m2 : ∀ (ts : Array TypeId) (t : TypeId) (w : World), (Builtin.max_ ts t #[.int .i64 D, .int .i64 ((g.depth : Int) + 1)]).run Tryz.prog w = .ok (.int .i64 (max (D : Int) ((g.depth : Int) + 1))) w := fun ts t w => run_max_t ts t _ _
        go_wp2_with (go_at_call 37; ((with_reducible refine (HC.out _ (by repeat (first | exact Ext.refl _ | assumption | refine Ext.alloc ?_ _ | refine Ext.drew ?_ | refine Ext.drewN ?_ _ | refine Ext.trans ?_ (by assumption)))).mono ?_); rintro e w1 ⟨rfl, hq1⟩))
        go_roundw
        case rel =>
          have hxx : Ext wr w1 := by repeat (first | exact Ext.refl _ | assumption | refine Ext.alloc ?_ _ | refine Ext.drew ?_ | refine Ext.drewN ?_ _ | refine Ext.trans ?_ (by assumption))
          obtain ⟨e1, e2, e3, -⟩ := HH.out
          rw [hsz] at e1
          rw [hdp] at e2
          have q1 : min (min (U + 1 + szM g) 201 + (r.size : Int)) 201 = szM t := by rw [← e1, ← (show min (g.size : Int) 201 = szM g from rfl)]; omega
          have q2 : max (max D (g.depth + 1)) r.depth = t.depth := by rw [← e2]; omega
          have q3 : g.depth ≤ g.size := depth_le g
          have q4 : 0 ≤ szM g := hg0.1
          refine ⟨k + 1, min (U + 1 + szM g) 201, max D (g.depth + 1), r, by go_num, rfl, ?_, by omega, by omega, by omega, by omega, Lib.hid ⟨q1, q2, e3.trans hxx, fun h => ?_⟩⟩
          · rw [show ((max D (g.depth + 1) : Nat) : Int) = max (D : Int) ((g.depth : Int) + 1) by omega]
          · refine ⟨b, off, rfl, Nat.lt_of_lt_of_le hb1 (Below.size hxx), ?_⟩
            rw [show off + (k + 1) * 6 = off + k * 6 + 6 by omega]
            exact hr.ext hxx hb1
        case measure => simp [intOf]; omega
      · have hn0 : rest.cnt = 0 := by omega
        obtain rfl := cnt_nil hn0
        simp only [Tms.cnt] at hcnt
        obtain ⟨e1, e2, e3, -⟩ := HH.out
        simp only [Tms.size, Tms.depth] at e1 e2
        obtain rfl : k = n := by omega
        go_wp2
        go_ret2
        have q1 : szM t = U := by rw [← e1]; omega
        have q2 : t.depth = D := by rw [← e2]; omega
        rw [q1, q2]
        exact ⟨rfl, by repeat (first | exact Ext.refl _ | assumption | refine Ext.alloc ?_ _ | refine Ext.drew ?_ | refine Ext.drewN ?_ _ | refine Ext.trans ?_ (by assumption))⟩
end Go.Proofs.YtfbfkoeaihknoaaGreatDoor
/- The walks of the reference's Deep. -/
namespace Go.Proofs.YtfbfkoeaihknoaaGreatDoor
set_option maxRecDepth 100000
open Go.RowKit Go.ChangeShapes Go.WideShapes Go.Joins
set_option maxHeartbeats 1000000 in
theorem deep_any : ∀ (M : Nat), M ≤ 5000 → ∀ (t : Tms), t.size ≤ M → ∀ (A : Option Addr) (n cap : Nat) (w : World), Tv w A n t →
    Calls Tryz.prog 48 #[.slice A n cap] w fun e w' => e = .returned (.int .i64 t.depth) ∧ Ext w w' := by
  intro M
  induction M using Nat.strongRecOn with
  | ind M ih =>
    intro hM t ht A n cap w hv
    have HI := Lib.hid ih
    have HV := Lib.hid hv
    have hnm : n ≤ 5000 := by have h1 := hv.1; have h2 := cnt_size t; omega
    clear ih hv
    go_enter Tryz.func48, Tryz.ntmps48
    go_wp2_with fail
    go_loopw [3, 4] (fun d i wr => ∃ (k : Nat) (D : Nat) (rest : Tms), i = .int .i64 k ∧ d = .int .i64 D ∧ rest.cnt + k = n ∧ rest.size ≤ M ∧ D ≤ 5000 ∧
      Hid (max D rest.depth = t.depth ∧ Ext w wr ∧ (0 < rest.cnt → ∃ b off, A = some ⟨b, off, none⟩ ∧ b < wr.heap.size ∧ TAt wr rest b (off + k * 6)))) (fun _ i _ => n - (intOf i).toNat)
    case atStart =>
      refine ⟨0, 0, t, rfl, rfl, by have := HV.out.1; omega, ht, by omega, Lib.hid ⟨by simp, Ext.refl _, fun h => ?_⟩⟩
      obtain ⟨h1, h2, h3⟩ := HV.out
      obtain ⟨b, off, e, hb, hc⟩ := h3 (by omega)
      exact ⟨b, off, e, hb, by simpa using hc⟩
    case round =>
      obtain ⟨k, D, rest, rfl, rfl, hcnt, hrs, hD, HH⟩ := hrel
      by_cases hlt : 0 < rest.cnt
      · obtain ⟨N, c, g, r, rfl⟩ := cnt_cons hlt
        obtain ⟨b, off, rfl, hb1, hc⟩ := HH.out.2.2 hlt
        obtain ⟨A', n', cap', c0, c1, c2, c3, c4, c5, hkk, hg, hr⟩ := hc.head
        have hxr := HH.out.2.1
        simp only [Tms.cnt, Tms.size] at hcnt hrs
        have hkn : k < n := by omega
        have hz := World.block_lt_of_cell? wr _ c0
        have hcall := fun (w' : World) (h : Ext wr w') => HI.out (M - 1) (by omega) (by omega) g (by omega) A' n' cap' w' (hg.ext h)
        have HC := Lib.hid hcall
        clear hcall hc
        have hgd := depth_le g
        have hdp : (Tms.cons N c g r).depth = max (g.depth + 1) r.depth := rfl
        have m2 : ∀ (ts : Array TypeId) (t : TypeId) (w : World), (Builtin.max_ ts t #[.int .i64 D, .int .i64 (1 + (g.depth : Int))]).run Tryz.prog w = .ok (.int .i64 (max (D : Int) (1 + (g.depth : Int)))) w := fun ts t w => run_max_t ts t _ _
        go_wp2_with (go_at_call 48; ((with_reducible refine (HC.out _ (by repeat (first | exact Ext.refl _ | assumption | refine Ext.alloc ?_ _ | refine Ext.drew ?_ | refine Ext.drewN ?_ _ | refine Ext.trans ?_ (by assumption)))).mono ?_); rintro e w1 ⟨rfl, hq1⟩))
        go_roundw
        case rel =>
          have hxx : Ext wr w1 := by repeat (first | exact Ext.refl _ | assumption | refine Ext.alloc ?_ _ | refine Ext.drew ?_ | refine Ext.drewN ?_ _ | refine Ext.trans ?_ (by assumption))
          obtain ⟨e2, e3, -⟩ := HH.out
          rw [hdp] at e2
          have q2 : max (max D (g.depth + 1)) r.depth = t.depth := by rw [← e2]; omega
          refine ⟨k + 1, max D (g.depth + 1), r, by go_num, ?_, by omega, by omega, by omega, Lib.hid ⟨q2, e3.trans hxx, fun h => ?_⟩⟩
          · rw [show ((max D (g.depth + 1) : Nat) : Int) = max (D : Int) (1 + (g.depth : Int)) by omega]
          · refine ⟨b, off, rfl, Nat.lt_of_lt_of_le hb1 (Below.size hxx), ?_⟩
            rw [show off + (k + 1) * 6 = off + k * 6 + 6 by omega]
            exact hr.ext hxx hb1
        case measure => simp [intOf]; omega
      · have hn0 : rest.cnt = 0 := by omega
        obtain rfl := cnt_nil hn0
        simp only [Tms.cnt] at hcnt
        obtain ⟨e2, e3, -⟩ := HH.out
        simp only [Tms.depth] at e2
        obtain rfl : k = n := by omega
        go_wp2
        go_ret
        have q2 : t.depth = D := by rw [← e2]; omega
        rw [q2]
        exact ⟨rfl, by repeat (first | exact Ext.refl _ | assumption | refine Ext.alloc ?_ _ | refine Ext.drew ?_ | refine Ext.drewN ?_ _ | refine Ext.trans ?_ (by assumption))⟩
end Go.Proofs.YtfbfkoeaihknoaaGreatDoor
/- The walk of the reference's Terms. -/
namespace Go.Proofs.YtfbfkoeaihknoaaGreatDoor
set_option maxRecDepth 100000
open Go.RowKit Go.ChangeShapes Go.WideShapes Go.Joins
set_option maxHeartbeats 1000000 in
theorem terms_any : ∀ (M : Nat), M ≤ 5000 → ∀ (t : Tms), t.size ≤ M → ∀ (A : Option Addr) (n cap : Nat) (w : World), Tv w A n t →
    Calls Tryz.prog 47 #[.slice A n cap] w fun e w' => e = .returned (.int .i64 (szM t)) ∧ Ext w w' := by
  intro M
  induction M using Nat.strongRecOn with
  | ind M ih =>
    intro hM t ht A n cap w hv
    have HI := Lib.hid ih
    have HV := Lib.hid hv
    have hnm : n ≤ 5000 := by have h1 := hv.1; have h2 := cnt_size t; omega
    clear ih hv
    go_enter Tryz.func47, Tryz.ntmps47
    go_wp2_with fail
    go_loopw [3, 4] (fun u i wr => ∃ (k : Nat) (U : Int) (rest : Tms), i = .int .i64 k ∧ u = .int .i64 U ∧ rest.cnt + k = n ∧ rest.size ≤ M ∧ (0 ≤ U ∧ U ≤ 500) ∧
      Hid (min (U + rest.size) 201 = szM t ∧ Ext w wr ∧ (0 < rest.cnt → ∃ b off, A = some ⟨b, off, none⟩ ∧ b < wr.heap.size ∧ TAt wr rest b (off + k * 6)))) (fun _ i _ => n - (intOf i).toNat)
    case atStart =>
      refine ⟨0, 0, t, rfl, rfl, by have := HV.out.1; omega, ht, by omega, Lib.hid ⟨by simp [szM], Ext.refl _, fun h => ?_⟩⟩
      obtain ⟨h1, h2, h3⟩ := HV.out
      obtain ⟨b, off, e, hb, hc⟩ := h3 (by omega)
      exact ⟨b, off, e, hb, by simpa using hc⟩
    case round =>
      obtain ⟨k, U, rest, rfl, rfl, hcnt, hrs, ⟨hU0, hU1⟩, HH⟩ := hrel
      by_cases hlt : 0 < rest.cnt
      · obtain ⟨N, c, g, r, rfl⟩ := cnt_cons hlt
        obtain ⟨b, off, rfl, hb1, hc⟩ := HH.out.2.2 hlt
        obtain ⟨A', n', cap', c0, c1, c2, c3, c4, c5, hkk, hg, hr⟩ := hc.head
        have hxr := HH.out.2.1
        simp only [Tms.cnt, Tms.size] at hcnt hrs
        have hkn : k < n := by omega
        have hz := World.block_lt_of_cell? wr _ c0
        have hcall := fun (w' : World) (h : Ext wr w') => HI.out (M - 1) (by omega) (by omega) g (by omega) A' n' cap' w' (hg.ext h)
        have HC := Lib.hid hcall
        clear hcall hc
        have hg0 : 0 ≤ szM g ∧ szM g ≤ 201 := by unfold szM; omega
        have hsz : (Tms.cons N c g r).size = 1 + g.size + r.size := rfl
        have m1 : ∀ (ts : Array TypeId) (t : TypeId) (w : World), (Builtin.min_ ts t #[.int .i64 U, .int .i64 201]).run Tryz.prog w = .ok (.int .i64 (min U 201)) w := fun ts t w => run_min_t ts t _ _
        by_cases hU : U ≤ 200
        · go_wp2_with (go_at_call 47; ((with_reducible refine (HC.out _ (by repeat (first | exact Ext.refl _ | assumption | refine Ext.alloc ?_ _ | refine Ext.drew ?_ | refine Ext.drewN ?_ _ | refine Ext.trans ?_ (by assumption)))).mono ?_); rintro e w1 ⟨rfl, hq1⟩))
          go_roundw
          case rel =>
            have hxx : Ext wr w1 := by repeat (first | exact Ext.refl _ | assumption | refine Ext.alloc ?_ _ | refine Ext.drew ?_ | refine Ext.drewN ?_ _ | refine Ext.trans ?_ (by assumption))
            obtain ⟨e2, e3, -⟩ := HH.out
            rw [hsz] at e2
            have q2 : min (U + 1 + szM g + (r.size : Int)) 201 = szM t := by rw [← e2, ← (show min (g.size : Int) 201 = szM g from rfl)]; omega
            refine ⟨k + 1, U + 1 + szM g, r, by go_num, by go_num, by omega, by omega, by omega, Lib.hid ⟨q2, e3.trans hxx, fun h => ?_⟩⟩
            refine ⟨b, off, rfl, Nat.lt_of_lt_of_le hb1 (Below.size hxx), ?_⟩
            rw [show off + (k + 1) * 6 = off + k * 6 + 6 by omega]
            exact hr.ext hxx hb1
          case measure => simp [intOf]; omega
        · have hU' : ¬ U ≤ 200 := hU
          obtain ⟨e2, e3, -⟩ := HH.out
          have q2 : szM t = min U 201 := by rw [← e2]; omega
          go_wp2_with fail
          go_ret
          exact ⟨rfl, by repeat (first | exact Ext.refl _ | assumption | refine Ext.alloc ?_ _ | refine Ext.drew ?_ | refine Ext.drewN ?_ _ | refine Ext.trans ?_ (by assumption))⟩
      · have hn0 : rest.cnt = 0 := by omega
        obtain rfl := cnt_nil hn0
        simp only [Tms.cnt] at hcnt
        obtain ⟨e2, e3, -⟩ := HH.out
        simp only [Tms.size] at e2
        have m1 : ∀ (ts : Array TypeId) (t : TypeId) (w : World), (Builtin.min_ ts t #[.int .i64 U, .int .i64 201]).run Tryz.prog w = .ok (.int .i64 (min U 201)) w := fun ts t w => run_min_t ts t _ _
        obtain rfl : k = n := by omega
        have q2 : szM t = min U 201 := by rw [← e2]; omega
        by_cases hU : U ≤ 200
        all_goals
          go_wp2_with fail
          go_ret
          first | exact ⟨rfl, by repeat (first | exact Ext.refl _ | assumption | refine Ext.alloc ?_ _ | refine Ext.drew ?_ | refine Ext.drewN ?_ _ | refine Ext.trans ?_ (by assumption))⟩ | (rw [q2]; exact ⟨rfl, by repeat (first | exact Ext.refl _ | assumption | refine Ext.alloc ?_ _ | refine Ext.drew ?_ | refine Ext.drewN ?_ _ | refine Ext.trans ?_ (by assumption))⟩) | (refine ⟨by rw [q2]; rfl, by repeat (first | exact Ext.refl _ | assumption | refine Ext.alloc ?_ _ | refine Ext.drew ?_ | refine Ext.drewN ?_ _ | refine Ext.trans ?_ (by assumption))⟩) | trace_state
end Go.Proofs.YtfbfkoeaihknoaaGreatDoor
/- The walks of length and long. -/
namespace Go.Proofs.YtfbfkoeaihknoaaGreatDoor
set_option maxRecDepth 100000
open Go.RowKit Go.ChangeShapes Go.WideShapes Go.Joins
theorem inR_bd {x a b : Int} (h : inR x a b = true) : a ≤ x ∧ x ≤ b := by simpa [inR] using h
theorem fine_cons {N : Int} {c : St} {g r : Tms} (h : fineT (.cons N c g r) = true) : (1 ≤ N ∧ N ≤ 200) ∧ fineT g = true ∧ fineT r = true := by
  by_cases hg : g = .nil
  · subst hg
    rw [fine_one] at h
    simp only [Bool.and_eq_true] at h
    exact ⟨inR_bd h.1.1, rfl, h.2⟩
  · rw [fine_grp _ _ _ _ hg] at h
    simp only [Bool.and_eq_true] at h
    exact ⟨inR_bd h.1.1.1, h.1.2, h.2⟩
theorem len_bd : ∀ {t : Tms}, fineT t = true → ∀ {m : Int}, 0 ≤ m → m ≤ 201 → 0 ≤ lenT t m ∧ lenT t m ≤ 201 := by
  intro t
  induction t with
  | nil => intro _ m h0 h1; exact ⟨h0, h1⟩
  | cons N c g r ih1 ih2 =>
    intro h m h0 h1
    obtain ⟨hN, hg, hr⟩ := fine_cons h
    by_cases e : g = .nil
    · subst e
      rw [len_one]
      exact ih2 hr (by omega) (by omega)
    · rw [len_grp _ _ _ _ _ e]
      obtain ⟨a, b⟩ := ih1 hg (m := 0) (by omega) (by omega)
      have := Int.mul_nonneg a (show (0 : Int) ≤ N by omega)
      exact ih2 hr (by omega) (by omega)
set_option maxHeartbeats 1000000 in
theorem length_any : ∀ (M : Nat), M ≤ 5000 → ∀ (t : Tms), t.size ≤ M → fineT t = true → ∀ (A : Option Addr) (n cap : Nat) (w : World), Tv w A n t →
    Calls Tryz.prog 39 #[.slice A n cap] w fun e w' => e = .returned (.int .i64 (lenT t 0)) ∧ Ext w w' := by
  intro M
  induction M using Nat.strongRecOn with
  | ind M ih =>
    intro hM t ht hf A n cap w hv
    have HI := Lib.hid ih
    have HV := Lib.hid hv
    have hnm : n ≤ 5000 := by have h1 := hv.1; have h2 := cnt_size t; omega
    clear ih hv
    go_enter Tryz.func39, Tryz.ntmps39
    go_wp2_with fail
    go_loopw [3, 9] (fun u i wr => ∃ (k : Nat) (U : Int) (rest : Tms), i = .int .i64 k ∧ u = .int .i64 U ∧ rest.cnt + k = n ∧ rest.size ≤ M ∧ (0 ≤ U ∧ U ≤ 201) ∧
      Hid (fineT rest = true ∧ lenT rest U = lenT t 0 ∧ Ext w wr ∧ (0 < rest.cnt → ∃ b off, A = some ⟨b, off, none⟩ ∧ b < wr.heap.size ∧ TAt wr rest b (off + k * 6)))) (fun _ i _ => n - (intOf i).toNat)
    case atStart =>
      refine ⟨0, 0, t, rfl, rfl, by have := HV.out.1; omega, ht, by omega, Lib.hid ⟨hf, rfl, Ext.refl _, fun h => ?_⟩⟩
      obtain ⟨h1, h2, h3⟩ := HV.out
      obtain ⟨b, off, e, hb, hc⟩ := h3 (by omega)
      exact ⟨b, off, e, hb, by simpa using hc⟩
    case round =>
      obtain ⟨k, U, rest, rfl, rfl, hcnt, hrs, ⟨hU0, hU1⟩, HH⟩ := hrel
      by_cases hlt : 0 < rest.cnt
      · obtain ⟨N, c, g, r, rfl⟩ := cnt_cons hlt
        obtain ⟨b, off, rfl, hb1, hc⟩ := HH.out.2.2.2 hlt
        obtain ⟨A', n', cap', c0, c1, c2, c3, c4, c5, hkk, hg, hr⟩ := hc.head
        obtain ⟨⟨hN0, hN1⟩, hfg, hfr⟩ := fine_cons HH.out.1
        have hxr := HH.out.2.2.1
        simp only [Tms.cnt, Tms.size] at hcnt hrs
        have hkn : k < n := by omega
        have hz := World.block_lt_of_cell? wr _ c0
        have hcall := fun (w' : World) (h : Ext wr w') => HI.out (M - 1) (by omega) (by omega) g (by omega) hfg A' n' cap' w' (hg.ext h)
        have HC := Lib.hid hcall
        have hgn := hg.1
        have HF := Lib.hid hfr
        clear hcall hc
        by_cases hn' : 0 < n'
        · have hge : g ≠ .nil := by rintro rfl; simp [Tms.cnt] at hgn; omega
          have HL := Lib.hid (len_grp N c g r U hge)
          obtain ⟨hL0, hL1⟩ := len_bd hfg (m := 0) (by omega) (by omega)
          have HN := Lib.hid hfg
          clear hfg hfr
          generalize hLL : lenT g 0 = L at *
          have hp0 : 0 ≤ L * N := Int.mul_nonneg hL0 (by omega)
          have hp1 : L * N ≤ 201 * 200 := Int.mul_le_mul hL1 hN1 (by omega) (by omega)
          have m1 : ∀ (ts : Array TypeId) (t : TypeId) (w : World), (Builtin.min_ ts t #[.int .i64 (U + L * N), .int .i64 201]).run Tryz.prog w = .ok (.int .i64 (min (U + L * N) 201)) w := fun ts t w => run_min_t ts t _ _
          have f1 := IntWalk.i64_in (L * N) (by omega)
          have f2 := IntWalk.i64_in (U + L * N) (by omega)
          go_wp2_with (go_at_call 39; ((with_reducible refine (HC.out _ (by repeat (first | exact Ext.refl _ | assumption | refine Ext.alloc ?_ _ | refine Ext.drew ?_ | refine Ext.drewN ?_ _ | refine Ext.trans ?_ (by assumption)))).mono ?_); rintro e w1 ⟨rfl, hq1⟩; obtain ⟨hf1, hf2, hf3⟩ := hq1.facts))
          go_roundw
          case rel =>
            have hxx : Ext wr w1 := by repeat (first | exact Ext.refl _ | assumption | refine Ext.alloc ?_ _ | refine Ext.drew ?_ | refine Ext.drewN ?_ _ | refine Ext.trans ?_ (by assumption))
            obtain ⟨_, e2, e3, -⟩ := HH.out
            rw [HL.out] at e2
            refine ⟨k + 1, min (U + L * N) 201, r, by go_num, by go_num, by omega, by omega, by omega, Lib.hid ⟨HF.out, e2, e3.trans hxx, fun h => ?_⟩⟩
            refine ⟨b, off, rfl, Nat.lt_of_lt_of_le hb1 (Below.size hxx), ?_⟩
            rw [show off + (k + 1) * 6 = off + k * 6 + 6 by omega]
            exact hr.ext hxx hb1
          case measure => simp [intOf]; omega
        · obtain rfl := cnt_nil (t := g) (by omega)
          obtain rfl : n' = 0 := by omega
          have HL := Lib.hid (len_one N c r U)
          have m1 : ∀ (ts : Array TypeId) (t : TypeId) (w : World), (Builtin.min_ ts t #[.int .i64 (U + 1 * N), .int .i64 201]).run Tryz.prog w = .ok (.int .i64 (min (U + 1 * N) 201)) w := fun ts t w => run_min_t ts t _ _
          have m2 : ∀ (ts : Array TypeId) (t : TypeId) (w : World), (Builtin.min_ ts t #[.int .i64 (U + N), .int .i64 201]).run Tryz.prog w = .ok (.int .i64 (min (U + N) 201)) w := fun ts t w => run_min_t ts t _ _
          go_wp2_with fail
          go_roundw
          case rel =>
            obtain ⟨_, e2, e3, -⟩ := HH.out
            rw [HL.out] at e2
            refine ⟨k + 1, min (U + 1 * N) 201, r, by go_num, by first | go_num | simp, by omega, by omega, by omega, Lib.hid ⟨HF.out, e2, by first | exact e3 | exact e3.alloc _ , fun h => ?_⟩⟩
            refine ⟨b, off, rfl, by first | exact hb1 | exact Nat.lt_of_lt_of_le hb1 (Below.size ((Ext.refl wr).alloc _)), ?_⟩
            rw [show off + (k + 1) * 6 = off + k * 6 + 6 by omega]
            first | exact hr | exact hr.ext ((Ext.refl wr).alloc _) hb1
          case measure => simp [intOf]; omega
      · have hn0 : rest.cnt = 0 := by omega
        obtain rfl := cnt_nil hn0
        simp only [Tms.cnt] at hcnt
        obtain ⟨_, e2, e3, -⟩ := HH.out
        obtain rfl : k = n := by omega
        have q2 : lenT t 0 = U := e2.symm
        go_wp2
        go_ret
        first | exact ⟨rfl, by repeat (first | exact Ext.refl _ | assumption | refine Ext.alloc ?_ _ | refine Ext.drew ?_ | refine Ext.drewN ?_ _ | refine Ext.trans ?_ (by assumption))⟩ | (rw [q2]; exact ⟨rfl, by repeat (first | exact Ext.refl _ | assumption | refine Ext.alloc ?_ _ | refine Ext.drew ?_ | refine Ext.drewN ?_ _ | refine Ext.trans ?_ (by assumption))⟩)
set_option maxHeartbeats 1000000 in
theorem long_any : ∀ (M : Nat), M ≤ 5000 → ∀ (t : Tms), t.size ≤ M → fineT t = true → ∀ (A : Option Addr) (n cap : Nat) (w : World), Tv w A n t →
    Calls Tryz.prog 50 #[.slice A n cap] w fun e w' => e = .returned (.int .i64 (lenT t 0)) ∧ Ext w w' := by
  intro M
  induction M using Nat.strongRecOn with
  | ind M ih =>
    intro hM t ht hf A n cap w hv
    have HI := Lib.hid ih
    have HV := Lib.hid hv
    have hnm : n ≤ 5000 := by have h1 := hv.1; have h2 := cnt_size t; omega
    clear ih hv
    go_enter Tryz.func50, Tryz.ntmps50
    go_wp2_with fail
    go_loopw [3, 4] (fun u i wr => ∃ (k : Nat) (U : Int) (rest : Tms), i = .int .i64 k ∧ u = .int .i64 U ∧ rest.cnt + k = n ∧ rest.size ≤ M ∧ (0 ≤ U ∧ U ≤ 201) ∧
      Hid (fineT rest = true ∧ lenT rest U = lenT t 0 ∧ Ext w wr ∧ (0 < rest.cnt → ∃ b off, A = some ⟨b, off, none⟩ ∧ b < wr.heap.size ∧ TAt wr rest b (off + k * 6)))) (fun _ i _ => n - (intOf i).toNat)
    case atStart =>
      refine ⟨0, 0, t, rfl, rfl, by have := HV.out.1; omega, ht, by omega, Lib.hid ⟨hf, rfl, Ext.refl _, fun h => ?_⟩⟩
      obtain ⟨h1, h2, h3⟩ := HV.out
      obtain ⟨b, off, e, hb, hc⟩ := h3 (by omega)
      exact ⟨b, off, e, hb, by simpa using hc⟩
    case round =>
      obtain ⟨k, U, rest, rfl, rfl, hcnt, hrs, ⟨hU0, hU1⟩, HH⟩ := hrel
      by_cases hlt : 0 < rest.cnt
      · obtain ⟨N, c, g, r, rfl⟩ := cnt_cons hlt
        obtain ⟨b, off, rfl, hb1, hc⟩ := HH.out.2.2.2 hlt
        obtain ⟨A', n', cap', c0, c1, c2, c3, c4, c5, hkk, hg, hr⟩ := hc.head
        obtain ⟨⟨hN0, hN1⟩, hfg, hfr⟩ := fine_cons HH.out.1
        have hxr := HH.out.2.2.1
        simp only [Tms.cnt, Tms.size] at hcnt hrs
        have hkn : k < n := by omega
        have hz := World.block_lt_of_cell? wr _ c0
        have hcall := fun (w' : World) (h : Ext wr w') => HI.out (M - 1) (by omega) (by omega) g (by omega) hfg A' n' cap' w' (hg.ext h)
        have HC := Lib.hid hcall
        have hgn := hg.1
        have HF := Lib.hid hfr
        clear hcall hc
        by_cases hn' : 0 < n'
        · have hge : g ≠ .nil := by rintro rfl; simp [Tms.cnt] at hgn; omega
          have HL := Lib.hid (len_grp N c g r U hge)
          obtain ⟨hL0, hL1⟩ := len_bd hfg (m := 0) (by omega) (by omega)
          have HN := Lib.hid hfg
          clear hfg hfr
          generalize hLL : lenT g 0 = L at *
          have hp0 : 0 ≤ L * N := Int.mul_nonneg hL0 (by omega)
          have hp1 : L * N ≤ 201 * 200 := Int.mul_le_mul hL1 hN1 (by omega) (by omega)
          have m1 : ∀ (ts : Array TypeId) (t : TypeId) (w : World), (Builtin.min_ ts t #[.int .i64 (U + L * N), .int .i64 201]).run Tryz.prog w = .ok (.int .i64 (min (U + L * N) 201)) w := fun ts t w => run_min_t ts t _ _
          have f1 := IntWalk.i64_in (L * N) (by omega)
          have f2 := IntWalk.i64_in (U + L * N) (by omega)
          go_wp2_with (go_at_call 50; ((with_reducible refine (HC.out _ (by repeat (first | exact Ext.refl _ | assumption | refine Ext.alloc ?_ _ | refine Ext.drew ?_ | refine Ext.drewN ?_ _ | refine Ext.trans ?_ (by assumption)))).mono ?_); rintro e w1 ⟨rfl, hq1⟩; obtain ⟨hf1, hf2, hf3⟩ := hq1.facts))
          go_roundw
          case rel =>
            have hxx : Ext wr w1 := by repeat (first | exact Ext.refl _ | assumption | refine Ext.alloc ?_ _ | refine Ext.drew ?_ | refine Ext.drewN ?_ _ | refine Ext.trans ?_ (by assumption))
            obtain ⟨_, e2, e3, -⟩ := HH.out
            rw [HL.out] at e2
            refine ⟨k + 1, min (U + L * N) 201, r, by go_num, by go_num, by omega, by omega, by omega, Lib.hid ⟨HF.out, e2, e3.trans hxx, fun h => ?_⟩⟩
            refine ⟨b, off, rfl, Nat.lt_of_lt_of_le hb1 (Below.size hxx), ?_⟩
            rw [show off + (k + 1) * 6 = off + k * 6 + 6 by omega]
            exact hr.ext hxx hb1
          case measure => simp [intOf]; omega
        · obtain rfl := cnt_nil (t := g) (by omega)
          obtain rfl : n' = 0 := by omega
          have HL := Lib.hid (len_one N c r U)
          have m1 : ∀ (ts : Array TypeId) (t : TypeId) (w : World), (Builtin.min_ ts t #[.int .i64 (U + 1 * N), .int .i64 201]).run Tryz.prog w = .ok (.int .i64 (min (U + 1 * N) 201)) w := fun ts t w => run_min_t ts t _ _
          have m2 : ∀ (ts : Array TypeId) (t : TypeId) (w : World), (Builtin.min_ ts t #[.int .i64 (U + N), .int .i64 201]).run Tryz.prog w = .ok (.int .i64 (min (U + N) 201)) w := fun ts t w => run_min_t ts t _ _
          go_wp2_with fail
          go_roundw
          case rel =>
            obtain ⟨_, e2, e3, -⟩ := HH.out
            rw [HL.out] at e2
            refine ⟨k + 1, min (U + 1 * N) 201, r, by go_num, by first | go_num | simp, by omega, by omega, by omega, Lib.hid ⟨HF.out, e2, by first | exact e3 | exact e3.alloc _ , fun h => ?_⟩⟩
            refine ⟨b, off, rfl, by first | exact hb1 | exact Nat.lt_of_lt_of_le hb1 (Below.size ((Ext.refl wr).alloc _)), ?_⟩
            rw [show off + (k + 1) * 6 = off + k * 6 + 6 by omega]
            first | exact hr | exact hr.ext ((Ext.refl wr).alloc _) hb1
          case measure => simp [intOf]; omega
      · have hn0 : rest.cnt = 0 := by omega
        obtain rfl := cnt_nil hn0
        simp only [Tms.cnt] at hcnt
        obtain ⟨_, e2, e3, -⟩ := HH.out
        obtain rfl : k = n := by omega
        have q2 : lenT t 0 = U := e2.symm
        go_wp2
        go_ret
        first | exact ⟨rfl, by repeat (first | exact Ext.refl _ | assumption | refine Ext.alloc ?_ _ | refine Ext.drew ?_ | refine Ext.drewN ?_ _ | refine Ext.trans ?_ (by assumption))⟩ | (rw [q2]; exact ⟨rfl, by repeat (first | exact Ext.refl _ | assumption | refine Ext.alloc ?_ _ | refine Ext.drew ?_ | refine Ext.drewN ?_ _ | refine Ext.trans ?_ (by assumption))⟩)
end Go.Proofs.YtfbfkoeaihknoaaGreatDoor
