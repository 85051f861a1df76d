/- Lists of terms in memory. -/
import Derived.Test.YtgbmeefcnjdjbaaSts
import Derived.Test.YtgbmeefcnjdjbaaShortC
namespace Go.Proofs.Ytgbmeefcnjdjbaa
set_option maxRecDepth 100000
open Go.RowKit Go.ChangeShapes Go.WideShapes Go.Joins
/-- the cells from this place on hold these terms, one behind the other -/
def TAt (w : World) : Tms → Nat → Nat → Prop
  | .nil, _, _ => True
  | .cons N c g r, b, off => ∃ (A : Option Addr) (n cap : Nat), w.cell? ⟨b, off, none⟩ = some (.int .i64 N) ∧ w.cell? ⟨b, off + 1, none⟩ = some (.int .u8 c.k) ∧ w.cell? ⟨b, off + 2, none⟩ = some (.bool c.p) ∧
      w.cell? ⟨b, off + 3, none⟩ = some (.int .i64 c.a) ∧ w.cell? ⟨b, off + 4, none⟩ = some (.int .i64 c.b) ∧ w.cell? ⟨b, off + 5, none⟩ = some (.slice A n cap) ∧ (0 ≤ c.k ∧ c.k ≤ 255) ∧
      g.cnt = n ∧ n ≤ maxLen ∧ (0 < n → ∃ b' off', A = some ⟨b', off', none⟩ ∧ b' < w.heap.size ∧ TAt w g b' off') ∧ TAt w r b (off + 6)
/-- the slice with this address and length reads as these terms -/
def Tv (w : World) (A : Option Addr) (n : Nat) (t : Tms) : Prop := t.cnt = n ∧ n ≤ maxLen ∧ (0 < n → ∃ b off, A = some ⟨b, off, none⟩ ∧ b < w.heap.size ∧ TAt w t b off)
theorem TAt.ext {w w' : World} (hb : Ext w w') : ∀ {t : Tms} {b off : Nat}, b < w.heap.size → TAt w t b off → TAt w' t b off := by
  intro t
  induction t with
  | nil => intro b off _ _; trivial
  | cons N c g r ih1 ih2 =>
    intro b off hlt ⟨A, n, cap, h0, h1, h2, h3, h4, h5, hk, hn, hm, hg, hr⟩
    have hc : ∀ o, w'.cell? ⟨b, o, none⟩ = w.cell? ⟨b, o, none⟩ := fun o => Below.cell (p := ⟨b, o, none⟩) hb hlt
    refine ⟨A, n, cap, (hc _).trans h0, (hc _).trans h1, (hc _).trans h2, (hc _).trans h3, (hc _).trans h4, (hc _).trans h5, hk, hn, hm, fun h => ?_, ih2 hlt hr⟩
    obtain ⟨b', off', e, hlt', hg'⟩ := hg h
    exact ⟨b', off', e, Nat.lt_of_lt_of_le hlt' (Below.size hb), ih1 hlt' hg'⟩
theorem Tv.ext {w w' : World} {A : Option Addr} {n : Nat} {t : Tms} (h : Tv w A n t) (hb : Ext w w') : Tv w' A n t :=
  ⟨h.1, h.2.1, fun hn => by
    obtain ⟨b, off, e, hlt, hc⟩ := h.2.2 hn
    exact ⟨b, off, e, Nat.lt_of_lt_of_le hlt (Below.size hb), TAt.ext hb hlt hc⟩⟩
theorem Tv.none_ (w : World) (A : Option Addr) : Tv w A 0 .nil := ⟨rfl, by unfold maxLen; omega, fun h => absurd h (by omega)⟩
theorem cnt_nil {t : Tms} (h : t.cnt = 0) : t = .nil := by
  cases t with
  | nil => rfl
  | cons => simp [Tms.cnt] at h
/-- the first of some terms -/
theorem TAt.head {w : World} {N : Int} {c : St} {g r : Tms} {b off : Nat} (h : TAt w (.cons N c g r) b off) :
    ∃ (A : Option Addr) (n cap : Nat), w.cell? ⟨b, off, none⟩ = some (.int .i64 N) ∧ w.cell? ⟨b, off + 1, none⟩ = some (.int .u8 c.k) ∧ w.cell? ⟨b, off + 2, none⟩ = some (.bool c.p) ∧
      w.cell? ⟨b, off + 3, none⟩ = some (.int .i64 c.a) ∧ w.cell? ⟨b, off + 4, none⟩ = some (.int .i64 c.b) ∧ w.cell? ⟨b, off + 5, none⟩ = some (.slice A n cap) ∧ (0 ≤ c.k ∧ c.k ≤ 255) ∧ Tv w A n g ∧ TAt w r b (off + 6) := by
  obtain ⟨A, n, cap, h0, h1, h2, h3, h4, h5, hk, hn, hm, hg, hr⟩ := h
  exact ⟨A, n, cap, h0, h1, h2, h3, h4, h5, hk, ⟨hn, hm, hg⟩, hr⟩
section
variable {H : Type} {enc : TypeId × Value → H} {w : World} {base : Nat} {spare : Nat → Bool} {held : Bool}
theorem one_term {fuel : Nat} {cs : List Value} {y : DataW H × List MemPlace} (hl : cs.length = 6) (hy : DataW.trod enc Try.prog w base spare held fuel 48 cs = some y) :
    ∃ (N : Int) (c : St) (v : Value) (m : Nat) (z : DataW H × List MemPlace), cs = [.int .i64 N, .int .u8 c.k, .bool c.p, .int .i64 c.a, .int .i64 c.b, v] ∧ (0 ≤ c.k ∧ c.k ≤ 255) ∧ fuel = m + 1 ∧
      DataW.trod enc Try.prog w base spare held m 23 [v] = some z := by
  obtain ⟨xs, m, hfu, _, _, hxl, hel⟩ := DataW.trod_struct Try.underlying48 hy
  match cs, hl with
  | [c0, c1, c2, c3, c4, c5], _ =>
    match xs, hxl with
    | [y0, y1, y2], _ =>
      have C0 : Try.prog.cellsOf 5 = 1 := by kernel_rfl
      have C1 : Try.prog.cellsOf 4 = 1 := by kernel_rfl
      have C2 : Try.prog.cellsOf 3 = 1 := by kernel_rfl
      have C3 : Try.prog.cellsOf 33 = 4 := by kernel_rfl
      have C4 : Try.prog.cellsOf 23 = 1 := by kernel_rfl
      have h0 := hel 0 _ rfl
      have h1 := hel 1 _ rfl
      have h2 := hel 2 _ rfl
      simp [C2, C3, C4] at h0 h1 h2
      obtain ⟨N, e0, _, _⟩ := DataW.trod_int Try.underlying3 h0
      obtain ⟨ys, m', _, _, _, hyl, hel'⟩ := DataW.trod_struct Try.underlying33 h1
      match ys, hyl with
      | [z0, z1, z2, z3], _ =>
        have k0 := hel' 0 _ rfl
        have k1 := hel' 1 _ rfl
        have k2 := hel' 2 _ rfl
        have k3 := hel' 3 _ rfl
        simp [C0, C1, C2] at k0 k1 k2 k3
        obtain ⟨n0, e1, _, wf0⟩ := DataW.trod_int Try.underlying5 k0
        have hwf := bounds_u8 wf0
        obtain ⟨n1, e2, _⟩ := DataW.trod_bool Try.underlying4 k1
        obtain ⟨n2, e3, _⟩ := DataW.trod_int Try.underlying3 k2
        obtain ⟨n3, e4, _⟩ := DataW.trod_int Try.underlying3 k3
        simp at e0 e1 e2 e3 e4
        subst e0 e1 e2 e3 e4
        exact ⟨N, ⟨n0, n1, n2, n3⟩, c5, m, y2, rfl, hwf, hfu, h2⟩
theorem open_tms : ∀ (fuel : Nat) (v : Value) (y : DataW H × List MemPlace), DataW.trod enc Try.prog w base spare held fuel 23 [v] = some y → ∃ (A : Option Addr) (n cap : Nat) (t : Tms), v = .slice A n cap ∧ Tv w A n t := by
  intro fuel
  induction fuel using Nat.strongRecOn with
  | ind fuel ih =>
    intro v y h
    rcases DataW.trod_slice Try.underlying23 h with h0 | ⟨a, len, cap', elems, rest, m, hfu, hcs, _, hb, hl, hm, hlen, hel, _, _⟩
    · obtain ⟨h1, _⟩ := h0
      simp only [List.cons.injEq, and_true] at h1
      exact ⟨none, 0, 0, .nil, h1, Tv.none_ _ _⟩
    · simp only [List.cons.injEq, and_true] at hcs
      have hC : Try.prog.cellsOf 48 = 6 := by kernel_rfl
      rw [hC] at hel
      have one : ∀ i, i < len → ∃ (N : Int) (c : St) (A : Option Addr) (n cap : Nat) (g : Tms), (0 ≤ c.k ∧ c.k ≤ 255) ∧ Tv w A n g ∧ a.block < w.heap.size ∧
          ∀ j u, [Value.int .i64 N, .int .u8 c.k, .bool c.p, .int .i64 c.a, .int .i64 c.b, .slice A n cap][j]? = some u → w.cell? (a.add (i * 6 + j)) = some u := by
        intro i hi
        have he := hel i hi
        rw [List.getElem?_eq_getElem (by omega)] at he
        obtain ⟨cs', hc1, hc2⟩ := Option.bind_eq_some_iff.1 he
        obtain ⟨hbk, hc3, hc4⟩ := World.cells?_some hc1
        obtain ⟨N, c, v', m', z, rfl, hk, hf, hz⟩ := one_term hc3 hc2
        obtain ⟨A, n, cap, g, rfl, hg⟩ := ih m' (by omega) v' z hz
        refine ⟨N, c, A, n, cap, g, hk, hg, ?_, fun j u hu => ?_⟩
        · have h1 := World.block_lt_of_cell? w _ (hc4 0 (by omega))
          have e : ∀ (a : Addr) k, (a.add k).block = a.block := fun a k => by unfold Addr.add; split <;> rfl
          rw [e, e] at h1
          exact h1
        · have hj : j < 6 := (List.getElem?_eq_some_iff.1 hu).1
          rw [← Go.Deep.add_add, hc4 j hj]
          exact hu
      cases len with
      | zero => exact ⟨some a, 0, cap', .nil, hcs, Tv.none_ _ _⟩
      | succ len =>
        obtain ⟨N0, c0, A0, n0, cap0, g0, _, _, hbk, hu0⟩ := one 0 (by omega)
        have h1 := hu0 0 _ rfl
        rw [show a.add (0 * 6 + 0) = a by simp [Addr.add]] at h1
        have hs := spot_none h1
        obtain ⟨b, off, spot⟩ := a
        obtain rfl : spot = none := hs
        have key : ∀ k, k ≤ len + 1 → ∃ t : Tms, t.cnt = k ∧ TAt w t b (off + (len + 1 - k) * 6) := by
          intro k
          induction k with
          | zero => intro _; exact ⟨.nil, rfl, trivial⟩
          | succ k ihk =>
            intro hk
            obtain ⟨t, ht, hat⟩ := ihk (by omega)
            obtain ⟨N, c, A, n, cap, g, hkk, hg, _, hu⟩ := one (len + 1 - (k + 1)) (by omega)
            have hu' : ∀ j u, [Value.int .i64 N, .int .u8 c.k, .bool c.p, .int .i64 c.a, .int .i64 c.b, .slice A n cap][j]? = some u → w.cell? ⟨b, off + (len + 1 - (k + 1)) * 6 + j, none⟩ = some u := by
              intro j u h
              have := hu j u h
              rw [add_plain, ← Nat.add_assoc] at this
              exact this
            refine ⟨.cons N c g t, by simp [Tms.cnt, ht], A, n, cap, hu' 0 _ rfl, hu' 1 _ rfl, hu' 2 _ rfl, hu' 3 _ rfl, hu' 4 _ rfl, hu' 5 _ rfl, hkk, hg.1, hg.2.1, hg.2.2, ?_⟩
            rw [show off + (len + 1 - (k + 1)) * 6 + 6 = off + (len + 1 - k) * 6 by omega]
            exact hat
        obtain ⟨t, ht, hat⟩ := key (len + 1) (Nat.le_refl _)
        refine ⟨some ⟨b, off, none⟩, len + 1, cap', t, hcs, ht, by omega, fun _ => ⟨b, off, rfl, hbk, ?_⟩⟩
        simpa using hat
theorem open_tms_arg {r : Reach} {b0 : Nat} {v : Value} {d : DataW H} {p : List MemPlace} (hv : Value.okWide Try.prog w r b0 23 v) (h : DataW.Trod enc Try.prog w base spare held 23 v d p) :
    ∃ (A : Option Addr) (n cap : Nat) (t : Tms), v = .slice A n cap ∧ Tv w A n t := by
  obtain ⟨a0, len, cap, rfl⟩ := okWide_slice Try.underlying23 hv
  obtain ⟨fuel, hf⟩ := h
  exact open_tms fuel _ _ hf
end
end Go.Proofs.Ytgbmeefcnjdjbaa
