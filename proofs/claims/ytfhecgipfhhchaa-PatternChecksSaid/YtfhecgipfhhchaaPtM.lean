/- Patterns in memory. -/
import Derived.Test.YtfhecgipfhhchaaRws
import Derived.Test.YtfhecgipfhhchaaPtP
namespace Go.Proofs.Ytfhecgipfhhchaa
set_option maxRecDepth 100000
open Go.RowKit Go.ChangeShapes Go.WideShapes Go.Joins
def shStf : Shp Stf where
  size := 2
  cells x := [.string ⟨x.nm.toArray⟩, .int .i64 x.g]
  pos := by omega
  len _ := rfl
  one x u h := by
    simp at h
    rcases h with h | h <;> subst h <;> rfl
/-- a section as its cells tell it -/
structure RSec where
  nm : List UInt8
  s : Int
  A : Option Addr
  n : Nat
  c : Nat
def rsec0 : RSec := ⟨[], 0, none, 0, 0⟩
def shSec : Shp RSec where
  size := 3
  cells x := [.string ⟨x.nm.toArray⟩, .int .i64 x.s, .slice x.A x.n x.c]
  pos := by omega
  len _ := rfl
  one x u h := by
    simp at h
    rcases h with h | h | h <;> subst h <;> rfl
def SeAt (w : World) (x : RSec) (r : Sec) : Prop := x.nm = r.nm ∧ x.s = r.s ∧ Rws w (fun _ => True) x.A x.n r.rows ∧ x.n ≤ x.c
/-- the slice with this address and length reads as these sections -/
def Secs (w : World) (A : Option Addr) (n : Nat) (l : List Sec) : Prop := n ≤ maxLen ∧ ∃ xs : List RSec, Vec shSec w A n xs ∧ xs.length = l.length ∧ ∀ k, k < l.length → SeAt w (xs.getD k rsec0) (l.getD k sec0)
theorem Secs.len {w : World} {A : Option Addr} {n : Nat} {l : List Sec} (h : Secs w A n l) : l.length = n := by
  obtain ⟨_, xs, h1, h2, _⟩ := h
  rw [← h2]
  exact h1.1
theorem Secs.ext {w w' : World} {A : Option Addr} {n : Nat} {l : List Sec} (h : Secs w A n l) (hb : Ext w w') : Secs w' A n l := by
  obtain ⟨h0, xs, h1, h2, h3⟩ := h
  exact ⟨h0, xs, h1.ext hb, h2, fun k hk => ⟨(h3 k hk).1, (h3 k hk).2.1, (h3 k hk).2.2.1.ext hb, (h3 k hk).2.2.2⟩⟩
/-- one of the sections -/
theorem Secs.at_ {w : World} {A : Option Addr} {n : Nat} {l : List Sec} (h : Secs w A n l) {k : Nat} (hk : k < n) :
    ∃ (b off : Nat) (A' : Option Addr) (n' c' : Nat), A = some ⟨b, off, none⟩ ∧ b < w.heap.size ∧ w.cell? ⟨b, off + k * 3, none⟩ = some (.string ⟨(seN l k).toArray⟩) ∧ w.cell? ⟨b, off + k * 3 + 1, none⟩ = some (.int .i64 (l.getD k sec0).s) ∧
      w.cell? ⟨b, off + k * 3 + 2, none⟩ = some (.slice A' n' c') ∧ Rws w (fun _ => True) A' n' (l.getD k sec0).rows ∧ n' ≤ c' := by
  have hl := h.len
  obtain ⟨h0, xs, h1, h2, h3⟩ := h
  obtain ⟨b, off, e, hlt, hc⟩ := h1.2 (by omega)
  have hx : xs[k]? = some (xs.getD k rsec0) := by
    rw [List.getD_eq_getElem?_getD, List.getElem?_eq_getElem (by omega)]; rfl
  obtain ⟨g1, g2, g3, g4⟩ := h3 k (by omega)
  refine ⟨b, off, (xs.getD k rsec0).A, (xs.getD k rsec0).n, (xs.getD k rsec0).c, e, hlt, ?_, ?_, hc k _ hx 2 _ rfl, g3, g4⟩
  · unfold seN; rw [← g1]; exact hc k _ hx 0 _ rfl
  · rw [← g2]; exact hc k _ hx 1 _ rfl
/-- one of the yarns -/
theorem Stf.at_ {w : World} {A : Option Addr} {n : Nat} {l : List Stf} (h : Vec shStf w A n l) {k : Nat} (hk : k < n) :
    ∃ (b off : Nat), A = some ⟨b, off, none⟩ ∧ b < w.heap.size ∧ w.cell? ⟨b, off + k * 2, none⟩ = some (.string ⟨(stN l k).toArray⟩) ∧ w.cell? ⟨b, off + k * 2 + 1, none⟩ = some (.int .i64 (l.getD k stf0).g) := by
  obtain ⟨b, off, e, hlt, hc⟩ := h.2 (by omega)
  have hx : l[k]? = some (l.getD k stf0) := by
    rw [List.getD_eq_getElem?_getD, List.getElem?_eq_getElem (by rw [h.1]; exact hk)]; rfl
  exact ⟨b, off, e, hlt, hc k _ hx 0 _ rfl, hc k _ hx 1 _ rfl⟩
section
variable {H : Type} {enc : TypeId × Value → H} {w : World} {base : Nat} {spare : Nat → Bool} {held : Bool}
theorem open_stf_in {fuel : Nat} {v : Value} {y : DataW H × List MemPlace} (h : DataW.trod enc Try.prog w base spare held fuel 24 [v] = some y) :
    ∃ (A : Option Addr) (n c : Nat) (l : List Stf), v = .slice A n c ∧ Vec shStf w A n l ∧ n ≤ maxLen := by
  obtain ⟨A, n, c, l, e, hv, hm, -⟩ := open_vecT (S := shStf) (Q := fun _ => True) Try.underlying24 (by kernel_rfl) (fun fuel cs y hl hy => by
    obtain ⟨xs, m, _, _, _, hxl, hel⟩ := DataW.trod_struct Try.underlying46 hy
    match cs, hl with
    | [c0, c1], _ =>
      match xs, hxl with
      | [y0, y1], _ =>
        have C0 : Try.prog.cellsOf 9 = 1 := by kernel_rfl
        have C1 : Try.prog.cellsOf 3 = 1 := by kernel_rfl
        have h0 := hel 0 _ rfl
        have h1 := hel 1 _ rfl
        simp [C0, C1] at h0 h1
        obtain ⟨b, e0, _, _⟩ := DataW.trod_string Try.underlying9 h0
        obtain ⟨n1, e1, _⟩ := DataW.trod_int Try.underlying3 h1
        simp at e0 e1
        subst e0
        subst e1
        exact ⟨⟨b.data.toList, n1⟩, by simp [shStf], trivial⟩) h
  exact ⟨A, n, c, l, e, hv, hm⟩
theorem slice_capS {P : Program} {t e : TypeId} {A : Option Addr} {n c fuel : Nat} {y : DataW H × List MemPlace} (ht : P.underlying t = some (.slice e)) (h : DataW.trod enc P w base spare held fuel t [.slice A n c] = some y) : n ≤ c := by
  rcases Go.Deep.open_slice ht h with ⟨hcs, _⟩ | ⟨a, len, cap, m, n, D, Pl, hcs, _, hl, _⟩
  · simp only [List.cons.injEq, and_true, Value.slice.injEq] at hcs
    omega
  · simp only [List.cons.injEq, and_true, Value.slice.injEq] at hcs
    omega
theorem open_sec_in {fuel : Nat} {v : Value} {y : DataW H × List MemPlace} (h : DataW.trod enc Try.prog w base spare held fuel 25 [v] = some y) :
    ∃ (A : Option Addr) (n c : Nat) (l : List Sec), v = .slice A n c ∧ Secs w A n l := by
  obtain ⟨A, n, c, xs, e, hv, hm, hq⟩ := open_vecT (S := shSec) (Q := fun x => ∃ r, SeAt w x r) Try.underlying25 (by kernel_rfl) (fun fuel cs y hl hy => by
    obtain ⟨xs, m, _, _, _, hxl, hel⟩ := DataW.trod_struct Try.underlying48 hy
    match cs, hl with
    | [c0, c1, c2], _ =>
      match xs, hxl with
      | [y0, y1], _ =>
        have C0 : Try.prog.cellsOf 9 = 1 := by kernel_rfl
        have C1 : Try.prog.cellsOf 31 = 2 := by kernel_rfl
        have h0 := hel 0 _ rfl
        have h1 := hel 1 _ rfl
        simp [C0, C1] at h0 h1
        obtain ⟨b, e0, _, _⟩ := DataW.trod_string Try.underlying9 h0
        simp at e0
        subst e0
        obtain ⟨zs, m2, _, _, _, hzl, hez⟩ := DataW.trod_struct Try.underlying31 h1
        match zs, hzl with
        | [z0, z1], _ =>
          have C2 : Try.prog.cellsOf 3 = 1 := by kernel_rfl
          have C3 : Try.prog.cellsOf 29 = 1 := by kernel_rfl
          have k0 := hez 0 _ rfl
          have k1 := hez 1 _ rfl
          simp [C2, C3] at k0 k1
          obtain ⟨n1, e1, _⟩ := DataW.trod_int Try.underlying3 k0
          simp at e1
          subst e1
          obtain ⟨A', n', c', l, rfl, hl⟩ := open_rows_in k1
          exact ⟨⟨b.data.toList, n1, A', n', c'⟩, by simp [shSec], ⟨b.data.toList, n1, l⟩, rfl, rfl, hl, slice_capS Try.underlying29 k1⟩) h
  have key : ∀ xs : List RSec, (∀ x ∈ xs, ∃ r, SeAt w x r) → ∃ l : List Sec, xs.length = l.length ∧ ∀ k, k < l.length → SeAt w (xs.getD k rsec0) (l.getD k sec0) := by
    intro xs
    induction xs with
    | nil => intro _; exact ⟨[], rfl, fun k hk => by simp at hk⟩
    | cons x xs ih =>
      intro hx
      obtain ⟨r, hr⟩ := hx x (by simp)
      obtain ⟨l, hl⟩ := ih (fun z hz => hx z (by simp [hz]))
      refine ⟨r :: l, by simp [hl.1], fun k hk => ?_⟩
      cases k with
      | zero => simpa using hr
      | succ k => simpa using hl.2 k (by simpa using hk)
  obtain ⟨l, hl⟩ := key xs hq
  exact ⟨A, n, c, l, e, hm, xs, hv, hl⟩
/-- a pattern that comes in -/
theorem open_pat_arg {r : Reach} {b0 : Nat} {v : Value} {d : DataW H} {p : List MemPlace} (hv : Value.okWide Try.prog w r b0 27 v) (h : DataW.Trod enc Try.prog w base spare held 27 v d p) :
    ∃ (nm : List UInt8) (g1 g2 g3 g4 : Int) (As : Option Addr) (ns cs : Nat) (st : List Stf) (Ac : Option Addr) (nc cc : Nat) (se : List Sec),
      v = .agg #[.string ⟨nm.toArray⟩, .int .i64 g1, .int .i64 g2, .int .i64 g3, .int .i64 g4, .slice As ns cs, .slice Ac nc cc] ∧ Vec shStf w As ns st ∧ ns ≤ maxLen ∧ Secs w Ac nc se := by
  obtain ⟨vs, rfl, hsz⟩ := okWide_struct Try.underlying27 hv
  have hC : Try.prog.cellsOf 27 = 7 := by kernel_rfl
  rw [hC] at hsz
  obtain ⟨L, rfl⟩ : ∃ L : List Value, vs = L.toArray := ⟨vs.toList, by simp⟩
  obtain ⟨fuel, hf⟩ := h
  match L, hsz with
  | [a0, a1, a2, a3, a4, a5, a6], _ =>
    obtain ⟨xs, m, _, _, _, hxl, hel⟩ := DataW.trod_struct Try.underlying27 hf
    match xs, hxl with
    | [y0, y1, y2, y3], _ =>
      have C0 : Try.prog.cellsOf 9 = 1 := by kernel_rfl
      have C1 : Try.prog.cellsOf 23 = 4 := by kernel_rfl
      have C2 : Try.prog.cellsOf 24 = 1 := by kernel_rfl
      have C3 : Try.prog.cellsOf 25 = 1 := by kernel_rfl
      have C4 : Try.prog.cellsOf 3 = 1 := by kernel_rfl
      have h0 := hel 0 _ rfl
      have h1 := hel 1 _ rfl
      have h2 := hel 2 _ rfl
      have h3 := hel 3 _ rfl
      simp [C0, C1, C2, C3, Value.cells] at h0 h1 h2 h3
      obtain ⟨b, e0, _, _⟩ := DataW.trod_string Try.underlying9 h0
      simp at e0
      subst e0
      obtain ⟨A, n, c, st, rfl, hst, hns⟩ := open_stf_in h2
      obtain ⟨A2, n2, c2, se, rfl, hse⟩ := open_sec_in h3
      obtain ⟨zs, m2, _, _, _, hzl, hez⟩ := DataW.trod_struct Try.underlying23 h1
      match zs, hzl with
      | [z0, z1, z2, z3], _ =>
        have k0 := hez 0 _ rfl
        have k1 := hez 1 _ rfl
        have k2 := hez 2 _ rfl
        have k3 := hez 3 _ rfl
        simp [C4] at k0 k1 k2 k3
        obtain ⟨g1, e1, _⟩ := DataW.trod_int Try.underlying3 k0
        obtain ⟨g2, e2, _⟩ := DataW.trod_int Try.underlying3 k1
        obtain ⟨g3, e3, _⟩ := DataW.trod_int Try.underlying3 k2
        obtain ⟨g4, e4, _⟩ := DataW.trod_int Try.underlying3 k3
        simp at e1 e2 e3 e4
        subst e1
        subst e2
        subst e3
        subst e4
        exact ⟨b.data.toList, g1, g2, g3, g4, A, n, c, st, A2, n2, c2, se, by simp, hst, hns, hse⟩
end
end Go.Proofs.Ytfhecgipfhhchaa
