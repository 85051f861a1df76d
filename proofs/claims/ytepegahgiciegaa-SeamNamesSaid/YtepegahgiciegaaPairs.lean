/- Lists of pairs of numbers. -/
import Derived.Test.YtepegahgiciegaaRows
import Derived.Test.YtepegahgiciegaaVec
import Derived.OpenShut
import Derived.Laws.StructEq
namespace Go.Proofs.Ytepegahgiciegaa
open Go.RowKit Go.ChangeShapes Go.WideShapes
def shPair : Shp (Int × Int) where
  size := 2
  cells p := [.int .i64 p.1, .int .i64 p.2]
  pos := by omega
  len _ := rfl
  one p u h := by
    simp at h
    rcases h with h | h <;> subst h <;> rfl
theorem info_pair : (Try.prog.info? 55).map (fun i => (i.zero, i.size, i.bytes)) = some (some (.agg #[.int .i64 0, .int .i64 0]), 2, 16) := by kernel_rfl
theorem Prs.at_ {w : World} {A : Option Addr} {n : Nat} {xs : List (Int × Int)} (h : Vec shPair w A n xs) {k : Nat} (hk : k < n) :
    ∃ b off, A = some ⟨b, off, none⟩ ∧ b < w.heap.size ∧ w.cell? ⟨b, off + k * 2, none⟩ = some (.int .i64 (xs.getD k (0, 0)).1) ∧ w.cell? ⟨b, off + k * 2 + 1, none⟩ = some (.int .i64 (xs.getD k (0, 0)).2) := by
  obtain ⟨b, off, e, hb, hc⟩ := h.2 (by omega)
  have hl := h.1
  have hx : xs[k]? = some (xs.getD k (0, 0)) := by
    rw [List.getD_eq_getElem?_getD, List.getElem?_eq_getElem (by omega)]; rfl
  exact ⟨b, off, e, hb, hc k _ hx 0 _ rfl, hc k _ hx 1 _ rfl⟩
/-- the cells of all pairs, for a base address -/
theorem Prs.all {w : World} {A : Option Addr} {n : Nat} {xs : List (Int × Int)} (h : Vec shPair w A n xs) (hn : 0 < n) :
    ∃ b off, A = some ⟨b, off, none⟩ ∧ b < w.heap.size ∧ ∀ k, k < n → w.cell? ⟨b, off + k * 2, none⟩ = some (.int .i64 (xs.getD k (0, 0)).1) ∧ w.cell? ⟨b, off + k * 2 + 1, none⟩ = some (.int .i64 (xs.getD k (0, 0)).2) := by
  obtain ⟨b, off, e, hb, hc⟩ := h.2 hn
  have hl := h.1
  refine ⟨b, off, e, hb, fun k hk => ?_⟩
  have hx : xs[k]? = some (xs.getD k (0, 0)) := by
    rw [List.getD_eq_getElem?_getD, List.getElem?_eq_getElem (by omega)]; rfl
  exact ⟨hc k _ hx 0 _ rfl, hc k _ hx 1 _ rfl⟩
theorem pair_new (w : World) (x y : Int) (t : TypeId) : ∀ j u, (shPair.cells (x, y))[j]? = some u → ((w.alloc (.cells #[.int .i64 x, .int .i64 y] t)).drew).cell? ⟨w.heap.size, j, none⟩ = some u := by
  intro j u hj
  match j, hj with
  | 0, hj => simp [shPair] at hj; subst hj; simp [go_sem]
  | 1, hj => simp [shPair] at hj; subst hj; simp [go_sem]
/-- what a function that makes a list of pairs ends with -/
def PrsE (w : World) (L : List (Int × Int)) (c : Int) (e : Ending) (w' : World) : Prop := ∃ A cap, e = .returned (.tuple #[.slice A L.length cap, .int .i64 c]) ∧ Vec shPair w' A L.length L ∧ Ext w w'
theorem PrsE.mk {w : World} {L : List (Int × Int)} {c : Int} {e : Ending} {w' : World} (A : Option Addr) (cap : Nat) (h1 : e = .returned (.tuple #[.slice A L.length cap, .int .i64 c])) (h2 : Vec shPair w' A L.length L) (h3 : Ext w w') : PrsE w L c e w' := ⟨A, cap, h1, h2, h3⟩
/-- what a function that makes a list of numbers ends with -/
def IntsE (w : World) (L : List Int) (c : Int) (e : Ending) (w' : World) : Prop := ∃ A cap, e = .returned (.tuple #[.slice A L.length cap, .int .i64 c]) ∧ Ints w' A L.length L ∧ Ext w w'
theorem IntsE.mk {w : World} {L : List Int} {c : Int} {e : Ending} {w' : World} (A : Option Addr) (cap : Nat) (h1 : e = .returned (.tuple #[.slice A L.length cap, .int .i64 c])) (h2 : Ints w' A L.length L) (h3 : Ext w w') : IntsE w L c e w' := ⟨A, cap, h1, h2, h3⟩
section
variable {H : Type} {enc : TypeId × Value → H} {w : World} {base : Nat} {spare : Nat → Bool} {held : Bool}
theorem open_pairs_arg {r : Reach} {b0 : Nat} {v : Value} {d : DataW H} {p : List MemPlace} (hv : Value.okWide Try.prog w r b0 40 v) (h : DataW.Trod enc Try.prog w base spare held 40 v d p) :
    ∃ (A : Option Addr) (n c : Nat) (l : List (Int × Int)), v = .slice A n c ∧ Vec shPair w A n l ∧ n ≤ maxLen := by
  refine open_vec Try.underlying40 (by kernel_rfl) (fun fuel cs y hl hy => ?_) hv h
  obtain ⟨xs, m, _, _, _, hxl, hel⟩ := DataW.trod_array Try.underlying55 hy
  have hC : Try.prog.cellsOf 3 = 1 := by kernel_rfl
  match cs, hl with
  | [c0, c1], _ =>
    have h0 := hel 0 (by omega)
    have h1 := hel 1 (by omega)
    rw [hC] at h0 h1
    match xs, hxl with
    | [y0, y1], _ =>
      obtain ⟨n0, e0, _⟩ := DataW.trod_int Try.underlying3 (x := y0) (by simpa using h0)
      obtain ⟨n1, e1, _⟩ := DataW.trod_int Try.underlying3 (x := y1) (by simpa using h1)
      simp at e0 e1
      subst e0
      subst e1
      exact ⟨(n0, n1), rfl⟩
end
/-- pairs compared -/
theorem run_equalIn_pair (d : Nat) (x y u v : Int) (w : World) : (Op.equalIn (d + 2) 55 (.agg #[.int .i64 x, .int .i64 y]) (.agg #[.int .i64 u, .int .i64 v])).run Try.prog w = .ok (x == u && y == v) w := by
  rw [Op.equalIn]
  have hs : ∀ w, (sizeOf 3).run Try.prog w = .ok 1 w := fun w => by kernel_rfl
  simp only [Sem.run_bind, run_underlying Try.underlying55, Result.andThen_ok, hs, Std.Legacy.Range.forIn_eq_forIn_range', Std.Legacy.Range.size]
  simp [List.range', go_sem, Try.underlying3, part]
  by_cases h1 : x = u <;> by_cases h2 : y = v <;> simp [h1, h2]
theorem run_pair_eq (x y u v : Int) (w : World) : (Op.equalIn 10000 55 (.agg #[.int .i64 x, .int .i64 y]) (.agg #[.int .i64 u, .int .i64 v])).run Try.prog w = .ok (x == u && y == v) w := run_equalIn_pair 9998 x y u v w
end Go.Proofs.Ytepegahgiciegaa
