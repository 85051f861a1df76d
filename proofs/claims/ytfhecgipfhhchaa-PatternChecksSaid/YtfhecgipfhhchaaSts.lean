/- Lists of stitches in memory. -/
import Derived.Test.YtfhecgipfhhchaaRows
import Derived.Test.YtfhecgipfhhchaaVec
import Derived.Test.YtfhecgipfhhchaaStitchP
import Derived.OpenShut
import Derived.Laws.StructEq
import Derived.Lib.SmallJoins
namespace Go.Proofs.Ytfhecgipfhhchaa
set_option maxRecDepth 100000
open Go.RowKit Go.ChangeShapes Go.WideShapes Go.Joins
/-- the cells of a stitch -/
def stc (s : St) : List Value := [.int .u8 s.k, .bool s.p, .int .i64 s.a, .int .i64 s.b]
def shSt : Shp St where
  size := 4
  cells := stc
  pos := by omega
  len _ := rfl
  one p u h := by
    simp [stc] at h
    rcases h with h | h | h | h <;> subst h <;> rfl
theorem info_st : (Try.prog.info? 80).map (fun i => (i.zero, i.size, i.bytes)) = some (some (.agg #[.int .u8 0, .bool false, .int .i64 0, .int .i64 0]), 4, 24) := by kernel_rfl
theorem Sts.all {w : World} {A : Option Addr} {n : Nat} {xs : List St} (h : Vec shSt w A n xs) (hn : 0 < n) :
    ∃ b off, A = some ⟨b, off, none⟩ ∧ b < w.heap.size ∧ ∀ k, k < n → w.cell? ⟨b, off + k * 4, none⟩ = some (.int .u8 (xs.getD k st0).k) ∧ w.cell? ⟨b, off + k * 4 + 1, none⟩ = some (.bool (xs.getD k st0).p) ∧
      w.cell? ⟨b, off + k * 4 + 2, none⟩ = some (.int .i64 (xs.getD k st0).a) ∧ w.cell? ⟨b, off + k * 4 + 3, none⟩ = some (.int .i64 (xs.getD k st0).b) := by
  obtain ⟨b, off, e, hb, hc⟩ := h.2 hn
  have hl := h.1
  refine ⟨b, off, e, hb, fun k hk => ?_⟩
  have hx := getSt (l := xs) (k := k) (by omega)
  exact ⟨hc k _ hx 0 _ rfl, hc k _ hx 1 _ rfl, hc k _ hx 2 _ rfl, hc k _ hx 3 _ rfl⟩
theorem run_equalIn_st (x : Int) (y : Bool) (z t x' : Int) (y' : Bool) (z' t' : Int) (w : World) :
    (Op.equalIn 10000 80 (.agg #[.int .u8 x, .bool y, .int .i64 z, .int .i64 t]) (.agg #[.int .u8 x', .bool y', .int .i64 z', .int .i64 t'])).run Try.prog w = .ok (x == x' && (y == y' && (z == z' && t == t'))) w := by
  rw [run_equalIn_agg (P := Try.prog) w 9999 80 _ _ (by kernel_rfl) (by kernel_rfl)]
  simp [Op.eqFields, Program.fieldsOf, Try.underlying80, go_sem, part, Try.underlying5, Try.underlying4, Try.underlying3]
  by_cases h1 : x = x' <;> by_cases h2 : y = y' <;> by_cases h3 : z = z' <;> by_cases h4 : t = t' <;> simp [h1, h2, h3, h4]
theorem run_st_ne {x : Int} {y : Bool} {z t x' : Int} {y' : Bool} {z' t' : Int} (h : ¬ (⟨x, y, z, t⟩ : St) = ⟨x', y', z', t'⟩) (w : World) :
    (binOp .neq 80 (.agg #[.int .u8 x, .bool y, .int .i64 z, .int .i64 t]) (.agg #[.int .u8 x', .bool y', .int .i64 z', .int .i64 t'])).run Try.prog w = .ok (.bool true) w := by
  rw [run_neq_struct, run_equalIn_st]
  have : (x == x' && (y == y' && (z == z' && t == t'))) = false := by
    cases e : (x == x' && (y == y' && (z == z' && t == t')))
    · rfl
    · simp at e
      obtain ⟨rfl, rfl, rfl, rfl⟩ := e
      exact absurd rfl h
  rw [this]
  rfl
theorem run_st_eq {x : Int} {y : Bool} {z t x' : Int} {y' : Bool} {z' t' : Int} (h : ¬ (⟨x, y, z, t⟩ : St) = ⟨x', y', z', t'⟩) (w : World) :
    (binOp .eql 80 (.agg #[.int .u8 x, .bool y, .int .i64 z, .int .i64 t]) (.agg #[.int .u8 x', .bool y', .int .i64 z', .int .i64 t'])).run Try.prog w = .ok (.bool false) w := by
  rw [run_eql_struct, run_equalIn_st]
  have : (x == x' && (y == y' && (z == z' && t == t'))) = false := by
    cases e : (x == x' && (y == y' && (z == z' && t == t')))
    · rfl
    · simp at e
      obtain ⟨rfl, rfl, rfl, rfl⟩ := e
      exact absurd rfl h
  rw [this]
  rfl
section
variable {H : Type} {enc : TypeId × Value → H} {w : World} {base : Nat} {spare : Nat → Bool} {held : Bool}
theorem open_sts_arg {r : Reach} {b0 : Nat} {v : Value} {d : DataW H} {p : List MemPlace} (hv : Value.okWide Try.prog w r b0 63 v) (h : DataW.Trod enc Try.prog w base spare held 63 v d p) :
    ∃ (A : Option Addr) (n c : Nat) (l : List St), v = .slice A n c ∧ Vec shSt w A n l ∧ n ≤ maxLen ∧ Bytes l := by
  suffices hs : ∃ (A : Option Addr) (n c : Nat) (l : List St), v = .slice A n c ∧ Vec shSt w A n l ∧ n ≤ maxLen ∧ ∀ s ∈ l, 0 ≤ s.k ∧ s.k ≤ 255 by
    obtain ⟨A, n, c, l, h1, h2, h3, h4⟩ := hs
    exact ⟨A, n, c, l, h1, h2, h3, bytes_of h4⟩
  refine open_vecQ Try.underlying63 (by kernel_rfl) (fun fuel cs y hl hy => ?_) hv h
  obtain ⟨xs, m, _, _, _, hxl, hel⟩ := DataW.trod_struct Try.underlying80 hy
  match cs, hl with
  | [c0, c1, c2, c3], _ =>
    match xs, hxl with
    | [y0, y1, y2, y3], _ =>
      have C0 : Try.prog.cellsOf 5 = 1 := by kernel_rfl
      have C1 : Try.prog.cellsOf 4 = 1 := by kernel_rfl
      have C2 : Try.prog.cellsOf 3 = 1 := by kernel_rfl
      have h0 := hel 0 _ rfl
      have h1 := hel 1 _ rfl
      have h2 := hel 2 _ rfl
      have h3 := hel 3 _ rfl
      simp [C0, C1, C2] at h0 h1 h2 h3
      obtain ⟨n0, e0, _, wf0⟩ := DataW.trod_int Try.underlying5 h0
      have hwf := bounds_u8 wf0
      obtain ⟨n1, e1, _⟩ := DataW.trod_bool Try.underlying4 h1
      obtain ⟨n2, e2, _⟩ := DataW.trod_int Try.underlying3 h2
      obtain ⟨n3, e3, _⟩ := DataW.trod_int Try.underlying3 h3
      simp at e0 e1 e2 e3
      subst e0
      subst e1
      subst e2
      subst e3
      exact ⟨⟨n0, n1, n2, n3⟩, rfl, hwf⟩
theorem open_st_arg {r : Reach} {b0 : Nat} {v : Value} {d : DataW H} {p : List MemPlace} (hv : Value.okWide Try.prog w r b0 80 v) (h : DataW.Trod enc Try.prog w base spare held 80 v d p) :
    ∃ (k : Int) (p : Bool) (a b : Int), v = .agg #[.int .u8 k, .bool p, .int .i64 a, .int .i64 b] ∧ 0 ≤ k ∧ k ≤ 255 := by
  obtain ⟨v0, v1, v2, v3, y0, y1, y2, y3, n, rfl, -, -, h0, h1, h2, h3⟩ := open_agg4 Try.underlying80 (by kernel_rfl) (by kernel_rfl) hv h
  obtain ⟨a, e0, -, wf0⟩ := DataW.trod_int Try.underlying5 h0
  have hwf := bounds_u8 wf0
  obtain ⟨b, e1, -⟩ := DataW.trod_bool Try.underlying4 h1
  obtain ⟨c, e2, -, -⟩ := DataW.trod_int Try.underlying3 h2
  obtain ⟨d', e3, -, -⟩ := DataW.trod_int Try.underlying3 h3
  simp at e0 e1 e2 e3
  subst e0 e1 e2 e3
  exact ⟨a, b, c, d', rfl, hwf⟩
end
end Go.Proofs.Ytfhecgipfhhchaa
