/- Strings in memory; Index, Names, twice of the reference. -/
import Derived.Test.YtfhecgipfhhchaaPtC
namespace Go.Proofs.Ytfhecgipfhhchaa
set_option maxRecDepth 100000
set_option maxRecDepth 100000
open Go.RowKit Go.ChangeShapes Go.WideShapes Go.Joins
def shStr1 : Shp (List UInt8) where
  size := 1
  cells x := [.string ⟨x.toArray⟩]
  pos := by omega
  len _ := rfl
  one x u h := by
    simp at h
    subst h
    rfl
theorem info_str1 : (Try.prog.info? 9).map (fun i => (i.zero, i.size, i.bytes)) = some (some (.string ⟨#[]⟩), 1, 16) := by kernel_rfl
def nmsL (g : Nat → List UInt8) (n : Nat) : List (List UInt8) := (List.range n).map g
theorem nms_succ (g : Nat → List UInt8) (n : Nat) : nmsL g (n + 1) = nmsL g n ++ [g n] := by
  unfold nmsL
  rw [List.range_succ, List.map_append]
  rfl
theorem nms_len (g : Nat → List UInt8) (n : Nat) : (nmsL g n).length = n := by simp [nmsL]
theorem nms_get {g : Nat → List UInt8} {n i : Nat} (h : i < n) : (nmsL g n).getD i [] = g i := by
  unfold nmsL
  rw [List.getD_eq_getElem?_getD, List.getElem?_map, List.getElem?_range h]
  rfl
theorem among_congr {g h : Nat → List UInt8} {i k : Nat} (hi : g i = h i) (hk : ∀ j, j < k → g j = h j) : amongB g i k = amongB h i k := by
  induction k with
  | zero => rfl
  | succ k ih => rw [among_succ, among_succ, ih (fun j hj => hk j (by omega)), hi, hk k (by omega)]
theorem twice_congr {g h : Nat → List UInt8} {n : Nat} (hk : ∀ j, j < n → g j = h j) : twiceB g n = twiceB h n := by
  induction n with
  | zero => rfl
  | succ n ih => rw [twice_succ, twice_succ, ih (fun j hj => hk j (by omega)), among_congr (hk n (by omega)) (fun j hj => hk j (by omega))]
theorem among_iff {g : Nat → List UInt8} {i k : Nat} : amongB g i k = true ↔ ∃ j, j < k ∧ g i = g j := by
  unfold amongB
  rw [List.any_eq_true]
  constructor
  · rintro ⟨j, h1, h2⟩
    exact ⟨j, List.mem_range.1 h1, by simpa using h2⟩
  · rintro ⟨j, h1, h2⟩
    exact ⟨j, List.mem_range.2 h1, by simpa using h2⟩
/-- the first place is ahead of one just if the name is among those ahead of it -/
theorem idx_lt {g : Nat → List UInt8} {x : List UInt8} : ∀ (n k i : Nat), k ≤ i → i < k + n → g i = x → (idxN g x n k < (i : Int) ↔ ∃ j, k ≤ j ∧ j < i ∧ g j = x) := by
  intro n
  induction n with
  | zero => intro k i h1 h2; omega
  | succ n ih =>
    intro k i h1 h2 h3
    rw [idxN]
    by_cases hk : g k = x
    · rw [if_pos hk]
      constructor
      · intro h; exact ⟨k, Nat.le_refl _, by omega, hk⟩
      · rintro ⟨j, h4, h5, _⟩; omega
    · rw [if_neg hk]
      have hki : k ≠ i := by rintro rfl; exact hk h3
      rw [ih (k + 1) i (by omega) (by omega) h3]
      constructor
      · rintro ⟨j, h4, h5, h6⟩; exact ⟨j, by omega, h5, h6⟩
      · rintro ⟨j, h4, h5, h6⟩
        have : j ≠ k := by rintro rfl; exact hk h6
        exact ⟨j, by omega, h5, h6⟩
theorem idx_among {g : Nat → List UInt8} {n i : Nat} (hi : i < n) : (idxN g (g i) n 0 < (i : Int) ↔ amongB g i i = true) := by
  rw [idx_lt n 0 i (Nat.zero_le _) (by omega) rfl, among_iff]
  constructor
  · rintro ⟨j, _, h1, h2⟩; exact ⟨j, h1, h2.symm⟩
  · rintro ⟨j, h1, h2⟩; exact ⟨j, Nat.zero_le _, h1, h2.symm⟩
theorem twice_yes {g : Nat → List UInt8} {n i : Nat} (hi : i < n) (h : amongB g i i = true) : twiceB g n = true := by
  unfold twiceB
  rw [List.any_eq_true]
  exact ⟨i, List.mem_range.2 hi, h⟩
theorem Str.at_ {w : World} {A : Option Addr} {n : Nat} {l : List (List UInt8)} (h : Vec shStr1 w A n l) {k : Nat} (hk : k < n) :
    ∃ (b off : Nat), A = some ⟨b, off, none⟩ ∧ b < w.heap.size ∧ w.cell? ⟨b, off + k, none⟩ = some (.string ⟨(l.getD k []).toArray⟩) := by
  obtain ⟨b, off, e, hlt, hc⟩ := h.2 (by omega)
  have hx : l[k]? = some (l.getD k []) := by
    rw [List.getD_eq_getElem?_getD, List.getElem?_eq_getElem (by rw [h.1]; exact hk)]; rfl
  have h9 := hc k _ hx 0 _ rfl
  exact ⟨b, off, e, hlt, by simpa [shStr1] using h9⟩
set_option maxHeartbeats 4000000 in
theorem ridx_any (A : Option Addr) (n c : Nat) (l : List (List UInt8)) (x : List UInt8) (w : World) (hl : Vec shStr1 w A n l) (hn : n ≤ 100000) :
    Calls Try.prog 14 #[.slice A n c, .string ⟨x.toArray⟩] w fun e w' => e = .returned (.int .i64 (idxN (fun i => l.getD i []) x n 0)) ∧ Ext w w' := by
  have HL := Lib.hid hl
  obtain ⟨R, hR⟩ : ∃ R, idxN (fun i => l.getD i []) x n 0 = R := ⟨_, rfl⟩
  have HR := Lib.hid hR
  rw [hR]
  clear hl hR
  go_enter Try.func14, Try.ntmps14
  go_wp2_with fail
  go_loopw [5] (fun i wr => ∃ k : Nat, i = .int .i64 (k : Int) ∧ k ≤ n ∧ Hid (R = idxN (fun i => l.getD i []) x (n - k) k) ∧ Hid (Ext w wr)) (fun i _ => n - (intOf i).toNat)
  case atStart => exact ⟨0, rfl, Nat.zero_le _, Lib.hid HR.out.symm, Lib.hid (Ext.refl _)⟩
  case round =>
    obtain ⟨k, rfl, hk, HI, HE⟩ := hrel
    obtain ⟨wa, rfl⟩ : ∃ wa : World, wa = wr := ⟨_, rfl⟩
    have q0 : (0 : Int) ≤ (k : Int) := by omega
    by_cases hlt : k < n
    · have q1 : (k : Int) < (n : Int) := by omega
      obtain ⟨b, off, rfl, hb, c0⟩ := Str.at_ (HL.out.ext HE.out) hlt
      obtain ⟨m, hm⟩ : ∃ m, n - k = m + 1 := ⟨n - k - 1, by omega⟩
      have hI := HI.out
      rw [hm, idxN] at hI
      have hm2 : n - (k + 1) = m := by omega
      obtain ⟨Y, hY⟩ : ∃ Y, l.getD k [] = Y := ⟨_, rfl⟩
      rw [hY] at c0
      by_cases hxy : Y = x
      · rw [if_pos (hY.trans hxy)] at hI
        have HN := Lib.hid hI
        have hb1 : (Y == x) = true := by simpa using hxy
        clear hI hm hm2 hY hxy
        go_wp2_with fail
        go_ret
        exact ⟨by rw [HN.out]; rfl, HE.out⟩
      · rw [if_neg (fun h9 => hxy (hY.symm.trans h9)), ← hm2] at hI
        have HN := Lib.hid hI
        have hb1 : (Y == x) = false := by simpa using hxy
        clear hI hm hm2 hY hxy
        go_wp2_with fail
        go_roundw
        case rel => exact ⟨k + 1, by go_num, by omega, HN, HE⟩
        case measure => simp [intOf] <;> omega
    · obtain rfl : n = k := by omega
      have HN := Lib.hid (show R = -1 by rw [HI.out, Nat.sub_self]; rfl)
      go_wp2_with fail
      go_ret
      exact ⟨by rw [HN.out]; rfl, HE.out⟩
set_option maxHeartbeats 4000000 in
theorem rtwice_any (A : Option Addr) (n c : Nat) (l : List (List UInt8)) (w : World) (hl : Vec shStr1 w A n l) (hn : n ≤ 100000) :
    Calls Try.prog 24 #[.slice A n c] w fun e w' => e = .returned (.bool (twiceB (fun i => l.getD i []) n)) ∧ Ext w w' := by
  have HL := Lib.hid hl
  clear hl
  go_enter Try.func24, Try.ntmps24
  go_wp2_with fail
  go_loopw [3] (fun i wr => ∃ k : Nat, i = .int .i64 (k : Int) ∧ k ≤ n ∧ Hid (twiceB (fun i => l.getD i []) k = false) ∧ Hid (Ext w wr)) (fun i _ => n - (intOf i).toNat)
  case atStart => exact ⟨0, rfl, Nat.zero_le _, Lib.hid rfl, Lib.hid (Ext.refl _)⟩
  case round =>
    obtain ⟨k, rfl, hk, HT, HE⟩ := hrel
    obtain ⟨wa, rfl⟩ : ∃ wa : World, wa = wr := ⟨_, rfl⟩
    have q0 : (0 : Int) ≤ (k : Int) := by omega
    by_cases hlt : k < n
    · have q1 : (k : Int) < (n : Int) := by omega
      obtain ⟨b, off, rfl, hb, c0⟩ := Str.at_ (HL.out.ext HE.out) hlt
      have hia := idx_among (g := fun i => l.getD i []) hlt
      have HIX := Lib.hid (fun (w' : World) (h : Ext wa w') => ridx_any (some ⟨b, off, none⟩) n c l (l.getD k []) w' (HL.out.ext (HE.out.trans h)) hn)
      obtain ⟨I, hI⟩ : ∃ I, idxN (fun i => l.getD i []) (l.getD k []) n 0 = I := ⟨_, rfl⟩
      rw [hI] at hia HIX
      obtain ⟨Y, hY⟩ : ∃ Y, l.getD k [] = Y := ⟨_, rfl⟩
      rw [hY] at c0 HIX
      clear hY hI
      by_cases hlo : I < (k : Int)
      · have HN := Lib.hid (twice_yes hlt (hia.1 hlo))
        clear hia
        go_wp2_with (first
          | (go_at_call 14; go_loud ((with_reducible refine (HIX.out _ (by repeat (first | exact Ext.refl _ | assumption | refine Ext.alloc ?_ _ | refine Ext.drew ?_ | refine Ext.drewN ?_ _ | refine Ext.trans ?_ (by assumption)))).mono ?_); rintro e w5 ⟨rfl, hq5⟩)))
        go_ret
        exact ⟨by rw [HN.out]; rfl, HE.out.trans (by repeat (first | exact Ext.refl _ | assumption | refine Ext.alloc ?_ _ | refine Ext.drew ?_ | refine Ext.drewN ?_ _ | refine Ext.trans ?_ (by assumption)))⟩
      · have HN := Lib.hid (show twiceB (fun i => l.getD i []) (k + 1) = false by
          rw [twice_succ, HT.out, Bool.false_or, Bool.eq_false_iff]
          exact fun h9 => hlo (hia.2 h9))
        clear hia
        go_wp2_with (first
          | (go_at_call 14; go_loud ((with_reducible refine (HIX.out _ (by repeat (first | exact Ext.refl _ | assumption | refine Ext.alloc ?_ _ | refine Ext.drew ?_ | refine Ext.drewN ?_ _ | refine Ext.trans ?_ (by assumption)))).mono ?_); rintro e w5 ⟨rfl, hq5⟩)))
        go_roundw
        case rel => exact ⟨k + 1, by go_num, by omega, HN, Lib.hid (HE.out.trans (by repeat (first | exact Ext.refl _ | assumption | refine Ext.alloc ?_ _ | refine Ext.drew ?_ | refine Ext.drewN ?_ _ | refine Ext.trans ?_ (by assumption))))⟩
        case measure => simp [intOf] <;> omega
    · obtain rfl : n = k := by omega
      go_wp2_with fail
      go_ret
      exact ⟨by rw [HT.out]; rfl, HE.out⟩
end Go.Proofs.Ytfhecgipfhhchaa
