/- The plain laws of seams. -/
import Derived.Test.YtepegahgiciegaaSeamP
namespace Go.Proofs.Ytepegahgiciegaa
theorem ge_iff {u v d : Int} (hu : 0 < u) (hd : 0 < d) (j k : Int) : j ≤ (u * k + v) / d ↔ (j * d - v + u - 1) / u ≤ k := by
  have h : (j * d - v + u - 1) / u ≤ k ↔ j * d - v + u - 1 < (k + 1) * u := by rw [← Int.ediv_lt_iff_lt_mul hu]; omega
  rw [Int.le_ediv_iff_mul_le hd, h, Int.add_mul, Int.one_mul, Int.mul_comm u k]
  omega
theorem countP_between (A B : Nat) (hAB : A ≤ B) (m : Nat) : (List.range m).countP (fun k => decide (A ≤ k) && decide (k < B)) = min B m - min A m := by
  induction m with
  | zero => simp
  | succ m ih =>
    rw [List.range_succ, List.countP_append, ih, List.countP_singleton]
    by_cases h1 : A ≤ m <;> by_cases h2 : m < B <;> simp [h1, h2] <;> omega
/-- how often a number is met -/
theorem cnt_eq {u v d : Int} {m J : Nat} (hu : 0 < u) (hd : 0 < d) (hv : v < u) (hJ : ∀ k : Int, (J : Int) ≤ (u * k + v) / d ↔ (m : Int) ≤ k) {j : Nat} (hj : j < J) :
    ∃ D : Int, ((List.range m).countP (fun k : Nat => (u * (k : Int) + v) / d == (j : Int)) : Int) = D ∧ D * u ≤ d + u - 1 ∧ d - u + 1 ≤ D * u := by
  have hC : ∀ i : Nat, 0 ≤ ((i : Int) * d - v + u - 1) / u := fun i => Int.ediv_nonneg (by have := Int.mul_nonneg (show 0 ≤ (i : Int) by omega) (show 0 ≤ d by omega); omega) (by omega)
  have hm : ((J : Int) * d - v + u - 1) / u = m := by
    have e : ∀ k : Int, ((J : Int) * d - v + u - 1) / u ≤ k ↔ (m : Int) ≤ k := fun k => (ge_iff hu hd _ _).symm.trans (hJ k)
    have h1 := (e m).2 (Int.le_refl _)
    have h2 := (e _).1 (Int.le_refl _)
    omega
  have hmono : ∀ x y : Int, x ≤ y → (x * d - v + u - 1) / u ≤ (y * d - v + u - 1) / u := fun x y hxy => Int.ediv_le_ediv hu (by have := Int.mul_le_mul_of_nonneg_right hxy (show 0 ≤ d by omega); omega)
  obtain ⟨A, hA⟩ := Int.eq_ofNat_of_zero_le (hC j)
  obtain ⟨B, hB⟩ := Int.eq_ofNat_of_zero_le (hC (j + 1))
  have hAB : A ≤ B := by
    have := hmono (j : Int) ((j + 1 : Nat) : Int) (by omega)
    rw [hA, hB] at this; omega
  have hBm : B ≤ m := by
    have := hmono ((j + 1 : Nat) : Int) J (by omega)
    rw [hB, hm] at this; omega
  have hc : (List.range m).countP (fun k : Nat => (u * (k : Int) + v) / d == (j : Int)) = B - A := by
    rw [show (fun k : Nat => (u * (k : Int) + v) / d == (j : Int)) = (fun k : Nat => decide (A ≤ k) && decide (k < B)) from ?_, countP_between A B hAB]
    · omega
    · funext k
      have h1 := ge_iff (v := v) hu hd (j : Int) k
      have h2 := ge_iff (v := v) hu hd ((j + 1 : Nat) : Int) k
      rw [hA] at h1
      rw [hB] at h2
      rw [Bool.eq_iff_iff]
      simp only [beq_iff_eq, Bool.and_eq_true, decide_eq_true_eq]
      omega
  refine ⟨(B : Int) - A, by omega, ?_⟩
  have a1 := Int.ediv_mul_le ((j : Int) * d - v + u - 1) (show u ≠ 0 by omega)
  have a2 := Int.lt_ediv_add_one_mul_self ((j : Int) * d - v + u - 1) hu
  have b1 := Int.ediv_mul_le (((j + 1 : Nat) : Int) * d - v + u - 1) (show u ≠ 0 by omega)
  have b2 := Int.lt_ediv_add_one_mul_self (((j + 1 : Nat) : Int) * d - v + u - 1) hu
  rw [hA] at a1 a2
  rw [hB] at b1 b2
  have e1 : ((j + 1 : Nat) : Int) * d = (j : Int) * d + d := by rw [show ((j + 1 : Nat) : Int) = (j : Int) + 1 from rfl, Int.add_mul, Int.one_mul]
  rw [e1] at b1 b2
  rw [Int.add_mul, Int.one_mul] at a2 b2
  rw [Int.sub_mul]
  omega
theorem cnt_bd {u d D : Int} (hu : 0 < u) (h1 : D * u ≤ d + u - 1) (h2 : d - u + 1 ≤ D * u) : d / u ≤ D ∧ D ≤ d / u + 1 := by
  constructor
  · have : d / u < D + 1 := (Int.ediv_lt_iff_lt_mul hu).2 (by rw [Int.add_mul, Int.one_mul]; omega)
    omega
  · have : D - 1 ≤ d / u := (Int.le_ediv_iff_mul_le hu).2 (by rw [Int.sub_mul, Int.one_mul]; omega)
    omega
theorem cnt_one {d D : Int} (hu : 0 < d) (h1 : D * d ≤ d + d - 1) (h2 : d - d + 1 ≤ D * d) : D = 1 := by
  have e : d / d = 1 := Int.ediv_self (by omega)
  have h3 : D < 2 := Int.lt_of_mul_lt_mul_right (a := d) (by rw [Int.two_mul]; omega) (by omega)
  have h4 : 0 < D := Int.lt_of_mul_lt_mul_right (a := d) (by rw [Int.zero_mul]; omega) (by omega)
  omega
/-- the pairs of a section -/
theorem sec_len (x a y b : Int) (ha : 1 ≤ a) : ((secL x a y b).length : Int) = max a b := by
  simp [secL]; omega
theorem sec_get {x a y b : Int} {k : Nat} (hk : (k : Int) < max a b) : (secL x a y b).getD k (0, 0) = secV x a y b k := by
  have : k < (max a b).toNat := by omega
  simp [secL, List.getD_eq_getElem?_getD, this]
theorem part_bd {a m : Int} {k : Nat} (ha : 1 ≤ a) (ham : a ≤ m) (hk : (k : Int) < m) : 0 ≤ (k : Int) * a / m ∧ (k : Int) * a / m < a ∧ (k : Int) * a / m ≤ ((k + 1 : Nat) : Int) * a / m ∧ ((k + 1 : Nat) : Int) * a / m ≤ (k : Int) * a / m + 1 ∧ (k : Int) * a / m * m ≤ (k : Int) * a ∧ (k : Int) * a < (k : Int) * a / m * m + m := by
  have h0 := Int.mul_nonneg (show 0 ≤ (k : Int) by omega) (show 0 ≤ a by omega)
  have h1 := Int.ediv_mul_le ((k : Int) * a) (show m ≠ 0 by omega)
  have h2 := Int.lt_ediv_add_one_mul_self ((k : Int) * a) (show 0 < m by omega)
  have e1 : ((k + 1 : Nat) : Int) * a = (k : Int) * a + a := by rw [show ((k + 1 : Nat) : Int) = (k : Int) + 1 from rfl, Int.add_mul, Int.one_mul]
  rw [e1]
  have h3 : (k : Int) * a < a * m := by
    have := Int.mul_lt_mul_of_pos_right hk (show 0 < a by omega)
    rwa [Int.mul_comm m a] at this
  rw [Int.add_mul, Int.one_mul] at h2
  refine ⟨Int.ediv_nonneg h0 (by omega), (Int.ediv_lt_iff_lt_mul (by omega)).2 h3, Int.ediv_le_ediv (by omega) (by omega), ?_, h1, by omega⟩
  exact Int.lt_add_one_iff.1 ((Int.ediv_lt_iff_lt_mul (by omega)).2 (by rw [Int.add_mul, Int.add_mul, Int.one_mul]; omega))
theorem part_same {m : Int} {k : Nat} (hm : 1 ≤ m) : (k : Int) * m / m = k := Int.mul_ediv_cancel _ (by omega)
theorem part_last {a m : Int} {k : Nat} (ha : 1 ≤ a) (ham : a ≤ m) (hk : (k : Int) + 1 = m) : (k : Int) * a / m = a - 1 := by
  have e1 : (k : Int) * a = (a - 1) * m + (m - a) := by
    rw [show (k : Int) = m - 1 by omega, Int.sub_mul, Int.sub_mul, Int.mul_comm m a]; omega
  rw [e1]
  refine Int.le_antisymm (Int.lt_add_one_iff.1 ((Int.ediv_lt_iff_lt_mul (by omega)).2 ?_)) ((Int.le_ediv_iff_mul_le (by omega)).2 (by omega))
  rw [Int.add_mul, Int.one_mul]; omega
theorem secV_zero (x a y b : Int) : secV x a y b 0 = (x, y) := by simp [secV]
theorem secV_in {x a y b : Int} {k : Nat} (ha : 1 ≤ a) (hb : 1 ≤ b) (hk : (k : Int) < max a b) : x ≤ (secV x a y b k).1 ∧ (secV x a y b k).1 < x + a ∧ y ≤ (secV x a y b k).2 ∧ (secV x a y b k).2 < y + b := by
  have h1 := part_bd ha (show a ≤ max a b by omega) hk
  have h2 := part_bd hb (show b ≤ max a b by omega) hk
  simp only [secV]
  omega
theorem secV_last {x a y b : Int} {k : Nat} (ha : 1 ≤ a) (hb : 1 ≤ b) (hk : (k : Int) + 1 = max a b) : secV x a y b k = (x + a - 1, y + b - 1) := by
  rw [secV, part_last ha (show a ≤ max a b by omega) hk, part_last hb (show b ≤ max a b by omega) hk]
  simp only [Prod.mk.injEq]
  omega
theorem secV_step {x a y b : Int} {k : Nat} (ha : 1 ≤ a) (hb : 1 ≤ b) (hk : (k : Int) + 1 < max a b) : stepB (secV x a y b k) (secV x a y b (k + 1)) = true := by
  have h1 := part_bd ha (show a ≤ max a b by omega) (show (k : Int) < max a b by omega)
  have h2 := part_bd hb (show b ≤ max a b by omega) (show (k : Int) < max a b by omega)
  refine step_i ?_
  simp only [secV]
  refine ⟨by omega, by omega, by omega, by omega, ?_⟩
  rcases Int.le_total b a with h | h
  · rw [show max a b = a by omega, part_same (k := k) ha, part_same (k := k + 1) ha]
    left; omega
  · rw [show max a b = b by omega, part_same (k := k) hb, part_same (k := k + 1) hb]
    right; omega
/-- where a section begins and ends -/
def pm (l : List Int) (i : Nat) : Int := (0 :: l).getD i 0
def cm (l : List Int) (a : Int) (i : Nat) : Int := (l ++ [a]).getD i 0
theorem cm_lt {l : List Int} (a : Int) {i : Nat} (h : i < l.length) : cm l a i = l.getD i 0 := by
  simp [cm, List.getD_eq_getElem?_getD, List.getElem?_append_left h]
theorem cm_end (l : List Int) (a : Int) : cm l a l.length = a := by
  simp [cm, List.getD_eq_getElem?_getD]
theorem pm_succ (l : List Int) (i : Nat) : pm l (i + 1) = l.getD i 0 := by simp [pm]
theorem pm_zero (l : List Int) : pm l 0 = 0 := rfl
theorem sect_bd {l : List Int} {a : Int} (ha : 1 ≤ a) (h : mkOk l a = true) : ∀ i, i ≤ l.length → 0 ≤ pm l i ∧ pm l i < cm l a i ∧ cm l a i ≤ a := by
  intro i hi
  rcases Nat.lt_or_ge i l.length with hlt | hge
  · have h1 := mkOk_e h i hlt
    have h2 := mkOk_lo h i hlt
    rw [cm_lt a hlt]
    exact ⟨h2.1, h1.1, by omega⟩
  · obtain rfl : i = l.length := by omega
    rw [cm_end]
    rcases Nat.eq_zero_or_pos l.length with h0 | h0
    · rw [h0, pm_zero]; omega
    · obtain ⟨n, hn⟩ : ∃ n, l.length = n + 1 := ⟨l.length - 1, by omega⟩
      rw [hn, pm_succ]
      have h1 := mkOk_e h n (by omega)
      have h2 := mkOk_lo h n (by omega)
      omega
theorem sect_mono {l : List Int} {a : Int} (ha : 1 ≤ a) (h : mkOk l a = true) : ∀ d i, i + d ≤ l.length → pm l i ≤ pm l (i + d) ∧ cm l a i ≤ cm l a (i + d) := by
  intro d
  induction d with
  | zero => intro i _; simp
  | succ d ih =>
    intro i hi
    have h1 := ih i (by omega)
    have h2 := sect_bd ha h (i + d) (by omega)
    have h3 := sect_bd ha h (i + d + 1) (by omega)
    have e : pm l (i + d + 1) = cm l a (i + d) := by rw [pm_succ, cm_lt a (by omega)]
    rw [show i + (d + 1) = i + d + 1 by omega]
    omega
def Chain (l : List (Int × Int)) : Prop := ∀ i, 1 ≤ i → i < l.length → stepAt l i = true
theorem getD_left {l m : List (Int × Int)} {i : Nat} (h : i < l.length) : (l ++ m).getD i (0, 0) = l.getD i (0, 0) := by
  simp [List.getD_eq_getElem?_getD, List.getElem?_append_left h]
theorem getD_right {l m : List (Int × Int)} {i : Nat} (h : l.length ≤ i) : (l ++ m).getD i (0, 0) = m.getD (i - l.length) (0, 0) := by
  simp [List.getD_eq_getElem?_getD, List.getElem?_append_right h]
theorem Chain.append {l m : List (Int × Int)} (h : Chain l) (k : Chain m) (hs : 0 < l.length → 0 < m.length → stepB (l.getD (l.length - 1) (0, 0)) (m.getD 0 (0, 0)) = true) : Chain (l ++ m) := by
  intro i h1 h2
  rw [List.length_append] at h2
  unfold stepAt
  rcases Nat.lt_or_ge i l.length with hi | hi
  · rw [getD_left hi, getD_left (by omega)]
    exact h i h1 hi
  · rcases Nat.lt_or_ge l.length i with hj | hj
    · rw [getD_right hi, getD_right (by omega)]
      have := k (i - l.length) (by omega) (by omega)
      unfold stepAt at this
      rwa [show i - l.length - 1 = i - 1 - l.length by omega] at this
    · obtain rfl : i = l.length := by omega
      rw [getD_left (by omega), getD_right (by omega), Nat.sub_self]
      exact hs (by omega) (by omega)
theorem sec_chain {x y a b : Int} (ha : 1 ≤ a) (hb : 1 ≤ b) : Chain (secL x a y b) := by
  intro i h1 h2
  have hl := sec_len x a y b ha
  unfold stepAt
  rw [sec_get (by omega), sec_get (by omega)]
  have := secV_step (x := x) (y := y) (k := i - 1) ha hb (by omega)
  rwa [show i - 1 + 1 = i by omega] at this
theorem mkE_e {a b : Int} {am bm : List Int} (h : mkE a b am bm = 0) : (1 ≤ a ∧ a ≤ 1000 ∧ 1 ≤ b ∧ b ≤ 1000) ∧ am.length ≤ 50 ∧ bm.length ≤ 50 ∧ mkOk am a = true ∧ mkOk bm b = true ∧ am.length = bm.length := by
  unfold mkE at h
  split at h
  · rename_i h0
    split at h
    · omega
    · split at h
      · rename_i h1 h2
        split at h
        · rename_i h3
          rw [Bool.and_eq_true] at h2
          exact ⟨edOk_e h0, by omega, by omega, h2.1, h2.2, h3⟩
        · omega
      · omega
  · omega
theorem mkdS_eq (a b : Int) (am bm : List Int) (i : Nat) : mkdS a b am bm i = secL (pm am i) (cm am a i - pm am i) (pm bm i) (cm bm b i - pm bm i) := rfl
theorem mkdS_len {a b : Int} {am bm : List Int} (h : mkE a b am bm = 0) {i : Nat} (hi : i ≤ am.length) : 0 < (mkdS a b am bm i).length := by
  obtain ⟨h0, _, _, h1, h2, h3⟩ := mkE_e h
  have s1 := sect_bd h0.1 h1 i hi
  have hl := sec_len (pm am i) (cm am a i - pm am i) (pm bm i) (cm bm b i - pm bm i) (by omega)
  rw [mkdS_eq]; omega
theorem mkdS_first {a b : Int} {am bm : List Int} (h : mkE a b am bm = 0) {i : Nat} (hi : i ≤ am.length) : (mkdS a b am bm i).getD 0 (0, 0) = (pm am i, pm bm i) := by
  obtain ⟨h0, _, _, h1, h2, h3⟩ := mkE_e h
  have s1 := sect_bd h0.1 h1 i hi
  rw [mkdS_eq, sec_get (by omega), secV_zero]
theorem mkdS_last {a b : Int} {am bm : List Int} (h : mkE a b am bm = 0) {i : Nat} (hi : i ≤ am.length) : (mkdS a b am bm i).getD ((mkdS a b am bm i).length - 1) (0, 0) = (cm am a i - 1, cm bm b i - 1) := by
  obtain ⟨h0, _, _, h1, h2, h3⟩ := mkE_e h
  have s1 := sect_bd h0.1 h1 i hi
  have s2 := sect_bd h0.2.2.1 h2 i (by omega)
  have hl := sec_len (pm am i) (cm am a i - pm am i) (pm bm i) (cm bm b i - pm bm i) (by omega)
  rw [mkdS_eq]
  rw [sec_get (by omega), secV_last (by omega) (by omega) (by omega)]
  simp only [Prod.mk.injEq]
  omega
theorem mkdN_ok {a b : Int} {am bm : List Int} (h : mkE a b am bm = 0) : ∀ n, n ≤ am.length →
    0 < (mkdN a b am bm (n + 1)).length ∧ (mkdN a b am bm (n + 1)).getD 0 (0, 0) = (0, 0) ∧
    (mkdN a b am bm (n + 1)).getD ((mkdN a b am bm (n + 1)).length - 1) (0, 0) = (cm am a n - 1, cm bm b n - 1) ∧ Chain (mkdN a b am bm (n + 1)) := by
  obtain ⟨h0, _, _, h1, h2, h3⟩ := mkE_e h
  have hch : ∀ i, i ≤ am.length → Chain (mkdS a b am bm i) := fun i hi => by
    have s1 := sect_bd h0.1 h1 i hi
    have s2 := sect_bd h0.2.2.1 h2 i (by omega)
    rw [mkdS_eq]
    exact sec_chain (by omega) (by omega)
  intro n
  induction n with
  | zero =>
    intro hn
    have e : mkdN a b am bm (0 + 1) = mkdS a b am bm 0 := by simp [mkdN]
    rw [e]
    exact ⟨mkdS_len h hn, by rw [mkdS_first h hn]; rfl, mkdS_last h hn, hch 0 hn⟩
  | succ n ih =>
    intro hn
    obtain ⟨i1, i2, i3, i4⟩ := ih (by omega)
    have l1 := mkdS_len h hn
    rw [mkdN_succ]
    refine ⟨by rw [List.length_append]; omega, by rw [getD_left i1]; exact i2, ?_, i4.append (hch _ hn) fun _ _ => ?_⟩
    · rw [List.length_append, getD_right (by omega)]
      have := mkdS_last h hn
      rwa [show (mkdN a b am bm (n + 1)).length + (mkdS a b am bm (n + 1)).length - 1 - (mkdN a b am bm (n + 1)).length = (mkdS a b am bm (n + 1)).length - 1 by omega]
    · rw [i3, mkdS_first h hn, pm_succ, pm_succ, cm_lt a (by omega), cm_lt b (by omega)]
      exact step_i (by simp only; omega)
/-- a marked seam is a seam -/
theorem mkd_seam {a b : Int} {am bm : List Int} (h : mkE a b am bm = 0) : seamB (mkdL a b am bm) a b = true := by
  obtain ⟨h0, _, _, h1, h2, h3⟩ := mkE_e h
  obtain ⟨i1, i2, i3, i4⟩ := mkdN_ok h am.length (Nat.le_refl _)
  rw [mkdL, if_pos h]
  rw [cm_end, h3, cm_end, ← h3] at i3
  exact seamB_i rfl i1 i2 i3 i4
theorem mkd_chk {a b : Int} {am bm : List Int} (h : mkE a b am bm = 0) : chkE (mkdL a b am bm) a b = 0 := by
  have h0 := mkE_e h
  rw [chkE, if_pos (by rw [edOk, Bool.and_eq_true]; exact ⟨inR_t h0.1.1 h0.1.2.1, inR_t h0.1.2.2.1 h0.1.2.2.2⟩), if_pos (mkd_seam h)]
theorem mem_getD {l : List (Int × Int)} {p : Int × Int} (h : p ∈ l) : ∃ i, i < l.length ∧ l.getD i (0, 0) = p := by
  obtain ⟨i, hi, e⟩ := List.getElem_of_mem h
  exact ⟨i, hi, by rw [List.getD_eq_getElem?_getD, List.getElem?_eq_getElem hi]; exact e⟩
theorem getD_mem {l : List (Int × Int)} {i : Nat} (h : i < l.length) : l.getD i (0, 0) ∈ l := by
  rw [List.getD_eq_getElem?_getD, List.getElem?_eq_getElem h]; exact List.getElem_mem _
/-- nothing of one side of a mark is joined to the other side -/
theorem mkd_cross {a b : Int} {am bm : List Int} (h : mkE a b am bm = 0) {i : Nat} (hi : i < am.length) {p : Int × Int} (hp : p ∈ mkdL a b am bm) : p.1 < am.getD i 0 ↔ p.2 < bm.getD i 0 := by
  obtain ⟨h0, _, _, h1, h2, h3⟩ := mkE_e h
  rw [mkdL, if_pos h, mkdN, List.mem_flatMap] at hp
  obtain ⟨s, hs, hp⟩ := hp
  have hs' := List.mem_range.1 hs
  have s1 := sect_bd h0.1 h1 s (by omega)
  have s2 := sect_bd h0.2.2.1 h2 s (by omega)
  obtain ⟨k, hk, rfl⟩ := mem_getD hp
  have hl := sec_len (pm am s) (cm am a s - pm am s) (pm bm s) (cm bm b s - pm bm s) (by omega)
  rw [mkdS_eq] at hk ⊢
  rw [sec_get (by omega)]
  have hv := secV_in (x := pm am s) (y := pm bm s) (a := cm am a s - pm am s) (b := cm bm b s - pm bm s) (k := k) (by omega) (by omega) (by omega)
  rcases Nat.lt_or_ge i s with c | c
  · have m1 := (sect_mono h0.1 h1 (s - (i + 1)) (i + 1) (by omega)).1
    have m2 := (sect_mono h0.2.2.1 h2 (s - (i + 1)) (i + 1) (by omega)).1
    rw [show i + 1 + (s - (i + 1)) = s by omega, pm_succ] at m1 m2
    omega
  · have m1 := (sect_mono h0.1 h1 (i - s) s (by omega)).2
    have m2 := (sect_mono h0.2.2.1 h2 (i - s) s (by omega)).2
    rw [show s + (i - s) = i by omega] at m1 m2
    rw [cm_lt (i := i) _ (by omega)] at m1 m2
    omega
theorem chain_sum {l : List (Int × Int)} (h : Chain l) : ∀ d i, i + d < l.length → (l.getD i (0, 0)).1 + (l.getD i (0, 0)).2 + d ≤ (l.getD (i + d) (0, 0)).1 + (l.getD (i + d) (0, 0)).2 := by
  intro d
  induction d with
  | zero => intro i _; simp
  | succ d ih =>
    intro i hi
    have h1 := ih i (by omega)
    have h2 := step_e (h (i + d + 1) (by omega) (by omega))
    rw [show i + d + 1 - 1 = i + d by omega] at h2
    rw [show i + (d + 1) = i + d + 1 by omega]
    omega
/-- marks are joined to marks, once -/
theorem mkd_found {a b : Int} {am bm : List Int} (h : mkE a b am bm = 0) {i : Nat} (hi : i < am.length) :
    ∃ k0, k0 < (mkdL a b am bm).length ∧ ∀ k, k < (mkdL a b am bm).length → ((mkdL a b am bm).getD k (0, 0) = (am.getD i 0, bm.getD i 0) ↔ k = k0) := by
  obtain ⟨h0, _, _, h1, h2, h3⟩ := mkE_e h
  obtain ⟨i1, i2, i3, i4⟩ := mkdN_ok h am.length (Nat.le_refl _)
  rw [mkdL, if_pos h]
  have hm : (am.getD i 0, bm.getD i 0) ∈ mkdN a b am bm (am.length + 1) := by
    rw [mkdN, List.mem_flatMap]
    refine ⟨i + 1, List.mem_range.2 (by omega), ?_⟩
    have h5 := mkdS_first h (i := i + 1) (by omega)
    have h6 := mkdS_len h (i := i + 1) (by omega)
    rw [pm_succ, pm_succ] at h5
    rw [← h5]
    exact getD_mem h6
  obtain ⟨k0, hk0, e0⟩ := mem_getD hm
  refine ⟨k0, hk0, fun k hk => ⟨fun e => ?_, fun e => by rw [e]; exact e0⟩⟩
  rcases Nat.lt_trichotomy k k0 with c | c | c
  · have := chain_sum i4 (k0 - k) k (by omega)
    rw [show k + (k0 - k) = k0 by omega, e0, e] at this
    omega
  · exact c
  · have := chain_sum i4 (k - k0) k0 (by omega)
    rw [show k0 + (k - k0) = k by omega, e0, e] at this
    omega
theorem edOk_i {a b : Int} (h : 1 ≤ a ∧ a ≤ 1000 ∧ 1 ≤ b ∧ b ≤ 1000) : edOk a b = true := by
  rw [edOk, Bool.and_eq_true]; exact ⟨inR_t h.1 h.2.1, inR_t h.2.2.1 h.2.2.2⟩
theorem edOk_swap (a b : Int) : edOk a b = edOk b a := by rw [edOk, edOk, Bool.and_comm]
theorem join_chk {a b : Int} (h : edOk a b = true) : chkE (joinL a b) a b = 0 := by
  rw [← mkdL_nil]
  exact mkd_chk (by rw [mkE_nil, edB, if_pos h])
theorem join_len {a b : Int} (h : edOk a b = true) : ((joinL a b).length : Int) = max a b := by
  rw [joinL, if_pos h]; exact sec_len 0 a 0 b (edOk_e h).1
theorem join_get {a b : Int} (h : edOk a b = true) {k : Nat} (hk : (k : Int) < max a b) : (joinL a b).getD k (0, 0) = secV 0 a 0 b k := by
  rw [joinL, if_pos h]; exact sec_get hk
/-- the shares of the even seam -/
theorem join_shX {a b : Int} (h : edOk a b = true) {j : Nat} (hj : (j : Int) < a) : max a b / a ≤ shX (joinL a b) j ∧ shX (joinL a b) j ≤ max a b / a + 1 ∧ (b ≤ a → shX (joinL a b) j = 1) := by
  have h0 := edOk_e h
  obtain ⟨A, rfl⟩ := Int.eq_ofNat_of_zero_le (show 0 ≤ a by omega)
  obtain ⟨m, hm⟩ := Int.eq_ofNat_of_zero_le (show 0 ≤ max (A : Int) b by omega)
  obtain ⟨D, hD, d1, d2⟩ := cnt_eq (u := (A : Int)) (v := 0) (d := max (A : Int) b) (m := m) (J := A) (j := j) (by omega) (by omega) (by omega)
    (fun k => by rw [Int.add_zero, Int.le_ediv_iff_mul_le (by omega)]; constructor
                 · intro h; rw [← hm]; exact Int.le_of_mul_le_mul_left h (by omega)
                 · intro h; rw [← hm] at h; exact Int.mul_le_mul_of_nonneg_left h (by omega)) (by omega)
  have e : shX (joinL A b) j = D := by
    rw [← hD, shX, joinL, if_pos h, secL, hm, List.countP_map]
    congr 2
    funext k
    simp [Function.comp, secV, Int.mul_comm, hm]
  rw [e]
  have := cnt_bd (by omega) d1 d2
  refine ⟨this.1, this.2, fun hb => ?_⟩
  rw [show max (A : Int) b = A by omega] at d1 d2
  exact cnt_one (by omega) d1 d2
theorem join_swap {a b : Int} (k : Nat) : secV 0 b 0 a k = ((secV 0 a 0 b k).2, (secV 0 a 0 b k).1) := by
  simp [secV, Int.max_comm a b]
theorem join_shY {a b : Int} (h : edOk a b = true) (j : Nat) : shY (joinL a b) j = shX (joinL b a) j := by
  rw [shX, shY, joinL, joinL, if_pos h, if_pos (by rw [← edOk_swap]; exact h), secL, secL, List.countP_map, List.countP_map, Int.max_comm b a]
  congr 2
  funext k
  simp [Function.comp, secV, Int.max_comm b a]
/-- no pair of the even seam is further apart than a loop -/
theorem join_far {a b : Int} (h : edOk a b = true) {k : Nat} (hk : (k : Int) < max a b) : (secV 0 a 0 b k).1 * b - (secV 0 a 0 b k).2 * a < max a b ∧ -max a b < (secV 0 a 0 b k).1 * b - (secV 0 a 0 b k).2 * a := by
  have h0 := edOk_e h
  simp only [secV, Int.zero_add]
  rcases Int.le_total b a with c | c
  · have p := part_bd h0.2.2.1 (show b ≤ max a b by omega) hk
    rw [show max a b = a by omega] at p hk ⊢
    rw [part_same h0.1]
    omega
  · have p := part_bd h0.1 (show a ≤ max a b by omega) hk
    rw [show max a b = b by omega] at p hk ⊢
    rw [part_same h0.2.2.1]
    omega
theorem secL_len (x a y b : Int) : (secL x a y b).length = (max a b).toNat := by simp [secL]
theorem mkdS_is {a b : Int} {am bm : List Int} (h : mkE a b am bm = 0) {i : Nat} (hi : i < am.length) : mkdS a b am bm i = secL (pm am i) (am.getD i 0 - pm am i) (pm bm i) (bm.getD i 0 - pm bm i) := by
  obtain ⟨h0, _, _, h1, h2, h3⟩ := mkE_e h
  rw [mkdS_eq, cm_lt a hi, cm_lt b (by omega)]
theorem mkdS_fin {a b : Int} {am bm : List Int} (h : mkE a b am bm = 0) : mkdS a b am bm am.length = secL (pm am am.length) (a - pm am am.length) (pm bm am.length) (b - pm bm am.length) := by
  obtain ⟨h0, _, _, h1, h2, h3⟩ := mkE_e h
  rw [mkdS_eq, cm_end, h3, cm_end]
theorem mkdN_len {a b : Int} {am bm : List Int} (h : mkE a b am bm = 0) : ∀ i, i ≤ am.length + 1 → (mkdN a b am bm i).length ≤ 1000 * i := by
  obtain ⟨h0, _, _, h1, h2, h3⟩ := mkE_e h
  intro i
  induction i with
  | zero => intro _; simp [mkdN]
  | succ i ih =>
    intro hi
    have s1 := sect_bd h0.1 h1 i (by omega)
    have s2 := sect_bd h0.2.2.1 h2 i (by omega)
    have := ih (by omega)
    rw [mkdN_succ, List.length_append, mkdS_eq, secL_len]
    omega
/-- the rate is in lowest terms -/
theorem rate_facts {r n : Nat} (hr : 1 ≤ r) (hn : 1 ≤ n) : 1 ≤ n / Nat.gcd r n ∧ 1 ≤ r / Nat.gcd r n ∧ n / Nat.gcd r n * r = r / Nat.gcd r n * n ∧ n / Nat.gcd r n ≤ n ∧ r / Nat.gcd r n ≤ r ∧
    (∀ d, 2 ≤ d → ¬ (n / Nat.gcd r n % d = 0 ∧ r / Nat.gcd r n % d = 0)) := by
  have g0 : 0 < Nat.gcd r n := Nat.gcd_pos_of_pos_left _ hr
  have d1 := Nat.gcd_dvd_left r n
  have d2 := Nat.gcd_dvd_right r n
  generalize hg : Nat.gcd r n = g at *
  obtain ⟨x, hx⟩ := d1
  obtain ⟨y, hy⟩ := d2
  have e1 : r / g = x := by rw [hx, Nat.mul_div_cancel_left _ g0]
  have e2 : n / g = y := by rw [hy, Nat.mul_div_cancel_left _ g0]
  have x0 : 0 < x := Nat.pos_of_ne_zero (by rintro rfl; omega)
  have y0 : 0 < y := Nat.pos_of_ne_zero (by rintro rfl; omega)
  rw [e1, e2]
  refine ⟨y0, x0, by rw [hx, hy, Nat.mul_left_comm, Nat.mul_comm x (g * y), Nat.mul_comm y x, Nat.mul_assoc, Nat.mul_comm y x], by rw [hy]; exact Nat.le_mul_of_pos_left _ g0, by rw [hx]; exact Nat.le_mul_of_pos_left _ g0, fun d hd ⟨h1, h2⟩ => ?_⟩
  obtain ⟨p, hp⟩ := Nat.dvd_of_mod_eq_zero h1
  obtain ⟨q, hq⟩ := Nat.dvd_of_mod_eq_zero h2
  have k1 : g * d ∣ r := ⟨q, by rw [hx, hq, Nat.mul_assoc]⟩
  have k2 : g * d ∣ n := ⟨p, by rw [hy, hp, Nat.mul_assoc]⟩
  have k3 : g * d ∣ g := by rw [← hg]; rw [← hg] at k1 k2; exact Nat.dvd_gcd k1 k2
  have k4 := Nat.le_of_dvd g0 k3
  have := Nat.mul_le_mul_left g hd
  omega
theorem pick_bd {r n : Int} {i : Nat} (hr : 1 ≤ r) (hi : (i : Int) < n) : 0 ≤ pickV r n i ∧ pickV r n i < r ∧ pickV r n i ≤ pickV r n (i + 1) := by
  have h0 := Int.mul_nonneg (show 0 ≤ 2 * (i : Int) + 1 by omega) (show 0 ≤ r by omega)
  have h1 := Int.mul_lt_mul_of_pos_right (show 2 * (i : Int) + 1 < 2 * n by omega) (show 0 < r by omega)
  have h2 := Int.mul_le_mul_of_nonneg_right (show 2 * (i : Int) + 1 ≤ 2 * ((i + 1 : Nat) : Int) + 1 by omega) (show 0 ≤ r by omega)
  exact ⟨Int.ediv_nonneg h0 (by omega), (Int.ediv_lt_iff_lt_mul (by omega)).2 (by rw [Int.mul_comm r]; exact h1), Int.ediv_le_ediv (by omega) h2⟩
def cntV (f : Nat → Int) (k j : Nat) : Int := ((List.range k).countP (fun i => f i == (j : Int)) : Int)
theorem cntV_succ (f : Nat → Int) (k j : Nat) : cntV f (k + 1) j = cntV f k j + if f k = (j : Int) then 1 else 0 := by
  unfold cntV
  rw [List.range_succ, List.countP_append, List.countP_singleton]
  by_cases e : f k = (j : Int) <;> simp [e]
theorem cntV_bd (f : Nat → Int) (k j : Nat) : 0 ≤ cntV f k j ∧ cntV f k j ≤ k := by
  unfold cntV
  have h := List.countP_le_length (p := fun i => f i == (j : Int)) (l := List.range k)
  rw [List.length_range] at h
  omega
theorem pick_cnt {r n : Nat} {j : Nat} (hr : 1 ≤ r) (hn : 1 ≤ n) (hj : j < r) : 2 * (n : Int) / (2 * (r : Int)) ≤ cntV (pickV r n) n j ∧ cntV (pickV r n) n j ≤ 2 * (n : Int) / (2 * (r : Int)) + 1 := by
  obtain ⟨D, hD, d1, d2⟩ := cnt_eq (u := 2 * (r : Int)) (v := (r : Int)) (d := 2 * (n : Int)) (m := n) (J := r) (j := j) (by omega) (by omega) (by omega)
    (fun k => by
      rw [Int.le_ediv_iff_mul_le (by omega)]
      rw [show 2 * (r : Int) * k + r = (r : Int) * (2 * k + 1) by rw [Int.mul_add, Int.mul_one, Int.mul_left_comm, Int.mul_assoc]]
      constructor
      · intro h
        have := Int.le_of_mul_le_mul_left h (by omega)
        omega
      · intro h; exact Int.mul_le_mul_of_nonneg_left (by omega) (by omega)) hj
  have e : cntV (pickV r n) n j = D := by
    rw [← hD, cntV]
    congr 2
    funext k
    rw [pickV, show 2 * (r : Int) * (k : Int) + r = (2 * (k : Int) + 1) * r by rw [Int.add_mul, Int.one_mul, Int.mul_assoc, Int.mul_assoc, Int.mul_comm (r : Int)]]
  rw [e]
  exact cnt_bd (by omega) d1 d2
theorem pick_again {r n : Nat} (hr : 1 ≤ r) (hn : 1 ≤ n) (i : Nat) : pickV r n (i + n / Nat.gcd r n) = pickV r n i + (r / Nat.gcd r n : Nat) := by
  have h := (rate_facts hr hn).2.2.1
  generalize n / Nat.gcd r n = a at *
  generalize r / Nat.gcd r n = b at *
  unfold pickV
  have h' : (a : Int) * r = (b : Int) * n := by exact_mod_cast h
  rw [show (2 * ((i + a : Nat) : Int) + 1) * r = (2 * (i : Int) + 1) * r + b * (2 * n) by
    rw [show (2 * ((i + a : Nat) : Int) + 1) = (2 * (i : Int) + 1) + 2 * (a : Int) by omega, Int.add_mul, Int.mul_assoc 2 (a : Int), h', Int.mul_left_comm], Int.add_mul_ediv_right _ _ (by omega)]
/-- the number that is needed is the nearest one -/
theorem need_near {num den : Int} (hd : 1 ≤ den) : 2 * (near num den * den - num) ≤ den ∧ -den < 2 * (near num den * den - num) := by
  have h1 := Int.ediv_mul_le (2 * num + den) (show 2 * den ≠ 0 by omega)
  have h2 := Int.lt_ediv_add_one_mul_self (2 * num + den) (show 0 < 2 * den by omega)
  unfold near
  generalize (2 * num + den) / (2 * den) = q at *
  rw [Int.mul_left_comm] at h1 h2
  rw [Int.add_mul, Int.one_mul] at h2
  omega
/-- the least and the greatest number of a list -/
def lowL (l : List Int) (k : Nat) : Int := (l.take k).foldl min (l.getD 0 0)
def highL (l : List Int) (k : Nat) : Int := (l.take k).foldl max (l.getD 0 0)
theorem takeI {l : List Int} {k : Nat} (h : k < l.length) : l.take (k + 1) = l.take k ++ [l.getD k 0] := by
  rw [List.take_succ_eq_append_getElem h, List.getD_eq_getElem?_getD, List.getElem?_eq_getElem h]; rfl
theorem lowL_succ {l : List Int} {k : Nat} (h : k < l.length) : lowL l (k + 1) = min (lowL l k) (l.getD k 0) := by
  rw [lowL, takeI h, List.foldl_append]; rfl
theorem highL_succ {l : List Int} {k : Nat} (h : k < l.length) : highL l (k + 1) = max (highL l k) (l.getD k 0) := by
  rw [highL, takeI h, List.foldl_append]; rfl
theorem most_bd {l : List Int} {lo hi : Int} (h0 : 0 < l.length) (h : ∀ j, j < l.length → lo ≤ l.getD j 0 ∧ l.getD j 0 ≤ hi) : ∀ k, k ≤ l.length → (lo ≤ lowL l k ∧ lowL l k ≤ hi) ∧ (lo ≤ highL l k ∧ highL l k ≤ hi) := by
  intro k
  induction k with
  | zero => intro _; have := h 0 h0; simp [lowL, highL]; simp at this; omega
  | succ k ih =>
    intro hk
    have h1 := ih (by omega)
    have h2 := h k (by omega)
    rw [lowL_succ (by omega), highL_succ (by omega)]
    omega
end Go.Proofs.Ytepegahgiciegaa
