/- What read returns of whatever word. -/
import Derived.Test.YtpcefmopoceiiaaGreatDoorReadB
namespace Go.Proofs.YtpcefmopoceiiaaGreatDoor
set_option maxRecDepth 100000
open Go.RowKit
/-- a call of read has returned this stitch and number -/
def ReadR (x : St × Int) (w : World) (e : Ending) (w' : World) : Prop := e = .returned (.tuple #[.agg #[.int .u8 x.1.k, .bool x.1.p, .int .i64 x.1.a, .int .i64 x.1.b], .int .i64 x.2]) ∧ Ext w w'
theorem read_as {l : List UInt8} {x : St × Int} {w : World} {k : Int} {p : Bool} {a b n : Int} (h : Calls Tryz.prog 20 #[.string ⟨l.toArray⟩] w fun e w' => e = .returned (.tuple #[.agg #[.int .u8 k, .bool p, .int .i64 a, .int .i64 b], .int .i64 n]) ∧ Ext w w') (hx : x = (⟨k, p, a, b⟩, n)) :
    Calls Tryz.prog 20 #[.string ⟨l.toArray⟩] w (ReadR x w) := by
  subst hx
  exact h
theorem numR_neg {l : List UInt8} (h : ¬ 0 ≤ (numR l).1) : (numR l).1 = -1 := by
  unfold numR at h ⊢
  split
  · rfl
  · rename_i h1
    rw [if_neg h1] at h
    exact absurd (Int.natCast_nonneg _) h
theorem letter_none {d : UInt8} (h1 : d ≠ 102) (h2 : d ≠ 108) (h3 : d ≠ 109) (h4 : d ≠ 120) (h5 : d ≠ 121) (h6 : d ≠ 115) (h7 : d ≠ 111) (h8 : d ≠ 63) : Lib.indexByte letters d = -1 ∧ kindL d = 3 := by
  constructor
  · simp [letters, Lib.indexByte, Ne.symm h1, Ne.symm h2, Ne.symm h3, Ne.symm h4, Ne.symm h5, Ne.symm h6, Ne.symm h7, Ne.symm h8]
  · simp [kindL, h1, h2, h3, h4, h5, h6, h7, h8]
theorem readk_107 (d : UInt8) (r : List UInt8) (hl : (107 :: d :: r : List UInt8).length ≤ 100000) (hn : (numR (d :: r)).1 = -1) (w : World) (hg : Glob w) :
    Calls Tryz.prog 20 #[.string ⟨(107 :: d :: r : List UInt8).toArray⟩] w (ReadR (readK false d r, 1) w) := by
  have hE : ((107 :: d :: r : List UInt8) == [121, 111]) = false := by simp
  have hP : [111, 110].isPrefixOf (107 :: d :: r : List UInt8) = false := by simp [List.isPrefixOf]
  have h0 := str_at (107 :: d :: r) 0
  have hx := str_extD (107 :: d :: r) 1 _ (Nat.le_refl _)
  have h1 := str_at (d :: r) 0
  have hx2 := str_extD (d :: r) 1 _ (Nat.le_refl _)
  simp only [List.getD_cons_zero, List.drop_succ_cons, List.drop_zero] at h0 h1 hx hx2
  by_cases h09 : d = 102
  · subst h09
    exact read_as (readk_0_107 (107 :: 102 :: r) (102 :: r) r 102 hl (by simp) (by simp) hE hP h0 hx h1 hx2 hn rfl w hg) rfl
  by_cases h19 : d = 108
  · subst h19
    exact read_as (readk_1_107 (107 :: 108 :: r) (108 :: r) r 108 hl (by simp) (by simp) hE hP h0 hx h1 hx2 hn rfl w hg) rfl
  by_cases h29 : d = 109
  · subst h29
    exact read_as (readk_2_107 (107 :: 109 :: r) (109 :: r) r 109 hl (by simp) (by simp) hE hP h0 hx h1 hx2 hn rfl w hg) rfl
  by_cases h39 : d = 120
  · subst h39
    exact read_as (readk_3_107 (107 :: 120 :: r) (120 :: r) r 120 hl (by simp) (by simp) hE hP h0 hx h1 hx2 hn rfl w hg) rfl
  by_cases h49 : d = 121
  · subst h49
    exact read_as (readk_4_107 (107 :: 121 :: r) (121 :: r) r 121 hl (by simp) (by simp) hE hP h0 hx h1 hx2 hn rfl w hg) rfl
  by_cases h59 : d = 115
  · subst h59
    exact read_as (readk_5_107 (107 :: 115 :: r) (115 :: r) r 115 hl (by simp) (by simp) hE hP h0 hx h1 hx2 hn rfl w hg) rfl
  by_cases h69 : d = 111
  · subst h69
    exact read_as (readk_6_107 (107 :: 111 :: r) (111 :: r) r 111 hl (by simp) (by simp) hE hP h0 hx h1 hx2 hn rfl w hg) rfl
  by_cases h79 : d = 63
  · subst h79
    exact read_as (readk_7_107 (107 :: 63 :: r) (63 :: r) r 63 hl (by simp) (by simp) hE hP h0 hx h1 hx2 hn rfl w hg) rfl
  obtain ⟨hi, hk⟩ := letter_none h09 h19 h29 h39 h49 h59 h69 h79
  refine read_as (readk_m_107 (107 :: d :: r) (d :: r) r d hl (by simp) (by simp) hE hP h0 hx h1 hx2 hn hi w hg) ?_
  unfold readK
  rw [hk]
  rfl
theorem readall_107 (R : List UInt8) (hl : (107 :: R : List UInt8).length ≤ 100000) (w : World) (hg : Glob w) :
    Calls Tryz.prog 20 #[.string ⟨(107 :: R : List UInt8).toArray⟩] w (ReadR (readW (107 :: R)) w) := by
  have hE : ((107 :: R : List UInt8) == [121, 111]) = false := by simp
  have hP : [111, 110].isPrefixOf (107 :: R : List UInt8) = false := by simp [List.isPrefixOf]
  have h0 := str_at (107 :: R) 0
  have hx := str_extD (107 :: R) 1 _ (Nat.le_refl _)
  simp only [List.getD_cons_zero, List.drop_succ_cons, List.drop_zero] at h0 hx
  cases R with
  | nil => exact read_as (readn_107E [107] [] (-1) hl rfl hE hP h0 hx rfl rfl w hg) rfl
  | cons d r =>
    by_cases h5 : 0 ≤ (numR (d :: r)).1
    · refine read_as (readn_107P (107 :: d :: r) (d :: r) (numR (d :: r)).1 hl rfl hE hP h0 hx rfl rfl h5 w hg) ?_
      simp [readW, h5]
    · have h6 := readk_107 d r hl (numR_neg h5) w hg
      have h7 : readW (107 :: d :: r) = (readK false d r, 1) := by simp [readW, h5]
      rw [h7]
      exact h6
theorem readk_112 (d : UInt8) (r : List UInt8) (hl : (112 :: d :: r : List UInt8).length ≤ 100000) (hn : (numR (d :: r)).1 = -1) (w : World) (hg : Glob w) :
    Calls Tryz.prog 20 #[.string ⟨(112 :: d :: r : List UInt8).toArray⟩] w (ReadR (readK true d r, 1) w) := by
  have hE : ((112 :: d :: r : List UInt8) == [121, 111]) = false := by simp
  have hP : [111, 110].isPrefixOf (112 :: d :: r : List UInt8) = false := by simp [List.isPrefixOf]
  have h0 := str_at (112 :: d :: r) 0
  have hx := str_extD (112 :: d :: r) 1 _ (Nat.le_refl _)
  have h1 := str_at (d :: r) 0
  have hx2 := str_extD (d :: r) 1 _ (Nat.le_refl _)
  simp only [List.getD_cons_zero, List.drop_succ_cons, List.drop_zero] at h0 h1 hx hx2
  by_cases h09 : d = 102
  · subst h09
    exact read_as (readk_0_112 (112 :: 102 :: r) (102 :: r) r 102 hl (by simp) (by simp) hE hP h0 hx h1 hx2 hn rfl w hg) rfl
  by_cases h19 : d = 108
  · subst h19
    exact read_as (readk_1_112 (112 :: 108 :: r) (108 :: r) r 108 hl (by simp) (by simp) hE hP h0 hx h1 hx2 hn rfl w hg) rfl
  by_cases h29 : d = 109
  · subst h29
    exact read_as (readk_2_112 (112 :: 109 :: r) (109 :: r) r 109 hl (by simp) (by simp) hE hP h0 hx h1 hx2 hn rfl w hg) rfl
  by_cases h39 : d = 120
  · subst h39
    exact read_as (readk_3_112 (112 :: 120 :: r) (120 :: r) r 120 hl (by simp) (by simp) hE hP h0 hx h1 hx2 hn rfl w hg) rfl
  by_cases h49 : d = 121
  · subst h49
    exact read_as (readk_4_112 (112 :: 121 :: r) (121 :: r) r 121 hl (by simp) (by simp) hE hP h0 hx h1 hx2 hn rfl w hg) rfl
  by_cases h59 : d = 115
  · subst h59
    exact read_as (readk_5_112 (112 :: 115 :: r) (115 :: r) r 115 hl (by simp) (by simp) hE hP h0 hx h1 hx2 hn rfl w hg) rfl
  by_cases h69 : d = 111
  · subst h69
    exact read_as (readk_6_112 (112 :: 111 :: r) (111 :: r) r 111 hl (by simp) (by simp) hE hP h0 hx h1 hx2 hn rfl w hg) rfl
  by_cases h79 : d = 63
  · subst h79
    exact read_as (readk_7_112 (112 :: 63 :: r) (63 :: r) r 63 hl (by simp) (by simp) hE hP h0 hx h1 hx2 hn rfl w hg) rfl
  obtain ⟨hi, hk⟩ := letter_none h09 h19 h29 h39 h49 h59 h69 h79
  refine read_as (readk_m_112 (112 :: d :: r) (d :: r) r d hl (by simp) (by simp) hE hP h0 hx h1 hx2 hn hi w hg) ?_
  unfold readK
  rw [hk]
  rfl
theorem readall_112 (R : List UInt8) (hl : (112 :: R : List UInt8).length ≤ 100000) (w : World) (hg : Glob w) :
    Calls Tryz.prog 20 #[.string ⟨(112 :: R : List UInt8).toArray⟩] w (ReadR (readW (112 :: R)) w) := by
  have hE : ((112 :: R : List UInt8) == [121, 111]) = false := by simp
  have hP : [111, 110].isPrefixOf (112 :: R : List UInt8) = false := by simp [List.isPrefixOf]
  have h0 := str_at (112 :: R) 0
  have hx := str_extD (112 :: R) 1 _ (Nat.le_refl _)
  simp only [List.getD_cons_zero, List.drop_succ_cons, List.drop_zero] at h0 hx
  cases R with
  | nil => exact read_as (readn_112E [112] [] (-1) hl rfl hE hP h0 hx rfl rfl w hg) rfl
  | cons d r =>
    by_cases h5 : 0 ≤ (numR (d :: r)).1
    · refine read_as (readn_112P (112 :: d :: r) (d :: r) (numR (d :: r)).1 hl rfl hE hP h0 hx rfl rfl h5 w hg) ?_
      simp [readW, h5]
    · have h6 := readk_112 d r hl (numR_neg h5) w hg
      have h7 : readW (112 :: d :: r) = (readK true d r, 1) := by simp [readW, h5]
      rw [h7]
      exact h6
theorem read_any (l : List UInt8) (hl : l.length ≤ 100000) (w : World) (hg : Glob w) : Calls Tryz.prog 20 #[.string ⟨l.toArray⟩] w (ReadR (readW l) w) := by
  cases l with
  | nil => exact read_as (read_no [] rfl rfl rfl w) rfl
  | cons c R =>
    by_cases h1 : c = 107
    · subst h1; exact readall_107 R hl w hg
    by_cases h2 : c = 112
    · subst h2; exact readall_112 R hl w hg
    by_cases hy : c = 121 ∧ R = [111]
    · obtain ⟨rfl, rfl⟩ := hy
      exact read_as (read_yo [121, 111] rfl w) rfl
    have hE : ((c :: R : List UInt8) == [121, 111]) = false := by
      rw [beq_eq_false_iff_ne]
      intro e
      injection e with e1 e2
      exact hy ⟨e1, e2⟩
    by_cases ho : c = 111 ∧ R.head? = some 110
    · obtain ⟨rfl, h3⟩ := ho
      cases R with
      | nil => cases h3
      | cons x t =>
        obtain rfl : x = 110 := by simpa using h3
        have hx := str_extD (111 :: 110 :: t) 2 _ (Nat.le_refl _)
        simp only [List.drop_succ_cons, List.drop_zero] at hx
        refine read_as (read_on (111 :: 110 :: t) t hl hE (by simp [List.isPrefixOf]) (by simp) (by simp; omega) hx w hg) ?_
        simp [readW]
    · have hP : [111, 110].isPrefixOf (c :: R : List UInt8) = false := by
        rw [Bool.eq_false_iff]
        intro e
        cases R with
        | nil => simp [List.isPrefixOf] at e
        | cons x t =>
          simp [List.isPrefixOf] at e
          exact ho ⟨e.1.symm, by simp [e.2]⟩
      have h0 := str_at (c :: R) 0
      simp only [List.getD_cons_zero] at h0
      refine read_as (read_bad (c :: R) c hE hP rfl (by simp) h0 ?_ ?_ w) ?_
      · rw [bne_iff_ne]
        intro e
        apply h1
        apply UInt8.toNat_inj.1
        have : c.toNat = 107 := by omega
        rw [this]; rfl
      · rw [bne_iff_ne]
        intro e
        apply h2
        apply UInt8.toNat_inj.1
        have : c.toNat = 112 := by omega
        rw [this]; rfl
      · unfold readW
        simp only [hy, ho, h1, h2, if_false, or_self, not_false_eq_true, if_true]
        rfl
end Go.Proofs.YtpcefmopoceiiaaGreatDoor
