/- Text of terms. -/
import Derived.Test.YtfbfkoeaihknoaaGreatDoorH27
import Derived.Test.YtfbfkoeaihknoaaGreatDoorH01
import Derived.Test.YtfbfkoeaihknoaaGreatDoorH02
namespace Go.Proofs.YtfbfkoeaihknoaaGreatDoor
set_option maxRecDepth 100000
set_option maxRecDepth 100000
open Go.RowKit Go.ChangeShapes Go.WideShapes Go.Joins
theorem wst_new (w1 : World) : WSt w1 (w1.alloc (.cells #[.pointer none, .slice none 0 0] 60)) w1.heap.size [] (w1.alloc (.cells #[.pointer none, .slice none 0 0] 60)) :=
  ⟨bld_new w1 _ 5 _ (Nat.le_refl _), (Ext.refl w1).alloc _, Lib.OthersKept.refl _ _ _⟩
/-- a bound on the text's length -/
theorem wT_big : ∀ {t : Tms}, fineT t = true → (wT t).length ≤ 200 * t.size := by
  intro t
  induction t with
  | nil => intro _; simp [wT, Tms.size]
  | cons n c g r ih1 ih2 =>
    intro h
    obtain ⟨hn, hg, hr, hc, _⟩ := fine_parts h
    have h1 := ih1 hg
    have h2 := ih2 hr
    have h3 : (timesW n).length ≤ 21 := by
      unfold timesW
      have := dec_len n.toNat
      split
      · simp; omega
      · simp
    have h4 : (headW c g).length ≤ 100 + (wT g).length := by
      by_cases h0 : g = .nil
      · subst h0
        have h5 := wordG_len (x := (c, 1)) (hc rfl)
        show (textL [c]).length ≤ _
        rw [text_cell]
        have : (wordT c).length ≤ 100 := by simpa [wordG] using h5
        omega
      · rw [head_grp h0]
        simp
        omega
    simp only [Tms.size]
    by_cases h0 : r = .nil
    · subst h0
      rw [wT_one, List.length_append]
      omega
    · rw [wT_cons _ _ _ _ h0, List.length_append, List.length_append, List.length_cons]
      omega
/-- what Text of terms returns -/
def TxR (t : Tms) (w : World) (e : Ending) (w' : World) : Prop := e = .returned (.tuple #[.string ⟨(ttextV t).toArray⟩, .int .i64 (ttextE t)]) ∧ Ext w w'
set_option maxHeartbeats 4000000 in
theorem ttext_any (t : Tms) (ht : t.size ≤ 5000) (A : Option Addr) (n cap : Nat) (w : World) (hv : Tv w A n t) (hg : Glob w) :
    Calls Tryz.prog 10 #[.slice A n cap] w (TxR t w) := by
  have HV := Lib.hid hv
  have HG := Lib.hid hg
  obtain ⟨x, hx⟩ : ∃ x, tchkE t = x := ⟨_, rfl⟩
  by_cases h0 : x = 0
  case neg =>
    have HT := Lib.hid (show ttextE t = x ∧ ttextV t = [] by
      have h1 : ttextE t = x := by rw [ttextE, hx, if_pos h0]
      exact ⟨h1, by rw [ttextV, h1, if_neg h0]⟩)
    have HX := Lib.hid hx
    have hb : (x != 0) = true := by simpa using h0
    clear hv hg hx h0
    go_enter Tryz.func10, Tryz.ntmps10
    go_wp2_with (go_at_call 21; ((with_reducible refine (tcheck_any t ht A n cap _ (HV.out.ext (by repeat (first | exact Ext.refl _ | assumption | refine Ext.alloc ?_ _ | refine Ext.drew ?_ | refine Ext.drewN ?_ _ | refine Ext.trans ?_ (by assumption))))).mono ?_); rintro e w1 ⟨rfl, hq1⟩; rw [HX.out]))
    go_ret2
    exact ⟨by rw [HT.out.1, HT.out.2]; rfl, by repeat (first | exact Ext.refl _ | assumption | refine Ext.alloc ?_ _ | refine Ext.drew ?_ | refine Ext.drewN ?_ _ | refine Ext.trans ?_ (by assumption))⟩
  subst h0
  have HX := Lib.hid hx
  obtain ⟨hs, hd, hf⟩ := tchk_parts hx
  have hwl := wT_big hf
  obtain ⟨T, hT⟩ : ∃ T, wT t = T := ⟨_, rfl⟩
  rw [hT] at hwl
  have hW := fun (w0 : World) (b : Nat) (w' : World) (h1 : Glob w0) (h2 : Tv w0 A n t) (h3 : WSt w0 w' b [] w') => (show Calls Tryz.prog 28 #[.pointer (some ⟨b, 0, none⟩), .slice A n cap] w' fun e w'' => e = .returned (.tuple #[]) ∧ WSt w0 w' b T w'' from by
    have h := write_any 5000 (by omega) t ht hf w0 w' b A n cap [] w' h1 h2 h3 (by rw [hT]; simp; omega)
    rw [hT, List.nil_append] at h
    exact h)
  have HW := Lib.hid hW
  have HE : (3000 < T.length ∧ Hid (ttextE t = 4 ∧ ttextV t = [])) ∨ (¬ 3000 < T.length ∧ Hid (ttextE t = 0 ∧ ttextV t = T)) := by
    by_cases h : 3000 < T.length
    · left
      have h1 : ttextE t = 4 := by rw [ttextE, hx, if_neg (by simp), hT, if_pos h]
      exact ⟨h, Lib.hid ⟨h1, by rw [ttextV, h1, if_neg (by decide)]⟩⟩
    · right
      have h1 : ttextE t = 0 := by rw [ttextE, hx, if_neg (by simp), hT, if_neg h]
      exact ⟨h, Lib.hid ⟨h1, by rw [ttextV, h1, if_pos rfl, hT]⟩⟩
  clear hv hg hx hW hT hf hs hd
  rcases HE with ⟨hl, HE⟩ | ⟨hl, HE⟩
  · have hl2 : ((3000 : Int) < (T.length : Int)) := by omega
    go_enter Tryz.func10, Tryz.ntmps10
    go_wp2_with (first
      | (go_at_call 21; ((with_reducible refine (tcheck_any t ht A n cap _ (HV.out.ext (by repeat (first | exact Ext.refl _ | assumption | refine Ext.alloc ?_ _ | refine Ext.drew ?_ | refine Ext.drewN ?_ _ | refine Ext.trans ?_ (by assumption))))).mono ?_); rintro e w1 ⟨rfl, hq1⟩; rw [HX.out]))
      | (go_at_call 28; go_loud ((with_reducible refine (HW.out w1 _ _ (HG.out.ext (by repeat (first | exact Ext.refl _ | assumption | refine Ext.alloc ?_ _ | refine Ext.drew ?_ | refine Ext.drewN ?_ _ | refine Ext.trans ?_ (by assumption)))) (HV.out.ext (by repeat (first | exact Ext.refl _ | assumption | refine Ext.alloc ?_ _ | refine Ext.drew ?_ | refine Ext.drewN ?_ _ | refine Ext.trans ?_ (by assumption)))) (wst_new w1)).mono ?_); rintro e w2 ⟨rfl, hs2⟩; have HS2 := Lib.hid hs2; clear hs2))
      | (go_at_call 29; go_loud ((refine (Tryz.Builder_Len_f _ _ _ _ HS2.out.bl).mono ?_); rintro e w3 ⟨rfl, rfl⟩; rw [bytes_len])))
    go_ret2
    exact ⟨by rw [HE.out.1, HE.out.2]; rfl, Ext.trans (by repeat (first | exact Ext.refl _ | assumption | refine Ext.alloc ?_ _ | refine Ext.drew ?_ | refine Ext.drewN ?_ _ | refine Ext.trans ?_ (by assumption))) HS2.out.ex⟩
  · have hl2 : ¬ ((3000 : Int) < (T.length : Int)) := by omega
    go_enter Tryz.func10, Tryz.ntmps10
    go_wp2_with (first
      | (go_at_call 21; ((with_reducible refine (tcheck_any t ht A n cap _ (HV.out.ext (by repeat (first | exact Ext.refl _ | assumption | refine Ext.alloc ?_ _ | refine Ext.drew ?_ | refine Ext.drewN ?_ _ | refine Ext.trans ?_ (by assumption))))).mono ?_); rintro e w1 ⟨rfl, hq1⟩; rw [HX.out]))
      | (go_at_call 28; go_loud ((with_reducible refine (HW.out w1 _ _ (HG.out.ext (by repeat (first | exact Ext.refl _ | assumption | refine Ext.alloc ?_ _ | refine Ext.drew ?_ | refine Ext.drewN ?_ _ | refine Ext.trans ?_ (by assumption)))) (HV.out.ext (by repeat (first | exact Ext.refl _ | assumption | refine Ext.alloc ?_ _ | refine Ext.drew ?_ | refine Ext.drewN ?_ _ | refine Ext.trans ?_ (by assumption)))) (wst_new w1)).mono ?_); rintro e w2 ⟨rfl, hs2⟩; have HS2 := Lib.hid hs2; clear hs2))
      | (go_at_call 29; go_loud ((refine (Tryz.Builder_Len_f _ _ _ _ HS2.out.bl).mono ?_); rintro e w3 ⟨rfl, rfl⟩; rw [bytes_len]))
      | (go_at_call 30; go_loud ((refine (Tryz.Builder_String_any_k w1.heap.size _ T _ HS2.out.bl (Below.size HS2.out.ex)).mono ?_); rintro e w4 ⟨rfl, -, hq4, -⟩; have HS4 := Lib.hid (Below.trans HS2.out.ex hq4))))
    go_ret2
    exact ⟨by rw [HE.out.1, HE.out.2]; rfl, Ext.trans (by repeat (first | exact Ext.refl _ | assumption | refine Ext.alloc ?_ _ | refine Ext.drew ?_ | refine Ext.drewN ?_ _ | refine Ext.trans ?_ (by assumption))) HS4.out⟩
end Go.Proofs.YtfbfkoeaihknoaaGreatDoor
