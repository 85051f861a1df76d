/- What the reference reads of whatever word. -/
import Derived.Test.YtjjhoonkooihjaaGreatDoorG20
import Derived.Test.YtjjhoonkooihjaaGreatDoorG21
import Derived.Test.YtjjhoonkooihjaaGreatDoorG22
import Derived.Test.YtjjhoonkooihjaaGreatDoorG23
import Derived.Test.YtjjhoonkooihjaaGreatDoorG24
import Derived.Test.YtjjhoonkooihjaaGreatDoorG17
import Derived.Test.YtjjhoonkooihjaaGreatDoorG15
import Derived.Test.YtjjhoonkooihjaaGreatDoorG07
import Derived.Test.YtjjhoonkooihjaaGreatDoorG10
import Derived.Test.YtjjhoonkooihjaaGreatDoorG11
import Derived.Test.YtjjhoonkooihjaaGreatDoorG13
import Derived.Test.YtjjhoonkooihjaaGreatDoorG18
namespace Go.Proofs.YtjjhoonkooihjaaGreatDoor
set_option maxRecDepth 100000
set_option maxRecDepth 100000
open Go.RowKit
theorem word_k_any (c : UInt8) (d : UInt8) (r : List UInt8) (hc : c = 107 ∨ c = 112) (hl : (d :: r).length ≤ 100000) (w : World) : Calls Tryz.prog 66 #[.string ⟨(c :: d :: r : List UInt8).toArray⟩] w (WordR (refWord (c :: d :: r)) w) := by
  cases hn : numS (d :: r) with
  | some N =>
    have hw : refWord (c :: d :: r) = (if 1 < N then some (List.replicate (min N 300) ⟨1, decide (c = 112), 0, 0⟩) else none) := by
      rcases hc with rfl | rfl <;> simp [refWord, hn]
    rw [hw]
    rcases hc with rfl | rfl
    · exact word_num_107 _ _ d r rfl rfl hl N hn _ rfl w
    · exact word_num_112 _ _ d r rfl rfl hl N hn _ rfl w
  | none =>
    have hw : refWord (c :: d :: r) = (if kindR d = 8 then (if r = [] then some [⟨8, decide (c = 112), 0, 0⟩] else none) else refParts (kindR d) (decide (c = 112)) (spl 47 r)) := by
      rcases hc with rfl | rfl <;> simp [refWord, hn]
    rw [hw]
    by_cases h8 : kindR d = 8
    · rw [if_pos h8]
      rcases hc with rfl | rfl
      · exact word_slip_107 _ _ d r rfl rfl hl hn h8 _ rfl w
      · exact word_slip_112 _ _ d r rfl rfl hl hn h8 _ rfl w
    · rw [if_neg h8]
      by_cases h6 : kindR d = 6
      · have e : ∀ p, refParts (kindR d) p (spl 47 r) = if (spl 47 r).length = 2 then (numS ((spl 47 r).getD 1 [])).bind fun b => (numS ((spl 47 r).getD 0 [])).bind fun a => some [⟨6, p, a, b⟩] else none := fun p => by rw [h6]; rfl
        rw [e]
        rcases hc with rfl | rfl
        · exact word_two6_107 _ _ d r rfl rfl hl hn h6 _ rfl _ rfl w
        · exact word_two6_112 _ _ d r rfl rfl hl hn h6 _ rfl _ rfl w
      by_cases h7 : kindR d = 7
      · have e : ∀ p, refParts (kindR d) p (spl 47 r) = if (spl 47 r).length = 2 then (numS ((spl 47 r).getD 1 [])).bind fun b => (numS ((spl 47 r).getD 0 [])).bind fun a => some [⟨7, p, a, b⟩] else none := fun p => by rw [h7]; rfl
        rw [e]
        rcases hc with rfl | rfl
        · exact word_two7_107 _ _ d r rfl rfl hl hn h7 _ rfl _ rfl w
        · exact word_two7_112 _ _ d r rfl rfl hl hn h7 _ rfl _ rfl w
      by_cases h0 : kindR d = 0
      · have e : ∀ p, refParts (kindR d) p (spl 47 r) = none := fun p => by rw [h0]; simp [refParts]
        rw [e]
        rcases hc with rfl | rfl
        · exact word_zero_107 _ _ d r rfl rfl hl hn h0 _ rfl w
        · exact word_zero_112 _ _ d r rfl rfl hl hn h0 _ rfl w
      · have e : ∀ p, refParts (kindR d) p (spl 47 r) = if (spl 47 r).length = 1 then (numS ((spl 47 r).getD 0 [])).bind fun a => some [⟨kindR d, p, a, 0⟩] else none := fun p => by
          simp [refParts, h6, h7, h0]
        rw [e]
        have b8 : (kindR d == 8) = false := beq_eq_false_iff_ne.2 h8
        have b6 : (kindR d == 6) = false := beq_eq_false_iff_ne.2 h6
        have b7 : (kindR d == 7) = false := beq_eq_false_iff_ne.2 h7
        have b0 : (kindR d != 0) = true := bne_iff_ne.2 h0
        rcases hc with rfl | rfl
        · exact word_one_part_107 _ _ d r rfl rfl hl hn _ rfl _ rfl b8 b6 b7 b0 _ rfl w
        · exact word_one_part_112 _ _ d r rfl rfl hl hn _ rfl _ rfl b8 b6 b7 b0 _ rfl w
theorem word_ref_any (l : List UInt8) (hl : l.length ≤ 100000) (w : World) : Calls Tryz.prog 66 #[.string ⟨l.toArray⟩] w (WordR (refWord l) w) := by
  cases l with
  | nil => exact word_nil w
  | cons c R =>
    by_cases hc : c = 107 ∨ c = 112
    · cases R with
      | nil =>
        rcases hc with rfl | rfl
        · exact word_one_107 w
        · exact word_one_112 w
      | cons d r => exact word_k_any c d r hc (by simp only [List.length_cons] at hl ⊢; omega) w
    · by_cases hy : c = 121 ∧ R = [111]
      · obtain ⟨rfl, rfl⟩ := hy
        exact word_yo w
      · have hE : ((c :: R : List UInt8) == [121, 111]) = false := by
          rw [beq_eq_false_iff_ne]
          intro e
          injection e with e1 e2
          exact hy ⟨e1, e2⟩
        by_cases ho : 1 < R.length ∧ c = 111 ∧ R.head? = some 110
        · have hw : refWord (c :: R) = (numS R.tail).bind fun a => some [⟨9, false, a, 0⟩] := by rw [refWord.eq_def]; simp only; rw [if_neg hy, if_pos ho]
          rw [hw]
          obtain ⟨h1, rfl, h3⟩ := ho
          cases R with
          | nil => cases h3
          | cons x t =>
            obtain rfl : x = 110 := by simpa using h3
            refine word_on _ t hE (by simp only [List.length_cons] at h1 ⊢; omega) (by simp) ?_ (by simp only [List.length_cons] at hl; omega) w
            rw [str_extD _ 2 _ (Nat.le_refl _)]
            rfl
        · have hw : refWord (c :: R) = none := by rw [refWord.eq_def]; simp only; rw [if_neg hy, if_neg ho, if_pos hc]
          rw [hw]
          have hk : ((c.toNat : Int) != 107) = true := by
            rw [bne_iff_ne]
            intro e
            exact hc (.inl (UInt8.toNat_inj.1 (by rw [show (107 : UInt8).toNat = 107 from rfl]; omega)))
          have hq : ((c.toNat : Int) != 112) = true := by
            rw [bne_iff_ne]
            intro e
            exact hc (.inr (UInt8.toNat_inj.1 (by rw [show (112 : UInt8).toNat = 112 from rfl]; omega)))
          have h0 : ∀ h, (⟨(c :: R : List UInt8).toArray⟩ : ByteArray)[0]'h = c := fun _ => rfl
          by_cases hp : ((c :: R : List UInt8).take 2 == [111, 110]) = true
          · have hlen : ¬ 1 < R.length := fun h => by
              apply ho
              rw [beq_iff_eq] at hp
              cases R with
              | nil => simp at h
              | cons x t =>
                simp at hp
                exact ⟨h, hp.1, by rw [hp.2]; rfl⟩
            exact word_short _ c hE (by simp only [List.length_cons]; omega) h0 (by simp only [List.length_cons]; omega) hk hq w
          · exact word_bad _ c hE (by simpa using hp) h0 (by simp only [List.length_cons]; omega) hk hq w
end Go.Proofs.YtjjhoonkooihjaaGreatDoor
/- The reference's Turn, Text and Parse; Turn of whatever list. -/
namespace Go.Proofs.YtjjhoonkooihjaaGreatDoor
set_option maxRecDepth 100000
set_option maxRecDepth 100000
open Go.RowKit Go.ChangeShapes Go.WideShapes Go.Joins
/-- what Turn returns -/
def turnG (l : List St) : List St := if allE l = 0 then turnL l else []
theorem sturn_any (m c : Nat) (A : Option Addr) (l : List St) (w : World) (hv : Vec shSt w A m l) (hn : m ≤ maxLen) (hby : Bytes l) : Calls Tryz.prog 23 #[.slice A m c] w (FaceR (turnG l) (allE l) w) := by
  by_cases h0 : allE l = 0
  · rw [turnG, if_pos h0, h0]
    exact turn_ok m c A l w hv h0
  · rw [turnG, if_neg h0]
    have HS := Lib.hid (sall_any m c A l w hv hn hby)
    obtain ⟨x, hx⟩ : ∃ x, allE l = x := ⟨_, rfl⟩
    rw [hx] at h0 HS ⊢
    have hb : (x != 0) = true := by simpa using h0
    clear hv hby h0 hx
    go_enter Tryz.func23, Tryz.ntmps23
    go_wp2_with (go_at_call 46; go_loud ((with_reducible refine HS.out.mono ?_); rintro e w1 ⟨rfl, hq1⟩))
    go_ret2
    exact ⟨none, 0, 0, rfl, by repeat (first | exact Ext.refl _ | assumption | refine Ext.alloc ?_ _ | refine Ext.drew ?_ | refine Ext.drewN ?_ _ | refine Ext.trans ?_ (by assumption)), Vec.none_ _ _ _⟩
end Go.Proofs.YtjjhoonkooihjaaGreatDoor
/- The reference's Parse. -/
namespace Go.Proofs.YtjjhoonkooihjaaGreatDoor
set_option maxRecDepth 100000
set_option maxRecDepth 100000
open Go.RowKit Go.ChangeShapes Go.WideShapes Go.Joins
theorem refParts_len {k : Int} {p : Bool} {P : List (List UInt8)} {L : List St} (h : refParts k p P = some L) : L.length ≤ 300 := by
  unfold refParts at h
  repeat' split at h
  · obtain ⟨b, -, h2⟩ := Option.bind_eq_some_iff.1 h
    obtain ⟨a, -, h3⟩ := Option.bind_eq_some_iff.1 h2
    cases h3
    simp
  · cases h
  · obtain ⟨a, -, h3⟩ := Option.bind_eq_some_iff.1 h
    cases h3
    simp
  · cases h
theorem refWord_len {l : List UInt8} {L : List St} (h : refWord l = some L) : L.length ≤ 300 := by
  unfold refWord at h
  repeat' split at h
  all_goals first
    | (cases h; done)
    | (cases h; simp; done)
    | exact refParts_len h
    | (obtain ⟨a, -, h3⟩ := Option.bind_eq_some_iff.1 h; cases h3; simp; done)
    | (cases h; simp; omega)
theorem rgo_drop {ws : List (List UInt8)} {k : Nat} (hk : k < ws.length) (acc : List St) : rparseGo acc (ws.drop k) = match refWord (ws.getD k []) with
    | none => none
    | some l => if 200 < (acc ++ l).length then none else rparseGo (acc ++ l) (ws.drop (k + 1)) := by
  rw [List.drop_eq_getElem_cons hk, rparseGo, List.getD_eq_getElem?_getD, List.getElem?_eq_getElem hk]
  rfl
theorem rparse_end {s : List UInt8} {acc : List St} (hs : s.length ≤ 3000) (h0 : s ≠ []) (h : rparseGo [] (spl 32 s) = some acc) : parseL s = if allE acc = 0 ∧ textL acc = s then some acc else none := by
  rw [← rparse_eq, rparseL, if_neg (by omega), rparseW, if_neg h0, h]
  rfl
theorem rparse_bad {s : List UInt8} (hs : s.length ≤ 3000) (h0 : s ≠ []) (h : rparseGo [] (spl 32 s) = none) : parseL s = none := by
  rw [← rparse_eq, rparseL, if_neg (by omega), rparseW, if_neg h0, h]
  rfl
def ParseX (s : List UInt8) (w : World) (e : Ending) (w' : World) : Prop := ∃ (A : Option Addr) (n c : Nat), e = .returned (.tuple #[.slice A n c, .int .i64 (parseE s)]) ∧ Ext w w' ∧ Vec shSt w' A n (parseV s)
theorem ParseR.x {s : List UInt8} {w : World} {e : Ending} {w' : World} (h : ParseR s w e w') : ParseX s w e w' := by
  obtain ⟨v, rfl, h1, h2⟩ := h
  obtain ⟨A, c, rfl, h3⟩ := own_vec h1
  exact ⟨A, _, c, rfl, h2, h3⟩
theorem rparse_long (l : List UInt8) (hl : 3000 < l.length) (h : (l.length : Int) ≤ 1000000000) (w : World) : Calls Tryz.prog 42 #[.string ⟨l.toArray⟩] w (ParseR l w) := by
  have h1 := Lib.hid (show parseL l = none by rw [parseL, if_pos hl])
  have h2 : (3000 : Int) < (l.length : Int) := by omega
  clear hl
  go_enter Tryz.func42, Tryz.ntmps42
  go_wp2_with fail
  go_ret2
  exact parse_fail h1.out (by repeat (first | exact Ext.refl _ | assumption | refine Ext.alloc ?_ _ | refine Ext.drew ?_ | refine Ext.drewN ?_ _ | refine Ext.trans ?_ (by assumption)))
theorem rparse_nil (w : World) : Calls Tryz.prog 42 #[.string ⟨([] : List UInt8).toArray⟩] w (ParseR [] w) := by
  have HF := Lib.hid (show parseL [] = some [] by decide +kernel)
  go_enter Tryz.func42, Tryz.ntmps42
  go_wp2_with fail
  go_ret2
  exact parse_done HF.out (OwnV.nil _ _ _ _) (by repeat (first | exact Ext.refl _ | assumption | refine Ext.alloc ?_ _ | refine Ext.drew ?_ | refine Ext.drewN ?_ _ | refine Ext.trans ?_ (by assumption)))
set_option maxHeartbeats 4000000 in
theorem rparse_main (l : List UInt8) (h0 : l ≠ []) (hl : l.length ≤ 3000) (w : World) : Calls Tryz.prog 42 #[.string ⟨l.toArray⟩] w (ParseR l w) := by
  have HS := Lib.hid (show Calls Tryz.prog 40 #[.string ⟨l.toArray⟩, .int .u8 32] w fun e w'' => ∃ v, e = .returned v ∧ OwnV shStr w'' w.heap.size 9 v (spl 32 l).length (spl 32 l) ∧ Ext w w'' from cut_any 32 l (by omega) w)
  have hwl := spl_words_len 32 l
  have HPE := Lib.hid (fun (acc : List St) (h : rparseGo [] (spl 32 l) = some acc) => rparse_end hl h0 h)
  have HPB := Lib.hid (fun (h : rparseGo [] (spl 32 l) = none) => rparse_bad hl h0 h)
  generalize spl 32 l = ws at *
  obtain ⟨hw1, hw2⟩ := hwl
  have HW := Lib.hid hw2
  obtain ⟨n, hn⟩ : ∃ n, ws.length = n := ⟨_, rfl⟩
  rw [hn] at HS
  have hn2 : n ≤ 3001 := by omega
  have hlen : ¬ (3000 : Int) < (l.length : Int) := by omega
  have hE : (l == []) = false := by simpa using h0
  clear hw2 h0
  go_enter Tryz.func42, Tryz.ntmps42
  go_wp2_with (go_at_call 40; go_loud ((with_reducible refine HS.out.mono ?_); rintro e w1 ⟨v1, rfl, hv1, hq1⟩; obtain ⟨A1, c1, rfl, hvv, -⟩ := own_vecB hv1; have HQ1 := Lib.hid hq1; have HV1 := Lib.hid hv1; clear hq1 hv1 hvv))
  go_loopw [5, 6] (fun u i wr => ∃ (V : Value) (k : Nat) (acc : List St), V = u ∧ i = .int .i64 k ∧ k ≤ n ∧ acc.length ≤ 200 ∧ Hid (OwnV shSt wr w1.heap.size 54 V acc.length acc) ∧ Hid (Ext w1 wr) ∧ Hid (rparseGo [] ws = rparseGo acc (ws.drop k))) (fun _ i _ => n - (intOf i).toNat)
  case atStart => exact ⟨_, 0, [], rfl, rfl, Nat.zero_le _, by simp, Lib.hid (OwnV.nil _ _ _ _), Lib.hid (Ext.refl _), Lib.hid rfl⟩
  case round =>
    obtain ⟨V, k, acc, rfl, rfl, hk, hal, HV, HE1, HP⟩ := hrel
    have HE := Lib.hid (HQ1.out.trans HE1.out)
    obtain ⟨A9, c9, rfl, hv9, -⟩ := own_vecB HV.out
    have HV9 := Lib.hid hv9
    clear hv9
    by_cases hlt : k < n
    · obtain ⟨b3, off3, rfl, -, hlt3, hcs⟩ := own_strs HV1.out (by omega)
      have hcell := (Below.cell (p := ⟨b3, off3 + k, none⟩) HE1.out hlt3).trans (hcs k hlt)
      have hz := World.block_lt_of_cell? wr _ hcell
      clear hcs
      have hd := HP.out.trans (rgo_drop (ws := ws) (k := k) (by omega) acc)
      have hxl := HW.out (ws.getD k []) (by rw [List.getD_eq_getElem?_getD, List.getElem?_eq_getElem (by omega)]; exact List.getElem_mem _)
      generalize ws.getD k [] = x at *
      have q5 : (k : Int) < (n : Int) := by omega
      have q4 : (0 : Int) ≤ (k : Int) := by omega
      cases hrw : refWord x with
      | none =>
        have HR := Lib.hid (show ∀ w', Calls Tryz.prog 66 #[.string ⟨x.toArray⟩] w' (WordR none w') from fun w' => by rw [← hrw]; exact word_ref_any x (by omega) w')
        rw [hrw] at hd
        have HF := Lib.hid (HPB.out hd)
        clear hd hrw hxl HP HW
        go_wp2_with (go_at_call 66; go_loud ((with_reducible refine (HR.out _).mono ?_); rintro e w2 ⟨A2, n2, c2, rfl, hq2, -⟩; have HQ2 := Lib.hid (HE.out.trans hq2); clear hq2))
        go_ret2
        exact parse_fail HF.out HQ2.out
      | some L =>
        have hL3 := refWord_len hrw
        have HR := Lib.hid (show ∀ w', Calls Tryz.prog 66 #[.string ⟨x.toArray⟩] w' (WordR (some L) w') from fun w' => by rw [← hrw]; exact word_ref_any x (by omega) w')
        rw [hrw] at hd
        simp only at hd
        have HD := Lib.hid hd
        clear hd hrw hxl HP HW
        obtain ⟨m, hm⟩ : ∃ m, L.length = m := ⟨_, rfl⟩
        by_cases h2 : acc.length + m ≤ 200
        · have q6 : ¬ ((200 : Int) < (acc.length : Int) + (m : Int)) := by omega
          have HF := Lib.hid (HD.out.trans (if_neg (by rw [List.length_append]; omega)))
          clear HD
          go_wp2_with (first
            | (go_at_call 66; go_loud ((with_reducible refine (HR.out _).mono ?_); rintro e w2 ⟨A2, n2, c2, rfl, hq2, hv2⟩; obtain rfl : n2 = m := (by have := (hv2 L rfl).1; omega); have HQ2 := Lib.hid (HE1.out.trans hq2); have HQ3 := Lib.hid hq2; have HV2 := Lib.hid (hv2 L rfl); clear hq2 hv2))
            | (at_builtin; go_loud (refine wpList_append_vecsB (S := shSt) (w := w1) (xs := L) 44 54 (.agg #[.int .u8 0, .bool false, .int .i64 0, .int .i64 0]) 24 (by rfl) (by rfl) Tryz.underlying44 info_st (by rfl) (by omega) (by rfl) (by rfl) (OwnV.ext HV.out HQ3.out) HQ2.out HV2.out (by omega) ?_; intro v' w6 hown6 hext6 hgr6; obtain ⟨A6, c6, rfl, -, -⟩ := own_vecB hown6)))
          have HN := Lib.hid (show OwnV shSt w6 w1.heap.size 54 (.slice A6 (acc.length + n2) c6) (acc ++ L).length (acc ++ L) by
            rw [List.length_append, hm]
            exact hown6)
          clear hown6 hgr6
          go_roundw
          case rel => exact ⟨_, k + 1, acc ++ L, rfl, by go_num, by omega, by rw [List.length_append]; omega, HN, hext6, HF⟩
          case measure => simp [intOf] <;> omega
        · have q6 : (200 : Int) < (acc.length : Int) + (m : Int) := by omega
          have HF := Lib.hid (HPB.out (HD.out.trans (if_pos (by rw [List.length_append]; omega))))
          clear HD
          go_wp2_with (first
            | (go_at_call 66; go_loud ((with_reducible refine (HR.out _).mono ?_); rintro e w2 ⟨A2, n2, c2, rfl, hq2, hv2⟩; obtain rfl : n2 = m := (by have := (hv2 L rfl).1; omega); have HQ2 := Lib.hid (HE1.out.trans hq2); have HQ3 := Lib.hid hq2; have HV2 := Lib.hid (hv2 L rfl); clear hq2 hv2))
            | (at_builtin; go_loud (refine wpList_append_vecsB (S := shSt) (w := w1) (xs := L) 44 54 (.agg #[.int .u8 0, .bool false, .int .i64 0, .int .i64 0]) 24 (by rfl) (by rfl) Tryz.underlying44 info_st (by rfl) (by omega) (by rfl) (by rfl) (OwnV.ext HV.out HQ3.out) HQ2.out HV2.out (by omega) ?_; intro v' w6 hown6 hext6 hgr6; obtain ⟨A6, c6, rfl, -, -⟩ := own_vecB hown6)))
          go_ret2
          exact parse_fail HF.out (HQ1.out.trans hext6.out)
    · obtain rfl : k = n := by omega
      have hfin : rparseGo [] ws = some acc := by
        have h9 := HP.out
        rw [List.drop_of_length_le (by omega)] at h9
        exact h9
      have HL := Lib.hid (HPE.out acc hfin)
      have HSA := Lib.hid (fun (w' : World) (hb : Ext wr w') => rall_any acc.length c9 A9 acc w' (HV9.out.ext hb) (by unfold maxLen; omega))
      clear hfin HP HPE HPB HW
      by_cases hA : allE acc = 0
      · have HTX := Lib.hid (fun (w' : World) (hb : Ext wr w') => written_any acc.length c9 A9 acc w' (HV9.out.ext hb) hal (allE_e hA).2.1)
        by_cases hT : textL acc = l
        · have HF := Lib.hid (HL.out.trans (if_pos (And.intro hA hT)))
          have HAE := Lib.hid hA
          have HTE := Lib.hid hT
          clear hA hT
          go_wp2_with (first
            | (go_at_call 67; go_loud ((with_reducible refine (HSA.out _ (Ext.refl _)).mono ?_); rintro e w2 ⟨rfl, hq2⟩; rw [HAE.out]; have HQ2 := Lib.hid hq2; clear hq2))
            | (go_at_call 56; go_loud ((with_reducible refine (HTX.out _ HQ2.out).mono ?_); rintro e w3 ⟨rfl, hq3⟩; rw [HTE.out]; have HQ3 := Lib.hid (HQ2.out.trans hq3); clear hq3)))
          go_ret2
          exact parse_done HF.out ((OwnV.down HV.out HQ1.out.size).ext HQ3.out) (HE.out.trans HQ3.out)
        · have HF := Lib.hid (HL.out.trans (if_neg (fun h => hT h.2)))
          have HAE := Lib.hid hA
          have hT2 : (textL acc == l) = false := by simpa using hT
          clear hA hT
          generalize textL acc = T at *
          go_wp2_with (first
            | (go_at_call 67; go_loud ((with_reducible refine (HSA.out _ (Ext.refl _)).mono ?_); rintro e w2 ⟨rfl, hq2⟩; rw [HAE.out]; have HQ2 := Lib.hid hq2; clear hq2))
            | (go_at_call 56; go_loud ((with_reducible refine (HTX.out _ HQ2.out).mono ?_); rintro e w3 ⟨rfl, hq3⟩; have HQ3 := Lib.hid (HQ2.out.trans hq3); clear hq3)))
          go_ret2
          exact parse_fail HF.out (HE.out.trans HQ3.out)
      · have HF := Lib.hid (HL.out.trans (if_neg (fun h => hA h.1)))
        generalize hae : allE acc = ae at *
        have hb8 : (ae != 0) = true := by simpa using hA
        clear hA
        go_wp2_with (first
          | (go_at_call 67; go_loud ((with_reducible refine (HSA.out _ (Ext.refl _)).mono ?_); rintro e w2 ⟨rfl, hq2⟩; have HQ2 := Lib.hid hq2; clear hq2)))
        go_ret2
        exact parse_fail HF.out (HE.out.trans HQ2.out)
theorem rparse_own (l : List UInt8) (hl : l.length ≤ 1000000000) (w : World) : Calls Tryz.prog 42 #[.string ⟨l.toArray⟩] w (ParseR l w) := by
  by_cases h : 3000 < l.length
  · exact rparse_long l h (by omega) w
  · cases l with
    | nil => exact rparse_nil w
    | cons c r => exact rparse_main _ (by simp) (by omega) w
theorem rparse_any (l : List UInt8) (hl : l.length ≤ 1000000000) (w : World) : Calls Tryz.prog 42 #[.string ⟨l.toArray⟩] w (ParseX l w) := (rparse_own l hl w).mono fun _ _ h => h.x
end Go.Proofs.YtjjhoonkooihjaaGreatDoor
/- The reference's Parse of charts: small facts for its walk. -/
namespace Go.Proofs.YtjjhoonkooihjaaGreatDoor
set_option maxRecDepth 100000
set_option maxRecDepth 100000
open Go.RowKit Go.ChangeShapes Go.WideShapes Go.Joins
/-- where a string is cut -/
theorem cutF_at (c : UInt8) (l : List UInt8) : (cutF c l).1 = l.take (cutF c l).1.length ∧ (∀ j, j < (cutF c l).1.length → l.getD j 0 ≠ c) ∧
    ((cutF c l).2.2 = true → (cutF c l).1.length < l.length ∧ l.getD (cutF c l).1.length 0 = c ∧ (cutF c l).2.1 = l.drop ((cutF c l).1.length + 1)) ∧ ((cutF c l).2.2 = false → (cutF c l).1.length = l.length) := by
  induction l with
  | nil => simp [cutF]
  | cons x l ih =>
    obtain ⟨i1, i2, i3, i4⟩ := ih
    rw [cutF]
    by_cases h : x = c
    · rw [if_pos h]
      exact ⟨rfl, fun j hj => absurd hj (by simp), fun _ => ⟨by simp, by simpa using h, by simp⟩, fun h9 => by cases h9⟩
    · rw [if_neg h]
      refine ⟨?_, fun j hj => ?_, fun h9 => ?_, fun h9 => ?_⟩
      · simp only [List.length_cons, List.take_succ_cons]
        rw [← i1]
      · cases j with
        | zero => simpa using h
        | succ j =>
          simp only [List.length_cons] at hj
          rw [List.getD_cons_succ]
          exact i2 j (by omega)
      · obtain ⟨g1, g2, g3⟩ := i3 h9
        simp only [List.length_cons]
        exact ⟨by omega, by rw [List.getD_cons_succ]; exact g2, by rw [List.drop_succ_cons]; exact g3⟩
      · simp only [List.length_cons]
        rw [i4 h9]
theorem rrowsP_drop {acc : List Ro} {ws : List (List UInt8)} {k n : Nat} (hk : k + 1 < n) (hn : ws.length = n) : rrowsP acc ((ws.drop k).take (n - 1 - k)) = match rrowP (ws.getD k []) with
    | none => none
    | some r => rrowsP (acc ++ [r]) ((ws.drop (k + 1)).take (n - 1 - (k + 1))) := by
  have e : (ws.drop k).take (n - 1 - k) = ws.getD k [] :: (ws.drop (k + 1)).take (n - 1 - (k + 1)) := by
    rw [List.drop_eq_getElem_cons (by omega), show n - 1 - k = (n - 1 - (k + 1)) + 1 by omega, List.take_succ_cons, List.getD_eq_getElem?_getD, List.getElem?_eq_getElem (by omega)]
    rfl
  rw [e, rrowsP]
  cases rrowP (ws.getD k []) <;> rfl
theorem rrowP_side {x : List UInt8} (h1 : (cutF 32 x).1 ≠ [102, 114, 111, 110, 116]) (h2 : (cutF 32 x).1 ≠ [98, 97, 99, 107]) : rrowP x = none := by
  rw [rrowP, if_neg]
  rintro (h | h)
  · exact h1 h
  · exact h2 h
theorem rrowP_bare {x : List UInt8} (h1 : (cutF 32 x).1 = [102, 114, 111, 110, 116] ∨ (cutF 32 x).1 = [98, 97, 99, 107]) (h2 : (cutF 32 x).2.2 = false) : rrowP x = some ⟨decide ((cutF 32 x).1 = sideT true), []⟩ := by
  have h1' : (cutF 32 x).1 = sideT false ∨ (cutF 32 x).1 = sideT true := h1
  rw [rrowP, if_pos h1', if_neg (by simp [h2])]
theorem rrowP_no {x : List UInt8} (h2 : (cutF 32 x).2.2 = true) (h3 : parseL (cutF 32 x).2.1 = none) : rrowP x = none := by
  rw [rrowP]
  by_cases h1 : (cutF 32 x).1 = sideT false ∨ (cutF 32 x).1 = sideT true
  · rw [if_pos h1, if_pos h2, h3]
    rfl
  · rw [if_neg h1]
theorem rrowP_yes {x : List UInt8} {l : List St} (h1 : (cutF 32 x).1 = [102, 114, 111, 110, 116] ∨ (cutF 32 x).1 = [98, 97, 99, 107]) (h2 : (cutF 32 x).2.2 = true) (h3 : parseL (cutF 32 x).2.1 = some l) : rrowP x = some ⟨decide ((cutF 32 x).1 = sideT true), l⟩ := by
  have h1' : (cutF 32 x).1 = sideT false ∨ (cutF 32 x).1 = sideT true := h1
  rw [rrowP, if_pos h1', if_pos h2, h3]
  rfl
theorem rchartP_head {s : List UInt8} (h : (spl 10 s).length < 2 ∨ 102 < (spl 10 s).length ∨ ((spl 10 s).getD 0 []).length < 7 ∨ ¬ ((spl 10 s).getD 0 []).take 6 = wStart) : chartP s = none := by
  rw [← rchart_eq, rchartP]
  by_cases hl : 20000 < s.length
  · rw [if_pos hl]
  · rw [if_neg hl, if_pos h]
theorem rchartP_num {s : List UInt8} (h : numS (((spl 10 s).getD 0 []).drop 6) = none) : chartP s = none := by
  rw [← rchart_eq, rchartP, h]
  simp
theorem rchartP_go {s : List UInt8} {n : Nat} {X : Option (List Ro)} (hs : s.length ≤ 20000) (h : ¬ ((spl 10 s).length < 2 ∨ 102 < (spl 10 s).length ∨ ((spl 10 s).getD 0 []).length < 7 ∨ ¬ ((spl 10 s).getD 0 []).take 6 = wStart)) (hn : numS (((spl 10 s).getD 0 []).drop 6) = some n)
    (hx : rrowsP [] (((spl 10 s).drop 1).take ((spl 10 s).length - 1 - 1)) = X) : chartP s = X.bind fun l => if chkC n l = 0 ∧ chartL n l = s then some ((n : Int), l) else none := by
  rw [← rchart_eq, rchartP, if_neg (by omega), if_neg h, hn]
  simp only
  rw [show (spl 10 s).length - 2 = (spl 10 s).length - 1 - 1 by omega, hx]
/-- the state of the reference's Parse in its rounds: the cell of the result, the lines, and the chart -/
structure PJ (n : Int) (gR gb go N gc : Nat) (ws : List (List UInt8)) (w W wr : World) (acc : List Ro) (V : Value) : Prop where
  e0 : Ext w W
  e1 : Ext W wr
  r0 : W.cell? ⟨gR, 0, none⟩ = some (.int .i64 0)
  r1 : W.cell? ⟨gR, 1, none⟩ = some (.slice none 0 0)
  wd : ∀ k, k < N → W.cell? ⟨gb, go + k, none⟩ = some (.string ⟨(ws.getD k []).toArray⟩)
  c0 : W.cell? ⟨gc, 0, none⟩ = some (.int .i64 n)
  c1 : W.cell? ⟨gc, 1, none⟩ = some V
  z0 : ∀ o, W.frozen? ⟨gR, o, none⟩ = false
  z2 : ∀ o, W.frozen? ⟨gc, o, none⟩ = false
  lt : w.heap.size ≤ gR ∧ gR < gb ∧ gb < gc ∧ gc < W.heap.size
  own : OwnR wr W.heap.size 46 V acc.length acc
theorem PJ.ext {n : Int} {gR gb go N gc : Nat} {ws : List (List UInt8)} {w W wr wx : World} {acc : List Ro} {V : Value} (h : PJ n gR gb go N gc ws w W wr acc V) (hb : Ext wr wx) : PJ n gR gb go N gc ws w W wx acc V :=
  { h with e1 := h.e1.trans hb, own := h.own.ext hb }
theorem PJ.facts {n : Int} {gR gb go N gc : Nat} {ws : List (List UInt8)} {w W wr : World} {acc : List Ro} {V : Value} (h : PJ n gR gb go N gc ws w W wr acc V) :
    wr.cell? ⟨gR, 0, none⟩ = some (.int .i64 0) ∧ wr.cell? ⟨gR, 1, none⟩ = some (.slice none 0 0) ∧ wr.cell? ⟨gc, 0, none⟩ = some (.int .i64 n) ∧ wr.cell? ⟨gc, 1, none⟩ = some V ∧
      wr.frozen? ⟨gR, 0, none⟩ = false ∧ wr.frozen? ⟨gR, 1, none⟩ = false ∧ wr.frozen? ⟨gc, 1, none⟩ = false ∧ gR < wr.heap.size ∧ gc < wr.heap.size ∧ gb < wr.heap.size := by
  obtain ⟨hc, hf, hz⟩ := h.e1.facts
  obtain ⟨l0, l1, l2, l3⟩ := h.lt
  exact ⟨(hc _ _ (by omega)).trans h.r0, (hc _ _ (by omega)).trans h.r1, (hc _ _ (by omega)).trans h.c0, (hc _ _ (by omega)).trans h.c1,
    (hf _ _ (by omega)).trans (h.z0 _), (hf _ _ (by omega)).trans (h.z0 _), (hf _ _ (by omega)).trans (h.z2 _), hz _ (by omega), hz _ (by omega), hz _ (by omega)⟩
theorem PJ.word {n : Int} {gR gb go N gc : Nat} {ws : List (List UInt8)} {w W wr : World} {acc : List Ro} {V : Value} (h : PJ n gR gb go N gc ws w W wr acc V) {k : Nat} (hk : k < N) : wr.cell? ⟨gb, go + k, none⟩ = some (.string ⟨(ws.getD k []).toArray⟩) := by
  obtain ⟨l0, l1, l2, l3⟩ := h.lt
  exact (h.e1.facts.1 _ _ (by omega)).trans (h.wd k hk)
theorem PJ.gsz {n : Int} {gR gb go N gc : Nat} {ws : List (List UInt8)} {w W wr : World} {acc : List Ro} {V : Value} (h : PJ n gR gb go N gc ws w W wr acc V) : W.heap.size ≤ wr.heap.size ∧ w.heap.size ≤ W.heap.size ∧ gR < W.heap.size := by
  obtain ⟨l0, l1, l2, l3⟩ := h.lt
  exact ⟨Below.size h.e1, by omega, by omega⟩
theorem PJ.rows_ {n : Int} {gR gb go N gc : Nat} {ws : List (List UInt8)} {w W wr wx : World} {acc acc2 : List Ro} {V V2 : Value} (h : PJ n gR gb go N gc ws w W wr acc V) (hb : Ext W wx) (ho : OwnR wx W.heap.size 46 V2 acc2.length acc2) :
    PJ n gR gb go N gc ws w (W.setCell ⟨gc, 1, none⟩ V2) (wx.setCell ⟨gc, 1, none⟩ V2) acc2 V2 := by
  obtain ⟨l0, l1, l2, l3⟩ := h.lt
  refine ⟨Below.setCell h.e0 (by simp only; omega) _, hb.set2 (by simp only; omega) _, ?_, ?_, fun k hk => ?_, ?_, World.cell?_setCell_same _ _ _ h.c1, fun o => (World.frozen?_setCell _ _ _ _).trans (h.z0 o), fun o => (World.frozen?_setCell _ _ _ _).trans (h.z2 o), ⟨l0, l1, l2, by simpa using l3⟩, ?_⟩
  · rw [World.cell?_setCell_other _ _ _ _ (by intro e; cases e)]; exact h.r0
  · rw [World.cell?_setCell_other _ _ _ _ (by intro e; simp only [Addr.mk.injEq] at e; omega)]; exact h.r1
  · rw [World.cell?_setCell_other _ _ _ _ (by intro e; simp only [Addr.mk.injEq] at e; omega)]; exact h.wd k hk
  · rw [World.cell?_setCell_other _ _ _ _ (by intro e; cases e)]; exact h.c0
  · have h9 := ho.set (p := ⟨gc, 1, none⟩) (by simp only; omega) V2
    simpa using h9
theorem PJ.start {n : Int} {go N : Nat} {gb : Nat} {ws : List (List UInt8)} {w w2 w3 : World} {tc : TypeId} (h2 : Ext (w.alloc (.cells #[.int .i64 0, .slice none 0 0] tc)) w2) (hgb : w.heap.size < gb ∧ gb < w2.heap.size) (hw : ∀ k, k < N → w2.cell? ⟨gb, go + k, none⟩ = some (.string ⟨(ws.getD k []).toArray⟩))
    (h3 : Ext w2 w3) : PJ n w.heap.size gb go N w3.heap.size ws w (w3.alloc (.cells #[.int .i64 n, .slice none 0 0] tc)) (w3.alloc (.cells #[.int .i64 n, .slice none 0 0] tc)) [] (.slice none 0 0) := by
  have hx : Ext (w.alloc (.cells #[.int .i64 0, .slice none 0 0] tc)) (w3.alloc (.cells #[.int .i64 n, .slice none 0 0] tc)) := (h2.trans h3).alloc _
  obtain ⟨hc, hf, -⟩ := hx.facts
  have z3 := Below.size h3
  obtain ⟨hc3, -, -⟩ := (h3.alloc (.cells #[.int .i64 n, .slice none 0 0] tc)).facts
  refine ⟨((Ext.refl w).alloc _).trans hx, Ext.refl _, ?_, ?_, fun k hk => (hc3 _ _ hgb.2).trans (hw k hk), by simp [go_sem], by simp [go_sem], fun o => ?_, fun o => by simp [go_sem], ⟨Nat.le_refl _, hgb.1, by omega, by simp⟩, OwnR.nil _ _ _⟩
  · rw [hc _ _ (by simp)]; simp [go_sem]
  · rw [hc _ _ (by simp)]; simp [go_sem]
  · rw [hf _ _ (by simp)]; simp [go_sem]
/-- what has been read lies as it lay where an elder block is written -/
theorem parse_cells {w : World} {A : Option Addr} {n B g o : Nat} {l : List St} {u : Value} (h : Vec shSt w A n l) (hb : 0 < n → ∀ b off, A = some ⟨b, off, none⟩ → B ≤ b) (hg : g < B) : Vec shSt (w.setCell ⟨g, o, none⟩ u) A n l :=
  h.keepK (K := fun b => B ≤ b) hb (by simp) fun b _ hB o' => World.cell?_setCell_other _ ⟨g, o, none⟩ ⟨b, o', none⟩ _ (by intro e; cases e; exact absurd hg (Nat.not_lt.2 hB))
end Go.Proofs.YtjjhoonkooihjaaGreatDoor
