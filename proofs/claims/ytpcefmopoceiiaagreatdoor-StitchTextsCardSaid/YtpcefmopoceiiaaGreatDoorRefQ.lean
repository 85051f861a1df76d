/- The reference's Parse. -/
import Derived.Test.YtpcefmopoceiiaaGreatDoorWordM
import Derived.Test.YtpcefmopoceiiaaGreatDoorRefP
namespace Go.Proofs.YtpcefmopoceiiaaGreatDoor
set_option maxRecDepth 100000
set_option maxRecDepth 100000
open Go.RowKit Go.ChangeShapes Go.WideShapes Go.Joins
theorem refParts_len {k : Int} {p : Bool} {P : List (List UInt8)} {L : List St} (h : refParts k p P = some L) : L.length ≤ 300 := by
  unfold refParts at h
  repeat' split at h
  · obtain ⟨b, -, h2⟩ := Option.bind_eq_some_iff.1 h
    obtain ⟨a, -, h3⟩ := Option.bind_eq_some_iff.1 h2
    cases h3
    simp
  · cases h
  · obtain ⟨a, -, h3⟩ := Option.bind_eq_some_iff.1 h
    cases h3
    simp
  · cases h
theorem refWord_len {l : List UInt8} {L : List St} (h : refWord l = some L) : L.length ≤ 300 := by
  unfold refWord at h
  repeat' split at h
  all_goals first
    | (cases h; done)
    | (cases h; simp; done)
    | exact refParts_len h
    | (obtain ⟨a, -, h3⟩ := Option.bind_eq_some_iff.1 h; cases h3; simp; done)
    | (cases h; simp; omega)
theorem rgo_drop {ws : List (List UInt8)} {k : Nat} (hk : k < ws.length) (acc : List St) : rparseGo acc (ws.drop k) = match refWord (ws.getD k []) with
    | none => none
    | some l => if 200 < (acc ++ l).length then none else rparseGo (acc ++ l) (ws.drop (k + 1)) := by
  rw [List.drop_eq_getElem_cons hk, rparseGo, List.getD_eq_getElem?_getD, List.getElem?_eq_getElem hk]
  rfl
theorem rparse_end {s : List UInt8} {acc : List St} (hs : s.length ≤ 3000) (h0 : s ≠ []) (h : rparseGo [] (spl 32 s) = some acc) : parseL s = if allE acc = 0 ∧ textL acc = s then some acc else none := by
  rw [← rparse_eq, rparseL, if_neg (by omega), rparseW, if_neg h0, h]
  rfl
theorem rparse_bad {s : List UInt8} (hs : s.length ≤ 3000) (h0 : s ≠ []) (h : rparseGo [] (spl 32 s) = none) : parseL s = none := by
  rw [← rparse_eq, rparseL, if_neg (by omega), rparseW, if_neg h0, h]
  rfl
def ParseX (s : List UInt8) (w : World) (e : Ending) (w' : World) : Prop := ∃ (A : Option Addr) (n c : Nat), e = .returned (.tuple #[.slice A n c, .int .i64 (parseE s)]) ∧ Ext w w' ∧ Vec shSt w' A n (parseV s)
theorem px_fail {s : List UInt8} {w w' : World} (h : parseL s = none) (hb : Ext w w') : ParseX s w (.returned (.tuple #[.slice none 0 0, .int .i64 12])) w' := by
  obtain ⟨h1, h2⟩ := parse_none h
  exact ⟨none, 0, 0, by rw [h1], hb, by rw [h2]; exact Vec.none_ _ _ _⟩
theorem px_done {s : List UInt8} {l : List St} {A : Option Addr} {n c : Nat} {w w' : World} (h : parseL s = some l) (hv : Vec shSt w' A n l) (hb : Ext w w') : ParseX s w (.returned (.tuple #[.slice A n c, .int .i64 0])) w' := by
  obtain ⟨h1, h2⟩ := parse_some h
  exact ⟨A, n, c, by rw [h1], hb, by rw [h2]; exact hv⟩
theorem rparse_long (l : List UInt8) (hl : 3000 < l.length) (h : (l.length : Int) ≤ 1000000000) (w : World) : Calls Tryz.prog 10 #[.string ⟨l.toArray⟩] w (ParseX l w) := by
  have h1 := Lib.hid (show parseL l = none by rw [parseL, if_pos hl])
  have h2 : (3000 : Int) < (l.length : Int) := by omega
  clear hl
  go_enter Tryz.func10, Tryz.ntmps10
  go_wp2_with fail
  go_ret2
  exact px_fail h1.out (by repeat (first | exact Ext.refl _ | assumption | refine Ext.alloc ?_ _ | refine Ext.drew ?_ | refine Ext.drewN ?_ _ | refine Ext.trans ?_ (by assumption)))
theorem rparse_nil (w : World) : Calls Tryz.prog 10 #[.string ⟨([] : List UInt8).toArray⟩] w (ParseX [] w) := by
  have HF := Lib.hid (show parseL [] = some [] by decide +kernel)
  go_enter Tryz.func10, Tryz.ntmps10
  go_wp2_with fail
  go_ret2
  exact px_done HF.out (Vec.none_ _ _ _) (by repeat (first | exact Ext.refl _ | assumption | refine Ext.alloc ?_ _ | refine Ext.drew ?_ | refine Ext.drewN ?_ _ | refine Ext.trans ?_ (by assumption)))
set_option maxHeartbeats 4000000 in
theorem rparse_main (l : List UInt8) (h0 : l ≠ []) (hl : l.length ≤ 3000) (w : World) : Calls Tryz.prog 10 #[.string ⟨l.toArray⟩] w (ParseX l w) := by
  have HS := Lib.hid (show Calls Tryz.prog 23 #[.string ⟨l.toArray⟩, .int .u8 32] w fun e w'' => ∃ v, e = .returned v ∧ OwnV shStr w'' w.heap.size 9 v (spl 32 l).length (spl 32 l) ∧ Ext w w'' from cut_any 32 l (by omega) w)
  have hwl := spl_words_len 32 l
  have HPE := Lib.hid (fun (acc : List St) (h : rparseGo [] (spl 32 l) = some acc) => rparse_end hl h0 h)
  have HPB := Lib.hid (fun (h : rparseGo [] (spl 32 l) = none) => rparse_bad hl h0 h)
  generalize spl 32 l = ws at *
  obtain ⟨hw1, hw2⟩ := hwl
  have HW := Lib.hid hw2
  obtain ⟨n, hn⟩ : ∃ n, ws.length = n := ⟨_, rfl⟩
  rw [hn] at HS
  have hn2 : n ≤ 3001 := by omega
  have hlen : ¬ (3000 : Int) < (l.length : Int) := by omega
  have hE : (l == []) = false := by simpa using h0
  clear hw2 h0
  go_enter Tryz.func10, Tryz.ntmps10
  go_wp2_with (go_at_call 23; go_loud ((with_reducible refine HS.out.mono ?_); rintro e w1 ⟨v1, rfl, hv1, hq1⟩; obtain ⟨A1, c1, rfl, hvv, -⟩ := own_vecB hv1; have HQ1 := Lib.hid hq1; have HV1 := Lib.hid hv1; clear hq1 hv1 hvv))
  go_loopw [5, 6] (fun u i wr => ∃ (V : Value) (k : Nat) (acc : List St), V = u ∧ i = .int .i64 k ∧ k ≤ n ∧ acc.length ≤ 200 ∧ Hid (OwnV shSt wr w1.heap.size 42 V acc.length acc) ∧ Hid (Ext w1 wr) ∧ Hid (rparseGo [] ws = rparseGo acc (ws.drop k))) (fun _ i _ => n - (intOf i).toNat)
  case atStart => exact ⟨_, 0, [], rfl, rfl, Nat.zero_le _, by simp, Lib.hid (OwnV.nil _ _ _ _), Lib.hid (Ext.refl _), Lib.hid rfl⟩
  case round =>
    obtain ⟨V, k, acc, rfl, rfl, hk, hal, HV, HE1, HP⟩ := hrel
    have HE := Lib.hid (HQ1.out.trans HE1.out)
    obtain ⟨A9, c9, rfl, hv9, -⟩ := own_vecB HV.out
    have HV9 := Lib.hid hv9
    clear hv9
    by_cases hlt : k < n
    · obtain ⟨b3, off3, rfl, -, hlt3, hcs⟩ := own_strs HV1.out (by omega)
      have hcell := (Below.cell (p := ⟨b3, off3 + k, none⟩) HE1.out hlt3).trans (hcs k hlt)
      have hz := World.block_lt_of_cell? wr _ hcell
      clear hcs
      have hd := HP.out.trans (rgo_drop (ws := ws) (k := k) (by omega) acc)
      have hxl := HW.out (ws.getD k []) (by rw [List.getD_eq_getElem?_getD, List.getElem?_eq_getElem (by omega)]; exact List.getElem_mem _)
      generalize ws.getD k [] = x at *
      have q5 : (k : Int) < (n : Int) := by omega
      have q4 : (0 : Int) ≤ (k : Int) := by omega
      cases hrw : refWord x with
      | none =>
        have HR := Lib.hid (show ∀ w', Calls Tryz.prog 24 #[.string ⟨x.toArray⟩] w' (WordR none w') from fun w' => by rw [← hrw]; exact word_ref_any x (by omega) w')
        rw [hrw] at hd
        have HF := Lib.hid (HPB.out hd)
        clear hd hrw hxl HP HW
        go_wp2_with (go_at_call 24; go_loud ((with_reducible refine (HR.out _).mono ?_); rintro e w2 ⟨A2, n2, c2, rfl, hq2, -⟩; have HQ2 := Lib.hid (HE.out.trans hq2); clear hq2))
        go_ret2
        exact px_fail HF.out HQ2.out
      | some L =>
        have hL3 := refWord_len hrw
        have HR := Lib.hid (show ∀ w', Calls Tryz.prog 24 #[.string ⟨x.toArray⟩] w' (WordR (some L) w') from fun w' => by rw [← hrw]; exact word_ref_any x (by omega) w')
        rw [hrw] at hd
        simp only at hd
        have HD := Lib.hid hd
        clear hd hrw hxl HP HW
        obtain ⟨m, hm⟩ : ∃ m, L.length = m := ⟨_, rfl⟩
        by_cases h2 : acc.length + m ≤ 200
        · have q6 : ¬ ((200 : Int) < (acc.length : Int) + (m : Int)) := by omega
          have HF := Lib.hid (HD.out.trans (if_neg (by rw [List.length_append]; omega)))
          clear HD
          go_wp2_with (first
            | (go_at_call 24; go_loud ((with_reducible refine (HR.out _).mono ?_); rintro e w2 ⟨A2, n2, c2, rfl, hq2, hv2⟩; obtain rfl : n2 = m := (by have := (hv2 L rfl).1; omega); have HQ2 := Lib.hid (HE1.out.trans hq2); have HQ3 := Lib.hid hq2; have HV2 := Lib.hid (hv2 L rfl); clear hq2 hv2))
            | (at_builtin; go_loud (refine wpList_append_vecsB (S := shSt) (w := w1) (xs := L) 22 42 (.agg #[.int .u8 0, .bool false, .int .i64 0, .int .i64 0]) 24 (by rfl) (by rfl) Tryz.underlying22 info_st (by rfl) (by omega) (by rfl) (by rfl) (OwnV.ext HV.out HQ3.out) HQ2.out HV2.out (by omega) ?_; intro v' w6 hown6 hext6 hgr6; obtain ⟨A6, c6, rfl, -, -⟩ := own_vecB hown6)))
          have HN := Lib.hid (show OwnV shSt w6 w1.heap.size 42 (.slice A6 (acc.length + n2) c6) (acc ++ L).length (acc ++ L) by
            rw [List.length_append, hm]
            exact hown6)
          clear hown6 hgr6
          go_roundw
          case rel => exact ⟨_, k + 1, acc ++ L, rfl, by go_num, by omega, by rw [List.length_append]; omega, HN, hext6, HF⟩
          case measure => simp [intOf] <;> omega
        · have q6 : (200 : Int) < (acc.length : Int) + (m : Int) := by omega
          have HF := Lib.hid (HPB.out (HD.out.trans (if_pos (by rw [List.length_append]; omega))))
          clear HD
          go_wp2_with (first
            | (go_at_call 24; go_loud ((with_reducible refine (HR.out _).mono ?_); rintro e w2 ⟨A2, n2, c2, rfl, hq2, hv2⟩; obtain rfl : n2 = m := (by have := (hv2 L rfl).1; omega); have HQ2 := Lib.hid (HE1.out.trans hq2); have HQ3 := Lib.hid hq2; have HV2 := Lib.hid (hv2 L rfl); clear hq2 hv2))
            | (at_builtin; go_loud (refine wpList_append_vecsB (S := shSt) (w := w1) (xs := L) 22 42 (.agg #[.int .u8 0, .bool false, .int .i64 0, .int .i64 0]) 24 (by rfl) (by rfl) Tryz.underlying22 info_st (by rfl) (by omega) (by rfl) (by rfl) (OwnV.ext HV.out HQ3.out) HQ2.out HV2.out (by omega) ?_; intro v' w6 hown6 hext6 hgr6; obtain ⟨A6, c6, rfl, -, -⟩ := own_vecB hown6)))
          go_ret2
          exact px_fail HF.out (HQ1.out.trans hext6.out)
    · obtain rfl : k = n := by omega
      have hfin : rparseGo [] ws = some acc := by
        have h9 := HP.out
        rw [List.drop_of_length_le (by omega)] at h9
        exact h9
      have HL := Lib.hid (HPE.out acc hfin)
      have HSA := Lib.hid (fun (w' : World) (hb : Ext wr w') => rall_any acc.length c9 A9 acc w' (HV9.out.ext hb) (by unfold maxLen; omega))
      clear hfin HP HPE HPB HW
      by_cases hA : allE acc = 0
      · have HTX := Lib.hid (fun (w' : World) (hb : Ext wr w') => written_any acc.length c9 A9 acc w' (HV9.out.ext hb) hal (allE_e hA).2.1)
        by_cases hT : textL acc = l
        · have HF := Lib.hid (HL.out.trans (if_pos (And.intro hA hT)))
          have HAE := Lib.hid hA
          have HTE := Lib.hid hT
          clear hA hT
          go_wp2_with (first
            | (go_at_call 15; go_loud ((with_reducible refine (HSA.out _ (Ext.refl _)).mono ?_); rintro e w2 ⟨rfl, hq2⟩; rw [HAE.out]; have HQ2 := Lib.hid hq2; clear hq2))
            | (go_at_call 18; go_loud ((with_reducible refine (HTX.out _ HQ2.out).mono ?_); rintro e w3 ⟨rfl, hq3⟩; rw [HTE.out]; have HQ3 := Lib.hid (HQ2.out.trans hq3); clear hq3)))
          go_ret2
          exact px_done HF.out (HV9.out.ext HQ3.out) (HE.out.trans HQ3.out)
        · have HF := Lib.hid (HL.out.trans (if_neg (fun h => hT h.2)))
          have HAE := Lib.hid hA
          have hT2 : (textL acc == l) = false := by simpa using hT
          clear hA hT
          generalize textL acc = T at *
          go_wp2_with (first
            | (go_at_call 15; go_loud ((with_reducible refine (HSA.out _ (Ext.refl _)).mono ?_); rintro e w2 ⟨rfl, hq2⟩; rw [HAE.out]; have HQ2 := Lib.hid hq2; clear hq2))
            | (go_at_call 18; go_loud ((with_reducible refine (HTX.out _ HQ2.out).mono ?_); rintro e w3 ⟨rfl, hq3⟩; have HQ3 := Lib.hid (HQ2.out.trans hq3); clear hq3)))
          go_ret2
          exact px_fail HF.out (HE.out.trans HQ3.out)
      · have HF := Lib.hid (HL.out.trans (if_neg (fun h => hA h.1)))
        generalize hae : allE acc = ae at *
        have hb8 : (ae != 0) = true := by simpa using hA
        clear hA
        go_wp2_with (first
          | (go_at_call 15; go_loud ((with_reducible refine (HSA.out _ (Ext.refl _)).mono ?_); rintro e w2 ⟨rfl, hq2⟩; have HQ2 := Lib.hid hq2; clear hq2)))
        go_ret2
        exact px_fail HF.out (HE.out.trans HQ2.out)
theorem rparse_any (l : List UInt8) (hl : l.length ≤ 1000000000) (w : World) : Calls Tryz.prog 10 #[.string ⟨l.toArray⟩] w (ParseX l w) := by
  by_cases h : 3000 < l.length
  · exact rparse_long l h (by omega) w
  · cases l with
    | nil => exact rparse_nil w
    | cons c r => exact rparse_main _ (by simp) (by omega) w
end Go.Proofs.YtpcefmopoceiiaaGreatDoor
