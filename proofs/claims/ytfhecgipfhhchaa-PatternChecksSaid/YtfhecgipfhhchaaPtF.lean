/- Names and fine of the reference. -/
import Derived.Test.YtfhecgipfhhchaaPtI
namespace Go.Proofs.Ytfhecgipfhhchaa
set_option maxRecDepth 100000
set_option maxRecDepth 100000
open Go.RowKit Go.ChangeShapes Go.WideShapes Go.Joins
/-- a slice of strings -/
def StrR (n : Nat) (l : List (List UInt8)) (w : World) (e : Ending) (w' : World) : Prop := ∃ A c, e = .returned (.slice A n c) ∧ Vec shStr1 w' A n l ∧ Ext w w'
set_option maxHeartbeats 4000000 in
theorem rnames_any (nm : List UInt8) (g1 g2 g3 g4 : Int) (As : Option Addr) (ns cs : Nat) (Ac : Option Addr) (nc cc : Nat) (se : List Sec) (w : World) (hc : Secs w Ac nc se) (hn2 : nc ≤ 30) :
    Calls Try.prog 15 #[.agg #[.string ⟨nm.toArray⟩, .int .i64 g1, .int .i64 g2, .int .i64 g3, .int .i64 g4, .slice As ns cs, .slice Ac nc cc]] w (StrR nc (nmsL (seN se) nc) w) := by
  have HCV := Lib.hid hc
  have HBX := Lib.hid (BoxP.start w nm g1 g2 g3 g4 As ns cs Ac nc cc)
  have HW0 := Lib.hid (show Ext w (w.alloc (.cells #[.string ⟨nm.toArray⟩, .int .i64 g1, .int .i64 g2, .int .i64 g3, .int .i64 g4, .slice As ns cs, .slice Ac nc cc] 27)) from (Ext.refl w).alloc _)
  clear hc
  go_enter Try.func15, Try.ntmps15
  go_wp2_with fail
  go_loopw [3, 4] (fun u i wr => ∃ (V : Value) (k : Nat), V = u ∧ i = .int .i64 (k : Int) ∧ k ≤ nc ∧ Hid (OwnV shStr1 wr (w.alloc (.cells #[.string ⟨nm.toArray⟩, .int .i64 g1, .int .i64 g2, .int .i64 g3, .int .i64 g4, .slice As ns cs, .slice Ac nc cc] 27)).heap.size 9 V k (nmsL (seN se) k)) ∧ Hid (Ext (w.alloc (.cells #[.string ⟨nm.toArray⟩, .int .i64 g1, .int .i64 g2, .int .i64 g3, .int .i64 g4, .slice As ns cs, .slice Ac nc cc] 27)) wr)) (fun _ i _ => nc - (intOf i).toNat)
  case atStart => exact ⟨_, 0, rfl, rfl, Nat.zero_le _, Lib.hid (OwnV.nil _ _ _ _), Lib.hid (Ext.refl _)⟩
  case round =>
    obtain ⟨V, k, rfl, rfl, hk, HO, HE⟩ := hrel
    obtain ⟨wa, rfl⟩ : ∃ wa : World, wa = wr := ⟨_, rfl⟩
    obtain ⟨x0, x1, x2, x3, x4, x5, x6, xz⟩ := (HBX.out.ext HE.out).facts
    have q0 : (0 : Int) ≤ (k : Int) := by omega
    by_cases hlt : k < nc
    · have q1 : (k : Int) < (nc : Int) := by omega
      obtain ⟨b', off, A', n', c', rfl, hb', c0, c1, c2, hr, hcap⟩ := (HCV.out.ext (HW0.out.trans HE.out)).at_ hlt
      have HNS := Lib.hid (nms_succ (seN se) k)
      obtain ⟨Y, hY⟩ : ∃ Y, seN se k = Y := ⟨_, rfl⟩
      rw [hY] at c0 HNS
      clear hY hr
      go_wp2_with (at_builtin; go_loud (refine wpList_append_vecsB (S := shStr1) (w := _) (m := 1) (c := 1) (L := nmsL (seN se) k) (k := k) (xs := [Y]) 52 9 (.string ⟨#[]⟩) 16 (by rfl) (by rfl) Try.underlying52 info_str1 (by rfl) (by omega) (by rfl) (by rfl) (HO.out.ext (by repeat (first | exact Ext.refl _ | assumption | refine Ext.alloc ?_ _ | refine Ext.drew ?_ | refine Ext.drewN ?_ _ | refine Ext.trans ?_ (by assumption)))) (HE.out.trans (by repeat (first | exact Ext.refl _ | assumption | refine Ext.alloc ?_ _ | refine Ext.drew ?_ | refine Ext.drewN ?_ _ | refine Ext.trans ?_ (by assumption)))) (Vec.lit2 (by simp) rfl rfl) (by omega) ?_; intro v5 w5 hown5 hx5 hgr5))
      go_roundw
      case rel => exact ⟨v5, k + 1, rfl, by go_num, by omega, Lib.hid (by rw [HNS.out]; exact hown5), Lib.hid hx5.out⟩
      case measure => simp [intOf] <;> omega
    · obtain rfl : nc = k := by omega
      go_wp2_with fail
      go_ret
      obtain ⟨A9, c9, e9, hv9, -⟩ := own_vecB HO.out
      exact ⟨A9, c9, congrArg Ending.returned e9, hv9, HW0.out.trans HE.out⟩
theorem words_bad {g : Nat → List UInt8} {n k : Nat} (hk : k < n) (h : wordS (g k) = false) : wordsB g n = false := by
  unfold wordsB
  rw [List.all_eq_false]
  exact ⟨k, List.mem_range.2 hk, by rw [h]; decide⟩
set_option maxHeartbeats 8000000 in
theorem rfine_any (nm : List UInt8) (g1 g2 g3 g4 : Int) (As : Option Addr) (ns cs : Nat) (st : List Stf) (Ac : Option Addr) (nc cc : Nat) (se : List Sec) (w : World) (hs : Vec shStf w As ns st) (hc : Secs w Ac nc se)
    (hnl : nm.length ≤ 100) (hsl : ∀ i, i < ns → (stN st i).length ≤ 100) (hcl : ∀ i, i < nc → (seN se i).length ≤ 100) (hn1 : ns ≤ 30) (hn2 : nc ≤ 30) :
    Calls Try.prog 23 #[.agg #[.string ⟨nm.toArray⟩, .int .i64 g1, .int .i64 g2, .int .i64 g3, .int .i64 g4, .slice As ns cs, .slice Ac nc cc]] w fun e w' => e = .returned (.bool (fineP nm (gerr g1 g2 g3 g4) st se)) ∧ Ext w w' := by
  have HLS := Lib.hid hs.1
  have HLC := Lib.hid hc.len
  have HSV := Lib.hid hs
  have HCV := Lib.hid hc
  have HSL := Lib.hid hsl
  have HCL := Lib.hid hcl
  have HBX := Lib.hid (BoxP.start w nm g1 g2 g3 g4 As ns cs Ac nc cc)
  have HW0 := Lib.hid (show Ext w (w.alloc (.cells #[.string ⟨nm.toArray⟩, .int .i64 g1, .int .i64 g2, .int .i64 g3, .int .i64 g4, .slice As ns cs, .slice Ac nc cc] 27)) from (Ext.refl w).alloc _)
  have HWN := Lib.hid (fun (w' : World) => rword_any nm (by omega) w')
  have HGE := Lib.hid (fun (w' : World) => grcheck_any g1 g2 g3 g4 w')
  have HFP := Lib.hid (show fineP nm (gerr g1 g2 g3 g4) st se = (wordS nm && wordsB (stN st) ns && wordsB (seN se) nc && decide (nc ≠ 0) && decide (gerr g1 g2 g3 g4 = 0) && gramB st ns) by rw [fineP, HLS.out, HLC.out])
  obtain ⟨R, hR⟩ : ∃ R, fineP nm (gerr g1 g2 g3 g4) st se = R := ⟨_, rfl⟩
  rw [hR] at HFP
  rw [hR]
  obtain ⟨a1, e1⟩ : ∃ a, wordS nm = a := ⟨_, rfl⟩
  obtain ⟨ge, e6⟩ : ∃ a, gerr g1 g2 g3 g4 = a := ⟨_, rfl⟩
  rw [e1, e6] at HFP
  rw [e6] at HGE
  rw [e1] at HWN
  clear hs hc hsl hcl e1 e6 hR
  cases a1 with
  | false =>
    have HN := Lib.hid (show R = false by rw [HFP.out]; simp)
    go_enter Try.func23, Try.ntmps23
    go_wp2_with (first
      | (go_at_call 31; go_loud ((with_reducible refine (HWN.out _).mono ?_); rintro e w3 ⟨rfl, hq3⟩; obtain ⟨x0, x1, x2, x3, x4, x5, x6, xz⟩ := (HBX.out.ext (by repeat (first | exact Ext.refl _ | assumption | refine Ext.alloc ?_ _ | refine Ext.drew ?_ | refine Ext.drewN ?_ _ | refine Ext.trans ?_ (by assumption)) : Ext _ w3)).facts)))
    go_ret
    exact ⟨by rw [HN.out]; rfl, HW0.out.trans (by repeat (first | exact Ext.refl _ | assumption | refine Ext.alloc ?_ _ | refine Ext.drew ?_ | refine Ext.drewN ?_ _ | refine Ext.trans ?_ (by assumption)))⟩
  | true =>
    by_cases hg : ge = 0
    case neg =>
      have HN := Lib.hid (show R = false by rw [HFP.out]; simp [hg])
      have p4 : (ge != 0) = true := by simpa using hg
      clear hg
      go_enter Try.func23, Try.ntmps23
      go_wp2_with (first
        | (go_at_call 31; go_loud ((with_reducible refine (HWN.out _).mono ?_); rintro e w3 ⟨rfl, hq3⟩; obtain ⟨x0, x1, x2, x3, x4, x5, x6, xz⟩ := (HBX.out.ext (by repeat (first | exact Ext.refl _ | assumption | refine Ext.alloc ?_ _ | refine Ext.drew ?_ | refine Ext.drewN ?_ _ | refine Ext.trans ?_ (by assumption)) : Ext _ w3)).facts))
        | (go_at_call 32; go_loud ((with_reducible refine (HGE.out _).mono ?_); rintro e w4 ⟨rfl, hq4⟩; obtain ⟨x0, x1, x2, x3, x4, x5, x6, xz⟩ := (HBX.out.ext (by repeat (first | exact Ext.refl _ | assumption | refine Ext.alloc ?_ _ | refine Ext.drew ?_ | refine Ext.drewN ?_ _ | refine Ext.trans ?_ (by assumption)) : Ext _ w4)).facts)))
      go_ret
      exact ⟨by rw [HN.out]; rfl, HW0.out.trans (by repeat (first | exact Ext.refl _ | assumption | refine Ext.alloc ?_ _ | refine Ext.drew ?_ | refine Ext.drewN ?_ _ | refine Ext.trans ?_ (by assumption)))⟩
    subst hg
    by_cases h0 : nc = 0
    · have HN := Lib.hid (show R = false by rw [HFP.out]; simp [h0])
      have p3 : ((nc : Int) == 0) = true := by simp [h0]
      clear h0
      go_enter Try.func23, Try.ntmps23
      go_wp2_with (first
        | (go_at_call 31; go_loud ((with_reducible refine (HWN.out _).mono ?_); rintro e w3 ⟨rfl, hq3⟩; obtain ⟨x0, x1, x2, x3, x4, x5, x6, xz⟩ := (HBX.out.ext (by repeat (first | exact Ext.refl _ | assumption | refine Ext.alloc ?_ _ | refine Ext.drew ?_ | refine Ext.drewN ?_ _ | refine Ext.trans ?_ (by assumption)) : Ext _ w3)).facts))
        | (go_at_call 32; go_loud ((with_reducible refine (HGE.out _).mono ?_); rintro e w4 ⟨rfl, hq4⟩; obtain ⟨x0, x1, x2, x3, x4, x5, x6, xz⟩ := (HBX.out.ext (by repeat (first | exact Ext.refl _ | assumption | refine Ext.alloc ?_ _ | refine Ext.drew ?_ | refine Ext.drewN ?_ _ | refine Ext.trans ?_ (by assumption)) : Ext _ w4)).facts)))
      go_ret
      exact ⟨by rw [HN.out]; rfl, HW0.out.trans (by repeat (first | exact Ext.refl _ | assumption | refine Ext.alloc ?_ _ | refine Ext.drew ?_ | refine Ext.drewN ?_ _ | refine Ext.trans ?_ (by assumption)))⟩
    have p3 : ((nc : Int) == 0) = false := by rw [beq_eq_false_iff_ne]; omega
    have HNZ := Lib.hid h0
    clear h0
    go_enter Try.func23, Try.ntmps23
    go_wp2_with (first
      | (go_at_call 31; go_loud ((with_reducible refine (HWN.out _).mono ?_); rintro e w3 ⟨rfl, hq3⟩; obtain ⟨x0, x1, x2, x3, x4, x5, x6, xz⟩ := (HBX.out.ext (by repeat (first | exact Ext.refl _ | assumption | refine Ext.alloc ?_ _ | refine Ext.drew ?_ | refine Ext.drewN ?_ _ | refine Ext.trans ?_ (by assumption)) : Ext _ w3)).facts))
      | (go_at_call 32; go_loud ((with_reducible refine (HGE.out _).mono ?_); rintro e w4 ⟨rfl, hq4⟩; obtain ⟨x0, x1, x2, x3, x4, x5, x6, xz⟩ := (HBX.out.ext (by repeat (first | exact Ext.refl _ | assumption | refine Ext.alloc ?_ _ | refine Ext.drew ?_ | refine Ext.drewN ?_ _ | refine Ext.trans ?_ (by assumption)) : Ext _ w4)).facts)))
    go_loopw [3] (fun v wr => ∃ k : Nat, v = .int .i64 (k : Int) ∧ k ≤ ns ∧ Hid (gramB st k = true ∧ wordsB (stN st) k = true) ∧ Hid (Ext (w.alloc (.cells #[.string ⟨nm.toArray⟩, .int .i64 g1, .int .i64 g2, .int .i64 g3, .int .i64 g4, .slice As ns cs, .slice Ac nc cc] 27)) wr)) (fun v _ => ns - (intOf v).toNat)
    case atStart => exact ⟨0, rfl, Nat.zero_le _, Lib.hid ⟨rfl, rfl⟩, Lib.hid (by repeat (first | exact Ext.refl _ | assumption | refine Ext.alloc ?_ _ | refine Ext.drew ?_ | refine Ext.drewN ?_ _ | refine Ext.trans ?_ (by assumption)))⟩
    case round =>
      obtain ⟨k, rfl, hk, HG, HE⟩ := hrel
      obtain ⟨wa, rfl⟩ : ∃ wa : World, wa = wr := ⟨_, rfl⟩
      obtain ⟨x0, x1, x2, x3, x4, x5, x6, xz⟩ := (HBX.out.ext HE.out).facts
      have q0 : (0 : Int) ≤ (k : Int) := by omega
      by_cases hlt : k < ns
      · have q1 : (k : Int) < (ns : Int) := by omega
        have hYl := HSL.out k hlt
        obtain ⟨b', off, rfl, hb', c0, c1⟩ := Stf.at_ (HSV.out.ext (HW0.out.trans HE.out)) hlt
        have HWS := Lib.hid (words_succ (stN st) k)
        obtain ⟨Y, hY⟩ : ∃ Y, stN st k = Y := ⟨_, rfl⟩
        rw [hY] at c0 hYl HWS
        have HY := Lib.hid hY
        obtain ⟨gk, hgk⟩ : ∃ gk, (st.getD k stf0).g = gk := ⟨_, rfl⟩
        rw [hgk] at c1
        have HGK := Lib.hid hgk
        obtain ⟨z, hz⟩ : ∃ z, wordS Y = z := ⟨_, rfl⟩
        rw [hz] at HWS
        have HWY := Lib.hid (fun (w' : World) => rword_any Y (by omega) w')
        rw [hz] at HWY
        have HZ := Lib.hid hz
        clear hgk hY hz
        cases z with
        | false =>
          have HN := Lib.hid (show R = false by rw [HFP.out, words_bad hlt (by rw [HY.out]; exact HZ.out)]; simp)
          go_wp2_with (first
            | (go_at_call 31; go_loud ((with_reducible refine (HWY.out _).mono ?_); rintro e w5 ⟨rfl, hq5⟩; obtain ⟨x0, x1, x2, x3, x4, x5, x6, xz⟩ := (HBX.out.ext (HE.out.trans (by repeat (first | exact Ext.refl _ | assumption | refine Ext.alloc ?_ _ | refine Ext.drew ?_ | refine Ext.drewN ?_ _ | refine Ext.trans ?_ (by assumption))) : Ext _ w5)).facts; obtain ⟨hf1, hf2, hf3⟩ := hq5.facts)))
          go_ret
          exact ⟨by rw [HN.out]; rfl, HW0.out.trans (HE.out.trans (by repeat (first | exact Ext.refl _ | assumption | refine Ext.alloc ?_ _ | refine Ext.drew ?_ | refine Ext.drewN ?_ _ | refine Ext.trans ?_ (by assumption))))⟩
        | true =>
          by_cases hlo : gk < 1
          · have HN := Lib.hid (show R = false by rw [HFP.out, gram_bad hlt (by rw [HGK.out]; omega)]; simp)
            go_wp2_with (first
              | (go_at_call 31; go_loud ((with_reducible refine (HWY.out _).mono ?_); rintro e w5 ⟨rfl, hq5⟩; obtain ⟨x0, x1, x2, x3, x4, x5, x6, xz⟩ := (HBX.out.ext (HE.out.trans (by repeat (first | exact Ext.refl _ | assumption | refine Ext.alloc ?_ _ | refine Ext.drew ?_ | refine Ext.drewN ?_ _ | refine Ext.trans ?_ (by assumption))) : Ext _ w5)).facts; obtain ⟨hf1, hf2, hf3⟩ := hq5.facts)))
            go_ret
            exact ⟨by rw [HN.out]; rfl, HW0.out.trans (HE.out.trans (by repeat (first | exact Ext.refl _ | assumption | refine Ext.alloc ?_ _ | refine Ext.drew ?_ | refine Ext.drewN ?_ _ | refine Ext.trans ?_ (by assumption))))⟩
          · by_cases hhi : 100000 < gk
            · have HN := Lib.hid (show R = false by rw [HFP.out, gram_bad hlt (by rw [HGK.out]; omega)]; simp)
              go_wp2_with (first
                | (go_at_call 31; go_loud ((with_reducible refine (HWY.out _).mono ?_); rintro e w5 ⟨rfl, hq5⟩; obtain ⟨x0, x1, x2, x3, x4, x5, x6, xz⟩ := (HBX.out.ext (HE.out.trans (by repeat (first | exact Ext.refl _ | assumption | refine Ext.alloc ?_ _ | refine Ext.drew ?_ | refine Ext.drewN ?_ _ | refine Ext.trans ?_ (by assumption))) : Ext _ w5)).facts; obtain ⟨hf1, hf2, hf3⟩ := hq5.facts)))
              go_ret
              exact ⟨by rw [HN.out]; rfl, HW0.out.trans (HE.out.trans (by repeat (first | exact Ext.refl _ | assumption | refine Ext.alloc ?_ _ | refine Ext.drew ?_ | refine Ext.drewN ?_ _ | refine Ext.trans ?_ (by assumption))))⟩
            · have HN := Lib.hid (show gramB st (k + 1) = true ∧ wordsB (stN st) (k + 1) = true from ⟨by rw [gram_succ, HG.out.1, HGK.out, decide_eq_true (show 1 ≤ gk ∧ gk ≤ 100000 by omega)]; rfl, by rw [HWS.out, HG.out.2]; rfl⟩)
              go_wp2_with (first
                | (go_at_call 31; go_loud ((with_reducible refine (HWY.out _).mono ?_); rintro e w5 ⟨rfl, hq5⟩; obtain ⟨x0, x1, x2, x3, x4, x5, x6, xz⟩ := (HBX.out.ext (HE.out.trans (by repeat (first | exact Ext.refl _ | assumption | refine Ext.alloc ?_ _ | refine Ext.drew ?_ | refine Ext.drewN ?_ _ | refine Ext.trans ?_ (by assumption))) : Ext _ w5)).facts; obtain ⟨hf1, hf2, hf3⟩ := hq5.facts)))
              go_roundw
              case rel => exact ⟨k + 1, by go_num, by omega, HN, Lib.hid (HE.out.trans (by repeat (first | exact Ext.refl _ | assumption | refine Ext.alloc ?_ _ | refine Ext.drew ?_ | refine Ext.drewN ?_ _ | refine Ext.trans ?_ (by assumption))))⟩
              case measure => simp [intOf] <;> omega
      · obtain rfl : ns = k := by omega
        go_wp2_with fail
        go_loopw [4] (fun v wr => ∃ j : Nat, v = .int .i64 (j : Int) ∧ j ≤ nc ∧ Hid (wordsB (seN se) j = true) ∧ Hid (Ext (w.alloc (.cells #[.string ⟨nm.toArray⟩, .int .i64 g1, .int .i64 g2, .int .i64 g3, .int .i64 g4, .slice As ns cs, .slice Ac nc cc] 27)) wr)) (fun v _ => nc - (intOf v).toNat)
        case atStart => exact ⟨0, rfl, Nat.zero_le _, Lib.hid rfl, HE⟩
        case round =>
          clear x0 x1 x2 x3 x4 x5 x6 xz
          obtain ⟨j, rfl, hj, HWJ, HEJ⟩ := hrel
          obtain ⟨wb, rfl⟩ : ∃ wb : World, wb = wr := ⟨_, rfl⟩
          obtain ⟨x0, x1, x2, x3, x4, x5, x6, xz⟩ := (HBX.out.ext HEJ.out).facts
          have r0 : (0 : Int) ≤ (j : Int) := by omega
          by_cases hjl : j < nc
          · have r1 : (j : Int) < (nc : Int) := by omega
            have hYl := HCL.out j hjl
            obtain ⟨b', off, A', n', c', rfl, hb', c0, c1, c2, hr, hcap⟩ := (HCV.out.ext (HW0.out.trans HEJ.out)).at_ hjl
            have HWS := Lib.hid (words_succ (seN se) j)
            obtain ⟨Y, hY⟩ : ∃ Y, seN se j = Y := ⟨_, rfl⟩
            rw [hY] at c0 hYl HWS
            have HY := Lib.hid hY
            obtain ⟨z, hz⟩ : ∃ z, wordS Y = z := ⟨_, rfl⟩
            rw [hz] at HWS
            have HWY := Lib.hid (fun (w' : World) => rword_any Y (by omega) w')
            rw [hz] at HWY
            have HZ := Lib.hid hz
            clear hY hz hr
            cases z with
            | false =>
              have HN := Lib.hid (show R = false by rw [HFP.out, words_bad hjl (by rw [HY.out]; exact HZ.out)]; simp)
              go_wp2_with (first
                | (go_at_call 31; go_loud ((with_reducible refine (HWY.out _).mono ?_); rintro e w5 ⟨rfl, hq5⟩)))
              go_ret
              exact ⟨by rw [HN.out]; rfl, HW0.out.trans (HEJ.out.trans (by repeat (first | exact Ext.refl _ | assumption | refine Ext.alloc ?_ _ | refine Ext.drew ?_ | refine Ext.drewN ?_ _ | refine Ext.trans ?_ (by assumption))))⟩
            | true =>
              have HN := Lib.hid (show wordsB (seN se) (j + 1) = true by rw [HWS.out, HWJ.out]; rfl)
              go_wp2_with (first
                | (go_at_call 31; go_loud ((with_reducible refine (HWY.out _).mono ?_); rintro e w5 ⟨rfl, hq5⟩)))
              go_roundw
              case rel => exact ⟨j + 1, by go_num, by omega, HN, Lib.hid (HEJ.out.trans (by repeat (first | exact Ext.refl _ | assumption | refine Ext.alloc ?_ _ | refine Ext.drew ?_ | refine Ext.drewN ?_ _ | refine Ext.trans ?_ (by assumption))))⟩
              case measure => simp [intOf] <;> omega
          · obtain rfl : nc = j := by omega
            have HN := Lib.hid (show R = true by rw [HFP.out, HG.out.1, HG.out.2, HWJ.out]; simp [HNZ.out])
            go_wp2_with fail
            go_ret
            exact ⟨by rw [HN.out]; rfl, HW0.out.trans HEJ.out⟩
end Go.Proofs.Ytfhecgipfhhchaa
