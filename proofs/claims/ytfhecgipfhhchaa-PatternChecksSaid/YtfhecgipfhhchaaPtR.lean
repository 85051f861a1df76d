/- The Check of patterns, the reference's. -/
import Derived.Test.YtfhecgipfhhchaaPtF
import Derived.Test.YtfhecgipfhhchaaChartR
namespace Go.Proofs.Ytfhecgipfhhchaa
set_option maxRecDepth 100000
set_option maxRecDepth 100000
open Go.RowKit Go.ChangeShapes Go.WideShapes Go.Joins
theorem twice_nms (g : Nat → List UInt8) (n : Nat) : twiceB (fun i => (nmsL g n).getD i []) n = twiceB g n := twice_congr fun _ hj => nms_get hj
set_option maxHeartbeats 16000000 in
theorem rpcheck_any (nm : List UInt8) (g1 g2 g3 g4 : Int) (As : Option Addr) (ns cs : Nat) (st : List Stf) (Ac : Option Addr) (nc cc : Nat) (se : List Sec) (w : World) (hs : Vec shStf w As ns st) (hc : Secs w Ac nc se)
    (hnl : nm.length ≤ 100) (hsl : ∀ i, i < ns → (stN st i).length ≤ 100) (hcl : ∀ i, i < nc → (seN se i).length ≤ 100) (hn1 : ns ≤ 30) (hn2 : nc ≤ 30) :
    Calls Try.prog 10 #[.agg #[.string ⟨nm.toArray⟩, .int .i64 g1, .int .i64 g2, .int .i64 g3, .int .i64 g4, .slice As ns cs, .slice Ac nc cc]] w fun e w' => e = .returned (.int .i64 (patE nm (gerr g1 g2 g3 g4) st se)) ∧ Ext w w' := by
  have HLS := Lib.hid hs.1
  have HLC := Lib.hid hc.len
  have HSV := Lib.hid hs
  have HCV := Lib.hid hc
  have HBX := Lib.hid (BoxP.start w nm g1 g2 g3 g4 As ns cs Ac nc cc)
  have HW0 := Lib.hid (show Ext w (w.alloc (.cells #[.string ⟨nm.toArray⟩, .int .i64 g1, .int .i64 g2, .int .i64 g3, .int .i64 g4, .slice As ns cs, .slice Ac nc cc] 27)) from (Ext.refl w).alloc _)
  obtain ⟨a, ha⟩ : ∃ a, fineP nm (gerr g1 g2 g3 g4) st se = a := ⟨_, rfl⟩
  have HFI := Lib.hid (fun (w' : World) (hx : Ext (w.alloc (.cells #[.string ⟨nm.toArray⟩, .int .i64 g1, .int .i64 g2, .int .i64 g3, .int .i64 g4, .slice As ns cs, .slice Ac nc cc] 27)) w') => rfine_any nm g1 g2 g3 g4 As ns cs st Ac nc cc se w' (HSV.out.ext (HW0.out.trans hx)) (HCV.out.ext (HW0.out.trans hx)) hnl hsl hcl hn1 hn2)
  rw [ha] at HFI
  have HA := Lib.hid ha
  obtain ⟨R, hR⟩ : ∃ R, patE nm (gerr g1 g2 g3 g4) st se = R := ⟨_, rfl⟩
  have HR := Lib.hid hR
  rw [hR]
  clear hs hc hsl hcl hR ha
  by_cases h20 : 20 < ns
  · have HN := Lib.hid (show R = 4 by rw [← HR.out]; exact pat_many (.inl (by rw [HLS.out]; exact h20)))
    have p1 : (20 : Int) < (ns : Int) := by omega
    clear h20
    go_enter Try.func10, Try.ntmps10
    go_wp2_with fail
    go_ret
    exact ⟨by rw [HN.out]; rfl, by repeat (first | exact Ext.refl _ | assumption | refine Ext.alloc ?_ _ | refine Ext.drew ?_ | refine Ext.drewN ?_ _ | refine Ext.trans ?_ (by assumption))⟩
  have p1 : ¬ ((20 : Int) < (ns : Int)) := by omega
  by_cases h21 : 20 < nc
  · have HN := Lib.hid (show R = 4 by rw [← HR.out]; exact pat_many (.inr (by rw [HLC.out]; exact h21)))
    have p2 : (20 : Int) < (nc : Int) := by omega
    clear h20 h21
    go_enter Try.func10, Try.ntmps10
    go_wp2_with fail
    go_ret
    exact ⟨by rw [HN.out]; rfl, by repeat (first | exact Ext.refl _ | assumption | refine Ext.alloc ?_ _ | refine Ext.drew ?_ | refine Ext.drewN ?_ _ | refine Ext.trans ?_ (by assumption))⟩
  have p2 : ¬ ((20 : Int) < (nc : Int)) := by omega
  have HNM := Lib.hid (show ¬ (20 < st.length ∨ 20 < se.length) by rw [HLS.out, HLC.out]; omega)
  clear h20 h21
  cases a with
  | false =>
    have HN := Lib.hid (show R = 8 by rw [← HR.out]; exact pat_bad HNM.out HA.out)
    go_enter Try.func10, Try.ntmps10
    go_wp2_with (first
      | (go_at_call 23; go_loud ((with_reducible refine (HFI.out _ (by repeat (first | exact Ext.refl _ | assumption | refine Ext.alloc ?_ _ | refine Ext.drew ?_ | refine Ext.drewN ?_ _ | refine Ext.trans ?_ (by assumption)))).mono ?_); rintro e w3 ⟨rfl, hq3⟩; obtain ⟨x0, x1, x2, x3, x4, x5, x6, xz⟩ := (HBX.out.ext (by repeat (first | exact Ext.refl _ | assumption | refine Ext.alloc ?_ _ | refine Ext.drew ?_ | refine Ext.drewN ?_ _ | refine Ext.trans ?_ (by assumption)) : Ext _ w3)).facts)))
    go_ret
    exact ⟨by rw [HN.out]; rfl, HW0.out.trans (by repeat (first | exact Ext.refl _ | assumption | refine Ext.alloc ?_ _ | refine Ext.drew ?_ | refine Ext.drewN ?_ _ | refine Ext.trans ?_ (by assumption)))⟩
  | true =>
    go_enter Try.func10, Try.ntmps10
    go_wp2_with (first
      | (go_at_call 23; go_loud ((with_reducible refine (HFI.out _ (by repeat (first | exact Ext.refl _ | assumption | refine Ext.alloc ?_ _ | refine Ext.drew ?_ | refine Ext.drewN ?_ _ | refine Ext.trans ?_ (by assumption)))).mono ?_); rintro e w3 ⟨rfl, hq3⟩; obtain ⟨x0, x1, x2, x3, x4, x5, x6, xz⟩ := (HBX.out.ext (by repeat (first | exact Ext.refl _ | assumption | refine Ext.alloc ?_ _ | refine Ext.drew ?_ | refine Ext.drewN ?_ _ | refine Ext.trans ?_ (by assumption)) : Ext _ w3)).facts)))
    go_loopw [3, 4] (fun u i wr => ∃ (V : Value) (k : Nat), V = u ∧ i = .int .i64 (k : Int) ∧ k ≤ ns ∧ Hid (OwnV shStr1 wr (w.alloc (.cells #[.string ⟨nm.toArray⟩, .int .i64 g1, .int .i64 g2, .int .i64 g3, .int .i64 g4, .slice As ns cs, .slice Ac nc cc] 27)).heap.size 9 V k (nmsL (stN st) k)) ∧ Hid (Ext (w.alloc (.cells #[.string ⟨nm.toArray⟩, .int .i64 g1, .int .i64 g2, .int .i64 g3, .int .i64 g4, .slice As ns cs, .slice Ac nc cc] 27)) wr)) (fun _ i _ => ns - (intOf i).toNat)
    case atStart => exact ⟨_, 0, rfl, rfl, Nat.zero_le _, Lib.hid (OwnV.nil _ _ _ _), Lib.hid (by repeat (first | exact Ext.refl _ | assumption | refine Ext.alloc ?_ _ | refine Ext.drew ?_ | refine Ext.drewN ?_ _ | refine Ext.trans ?_ (by assumption)))⟩
    case round =>
      obtain ⟨V, k, rfl, rfl, hk, HO, HE⟩ := hrel
      obtain ⟨wa, rfl⟩ : ∃ wa : World, wa = wr := ⟨_, rfl⟩
      obtain ⟨x0, x1, x2, x3, x4, x5, x6, xz⟩ := (HBX.out.ext HE.out).facts
      have q0 : (0 : Int) ≤ (k : Int) := by omega
      by_cases hlt : k < ns
      · have q1 : (k : Int) < (ns : Int) := by omega
        obtain ⟨b', off, rfl, hb', c0, c1⟩ := Stf.at_ (HSV.out.ext (HW0.out.trans HE.out)) hlt
        have HNS := Lib.hid (nms_succ (stN st) k)
        obtain ⟨Y, hY⟩ : ∃ Y, stN st k = Y := ⟨_, rfl⟩
        rw [hY] at c0 HNS
        clear hY c1
        go_wp2_with (at_builtin; go_loud (refine wpList_append_vecsB (S := shStr1) (w := _) (m := 1) (c := 1) (L := nmsL (stN st) k) (k := k) (xs := [Y]) 52 9 (.string ⟨#[]⟩) 16 (by rfl) (by rfl) Try.underlying52 info_str1 (by rfl) (by omega) (by rfl) (by rfl) (HO.out.ext (by repeat (first | exact Ext.refl _ | assumption | refine Ext.alloc ?_ _ | refine Ext.drew ?_ | refine Ext.drewN ?_ _ | refine Ext.trans ?_ (by assumption)))) (HE.out.trans (by repeat (first | exact Ext.refl _ | assumption | refine Ext.alloc ?_ _ | refine Ext.drew ?_ | refine Ext.drewN ?_ _ | refine Ext.trans ?_ (by assumption)))) (Vec.lit2 (by simp) rfl rfl) (by omega) ?_; intro v5 w5 hown5 hx5 hgr5))
        go_roundw
        case rel => exact ⟨v5, k + 1, rfl, by go_num, by omega, Lib.hid (by rw [HNS.out]; exact hown5), Lib.hid hx5.out⟩
        case measure => simp [intOf] <;> omega
      · obtain rfl : ns = k := by omega
        obtain ⟨A9, c9, rfl, hv9, -⟩ := own_vecB HO.out
        obtain ⟨t1, e4⟩ : ∃ t, twiceB (stN st) ns = t := ⟨_, rfl⟩
        obtain ⟨t2, e5⟩ : ∃ t, twiceB (seN se) nc = t := ⟨_, rfl⟩
        have HTA := Lib.hid (fun (w' : World) (hx : Ext wa w') => rtwice_any A9 ns c9 (nmsL (stN st) ns) w' (hv9.ext hx) (by omega))
        rw [twice_nms, e4] at HTA
        have HTN := Lib.hid ((twice_nms (seN se) nc).trans e5)
        have HNA := Lib.hid (fun (w' : World) (hx : Ext wa w') => rnames_any nm g1 g2 g3 g4 As ns cs Ac nc cc se w' (HCV.out.ext ((HW0.out.trans HE.out).trans hx)) hn2)
        have HT1 := Lib.hid e4
        have HT2 := Lib.hid e5
        clear hv9 e4 e5 HO
        cases t1 with
        | true =>
          have HN := Lib.hid (show R = 14 by rw [← HR.out]; exact pat_twice HNM.out HA.out (.inl (by rw [HLS.out]; exact HT1.out)))
          go_wp2_with (first
            | (go_at_call 24; (first | ((with_reducible refine (HTA.out _ (by repeat (first | exact Ext.refl _ | assumption | refine Ext.alloc ?_ _ | refine Ext.drew ?_ | refine Ext.drewN ?_ _ | refine Ext.trans ?_ (by assumption)))).mono ?_); rintro e w6 ⟨rfl, hq6⟩; obtain ⟨x0, x1, x2, x3, x4, x5, x6, xz⟩ := (HBX.out.ext (HE.out.trans (by repeat (first | exact Ext.refl _ | assumption | refine Ext.alloc ?_ _ | refine Ext.drew ?_ | refine Ext.drewN ?_ _ | refine Ext.trans ?_ (by assumption))) : Ext _ w6)).facts) | (go_loud ((with_reducible refine (rtwice_any A7 nc c7 (nmsL (seN se) nc) _ (HVN.out.ext (by repeat (first | exact Ext.refl _ | assumption | refine Ext.alloc ?_ _ | refine Ext.drew ?_ | refine Ext.drewN ?_ _ | refine Ext.trans ?_ (by assumption)))) (by omega)).mono ?_); rintro e w8 ⟨rfl, hq8⟩; rw [HTN.out]; obtain ⟨x0, x1, x2, x3, x4, x5, x6, xz⟩ := (HBX.out.ext (HE.out.trans (by repeat (first | exact Ext.refl _ | assumption | refine Ext.alloc ?_ _ | refine Ext.drew ?_ | refine Ext.drewN ?_ _ | refine Ext.trans ?_ (by assumption))) : Ext _ w8)).facts))))
            | (go_at_call 15; go_loud ((with_reducible refine (HNA.out _ (by repeat (first | exact Ext.refl _ | assumption | refine Ext.alloc ?_ _ | refine Ext.drew ?_ | refine Ext.drewN ?_ _ | refine Ext.trans ?_ (by assumption)))).mono ?_); rintro e w7 ⟨A7, c7, rfl, hv7, hq7⟩; have HVN := Lib.hid hv7; clear hv7; obtain ⟨x0, x1, x2, x3, x4, x5, x6, xz⟩ := (HBX.out.ext (HE.out.trans (by repeat (first | exact Ext.refl _ | assumption | refine Ext.alloc ?_ _ | refine Ext.drew ?_ | refine Ext.drewN ?_ _ | refine Ext.trans ?_ (by assumption))) : Ext _ w7)).facts)))
          go_ret
          exact ⟨by rw [HN.out]; rfl, HW0.out.trans (HE.out.trans (by repeat (first | exact Ext.refl _ | assumption | refine Ext.alloc ?_ _ | refine Ext.drew ?_ | refine Ext.drewN ?_ _ | refine Ext.trans ?_ (by assumption))))⟩
        | false =>
          cases t2 with
          | true =>
            have HN := Lib.hid (show R = 14 by rw [← HR.out]; exact pat_twice HNM.out HA.out (.inr (by rw [HLC.out]; exact HT2.out)))
            go_wp2_with (first
              | (go_at_call 24; (first | ((with_reducible refine (HTA.out _ (by repeat (first | exact Ext.refl _ | assumption | refine Ext.alloc ?_ _ | refine Ext.drew ?_ | refine Ext.drewN ?_ _ | refine Ext.trans ?_ (by assumption)))).mono ?_); rintro e w6 ⟨rfl, hq6⟩; obtain ⟨x0, x1, x2, x3, x4, x5, x6, xz⟩ := (HBX.out.ext (HE.out.trans (by repeat (first | exact Ext.refl _ | assumption | refine Ext.alloc ?_ _ | refine Ext.drew ?_ | refine Ext.drewN ?_ _ | refine Ext.trans ?_ (by assumption))) : Ext _ w6)).facts) | (go_loud ((with_reducible refine (rtwice_any A7 nc c7 (nmsL (seN se) nc) _ (HVN.out.ext (by repeat (first | exact Ext.refl _ | assumption | refine Ext.alloc ?_ _ | refine Ext.drew ?_ | refine Ext.drewN ?_ _ | refine Ext.trans ?_ (by assumption)))) (by omega)).mono ?_); rintro e w8 ⟨rfl, hq8⟩; rw [HTN.out]; obtain ⟨x0, x1, x2, x3, x4, x5, x6, xz⟩ := (HBX.out.ext (HE.out.trans (by repeat (first | exact Ext.refl _ | assumption | refine Ext.alloc ?_ _ | refine Ext.drew ?_ | refine Ext.drewN ?_ _ | refine Ext.trans ?_ (by assumption))) : Ext _ w8)).facts))))
              | (go_at_call 15; go_loud ((with_reducible refine (HNA.out _ (by repeat (first | exact Ext.refl _ | assumption | refine Ext.alloc ?_ _ | refine Ext.drew ?_ | refine Ext.drewN ?_ _ | refine Ext.trans ?_ (by assumption)))).mono ?_); rintro e w7 ⟨A7, c7, rfl, hv7, hq7⟩; have HVN := Lib.hid hv7; clear hv7; obtain ⟨x0, x1, x2, x3, x4, x5, x6, xz⟩ := (HBX.out.ext (HE.out.trans (by repeat (first | exact Ext.refl _ | assumption | refine Ext.alloc ?_ _ | refine Ext.drew ?_ | refine Ext.drewN ?_ _ | refine Ext.trans ?_ (by assumption))) : Ext _ w7)).facts)))
            go_ret
            exact ⟨by rw [HN.out]; rfl, HW0.out.trans (HE.out.trans (by repeat (first | exact Ext.refl _ | assumption | refine Ext.alloc ?_ _ | refine Ext.drew ?_ | refine Ext.drewN ?_ _ | refine Ext.trans ?_ (by assumption))))⟩
          | false =>
            have HN := Lib.hid (show R = firstE se nc 0 by rw [← HR.out, pat_first HNM.out HA.out (by rw [HLS.out]; exact HT1.out) (by rw [HLC.out]; exact HT2.out), HLC.out])
            go_wp2_with (first
              | (go_at_call 24; (first | ((with_reducible refine (HTA.out _ (by repeat (first | exact Ext.refl _ | assumption | refine Ext.alloc ?_ _ | refine Ext.drew ?_ | refine Ext.drewN ?_ _ | refine Ext.trans ?_ (by assumption)))).mono ?_); rintro e w6 ⟨rfl, hq6⟩; obtain ⟨x0, x1, x2, x3, x4, x5, x6, xz⟩ := (HBX.out.ext (HE.out.trans (by repeat (first | exact Ext.refl _ | assumption | refine Ext.alloc ?_ _ | refine Ext.drew ?_ | refine Ext.drewN ?_ _ | refine Ext.trans ?_ (by assumption))) : Ext _ w6)).facts) | (go_loud ((with_reducible refine (rtwice_any A7 nc c7 (nmsL (seN se) nc) _ (HVN.out.ext (by repeat (first | exact Ext.refl _ | assumption | refine Ext.alloc ?_ _ | refine Ext.drew ?_ | refine Ext.drewN ?_ _ | refine Ext.trans ?_ (by assumption)))) (by omega)).mono ?_); rintro e w8 ⟨rfl, hq8⟩; rw [HTN.out]; obtain ⟨x0, x1, x2, x3, x4, x5, x6, xz⟩ := (HBX.out.ext (HE.out.trans (by repeat (first | exact Ext.refl _ | assumption | refine Ext.alloc ?_ _ | refine Ext.drew ?_ | refine Ext.drewN ?_ _ | refine Ext.trans ?_ (by assumption))) : Ext _ w8)).facts))))
              | (go_at_call 15; go_loud ((with_reducible refine (HNA.out _ (by repeat (first | exact Ext.refl _ | assumption | refine Ext.alloc ?_ _ | refine Ext.drew ?_ | refine Ext.drewN ?_ _ | refine Ext.trans ?_ (by assumption)))).mono ?_); rintro e w7 ⟨A7, c7, rfl, hv7, hq7⟩; have HVN := Lib.hid hv7; clear hv7; obtain ⟨x0, x1, x2, x3, x4, x5, x6, xz⟩ := (HBX.out.ext (HE.out.trans (by repeat (first | exact Ext.refl _ | assumption | refine Ext.alloc ?_ _ | refine Ext.drew ?_ | refine Ext.drewN ?_ _ | refine Ext.trans ?_ (by assumption))) : Ext _ w7)).facts)))
            go_loopw [5] (fun v wr => ∃ j : Nat, v = .int .i64 (j : Int) ∧ j ≤ nc ∧ Hid (R = firstE se (nc - j) j) ∧ Hid (Ext (w.alloc (.cells #[.string ⟨nm.toArray⟩, .int .i64 g1, .int .i64 g2, .int .i64 g3, .int .i64 g4, .slice As ns cs, .slice Ac nc cc] 27)) wr)) (fun v _ => nc - (intOf v).toNat)
            case atStart => exact ⟨0, rfl, Nat.zero_le _, HN, Lib.hid (HE.out.trans (by repeat (first | exact Ext.refl _ | assumption | refine Ext.alloc ?_ _ | refine Ext.drew ?_ | refine Ext.drewN ?_ _ | refine Ext.trans ?_ (by assumption))))⟩
            case round =>
              clear x0 x1 x2 x3 x4 x5 x6 xz HN
              obtain ⟨j, rfl, hj, HF, HEJ⟩ := hrel
              obtain ⟨wb, rfl⟩ : ∃ wb : World, wb = wr := ⟨_, rfl⟩
              obtain ⟨x0, x1, x2, x3, x4, x5, x6, xz⟩ := (HBX.out.ext HEJ.out).facts
              have p5 : (0 : Int) ≤ (j : Int) := by omega
              by_cases hjl : j < nc
              · have p6 : (j : Int) < (nc : Int) := by omega
                obtain ⟨b', off, A', n', c', rfl, hb', c0, c1, c2, hr, hcap⟩ := (HCV.out.ext (HW0.out.trans HEJ.out)).at_ hjl
                have HRW := Lib.hid hr
                obtain ⟨m, hm⟩ : ∃ m, nc - j = m + 1 := ⟨nc - j - 1, by omega⟩
                have HM := Lib.hid (show nc - (j + 1) = m by omega)
                have hF2 := HF.out
                rw [hm] at hF2
                generalize seN se j = Y at c0
                obtain ⟨S, hS⟩ : ∃ S, (se.getD j sec0).s = S := ⟨_, rfl⟩
                obtain ⟨L, hL⟩ : ∃ L, (se.getD j sec0).rows = L := ⟨_, rfl⟩
                rw [hS] at c1
                rw [hL] at HRW
                obtain ⟨x, hx⟩ : ∃ x, chkC S L = x := ⟨_, rfl⟩
                have HCK := Lib.hid (fun (w' : World) (h : Ext wb w') => rccheck_any S A' n' c' L w' (HRW.out.ext h))
                rw [hx] at HCK
                by_cases hx0 : x = 0
                · have HN2 := Lib.hid (show R = firstE se (nc - (j + 1)) (j + 1) by rw [HM.out, hF2, first_ok (by rw [hS, hL, hx]; exact hx0)])
                  subst hx0
                  clear hS hL hx hm hF2 hr
                  go_wp2_with (first
                    | (go_at_call 25; go_loud ((with_reducible refine (HCK.out _ (by repeat (first | exact Ext.refl _ | assumption | refine Ext.alloc ?_ _ | refine Ext.drew ?_ | refine Ext.drewN ?_ _ | refine Ext.trans ?_ (by assumption)))).mono ?_); rintro e w5 ⟨rfl, hq5⟩)))
                  go_roundw
                  case rel => exact ⟨j + 1, by go_num, by omega, HN2, Lib.hid (HEJ.out.trans (by repeat (first | exact Ext.refl _ | assumption | refine Ext.alloc ?_ _ | refine Ext.drew ?_ | refine Ext.drewN ?_ _ | refine Ext.trans ?_ (by assumption))))⟩
                  case measure => simp [intOf] <;> omega
                · have HN2 := Lib.hid (show R = x by rw [hF2, first_bad (by rw [hS, hL, hx]; exact hx0), hS, hL, hx])
                  have p7 : (x != 0) = true := by simpa using hx0
                  clear hS hL hx hm hF2 hr hx0
                  go_wp2_with (first
                    | (go_at_call 25; go_loud ((with_reducible refine (HCK.out _ (by repeat (first | exact Ext.refl _ | assumption | refine Ext.alloc ?_ _ | refine Ext.drew ?_ | refine Ext.drewN ?_ _ | refine Ext.trans ?_ (by assumption)))).mono ?_); rintro e w5 ⟨rfl, hq5⟩)))
                  go_ret
                  exact ⟨by rw [HN2.out]; rfl, HW0.out.trans (HEJ.out.trans (by repeat (first | exact Ext.refl _ | assumption | refine Ext.alloc ?_ _ | refine Ext.drew ?_ | refine Ext.drewN ?_ _ | refine Ext.trans ?_ (by assumption))))⟩
              · obtain rfl : nc = j := by omega
                have HN2 := Lib.hid (show R = 0 by rw [HF.out, Nat.sub_self]; rfl)
                go_wp2_with fail
                go_ret
                exact ⟨by rw [HN2.out]; rfl, HW0.out.trans HEJ.out⟩
end Go.Proofs.Ytfhecgipfhhchaa
