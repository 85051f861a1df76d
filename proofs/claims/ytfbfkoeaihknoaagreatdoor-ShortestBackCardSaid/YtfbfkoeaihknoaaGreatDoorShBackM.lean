/- Parse of Text is the list, and Text of what Parse accepts is the string; for a list that is not great, and any string of at most 3,500 bytes. -/
import Derived.Test.YtfbfkoeaihknoaaGreatDoorH37
import Derived.Test.YtfbfkoeaihknoaaGreatDoorH02
import Derived.Test.YtfbfkoeaihknoaaGreatDoorCards
namespace Go.Proofs.YtfbfkoeaihknoaaGreatDoor
set_option maxRecDepth 100000
set_option maxRecDepth 100000
open Go.ChangeShapes Go.WideShapes Go.ChangeAt Go.RowKit Go.Joins
set_option maxHeartbeats 8000000 in
theorem shortestBack_walk (n cap : Nat) (A : Option Addr) (t : Tms) (s : List UInt8) (w : World) (hv : Tv w A n t) (hg : Glob w) :
    Calls Tryz.prog 6 #[.slice A n cap, .string ⟨s.toArray⟩] w fun e w' => e = .returned (.bool true) ∧ Ext w w' := by
  have HV := Lib.hid hv
  have HG := Lib.hid hg
  clear hv hg
  cases hgr : greatT t
  case true =>
    have HGR := Lib.hid hgr
    clear hgr
    go_enter Tryz.func6, Tryz.ntmps6
    go_wp2_with (first
      | (go_at_call 15; go_loud ((with_reducible refine (shalive_any _ (HG.out.ext (by repeat (first | exact Ext.refl _ | assumption | refine Ext.alloc ?_ _ | refine Ext.drew ?_ | refine Ext.drewN ?_ _ | refine Ext.trans ?_ (by assumption))))).mono ?_); rintro e w0 ⟨rfl, hq0⟩))
      | (go_at_call 9; (first | (go_loud ((with_reducible refine (great_any t A n cap _ (HV.out.ext (by repeat (first | exact Ext.refl _ | assumption | refine Ext.alloc ?_ _ | refine Ext.drew ?_ | refine Ext.drewN ?_ _ | refine Ext.trans ?_ (by assumption))))).mono ?_); rintro e w1 ⟨rfl, hq1⟩; rw [HGR.out])))))
    all_goals (go_ret; exact ⟨by first | rfl | simp, by repeat (first | exact Ext.refl _ | assumption | refine Ext.alloc ?_ _ | refine Ext.drew ?_ | refine Ext.drewN ?_ _ | refine Ext.trans ?_ (by assumption))⟩)
  have ht : t.size ≤ 5000 := by have := great_size hgr; omega
  have HGR := Lib.hid hgr
  clear hgr
  by_cases hs : (3500 : Int) < (s.length : Int)
  · go_enter Tryz.func6, Tryz.ntmps6
    go_wp2_with (first
      | (go_at_call 15; go_loud ((with_reducible refine (shalive_any _ (HG.out.ext (by repeat (first | exact Ext.refl _ | assumption | refine Ext.alloc ?_ _ | refine Ext.drew ?_ | refine Ext.drewN ?_ _ | refine Ext.trans ?_ (by assumption))))).mono ?_); rintro e w0 ⟨rfl, hq0⟩))
      | (go_at_call 9; (first | (go_loud ((with_reducible refine (great_any t A n cap _ (HV.out.ext (by repeat (first | exact Ext.refl _ | assumption | refine Ext.alloc ?_ _ | refine Ext.drew ?_ | refine Ext.drewN ?_ _ | refine Ext.trans ?_ (by assumption))))).mono ?_); rintro e w1 ⟨rfl, hq1⟩; rw [HGR.out])))))
    all_goals (go_ret; exact ⟨by first | rfl | simp, by repeat (first | exact Ext.refl _ | assumption | refine Ext.alloc ?_ _ | refine Ext.drew ?_ | refine Ext.drewN ?_ _ | refine Ext.trans ?_ (by assumption))⟩)
  have HPT := Lib.hid (fun (w' : World) (hg' : Glob w') => (parse_rd s (by omega) trivial w' hg').mono fun _ _ h => ptr_c h)
  have HTX := Lib.hid (fun (w' : World) (hv' : Tv w' A n t) (hg' : Glob w') => ttext_any t ht A n cap w' hv' hg')
  unfold TxR at HTX
  by_cases hx : ttextE t = 0
  · obtain ⟨ha1, ha2, ha3, ha4⟩ := pt_text hx
    rw [hx] at HTX
    obtain ⟨a, ha⟩ : ∃ a, ttextV t = a := ⟨_, rfl⟩
    rw [ha] at HTX ha1 ha2 ha4
    have HPA := Lib.hid (fun (w' : World) (hg' : Glob w') => (parse_rd a (by omega) trivial w' hg').mono fun _ _ h => ptr_c h)
    rw [ha1, ha2] at HPA
    clear ha1 ha2 ha3 ha hx
    cases hp : parseT atoiO s with
    | none =>
      obtain ⟨p1, p2⟩ := pt_none hp
      rw [p1, p2] at HPT
      clear p1 p2 hp
      go_enter Tryz.func6, Tryz.ntmps6
      go_wp2_with (first
        | (go_at_call 15; go_loud ((with_reducible refine (shalive_any _ (HG.out.ext (by repeat (first | exact Ext.refl _ | assumption | refine Ext.alloc ?_ _ | refine Ext.drew ?_ | refine Ext.drewN ?_ _ | refine Ext.trans ?_ (by assumption))))).mono ?_); rintro e w0 ⟨rfl, hq0⟩))
        | (go_at_call 9; (first | ((with_reducible refine (great_any t A4 n4 c4 _ (HP4.out.ext (by repeat (first | exact Ext.refl _ | assumption | refine Ext.alloc ?_ _ | refine Ext.drew ?_ | refine Ext.drewN ?_ _ | refine Ext.trans ?_ (by assumption))))).mono ?_); rintro e w6 ⟨rfl, hq6⟩; rw [HGR.out]) | (go_loud ((with_reducible refine (great_any t A n cap _ (HV.out.ext (by repeat (first | exact Ext.refl _ | assumption | refine Ext.alloc ?_ _ | refine Ext.drew ?_ | refine Ext.drewN ?_ _ | refine Ext.trans ?_ (by assumption))))).mono ?_); rintro e w1 ⟨rfl, hq1⟩; rw [HGR.out]))))
        | (go_at_call 10; (first | (go_loud ((with_reducible refine (HTX.out _ (HV.out.ext (by repeat (first | exact Ext.refl _ | assumption | refine Ext.alloc ?_ _ | refine Ext.drew ?_ | refine Ext.drewN ?_ _ | refine Ext.trans ?_ (by assumption)))) (HG.out.ext (by repeat (first | exact Ext.refl _ | assumption | refine Ext.alloc ?_ _ | refine Ext.drew ?_ | refine Ext.drewN ?_ _ | refine Ext.trans ?_ (by assumption))))).mono ?_); rintro e w2 ⟨rfl, hq2⟩))))
        | (go_at_call 12; (first | ((with_reducible refine (HPA.out _ (HG.out.ext (by repeat (first | exact Ext.refl _ | assumption | refine Ext.alloc ?_ _ | refine Ext.drew ?_ | refine Ext.drewN ?_ _ | refine Ext.trans ?_ (by assumption))))).mono ?_); rintro e w4 ⟨A4, n4, c4, rfl, hq4, hp4⟩; have HP4 := Lib.hid hp4; clear hp4) | (go_loud ((with_reducible refine (HPT.out _ (HG.out.ext (by repeat (first | exact Ext.refl _ | assumption | refine Ext.alloc ?_ _ | refine Ext.drew ?_ | refine Ext.drewN ?_ _ | refine Ext.trans ?_ (by assumption))))).mono ?_); rintro e w5 ⟨A5, n5, c5, rfl, hq5, hp5⟩; have HP5 := Lib.hid hp5; clear hp5))))
        | (go_at_call 14; go_loud ((with_reducible refine (same_any 5000 (Nat.le_refl _) t ht A4 A n4 n c4 cap _ (HP4.out.ext (by repeat (first | exact Ext.refl _ | assumption | refine Ext.alloc ?_ _ | refine Ext.drew ?_ | refine Ext.drewN ?_ _ | refine Ext.trans ?_ (by assumption)))) (HV.out.ext (by repeat (first | exact Ext.refl _ | assumption | refine Ext.alloc ?_ _ | refine Ext.drew ?_ | refine Ext.drewN ?_ _ | refine Ext.trans ?_ (by assumption))))).mono ?_); rintro e w7 ⟨rfl, hq7⟩)))
      all_goals (go_ret; exact ⟨by first | rfl | simp, by repeat (first | exact Ext.refl _ | assumption | refine Ext.alloc ?_ _ | refine Ext.drew ?_ | refine Ext.drewN ?_ _ | refine Ext.trans ?_ (by assumption))⟩)
    | some T =>
      obtain ⟨p1, p2⟩ := pt_some hp
      obtain ⟨b1, b2⟩ := pt_back hp
      have hps := (pt_fine s).1
      rw [p1] at hps
      rw [p1, p2] at HPT
      have HTB := Lib.hid (fun (A5 : Option Addr) (n5 c5 : Nat) (w' : World) (hv' : Tv w' A5 n5 T) (hg' : Glob w') => ttext_any T (by omega) A5 n5 c5 w' hv' hg')
      unfold TxR at HTB
      rw [b1, b2] at HTB
      clear p1 p2 hp b1 b2
      go_enter Tryz.func6, Tryz.ntmps6
      go_wp2_with (first
        | (go_at_call 15; go_loud ((with_reducible refine (shalive_any _ (HG.out.ext (by repeat (first | exact Ext.refl _ | assumption | refine Ext.alloc ?_ _ | refine Ext.drew ?_ | refine Ext.drewN ?_ _ | refine Ext.trans ?_ (by assumption))))).mono ?_); rintro e w0 ⟨rfl, hq0⟩))
        | (go_at_call 9; (first | ((with_reducible refine (great_any t A4 n4 c4 _ (HP4.out.ext (by repeat (first | exact Ext.refl _ | assumption | refine Ext.alloc ?_ _ | refine Ext.drew ?_ | refine Ext.drewN ?_ _ | refine Ext.trans ?_ (by assumption))))).mono ?_); rintro e w6 ⟨rfl, hq6⟩; rw [HGR.out]) | (go_loud ((with_reducible refine (great_any t A n cap _ (HV.out.ext (by repeat (first | exact Ext.refl _ | assumption | refine Ext.alloc ?_ _ | refine Ext.drew ?_ | refine Ext.drewN ?_ _ | refine Ext.trans ?_ (by assumption))))).mono ?_); rintro e w1 ⟨rfl, hq1⟩; rw [HGR.out]))))
        | (go_at_call 10; (first | ((with_reducible refine (HTB.out A5 n5 c5 _ (HP5.out.ext (by repeat (first | exact Ext.refl _ | assumption | refine Ext.alloc ?_ _ | refine Ext.drew ?_ | refine Ext.drewN ?_ _ | refine Ext.trans ?_ (by assumption)))) (HG.out.ext (by repeat (first | exact Ext.refl _ | assumption | refine Ext.alloc ?_ _ | refine Ext.drew ?_ | refine Ext.drewN ?_ _ | refine Ext.trans ?_ (by assumption))))).mono ?_); rintro e w8 ⟨rfl, hq8⟩) | (go_loud ((with_reducible refine (HTX.out _ (HV.out.ext (by repeat (first | exact Ext.refl _ | assumption | refine Ext.alloc ?_ _ | refine Ext.drew ?_ | refine Ext.drewN ?_ _ | refine Ext.trans ?_ (by assumption)))) (HG.out.ext (by repeat (first | exact Ext.refl _ | assumption | refine Ext.alloc ?_ _ | refine Ext.drew ?_ | refine Ext.drewN ?_ _ | refine Ext.trans ?_ (by assumption))))).mono ?_); rintro e w2 ⟨rfl, hq2⟩))))
        | (go_at_call 12; (first | ((with_reducible refine (HPA.out _ (HG.out.ext (by repeat (first | exact Ext.refl _ | assumption | refine Ext.alloc ?_ _ | refine Ext.drew ?_ | refine Ext.drewN ?_ _ | refine Ext.trans ?_ (by assumption))))).mono ?_); rintro e w4 ⟨A4, n4, c4, rfl, hq4, hp4⟩; have HP4 := Lib.hid hp4; clear hp4) | (go_loud ((with_reducible refine (HPT.out _ (HG.out.ext (by repeat (first | exact Ext.refl _ | assumption | refine Ext.alloc ?_ _ | refine Ext.drew ?_ | refine Ext.drewN ?_ _ | refine Ext.trans ?_ (by assumption))))).mono ?_); rintro e w5 ⟨A5, n5, c5, rfl, hq5, hp5⟩; have HP5 := Lib.hid hp5; clear hp5))))
        | (go_at_call 14; go_loud ((with_reducible refine (same_any 5000 (Nat.le_refl _) t ht A4 A n4 n c4 cap _ (HP4.out.ext (by repeat (first | exact Ext.refl _ | assumption | refine Ext.alloc ?_ _ | refine Ext.drew ?_ | refine Ext.drewN ?_ _ | refine Ext.trans ?_ (by assumption)))) (HV.out.ext (by repeat (first | exact Ext.refl _ | assumption | refine Ext.alloc ?_ _ | refine Ext.drew ?_ | refine Ext.drewN ?_ _ | refine Ext.trans ?_ (by assumption))))).mono ?_); rintro e w7 ⟨rfl, hq7⟩)))
      all_goals (go_ret; exact ⟨by first | rfl | simp, by repeat (first | exact Ext.refl _ | assumption | refine Ext.alloc ?_ _ | refine Ext.drew ?_ | refine Ext.drewN ?_ _ | refine Ext.trans ?_ (by assumption))⟩)
  · obtain ⟨x, hx2⟩ : ∃ x, ttextE t = x := ⟨_, rfl⟩
    obtain ⟨a, ha⟩ : ∃ a, ttextV t = a := ⟨_, rfl⟩
    rw [hx2] at hx
    rw [hx2, ha] at HTX
    have hx0 : (x == 0) = false := by rw [beq_eq_false_iff_ne]; exact hx
    clear hx2 ha hx
    cases hp : parseT atoiO s with
    | none =>
      obtain ⟨p1, p2⟩ := pt_none hp
      rw [p1, p2] at HPT
      clear p1 p2 hp
      go_enter Tryz.func6, Tryz.ntmps6
      go_wp2_with (first
        | (go_at_call 15; go_loud ((with_reducible refine (shalive_any _ (HG.out.ext (by repeat (first | exact Ext.refl _ | assumption | refine Ext.alloc ?_ _ | refine Ext.drew ?_ | refine Ext.drewN ?_ _ | refine Ext.trans ?_ (by assumption))))).mono ?_); rintro e w0 ⟨rfl, hq0⟩))
        | (go_at_call 9; (first | (go_loud ((with_reducible refine (great_any t A n cap _ (HV.out.ext (by repeat (first | exact Ext.refl _ | assumption | refine Ext.alloc ?_ _ | refine Ext.drew ?_ | refine Ext.drewN ?_ _ | refine Ext.trans ?_ (by assumption))))).mono ?_); rintro e w1 ⟨rfl, hq1⟩; rw [HGR.out]))))
        | (go_at_call 10; (first | (go_loud ((with_reducible refine (HTX.out _ (HV.out.ext (by repeat (first | exact Ext.refl _ | assumption | refine Ext.alloc ?_ _ | refine Ext.drew ?_ | refine Ext.drewN ?_ _ | refine Ext.trans ?_ (by assumption)))) (HG.out.ext (by repeat (first | exact Ext.refl _ | assumption | refine Ext.alloc ?_ _ | refine Ext.drew ?_ | refine Ext.drewN ?_ _ | refine Ext.trans ?_ (by assumption))))).mono ?_); rintro e w2 ⟨rfl, hq2⟩))))
        | (go_at_call 12; (first | (go_loud ((with_reducible refine (HPT.out _ (HG.out.ext (by repeat (first | exact Ext.refl _ | assumption | refine Ext.alloc ?_ _ | refine Ext.drew ?_ | refine Ext.drewN ?_ _ | refine Ext.trans ?_ (by assumption))))).mono ?_); rintro e w5 ⟨A5, n5, c5, rfl, hq5, hp5⟩; have HP5 := Lib.hid hp5; clear hp5)))))
      all_goals (go_ret; exact ⟨by first | rfl | simp, by repeat (first | exact Ext.refl _ | assumption | refine Ext.alloc ?_ _ | refine Ext.drew ?_ | refine Ext.drewN ?_ _ | refine Ext.trans ?_ (by assumption))⟩)
    | some T =>
      obtain ⟨p1, p2⟩ := pt_some hp
      obtain ⟨b1, b2⟩ := pt_back hp
      have hps := (pt_fine s).1
      rw [p1] at hps
      rw [p1, p2] at HPT
      have HTB := Lib.hid (fun (A5 : Option Addr) (n5 c5 : Nat) (w' : World) (hv' : Tv w' A5 n5 T) (hg' : Glob w') => ttext_any T (by omega) A5 n5 c5 w' hv' hg')
      unfold TxR at HTB
      rw [b1, b2] at HTB
      clear p1 p2 hp b1 b2
      go_enter Tryz.func6, Tryz.ntmps6
      go_wp2_with (first
        | (go_at_call 15; go_loud ((with_reducible refine (shalive_any _ (HG.out.ext (by repeat (first | exact Ext.refl _ | assumption | refine Ext.alloc ?_ _ | refine Ext.drew ?_ | refine Ext.drewN ?_ _ | refine Ext.trans ?_ (by assumption))))).mono ?_); rintro e w0 ⟨rfl, hq0⟩))
        | (go_at_call 9; (first | (go_loud ((with_reducible refine (great_any t A n cap _ (HV.out.ext (by repeat (first | exact Ext.refl _ | assumption | refine Ext.alloc ?_ _ | refine Ext.drew ?_ | refine Ext.drewN ?_ _ | refine Ext.trans ?_ (by assumption))))).mono ?_); rintro e w1 ⟨rfl, hq1⟩; rw [HGR.out]))))
        | (go_at_call 10; (first | ((with_reducible refine (HTB.out A5 n5 c5 _ (HP5.out.ext (by repeat (first | exact Ext.refl _ | assumption | refine Ext.alloc ?_ _ | refine Ext.drew ?_ | refine Ext.drewN ?_ _ | refine Ext.trans ?_ (by assumption)))) (HG.out.ext (by repeat (first | exact Ext.refl _ | assumption | refine Ext.alloc ?_ _ | refine Ext.drew ?_ | refine Ext.drewN ?_ _ | refine Ext.trans ?_ (by assumption))))).mono ?_); rintro e w8 ⟨rfl, hq8⟩) | (go_loud ((with_reducible refine (HTX.out _ (HV.out.ext (by repeat (first | exact Ext.refl _ | assumption | refine Ext.alloc ?_ _ | refine Ext.drew ?_ | refine Ext.drewN ?_ _ | refine Ext.trans ?_ (by assumption)))) (HG.out.ext (by repeat (first | exact Ext.refl _ | assumption | refine Ext.alloc ?_ _ | refine Ext.drew ?_ | refine Ext.drewN ?_ _ | refine Ext.trans ?_ (by assumption))))).mono ?_); rintro e w2 ⟨rfl, hq2⟩))))
        | (go_at_call 12; (first | (go_loud ((with_reducible refine (HPT.out _ (HG.out.ext (by repeat (first | exact Ext.refl _ | assumption | refine Ext.alloc ?_ _ | refine Ext.drew ?_ | refine Ext.drewN ?_ _ | refine Ext.trans ?_ (by assumption))))).mono ?_); rintro e w5 ⟨A5, n5, c5, rfl, hq5, hp5⟩; have HP5 := Lib.hid hp5; clear hp5)))))
      all_goals (go_ret; exact ⟨by first | rfl | simp, by repeat (first | exact Ext.refl _ | assumption | refine Ext.alloc ?_ _ | refine Ext.drew ?_ | refine Ext.drewN ?_ _ | refine Ext.trans ?_ (by assumption))⟩)

set_option maxRecDepth 100000 in
theorem shortestBack_lifted (os : Os) (started : os.Started) (H : Type) (enc : TypeId × Value → H) :
    ReturnsInHanded {} Tryz.checked os 6 .any (fun w args => (Rows.shortestBackSpec.pre enc Tryz.prog Tryz.f6 [] false w args ∧ laidMetH Tryz.prog [("math/bits.deBruijn32tab", Rows.laid_math_bits_deBruijn32tab), ("math/bits.deBruijn64tab", Rows.laid_math_bits_deBruijn64tab), ("internal/strconv.uint64pow10", Rows.laid_internal_strconv_uint64pow10), ("unicode/utf8.acceptRanges", Rows.laid_unicode_utf8_acceptRanges), ("strconv.ErrRange", Rows.laid_strconv_ErrRange), ("strconv.ErrSyntax", Rows.laid_strconv_ErrSyntax), ("unicode/utf8.first", Rows.laid_unicode_utf8_first)] w) ∧ sizedMet enc Tryz.prog Tryz.f6 (OpenSpec.ofChange Rows.shortestBackSpec) false w args)
      (Rows.shortestBackSpec.post enc Tryz.prog Tryz.f6 false true false false) := by
  refine returns_laid (C := Tryz.checked) (X := fun w _ => laidMetH Tryz.prog [("math/bits.deBruijn32tab", Rows.laid_math_bits_deBruijn32tab), ("math/bits.deBruijn64tab", Rows.laid_math_bits_deBruijn64tab), ("internal/strconv.uint64pow10", Rows.laid_internal_strconv_uint64pow10), ("unicode/utf8.acceptRanges", Rows.laid_unicode_utf8_acceptRanges), ("strconv.ErrRange", Rows.laid_strconv_ErrRange), ("strconv.ErrSyntax", Rows.laid_strconv_ErrSyntax), ("unicode/utf8.first", Rows.laid_unicode_utf8_first)] w) (fun _ _ _ hh h => h.of_heap hh) own started (by kernel_rfl) Tryz.func6
    (ChangeSpec.witness_shaped (enc := enc) (C := Tryz.checked) (os := os) (X := fun w _ => laidMetH Tryz.prog [("math/bits.deBruijn32tab", Rows.laid_math_bits_deBruijn32tab), ("math/bits.deBruijn64tab", Rows.laid_math_bits_deBruijn64tab), ("internal/strconv.uint64pow10", Rows.laid_internal_strconv_uint64pow10), ("unicode/utf8.acceptRanges", Rows.laid_unicode_utf8_acceptRanges), ("strconv.ErrRange", Rows.laid_strconv_ErrRange), ("strconv.ErrSyntax", Rows.laid_strconv_ErrSyntax), ("unicode/utf8.first", Rows.laid_unicode_utf8_first)] w) false (World.laidAll Tryz.prog os [("math/bits.deBruijn32tab", Rows.laid_math_bits_deBruijn32tab), ("math/bits.deBruijn64tab", Rows.laid_math_bits_deBruijn64tab), ("internal/strconv.uint64pow10", Rows.laid_internal_strconv_uint64pow10), ("unicode/utf8.acceptRanges", Rows.laid_unicode_utf8_acceptRanges), ("strconv.ErrRange", Rows.laid_strconv_ErrRange), ("strconv.ErrSyntax", Rows.laid_strconv_ErrSyntax), ("unicode/utf8.first", Rows.laid_unicode_utf8_first)]) #[.slice none 0 0, .string ⟨#[]⟩] 8 (World.laidAll_os _ _ _)
      (World.shaped_of_ZipB (by kernel_rfl) (by kernel_rfl)) (by kernel_rfl) (by kernel_rfl) (by kernel_rfl)
      (by rw [MakeChecks.laidMetH_plain _ _ _ (by kernel_rfl)]; exact laidMet_laidAll _ (by kernel_rfl) (by kernel_rfl))) ?_
  intro W base args ds gs before hval0 hW hL hsh
  have hval : ∀ (j : Nat) t v, Tryz.f6.params[j]? = some t → args[j]? = some v → Value.okWide Tryz.prog W .any base t v := hval0
  have hW' := hW
  obtain ⟨p, q, hA0, hV, rfl, hfz, hnd⟩ := hW
  have hA : DataW.TrodAll enc Tryz.prog W 0 (fun _ => true) true Tryz.f6.params.toList args.toList ds p := hA0
  rw [Tryz.params6] at hA hval
  obtain ⟨v0, vs0, d0, ds0, p0, q0, hargs, rfl, rfl, h0, r0⟩ := trodAll_cons hA
  obtain ⟨v1, vs1, d1, ds1, p1, q1, rfl, rfl, rfl, h1, r1⟩ := trodAll_cons r0
  obtain ⟨rfl, rfl, rfl⟩ := trodAll_nil r1
  obtain rfl : args = #[v0, v1] := by cases args; simp_all
  obtain ⟨rfl, rfl⟩ := trodVars_none hV
  obtain ⟨Aa, na, ca, a, rfl, hia⟩ := open_tms_arg (hval 0 22 v0 rfl rfl) h0
  obtain ⟨sB, rfl, -, -, -⟩ := ChangeMaps.open_string Tryz.underlying9 (hval 1 9 v1 rfl rfl) h1
  obtain ⟨s, rfl⟩ : ∃ l : List UInt8, sB = ⟨l.toArray⟩ := ⟨sB.data.toList, by simp⟩
  rw [MakeChecks.laidMetH_plain _ _ _ (by kernel_rfl)] at hL
  have hG := glob_of hL hsh
  refine (shortestBack_walk na ca Aa a s W hia hG).mono fun e W' ⟨he, hg⟩ => ?_
  subst he
  exact ⟨_, rfl, law_post laid_out rfl Tryz.underlying4 (by kernel_rfl) rfl hW' rfl hg⟩

theorem shortestBack_holds : Rows.ShortestBackSaid :=
  OpenClaim.holds_of_wide 6 Tryz.f6 rfl rfl rfl rfl rfl rfl rfl ⟨rfl, rfl, rfl, rfl, rfl⟩ rfl rfl rfl rfl rfl (by kernel_rfl) Tryz.func6 (by kernel_rfl)
    (of_decide_eq_true (by kernel_rfl)) (by unfold Func.isWrapper; first | (rw [if_pos (by decide +kernel)]; kernel_rfl) | (rw [if_neg (by decide +kernel)]; exact ⟨rfl, rfl⟩))
    (fun os started H enc _ => shortestBack_lifted os started H enc)

theorem shortestBack_card : Rows.ShortestBackCardSaid :=
  Claim7.holds_tied_plain_at .later [] [.data, .data, .data, .data, .sentinel, .sentinel, .pinned] true (true, "e5f9bd0f772c11d510c8057603114c1f06b52d64d41fd05283189a068ebb2edc") true
    shortestBack_holds (fun _ h => by cases h) (by kernel_rfl) (fun _ h => by cases h) shortestBack_row_tie rfl ⟨rfl, rfl⟩ (by kernel_rfl) rfl
    (fun f fn hf hfn => by
      obtain rfl : f = 6 := Option.some.inj ((show Tryz.prog.funcNamed "raddle/raddlelaw42.ShortestBack" = some 6 by kernel_rfl).symm.trans hf) |>.symm
      obtain rfl : fn = Tryz.f6 := (Option.some.inj (Tryz.func6.symm.trans hfn)).symm
      exact ⟨by kernel_rfl, fun j t ht => by
        rw [Tryz.params6] at ht
        have hm : t ∈ [22, 9] := by simpa using Array.mem_of_getElem? ht
        have hall : ([22, 9].all fun u => !Tryz.prog.wantsStandIn u) = true := by kernel_rfl
        exact (show Tryz.prog.wantsStandIn t = false by simpa using List.all_eq_true.1 hall t hm)⟩)
    (by kernel_rfl)
end Go.Proofs.YtfbfkoeaihknoaaGreatDoor
