/- The limits, candidates of the same size, and errors. -/
import Derived.Test.YtfbfkoeaihknoaaGreatDoorH37
import Derived.Test.YtfbfkoeaihknoaaGreatDoorH02
import Derived.Test.YtfbfkoeaihknoaaGreatDoorCards
import Derived.Deep.CutRange
namespace Go.Proofs.YtfbfkoeaihknoaaGreatDoor
set_option maxRecDepth 100000
set_option maxRecDepth 100000
open Go.ChangeShapes Go.WideShapes Go.ChangeAt Go.RowKit Go.Joins
def chI (g : Nat → Nat → Nat) (l : List St) (i r : Nat) : Chc :=
  if perB (sub l i r) 1 = true then ⟨1, 0, 0⟩ else
    (List.range r).reverse.foldl (fun c k => if 1 ≤ k ∧ g i k + g (i + k) (r - k) < c.size then ⟨g i k + g (i + k) (r - k), 0, k⟩ else c)
      ((List.range r).foldl (fun c p => if 2 ≤ p ∧ perB (sub l i r) p = true ∧ 1 + g i p < c.size then ⟨1 + g i p, p, 0⟩ else c) ⟨r + 1, 0, 0⟩)
theorem foldl_same {α : Type} {f g : Chc → α → Chc} : ∀ (l : List α) (a : Chc), (∀ c x, x ∈ l → f c x = g c x) → l.foldl f a = l.foldl g a := by
  intro l
  induction l with
  | nil => intro a _; rfl
  | cons x l ih => intro a h; rw [List.foldl_cons, List.foldl_cons, h a x (by simp), ih _ fun c y hy => h c y (by simp [hy])]
theorem chI_ok {g : Nat → Nat → Nat} {l : List St} {i r : Nat} (h : i + r ≤ l.length) (h1 : 1 ≤ r) (hg : ∀ a m, 1 ≤ m → m < r → a + m ≤ l.length → g a m = (ch (sub l a m)).size) : chI g l i r = ch (sub l i r) := by
  rw [ch_eq (sub_ne h h1), chG, sub_len h, chI]
  split
  · rfl
  · have e1 : (List.range r).foldl (fun c p => if 2 ≤ p ∧ perB (sub l i r) p = true ∧ 1 + g i p < c.size then (⟨1 + g i p, p, 0⟩ : Chc) else c) ⟨r + 1, 0, 0⟩ = (List.range r).foldl (perStep (fun x => (ch x).size) (sub l i r)) ⟨r + 1, 0, 0⟩ := by
      refine foldl_same _ _ fun c p hp => ?_
      have hp := List.mem_range.1 hp
      rw [perStep]
      by_cases h2 : 2 ≤ p
      · rw [sub_take (by omega), hg i p (by omega) hp (by omega)]
      · rw [if_neg (fun e => h2 e.1), if_neg (fun e => h2 e.1)]
    rw [e1]
    refine foldl_same _ _ fun c k hk => ?_
    have hk := List.mem_range.1 (List.mem_reverse.1 hk)
    rw [partStep]
    by_cases h2 : 1 ≤ k
    · rw [sub_take (by omega), sub_drop (by omega), hg i k h2 hk (by omega), hg (i + k) (r - k) (by omega) (by omega) (by omega)]
    · rw [if_neg (fun e => h2 e.1), if_neg (fun e => h2 e.1)]
/-- an entry of a table: the rows by length, from length 1 on -/
def look (T : List (List (Nat × Nat × Nat))) (a m : Nat) : Chc := ⟨((T.getD (m - 1) []).getD a (0, 0, 0)).1, ((T.getD (m - 1) []).getD a (0, 0, 0)).2.1, ((T.getD (m - 1) []).getD a (0, 0, 0)).2.2⟩
def chcB (x y : Chc) : Bool := x.size == y.size && x.period == y.period && x.part == y.part
theorem chcB_e {x y : Chc} (h : chcB x y = true) : x = y := by
  obtain ⟨a, b, c⟩ := x
  obtain ⟨a', b', c'⟩ := y
  simp [chcB] at h
  obtain ⟨⟨rfl, rfl⟩, rfl⟩ := h
  rfl
def okTab (l : List St) (T : List (List (Nat × Nat × Nat))) : Bool := (List.range l.length).all fun q => (List.range (l.length - q)).all fun i => chcB (chI (fun a m => (look T a m).size) l i (q + 1)) (look T i (q + 1))
theorem okTab_ok {l : List St} {T : List (List (Nat × Nat × Nat))} (h : okTab l T = true) : ∀ m a, 1 ≤ m → a + m ≤ l.length → ch (sub l a m) = look T a m := by
  intro m
  induction m using Nat.strongRecOn with
  | ind m ih =>
    intro a h1 ham
    have h2 := List.all_eq_true.1 (List.all_eq_true.1 h (m - 1) (List.mem_range.2 (by omega))) a (List.mem_range.2 (by omega))
    rw [show m - 1 + 1 = m by omega] at h2
    rw [← chcB_e h2, chI_ok ham h1 fun a' m' h3 h4 h5 => by rw [ih m' h4 a' h3 h5]]
def mkI (T : List (List (Nat × Nat × Nat))) (l : List St) : Nat → Nat → Nat → Tms
  | 0, _, _ => .nil
  | f + 1, i, r =>
    if 0 < (look T i r).part then (mkI T l f i (look T i r).part).app (mkI T l f (i + (look T i r).part) (r - (look T i r).part))
    else if 0 < (look T i r).period then .cons ((r / (look T i r).period : Nat) : Int) st0 (mkI T l f i (look T i r).period) .nil
    else .cons (r : Int) (l.getD i st0) .nil .nil
theorem mkI_ok {l : List St} {T : List (List (Nat × Nat × Nat))} (h : okTab l T = true) : ∀ f i r, r ≤ f → 1 ≤ r → i + r ≤ l.length → mkI T l f i r = mkT f (sub l i r) := by
  intro f
  induction f with
  | zero => intro i r h0 h1; omega
  | succ f ih =>
    intro i r hf h1 hir
    have hc := okTab_ok h r i h1 hir
    have hm := ch_made (sub_ne hir h1)
    rw [sub_len hir, hc] at hm
    rw [mkI, mkT, hc, sub_len hir]
    by_cases hp : 0 < (look T i r).part
    · have hlt : (look T i r).part < r := by
        rcases hm with ⟨hx, -⟩ | ⟨_, _, h4, -⟩ | ⟨_, _, h4, -⟩
        · rw [hx] at hp; simp at hp
        · omega
        · exact h4
      rw [if_pos hp, if_pos hp, sub_take (by omega), sub_drop (by omega), ih _ _ (by omega) (by omega) (by omega), ih _ _ (by omega) (by omega) (by omega)]
    · rw [if_neg hp, if_neg hp]
      by_cases hq : 0 < (look T i r).period
      · have hlt : (look T i r).period < r := by
          rcases hm with ⟨hx, -⟩ | ⟨_, h4, _, -⟩ | ⟨h4, _, _, -⟩
          · rw [hx] at hq; simp at hq
          · exact h4
          · omega
        rw [if_pos hq, if_pos hq, sub_take (by omega), ih _ _ (by omega) (by omega) (by omega)]
      · rw [if_neg hq, if_neg hq, sub_get (by omega), Nat.add_zero]
theorem find_tab {l : List St} {T : List (List (Nat × Nat × Nat))} (h0 : l ≠ []) (h : okTab l T = true) : findT l = mkI T l l.length 0 l.length := by
  have h1 := List.length_pos_iff.2 h0
  rw [findT, if_neg h0, mkI_ok h _ 0 _ (Nat.le_refl _) h1 (by omega), sub_all]
def deepT : Nat → Tms
  | 0 => .cons 1 ⟨1, false, 0, 0⟩ .nil .nil
  | k + 1 => .cons 1 ⟨0, false, 0, 0⟩ (deepT k) .nil
theorem tv_lit {w : World} {t : TypeId} {N : Int} {c : St} {g : Tms} {A : Option Addr} {n cap h : Nat} {cs : Array Value} (hg : Tv w A n g) (hh : h = w.heap.size) (hc : cs = #[.int .i64 N, .int .u8 c.k, .bool c.p, .int .i64 c.a, .int .i64 c.b, .slice A n cap]) (hk : 0 ≤ c.k ∧ c.k ≤ 255) :
    Tv (w.alloc (.cells cs t)) (some ⟨h, 0, none⟩) 1 (.cons N c g .nil) := by
  subst hh
  subst hc
  have hg' := hg.ext ((Ext.refl w).alloc (.cells #[.int .i64 N, .int .u8 c.k, .bool c.p, .int .i64 c.a, .int .i64 c.b, .slice A n cap] t))
  refine ⟨rfl, by unfold maxLen; decide, fun _ => ⟨w.heap.size, 0, rfl, by simp, A, n, cap, ?_, ?_, ?_, ?_, ?_, ?_, hk, hg'.1, hg'.2.1, hg'.2.2, trivial⟩⟩
  all_goals simp [go_sem]
theorem mkdeep_any (n : Nat) (h1 : 1 ≤ n) (hn : n ≤ 100) (w : World) :
    Calls Tryz.prog 22 #[.int .i64 n] w fun e w' => ∃ b : Nat, e = .returned (.slice (some ⟨b, 0, none⟩) 1 1) ∧ Ext w w' ∧ Tv w' (some ⟨b, 0, none⟩) 1 (deepT (n - 1)) := by
  go_enter Tryz.func22, Tryz.ntmps22
  go_wp2_with fail
  go_loopw [3, 4] (fun l i wr => ∃ k b : Nat, i = .int .i64 k ∧ 1 ≤ k ∧ k ≤ n ∧ l = .slice (some ⟨b, 0, none⟩) 1 1 ∧ Hid (Ext w wr) ∧ Hid (Tv wr (some ⟨b, 0, none⟩) 1 (deepT (k - 1)))) (fun _ i _ => n - (intOf i).toNat)
  case atStart => exact ⟨1, _, rfl, Nat.le_refl _, h1, rfl, Lib.hid (by repeat (first | exact Ext.refl _ | assumption | refine Ext.alloc ?_ _ | refine Ext.drew ?_ | refine Ext.drewN ?_ _ | refine Ext.trans ?_ (by assumption))), Lib.hid (tv_lit (c := ⟨1, false, 0, 0⟩) (Tv.none_ _ _) rfl rfl (by decide))⟩
  case round =>
    obtain ⟨k, b, rfl, hk1, hk, rfl, HE, HT⟩ := hrel
    have hx := HE.out
    by_cases hlt : k < n
    · have q0 : (k : Int) < (n : Int) := by omega
      go_wp2_with fail
      refine ⟨⟨k + 1, _, by simp, by omega, by omega, rfl, Lib.hid (by repeat (first | exact Ext.refl _ | assumption | refine Ext.alloc ?_ _ | refine Ext.drew ?_ | refine Ext.drewN ?_ _ | refine Ext.trans ?_ (by assumption))), Lib.hid ?_⟩, by simp [intOf]; omega⟩
      rw [show k + 1 - 1 = (k - 1) + 1 by omega]
      exact tv_lit (c := ⟨0, false, 0, 0⟩) HT.out rfl rfl (by decide)
    · have q0 : ¬ ((k : Int) < (n : Int)) := by omega
      obtain rfl : k = n := by omega
      go_wp2_with fail
      go_ret
      exact ⟨b, rfl, by repeat (first | exact Ext.refl _ | assumption | refine Ext.alloc ?_ _ | refine Ext.drew ?_ | refine Ext.drewN ?_ _ | refine Ext.trans ?_ (by assumption)), HT.out.ext (by repeat (first | exact Ext.refl _ | assumption | refine Ext.alloc ?_ _ | refine Ext.drew ?_ | refine Ext.drewN ?_ _ | refine Ext.trans ?_ (by assumption)))⟩
theorem find_one {l : List St} (h : l ≠ []) (hb : perB l 1 = true) : findT l = .cons (l.length : Int) (l.getD 0 st0) .nil .nil := by
  have h1 := List.length_pos_iff.2 h
  obtain ⟨m, hm⟩ : ∃ m, l.length = m + 1 := ⟨l.length - 1, by omega⟩
  have hc : ch l = ⟨1, 0, 0⟩ := by rw [ch_eq h, chG, if_pos hb]
  rw [findT, if_neg h, hm, mkT, hc, if_neg (by simp), if_neg (by simp), ← hm]
theorem rdsize_c {t : Tms} {k : Nat} {A : Option Addr} {cap : Nat} {w : World} (hv : Tv w A t.cnt t) (hk : tchkE t = 0) (hs : t.size = k) :
    Calls Tryz.prog 26 #[.slice A t.cnt cap] w fun e w' => e = .returned (.tuple #[.int .i64 (k : Int), .int .i64 0]) ∧ Ext w w' := by
  have h1 := (tchk_parts hk).1
  have h := tsize_any t (by omega) A _ cap w hv
  have hz : tszV t = (k : Int) := by
    rw [tszV, if_pos hk]
    unfold szM
    omega
  rw [hz, hk] at h
  exact h
theorem rdtext_c {t : Tms} {s : List UInt8} {A : Option Addr} {cap : Nat} {w : World} (hv : Tv w A t.cnt t) (hk : tchkE t = 0) (hs : wT t = s) (hl : s.length ≤ 3000) (hg : Glob w) :
    Calls Tryz.prog 10 #[.slice A t.cnt cap] w fun e w' => e = .returned (.tuple #[.string ⟨s.toArray⟩, .int .i64 0]) ∧ Ext w w' := by
  have h1 : ttextE t = 0 := by rw [ttextE, if_neg (by rw [hk]; simp), hs, if_neg (by omega)]
  have h2 : ttextV t = s := by rw [ttextV, if_pos h1, hs]
  have h := ttext_any t (by have := (tchk_parts hk).1; omega) A _ cap w hv hg
  unfold TxR at h
  rw [h1, h2] at h
  exact h
theorem read_c {s : List UInt8} {t : Tms} {k : Nat} {w : World} (hk : tchkE t = 0) (hw : wT t = s) (hl : s.length ≤ 3000) (hs : t.size = k) (ha : Asc s) (hg : Glob w) :
    Calls Tryz.prog 19 #[.string ⟨s.toArray⟩, .int .i64 (k : Int)] w fun e w' => e = .returned (.bool true) ∧ Ext w w' := by
  have HG := Lib.hid hg
  have HP := Lib.hid (show parseT atoiO s = some t from (parseT_iff at_hat).2 ⟨hl, hk, hw⟩)
  have HKK := Lib.hid hk
  have HWW := Lib.hid hw
  have HSS := Lib.hid hs
  clear hk hw hs hg
  go_enter Tryz.func19, Tryz.ntmps19
  go_wp2_with (first
    | (go_at_call 12; ((with_reducible refine (rdparse_c HP.out hl ha (HG.out.ext (by repeat (first | exact Ext.refl _ | assumption | refine Ext.alloc ?_ _ | refine Ext.drew ?_ | refine Ext.drewN ?_ _ | refine Ext.trans ?_ (by assumption))))).mono ?_); rintro e w1 ⟨A1, c1, rfl, hq1, hv1⟩; have HV1 := Lib.hid hv1; clear hv1))
    | (go_at_call 26; ((with_reducible refine (rdsize_c (HV1.out.ext (by repeat (first | exact Ext.refl _ | assumption | refine Ext.alloc ?_ _ | refine Ext.drew ?_ | refine Ext.drewN ?_ _ | refine Ext.trans ?_ (by assumption)))) HKK.out HSS.out).mono ?_); rintro e w2 ⟨rfl, hq2⟩))
    | (go_at_call 10; ((with_reducible refine (rdtext_c (HV1.out.ext (by repeat (first | exact Ext.refl _ | assumption | refine Ext.alloc ?_ _ | refine Ext.drew ?_ | refine Ext.drewN ?_ _ | refine Ext.trans ?_ (by assumption)))) HKK.out HWW.out hl (HG.out.ext (by repeat (first | exact Ext.refl _ | assumption | refine Ext.alloc ?_ _ | refine Ext.drew ?_ | refine Ext.drewN ?_ _ | refine Ext.trans ?_ (by assumption))))).mono ?_); rintro e w3 ⟨rfl, hq3⟩)))
  all_goals (go_ret; exact ⟨by first | rfl | simp, by repeat (first | exact Ext.refl _ | assumption | refine Ext.alloc ?_ _ | refine Ext.drew ?_ | refine Ext.drewN ?_ _ | refine Ext.trans ?_ (by assumption))⟩)
theorem refused_c {s : List UInt8} {w : World} (hp : (parseT atoiO s).isNone = true) (hl : s.length ≤ 3000) (ha : Asc s) (hg : Glob w) :
    Calls Tryz.prog 20 #[.string ⟨s.toArray⟩] w fun e w' => e = .returned (.bool true) ∧ Ext w w' := by
  have HP := Lib.hid (show Calls Tryz.prog 12 #[.string ⟨s.toArray⟩] w fun e w' => e = .returned (.tuple #[.slice none 0 0, .int .i64 12]) ∧ Ext w w' from by
    refine (parse_rd s (by omega) ha w hg).mono ?_
    rintro e w' ⟨v, x, rfl, h1, h2⟩
    rcases h2 with ⟨-, rfl, rfl⟩ | ⟨t', h3, -, -⟩
    · exact ⟨rfl, h1⟩
    · rw [h3] at hp
      cases hp)
  clear hp hg
  go_enter Tryz.func20, Tryz.ntmps20
  go_wp2_with (first
    | (go_at_call 12; ((with_reducible refine (HP.out).mono ?_); rintro e w1 ⟨rfl, hq1⟩)))
  all_goals (go_ret; exact ⟨by first | rfl | simp, by repeat (first | exact Ext.refl _ | assumption | refine Ext.alloc ?_ _ | refine Ext.drew ?_ | refine Ext.drewN ?_ _ | refine Ext.trans ?_ (by assumption))⟩)
theorem fk0_p : parseL [] = some ([]) := by decide +kernel
theorem fk0_e : findT ([]) = .nil := rfl
theorem fk0_f (w : World) (hg : Glob w) : Calls Tryz.prog 18 #[.string ⟨#[]⟩, .string ⟨#[]⟩, .int .i64 0] w fun e w' => e = .returned (.bool true) ∧ Ext w w' :=
  finds_c (s := []) (T := []) (k := 0) 0 fk0_p rfl (by omega) (by rw [fk0_e]; decide +kernel) (by decide) (by rw [fk0_e]; rfl) hg
theorem fk1_p : parseL [107, 54, 48] = some (List.replicate 60 ⟨1, false, 0, 0⟩) := by decide +kernel
theorem fk1_e : findT (List.replicate 60 ⟨1, false, 0, 0⟩) = .cons 60 ⟨1, false, 0, 0⟩ .nil .nil := (find_one (by simp) (by decide +kernel)).trans rfl
theorem fk1_f (w : World) (hg : Glob w) : Calls Tryz.prog 18 #[.string ⟨#[107, 54, 48]⟩, .string ⟨#[107, 42, 54, 48]⟩, .int .i64 1] w fun e w' => e = .returned (.bool true) ∧ Ext w w' :=
  finds_c (s := [107, 54, 48]) (T := [107, 42, 54, 48]) (k := 1) 60 fk1_p rfl (by omega) (by rw [fk1_e]; decide +kernel) (by decide) (by rw [fk1_e]; rfl) hg
theorem fk2_p : parseL [107, 32, 112, 32, 107, 32, 112] = some ([⟨1, false, 0, 0⟩, ⟨1, true, 0, 0⟩, ⟨1, false, 0, 0⟩, ⟨1, true, 0, 0⟩]) := by decide +kernel
theorem fk2_k : okTab [⟨1, false, 0, 0⟩, ⟨1, true, 0, 0⟩, ⟨1, false, 0, 0⟩, ⟨1, true, 0, 0⟩] [[(1, 0, 0), (1, 0, 0), (1, 0, 0), (1, 0, 0)], [(2, 0, 1), (2, 0, 1), (2, 0, 1)], [(3, 0, 2), (3, 0, 2)], [(3, 2, 0)]] = true := by decide +kernel
theorem fk2_e : findT ([⟨1, false, 0, 0⟩, ⟨1, true, 0, 0⟩, ⟨1, false, 0, 0⟩, ⟨1, true, 0, 0⟩]) = .cons 2 ⟨0, false, 0, 0⟩ (.cons 1 ⟨1, false, 0, 0⟩ .nil (.cons 1 ⟨1, true, 0, 0⟩ .nil .nil)) .nil := (find_tab (by simp) fk2_k).trans rfl
theorem fk2_f (w : World) (hg : Glob w) : Calls Tryz.prog 18 #[.string ⟨#[107, 32, 112, 32, 107, 32, 112]⟩, .string ⟨#[40, 107, 32, 112, 41, 42, 50]⟩, .int .i64 3] w fun e w' => e = .returned (.bool true) ∧ Ext w w' :=
  finds_c (s := [107, 32, 112, 32, 107, 32, 112]) (T := [40, 107, 32, 112, 41, 42, 50]) (k := 3) 4 fk2_p rfl (by omega) (by rw [fk2_e]; decide +kernel) (by decide) (by rw [fk2_e]; rfl) hg
theorem fk3_p : parseL [107, 32, 112, 32, 107, 32, 112, 32, 107] = some ([⟨1, false, 0, 0⟩, ⟨1, true, 0, 0⟩, ⟨1, false, 0, 0⟩, ⟨1, true, 0, 0⟩, ⟨1, false, 0, 0⟩]) := by decide +kernel
theorem fk3_k : okTab [⟨1, false, 0, 0⟩, ⟨1, true, 0, 0⟩, ⟨1, false, 0, 0⟩, ⟨1, true, 0, 0⟩, ⟨1, false, 0, 0⟩] [[(1, 0, 0), (1, 0, 0), (1, 0, 0), (1, 0, 0), (1, 0, 0)], [(2, 0, 1), (2, 0, 1), (2, 0, 1), (2, 0, 1)], [(3, 0, 2), (3, 0, 2), (3, 0, 2)], [(3, 2, 0), (3, 2, 0)], [(4, 0, 4)]] = true := by decide +kernel
theorem fk3_e : findT ([⟨1, false, 0, 0⟩, ⟨1, true, 0, 0⟩, ⟨1, false, 0, 0⟩, ⟨1, true, 0, 0⟩, ⟨1, false, 0, 0⟩]) = .cons 2 ⟨0, false, 0, 0⟩ (.cons 1 ⟨1, false, 0, 0⟩ .nil (.cons 1 ⟨1, true, 0, 0⟩ .nil .nil)) (.cons 1 ⟨1, false, 0, 0⟩ .nil .nil) := (find_tab (by simp) fk3_k).trans rfl
theorem fk3_f (w : World) (hg : Glob w) : Calls Tryz.prog 18 #[.string ⟨#[107, 32, 112, 32, 107, 32, 112, 32, 107]⟩, .string ⟨#[40, 107, 32, 112, 41, 42, 50, 32, 107]⟩, .int .i64 4] w fun e w' => e = .returned (.bool true) ∧ Ext w w' :=
  finds_c (s := [107, 32, 112, 32, 107, 32, 112, 32, 107]) (T := [40, 107, 32, 112, 41, 42, 50, 32, 107]) (k := 4) 5 fk3_p rfl (by omega) (by rw [fk3_e]; decide +kernel) (by decide) (by rw [fk3_e]; rfl) hg
theorem fk4_p : parseL [107, 50, 32, 112, 50, 32, 107, 50, 32, 112, 50] = some ([⟨1, false, 0, 0⟩, ⟨1, false, 0, 0⟩, ⟨1, true, 0, 0⟩, ⟨1, true, 0, 0⟩, ⟨1, false, 0, 0⟩, ⟨1, false, 0, 0⟩, ⟨1, true, 0, 0⟩, ⟨1, true, 0, 0⟩]) := by decide +kernel
theorem fk4_k : okTab [⟨1, false, 0, 0⟩, ⟨1, false, 0, 0⟩, ⟨1, true, 0, 0⟩, ⟨1, true, 0, 0⟩, ⟨1, false, 0, 0⟩, ⟨1, false, 0, 0⟩, ⟨1, true, 0, 0⟩, ⟨1, true, 0, 0⟩] [[(1, 0, 0), (1, 0, 0), (1, 0, 0), (1, 0, 0), (1, 0, 0), (1, 0, 0), (1, 0, 0), (1, 0, 0)], [(1, 0, 0), (2, 0, 1), (1, 0, 0), (2, 0, 1), (1, 0, 0), (2, 0, 1), (1, 0, 0)], [(2, 0, 2), (2, 0, 1), (2, 0, 2), (2, 0, 1), (2, 0, 2), (2, 0, 1)], [(2, 0, 2), (3, 0, 3), (2, 0, 2), (3, 0, 3), (2, 0, 2)], [(3, 0, 4), (3, 0, 3), (3, 0, 4), (3, 0, 3)], [(3, 0, 4), (4, 0, 5), (3, 0, 4)], [(4, 0, 6), (4, 0, 5)], [(3, 4, 0)]] = true := by decide +kernel
theorem fk4_e : findT ([⟨1, false, 0, 0⟩, ⟨1, false, 0, 0⟩, ⟨1, true, 0, 0⟩, ⟨1, true, 0, 0⟩, ⟨1, false, 0, 0⟩, ⟨1, false, 0, 0⟩, ⟨1, true, 0, 0⟩, ⟨1, true, 0, 0⟩]) = .cons 2 ⟨0, false, 0, 0⟩ (.cons 2 ⟨1, false, 0, 0⟩ .nil (.cons 2 ⟨1, true, 0, 0⟩ .nil .nil)) .nil := (find_tab (by simp) fk4_k).trans rfl
theorem fk4_f (w : World) (hg : Glob w) : Calls Tryz.prog 18 #[.string ⟨#[107, 50, 32, 112, 50, 32, 107, 50, 32, 112, 50]⟩, .string ⟨#[40, 107, 42, 50, 32, 112, 42, 50, 41, 42, 50]⟩, .int .i64 3] w fun e w' => e = .returned (.bool true) ∧ Ext w w' :=
  finds_c (s := [107, 50, 32, 112, 50, 32, 107, 50, 32, 112, 50]) (T := [40, 107, 42, 50, 32, 112, 42, 50, 41, 42, 50]) (k := 3) 8 fk4_p rfl (by omega) (by rw [fk4_e]; decide +kernel) (by decide) (by rw [fk4_e]; rfl) hg
theorem fk5_p : parseL [107, 32, 112, 50, 32, 107, 32, 112, 50, 32, 107, 32, 112, 50, 32, 107, 32, 112, 50] = some ([⟨1, false, 0, 0⟩, ⟨1, true, 0, 0⟩, ⟨1, true, 0, 0⟩, ⟨1, false, 0, 0⟩, ⟨1, true, 0, 0⟩, ⟨1, true, 0, 0⟩, ⟨1, false, 0, 0⟩, ⟨1, true, 0, 0⟩, ⟨1, true, 0, 0⟩, ⟨1, false, 0, 0⟩, ⟨1, true, 0, 0⟩, ⟨1, true, 0, 0⟩]) := by decide +kernel
theorem fk5_k : okTab [⟨1, false, 0, 0⟩, ⟨1, true, 0, 0⟩, ⟨1, true, 0, 0⟩, ⟨1, false, 0, 0⟩, ⟨1, true, 0, 0⟩, ⟨1, true, 0, 0⟩, ⟨1, false, 0, 0⟩, ⟨1, true, 0, 0⟩, ⟨1, true, 0, 0⟩, ⟨1, false, 0, 0⟩, ⟨1, true, 0, 0⟩, ⟨1, true, 0, 0⟩] [[(1, 0, 0), (1, 0, 0), (1, 0, 0), (1, 0, 0), (1, 0, 0), (1, 0, 0), (1, 0, 0), (1, 0, 0), (1, 0, 0), (1, 0, 0), (1, 0, 0), (1, 0, 0)], [(2, 0, 1), (1, 0, 0), (2, 0, 1), (2, 0, 1), (1, 0, 0), (2, 0, 1), (2, 0, 1), (1, 0, 0), (2, 0, 1), (2, 0, 1), (1, 0, 0)], [(2, 0, 1), (2, 0, 2), (3, 0, 2), (2, 0, 1), (2, 0, 2), (3, 0, 2), (2, 0, 1), (2, 0, 2), (3, 0, 2), (2, 0, 1)], [(3, 0, 3), (3, 0, 3), (3, 0, 2), (3, 0, 3), (3, 0, 3), (3, 0, 2), (3, 0, 3), (3, 0, 3), (3, 0, 2)], [(4, 0, 4), (3, 0, 3), (4, 0, 4), (4, 0, 4), (3, 0, 3), (4, 0, 4), (4, 0, 4), (3, 0, 3)], [(3, 3, 0), (3, 3, 0), (4, 3, 0), (3, 3, 0), (3, 3, 0), (4, 3, 0), (3, 3, 0)], [(4, 0, 6), (4, 0, 6), (4, 0, 1), (4, 0, 6), (4, 0, 6), (4, 0, 1)], [(5, 0, 7), (4, 0, 6), (5, 0, 7), (5, 0, 7), (4, 0, 6)], [(3, 3, 0), (3, 3, 0), (4, 3, 0), (3, 3, 0)], [(4, 0, 9), (4, 0, 9), (4, 0, 1)], [(5, 0, 10), (4, 0, 9)], [(3, 3, 0)]] = true := by decide +kernel
theorem fk5_e : findT ([⟨1, false, 0, 0⟩, ⟨1, true, 0, 0⟩, ⟨1, true, 0, 0⟩, ⟨1, false, 0, 0⟩, ⟨1, true, 0, 0⟩, ⟨1, true, 0, 0⟩, ⟨1, false, 0, 0⟩, ⟨1, true, 0, 0⟩, ⟨1, true, 0, 0⟩, ⟨1, false, 0, 0⟩, ⟨1, true, 0, 0⟩, ⟨1, true, 0, 0⟩]) = .cons 4 ⟨0, false, 0, 0⟩ (.cons 1 ⟨1, false, 0, 0⟩ .nil (.cons 2 ⟨1, true, 0, 0⟩ .nil .nil)) .nil := (find_tab (by simp) fk5_k).trans rfl
theorem fk5_f (w : World) (hg : Glob w) : Calls Tryz.prog 18 #[.string ⟨#[107, 32, 112, 50, 32, 107, 32, 112, 50, 32, 107, 32, 112, 50, 32, 107, 32, 112, 50]⟩, .string ⟨#[40, 107, 32, 112, 42, 50, 41, 42, 52]⟩, .int .i64 3] w fun e w' => e = .returned (.bool true) ∧ Ext w w' :=
  finds_c (s := [107, 32, 112, 50, 32, 107, 32, 112, 50, 32, 107, 32, 112, 50, 32, 107, 32, 112, 50]) (T := [40, 107, 32, 112, 42, 50, 41, 42, 52]) (k := 3) 12 fk5_p rfl (by omega) (by rw [fk5_e]; decide +kernel) (by decide) (by rw [fk5_e]; rfl) hg
theorem fk6_p : parseL [121, 111, 32, 107, 32, 121, 111, 32, 107, 32, 112, 32, 121, 111, 32, 107, 32, 121, 111, 32, 107, 32, 112] = some ([⟨2, false, 0, 0⟩, ⟨1, false, 0, 0⟩, ⟨2, false, 0, 0⟩, ⟨1, false, 0, 0⟩, ⟨1, true, 0, 0⟩, ⟨2, false, 0, 0⟩, ⟨1, false, 0, 0⟩, ⟨2, false, 0, 0⟩, ⟨1, false, 0, 0⟩, ⟨1, true, 0, 0⟩]) := by decide +kernel
theorem fk6_k : okTab [⟨2, false, 0, 0⟩, ⟨1, false, 0, 0⟩, ⟨2, false, 0, 0⟩, ⟨1, false, 0, 0⟩, ⟨1, true, 0, 0⟩, ⟨2, false, 0, 0⟩, ⟨1, false, 0, 0⟩, ⟨2, false, 0, 0⟩, ⟨1, false, 0, 0⟩, ⟨1, true, 0, 0⟩] [[(1, 0, 0), (1, 0, 0), (1, 0, 0), (1, 0, 0), (1, 0, 0), (1, 0, 0), (1, 0, 0), (1, 0, 0), (1, 0, 0), (1, 0, 0)], [(2, 0, 1), (2, 0, 1), (2, 0, 1), (2, 0, 1), (2, 0, 1), (2, 0, 1), (2, 0, 1), (2, 0, 1), (2, 0, 1)], [(3, 0, 2), (3, 0, 2), (3, 0, 2), (3, 0, 2), (3, 0, 2), (3, 0, 2), (3, 0, 2), (3, 0, 2)], [(3, 2, 0), (4, 0, 3), (4, 0, 3), (4, 0, 3), (4, 0, 3), (3, 2, 0), (4, 0, 3)], [(4, 0, 4), (5, 0, 4), (5, 0, 4), (5, 0, 4), (4, 0, 1), (4, 0, 4)], [(5, 0, 5), (6, 0, 5), (6, 0, 5), (5, 0, 2), (5, 0, 5)], [(6, 0, 6), (7, 0, 6), (6, 0, 3), (6, 0, 6)], [(7, 0, 7), (7, 0, 4), (7, 0, 7)], [(7, 0, 5), (8, 0, 8)], [(5, 5, 0)]] = true := by decide +kernel
theorem fk6_e : findT ([⟨2, false, 0, 0⟩, ⟨1, false, 0, 0⟩, ⟨2, false, 0, 0⟩, ⟨1, false, 0, 0⟩, ⟨1, true, 0, 0⟩, ⟨2, false, 0, 0⟩, ⟨1, false, 0, 0⟩, ⟨2, false, 0, 0⟩, ⟨1, false, 0, 0⟩, ⟨1, true, 0, 0⟩]) = .cons 2 ⟨0, false, 0, 0⟩ (.cons 2 ⟨0, false, 0, 0⟩ (.cons 1 ⟨2, false, 0, 0⟩ .nil (.cons 1 ⟨1, false, 0, 0⟩ .nil .nil)) (.cons 1 ⟨1, true, 0, 0⟩ .nil .nil)) .nil := (find_tab (by simp) fk6_k).trans rfl
theorem fk6_f (w : World) (hg : Glob w) : Calls Tryz.prog 18 #[.string ⟨#[121, 111, 32, 107, 32, 121, 111, 32, 107, 32, 112, 32, 121, 111, 32, 107, 32, 121, 111, 32, 107, 32, 112]⟩, .string ⟨#[40, 40, 121, 111, 32, 107, 41, 42, 50, 32, 112, 41, 42, 50]⟩, .int .i64 5] w fun e w' => e = .returned (.bool true) ∧ Ext w w' :=
  finds_c (s := [121, 111, 32, 107, 32, 121, 111, 32, 107, 32, 112, 32, 121, 111, 32, 107, 32, 121, 111, 32, 107, 32, 112]) (T := [40, 40, 121, 111, 32, 107, 41, 42, 50, 32, 112, 41, 42, 50]) (k := 5) 10 fk6_p rfl (by omega) (by rw [fk6_e]; decide +kernel) (by decide) (by rw [fk6_e]; rfl) hg
theorem fk7_p : parseL [107, 32, 112, 32, 107, 32, 112, 50, 32, 107, 32, 112, 32, 107, 32, 112, 50] = some ([⟨1, false, 0, 0⟩, ⟨1, true, 0, 0⟩, ⟨1, false, 0, 0⟩, ⟨1, true, 0, 0⟩, ⟨1, true, 0, 0⟩, ⟨1, false, 0, 0⟩, ⟨1, true, 0, 0⟩, ⟨1, false, 0, 0⟩, ⟨1, true, 0, 0⟩, ⟨1, true, 0, 0⟩]) := by decide +kernel
theorem fk7_k : okTab [⟨1, false, 0, 0⟩, ⟨1, true, 0, 0⟩, ⟨1, false, 0, 0⟩, ⟨1, true, 0, 0⟩, ⟨1, true, 0, 0⟩, ⟨1, false, 0, 0⟩, ⟨1, true, 0, 0⟩, ⟨1, false, 0, 0⟩, ⟨1, true, 0, 0⟩, ⟨1, true, 0, 0⟩] [[(1, 0, 0), (1, 0, 0), (1, 0, 0), (1, 0, 0), (1, 0, 0), (1, 0, 0), (1, 0, 0), (1, 0, 0), (1, 0, 0), (1, 0, 0)], [(2, 0, 1), (2, 0, 1), (2, 0, 1), (1, 0, 0), (2, 0, 1), (2, 0, 1), (2, 0, 1), (2, 0, 1), (1, 0, 0)], [(3, 0, 2), (3, 0, 2), (2, 0, 1), (2, 0, 2), (3, 0, 2), (3, 0, 2), (3, 0, 2), (2, 0, 1)], [(3, 2, 0), (3, 0, 2), (3, 0, 3), (3, 0, 3), (3, 2, 0), (3, 2, 0), (3, 0, 2)], [(4, 0, 4), (4, 0, 4), (4, 0, 4), (4, 0, 4), (4, 0, 4), (4, 0, 4)], [(5, 0, 5), (4, 3, 0), (5, 0, 5), (4, 0, 2), (4, 0, 4)], [(5, 0, 1), (5, 0, 6), (5, 0, 3), (5, 0, 6)], [(6, 0, 7), (6, 0, 7), (6, 0, 7)], [(7, 0, 8), (6, 0, 7)], [(5, 5, 0)]] = true := by decide +kernel
theorem fk7_e : findT ([⟨1, false, 0, 0⟩, ⟨1, true, 0, 0⟩, ⟨1, false, 0, 0⟩, ⟨1, true, 0, 0⟩, ⟨1, true, 0, 0⟩, ⟨1, false, 0, 0⟩, ⟨1, true, 0, 0⟩, ⟨1, false, 0, 0⟩, ⟨1, true, 0, 0⟩, ⟨1, true, 0, 0⟩]) = .cons 2 ⟨0, false, 0, 0⟩ (.cons 2 ⟨0, false, 0, 0⟩ (.cons 1 ⟨1, false, 0, 0⟩ .nil (.cons 1 ⟨1, true, 0, 0⟩ .nil .nil)) (.cons 1 ⟨1, true, 0, 0⟩ .nil .nil)) .nil := (find_tab (by simp) fk7_k).trans rfl
theorem fk7_f (w : World) (hg : Glob w) : Calls Tryz.prog 18 #[.string ⟨#[107, 32, 112, 32, 107, 32, 112, 50, 32, 107, 32, 112, 32, 107, 32, 112, 50]⟩, .string ⟨#[40, 40, 107, 32, 112, 41, 42, 50, 32, 112, 41, 42, 50]⟩, .int .i64 5] w fun e w' => e = .returned (.bool true) ∧ Ext w w' :=
  finds_c (s := [107, 32, 112, 32, 107, 32, 112, 50, 32, 107, 32, 112, 32, 107, 32, 112, 50]) (T := [40, 40, 107, 32, 112, 41, 42, 50, 32, 112, 41, 42, 50]) (k := 5) 10 fk7_p rfl (by omega) (by rw [fk7_e]; decide +kernel) (by decide) (by rw [fk7_e]; rfl) hg
theorem fk8_p : parseL [107, 102, 50, 32, 107, 102, 50] = some ([⟨3, false, 2, 0⟩, ⟨3, false, 2, 0⟩]) := by decide +kernel
theorem fk8_k : okTab [⟨3, false, 2, 0⟩, ⟨3, false, 2, 0⟩] [[(1, 0, 0), (1, 0, 0)], [(1, 0, 0)]] = true := by decide +kernel
theorem fk8_e : findT ([⟨3, false, 2, 0⟩, ⟨3, false, 2, 0⟩]) = .cons 2 ⟨3, false, 2, 0⟩ .nil .nil := (find_tab (by simp) fk8_k).trans rfl
theorem fk8_f (w : World) (hg : Glob w) : Calls Tryz.prog 18 #[.string ⟨#[107, 102, 50, 32, 107, 102, 50]⟩, .string ⟨#[107, 102, 50, 42, 50]⟩, .int .i64 1] w fun e w' => e = .returned (.bool true) ∧ Ext w w' :=
  finds_c (s := [107, 102, 50, 32, 107, 102, 50]) (T := [107, 102, 50, 42, 50]) (k := 1) 2 fk8_p rfl (by omega) (by rw [fk8_e]; decide +kernel) (by decide) (by rw [fk8_e]; rfl) hg
theorem fk9_p : parseL [107, 32, 112, 32, 121, 111, 32, 107, 32, 112] = some ([⟨1, false, 0, 0⟩, ⟨1, true, 0, 0⟩, ⟨2, false, 0, 0⟩, ⟨1, false, 0, 0⟩, ⟨1, true, 0, 0⟩]) := by decide +kernel
theorem fk9_k : okTab [⟨1, false, 0, 0⟩, ⟨1, true, 0, 0⟩, ⟨2, false, 0, 0⟩, ⟨1, false, 0, 0⟩, ⟨1, true, 0, 0⟩] [[(1, 0, 0), (1, 0, 0), (1, 0, 0), (1, 0, 0), (1, 0, 0)], [(2, 0, 1), (2, 0, 1), (2, 0, 1), (2, 0, 1)], [(3, 0, 2), (3, 0, 2), (3, 0, 2)], [(4, 0, 3), (4, 0, 3)], [(5, 0, 4)]] = true := by decide +kernel
theorem fk9_e : findT ([⟨1, false, 0, 0⟩, ⟨1, true, 0, 0⟩, ⟨2, false, 0, 0⟩, ⟨1, false, 0, 0⟩, ⟨1, true, 0, 0⟩]) = .cons 1 ⟨1, false, 0, 0⟩ .nil (.cons 1 ⟨1, true, 0, 0⟩ .nil (.cons 1 ⟨2, false, 0, 0⟩ .nil (.cons 1 ⟨1, false, 0, 0⟩ .nil (.cons 1 ⟨1, true, 0, 0⟩ .nil .nil)))) := (find_tab (by simp) fk9_k).trans rfl
theorem fk9_f (w : World) (hg : Glob w) : Calls Tryz.prog 18 #[.string ⟨#[107, 32, 112, 32, 121, 111, 32, 107, 32, 112]⟩, .string ⟨#[107, 32, 112, 32, 121, 111, 32, 107, 32, 112]⟩, .int .i64 5] w fun e w' => e = .returned (.bool true) ∧ Ext w w' :=
  finds_c (s := [107, 32, 112, 32, 121, 111, 32, 107, 32, 112]) (T := [107, 32, 112, 32, 121, 111, 32, 107, 32, 112]) (k := 5) 5 fk9_p rfl (by omega) (by rw [fk9_e]; decide +kernel) (by decide) (by rw [fk9_e]; rfl) hg
theorem rf0_f (w : World) (hg : Glob w) : Calls Tryz.prog 20 #[.string ⟨#[40, 40, 40, 40, 40, 40, 40, 40, 107, 41, 41, 41, 41, 41, 41, 41, 41]⟩] w fun e w' => e = .returned (.bool true) ∧ Ext w w' :=
  refused_c (s := [40, 40, 40, 40, 40, 40, 40, 40, 107, 41, 41, 41, 41, 41, 41, 41, 41]) (by decide +kernel) (by decide) (by unfold Asc; decide) hg
theorem rf1_f (w : World) (hg : Glob w) : Calls Tryz.prog 20 #[.string ⟨#[40, 107]⟩] w fun e w' => e = .returned (.bool true) ∧ Ext w w' :=
  refused_c (s := [40, 107]) (by decide +kernel) (by decide) (by unfold Asc; decide) hg
theorem rf2_f (w : World) (hg : Glob w) : Calls Tryz.prog 20 #[.string ⟨#[107, 41]⟩] w fun e w' => e = .returned (.bool true) ∧ Ext w w' :=
  refused_c (s := [107, 41]) (by decide +kernel) (by decide) (by unfold Asc; decide) hg
theorem rf3_f (w : World) (hg : Glob w) : Calls Tryz.prog 20 #[.string ⟨#[40, 41]⟩] w fun e w' => e = .returned (.bool true) ∧ Ext w w' :=
  refused_c (s := [40, 41]) (by decide +kernel) (by decide) (by unfold Asc; decide) hg
theorem rf4_f (w : World) (hg : Glob w) : Calls Tryz.prog 20 #[.string ⟨#[107, 42, 49]⟩] w fun e w' => e = .returned (.bool true) ∧ Ext w w' :=
  refused_c (s := [107, 42, 49]) (by decide +kernel) (by decide) (by unfold Asc; decide) hg
theorem rf5_f (w : World) (hg : Glob w) : Calls Tryz.prog 20 #[.string ⟨#[107, 42, 48, 49]⟩] w fun e w' => e = .returned (.bool true) ∧ Ext w w' :=
  refused_c (s := [107, 42, 48, 49]) (by decide +kernel) (by decide) (by unfold Asc; decide) hg
theorem rf6_f (w : World) (hg : Glob w) : Calls Tryz.prog 20 #[.string ⟨#[107, 42, 50, 48, 49]⟩] w fun e w' => e = .returned (.bool true) ∧ Ext w w' :=
  refused_c (s := [107, 42, 50, 48, 49]) (by decide +kernel) (by decide) (by unfold Asc; decide) hg
theorem rf7_f (w : World) (hg : Glob w) : Calls Tryz.prog 20 #[.string ⟨#[107, 50]⟩] w fun e w' => e = .returned (.bool true) ∧ Ext w w' :=
  refused_c (s := [107, 50]) (by decide +kernel) (by decide) (by unfold Asc; decide) hg
theorem rf8_f (w : World) (hg : Glob w) : Calls Tryz.prog 20 #[.string ⟨#[107, 32, 32, 112]⟩] w fun e w' => e = .returned (.bool true) ∧ Ext w w' :=
  refused_c (s := [107, 32, 32, 112]) (by decide +kernel) (by decide) (by unfold Asc; decide) hg
theorem rf9_f (w : World) (hg : Glob w) : Calls Tryz.prog 20 #[.string ⟨#[32, 107]⟩] w fun e w' => e = .returned (.bool true) ∧ Ext w w' :=
  refused_c (s := [32, 107]) (by decide +kernel) (by decide) (by unfold Asc; decide) hg
theorem rf10_f (w : World) (hg : Glob w) : Calls Tryz.prog 20 #[.string ⟨#[107, 32]⟩] w fun e w' => e = .returned (.bool true) ∧ Ext w w' :=
  refused_c (s := [107, 32]) (by decide +kernel) (by decide) (by unfold Asc; decide) hg
theorem rf11_f (w : World) (hg : Glob w) : Calls Tryz.prog 20 #[.string ⟨#[40, 32, 107, 41]⟩] w fun e w' => e = .returned (.bool true) ∧ Ext w w' :=
  refused_c (s := [40, 32, 107, 41]) (by decide +kernel) (by decide) (by unfold Asc; decide) hg
theorem rf12_f (w : World) (hg : Glob w) : Calls Tryz.prog 20 #[.string ⟨#[107, 42, 50, 42, 50]⟩] w fun e w' => e = .returned (.bool true) ∧ Ext w w' :=
  refused_c (s := [107, 42, 50, 42, 50]) (by decide +kernel) (by decide) (by unfold Asc; decide) hg
theorem rf13_f (w : World) (hg : Glob w) : Calls Tryz.prog 20 #[.string ⟨#[40, 107, 41, 112]⟩] w fun e w' => e = .returned (.bool true) ∧ Ext w w' :=
  refused_c (s := [40, 107, 41, 112]) (by decide +kernel) (by decide) (by unfold Asc; decide) hg
theorem rf14_f (w : World) (hg : Glob w) : Calls Tryz.prog 20 #[.string ⟨#[40, 107, 32, 112, 41, 42, 49, 48, 49]⟩] w fun e w' => e = .returned (.bool true) ∧ Ext w w' :=
  refused_c (s := [40, 107, 32, 112, 41, 42, 49, 48, 49]) (by decide +kernel) (by decide) (by unfold Asc; decide) hg
theorem rf15_f (w : World) (hg : Glob w) : Calls Tryz.prog 20 #[.string ⟨#[121, 111, 51]⟩] w fun e w' => e = .returned (.bool true) ∧ Ext w w' :=
  refused_c (s := [121, 111, 51]) (by decide +kernel) (by decide) (by unfold Asc; decide) hg
theorem rf16_f (w : World) (hg : Glob w) : Calls Tryz.prog 20 #[.string ⟨#[111, 110, 50, 42]⟩] w fun e w' => e = .returned (.bool true) ∧ Ext w w' :=
  refused_c (s := [111, 110, 50, 42]) (by decide +kernel) (by decide) (by unfold Asc; decide) hg
theorem ra0_f (w : World) (hg : Glob w) : Calls Tryz.prog 19 #[.string ⟨#[107]⟩, .int .i64 1] w fun e w' => e = .returned (.bool true) ∧ Ext w w' :=
  read_c (s := [107]) (t := .cons 1 ⟨1, false, 0, 0⟩ .nil .nil) (k := 1) (by decide +kernel) (by decide +kernel) (by decide) rfl (by unfold Asc; decide) hg
theorem ra1_f (w : World) (hg : Glob w) : Calls Tryz.prog 19 #[.string ⟨#[]⟩, .int .i64 0] w fun e w' => e = .returned (.bool true) ∧ Ext w w' :=
  read_c (s := []) (t := .nil) (k := 0) (by decide +kernel) (by decide +kernel) (by decide) rfl (by unfold Asc; decide) hg
theorem ra2_f (w : World) (hg : Glob w) : Calls Tryz.prog 19 #[.string ⟨#[40, 107, 32, 40, 112, 32, 121, 111, 41, 42, 50, 41, 42, 51, 32, 107, 120, 49, 47, 50, 42, 53]⟩, .int .i64 6] w fun e w' => e = .returned (.bool true) ∧ Ext w w' :=
  read_c (s := [40, 107, 32, 40, 112, 32, 121, 111, 41, 42, 50, 41, 42, 51, 32, 107, 120, 49, 47, 50, 42, 53]) (t := .cons 3 ⟨0, false, 0, 0⟩ (.cons 1 ⟨1, false, 0, 0⟩ .nil (.cons 2 ⟨0, false, 0, 0⟩ (.cons 1 ⟨1, true, 0, 0⟩ .nil (.cons 1 ⟨2, false, 0, 0⟩ .nil .nil)) .nil)) (.cons 5 ⟨6, false, 1, 2⟩ .nil .nil)) (k := 6) (by decide +kernel) (by decide +kernel) (by decide) rfl (by unfold Asc; decide) hg
theorem ra3_f (w : World) (hg : Glob w) : Calls Tryz.prog 19 #[.string ⟨#[40, 40, 40, 40, 40, 40, 40, 107, 41, 41, 41, 41, 41, 41, 41]⟩, .int .i64 8] w fun e w' => e = .returned (.bool true) ∧ Ext w w' :=
  read_c (s := [40, 40, 40, 40, 40, 40, 40, 107, 41, 41, 41, 41, 41, 41, 41]) (t := .cons 1 ⟨0, false, 0, 0⟩ (.cons 1 ⟨0, false, 0, 0⟩ (.cons 1 ⟨0, false, 0, 0⟩ (.cons 1 ⟨0, false, 0, 0⟩ (.cons 1 ⟨0, false, 0, 0⟩ (.cons 1 ⟨0, false, 0, 0⟩ (.cons 1 ⟨0, false, 0, 0⟩ (.cons 1 ⟨1, false, 0, 0⟩ .nil .nil) .nil) .nil) .nil) .nil) .nil) .nil) .nil) (k := 8) (by decide +kernel) (by decide +kernel) (by decide) rfl (by unfold Asc; decide) hg
theorem deep8_f (w : World) : Calls Tryz.prog 22 #[.int .i64 8] w fun e w' => ∃ b : Nat, e = .returned (.slice (some ⟨b, 0, none⟩) 1 1) ∧ Ext w w' ∧ Tv w' (some ⟨b, 0, none⟩) 1 (deepT 7) := mkdeep_any 8 (by decide) (by decide) w
theorem deep9_f (w : World) : Calls Tryz.prog 22 #[.int .i64 9] w fun e w' => ∃ b : Nat, e = .returned (.slice (some ⟨b, 0, none⟩) 1 1) ∧ Ext w w' ∧ Tv w' (some ⟨b, 0, none⟩) 1 (deepT 8) := mkdeep_any 9 (by decide) (by decide) w
theorem deep1_f (w : World) : Calls Tryz.prog 22 #[.int .i64 1] w fun e w' => ∃ b : Nat, e = .returned (.slice (some ⟨b, 0, none⟩) 1 1) ∧ Ext w w' ∧ Tv w' (some ⟨b, 0, none⟩) 1 (deepT 0) := mkdeep_any 1 (by decide) (by decide) w
def zT : Nat → Tms
  | 0 => .nil
  | n + 1 => .cons 0 st0 .nil (zT n)
theorem zT_cnt : ∀ n, (zT n).cnt = n := by
  intro n
  induction n with
  | zero => rfl
  | succ n ih => simp [zT, Tms.cnt, ih]
abbrev zcell : List Value := [.int .i64 0, .int .u8 0, .bool false, .int .i64 0, .int .i64 0, .slice none 0 0]
theorem info_tmz : (Tryz.prog.info? 48).map (fun i => (i.zero, i.size, i.bytes)) = some (some (.agg #[.int .i64 0, .int .u8 0, .bool false, .int .i64 0, .int .i64 0, .slice none 0 0]), 6, 56) := by kernel_rfl
theorem made_tms (n : Nat) : (madeCells zcell.toArray (n * 6)).toList = (List.replicate n zcell).flatten := by
  induction n with
  | zero => simp [madeCells]
  | succ n ih =>
    rw [List.replicate_succ', List.flatten_append, ← ih]
    unfold madeCells
    rw [show (n + 1) * 6 = n * 6 + 1 + 1 + 1 + 1 + 1 + 1 by omega]
    simp only [Array.toList_map, Array.toList_range, List.range_succ, List.map_append, List.append_assoc, List.map_cons, List.map_nil]
    congr 1
    have e0 : n * 6 % 6 = 0 := by omega
    have e1 : (n * 6 + 1) % 6 = 1 := by omega
    have e2 : (n * 6 + 1 + 1) % 6 = 2 := by omega
    have e3 : (n * 6 + 1 + 1 + 1) % 6 = 3 := by omega
    have e4 : (n * 6 + 1 + 1 + 1 + 1) % 6 = 4 := by omega
    have e5 : (n * 6 + 1 + 1 + 1 + 1 + 1) % 6 = 5 := by omega
    show [zcell.toArray[n * 6 % 6]!] ++ ([zcell.toArray[(n * 6 + 1) % 6]!] ++ ([zcell.toArray[(n * 6 + 1 + 1) % 6]!] ++ ([zcell.toArray[(n * 6 + 1 + 1 + 1) % 6]!] ++ ([zcell.toArray[(n * 6 + 1 + 1 + 1 + 1) % 6]!] ++ [zcell.toArray[(n * 6 + 1 + 1 + 1 + 1 + 1) % 6]!])))) = _
    rw [e0, e1, e2, e3, e4, e5]
    rfl
theorem rwk_z (w : World) (K : Nat → Prop) : ∀ n, RwK w K (zT n) (List.replicate n zcell).flatten := by
  intro n
  induction n with
  | zero => rfl
  | succ n ih => exact ⟨none, 0, 0, _, by rw [List.replicate_succ, List.flatten_cons]; rfl, by decide, TvK.none_ _ _ _, ih⟩
theorem tv_made {w : World} {B n c : Nat} {e : TypeId} {A : Option Addr} (h : w.ownsRow B e 6 (.slice A n c) n (madeCells #[.int .i64 0, .int .u8 0, .bool false, .int .i64 0, .int .i64 0, .slice none 0 0] (n * 6)).toList) (hn : n ≤ 1000 := by omega) : Tv w A n (zT n) := by
  rw [show (#[.int .i64 0, .int .u8 0, .bool false, .int .i64 0, .int .i64 0, .slice none 0 0] : Array Value) = zcell.toArray from rfl, made_tms] at h
  obtain ⟨A', c', e1, hv⟩ := own_tms (show OwnT w B e (.slice A n c) n (zT n) from ⟨zT_cnt n, _, h, rwk_z _ _ _⟩) (by omega)
  cases e1
  exact hv.tv
theorem made_sts (n : Nat) : (madeCells #[Value.int .u8 0, .bool false, .int .i64 0, .int .i64 0] (n * 4)).toList = (List.replicate n st0).flatMap shSt.cells := by
  induction n with
  | zero => simp [madeCells]
  | succ n ih =>
    rw [List.replicate_succ', List.flatMap_append, ← ih]
    unfold madeCells
    rw [show (n + 1) * 4 = n * 4 + 1 + 1 + 1 + 1 by omega]
    simp only [Array.toList_map, Array.toList_range, List.range_succ, List.map_append, List.append_assoc, List.map_cons, List.map_nil]
    congr 1
    have e0 : n * 4 % 4 = 0 := by omega
    have e1 : (n * 4 + 1) % 4 = 1 := by omega
    have e2 : (n * 4 + 1 + 1) % 4 = 2 := by omega
    have e3 : (n * 4 + 1 + 1 + 1) % 4 = 3 := by omega
    show [#[Value.int .u8 0, .bool false, .int .i64 0, .int .i64 0][n * 4 % 4]!] ++ ([#[Value.int .u8 0, .bool false, .int .i64 0, .int .i64 0][(n * 4 + 1) % 4]!] ++ ([#[Value.int .u8 0, .bool false, .int .i64 0, .int .i64 0][(n * 4 + 1 + 1) % 4]!] ++ [#[Value.int .u8 0, .bool false, .int .i64 0, .int .i64 0][(n * 4 + 1 + 1 + 1) % 4]!])) = _
    rw [e0, e1, e2, e3]
    rfl
theorem vec_made {w : World} {B n c : Nat} {e : TypeId} {A : Option Addr} (h : w.ownsRow B e 4 (.slice A n c) n (madeCells #[.int .u8 0, .bool false, .int .i64 0, .int .i64 0] (n * 4)).toList) : Vec shSt w A n (List.replicate n st0) := by
  rw [made_sts] at h
  obtain ⟨A', c', e1, hv, -⟩ := own_vecB (show OwnV shSt w B e (.slice A n c) n (List.replicate n st0) from h)
  cases e1
  exact hv
theorem tv_lit2 {w : World} {t : TypeId} {N M : Int} {c d : St} {h : Nat} {cs : Array Value} (hh : h = w.heap.size) (hc : cs = #[.int .i64 N, .int .u8 c.k, .bool c.p, .int .i64 c.a, .int .i64 c.b, .slice none 0 0, .int .i64 M, .int .u8 d.k, .bool d.p, .int .i64 d.a, .int .i64 d.b, .slice none 0 0]) (hk : 0 ≤ c.k ∧ c.k ≤ 255) (hk2 : 0 ≤ d.k ∧ d.k ≤ 255) :
    Tv (w.alloc (.cells cs t)) (some ⟨h, 0, none⟩) 2 (.cons N c .nil (.cons M d .nil .nil)) := by
  subst hh
  subst hc
  refine ⟨rfl, by unfold maxLen; decide, fun _ => ⟨w.heap.size, 0, rfl, by simp, none, 0, 0, ?_, ?_, ?_, ?_, ?_, ?_, hk, rfl, by unfold maxLen; decide, fun h => absurd h (by decide), none, 0, 0, ?_, ?_, ?_, ?_, ?_, ?_, hk2, rfl, by unfold maxLen; decide, fun h => absurd h (by decide), trivial⟩⟩
  all_goals simp [go_sem]
theorem vec_two {w : World} {t : TypeId} {h : Nat} {cs : Array Value} (hh : h = w.heap.size) (hc : cs = #[.int .u8 1, .bool false, .int .i64 0, .int .i64 0, .int .u8 0, .bool false, .int .i64 0, .int .i64 0]) :
    Vec shSt (w.alloc (.cells cs t)) (some ⟨h, 0, none⟩) 2 [⟨1, false, 0, 0⟩, ⟨0, false, 0, 0⟩] := Vec.lit2 hh hc rfl
theorem check_c {t : Tms} {x : Int} {A : Option Addr} {n cap : Nat} {w : World} (hv : Tv w A n t) (hs : t.size ≤ 5000) (hk : tchkE t = x) :
    Calls Tryz.prog 21 #[.slice A n cap] w fun e w' => e = .returned (.int .i64 x) ∧ Ext w w' := by
  have h := tcheck_any t hs A n cap w hv
  rw [hk] at h
  exact h
theorem findx_c {l : List St} {x : Int} {A : Option Addr} {n c : Nat} {w : World} (hv : Vec shSt w A n l) (hb : Bytes l) (hn : n ≤ maxLen) (hE : findE l = x)  :
    Calls Tryz.prog 23 #[.slice A n c] w fun e w' => ∃ (A' : Option Addr) (n' c' : Nat), e = .returned (.tuple #[.slice A' n' c', .int .i64 x]) ∧ Ext w w' := by
  refine (find_any n c A l w hv hb hn).mono ?_
  rintro e w' ⟨A', c', rfl, h1, -⟩
  rw [hE]
  exact ⟨A', _, c', rfl, h1⟩
theorem expn_c {A : Option Addr} {cap : Nat} (w : World) :
    Calls Tryz.prog 24 #[.slice A 0 cap] w fun e w' => ∃ (A' : Option Addr) (c' : Nat), e = .returned (.tuple #[.slice A' 0 c', .int .i64 0]) ∧ Ext w w' := by
  refine (texp_any .nil (by decide) A 0 cap w (Tv.none_ _ _)).mono ?_
  rintro e w' ⟨A', n', c', rfl, h1, h2, -⟩
  have hk : tchkE .nil = 0 := by decide +kernel
  rw [if_pos hk] at h2
  obtain rfl : n' = 0 := h2.1.symm
  rw [hk]
  exact ⟨A', c', rfl, h1⟩
theorem ck3_f (w : World) (t : TypeId) : Calls Tryz.prog 21 #[.slice (some ⟨w.heap.size, 0, none⟩) 2 2] (w.alloc (.cells #[.int .i64 200, .int .u8 1, .bool false, .int .i64 0, .int .i64 0, .slice none 0 0, .int .i64 1, .int .u8 1, .bool false, .int .i64 0, .int .i64 0, .slice none 0 0] t)) fun e w' => e = .returned (.int .i64 4) ∧ Ext (w.alloc (.cells #[.int .i64 200, .int .u8 1, .bool false, .int .i64 0, .int .i64 0, .slice none 0 0, .int .i64 1, .int .u8 1, .bool false, .int .i64 0, .int .i64 0, .slice none 0 0] t)) w' :=
  check_c (t := (.cons 200 ⟨1, false, 0, 0⟩ .nil (.cons 1 ⟨1, false, 0, 0⟩ .nil .nil))) (tv_lit2 (c := ⟨1, false, 0, 0⟩) (d := ⟨1, false, 0, 0⟩) rfl rfl (by decide) (by decide)) (by decide) (by decide +kernel)
theorem ck4_f (w : World) (t : TypeId) : Calls Tryz.prog 21 #[.slice (some ⟨w.heap.size, 0, none⟩) 1 1] (w.alloc (.cells #[.int .i64 0, .int .u8 1, .bool false, .int .i64 0, .int .i64 0, .slice none 0 0] t)) fun e w' => e = .returned (.int .i64 8) ∧ Ext (w.alloc (.cells #[.int .i64 0, .int .u8 1, .bool false, .int .i64 0, .int .i64 0, .slice none 0 0] t)) w' :=
  check_c (t := (.cons 0 ⟨1, false, 0, 0⟩ .nil .nil)) (tv_lit (c := ⟨1, false, 0, 0⟩) (Tv.none_ _ _) rfl rfl (by decide)) (by decide) (by decide +kernel)
theorem ck5_f (w : World) (t : TypeId) : Calls Tryz.prog 21 #[.slice (some ⟨w.heap.size, 0, none⟩) 1 1] (w.alloc (.cells #[.int .i64 201, .int .u8 1, .bool false, .int .i64 0, .int .i64 0, .slice none 0 0] t)) fun e w' => e = .returned (.int .i64 8) ∧ Ext (w.alloc (.cells #[.int .i64 201, .int .u8 1, .bool false, .int .i64 0, .int .i64 0, .slice none 0 0] t)) w' :=
  check_c (t := (.cons 201 ⟨1, false, 0, 0⟩ .nil .nil)) (tv_lit (c := ⟨1, false, 0, 0⟩) (Tv.none_ _ _) rfl rfl (by decide)) (by decide) (by decide +kernel)
theorem ck6_f (w : World) (t : TypeId) : Calls Tryz.prog 21 #[.slice (some ⟨w.heap.size, 0, none⟩) 1 1] (w.alloc (.cells #[.int .i64 1, .int .u8 0, .bool false, .int .i64 0, .int .i64 0, .slice none 0 0] t)) fun e w' => e = .returned (.int .i64 8) ∧ Ext (w.alloc (.cells #[.int .i64 1, .int .u8 0, .bool false, .int .i64 0, .int .i64 0, .slice none 0 0] t)) w' :=
  check_c (t := (.cons 1 ⟨0, false, 0, 0⟩ .nil .nil)) (tv_lit (c := ⟨0, false, 0, 0⟩) (Tv.none_ _ _) rfl rfl (by decide)) (by decide) (by decide +kernel)
section
variable {P : Program} {o : Oper} {a : Act} {K : Act → World → Prop} {Q : Exit → Act → World → Prop} {wx : World}
theorem upon_make_own (T e : TypeId) (z : Value) (size bytes : Nat) (v : Int) (n B : Nat) (hv : v = (n : Int)) (ht : P.underlying T = some (.slice e)) (hinfo : (P.info? e).map (fun i => (i.zero, i.size, i.bytes)) = some (some z, size, bytes))
    (hn : n ≤ 1000000) (hby : bytes ≤ 1000) (hB : B ≤ wx.heap.size)
    (h : ∀ w1, Hid (w1.ownsRow B e size (.slice (some ⟨wx.heap.size, 0, none⟩) n n) n (madeCells z.cells (n * size)).toList) → Hid (Ext wx w1) → wx.heap.size < w1.heap.size → K (a.put o.dst (.slice (some ⟨wx.heap.size, 0, none⟩) n n)) w1) :
    Oper.upon P o a K Q ((Sem.run P (Instr.makeSlice T (.int .i64 v) (.int .i64 v)) wx).andThen fun a w' => Result.ok (Next.value a) w') := by
  subst hv
  obtain ⟨i0, hi, hz0, hz1, hz2⟩ := info_parts hinfo
  obtain ⟨w', hrun, r1, r2⟩ := run_make_full (P := P) wx B T e i0 z size ht hi hz0 hz1 .i64 .i64 n (by rw [hz2]; have := Nat.mul_le_mul hby hn; omega) (by unfold maxLen; omega) hB
  rw [hrun]
  refine h w' (Lib.hid r1) (Lib.hid (But.ext_none r2)) ?_
  obtain ⟨_, h2⟩ := own_blk r1 wx.heap.size (by simp [Value.ownBlock])
  exact h2
theorem gate_make {T : TypeId} {x y : Value} {f : Value → World → Result Next} (h : Oper.upon P o a K Q ((Sem.run P (Instr.makeSlice T x y) wx).andThen f)) : Oper.upon P o a K Q ((Sem.run P (Instr.makeSlice T x y) wx).andThen f) := h
end
def KnitAt (w : World) (g : Nat) : Prop := w.cell? ⟨g, 0, none⟩ = some (.int .u8 1) ∧ w.cell? ⟨g, 1, none⟩ = some (.bool false) ∧ w.cell? ⟨g, 2, none⟩ = some (.int .i64 0) ∧ w.cell? ⟨g, 3, none⟩ = some (.int .i64 0) ∧ g < w.heap.size
theorem KnitAt.mk_ {t : TypeId} (w : World) : KnitAt (w.alloc (.cells #[.int .u8 1, .bool false, .int .i64 0, .int .i64 0] t)) w.heap.size := by
  refine ⟨?_, ?_, ?_, ?_, by simp⟩
  all_goals simp [go_sem]
theorem KnitAt.ext {w w' : World} {g : Nat} (h : KnitAt w g) (hb : Ext w w') : KnitAt w' g := by
  obtain ⟨h0, h1, h2, h3, h4⟩ := h
  obtain ⟨hc, hf, hz⟩ := hb.facts
  exact ⟨(hc _ _ h4).trans h0, (hc _ _ h4).trans h1, (hc _ _ h4).trans h2, (hc _ _ h4).trans h3, hz _ h4⟩
set_option maxHeartbeats 8000000 in
theorem shortestNames_walk (w : World) (hg : Glob w) : Calls Tryz.prog 7 #[] w fun e w' => e = .returned (.bool true) ∧ Ext w w' := by
  have HG := Lib.hid hg
  have HB := Lib.hid (Ext.refl w)
  clear hg
  have K1 := Lib.hid (show tchkE (deepT 7) = 0 by decide +kernel)
  have K2 := Lib.hid (show tchkE (deepT 8) = 4 by decide +kernel)
  have K3 := Lib.hid (show tchkE (.cons 200 ⟨1, false, 0, 0⟩ .nil (.cons 1 ⟨1, false, 0, 0⟩ .nil .nil)) = 4 by decide +kernel)
  have K4 := Lib.hid (show tchkE (.cons 0 ⟨1, false, 0, 0⟩ .nil .nil) = 8 by decide +kernel)
  have K5 := Lib.hid (show tchkE (.cons 201 ⟨1, false, 0, 0⟩ .nil .nil) = 8 by decide +kernel)
  have K6 := Lib.hid (show tchkE (.cons 1 ⟨0, false, 0, 0⟩ .nil .nil) = 8 by decide +kernel)
  have K7 := Lib.hid (show tchkE (.cons 1 ⟨1, false, 0, 0⟩ (deepT 0) .nil) = 8 by decide +kernel)
  have K8 := Lib.hid (show tchkE (zT 201) = 4 by decide +kernel)
  have K9 := Lib.hid (show tchkE (zT 200) = 8 by decide +kernel)
  have K10 := Lib.hid (show tchkE .nil = 0 by decide +kernel)
  have FE1 := Lib.hid (show findE (List.replicate 61 st0) = 4 by decide +kernel)
  have FE2 := Lib.hid (show findE [⟨1, false, 0, 0⟩, ⟨0, false, 0, 0⟩] = 8 by decide +kernel)
  have HB3 := Lib.hid (show Bytes (List.replicate 61 st0) from bytes_of fun x hy => by rw [List.eq_of_mem_replicate hy]; decide)
  have HB4 := Lib.hid (show Bytes [⟨1, false, 0, 0⟩, ⟨0, false, 0, 0⟩] from bytes_of fun x hx => by
    rcases List.mem_cons.1 hx with rfl | hx
    · decide
    · rcases List.mem_cons.1 hx with rfl | hx
      · decide
      · cases hx)
  go_enter Tryz.func7, Tryz.ntmps7
  go_upto_region 4 with (first
    | (go_at_call 18; (first | ((with_reducible refine (fk0_f _ (HG.out.ext (HB.out.trans (by repeat (first | exact Ext.refl _ | assumption | refine Ext.alloc ?_ _ | refine Ext.drew ?_ | refine Ext.drewN ?_ _ | refine Ext.trans ?_ (by assumption)))))).mono ?_); rintro e w9 ⟨rfl, hq⟩; replace HB := Lib.hid (HB.out.trans (Ext.trans (by repeat (first | exact Ext.refl _ | assumption | refine Ext.alloc ?_ _ | refine Ext.drew ?_ | refine Ext.drewN ?_ _ | refine Ext.trans ?_ (by assumption))) hq)); clear hq) | ((with_reducible refine (fk1_f _ (HG.out.ext (HB.out.trans (by repeat (first | exact Ext.refl _ | assumption | refine Ext.alloc ?_ _ | refine Ext.drew ?_ | refine Ext.drewN ?_ _ | refine Ext.trans ?_ (by assumption)))))).mono ?_); rintro e w9 ⟨rfl, hq⟩; replace HB := Lib.hid (HB.out.trans (Ext.trans (by repeat (first | exact Ext.refl _ | assumption | refine Ext.alloc ?_ _ | refine Ext.drew ?_ | refine Ext.drewN ?_ _ | refine Ext.trans ?_ (by assumption))) hq)); clear hq) | ((with_reducible refine (fk2_f _ (HG.out.ext (HB.out.trans (by repeat (first | exact Ext.refl _ | assumption | refine Ext.alloc ?_ _ | refine Ext.drew ?_ | refine Ext.drewN ?_ _ | refine Ext.trans ?_ (by assumption)))))).mono ?_); rintro e w9 ⟨rfl, hq⟩; replace HB := Lib.hid (HB.out.trans (Ext.trans (by repeat (first | exact Ext.refl _ | assumption | refine Ext.alloc ?_ _ | refine Ext.drew ?_ | refine Ext.drewN ?_ _ | refine Ext.trans ?_ (by assumption))) hq)); clear hq) | ((with_reducible refine (fk3_f _ (HG.out.ext (HB.out.trans (by repeat (first | exact Ext.refl _ | assumption | refine Ext.alloc ?_ _ | refine Ext.drew ?_ | refine Ext.drewN ?_ _ | refine Ext.trans ?_ (by assumption)))))).mono ?_); rintro e w9 ⟨rfl, hq⟩; replace HB := Lib.hid (HB.out.trans (Ext.trans (by repeat (first | exact Ext.refl _ | assumption | refine Ext.alloc ?_ _ | refine Ext.drew ?_ | refine Ext.drewN ?_ _ | refine Ext.trans ?_ (by assumption))) hq)); clear hq) | ((with_reducible refine (fk4_f _ (HG.out.ext (HB.out.trans (by repeat (first | exact Ext.refl _ | assumption | refine Ext.alloc ?_ _ | refine Ext.drew ?_ | refine Ext.drewN ?_ _ | refine Ext.trans ?_ (by assumption)))))).mono ?_); rintro e w9 ⟨rfl, hq⟩; replace HB := Lib.hid (HB.out.trans (Ext.trans (by repeat (first | exact Ext.refl _ | assumption | refine Ext.alloc ?_ _ | refine Ext.drew ?_ | refine Ext.drewN ?_ _ | refine Ext.trans ?_ (by assumption))) hq)); clear hq) | ((with_reducible refine (fk5_f _ (HG.out.ext (HB.out.trans (by repeat (first | exact Ext.refl _ | assumption | refine Ext.alloc ?_ _ | refine Ext.drew ?_ | refine Ext.drewN ?_ _ | refine Ext.trans ?_ (by assumption)))))).mono ?_); rintro e w9 ⟨rfl, hq⟩; replace HB := Lib.hid (HB.out.trans (Ext.trans (by repeat (first | exact Ext.refl _ | assumption | refine Ext.alloc ?_ _ | refine Ext.drew ?_ | refine Ext.drewN ?_ _ | refine Ext.trans ?_ (by assumption))) hq)); clear hq) | ((with_reducible refine (fk6_f _ (HG.out.ext (HB.out.trans (by repeat (first | exact Ext.refl _ | assumption | refine Ext.alloc ?_ _ | refine Ext.drew ?_ | refine Ext.drewN ?_ _ | refine Ext.trans ?_ (by assumption)))))).mono ?_); rintro e w9 ⟨rfl, hq⟩; replace HB := Lib.hid (HB.out.trans (Ext.trans (by repeat (first | exact Ext.refl _ | assumption | refine Ext.alloc ?_ _ | refine Ext.drew ?_ | refine Ext.drewN ?_ _ | refine Ext.trans ?_ (by assumption))) hq)); clear hq) | ((with_reducible refine (fk7_f _ (HG.out.ext (HB.out.trans (by repeat (first | exact Ext.refl _ | assumption | refine Ext.alloc ?_ _ | refine Ext.drew ?_ | refine Ext.drewN ?_ _ | refine Ext.trans ?_ (by assumption)))))).mono ?_); rintro e w9 ⟨rfl, hq⟩; replace HB := Lib.hid (HB.out.trans (Ext.trans (by repeat (first | exact Ext.refl _ | assumption | refine Ext.alloc ?_ _ | refine Ext.drew ?_ | refine Ext.drewN ?_ _ | refine Ext.trans ?_ (by assumption))) hq)); clear hq) | ((with_reducible refine (fk8_f _ (HG.out.ext (HB.out.trans (by repeat (first | exact Ext.refl _ | assumption | refine Ext.alloc ?_ _ | refine Ext.drew ?_ | refine Ext.drewN ?_ _ | refine Ext.trans ?_ (by assumption)))))).mono ?_); rintro e w9 ⟨rfl, hq⟩; replace HB := Lib.hid (HB.out.trans (Ext.trans (by repeat (first | exact Ext.refl _ | assumption | refine Ext.alloc ?_ _ | refine Ext.drew ?_ | refine Ext.drewN ?_ _ | refine Ext.trans ?_ (by assumption))) hq)); clear hq) | (go_loud ((with_reducible refine (fk9_f _ (HG.out.ext (HB.out.trans (by repeat (first | exact Ext.refl _ | assumption | refine Ext.alloc ?_ _ | refine Ext.drew ?_ | refine Ext.drewN ?_ _ | refine Ext.trans ?_ (by assumption)))))).mono ?_); rintro e w9 ⟨rfl, hq⟩; replace HB := Lib.hid (HB.out.trans (Ext.trans (by repeat (first | exact Ext.refl _ | assumption | refine Ext.alloc ?_ _ | refine Ext.drew ?_ | refine Ext.drewN ?_ _ | refine Ext.trans ?_ (by assumption))) hq)); clear hq))))
    | (go_at_call 19; (first | ((with_reducible refine (ra0_f _ (HG.out.ext (HB.out.trans (by repeat (first | exact Ext.refl _ | assumption | refine Ext.alloc ?_ _ | refine Ext.drew ?_ | refine Ext.drewN ?_ _ | refine Ext.trans ?_ (by assumption)))))).mono ?_); rintro e w9 ⟨rfl, hq⟩; replace HB := Lib.hid (HB.out.trans (Ext.trans (by repeat (first | exact Ext.refl _ | assumption | refine Ext.alloc ?_ _ | refine Ext.drew ?_ | refine Ext.drewN ?_ _ | refine Ext.trans ?_ (by assumption))) hq)); clear hq) | ((with_reducible refine (ra1_f _ (HG.out.ext (HB.out.trans (by repeat (first | exact Ext.refl _ | assumption | refine Ext.alloc ?_ _ | refine Ext.drew ?_ | refine Ext.drewN ?_ _ | refine Ext.trans ?_ (by assumption)))))).mono ?_); rintro e w9 ⟨rfl, hq⟩; replace HB := Lib.hid (HB.out.trans (Ext.trans (by repeat (first | exact Ext.refl _ | assumption | refine Ext.alloc ?_ _ | refine Ext.drew ?_ | refine Ext.drewN ?_ _ | refine Ext.trans ?_ (by assumption))) hq)); clear hq) | ((with_reducible refine (ra2_f _ (HG.out.ext (HB.out.trans (by repeat (first | exact Ext.refl _ | assumption | refine Ext.alloc ?_ _ | refine Ext.drew ?_ | refine Ext.drewN ?_ _ | refine Ext.trans ?_ (by assumption)))))).mono ?_); rintro e w9 ⟨rfl, hq⟩; replace HB := Lib.hid (HB.out.trans (Ext.trans (by repeat (first | exact Ext.refl _ | assumption | refine Ext.alloc ?_ _ | refine Ext.drew ?_ | refine Ext.drewN ?_ _ | refine Ext.trans ?_ (by assumption))) hq)); clear hq) | (go_loud ((with_reducible refine (ra3_f _ (HG.out.ext (HB.out.trans (by repeat (first | exact Ext.refl _ | assumption | refine Ext.alloc ?_ _ | refine Ext.drew ?_ | refine Ext.drewN ?_ _ | refine Ext.trans ?_ (by assumption)))))).mono ?_); rintro e w9 ⟨rfl, hq⟩; replace HB := Lib.hid (HB.out.trans (Ext.trans (by repeat (first | exact Ext.refl _ | assumption | refine Ext.alloc ?_ _ | refine Ext.drew ?_ | refine Ext.drewN ?_ _ | refine Ext.trans ?_ (by assumption))) hq)); clear hq))))
    | (go_at_call 20; (first | ((with_reducible refine (rf0_f _ (HG.out.ext (HB.out.trans (by repeat (first | exact Ext.refl _ | assumption | refine Ext.alloc ?_ _ | refine Ext.drew ?_ | refine Ext.drewN ?_ _ | refine Ext.trans ?_ (by assumption)))))).mono ?_); rintro e w9 ⟨rfl, hq⟩; replace HB := Lib.hid (HB.out.trans (Ext.trans (by repeat (first | exact Ext.refl _ | assumption | refine Ext.alloc ?_ _ | refine Ext.drew ?_ | refine Ext.drewN ?_ _ | refine Ext.trans ?_ (by assumption))) hq)); clear hq) | ((with_reducible refine (rf1_f _ (HG.out.ext (HB.out.trans (by repeat (first | exact Ext.refl _ | assumption | refine Ext.alloc ?_ _ | refine Ext.drew ?_ | refine Ext.drewN ?_ _ | refine Ext.trans ?_ (by assumption)))))).mono ?_); rintro e w9 ⟨rfl, hq⟩; replace HB := Lib.hid (HB.out.trans (Ext.trans (by repeat (first | exact Ext.refl _ | assumption | refine Ext.alloc ?_ _ | refine Ext.drew ?_ | refine Ext.drewN ?_ _ | refine Ext.trans ?_ (by assumption))) hq)); clear hq) | ((with_reducible refine (rf2_f _ (HG.out.ext (HB.out.trans (by repeat (first | exact Ext.refl _ | assumption | refine Ext.alloc ?_ _ | refine Ext.drew ?_ | refine Ext.drewN ?_ _ | refine Ext.trans ?_ (by assumption)))))).mono ?_); rintro e w9 ⟨rfl, hq⟩; replace HB := Lib.hid (HB.out.trans (Ext.trans (by repeat (first | exact Ext.refl _ | assumption | refine Ext.alloc ?_ _ | refine Ext.drew ?_ | refine Ext.drewN ?_ _ | refine Ext.trans ?_ (by assumption))) hq)); clear hq) | ((with_reducible refine (rf3_f _ (HG.out.ext (HB.out.trans (by repeat (first | exact Ext.refl _ | assumption | refine Ext.alloc ?_ _ | refine Ext.drew ?_ | refine Ext.drewN ?_ _ | refine Ext.trans ?_ (by assumption)))))).mono ?_); rintro e w9 ⟨rfl, hq⟩; replace HB := Lib.hid (HB.out.trans (Ext.trans (by repeat (first | exact Ext.refl _ | assumption | refine Ext.alloc ?_ _ | refine Ext.drew ?_ | refine Ext.drewN ?_ _ | refine Ext.trans ?_ (by assumption))) hq)); clear hq) | ((with_reducible refine (rf4_f _ (HG.out.ext (HB.out.trans (by repeat (first | exact Ext.refl _ | assumption | refine Ext.alloc ?_ _ | refine Ext.drew ?_ | refine Ext.drewN ?_ _ | refine Ext.trans ?_ (by assumption)))))).mono ?_); rintro e w9 ⟨rfl, hq⟩; replace HB := Lib.hid (HB.out.trans (Ext.trans (by repeat (first | exact Ext.refl _ | assumption | refine Ext.alloc ?_ _ | refine Ext.drew ?_ | refine Ext.drewN ?_ _ | refine Ext.trans ?_ (by assumption))) hq)); clear hq) | ((with_reducible refine (rf5_f _ (HG.out.ext (HB.out.trans (by repeat (first | exact Ext.refl _ | assumption | refine Ext.alloc ?_ _ | refine Ext.drew ?_ | refine Ext.drewN ?_ _ | refine Ext.trans ?_ (by assumption)))))).mono ?_); rintro e w9 ⟨rfl, hq⟩; replace HB := Lib.hid (HB.out.trans (Ext.trans (by repeat (first | exact Ext.refl _ | assumption | refine Ext.alloc ?_ _ | refine Ext.drew ?_ | refine Ext.drewN ?_ _ | refine Ext.trans ?_ (by assumption))) hq)); clear hq) | ((with_reducible refine (rf6_f _ (HG.out.ext (HB.out.trans (by repeat (first | exact Ext.refl _ | assumption | refine Ext.alloc ?_ _ | refine Ext.drew ?_ | refine Ext.drewN ?_ _ | refine Ext.trans ?_ (by assumption)))))).mono ?_); rintro e w9 ⟨rfl, hq⟩; replace HB := Lib.hid (HB.out.trans (Ext.trans (by repeat (first | exact Ext.refl _ | assumption | refine Ext.alloc ?_ _ | refine Ext.drew ?_ | refine Ext.drewN ?_ _ | refine Ext.trans ?_ (by assumption))) hq)); clear hq) | ((with_reducible refine (rf7_f _ (HG.out.ext (HB.out.trans (by repeat (first | exact Ext.refl _ | assumption | refine Ext.alloc ?_ _ | refine Ext.drew ?_ | refine Ext.drewN ?_ _ | refine Ext.trans ?_ (by assumption)))))).mono ?_); rintro e w9 ⟨rfl, hq⟩; replace HB := Lib.hid (HB.out.trans (Ext.trans (by repeat (first | exact Ext.refl _ | assumption | refine Ext.alloc ?_ _ | refine Ext.drew ?_ | refine Ext.drewN ?_ _ | refine Ext.trans ?_ (by assumption))) hq)); clear hq) | ((with_reducible refine (rf8_f _ (HG.out.ext (HB.out.trans (by repeat (first | exact Ext.refl _ | assumption | refine Ext.alloc ?_ _ | refine Ext.drew ?_ | refine Ext.drewN ?_ _ | refine Ext.trans ?_ (by assumption)))))).mono ?_); rintro e w9 ⟨rfl, hq⟩; replace HB := Lib.hid (HB.out.trans (Ext.trans (by repeat (first | exact Ext.refl _ | assumption | refine Ext.alloc ?_ _ | refine Ext.drew ?_ | refine Ext.drewN ?_ _ | refine Ext.trans ?_ (by assumption))) hq)); clear hq) | ((with_reducible refine (rf9_f _ (HG.out.ext (HB.out.trans (by repeat (first | exact Ext.refl _ | assumption | refine Ext.alloc ?_ _ | refine Ext.drew ?_ | refine Ext.drewN ?_ _ | refine Ext.trans ?_ (by assumption)))))).mono ?_); rintro e w9 ⟨rfl, hq⟩; replace HB := Lib.hid (HB.out.trans (Ext.trans (by repeat (first | exact Ext.refl _ | assumption | refine Ext.alloc ?_ _ | refine Ext.drew ?_ | refine Ext.drewN ?_ _ | refine Ext.trans ?_ (by assumption))) hq)); clear hq) | ((with_reducible refine (rf10_f _ (HG.out.ext (HB.out.trans (by repeat (first | exact Ext.refl _ | assumption | refine Ext.alloc ?_ _ | refine Ext.drew ?_ | refine Ext.drewN ?_ _ | refine Ext.trans ?_ (by assumption)))))).mono ?_); rintro e w9 ⟨rfl, hq⟩; replace HB := Lib.hid (HB.out.trans (Ext.trans (by repeat (first | exact Ext.refl _ | assumption | refine Ext.alloc ?_ _ | refine Ext.drew ?_ | refine Ext.drewN ?_ _ | refine Ext.trans ?_ (by assumption))) hq)); clear hq) | ((with_reducible refine (rf11_f _ (HG.out.ext (HB.out.trans (by repeat (first | exact Ext.refl _ | assumption | refine Ext.alloc ?_ _ | refine Ext.drew ?_ | refine Ext.drewN ?_ _ | refine Ext.trans ?_ (by assumption)))))).mono ?_); rintro e w9 ⟨rfl, hq⟩; replace HB := Lib.hid (HB.out.trans (Ext.trans (by repeat (first | exact Ext.refl _ | assumption | refine Ext.alloc ?_ _ | refine Ext.drew ?_ | refine Ext.drewN ?_ _ | refine Ext.trans ?_ (by assumption))) hq)); clear hq) | ((with_reducible refine (rf12_f _ (HG.out.ext (HB.out.trans (by repeat (first | exact Ext.refl _ | assumption | refine Ext.alloc ?_ _ | refine Ext.drew ?_ | refine Ext.drewN ?_ _ | refine Ext.trans ?_ (by assumption)))))).mono ?_); rintro e w9 ⟨rfl, hq⟩; replace HB := Lib.hid (HB.out.trans (Ext.trans (by repeat (first | exact Ext.refl _ | assumption | refine Ext.alloc ?_ _ | refine Ext.drew ?_ | refine Ext.drewN ?_ _ | refine Ext.trans ?_ (by assumption))) hq)); clear hq) | ((with_reducible refine (rf13_f _ (HG.out.ext (HB.out.trans (by repeat (first | exact Ext.refl _ | assumption | refine Ext.alloc ?_ _ | refine Ext.drew ?_ | refine Ext.drewN ?_ _ | refine Ext.trans ?_ (by assumption)))))).mono ?_); rintro e w9 ⟨rfl, hq⟩; replace HB := Lib.hid (HB.out.trans (Ext.trans (by repeat (first | exact Ext.refl _ | assumption | refine Ext.alloc ?_ _ | refine Ext.drew ?_ | refine Ext.drewN ?_ _ | refine Ext.trans ?_ (by assumption))) hq)); clear hq) | ((with_reducible refine (rf14_f _ (HG.out.ext (HB.out.trans (by repeat (first | exact Ext.refl _ | assumption | refine Ext.alloc ?_ _ | refine Ext.drew ?_ | refine Ext.drewN ?_ _ | refine Ext.trans ?_ (by assumption)))))).mono ?_); rintro e w9 ⟨rfl, hq⟩; replace HB := Lib.hid (HB.out.trans (Ext.trans (by repeat (first | exact Ext.refl _ | assumption | refine Ext.alloc ?_ _ | refine Ext.drew ?_ | refine Ext.drewN ?_ _ | refine Ext.trans ?_ (by assumption))) hq)); clear hq) | ((with_reducible refine (rf15_f _ (HG.out.ext (HB.out.trans (by repeat (first | exact Ext.refl _ | assumption | refine Ext.alloc ?_ _ | refine Ext.drew ?_ | refine Ext.drewN ?_ _ | refine Ext.trans ?_ (by assumption)))))).mono ?_); rintro e w9 ⟨rfl, hq⟩; replace HB := Lib.hid (HB.out.trans (Ext.trans (by repeat (first | exact Ext.refl _ | assumption | refine Ext.alloc ?_ _ | refine Ext.drew ?_ | refine Ext.drewN ?_ _ | refine Ext.trans ?_ (by assumption))) hq)); clear hq) | (go_loud ((with_reducible refine (rf16_f _ (HG.out.ext (HB.out.trans (by repeat (first | exact Ext.refl _ | assumption | refine Ext.alloc ?_ _ | refine Ext.drew ?_ | refine Ext.drewN ?_ _ | refine Ext.trans ?_ (by assumption)))))).mono ?_); rintro e w9 ⟨rfl, hq⟩; replace HB := Lib.hid (HB.out.trans (Ext.trans (by repeat (first | exact Ext.refl _ | assumption | refine Ext.alloc ?_ _ | refine Ext.drew ?_ | refine Ext.drewN ?_ _ | refine Ext.trans ?_ (by assumption))) hq)); clear hq)))))
  have HKN := Lib.hid (KnitAt.mk_ (t := 39) w9)
  replace HB := Lib.hid (show Ext w (w9.alloc (.cells #[.int .u8 1, .bool false, .int .i64 0, .int .i64 0] 39)) from HB.out.alloc _)
  obtain ⟨y0, y1, y2, y3, y4⟩ := HKN.out
  go_cut [4] from 101 to 175 (fun u wx => u = .bool true ∧ Hid (Ext w wx) ∧ Hid (KnitAt wx w9.heap.size))
  case first =>
    go_region_held3 (fun wx => wx.cell? ⟨w9.heap.size, 0, none⟩ = some (.int .u8 1) ∧ wx.cell? ⟨w9.heap.size, 1, none⟩ = some (.bool false) ∧ wx.cell? ⟨w9.heap.size, 2, none⟩ = some (.int .i64 0) ∧ wx.cell? ⟨w9.heap.size, 3, none⟩ = some (.int .i64 0)) (go_keep) (first | ((with_reducible refine gate_make ?_); (first | ((fail_if_success (have h0 := HM1.out)); (refine upon_make_own 22 48 (.agg #[.int .i64 0, .int .u8 0, .bool false, .int .i64 0, .int .i64 0, .slice none 0 0]) 6 56 201 201 0 (by rfl) Tryz.underlying22 info_tmz (by omega) (by omega) (Nat.zero_le _) ?_; intro w9 HO9 HE9 hlt9; have HM1 := Lib.hid (tv_made HO9.out); (try simp only [World.size_drew, World.size_alloc] at HM1); have hq := HE9.out; clear HO9 HE9; replace HB := Lib.hid (HB.out.trans (Ext.trans (by repeat (first | exact Ext.refl _ | assumption | refine Ext.alloc ?_ _ | refine Ext.drew ?_ | refine Ext.drewN ?_ _ | refine Ext.trans ?_ (by assumption))) hq)); replace HKN := Lib.hid (HKN.out.ext (Ext.trans (by repeat (first | exact Ext.refl _ | assumption | refine Ext.alloc ?_ _ | refine Ext.drew ?_ | refine Ext.drewN ?_ _ | refine Ext.trans ?_ (by assumption))) hq)); clear hq y0 y1 y2 y3 y4; obtain ⟨y0, y1, y2, y3, y4⟩ := HKN.out)) | (go_loud (refine upon_make_own 22 48 (.agg #[.int .i64 0, .int .u8 0, .bool false, .int .i64 0, .int .i64 0, .slice none 0 0]) 6 56 200 200 0 (by rfl) Tryz.underlying22 info_tmz (by omega) (by omega) (Nat.zero_le _) ?_; intro w9 HO9 HE9 hlt9; have HM2 := Lib.hid (tv_made HO9.out); (try simp only [World.size_drew, World.size_alloc] at HM2); have hq := HE9.out; clear HO9 HE9; replace HB := Lib.hid (HB.out.trans (Ext.trans (by repeat (first | exact Ext.refl _ | assumption | refine Ext.alloc ?_ _ | refine Ext.drew ?_ | refine Ext.drewN ?_ _ | refine Ext.trans ?_ (by assumption))) hq)); replace HKN := Lib.hid (HKN.out.ext (Ext.trans (by repeat (first | exact Ext.refl _ | assumption | refine Ext.alloc ?_ _ | refine Ext.drew ?_ | refine Ext.drewN ?_ _ | refine Ext.trans ?_ (by assumption))) hq)); clear hq y0 y1 y2 y3 y4; obtain ⟨y0, y1, y2, y3, y4⟩ := HKN.out)))) | (go_at_call 22; (first | ((with_reducible refine (deep8_f _).mono ?_); rintro e w9 ⟨b9, rfl, hq, hd9⟩; have HD8 := Lib.hid hd9; clear hd9; replace HB := Lib.hid (HB.out.trans (Ext.trans (by repeat (first | exact Ext.refl _ | assumption | refine Ext.alloc ?_ _ | refine Ext.drew ?_ | refine Ext.drewN ?_ _ | refine Ext.trans ?_ (by assumption))) hq)); replace HKN := Lib.hid (HKN.out.ext (Ext.trans (by repeat (first | exact Ext.refl _ | assumption | refine Ext.alloc ?_ _ | refine Ext.drew ?_ | refine Ext.drewN ?_ _ | refine Ext.trans ?_ (by assumption))) hq)); clear hq y0 y1 y2 y3 y4; obtain ⟨y0, y1, y2, y3, y4⟩ := HKN.out) | ((with_reducible refine (deep9_f _).mono ?_); rintro e w9 ⟨b9, rfl, hq, hd9⟩; have HD9 := Lib.hid hd9; clear hd9; replace HB := Lib.hid (HB.out.trans (Ext.trans (by repeat (first | exact Ext.refl _ | assumption | refine Ext.alloc ?_ _ | refine Ext.drew ?_ | refine Ext.drewN ?_ _ | refine Ext.trans ?_ (by assumption))) hq)); replace HKN := Lib.hid (HKN.out.ext (Ext.trans (by repeat (first | exact Ext.refl _ | assumption | refine Ext.alloc ?_ _ | refine Ext.drew ?_ | refine Ext.drewN ?_ _ | refine Ext.trans ?_ (by assumption))) hq)); clear hq y0 y1 y2 y3 y4; obtain ⟨y0, y1, y2, y3, y4⟩ := HKN.out) | (go_loud ((with_reducible refine (deep1_f _).mono ?_); rintro e w9 ⟨b9, rfl, hq, hd9⟩; have HD1 := Lib.hid hd9; clear hd9; replace HB := Lib.hid (HB.out.trans (Ext.trans (by repeat (first | exact Ext.refl _ | assumption | refine Ext.alloc ?_ _ | refine Ext.drew ?_ | refine Ext.drewN ?_ _ | refine Ext.trans ?_ (by assumption))) hq)); replace HKN := Lib.hid (HKN.out.ext (Ext.trans (by repeat (first | exact Ext.refl _ | assumption | refine Ext.alloc ?_ _ | refine Ext.drew ?_ | refine Ext.drewN ?_ _ | refine Ext.trans ?_ (by assumption))) hq)); clear hq y0 y1 y2 y3 y4; obtain ⟨y0, y1, y2, y3, y4⟩ := HKN.out)))) | (go_at_call 21; (first | ((with_reducible refine (check_c (HD8.out.ext (by repeat (first | exact Ext.refl _ | assumption | refine Ext.alloc ?_ _ | refine Ext.drew ?_ | refine Ext.drewN ?_ _ | refine Ext.trans ?_ (by assumption)))) (by decide) K1.out).mono ?_); rintro e w9 ⟨rfl, hq⟩; replace HB := Lib.hid (HB.out.trans (Ext.trans (by repeat (first | exact Ext.refl _ | assumption | refine Ext.alloc ?_ _ | refine Ext.drew ?_ | refine Ext.drewN ?_ _ | refine Ext.trans ?_ (by assumption))) hq)); replace HKN := Lib.hid (HKN.out.ext (Ext.trans (by repeat (first | exact Ext.refl _ | assumption | refine Ext.alloc ?_ _ | refine Ext.drew ?_ | refine Ext.drewN ?_ _ | refine Ext.trans ?_ (by assumption))) hq)); clear hq y0 y1 y2 y3 y4; obtain ⟨y0, y1, y2, y3, y4⟩ := HKN.out) | ((with_reducible refine (check_c (HD9.out.ext (by repeat (first | exact Ext.refl _ | assumption | refine Ext.alloc ?_ _ | refine Ext.drew ?_ | refine Ext.drewN ?_ _ | refine Ext.trans ?_ (by assumption)))) (by decide) K2.out).mono ?_); rintro e w9 ⟨rfl, hq⟩; replace HB := Lib.hid (HB.out.trans (Ext.trans (by repeat (first | exact Ext.refl _ | assumption | refine Ext.alloc ?_ _ | refine Ext.drew ?_ | refine Ext.drewN ?_ _ | refine Ext.trans ?_ (by assumption))) hq)); replace HKN := Lib.hid (HKN.out.ext (Ext.trans (by repeat (first | exact Ext.refl _ | assumption | refine Ext.alloc ?_ _ | refine Ext.drew ?_ | refine Ext.drewN ?_ _ | refine Ext.trans ?_ (by assumption))) hq)); clear hq y0 y1 y2 y3 y4; obtain ⟨y0, y1, y2, y3, y4⟩ := HKN.out) | ((with_reducible refine (ck3_f _ _).mono ?_); rintro e w9 ⟨rfl, hq⟩; replace HB := Lib.hid (HB.out.trans (Ext.trans (by repeat (first | exact Ext.refl _ | assumption | refine Ext.alloc ?_ _ | refine Ext.drew ?_ | refine Ext.drewN ?_ _ | refine Ext.trans ?_ (by assumption))) hq)); replace HKN := Lib.hid (HKN.out.ext (Ext.trans (by repeat (first | exact Ext.refl _ | assumption | refine Ext.alloc ?_ _ | refine Ext.drew ?_ | refine Ext.drewN ?_ _ | refine Ext.trans ?_ (by assumption))) hq)); clear hq y0 y1 y2 y3 y4; obtain ⟨y0, y1, y2, y3, y4⟩ := HKN.out) | ((with_reducible refine (ck4_f _ _).mono ?_); rintro e w9 ⟨rfl, hq⟩; replace HB := Lib.hid (HB.out.trans (Ext.trans (by repeat (first | exact Ext.refl _ | assumption | refine Ext.alloc ?_ _ | refine Ext.drew ?_ | refine Ext.drewN ?_ _ | refine Ext.trans ?_ (by assumption))) hq)); replace HKN := Lib.hid (HKN.out.ext (Ext.trans (by repeat (first | exact Ext.refl _ | assumption | refine Ext.alloc ?_ _ | refine Ext.drew ?_ | refine Ext.drewN ?_ _ | refine Ext.trans ?_ (by assumption))) hq)); clear hq y0 y1 y2 y3 y4; obtain ⟨y0, y1, y2, y3, y4⟩ := HKN.out) | ((with_reducible refine (ck5_f _ _).mono ?_); rintro e w9 ⟨rfl, hq⟩; replace HB := Lib.hid (HB.out.trans (Ext.trans (by repeat (first | exact Ext.refl _ | assumption | refine Ext.alloc ?_ _ | refine Ext.drew ?_ | refine Ext.drewN ?_ _ | refine Ext.trans ?_ (by assumption))) hq)); replace HKN := Lib.hid (HKN.out.ext (Ext.trans (by repeat (first | exact Ext.refl _ | assumption | refine Ext.alloc ?_ _ | refine Ext.drew ?_ | refine Ext.drewN ?_ _ | refine Ext.trans ?_ (by assumption))) hq)); clear hq y0 y1 y2 y3 y4; obtain ⟨y0, y1, y2, y3, y4⟩ := HKN.out) | ((with_reducible refine (ck6_f _ _).mono ?_); rintro e w9 ⟨rfl, hq⟩; replace HB := Lib.hid (HB.out.trans (Ext.trans (by repeat (first | exact Ext.refl _ | assumption | refine Ext.alloc ?_ _ | refine Ext.drew ?_ | refine Ext.drewN ?_ _ | refine Ext.trans ?_ (by assumption))) hq)); replace HKN := Lib.hid (HKN.out.ext (Ext.trans (by repeat (first | exact Ext.refl _ | assumption | refine Ext.alloc ?_ _ | refine Ext.drew ?_ | refine Ext.drewN ?_ _ | refine Ext.trans ?_ (by assumption))) hq)); clear hq y0 y1 y2 y3 y4; obtain ⟨y0, y1, y2, y3, y4⟩ := HKN.out) | ((with_reducible refine (check_c (tv_lit (N := 1) (c := ⟨1, false, 0, 0⟩) (HD1.out.ext (by repeat (first | exact Ext.refl _ | assumption | refine Ext.alloc ?_ _ | refine Ext.drew ?_ | refine Ext.drewN ?_ _ | refine Ext.trans ?_ (by assumption)))) rfl rfl (by decide)) (by decide) K7.out).mono ?_); rintro e w9 ⟨rfl, hq⟩; replace HB := Lib.hid (HB.out.trans (Ext.trans (by repeat (first | exact Ext.refl _ | assumption | refine Ext.alloc ?_ _ | refine Ext.drew ?_ | refine Ext.drewN ?_ _ | refine Ext.trans ?_ (by assumption))) hq)); replace HKN := Lib.hid (HKN.out.ext (Ext.trans (by repeat (first | exact Ext.refl _ | assumption | refine Ext.alloc ?_ _ | refine Ext.drew ?_ | refine Ext.drewN ?_ _ | refine Ext.trans ?_ (by assumption))) hq)); clear hq y0 y1 y2 y3 y4; obtain ⟨y0, y1, y2, y3, y4⟩ := HKN.out) | ((with_reducible refine (check_c (HM1.out.ext (by repeat (first | exact Ext.refl _ | assumption | refine Ext.alloc ?_ _ | refine Ext.drew ?_ | refine Ext.drewN ?_ _ | refine Ext.trans ?_ (by assumption)))) (by decide) K8.out).mono ?_); rintro e w9 ⟨rfl, hq⟩; replace HB := Lib.hid (HB.out.trans (Ext.trans (by repeat (first | exact Ext.refl _ | assumption | refine Ext.alloc ?_ _ | refine Ext.drew ?_ | refine Ext.drewN ?_ _ | refine Ext.trans ?_ (by assumption))) hq)); replace HKN := Lib.hid (HKN.out.ext (Ext.trans (by repeat (first | exact Ext.refl _ | assumption | refine Ext.alloc ?_ _ | refine Ext.drew ?_ | refine Ext.drewN ?_ _ | refine Ext.trans ?_ (by assumption))) hq)); clear hq y0 y1 y2 y3 y4; obtain ⟨y0, y1, y2, y3, y4⟩ := HKN.out) | ((with_reducible refine (check_c (HM2.out.ext (by repeat (first | exact Ext.refl _ | assumption | refine Ext.alloc ?_ _ | refine Ext.drew ?_ | refine Ext.drewN ?_ _ | refine Ext.trans ?_ (by assumption)))) (by decide) K9.out).mono ?_); rintro e w9 ⟨rfl, hq⟩; replace HB := Lib.hid (HB.out.trans (Ext.trans (by repeat (first | exact Ext.refl _ | assumption | refine Ext.alloc ?_ _ | refine Ext.drew ?_ | refine Ext.drewN ?_ _ | refine Ext.trans ?_ (by assumption))) hq)); replace HKN := Lib.hid (HKN.out.ext (Ext.trans (by repeat (first | exact Ext.refl _ | assumption | refine Ext.alloc ?_ _ | refine Ext.drew ?_ | refine Ext.drewN ?_ _ | refine Ext.trans ?_ (by assumption))) hq)); clear hq y0 y1 y2 y3 y4; obtain ⟨y0, y1, y2, y3, y4⟩ := HKN.out) | (go_loud ((with_reducible refine (check_c (Tv.none_ _ _) (by decide) K10.out).mono ?_); rintro e w9 ⟨rfl, hq⟩; replace HB := Lib.hid (HB.out.trans (Ext.trans (by repeat (first | exact Ext.refl _ | assumption | refine Ext.alloc ?_ _ | refine Ext.drew ?_ | refine Ext.drewN ?_ _ | refine Ext.trans ?_ (by assumption))) hq)); replace HKN := Lib.hid (HKN.out.ext (Ext.trans (by repeat (first | exact Ext.refl _ | assumption | refine Ext.alloc ?_ _ | refine Ext.drew ?_ | refine Ext.drewN ?_ _ | refine Ext.trans ?_ (by assumption))) hq)); clear hq y0 y1 y2 y3 y4; obtain ⟨y0, y1, y2, y3, y4⟩ := HKN.out)))))
    all_goals
      go_wp2_with fail
      go_meet
      exact ⟨rfl, HB, HKN⟩
  case rest =>
    clear HKN y0 y1 y2 y3 y4 HB
    obtain ⟨rfl, HB, HKN⟩ := hcut
    obtain ⟨y0, y1, y2, y3, y4⟩ := HKN.out
    go_wp2_with (first
      | (at_make; (first | (refine wpList_make_own 22 48 (.agg #[.int .i64 0, .int .u8 0, .bool false, .int .i64 0, .int .i64 0, .slice none 0 0]) 6 56 201 0 (by rfl) (by rfl) Tryz.underlying22 info_tmz (by rfl) (by omega) (by omega) (Nat.zero_le _) ?_; intro w9 HO9 HE9 hlt9; have HM1 := Lib.hid (tv_made HO9.out); have hq := HE9.out; clear HO9 HE9; replace HB := Lib.hid (HB.out.trans (Ext.trans (by repeat (first | exact Ext.refl _ | assumption | refine Ext.alloc ?_ _ | refine Ext.drew ?_ | refine Ext.drewN ?_ _ | refine Ext.trans ?_ (by assumption))) hq)); replace HKN := Lib.hid (HKN.out.ext (Ext.trans (by repeat (first | exact Ext.refl _ | assumption | refine Ext.alloc ?_ _ | refine Ext.drew ?_ | refine Ext.drewN ?_ _ | refine Ext.trans ?_ (by assumption))) hq)); clear hq y0 y1 y2 y3 y4; obtain ⟨y0, y1, y2, y3, y4⟩ := HKN.out) | (refine wpList_make_own 22 48 (.agg #[.int .i64 0, .int .u8 0, .bool false, .int .i64 0, .int .i64 0, .slice none 0 0]) 6 56 200 0 (by rfl) (by rfl) Tryz.underlying22 info_tmz (by rfl) (by omega) (by omega) (Nat.zero_le _) ?_; intro w9 HO9 HE9 hlt9; have HM2 := Lib.hid (tv_made HO9.out); have hq := HE9.out; clear HO9 HE9; replace HB := Lib.hid (HB.out.trans (Ext.trans (by repeat (first | exact Ext.refl _ | assumption | refine Ext.alloc ?_ _ | refine Ext.drew ?_ | refine Ext.drewN ?_ _ | refine Ext.trans ?_ (by assumption))) hq)); replace HKN := Lib.hid (HKN.out.ext (Ext.trans (by repeat (first | exact Ext.refl _ | assumption | refine Ext.alloc ?_ _ | refine Ext.drew ?_ | refine Ext.drewN ?_ _ | refine Ext.trans ?_ (by assumption))) hq)); clear hq y0 y1 y2 y3 y4; obtain ⟨y0, y1, y2, y3, y4⟩ := HKN.out) | (go_loud (refine wpList_make_own 35 39 (.agg #[.int .u8 0, .bool false, .int .i64 0, .int .i64 0]) 4 24 61 0 (by rfl) (by rfl) Tryz.underlying35 info_st (by rfl) (by omega) (by omega) (Nat.zero_le _) ?_; intro w9 HO9 HE9 hlt9; have HM3 := Lib.hid (vec_made HO9.out); have hq := HE9.out; clear HO9 HE9; replace HB := Lib.hid (HB.out.trans (Ext.trans (by repeat (first | exact Ext.refl _ | assumption | refine Ext.alloc ?_ _ | refine Ext.drew ?_ | refine Ext.drewN ?_ _ | refine Ext.trans ?_ (by assumption))) hq)); replace HKN := Lib.hid (HKN.out.ext (Ext.trans (by repeat (first | exact Ext.refl _ | assumption | refine Ext.alloc ?_ _ | refine Ext.drew ?_ | refine Ext.drewN ?_ _ | refine Ext.trans ?_ (by assumption))) hq)); clear hq y0 y1 y2 y3 y4; obtain ⟨y0, y1, y2, y3, y4⟩ := HKN.out))))
      | (go_at_call 23; (first | ((with_reducible refine (findx_c (HM3.out.ext (by repeat (first | exact Ext.refl _ | assumption | refine Ext.alloc ?_ _ | refine Ext.drew ?_ | refine Ext.drewN ?_ _ | refine Ext.trans ?_ (by assumption)))) HB3.out (by unfold maxLen; decide) FE1.out).mono ?_); rintro e w9 ⟨A9, n9, c9, rfl, hq⟩; replace HB := Lib.hid (HB.out.trans (Ext.trans (by repeat (first | exact Ext.refl _ | assumption | refine Ext.alloc ?_ _ | refine Ext.drew ?_ | refine Ext.drewN ?_ _ | refine Ext.trans ?_ (by assumption))) hq)); replace HKN := Lib.hid (HKN.out.ext (Ext.trans (by repeat (first | exact Ext.refl _ | assumption | refine Ext.alloc ?_ _ | refine Ext.drew ?_ | refine Ext.drewN ?_ _ | refine Ext.trans ?_ (by assumption))) hq)); clear hq y0 y1 y2 y3 y4; obtain ⟨y0, y1, y2, y3, y4⟩ := HKN.out) | (go_loud ((with_reducible refine (findx_c (vec_two rfl rfl) HB4.out (by unfold maxLen; decide) FE2.out).mono ?_); rintro e w9 ⟨A9, n9, c9, rfl, hq⟩; replace HB := Lib.hid (HB.out.trans (Ext.trans (by repeat (first | exact Ext.refl _ | assumption | refine Ext.alloc ?_ _ | refine Ext.drew ?_ | refine Ext.drewN ?_ _ | refine Ext.trans ?_ (by assumption))) hq)); replace HKN := Lib.hid (HKN.out.ext (Ext.trans (by repeat (first | exact Ext.refl _ | assumption | refine Ext.alloc ?_ _ | refine Ext.drew ?_ | refine Ext.drewN ?_ _ | refine Ext.trans ?_ (by assumption))) hq)); clear hq y0 y1 y2 y3 y4; obtain ⟨y0, y1, y2, y3, y4⟩ := HKN.out))))
      | (go_at_call 24; (first | (go_loud ((with_reducible refine (expn_c _).mono ?_); rintro e w9 ⟨A9, c9, rfl, hq⟩; replace HB := Lib.hid (HB.out.trans (Ext.trans (by repeat (first | exact Ext.refl _ | assumption | refine Ext.alloc ?_ _ | refine Ext.drew ?_ | refine Ext.drewN ?_ _ | refine Ext.trans ?_ (by assumption))) hq)); replace HKN := Lib.hid (HKN.out.ext (Ext.trans (by repeat (first | exact Ext.refl _ | assumption | refine Ext.alloc ?_ _ | refine Ext.drew ?_ | refine Ext.drewN ?_ _ | refine Ext.trans ?_ (by assumption))) hq)); clear hq y0 y1 y2 y3 y4; obtain ⟨y0, y1, y2, y3, y4⟩ := HKN.out))))
      | (go_at_call 15; (first | (go_loud ((with_reducible refine (shalive_any _ (HG.out.ext (HB.out.trans (by repeat (first | exact Ext.refl _ | assumption | refine Ext.alloc ?_ _ | refine Ext.drew ?_ | refine Ext.drewN ?_ _ | refine Ext.trans ?_ (by assumption)))))).mono ?_); rintro e w9 ⟨rfl, hq⟩; replace HB := Lib.hid (HB.out.trans (Ext.trans (by repeat (first | exact Ext.refl _ | assumption | refine Ext.alloc ?_ _ | refine Ext.drew ?_ | refine Ext.drewN ?_ _ | refine Ext.trans ?_ (by assumption))) hq)); replace HKN := Lib.hid (HKN.out.ext (Ext.trans (by repeat (first | exact Ext.refl _ | assumption | refine Ext.alloc ?_ _ | refine Ext.drew ?_ | refine Ext.drewN ?_ _ | refine Ext.trans ?_ (by assumption))) hq)); clear hq y0 y1 y2 y3 y4; obtain ⟨y0, y1, y2, y3, y4⟩ := HKN.out)))))
    go_ret
    exact ⟨by first | rfl | simp, HB.out.trans (by repeat (first | exact Ext.refl _ | assumption | refine Ext.alloc ?_ _ | refine Ext.drew ?_ | refine Ext.drewN ?_ _ | refine Ext.trans ?_ (by assumption)))⟩

set_option maxRecDepth 100000 in
theorem shortestNames_lifted (os : Os) (started : os.Started) (H : Type) (enc : TypeId × Value → H) :
    ReturnsInHanded {} Tryz.checked os 7 .any (fun w args => (Rows.shortestNamesSpec.pre enc Tryz.prog Tryz.f7 [] false w args ∧ laidMetH Tryz.prog [("math/bits.deBruijn32tab", Rows.laid_math_bits_deBruijn32tab), ("math/bits.deBruijn64tab", Rows.laid_math_bits_deBruijn64tab), ("internal/strconv.uint64pow10", Rows.laid_internal_strconv_uint64pow10), ("unicode/utf8.acceptRanges", Rows.laid_unicode_utf8_acceptRanges), ("strconv.ErrRange", Rows.laid_strconv_ErrRange), ("strconv.ErrSyntax", Rows.laid_strconv_ErrSyntax), ("unicode/utf8.first", Rows.laid_unicode_utf8_first)] w) ∧ sizedMet enc Tryz.prog Tryz.f7 (OpenSpec.ofChange Rows.shortestNamesSpec) false w args)
      (Rows.shortestNamesSpec.post enc Tryz.prog Tryz.f7 false true false false) := by
  refine returns_laid (C := Tryz.checked) (X := fun w _ => laidMetH Tryz.prog [("math/bits.deBruijn32tab", Rows.laid_math_bits_deBruijn32tab), ("math/bits.deBruijn64tab", Rows.laid_math_bits_deBruijn64tab), ("internal/strconv.uint64pow10", Rows.laid_internal_strconv_uint64pow10), ("unicode/utf8.acceptRanges", Rows.laid_unicode_utf8_acceptRanges), ("strconv.ErrRange", Rows.laid_strconv_ErrRange), ("strconv.ErrSyntax", Rows.laid_strconv_ErrSyntax), ("unicode/utf8.first", Rows.laid_unicode_utf8_first)] w) (fun _ _ _ hh h => h.of_heap hh) own started (by kernel_rfl) Tryz.func7
    (ChangeSpec.witness_shaped (enc := enc) (C := Tryz.checked) (os := os) (X := fun w _ => laidMetH Tryz.prog [("math/bits.deBruijn32tab", Rows.laid_math_bits_deBruijn32tab), ("math/bits.deBruijn64tab", Rows.laid_math_bits_deBruijn64tab), ("internal/strconv.uint64pow10", Rows.laid_internal_strconv_uint64pow10), ("unicode/utf8.acceptRanges", Rows.laid_unicode_utf8_acceptRanges), ("strconv.ErrRange", Rows.laid_strconv_ErrRange), ("strconv.ErrSyntax", Rows.laid_strconv_ErrSyntax), ("unicode/utf8.first", Rows.laid_unicode_utf8_first)] w) false (World.laidAll Tryz.prog os [("math/bits.deBruijn32tab", Rows.laid_math_bits_deBruijn32tab), ("math/bits.deBruijn64tab", Rows.laid_math_bits_deBruijn64tab), ("internal/strconv.uint64pow10", Rows.laid_internal_strconv_uint64pow10), ("unicode/utf8.acceptRanges", Rows.laid_unicode_utf8_acceptRanges), ("strconv.ErrRange", Rows.laid_strconv_ErrRange), ("strconv.ErrSyntax", Rows.laid_strconv_ErrSyntax), ("unicode/utf8.first", Rows.laid_unicode_utf8_first)]) #[] 8 (World.laidAll_os _ _ _)
      (World.shaped_of_ZipB (by kernel_rfl) (by kernel_rfl)) (by kernel_rfl) (by kernel_rfl) (by kernel_rfl)
      (by rw [MakeChecks.laidMetH_plain _ _ _ (by kernel_rfl)]; exact laidMet_laidAll _ (by kernel_rfl) (by kernel_rfl))) ?_
  intro W base args ds gs before hval0 hW hL hsh
  have hval : ∀ (j : Nat) t v, Tryz.f7.params[j]? = some t → args[j]? = some v → Value.okWide Tryz.prog W .any base t v := hval0
  have hW' := hW
  obtain ⟨p, q, hA0, hV, rfl, hfz, hnd⟩ := hW
  have hA : DataW.TrodAll enc Tryz.prog W 0 (fun _ => true) true Tryz.f7.params.toList args.toList ds p := hA0
  rw [Tryz.params7] at hA hval
  obtain ⟨rfl, rfl, rfl⟩ := trodAll_none hA
  obtain ⟨rfl, rfl⟩ := trodVars_none hV
  rw [MakeChecks.laidMetH_plain _ _ _ (by kernel_rfl)] at hL
  have hG := glob_of hL hsh
  refine (shortestNames_walk W hG).mono fun e W' ⟨he, hg⟩ => ?_
  subst he
  exact ⟨_, rfl, law_post laid_out rfl Tryz.underlying4 (by kernel_rfl) rfl hW' rfl hg⟩

theorem shortestNames_holds : Rows.ShortestNamesSaid :=
  OpenClaim.holds_of_wide 7 Tryz.f7 rfl rfl rfl rfl rfl rfl rfl ⟨rfl, rfl, rfl, rfl, rfl⟩ rfl rfl rfl rfl rfl (by kernel_rfl) Tryz.func7 (by kernel_rfl)
    (of_decide_eq_true (by kernel_rfl)) (by unfold Func.isWrapper; first | (rw [if_pos (by decide +kernel)]; kernel_rfl) | (rw [if_neg (by decide +kernel)]; exact ⟨rfl, rfl⟩))
    (fun os started H enc _ => shortestNames_lifted os started H enc)

theorem shortestNames_card : Rows.ShortestNamesCardSaid :=
  Claim7.holds_tied_plain_at .later [] [.data, .data, .data, .data, .sentinel, .sentinel, .pinned] true (true, "e5f9bd0f772c11d510c8057603114c1f06b52d64d41fd05283189a068ebb2edc") true
    shortestNames_holds (fun _ h => by cases h) (by kernel_rfl) (fun _ h => by cases h) shortestNames_row_tie rfl ⟨rfl, rfl⟩ (by kernel_rfl) rfl
    (fun f fn hf hfn => by
      obtain rfl : f = 7 := Option.some.inj ((show Tryz.prog.funcNamed "raddle/raddlelaw42.ShortestNames" = some 7 by kernel_rfl).symm.trans hf) |>.symm
      obtain rfl : fn = Tryz.f7 := (Option.some.inj (Tryz.func7.symm.trans hfn)).symm
      exact ⟨by kernel_rfl, fun j t ht => by
        rw [Tryz.params7] at ht
        simp at ht⟩)
    (by kernel_rfl)
end Go.Proofs.YtfbfkoeaihknoaaGreatDoor
