/- Text of terms. -/
import Derived.Test.YtfbfkoeaihknoaaGreatDoorG15
import Derived.Test.YtfbfkoeaihknoaaGreatDoorG09
import Derived.Test.YtfbfkoeaihknoaaGreatDoorG11
import Derived.Shelf.Strings.Builder1
import Derived.Shelf.Strings.Builder2
import Derived.Shelf.Strings.OnBuilder
import Derived.Shelf.Small.Utf8
import Derived.Shelf.Small.Strs
import Derived.Shelf.Strings.BuilderF
import Derived.Shelf.Strings.BuilderK
import Derived.Shelf.Utf8.RuneCount
import Derived.Shelf.Strconv.Atoi
import Derived.Shelf.Strconv.Itoa0
import Derived.Shelf.Strconv.Itoa1
import Derived.Shelf.LaysM
import Derived.Shelf.Strconv.Itoa2
import Derived.Shelf.Strconv.Itoa3
import Derived.Shelf.Strconv.AtoiErrFast
import Derived.Shelf.Strconv.ParseIntEmpty
import Derived.Shelf.Strconv.AtoiFail
import Derived.Shelf.Strconv.Clone
import Derived.Shelf.Strconv.SyntaxError
import Derived.Shelf.LaysC
import Derived.Shelf.Strconv.ToError
import Derived.Shelf.Strconv.AtoiErr
import Derived.Shelf.Strconv.ErrVar
import Derived.Shelf.Strconv.Lower
import Derived.Shelf.Strconv.ParseUint10
import Derived.Shelf.Strconv.ParseUint10Empty
import Derived.Shelf.Strconv.ParseUint10Any
import Derived.Shelf.Strconv.ParseInt10
import Derived.Shelf.Strconv.AtoiLong
import Derived.Shelf.Strconv.AtoiInnerAll
import Derived.Shelf.Strconv.RangeError
import Derived.Shelf.Strconv.ToErrorRange
import Derived.Shelf.Strconv.AtoiAll
import Derived.Shelf.Strconv.ErrVarAll
import Derived.Shelf.Strings.Search1
import Derived.Shelf.Strings.Search2
import Derived.Shelf.Strings.Search3
import Derived.Shelf.Strings.Count
import Derived.Shelf.Strings.Shaped
import Derived.Shelf.Strings.Prefix
import Derived.Shelf.Strings.Split
import Derived.Shelf.Strings.SplitShaped
import Derived.Shelf.Unicode.Decode
import Derived.Shelf.Strings.Runes
import Derived.Shelf.Strings.RuneCount
import Derived.Shelf.Strings.IndexAny
import Derived.Shelf.Strings.AsciiSet
import Derived.Shelf.Strings.IndexAnyAll
import Derived.Shelf.Strings.Explode
import Derived.Shelf.Bits.Mul64
import Derived.Shelf.Unicode.DecodeSlow
import Derived.Shelf.Unicode.DecodeAny
import Derived.Test.YtfbfkoeaihknoaaGreatDoorProg
import Derived.Lib.AtoiAll
namespace Go.Proofs.YtfbfkoeaihknoaaGreatDoor
set_option maxRecDepth 100000
set_option maxRecDepth 100000
open Go.RowKit Go.ChangeShapes Go.WideShapes Go.Joins
theorem wst_new (w1 : World) : WSt w1 (w1.alloc (.cells #[.pointer none, .slice none 0 0] 60)) w1.heap.size [] (w1.alloc (.cells #[.pointer none, .slice none 0 0] 60)) :=
  ⟨bld_new w1 _ 5 _ (Nat.le_refl _), (Ext.refl w1).alloc _, Lib.OthersKept.refl _ _ _⟩
/-- a bound on the text's length -/
theorem wT_big : ∀ {t : Tms}, fineT t = true → (wT t).length ≤ 200 * t.size := by
  intro t
  induction t with
  | nil => intro _; simp [wT, Tms.size]
  | cons n c g r ih1 ih2 =>
    intro h
    obtain ⟨hn, hg, hr, hc, _⟩ := fine_parts h
    have h1 := ih1 hg
    have h2 := ih2 hr
    have h3 : (timesW n).length ≤ 21 := by
      unfold timesW
      have := dec_len n.toNat
      split
      · simp; omega
      · simp
    have h4 : (headW c g).length ≤ 100 + (wT g).length := by
      by_cases h0 : g = .nil
      · subst h0
        have h5 := wordG_len (x := (c, 1)) (hc rfl)
        show (textL [c]).length ≤ _
        rw [text_cell]
        have : (wordT c).length ≤ 100 := by simpa [wordG] using h5
        omega
      · rw [head_grp h0]
        simp
        omega
    simp only [Tms.size]
    by_cases h0 : r = .nil
    · subst h0
      rw [wT_one, List.length_append]
      omega
    · rw [wT_cons _ _ _ _ h0, List.length_append, List.length_append, List.length_cons]
      omega
/-- what Text of terms returns -/
def TxR (t : Tms) (w : World) (e : Ending) (w' : World) : Prop := e = .returned (.tuple #[.string ⟨(ttextV t).toArray⟩, .int .i64 (ttextE t)]) ∧ Ext w w'
set_option maxHeartbeats 4000000 in
theorem ttext_any (t : Tms) (ht : t.size ≤ 5000) (A : Option Addr) (n cap : Nat) (w : World) (hv : Tv w A n t) (hg : Glob w) :
    Calls Tryz.prog 10 #[.slice A n cap] w (TxR t w) := by
  have HV := Lib.hid hv
  have HG := Lib.hid hg
  obtain ⟨x, hx⟩ : ∃ x, tchkE t = x := ⟨_, rfl⟩
  by_cases h0 : x = 0
  case neg =>
    have HT := Lib.hid (show ttextE t = x ∧ ttextV t = [] by
      have h1 : ttextE t = x := by rw [ttextE, hx, if_pos h0]
      exact ⟨h1, by rw [ttextV, h1, if_neg h0]⟩)
    have HX := Lib.hid hx
    have hb : (x != 0) = true := by simpa using h0
    clear hv hg hx h0
    go_enter Tryz.func10, Tryz.ntmps10
    go_wp2_with (go_at_call 21; ((with_reducible refine (tcheck_any t ht A n cap _ (HV.out.ext (by repeat (first | exact Ext.refl _ | assumption | refine Ext.alloc ?_ _ | refine Ext.drew ?_ | refine Ext.drewN ?_ _ | refine Ext.trans ?_ (by assumption))))).mono ?_); rintro e w1 ⟨rfl, hq1⟩; rw [HX.out]))
    go_ret2
    exact ⟨by rw [HT.out.1, HT.out.2]; rfl, by repeat (first | exact Ext.refl _ | assumption | refine Ext.alloc ?_ _ | refine Ext.drew ?_ | refine Ext.drewN ?_ _ | refine Ext.trans ?_ (by assumption))⟩
  subst h0
  have HX := Lib.hid hx
  obtain ⟨hs, hd, hf⟩ := tchk_parts hx
  have hwl := wT_big hf
  obtain ⟨T, hT⟩ : ∃ T, wT t = T := ⟨_, rfl⟩
  rw [hT] at hwl
  have hW := fun (w0 : World) (b : Nat) (w' : World) (h1 : Glob w0) (h2 : Tv w0 A n t) (h3 : WSt w0 w' b [] w') => (show Calls Tryz.prog 28 #[.pointer (some ⟨b, 0, none⟩), .slice A n cap] w' fun e w'' => e = .returned (.tuple #[]) ∧ WSt w0 w' b T w'' from by
    have h := write_any 5000 (by omega) t ht hf w0 w' b A n cap [] w' h1 h2 h3 (by rw [hT]; simp; omega)
    rw [hT, List.nil_append] at h
    exact h)
  have HW := Lib.hid hW
  have HE : (3000 < T.length ∧ Hid (ttextE t = 4 ∧ ttextV t = [])) ∨ (¬ 3000 < T.length ∧ Hid (ttextE t = 0 ∧ ttextV t = T)) := by
    by_cases h : 3000 < T.length
    · left
      have h1 : ttextE t = 4 := by rw [ttextE, hx, if_neg (by simp), hT, if_pos h]
      exact ⟨h, Lib.hid ⟨h1, by rw [ttextV, h1, if_neg (by decide)]⟩⟩
    · right
      have h1 : ttextE t = 0 := by rw [ttextE, hx, if_neg (by simp), hT, if_neg h]
      exact ⟨h, Lib.hid ⟨h1, by rw [ttextV, h1, if_pos rfl, hT]⟩⟩
  clear hv hg hx hW hT hf hs hd
  rcases HE with ⟨hl, HE⟩ | ⟨hl, HE⟩
  · have hl2 : ((3000 : Int) < (T.length : Int)) := by omega
    go_enter Tryz.func10, Tryz.ntmps10
    go_wp2_with (first
      | (go_at_call 21; ((with_reducible refine (tcheck_any t ht A n cap _ (HV.out.ext (by repeat (first | exact Ext.refl _ | assumption | refine Ext.alloc ?_ _ | refine Ext.drew ?_ | refine Ext.drewN ?_ _ | refine Ext.trans ?_ (by assumption))))).mono ?_); rintro e w1 ⟨rfl, hq1⟩; rw [HX.out]))
      | (go_at_call 28; go_loud ((with_reducible refine (HW.out w1 _ _ (HG.out.ext (by repeat (first | exact Ext.refl _ | assumption | refine Ext.alloc ?_ _ | refine Ext.drew ?_ | refine Ext.drewN ?_ _ | refine Ext.trans ?_ (by assumption)))) (HV.out.ext (by repeat (first | exact Ext.refl _ | assumption | refine Ext.alloc ?_ _ | refine Ext.drew ?_ | refine Ext.drewN ?_ _ | refine Ext.trans ?_ (by assumption)))) (wst_new w1)).mono ?_); rintro e w2 ⟨rfl, hs2⟩; have HS2 := Lib.hid hs2; clear hs2))
      | (go_at_call 29; go_loud ((refine (Tryz.Builder_Len_f _ _ _ _ HS2.out.bl).mono ?_); rintro e w3 ⟨rfl, rfl⟩; rw [bytes_len])))
    go_ret2
    exact ⟨by rw [HE.out.1, HE.out.2]; rfl, Ext.trans (by repeat (first | exact Ext.refl _ | assumption | refine Ext.alloc ?_ _ | refine Ext.drew ?_ | refine Ext.drewN ?_ _ | refine Ext.trans ?_ (by assumption))) HS2.out.ex⟩
  · have hl2 : ¬ ((3000 : Int) < (T.length : Int)) := by omega
    go_enter Tryz.func10, Tryz.ntmps10
    go_wp2_with (first
      | (go_at_call 21; ((with_reducible refine (tcheck_any t ht A n cap _ (HV.out.ext (by repeat (first | exact Ext.refl _ | assumption | refine Ext.alloc ?_ _ | refine Ext.drew ?_ | refine Ext.drewN ?_ _ | refine Ext.trans ?_ (by assumption))))).mono ?_); rintro e w1 ⟨rfl, hq1⟩; rw [HX.out]))
      | (go_at_call 28; go_loud ((with_reducible refine (HW.out w1 _ _ (HG.out.ext (by repeat (first | exact Ext.refl _ | assumption | refine Ext.alloc ?_ _ | refine Ext.drew ?_ | refine Ext.drewN ?_ _ | refine Ext.trans ?_ (by assumption)))) (HV.out.ext (by repeat (first | exact Ext.refl _ | assumption | refine Ext.alloc ?_ _ | refine Ext.drew ?_ | refine Ext.drewN ?_ _ | refine Ext.trans ?_ (by assumption)))) (wst_new w1)).mono ?_); rintro e w2 ⟨rfl, hs2⟩; have HS2 := Lib.hid hs2; clear hs2))
      | (go_at_call 29; go_loud ((refine (Tryz.Builder_Len_f _ _ _ _ HS2.out.bl).mono ?_); rintro e w3 ⟨rfl, rfl⟩; rw [bytes_len]))
      | (go_at_call 30; go_loud ((refine (Tryz.Builder_String_any_k w1.heap.size _ T _ HS2.out.bl (Below.size HS2.out.ex)).mono ?_); rintro e w4 ⟨rfl, -, hq4, -⟩; have HS4 := Lib.hid (Below.trans HS2.out.ex hq4))))
    go_ret2
    exact ⟨by rw [HE.out.1, HE.out.2]; rfl, Ext.trans (by repeat (first | exact Ext.refl _ | assumption | refine Ext.alloc ?_ _ | refine Ext.drew ?_ | refine Ext.drewN ?_ _ | refine Ext.trans ?_ (by assumption))) HS4.out⟩
end Go.Proofs.YtfbfkoeaihknoaaGreatDoor
/- The library contracts that this claim uses besides, laid at its program by the kit (lay-shelf, lay-plain) and cut down to those. -/
namespace Go.Proofs
open Go.Shelf
def Tryz.lays152_ren : Go.Shelf.Ren := ⟨fun | 152 => 112 | 137 => 109 | 119 => 132 | 224 => 133 | 225 => 134 | 217 => 128 | 266 => 142 | n => n, fun | 9 => 9 | 21 => 21 | 3 => 3 | 4 => 4 | 5 => 5 | 0 => 0 | 46 => 152 | n => n, fun | n => n⟩
theorem Tryz.lays152 : Go.Proofs.Lays.n152 Tryz.prog Tryz.lays152_ren := {
  mixed := by kernel_rfl
  f119 := Tryz.func132.trans (congrArg some (by kernel_rfl))
  f137 := Tryz.func109.trans (congrArg some (by kernel_rfl))
  f152 := Tryz.func112.trans (congrArg some (by kernel_rfl))
  f217 := Tryz.func128.trans (congrArg some (by kernel_rfl))
  f224 := Tryz.func133.trans (congrArg some (by kernel_rfl))
  f225 := Tryz.func134.trans (congrArg some (by kernel_rfl))
  f266 := Tryz.func142.trans (congrArg some (by kernel_rfl))
  t0 := Tryz.underlying0
  a0 := Tryz.isAgg0
  z0 := Tryz.sizeOf0
  v0 := Tryz.zeroValue0
  t3 := Tryz.underlying3
  a3 := Tryz.isAgg3
  z3 := Tryz.sizeOf3
  v3 := Tryz.zeroValue3
  t4 := Tryz.underlying4
  a4 := Tryz.isAgg4
  z4 := Tryz.sizeOf4
  v4 := Tryz.zeroValue4
  t5 := Tryz.underlying5
  a5 := Tryz.isAgg5
  z5 := Tryz.sizeOf5
  v5 := Tryz.zeroValue5
  t9 := Tryz.underlying9
  a9 := Tryz.isAgg9
  z9 := Tryz.sizeOf9
  v9 := Tryz.zeroValue9
  t21 := Tryz.underlying21
  a21 := Tryz.isAgg21
  z21 := Tryz.sizeOf21
  v21 := Tryz.zeroValue21
  t46 := Tryz.underlying152
  a46 := Tryz.isAgg152
  z46 := Tryz.sizeOf152
  v46 := Tryz.zeroValue152 }
open Go.RowKit Go.Lib in
theorem Tryz.strings_IndexRune_ascii (s : ByteArray) (r : Int) (w : World) (h0 : 0 ≤ r) (h1 : r < 128) :
    Calls Tryz.prog 112 #[.string s, .int .i32 r] w fun e w' => e = .returned (.int .i64 (Lib.indexByte s.data.toList r.toNat.toUInt8)) ∧ w' = w := Any.strings_IndexRune_ascii Tryz.lays152 s r w h0 h1
def Tryz.lays226_ren : Go.Shelf.Ren := ⟨fun | 226 => 113 | n => n, fun | 3 => 3 | 4 => 4 | n => n, fun | n => n⟩
theorem Tryz.lays226 : Go.Proofs.Lays.n226 Tryz.prog Tryz.lays226_ren := {
  mixed := by kernel_rfl
  f226 := Tryz.func113.trans (congrArg some (by kernel_rfl))
  t3 := Tryz.underlying3
  a3 := Tryz.isAgg3
  z3 := Tryz.sizeOf3
  v3 := Tryz.zeroValue3
  t4 := Tryz.underlying4
  a4 := Tryz.isAgg4
  z4 := Tryz.sizeOf4
  v4 := Tryz.zeroValue4 }
open Go.RowKit Go.Lib in
theorem Tryz.strings_shouldUseASCIISet (n : Int) (w : World) :
    Calls Tryz.prog 113 #[.int .i64 n] w fun e w' => e = .returned (.bool (decide (8 < n))) ∧ w' = w := Any.strings_shouldUseASCIISet Tryz.lays226 n w
def Tryz.lays153_ren : Go.Shelf.Ren := ⟨fun | 153 => 95 | 152 => 112 | 226 => 113 | 227 => 114 | 228 => 115 | 137 => 109 | 119 => 132 | 224 => 133 | 225 => 134 | 217 => 128 | 266 => 142 | n => n, fun | 9 => 9 | 3 => 3 | 4 => 4 | 5 => 5 | 21 => 21 | 117 => 166 | 116 => 165 | 0 => 0 | 46 => 152 | 124 => 182 | n => n, fun | n => n⟩
theorem Tryz.lays153 : Go.Proofs.Lays.n153 Tryz.prog Tryz.lays153_ren := {
  mixed := by kernel_rfl
  f119 := Tryz.func132.trans (congrArg some (by kernel_rfl))
  f137 := Tryz.func109.trans (congrArg some (by kernel_rfl))
  f152 := Tryz.func112.trans (congrArg some (by kernel_rfl))
  f153 := Tryz.func95.trans (congrArg some (by kernel_rfl))
  f217 := Tryz.func128.trans (congrArg some (by kernel_rfl))
  f224 := Tryz.func133.trans (congrArg some (by kernel_rfl))
  f225 := Tryz.func134.trans (congrArg some (by kernel_rfl))
  f226 := Tryz.func113.trans (congrArg some (by kernel_rfl))
  f227 := Tryz.func114.trans (congrArg some (by kernel_rfl))
  f228 := Tryz.func115.trans (congrArg some (by kernel_rfl))
  f266 := Tryz.func142.trans (congrArg some (by kernel_rfl))
  t0 := Tryz.underlying0
  a0 := Tryz.isAgg0
  z0 := Tryz.sizeOf0
  v0 := Tryz.zeroValue0
  t3 := Tryz.underlying3
  a3 := Tryz.isAgg3
  z3 := Tryz.sizeOf3
  v3 := Tryz.zeroValue3
  t4 := Tryz.underlying4
  a4 := Tryz.isAgg4
  z4 := Tryz.sizeOf4
  v4 := Tryz.zeroValue4
  t5 := Tryz.underlying5
  a5 := Tryz.isAgg5
  z5 := Tryz.sizeOf5
  v5 := Tryz.zeroValue5
  t9 := Tryz.underlying9
  a9 := Tryz.isAgg9
  z9 := Tryz.sizeOf9
  v9 := Tryz.zeroValue9
  t21 := Tryz.underlying21
  a21 := Tryz.isAgg21
  z21 := Tryz.sizeOf21
  v21 := Tryz.zeroValue21
  t46 := Tryz.underlying152
  a46 := Tryz.isAgg152
  z46 := Tryz.sizeOf152
  v46 := Tryz.zeroValue152
  t116 := Tryz.underlying165
  a116 := Tryz.isAgg165
  z116 := Tryz.sizeOf165
  t117 := Tryz.underlying166
  a117 := Tryz.isAgg166
  z117 := Tryz.sizeOf166
  v117 := Tryz.zeroValue166
  t124 := Tryz.underlying182
  a124 := Tryz.isAgg182
  z124 := Tryz.sizeOf182
  v124 := Tryz.zeroValue182 }
open Go.RowKit Go.Lib in
theorem Tryz.strings_IndexAny_short (s chars : ByteArray) (w : World) (h2 : 2 ≤ chars.size) (h8 : s.size ≤ 8) (hascii : ∀ (j : Nat) b, s.data.toList[j]? = some b → b.toNat < 128) :
    Calls Tryz.prog 95 #[.string s, .string chars] w fun e w' => e = .returned (.int .i64 (Lib.indexAny s.data.toList chars.data.toList)) ∧ ∃ pos, w' = w.iter s pos := Any.strings_IndexAny_short Tryz.lays153 s chars w h2 h8 hascii
open Go.RowKit Go.Lib in
theorem Tryz.strings_IndexAny_long (hv116 : ∀ w, (zeroValue 165).run Tryz.prog w = .ok (.agg (Array.replicate 256 (.bool false))) w) (s chars : ByteArray) (w : World) (h2 : 2 ≤ chars.size) (h8 : 8 < s.size) (hs : s.size < 4294967281) (hcs : chars.size < 4294967281) (hascii : ∀ (j : Nat) b, chars.data.toList[j]? = some b → b.toNat < 128) :
    Calls Tryz.prog 95 #[.string s, .string chars] w fun e w' => e = .returned (.int .i64 (Lib.indexAny s.data.toList chars.data.toList)) ∧ w' = ((w.alloc (.cells (Lib.setCells chars.data.toList) 165)).alloc (.cells (Lib.setCells chars.data.toList) 165)) := Any.strings_IndexAny_long Tryz.lays153 hv116 (by kernel_rfl) s chars w h2 h8 hs hcs hascii
open Go.RowKit Go.Lib in
theorem Tryz.strings_IndexAny_laid (s chars : ByteArray) (w : World) (hs : s.size < 4294967281) (hcs : chars.size < 4294967281) (has : ∀ (j : Nat) b, s.data.toList[j]? = some b → b.toNat < 128) (hac : ∀ (j : Nat) b, chars.data.toList[j]? = some b → b.toNat < 128) :
    Calls Tryz.prog 95 #[.string s, .string chars] w fun e w' => e = .returned (.int .i64 (Lib.indexAny s.data.toList chars.data.toList)) ∧ Below w.heap.size w w' := Any.strings_IndexAny_laid Tryz.lays153 (by kernel_rfl) s chars w hs hcs has hac
end Go.Proofs
/- The reader of terms: its state; take and until. -/
namespace Go.Proofs.YtfbfkoeaihknoaaGreatDoor
set_option maxRecDepth 100000
set_option maxRecDepth 100000
open Go.RowKit Go.ChangeShapes Go.WideShapes Go.Joins
/-- the number of a string, as Atoi takes it -/
def atoiO (l : List UInt8) : Option Int := match Lib.atoiAll l with
  | .ok v => some v
  | _ => none
theorem atoi_yes {l : List UInt8} {v : Int} (h : atoiO l = some v) (hl : l.length ≤ 1000000) (w : World) :
    Calls Tryz.prog 82 #[.string ⟨l.toArray⟩] w fun e w' => e = .returned (.tuple #[.int .i64 v, .nilIface]) ∧ Ext w w' := by
  have h1 : Lib.atoiAll l = .ok v := by
    unfold atoiO at h
    split at h
    · rename_i v' h2
      cases h
      exact h2
    · cases h
  refine (Tryz.strconv_Atoi_ok ⟨l.toArray⟩ (by rw [str_size]; omega) v (by rw [str_data]; exact h1) w).mono ?_
  rintro e w' ⟨rfl, h2⟩
  refine ⟨rfl, ?_⟩
  rcases h2 with rfl | ⟨t, rfl⟩
  · exact Ext.refl _
  · exact Lib.bytesWorld_below _ _ _
theorem atoi_no {l : List UInt8} (h : atoiO l = none) (hl : l.length ≤ 1000000) (w : World) (hg : Glob w) :
    Calls Tryz.prog 82 #[.string ⟨l.toArray⟩] w fun e w' => ∃ (v : Int) (te : TypeId) (p : Addr), e = .returned (.tuple #[.int .i64 v, .iface te (.pointer (some p))]) ∧ Ext w w' := by
  cases h1 : Lib.atoiAll l
  · unfold atoiO at h
    rw [h1] at h
    cases h
  · obtain ⟨tp, p, hv⟩ := hg.syn
    refine (Any.strconv_Atoi_syntax_var Tryz.laysC172 ⟨l.toArray⟩ (by rw [str_size]; omega) (by rw [str_data]; exact h1) tp p w hv).mono ?_
    rintro e w' ⟨N, rfl, _, _, hb⟩
    exact ⟨_, _, _, rfl, hb⟩
  · obtain ⟨tp, p, hv⟩ := hg.rng
    refine (Tryz.strconv_Atoi_range_var ⟨l.toArray⟩ (by rw [str_size]; omega) (by rw [str_data]; exact h1) tp p w hv).mono ?_
    rintro e w' ⟨N, rfl, _, _, hb⟩
    exact ⟨_, _, _, rfl, hb⟩
def atOk (k : Nat) : Bool := decide (atoiO (decD k) = some (k : Int))
theorem ats_ok : (List.range 201).all atOk = true := by decide +kernel
theorem at_hat : ∀ k : Nat, 2 ≤ k → k ≤ 200 → atoiO (decD k) = some (k : Int) := fun k _ h2 => by
  have h1 := List.all_eq_true.1 ats_ok k (List.mem_range.2 (by omega))
  simpa [atOk] using h1
/-- the bytes are below 128 -/
def Asc (s : List UInt8) : Prop := ∀ x ∈ s, x.toNat < 128
theorem Asc.suf {s r : List UInt8} (h : Asc s) (hr : r <:+ s) : Asc r := fun x hx => h x (hr.subset hx)
theorem stop_in (x : UInt8) : ([32, 40, 41, 42] : List UInt8).contains x = isStop x := by
  unfold isStop
  simp only [List.contains_cons, List.contains_nil, Bool.or_false, Bool.or_assoc]
theorem until_app : ∀ s : List UInt8, (untilS s).1 ++ (untilS s).2 = s := by
  intro s
  induction s with
  | nil => rfl
  | cons x l ih =>
    rw [untilS]
    split
    · rfl
    · simp [ih]
theorem until_suf (s : List UInt8) : (untilS s).2 <:+ s := ⟨(untilS s).1, until_app s⟩
theorem until_ge (s : List UInt8) : Lib.indexAny s [32, 40, 41, 42] = if (untilS s).2 = [] then -1 else ((untilS s).1.length : Int) := by
  induction s with
  | nil => rfl
  | cons x l ih =>
    rw [Lib.indexAny, stop_in, untilS]
    by_cases h : isStop x = true
    · rw [if_pos h, if_pos h]
      simp
    · rw [if_neg h, if_neg h, ih]
      by_cases h2 : (untilS l).2 = []
      · simp [h2]
      · rw [if_neg h2]
        simp only [h2, if_false]
        have : ¬ (((untilS l).1.length : Int) == -1) = true := by simp
        rw [if_neg this]
        simp
theorem until_end {s : List UInt8} (h : (untilS s).2 = []) : (untilS s).1 = s := by
  have := until_app s
  rw [h, List.append_nil] at this
  exact this
/-- a reader in memory -/
def RdAt (w : World) (g : Nat) (s : List UInt8) (d : Int) : Prop := w.heap[g]? = some (.cells #[.string ⟨s.toArray⟩, .int .i64 d] 93 (0, 0))
theorem RdAt.ext {w w' : World} {g : Nat} {s : List UInt8} {d : Int} (h : RdAt w g s d) (hb : Ext w w') : RdAt w' g s d := by
  unfold RdAt
  rw [hb.block g (Array.getElem?_eq_some_iff.1 h).1]
  exact h
theorem RdAt.lt {w : World} {g : Nat} {s : List UInt8} {d : Int} (h : RdAt w g s d) : g < w.heap.size := (Array.getElem?_eq_some_iff.1 h).1
theorem RdAt.facts {w : World} {g : Nat} {s : List UInt8} {d : Int} (h : RdAt w g s d) : w.cell? ⟨g, 0, none⟩ = some (.string ⟨s.toArray⟩) ∧ w.cell? ⟨g, 1, none⟩ = some (.int .i64 d) ∧ w.frozen? ⟨g, 0, none⟩ = false ∧ w.frozen? ⟨g, 1, none⟩ = false ∧ g < w.heap.size :=
  ⟨by rw [cell_of_row w g _ _ _ (0, 0) h]; rfl, by rw [cell_of_row w g _ _ _ (0, 0) h]; rfl, frozen_of_row w g _ _ _ h, frozen_of_row w g _ _ _ h, h.lt⟩
theorem RdAt.set0 {w : World} {g : Nat} {s : List UInt8} {d : Int} (h : RdAt w g s d) (r : List UInt8) : RdAt (w.setCell ⟨g, 0, none⟩ (.string ⟨r.toArray⟩)) g r d := heap_setCell_same w g 0 _ _ _ h
theorem RdAt.set1 {w : World} {g : Nat} {s : List UInt8} {d : Int} (h : RdAt w g s d) (e : Int) : RdAt (w.setCell ⟨g, 1, none⟩ (.int .i64 e)) g s e := heap_setCell_same w g 1 _ _ _ h
/-- what take returns, and leaves -/
def hitB (x : UInt8) : List UInt8 → Bool
  | [] => false
  | y :: _ => y == x
def hitR (x : UInt8) : List UInt8 → List UInt8
  | [] => []
  | y :: r => if y == x then r else y :: r
def TakeR (g : Nat) (x : UInt8) (s : List UInt8) (d : Int) (w : World) (e : Ending) (w' : World) : Prop := e = .returned (.bool (hitB x s)) ∧ RdAt w' g (hitR x s) d ∧ But (some g) w w'
theorem hit_suf (x : UInt8) (s : List UInt8) : hitR x s <:+ s := by
  cases s with
  | nil => exact List.suffix_refl _
  | cons y r =>
    rw [hitR]
    split
    · exact ⟨[y], rfl⟩
    · exact List.suffix_refl _
set_option maxHeartbeats 2000000 in
theorem take_any (x : UInt8) (c : Int) (hc : (x.toNat : Int) = c) (g : Nat) (s : List UInt8) (d : Int) (w : World) (h : RdAt w g s d) (hl : s.length ≤ 100000) :
    Calls Tryz.prog 67 #[.pointer (some ⟨g, 0, none⟩), .int .u8 c] w (TakeR g x s d w) := by
  have HR := Lib.hid h
  obtain ⟨c0, c1, f0, f1, hz⟩ := h.facts
  clear h
  cases s with
  | nil =>
    go_enter Tryz.func67, Tryz.ntmps67
    go_wp2_with fail
    go_ret
    exact ⟨rfl, HR.out.ext (by repeat (first | exact Ext.refl _ | assumption | refine Ext.alloc ?_ _ | refine Ext.drew ?_ | refine Ext.drewN ?_ _ | refine Ext.trans ?_ (by assumption))), But.of_ext (by repeat (first | exact Ext.refl _ | assumption | refine Ext.alloc ?_ _ | refine Ext.drew ?_ | refine Ext.drewN ?_ _ | refine Ext.trans ?_ (by assumption))) _⟩
  | cons y r =>
    have hn : ((((y :: r).length : Nat) : Int) == 0) = false := by rw [beq_eq_false_iff_ne]; simp; omega
    have hi : ∀ h : 0 < (y :: r).length, (⟨(y :: r).toArray⟩ : ByteArray)[0]'(by rw [str_size]; exact h) = y := fun _ => rfl
    by_cases hx : y = x
    · subst hx
      subst hc
      have HH := Lib.hid (show hitB y (y :: r) = true ∧ hitR y (y :: r) = r by simp [hitB, hitR])
      have hex : (⟨(y :: r).toArray⟩ : ByteArray).extract 1 (r.length + 1) = ⟨r.toArray⟩ := str_extD (y :: r) 1 (r.length + 1) (by simp)
      go_enter Tryz.func67, Tryz.ntmps67
      go_wp2_with fail
      go_ret
      exact ⟨by rw [HH.out.1]; rfl, by rw [HH.out.2]; exact HR.out.set0 r, (But.refl _ _).own rfl _⟩
    · have HH := Lib.hid (show hitB x (y :: r) = false ∧ hitR x (y :: r) = y :: r by simp [hitB, hitR, hx])
      have hne : (((y.toNat : Nat) : Int) != c) = true := by
        rw [← hc]
        simp
        intro e
        apply hx
        exact UInt8.toNat_inj.1 (by omega)
      go_enter Tryz.func67, Tryz.ntmps67
      go_wp2_with fail
      go_ret
      exact ⟨by rw [HH.out.1]; rfl, by rw [HH.out.2]; exact HR.out, But.refl _ _⟩
/-- where the word ends, in a string of bytes below 128 -/
theorem idx_any (s : List UInt8) (ha : Asc s) (hl : s.length ≤ 100000) (w : World) :
    Calls Tryz.prog 95 #[.string ⟨s.toArray⟩, .string ⟨#[32, 40, 41, 42]⟩] w fun e w' => e = .returned (.int .i64 (if (untilS s).2 = [] then -1 else ((untilS s).1.length : Int))) ∧ Ext w w' := by
  have h := Tryz.strings_IndexAny_laid ⟨s.toArray⟩ ⟨#[32, 40, 41, 42]⟩ w (by rw [str_size]; omega) (by decide) (fun j b hb => ha b (by rw [str_data] at hb; exact List.mem_of_getElem? hb)) (fun j b hb => by
    have h9 : b ∈ ([32, 40, 41, 42] : List UInt8) := List.mem_of_getElem? hb
    simp at h9
    rcases h9 with rfl | rfl | rfl | rfl <;> decide)
  rw [str_data, show (⟨#[32, 40, 41, 42]⟩ : ByteArray).data.toList = [32, 40, 41, 42] from rfl, until_ge] at h
  exact h
def UntilR (g : Nat) (s : List UInt8) (d : Int) (w : World) (e : Ending) (w' : World) : Prop := e = .returned (.string ⟨(untilS s).1.toArray⟩) ∧ RdAt w' g (untilS s).2 d ∧ But (some g) w w'
set_option maxHeartbeats 2000000 in
theorem until_any (g : Nat) (s : List UInt8) (d : Int) (w : World) (h : RdAt w g s d) (ha : Asc s) (hl : s.length ≤ 100000) :
    Calls Tryz.prog 81 #[.pointer (some ⟨g, 0, none⟩), .string ⟨#[32, 40, 41, 42]⟩] w (UntilR g s d w) := by
  have HR := Lib.hid h
  obtain ⟨c0, c1, f0, f1, hz⟩ := h.facts
  have HI := Lib.hid (fun (w' : World) => idx_any s ha hl w')
  clear h ha
  have happ := until_app s
  obtain ⟨X, hX⟩ : ∃ X, (untilS s).1 = X := ⟨_, rfl⟩
  obtain ⟨Y, hY⟩ : ∃ Y, (untilS s).2 = Y := ⟨_, rfl⟩
  rw [hX, hY] at happ
  by_cases h0 : Y = []
  · subst h0
    rw [List.append_nil] at happ
    subst happ
    have HXY := Lib.hid (And.intro hX hY)
    have HI2 := Lib.hid (fun (w' : World) => (show Calls Tryz.prog 95 #[.string ⟨X.toArray⟩, .string ⟨#[32, 40, 41, 42]⟩] w' fun e w'' => e = .returned (.int .i64 (-1)) ∧ Ext w' w'' from by
      have h9 := HI.out w'
      rw [hY, if_pos rfl] at h9
      exact h9))
    have e0 : (⟨X.toArray⟩ : ByteArray).extract 0 X.length = ⟨X.toArray⟩ := by rw [str_ext0, List.take_of_length_le (Nat.le_refl _)]
    have e1 : (⟨X.toArray⟩ : ByteArray).extract X.length X.length = ⟨([] : List UInt8).toArray⟩ := by rw [str_extD X X.length X.length (Nat.le_refl _), List.drop_of_length_le (Nat.le_refl _)]
    clear hX hY HI
    go_enter Tryz.func81, Tryz.ntmps81
    go_wp2_with (first
      | (go_at_call 95; go_loud ((with_reducible refine (HI2.out _).mono ?_); rintro e w1 ⟨rfl, hq1⟩; obtain ⟨x0, x1, x2, x3, x4⟩ := (HR.out.ext hq1).facts; have HQ := Lib.hid hq1)))
    go_ret
    exact ⟨by rw [HXY.out.1]; rfl, by rw [HXY.out.2]; exact (HR.out.ext HQ.out).set0 [], (But.of_ext HQ.out _).own rfl _⟩
  · have hlen : s.length = X.length + Y.length := by rw [← happ, List.length_append]
    have HXY := Lib.hid (And.intro hX hY)
    have HI2 := Lib.hid (fun (w' : World) => (show Calls Tryz.prog 95 #[.string ⟨s.toArray⟩, .string ⟨#[32, 40, 41, 42]⟩] w' fun e w'' => e = .returned (.int .i64 (X.length : Int)) ∧ Ext w' w'' from by
      have h9 := HI.out w'
      rw [hY, if_neg h0, hX] at h9
      exact h9))
    have e0 : (⟨s.toArray⟩ : ByteArray).extract 0 X.length = ⟨X.toArray⟩ := by rw [str_ext0, ← happ, List.take_left]
    have e1 : (⟨s.toArray⟩ : ByteArray).extract X.length (X.length + Y.length) = ⟨Y.toArray⟩ := by rw [str_extD s X.length (X.length + Y.length) (by omega), ← happ, List.drop_left]
    have b1 : (X.length : Int) ≤ (s.length : Int) := by omega
    have b2 : (0 : Int) ≤ (X.length : Int) := by omega
    have b3 : ¬ ((X.length : Int) < 0) := by omega
    clear hX hY HI happ h0
    go_enter Tryz.func81, Tryz.ntmps81
    go_wp2_with (first
      | (go_at_call 95; go_loud ((with_reducible refine (HI2.out _).mono ?_); rintro e w1 ⟨rfl, hq1⟩; obtain ⟨x0, x1, x2, x3, x4⟩ := (HR.out.ext hq1).facts; have HQ := Lib.hid hq1)))
    go_ret
    exact ⟨by rw [HXY.out.1]; rfl, by rw [HXY.out.2]; exact (HR.out.ext HQ.out).set0 Y, (But.of_ext HQ.out _).own rfl _⟩
end Go.Proofs.YtfbfkoeaihknoaaGreatDoor
/- The reader of terms in plain Lean: its steps by what is taken. -/
namespace Go.Proofs.YtfbfkoeaihknoaaGreatDoor
set_option maxRecDepth 100000
theorem rdN_hit (at_ : List UInt8 → Option Int) (c : St) (g : Tms) (s : List UInt8) : rdN at_ c g s = if hitB 42 s = true then (at_ (untilS (hitR 42 s)).1).map (fun n => ((n, c, g), (untilS (hitR 42 s)).2)) else some ((1, c, g), s) := by
  cases s with
  | nil => rfl
  | cons y r =>
    by_cases h : y = 42
    · subst h
      rw [rdN]
      simp only [hitB, hitR, beq_self_eq_true, if_true]
      cases at_ (untilS r).1 <;> rfl
    · have h1 : hitB 42 (y :: r) = false := by simp [hitB, h]
      rw [h1, if_neg (by simp), rdN]
      intro s e
      cases e
      exact h rfl
theorem rdT_grp (at_ : List UInt8 → Option Int) (f d : Nat) (s1 : List UInt8) : rdT at_ (f + 1) d (40 :: s1) = if 8 < d + 1 then none else (rdL at_ f (d + 1) s1).bind fun x => if hitB 41 x.2 = true then rdN at_ st0 x.1 (hitR 41 x.2) else none := by
  rw [rdT]
  split
  · rfl
  · cases h : rdL at_ f (d + 1) s1 with
    | none => rfl
    | some x =>
      obtain ⟨g, r⟩ := x
      rw [Option.bind_some]
      cases r with
      | nil => rfl
      | cons y r =>
        by_cases h : y = 41
        · subst h; simp [hitB, hitR]
        · have h1 : hitB 41 (y :: r) = false := by simp [hitB, h]
          simp only [h1]
          split
          · rename_i e
            cases e
            exact absurd rfl h
          · rfl
theorem rdT_word (at_ : List UInt8 → Option Int) (f d : Nat) {s : List UInt8} (h : hitB 40 s = false) : rdT at_ (f + 1) d s = match parseL (untilS s).1 with
    | some [c] => rdN at_ c .nil (untilS s).2
    | _ => none := by
  rw [rdT]
  · rfl
  · intro s1 e
    rw [e] at h
    simp [hitB] at h
theorem rdL_step (at_ : List UInt8 → Option Int) (f d : Nat) (s : List UInt8) : rdL at_ (f + 1) d s = (rdT at_ f d s).bind fun x => if hitB 32 x.2 = true then (rdL at_ f d (hitR 32 x.2)).map (fun y => (Tms.cons x.1.1 x.1.2.1 x.1.2.2 y.1, y.2)) else some (Tms.cons x.1.1 x.1.2.1 x.1.2.2 .nil, x.2) := by
  rw [rdL]
  cases h : rdT at_ f d s with
  | none => rfl
  | some x =>
    obtain ⟨⟨n, c, g⟩, r⟩ := x
    rw [Option.bind_some]
    cases r with
    | nil => rfl
    | cons y r =>
      by_cases h : y = 32
      · subst h; simp [hitB, hitR]
      · have h1 : hitB 32 (y :: r) = false := by simp [hitB, h]
        simp only [h1]
        split
        · rename_i e; cases e
        · rename_i e; cases e; exact absurd rfl h
        · rename_i e; cases e; rfl
end Go.Proofs.YtfbfkoeaihknoaaGreatDoor
/- number: what is read of the digits in front. -/
namespace Go.Proofs.YtfbfkoeaihknoaaGreatDoor
set_option maxRecDepth 100000
open Go.RowKit
theorem numR_0 {l : List UInt8} (h : headD 4 l = 0) : numR l = (-1, l) := by rw [numR, if_pos h]
theorem numR_1 {l : List UInt8} (h : headD 4 l ≠ 0) : numR l = ((valD (l.take (headD 4 l)) : Int), l.drop (headD 4 l)) := by rw [numR, if_neg h]
set_option maxHeartbeats 2000000 in
theorem number_any (l : List UInt8) (hl : l.length ≤ 100000) (w : World) (hg : Glob w) :
    Calls Tryz.prog 108 #[.string ⟨l.toArray⟩] w fun e w' => e = .returned (.tuple #[.int .i64 (numR l).1, .string ⟨(numR l).2.toArray⟩]) ∧ Ext w w' := by
  have HG := Lib.hid hg
  obtain ⟨hd1, hd2, hd3⟩ := headD_le 4 l
  have HD := Lib.hid hd3
  have HP := Lib.hid (fun k => headD_step (k := 4) (l := l) (n := k))
  obtain ⟨N, hN⟩ : ∃ N, headD 4 l = N := ⟨_, rfl⟩
  have HN := Lib.hid hN
  rw [hN] at hd1 hd2 HD HP
  clear hg hd3 hN
  have hx0 := fun k => str_ext0 l k
  have hxD := str_extD l N l.length (Nat.le_refl _)
  go_enter Tryz.func108, Tryz.ntmps108
  go_wp2_with fail
  go_loopw [4] (fun i wr => ∃ (k : Nat), i = .int .i64 k ∧ k ≤ N ∧ Hid (Ext w wr)) (fun i _ => N - (intOf i).toNat)
  case atStart => exact ⟨0, rfl, Nat.zero_le _, Lib.hid (by repeat (first | exact Ext.refl _ | assumption | refine Ext.alloc ?_ _ | refine Ext.drew ?_ | refine Ext.drewN ?_ _ | refine Ext.trans ?_ (by assumption)))⟩
  case round =>
    obtain ⟨k, rfl, hk, HE⟩ := hrel
    have hstep := HP.out k hk
    by_cases hlt : k < N
    · obtain ⟨h1, h2, h3⟩ := hstep.1 hlt
      have h4 := dg_val h3
      have h5 := str_at l k
      clear hstep h3
      have q0 : (0 : Int) ≤ (k : Int) := by omega
      have q1 : (k : Int) < (l.length : Int) := by omega
      have q2 : (k : Int) < 4 := by omega
      generalize hc : l.getD k 0 = c at *
      have q3 : (48 : Int) ≤ (c.toNat : Int) := by omega
      have q4 : (c.toNat : Int) ≤ 57 := by omega
      clear hc
      go_wp2_with fail
      go_roundw
      case rel => exact ⟨k + 1, by go_num, by omega, Lib.hid (by have := HE.out; repeat (first | exact Ext.refl _ | assumption | refine Ext.alloc ?_ _ | refine Ext.drew ?_ | refine Ext.drewN ?_ _ | refine Ext.trans ?_ (by assumption)))⟩
      case measure => simp [intOf]; omega
    · obtain rfl : N = k := by omega
      have hno : ¬ (N < 4 ∧ N < l.length ∧ isDg (l.getD N 0) = true) := fun h => hlt (hstep.2 h)
      by_cases hN0 : N = 0
      · subst hN0
        have HR := Lib.hid (numR_0 HN.out)
        have hz : (⟨l.toArray⟩ : ByteArray).extract 0 0 = ⟨#[]⟩ := by rw [str_ext0]; rfl
        by_cases hl4 : 0 < 4
        · by_cases hll : 0 < l.length
          · have h5 := str_at l 0
            have q0 : (0 : Int) ≤ (0 : Int) := by omega
            have q1 : (0 : Int) < (l.length : Int) := by omega
            have q2 : (0 : Int) < 4 := by omega
            have hnd : ¬ isDg (l.getD 0 0) = true := fun h => hno ⟨hl4, hll, h⟩
            generalize hc : l.getD 0 0 = c at *
            have hnd2 : c.toNat < 48 ∨ 57 < c.toNat := by
              by_cases h6 : c.toNat < 48
              · exact .inl h6
              · right
                rcases Nat.lt_or_ge 57 c.toNat with h7 | h7
                · exact h7
                · exfalso
                  apply hnd
                  simp only [isDg, Bool.and_eq_true, decide_eq_true_eq, UInt8.le_iff_toNat_le]
                  exact ⟨by simpa using Nat.le_of_not_lt h6, by simpa using h7⟩
            clear hc hnd hno hstep
            rcases hnd2 with h6 | h6
            · have q3 : (c.toNat : Int) < 48 := by omega
              go_wp2_with (go_at_call 82; go_loud (((with_reducible refine (atoi_e_any _ (HG.out.ext (by have := HE.out; repeat (first | exact Ext.refl _ | assumption | refine Ext.alloc ?_ _ | refine Ext.drew ?_ | refine Ext.drewN ?_ _ | refine Ext.trans ?_ (by assumption))))).mono ?_); rintro e w1 ⟨⟨te, pe, rfl⟩, hq1⟩)))
              go_ret2
              exact ⟨by rw [HR.out]; rfl, by have := HE.out; repeat (first | exact Ext.refl _ | assumption | refine Ext.alloc ?_ _ | refine Ext.drew ?_ | refine Ext.drewN ?_ _ | refine Ext.trans ?_ (by assumption))⟩
            · have q3 : (57 : Int) < (c.toNat : Int) := by omega
              have q4 : (48 : Int) ≤ (c.toNat : Int) := by omega
              go_wp2_with (go_at_call 82; go_loud (((with_reducible refine (atoi_e_any _ (HG.out.ext (by have := HE.out; repeat (first | exact Ext.refl _ | assumption | refine Ext.alloc ?_ _ | refine Ext.drew ?_ | refine Ext.drewN ?_ _ | refine Ext.trans ?_ (by assumption))))).mono ?_); rintro e w1 ⟨⟨te, pe, rfl⟩, hq1⟩)))
              go_ret2
              exact ⟨by rw [HR.out]; rfl, by have := HE.out; repeat (first | exact Ext.refl _ | assumption | refine Ext.alloc ?_ _ | refine Ext.drew ?_ | refine Ext.drewN ?_ _ | refine Ext.trans ?_ (by assumption))⟩
          · have q1 : ¬ ((0 : Int) < (l.length : Int)) := by omega
            clear hstep hno
            go_wp2_with (go_at_call 82; go_loud (((with_reducible refine (atoi_e_any _ (HG.out.ext (by have := HE.out; repeat (first | exact Ext.refl _ | assumption | refine Ext.alloc ?_ _ | refine Ext.drew ?_ | refine Ext.drewN ?_ _ | refine Ext.trans ?_ (by assumption))))).mono ?_); rintro e w1 ⟨⟨te, pe, rfl⟩, hq1⟩)))
            go_ret2
            exact ⟨by rw [HR.out]; rfl, by have := HE.out; repeat (first | exact Ext.refl _ | assumption | refine Ext.alloc ?_ _ | refine Ext.drew ?_ | refine Ext.drewN ?_ _ | refine Ext.trans ?_ (by assumption))⟩
        · have q2 : ¬ ((0 : Int) < 4) := by omega
          by_cases hll : 0 < l.length
          · have q1 : (0 : Int) < (l.length : Int) := by omega
            clear hstep hno
            go_wp2_with (go_at_call 82; go_loud (((with_reducible refine (atoi_e_any _ (HG.out.ext (by have := HE.out; repeat (first | exact Ext.refl _ | assumption | refine Ext.alloc ?_ _ | refine Ext.drew ?_ | refine Ext.drewN ?_ _ | refine Ext.trans ?_ (by assumption))))).mono ?_); rintro e w1 ⟨⟨te, pe, rfl⟩, hq1⟩)))
            go_ret2
            exact ⟨by rw [HR.out]; rfl, by have := HE.out; repeat (first | exact Ext.refl _ | assumption | refine Ext.alloc ?_ _ | refine Ext.drew ?_ | refine Ext.drewN ?_ _ | refine Ext.trans ?_ (by assumption))⟩
          · have q1 : ¬ ((0 : Int) < (l.length : Int)) := by omega
            clear hstep hno
            go_wp2_with (go_at_call 82; go_loud (((with_reducible refine (atoi_e_any _ (HG.out.ext (by have := HE.out; repeat (first | exact Ext.refl _ | assumption | refine Ext.alloc ?_ _ | refine Ext.drew ?_ | refine Ext.drewN ?_ _ | refine Ext.trans ?_ (by assumption))))).mono ?_); rintro e w1 ⟨⟨te, pe, rfl⟩, hq1⟩)))
            go_ret2
            exact ⟨by rw [HR.out]; rfl, by have := HE.out; repeat (first | exact Ext.refl _ | assumption | refine Ext.alloc ?_ _ | refine Ext.drew ?_ | refine Ext.drewN ?_ _ | refine Ext.trans ?_ (by assumption))⟩

      · have HR := Lib.hid (numR_1 (l := l) (by rw [HN.out]; exact hN0))
        rw [HN.out] at HR
        have HAT := Lib.hid (fun w' => atoi_digits_any (l.take N) (by rw [List.length_take]; omega) HD.out (fun e => by have h9 := congrArg List.length e; rw [List.length_take, List.length_nil] at h9; omega) w')
        have hp : (0 : Int) < (N : Int) := by omega
        generalize valD (l.take N) = V at *
        generalize l.drop N = R at *
        by_cases hl4 : N < 4
        · by_cases hll : N < l.length
          · have h5 := str_at l N
            have q0 : (0 : Int) ≤ (N : Int) := by omega
            have q1 : (N : Int) < (l.length : Int) := by omega
            have q2 : (N : Int) < 4 := by omega
            have hnd : ¬ isDg (l.getD N 0) = true := fun h => hno ⟨hl4, hll, h⟩
            generalize hc : l.getD N 0 = c at *
            have hnd2 : c.toNat < 48 ∨ 57 < c.toNat := by
              by_cases h6 : c.toNat < 48
              · exact .inl h6
              · right
                rcases Nat.lt_or_ge 57 c.toNat with h7 | h7
                · exact h7
                · exfalso
                  apply hnd
                  simp only [isDg, Bool.and_eq_true, decide_eq_true_eq, UInt8.le_iff_toNat_le]
                  exact ⟨by simpa using Nat.le_of_not_lt h6, by simpa using h7⟩
            clear hc hnd hno hstep
            rcases hnd2 with h6 | h6
            · have q3 : (c.toNat : Int) < 48 := by omega
              go_wp2_with (go_at_call 82; go_loud (((with_reducible refine (HAT.out _).mono ?_); rintro e w1 ⟨rfl, hq1⟩)))
              go_wp2
              go_quiet (fail)
              go_wp2
              go_ret2
              exact ⟨by rw [HR.out]; rfl, by have := HE.out; repeat (first | exact Ext.refl _ | assumption | refine Ext.alloc ?_ _ | refine Ext.drew ?_ | refine Ext.drewN ?_ _ | refine Ext.trans ?_ (by assumption))⟩
            · have q3 : (57 : Int) < (c.toNat : Int) := by omega
              have q4 : (48 : Int) ≤ (c.toNat : Int) := by omega
              go_wp2_with (go_at_call 82; go_loud (((with_reducible refine (HAT.out _).mono ?_); rintro e w1 ⟨rfl, hq1⟩)))
              go_wp2
              go_quiet (fail)
              go_wp2
              go_ret2
              exact ⟨by rw [HR.out]; rfl, by have := HE.out; repeat (first | exact Ext.refl _ | assumption | refine Ext.alloc ?_ _ | refine Ext.drew ?_ | refine Ext.drewN ?_ _ | refine Ext.trans ?_ (by assumption))⟩
          · have q1 : ¬ ((N : Int) < (l.length : Int)) := by omega
            clear hstep hno
            go_wp2_with (go_at_call 82; go_loud (((with_reducible refine (HAT.out _).mono ?_); rintro e w1 ⟨rfl, hq1⟩)))
            go_wp2
            go_quiet (fail)
            go_wp2
            go_ret2
            exact ⟨by rw [HR.out]; rfl, by have := HE.out; repeat (first | exact Ext.refl _ | assumption | refine Ext.alloc ?_ _ | refine Ext.drew ?_ | refine Ext.drewN ?_ _ | refine Ext.trans ?_ (by assumption))⟩
        · have q2 : ¬ ((N : Int) < 4) := by omega
          by_cases hll : N < l.length
          · have q1 : (N : Int) < (l.length : Int) := by omega
            clear hstep hno
            go_wp2_with (go_at_call 82; go_loud (((with_reducible refine (HAT.out _).mono ?_); rintro e w1 ⟨rfl, hq1⟩)))
            go_wp2
            go_quiet (fail)
            go_wp2
            go_ret2
            exact ⟨by rw [HR.out]; rfl, by have := HE.out; repeat (first | exact Ext.refl _ | assumption | refine Ext.alloc ?_ _ | refine Ext.drew ?_ | refine Ext.drewN ?_ _ | refine Ext.trans ?_ (by assumption))⟩
          · have q1 : ¬ ((N : Int) < (l.length : Int)) := by omega
            clear hstep hno
            go_wp2_with (go_at_call 82; go_loud (((with_reducible refine (HAT.out _).mono ?_); rintro e w1 ⟨rfl, hq1⟩)))
            go_wp2
            go_quiet (fail)
            go_wp2
            go_ret2
            exact ⟨by rw [HR.out]; rfl, by have := HE.out; repeat (first | exact Ext.refl _ | assumption | refine Ext.alloc ?_ _ | refine Ext.drew ?_ | refine Ext.drewN ?_ _ | refine Ext.trans ?_ (by assumption))⟩

end Go.Proofs.YtfbfkoeaihknoaaGreatDoor
