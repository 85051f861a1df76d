/- The reader of terms in plain Lean: what is left is the end of what was there. -/
import Derived.Test.YtfbfkoeaihknoaaGreatDoorH01
import Derived.Lib.DecodeN
import Derived.Lib.IndexAny
import Derived.Test.YtfbfkoeaihknoaaGreatDoorH02
import Derived.Shelf.Strings.Builder1
import Derived.Shelf.Strings.Builder2
import Derived.Shelf.Strings.OnBuilder
import Derived.Shelf.Small.Utf8
import Derived.Shelf.Small.Strs
import Derived.Shelf.Strings.BuilderF
import Derived.Shelf.Strings.BuilderK
import Derived.Shelf.Strconv.Atoi
import Derived.Shelf.Strconv.Itoa0
import Derived.Shelf.Strconv.Itoa1
import Derived.Shelf.LaysM
import Derived.Shelf.Strconv.Itoa2
import Derived.Shelf.Strconv.Itoa3
import Derived.Shelf.Strconv.AtoiErrFast
import Derived.Shelf.Strconv.ParseIntEmpty
import Derived.Shelf.Strconv.AtoiFail
import Derived.Shelf.Strconv.Clone
import Derived.Shelf.Strconv.SyntaxError
import Derived.Shelf.LaysC
import Derived.Shelf.Strconv.ToError
import Derived.Shelf.Strconv.AtoiErr
import Derived.Shelf.Strconv.ErrVar
import Derived.Shelf.Strconv.Lower
import Derived.Shelf.Strconv.ParseUint10
import Derived.Shelf.Strconv.ParseUint10Empty
import Derived.Shelf.Strconv.ParseUint10Any
import Derived.Shelf.Strconv.ParseInt10
import Derived.Shelf.Strconv.AtoiLong
import Derived.Shelf.Strconv.AtoiInnerAll
import Derived.Shelf.Strconv.RangeError
import Derived.Shelf.Strconv.ToErrorRange
import Derived.Shelf.Strconv.AtoiAll
import Derived.Shelf.Strconv.ErrVarAll
import Derived.Shelf.Strings.Search1
import Derived.Shelf.Strings.Search2
import Derived.Shelf.Strings.Search3
import Derived.Shelf.Strings.Count
import Derived.Shelf.Strings.Shaped
import Derived.Shelf.Strings.Prefix
import Derived.Shelf.Strings.Split
import Derived.Shelf.Strings.SplitShaped
import Derived.Shelf.Strings.Runes
import Derived.Shelf.Strings.IndexAny
import Derived.Shelf.Strings.AsciiSet
import Derived.Shelf.Strings.IndexAnyAll
import Derived.Shelf.Bits.Mul64
import Derived.Shelf.Unicode.DecodeSlow
import Derived.Test.YtfbfkoeaihknoaaGreatDoorProg
namespace Go.Proofs.YtfbfkoeaihknoaaGreatDoor
set_option maxRecDepth 100000
theorem untilS_suf : ∀ s : List UInt8, (untilS s).2 <:+ s := by
  intro s
  induction s with
  | nil => exact List.suffix_refl _
  | cons x l ih =>
    rw [untilS]
    split
    · exact List.suffix_refl _
    · exact ih.trans (List.suffix_cons x l)
theorem rdN_suf {at_ : List UInt8 → Option Int} {c : St} {g : Tms} {s : List UInt8} {x : (Int × St × Tms) × List UInt8} (h : rdN at_ c g s = some x) : x.2 <:+ s := by
  unfold rdN at h
  split at h
  · rename_i s'
    split at h
    · cases h
    · cases h
      exact (untilS_suf s').trans (List.suffix_cons _ _)
  · cases h
    exact List.suffix_refl _
theorem rd_suf (at_ : List UInt8 → Option Int) : ∀ f, (∀ d s x, rdT at_ f d s = some x → x.2 <:+ s) ∧ (∀ d s x, rdL at_ f d s = some x → x.2 <:+ s ∧ x.1.cnt + x.2.length ≤ s.length + 1) := by
  intro f
  induction f with
  | zero => exact ⟨fun d s x h => (by rw [rdT] at h; cases h), fun d s x h => (by rw [rdL] at h; cases h)⟩
  | succ f ih =>
    refine ⟨fun d s x h => ?_, fun d s x h => ?_⟩
    · unfold rdT at h
      split at h
      · rename_i s1
        split at h
        · cases h
        · split at h
          · rename_i g s2 h2
            have h3 := (ih.2 _ _ _ h2).1
            have h4 := rdN_suf h
            exact ((h4.trans (List.suffix_cons _ _)).trans h3).trans (List.suffix_cons _ _)
          · cases h
      · split at h
        · exact (rdN_suf h).trans (untilS_suf _)
        · cases h
    · rw [rdL] at h
      split at h
      · cases h
      · rename_i n c g s2 h2
        have h3 := ih.1 _ _ _ h2
        obtain ⟨y, hy, e⟩ := Option.map_eq_some_iff.1 h
        subst e
        obtain ⟨h4, h5⟩ := ih.2 _ _ _ hy
        have h6 := h3.length_le
        simp only [List.length_cons] at h6
        refine ⟨(h4.trans (List.suffix_cons _ _)).trans h3, ?_⟩
        simp only [Tms.cnt]
        omega
      · rename_i n c g s1 hne h2
        cases h
        have h3 := ih.1 _ _ _ h2
        have h6 := h3.length_le
        refine ⟨h3, ?_⟩
        simp only [Tms.cnt]
        simp only at h6
        omega
end Go.Proofs.YtfbfkoeaihknoaaGreatDoor
/- Runes of bytes of 128 and more: they are no runes below 128, and what is skipped with them are such bytes. -/
namespace Go.Proofs.YtfbfkoeaihknoaaGreatDoor
set_option maxRecDepth 100000
/-- the byte at a place, 0 beyond the end -/
theorem decN_high (n b0 b1 b2 b3 : Nat) (h : 128 ≤ b0) (h2 : b0 < 256) :
    128 ≤ (Lib.decodeN n b0 b1 b2 b3).1 ∧ (Lib.decodeN n b0 b1 b2 b3).1 ≤ 1114111 ∧ ((Lib.decodeN n b0 b1 b2 b3).1 < 55296 ∨ 57344 ≤ (Lib.decodeN n b0 b1 b2 b3).1) ∧ 1 ≤ (Lib.decodeN n b0 b1 b2 b3).2 ∧
    ∀ k, k < (Lib.decodeN n b0 b1 b2 b3).2 → k = 0 ∨ (k = 1 ∧ 1 < n ∧ 128 ≤ b1) ∨ (k = 2 ∧ 2 < n ∧ 128 ≤ b2) ∨ (k = 3 ∧ 3 < n ∧ 128 ≤ b3) := by
  have m1 := Nat.mod_lt b1 (show 0 < 64 by decide)
  have m2 := Nat.mod_lt b2 (show 0 < 64 by decide)
  have m3 := Nat.mod_lt b3 (show 0 < 64 by decide)
  unfold Lib.decodeN
  repeat' split
  all_goals refine ⟨?_, ?_, ?_, ?_, fun k hk => ?_⟩
  all_goals simp only [] at *
  all_goals omega
/-- a rune of 128 and more, and its bytes -/
theorem dec_high (s : ByteArray) (i : Nat) (hi : i < s.size) (h : 128 ≤ (s[i]'hi).toNat) :
    128 ≤ (Utf8.decode s i).1 ∧ (Utf8.decode s i).1 ≤ 1114111 ∧ ((Utf8.decode s i).1 < 55296 ∨ 57344 ≤ (Utf8.decode s i).1) ∧ 1 ≤ (Utf8.decode s i).2 ∧ i + (Utf8.decode s i).2 ≤ s.size ∧
    ∀ (j : Nat) x, i ≤ j → j < i + (Utf8.decode s i).2 → s.data.toList[j]? = some x → 128 ≤ x.toNat := by
  have hg : ∀ (j : Nat), j < s.size → s.data.toList[j]? = some (s.get! j) := fun j hj => by
    have hj2 : j < s.data.size := hj
    rw [Array.getElem?_toList, Array.getElem?_eq_getElem hj2]
    exact congrArg some (getElem!_pos s.data j hj2).symm
  have e0 : s.get! i = s[i]'hi := by
    have hj2 : i < s.data.size := hi
    exact getElem!_pos s.data i hj2
  obtain ⟨h1, h2, h3, h4, h5⟩ := decN_high (s.size - i) (s.get! i).toNat (s.get! (i + 1)).toNat (s.get! (i + 2)).toNat (s.get! (i + 3)).toNat (by rw [e0]; exact h) (UInt8.toNat_lt _)
  rw [← Lib.decode_at] at h1 h2 h3 h4 h5
  have hw : i + (Utf8.decode s i).2 ≤ s.size := by
    have h9 := h5 ((Utf8.decode s i).2 - 1) (by omega)
    omega
  refine ⟨h1, h2, h3, h4, hw, fun j x hij hj hx => ?_⟩
  rw [hg j (by omega)] at hx
  cases hx
  have h9 := h5 (j - i) (by omega)
  rcases h9 with h9 | ⟨h9, _, h10⟩ | ⟨h9, _, h10⟩ | ⟨h9, _, h10⟩
  · rw [show j = i by omega, e0]
    exact h
  · rw [show j = i + 1 by omega]
    exact h10
  · rw [show j = i + 2 by omega]
    exact h10
  · rw [show j = i + 3 by omega]
    exact h10
theorem mkb2 (a b : UInt8) : (⟨#[a, b]⟩ : ByteArray) = ⟨[a, b].toArray⟩ := rfl
theorem mkb3 (a b c : UInt8) : (⟨#[a, b, c]⟩ : ByteArray) = ⟨[a, b, c].toArray⟩ := rfl
theorem mkb4 (a b c d : UInt8) : (⟨#[a, b, c, d]⟩ : ByteArray) = ⟨[a, b, c, d].toArray⟩ := rfl
/-- the bytes of a rune of 128 and more -/
theorem enc_high (c : Nat) (h : 128 ≤ c) (h2 : c ≤ 1114111) (h3 : c < 55296 ∨ 57344 ≤ c) :
    ∃ (n : Nat) (l : List UInt8), Utf8.encode (c : Int) = ⟨l.toArray⟩ ∧ l.length = n + 1 ∧ 1 ≤ n ∧ n ≤ 3 ∧ ∀ x ∈ l, 128 ≤ x.toNat := by
  have hv : Utf8.valid (c : Int) = true := by
    unfold Utf8.valid
    rw [Bool.or_eq_true, Bool.and_eq_true, Bool.and_eq_true, decide_eq_true_eq, decide_eq_true_eq, decide_eq_true_eq, decide_eq_true_eq]
    omega
  have hb : ∀ n : Nat, 128 ≤ n → n < 256 → 128 ≤ (UInt8.ofNat n).toNat := fun n h1 h2 => by
    rw [UInt8.toNat_ofNat', Nat.mod_eq_of_lt h2]
    exact h1
  unfold Utf8.encode
  rw [hv]
  simp only [if_true, Int.toNat_natCast]
  have d1 := Nat.mod_lt c (show 0 < 64 by decide)
  have d2 := Nat.mod_lt (c / 64) (show 0 < 64 by decide)
  have d3 := Nat.mod_lt (c / 4096) (show 0 < 64 by decide)
  rw [if_neg (by omega)]
  split
  · refine ⟨1, _, mkb2 _ _, rfl, by omega, by omega, fun x hx => ?_⟩
    simp only [List.mem_cons, List.not_mem_nil, or_false] at hx
    rcases hx with rfl | rfl <;> exact hb _ (by omega) (by omega)
  · split
    · refine ⟨2, _, mkb3 _ _ _, rfl, by omega, by omega, fun x hx => ?_⟩
      simp only [List.mem_cons, List.not_mem_nil, or_false] at hx
      rcases hx with rfl | rfl | rfl <;> exact hb _ (by omega) (by omega)
    · refine ⟨3, _, mkb4 _ _ _ _, rfl, by omega, by omega, fun x hx => ?_⟩
      simp only [List.mem_cons, List.not_mem_nil, or_false] at hx
      rcases hx with rfl | rfl | rfl | rfl <;> exact hb _ (by omega) (by omega)
end Go.Proofs.YtfbfkoeaihknoaaGreatDoor
/- The library contracts that this claim uses besides, laid at its program by the kit (lay-shelf, lay-plain) and cut down to those. -/
namespace Go.Proofs
open Go.Shelf
def Tryz.lays152_ren : Go.Shelf.Ren := ⟨fun | 152 => 112 | 137 => 109 | 119 => 132 | 224 => 133 | 225 => 134 | 217 => 128 | 266 => 142 | n => n, fun | 9 => 9 | 21 => 21 | 3 => 3 | 4 => 4 | 5 => 5 | 0 => 0 | 46 => 152 | n => n, fun | n => n⟩
theorem Tryz.lays152 : Go.Proofs.Lays.n152 Tryz.prog Tryz.lays152_ren := {
  mixed := by kernel_rfl
  f119 := Tryz.func132.trans (congrArg some (by kernel_rfl))
  f137 := Tryz.func109.trans (congrArg some (by kernel_rfl))
  f152 := Tryz.func112.trans (congrArg some (by kernel_rfl))
  f217 := Tryz.func128.trans (congrArg some (by kernel_rfl))
  f224 := Tryz.func133.trans (congrArg some (by kernel_rfl))
  f225 := Tryz.func134.trans (congrArg some (by kernel_rfl))
  f266 := Tryz.func142.trans (congrArg some (by kernel_rfl))
  t0 := Tryz.underlying0
  a0 := Tryz.isAgg0
  z0 := Tryz.sizeOf0
  v0 := Tryz.zeroValue0
  t3 := Tryz.underlying3
  a3 := Tryz.isAgg3
  z3 := Tryz.sizeOf3
  v3 := Tryz.zeroValue3
  t4 := Tryz.underlying4
  a4 := Tryz.isAgg4
  z4 := Tryz.sizeOf4
  v4 := Tryz.zeroValue4
  t5 := Tryz.underlying5
  a5 := Tryz.isAgg5
  z5 := Tryz.sizeOf5
  v5 := Tryz.zeroValue5
  t9 := Tryz.underlying9
  a9 := Tryz.isAgg9
  z9 := Tryz.sizeOf9
  v9 := Tryz.zeroValue9
  t21 := Tryz.underlying21
  a21 := Tryz.isAgg21
  z21 := Tryz.sizeOf21
  v21 := Tryz.zeroValue21
  t46 := Tryz.underlying152
  a46 := Tryz.isAgg152
  z46 := Tryz.sizeOf152
  v46 := Tryz.zeroValue152 }
open Go.RowKit Go.Lib in
theorem Tryz.strings_IndexRune_ascii (s : ByteArray) (r : Int) (w : World) (h0 : 0 ≤ r) (h1 : r < 128) :
    Calls Tryz.prog 112 #[.string s, .int .i32 r] w fun e w' => e = .returned (.int .i64 (Lib.indexByte s.data.toList r.toNat.toUInt8)) ∧ w' = w := Any.strings_IndexRune_ascii Tryz.lays152 s r w h0 h1
def Tryz.lays226_ren : Go.Shelf.Ren := ⟨fun | 226 => 113 | n => n, fun | 3 => 3 | 4 => 4 | n => n, fun | n => n⟩
theorem Tryz.lays226 : Go.Proofs.Lays.n226 Tryz.prog Tryz.lays226_ren := {
  mixed := by kernel_rfl
  f226 := Tryz.func113.trans (congrArg some (by kernel_rfl))
  t3 := Tryz.underlying3
  a3 := Tryz.isAgg3
  z3 := Tryz.sizeOf3
  v3 := Tryz.zeroValue3
  t4 := Tryz.underlying4
  a4 := Tryz.isAgg4
  z4 := Tryz.sizeOf4
  v4 := Tryz.zeroValue4 }
open Go.RowKit Go.Lib in
theorem Tryz.strings_shouldUseASCIISet (n : Int) (w : World) :
    Calls Tryz.prog 113 #[.int .i64 n] w fun e w' => e = .returned (.bool (decide (8 < n))) ∧ w' = w := Any.strings_shouldUseASCIISet Tryz.lays226 n w
open Go.RowKit Go.Lib in
theorem Tryz.strings_IndexAny_short (s chars : ByteArray) (w : World) (h2 : 2 ≤ chars.size) (h8 : s.size ≤ 8) (hascii : ∀ (j : Nat) b, s.data.toList[j]? = some b → b.toNat < 128) :
    Calls Tryz.prog 95 #[.string s, .string chars] w fun e w' => e = .returned (.int .i64 (Lib.indexAny s.data.toList chars.data.toList)) ∧ ∃ pos, w' = w.iter s pos := Any.strings_IndexAny_short Tryz.lays153 s chars w h2 h8 hascii
open Go.RowKit Go.Lib in
theorem Tryz.strings_IndexAny_long (hv116 : ∀ w, (zeroValue 165).run Tryz.prog w = .ok (.agg (Array.replicate 256 (.bool false))) w) (s chars : ByteArray) (w : World) (h2 : 2 ≤ chars.size) (h8 : 8 < s.size) (hs : s.size < 4294967281) (hcs : chars.size < 4294967281) (hascii : ∀ (j : Nat) b, chars.data.toList[j]? = some b → b.toNat < 128) :
    Calls Tryz.prog 95 #[.string s, .string chars] w fun e w' => e = .returned (.int .i64 (Lib.indexAny s.data.toList chars.data.toList)) ∧ w' = ((w.alloc (.cells (Lib.setCells chars.data.toList) 165)).alloc (.cells (Lib.setCells chars.data.toList) 165)) := Any.strings_IndexAny_long Tryz.lays153 hv116 (by kernel_rfl) s chars w h2 h8 hs hcs hascii
end Go.Proofs
