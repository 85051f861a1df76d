/- What the rows' listed variables give. -/
import Derived.Test.YtpcefmopoceiiaaGreatDoorGlob
import Derived.Test.YtpcefmopoceiiaaGreatDoorTie
namespace Go.Proofs.YtpcefmopoceiiaaGreatDoor
set_option maxRecDepth 100000
set_option maxRecDepth 100000
open Go.ChangeShapes Go.WideShapes Go.ChangeAt Go.RowKit
theorem star_err : "*" ++ "errors.errorString" = "*errors.errorString" := by decide
theorem row_err (u : TypeId) (h : Tryz.prog.typeName? 3 u = some "*errors.errorString") : u = 145 :=
  typeName_ptr_named (nm := "errors.errorString") (by rw [star_err]; kernel_rfl) (by kernel_rfl) (by decide) u (by rw [star_err]; exact h)
theorem pow_tab : Rows.laid_internal_strconv_uint64pow10 (H := Unit) = Lib.tabData .u64 Lib.pow10Tab := by rfl
theorem glob_of {W : World} (hL : laidMet Tryz.prog [("math/bits.deBruijn32tab", Rows.laid_math_bits_deBruijn32tab), ("math/bits.deBruijn64tab", Rows.laid_math_bits_deBruijn64tab), ("internal/strconv.uint64pow10", Rows.laid_internal_strconv_uint64pow10), ("unicode/utf8.acceptRanges", Rows.laid_unicode_utf8_acceptRanges), ("strconv.ErrRange", Rows.laid_strconv_ErrRange), ("strconv.ErrSyntax", Rows.laid_strconv_ErrSyntax), ("unicode/utf8.first", Rows.laid_unicode_utf8_first)] W) (hsh : W.ShapedOpen Tryz.prog) : Glob W := by
  have h1 := laidMet.tail (laidMet.tail hL)
  have h2 := laidMet.tail (laidMet.tail h1)
  have h3 := laidMet.tail h2
  rw [pow_tab] at h1
  refine ⟨Lib.tabIs_of_head (g := 1) (t := 128) (e := 102) (n := 20) (by kernel_rfl) (by kernel_rfl) (by kernel_rfl) (by kernel_rfl) (by kernel_rfl) (by kernel_rfl) h1, ?_, ?_, Tryz.laysM146.s1_3 W hsh⟩
  · obtain ⟨a, s, h, -⟩ := laid_sentinel (g := 4) (ti := 93) (tp := 145) (te := 147) (ts := 9) h3 (by kernel_rfl) (by kernel_rfl) Tryz.underlying93 row_err (by kernel_rfl) Tryz.underlying147 rfl rfl (by kernel_rfl) (by kernel_rfl) (by kernel_rfl)
    exact ⟨_, _, h⟩
  · obtain ⟨a, s, h, -⟩ := laid_sentinel (g := 5) (ti := 93) (tp := 145) (te := 147) (ts := 9) h2 (by kernel_rfl) (by kernel_rfl) Tryz.underlying93 row_err (by kernel_rfl) Tryz.underlying147 rfl rfl (by kernel_rfl) (by kernel_rfl) (by kernel_rfl)
    exact ⟨_, _, h⟩
end Go.Proofs.YtpcefmopoceiiaaGreatDoor
