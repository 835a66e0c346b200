/- The table of names, read off a condition that lays strconv's tables too. -/
import Derived.Test.YtijocafindbebaaDoorCard
import Derived.Stop.LaidErr
namespace Go.Proofs.YtijocafindbebaaDoor
open Go.ChangeShapes Go.WideShapes Go.ChangeAt Go.RowKit Go.Deep
set_option linter.unusedVariables false
set_option maxRecDepth 100000
theorem gn_of_met1 {W : World} (h : laidMet Tryd.prog [("loop.example/g00506/impl.gateNames", Rows.laid_loop_example_g00506_impl_gateNames)] W) : GN W := by
  obtain ⟨ps, ⟨g0, t0, cs0, f0, p0, q0, hg0, ht0, hv0, hd0, _⟩, _⟩ := h
  obtain rfl := Option.some.inj (gNames.symm.trans hg0)
  obtain rfl := Option.some.inj (tNames.symm.trans ht0)
  exact gn_of_cell hv0 hd0
theorem gn_of_laid4 {W : World} (h : laidMetH Tryd.prog [("math/bits.deBruijn32tab", Rows.laid_math_bits_deBruijn32tab), ("math/bits.deBruijn64tab", Rows.laid_math_bits_deBruijn64tab), ("internal/strconv.uint64pow10", Rows.laid_internal_strconv_uint64pow10), ("loop.example/g00506/impl.gateNames", Rows.laid_loop_example_g00506_impl_gateNames)] W) : GN W := by
  rw [MakeChecks.laidMetH_plain _ _ _ (by kernel_rfl)] at h
  exact gn_of_met1 h.tail.tail.tail
end Go.Proofs.YtijocafindbebaaDoor
