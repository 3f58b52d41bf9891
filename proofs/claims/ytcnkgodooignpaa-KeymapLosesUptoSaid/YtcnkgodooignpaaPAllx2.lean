-- Written by a program of this session: Go functions as plain Lean functions, and their walks.
import Derived.Test.YtcnkgodooignpaaPAllx0
import Derived.Test.YtcnkgodooignpaaPAllx1
namespace Go.Proofs.Ytcnkgodooignpaa.PAll
open Go.RowKit Go.Proofs.YtcnkgodooignpaaW.PrintWords Go.Proofs.YtcnkgodooignpaaW.PrintLast Go.Proofs.YtcnkgodooignpaaW.PrintMore
attribute [local go_sem] max2_int min2_int max_two min_two max_three min_three max_four min_four   -- for this text's walks alone
set_option linter.unusedVariables false
set_option linter.unusedSimpArgs false

theorem eqA46 (d : Nat) (w : World) (x0 y0 : ByteArray) (x1 y1 : Int) (x2 y2 : ByteArray) (x3 y3 : ByteArray) :
    (Op.equalIn (d + 3) 46 (.agg #[.string x0, .int .i64 x1, .string x2, .string x3]) (.agg #[.string y0, .int .i64 y1, .string y2, .string y3])).run Try.prog w = .ok (x0.toList == y0.toList && ((x1 == y1 && (x2.toList == y2.toList && (x3.toList == y3.toList))))) w := by
  refine eqA_of Try.underlying46 (by kernel_rfl) ?_
  refine eqf_cons (by rfl) (by go_simp; rfl) (by go_simp; rfl) (by go_simp) ?_
  exact eqf_last (by rfl) (by go_simp) (by go_simp) (eqA44 (d + 0) w _ _ _ _ _ _)
end Go.Proofs.Ytcnkgodooignpaa.PAll
