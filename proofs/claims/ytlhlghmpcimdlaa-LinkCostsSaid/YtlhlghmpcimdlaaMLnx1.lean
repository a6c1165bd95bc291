/- Laid by a program of this repo (wip/myprint.py) out of the print of the loaded program: for each Go function a function with the same answers, and the proof that the Go code comes to these; in a row: the law holds for every input. -/
import Derived.Test.YtlhlghmpcimdlaaMLnx0
namespace Go.Proofs.Ytlhlghmpcimdlaa.MLn
attribute [local go_sem] Go.Proofs.Ytlhlghmpcimdlaa.Ln.field24_0 Go.Proofs.Ytlhlghmpcimdlaa.Ln.field24_1 Go.Proofs.Ytlhlghmpcimdlaa.Ln.field24_2
open Go.RowKit Go.Proofs.YtlhlghmpcimdlaaW.PrintWords Go.Proofs.YtlhlghmpcimdlaaW.PrintLast Go.Proofs.YtlhlghmpcimdlaaW.PrintMore
attribute [local go_sem] max2_int min2_int max_two min_two max_three min_three max_four min_four   -- for this text's walks alone
set_option linter.unusedVariables false
set_option linter.unusedSimpArgs false

theorem eqA24 (d : Nat) (w : World) (x0 y0 : Int) (x1 y1 : Int) (x2 y2 : Bool) :
    (Op.equalIn (d + 2) 24 (.agg #[.int .u16 x0, .int .u16 x1, .bool x2]) (.agg #[.int .u16 y0, .int .u16 y1, .bool y2])).run Try.prog w = .ok (x0 == y0 && (x1 == y1 && (x2 == y2))) w := by
  refine eqA_of Try.underlying24 (by kernel_rfl) ?_
  refine eqf_cons (by rfl) (by go_simp; rfl) (by go_simp; rfl) (by go_simp) ?_
  refine eqf_cons (by rfl) (by go_simp; rfl) (by go_simp; rfl) (by go_simp) ?_
  exact eqf_last (by rfl) (by go_simp; rfl) (by go_simp; rfl) (by go_simp)
end Go.Proofs.Ytlhlghmpcimdlaa.MLn
