/- A field of a history, read out of a value: for every history. -/
import Derived.Test.YtlhlghmpcimdlaaProg
import Derived.WalkKit
import Derived.KernelRfl
namespace Go.Proofs.Ytlhlghmpcimdlaa.Ln
theorem field24_0 (a b : Int) (q : Bool) (w : World) : (Instr.field 24 (.agg #[.int .u16 a, .int .u16 b, .bool q]) 0).run Try.prog w = .ok (.int .u16 a) w := by kernel_rfl
theorem field24_1 (a b : Int) (q : Bool) (w : World) : (Instr.field 24 (.agg #[.int .u16 a, .int .u16 b, .bool q]) 1).run Try.prog w = .ok (.int .u16 b) w := by kernel_rfl
theorem field24_2 (a b : Int) (q : Bool) (w : World) : (Instr.field 24 (.agg #[.int .u16 a, .int .u16 b, .bool q]) 2).run Try.prog w = .ok (.bool q) w := by kernel_rfl
end Go.Proofs.Ytlhlghmpcimdlaa.Ln
