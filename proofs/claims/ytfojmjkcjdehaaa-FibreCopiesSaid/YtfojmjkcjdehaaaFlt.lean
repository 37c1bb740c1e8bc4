/- Small whole numbers as floats and back; the walk's rules for complex numbers. No program is named here. -/
import Derived.WalkKit
import Derived.Laws.FloatArith
import Derived.Laws.Cover2
namespace Go.Proofs.Ytfojmjkcjdehaaa
open Go Go.RowKit

theorem flt_all : ((List.range 1024).all fun n => floatToIntVal .f64 (floatOfInt .f64 (n : Int)) .i64 == some (n : Int)) = true := by decide +kernel
theorem flt_back (n : Nat) (h : n < 1024) : floatToIntVal .f64 (floatOfInt .f64 (n : Int)) .i64 = some (n : Int) := by
  have := List.all_eq_true.1 flt_all n (List.mem_range.2 h)
  simpa using this
section
variable {P : Program} (w : World)
@[go_sem] theorem run_complex2 (ts : Array TypeId) (t : TypeId) (k : FloatKind) (a b : Nat) : (Builtin.complex_ ts t #[.float k a, .float k b]).run P w = .ok (.complex k a b) w := by
  rw [show Builtin.complex_ ts t #[.float k a, .float k b] = (if k = k then pure (.complex k a b) else stuck "complex: parts of different kinds") from rfl]
  simp
@[go_sem] theorem run_real1 (ts : Array TypeId) (t : TypeId) (k : FloatKind) (a b : Nat) : (Builtin.real_ ts t #[.complex k a b]).run P w = .ok (.float k a) w := by
  rfl
@[go_sem] theorem run_imag1 (ts : Array TypeId) (t : TypeId) (k : FloatKind) (a b : Nat) : (Builtin.imag_ ts t #[.complex k a b]).run P w = .ok (.float k b) w := by
  rfl
end
end Go.Proofs.Ytfojmjkcjdehaaa
