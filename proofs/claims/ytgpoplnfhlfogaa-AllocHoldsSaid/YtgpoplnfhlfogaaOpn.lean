/- More laws of single operations on maps keyed by int. No program is named here. -/
import Derived.Test.YtgpoplnfhlfogaaOpm
namespace Go.Proofs.Ytgpoplnfhlfogaa
open Go Go.RowKit
section
variable {P : Program}
theorem run_lenMap {w : World} {b : Nat} {l : Ents} (T K E ty : TypeId) (hT : P.underlying T = some (.map K E)) (h : IMap w b l) : (Builtin.len_ #[T] ty #[.map (some b)]).run P w = .ok (.int .i64 l.length) w := by
  obtain ⟨es, c, hb, hr, _⟩ := h
  have hg : (getObj b).run P w = .ok (.map es c) w := by simp [getObj, Sem.run, hb]
  have he : es.size = l.length := by have := hr.length; simpa using this
  simp [Builtin.len_, run_underlying hT, hg, goInt, he]
end
end Go.Proofs.Ytgpoplnfhlfogaa
