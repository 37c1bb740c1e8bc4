/- A call of the clock that came in by value. -/
import Derived.Test.YtgpoplnfhlfogaaEpQ
import Derived.Lib.SmallJoins
namespace Go.Proofs.Ytgpoplnfhlfogaa
open Go Go.RowKit Go.ChangeShapes Go.WideShapes Go.ChangeAt Go.Deep Go.Joins
variable {H : Type} {enc : TypeId × Value → H} {P : Program} {w : World}
theorem pair_val_open {t : TypeId} {f0 f1 : Field} {r : Reach} {b0 : Nat} {v : Value} {d : DataW H} {p : List MemPlace} (he : P.underlying t = some (.struct #[f0, f1])) (hone : oneCellFields P #[f0, f1] = true) (ce : P.cellsOf t = 2)
    (u0 : P.underlying f0.type = some (.int .i64)) (u1 : P.underlying f1.type = some (.int .i64))
    (hv : Value.okWide P w r b0 t v) (h : DataW.Trod enc P w 0 (fun _ => true) true t v d p) : ∃ a : Int × Int, v = .agg #[.int .i64 a.1, .int .i64 a.2] := by
  obtain ⟨v0, v1, y0, y1, n, rfl, _, _, g0, g1⟩ := open_agg2 he hone ce hv h
  obtain ⟨k0, r0, _, _⟩ := DataW.trod_int u0 g0
  obtain ⟨k1, r1, _, _⟩ := DataW.trod_int u1 g1
  simp at r0 r1
  subst r0 r1
  exact ⟨(k0, k1), rfl⟩
end Go.Proofs.Ytgpoplnfhlfogaa
