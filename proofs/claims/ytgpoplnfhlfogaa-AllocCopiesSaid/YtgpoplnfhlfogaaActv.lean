/- An act that came in by value; a slice's reach. No program is named here. -/
import Derived.Test.YtgpoplnfhlfogaaActs
import Derived.Lib.SmallJoins
import Derived.SizedLaws
namespace Go.Proofs.Ytgpoplnfhlfogaa
open Go Go.RowKit Go.ChangeShapes Go.WideShapes Go.ChangeAt Go.Deep Go.Joins
variable {H : Type} {enc : TypeId × Value → H} {P : Program} {w : World}

theorem act_val_open {t ei : TypeId} {f0 f1 f2 : Field} {r : Reach} {b0 : Nat} {v : Value} {d : DataW H} {p : List MemPlace} (he : P.underlying t = some (.struct #[f0, f1, f2])) (hone : oneCellFields P #[f0, f1, f2] = true) (ce : P.cellsOf t = 3)
    (u0 : P.underlying f0.type = some (.int .i64)) (u1 : P.underlying f1.type = some (.int .i64)) (u2 : P.underlying f2.type = some (.slice ei)) (ui : P.underlying ei = some (.int .i64)) (ci : P.cellsOf ei = 1)
    (hv : Value.okWide P w r b0 t v) (h : DataW.Trod enc P w 0 (fun _ => true) true t v d p) :
    ∃ a : ActV, v = .agg #[.int .i64 a.what, .int .i64 a.many, .slice a.bo a.n a.cap] ∧ IntsAt w a.bo a.n a.L ∧ ActOk a := by
  obtain ⟨v0, v1, v2, y0, y1, y2, n, rfl, _, _, g0, g1, g2⟩ := open_agg3 he hone ce hv h
  obtain ⟨k0, r0, _, wf0⟩ := DataW.trod_int u0 g0
  obtain ⟨k1, r1, _, wf1⟩ := DataW.trod_int u1 g1
  obtain ⟨bo, n2, cap2, L2, r2, hI, hn2, hL2⟩ := ints_open u2 ui ci g2
  simp at r0 r1 r2
  subst r0 r1 r2
  exact ⟨⟨k0, k1, bo, n2, cap2, L2⟩, rfl, hI, i64_ok wf0, i64_ok wf1, hn2, hL2⟩

theorem slice_reach {t e : TypeId} {ao : Option Addr} {n cap : Nat} {d : DataW H} {p : List MemPlace} {ts : List TypeId} {ds : List (DataW H)} {j : Nat} (hu : P.underlying t = some (.slice e)) (h : DataW.Trod enc P w 0 (fun _ => true) true t (.slice ao n cap) d p)
    (hsz : (DataW.weightsEach P ts ds).all (· ≤ reachBytes) = true) (ht : ts[j]? = some t) (hd : ds[j]? = some d) : n * P.bytesOf e ≤ reachBytes := by
  obtain ⟨fuel, hf⟩ := h
  rcases open_slice hu hf with ⟨hcs, _⟩ | ⟨a, len, c, m, k, D, Pl, hcs, _, _, _, _, hx, _⟩
  · simp [Value.cells] at hcs
    obtain ⟨_, rfl, _⟩ := hcs
    simp
  · simp [Value.cells] at hcs
    obtain ⟨_, rfl, _⟩ := hcs
    simp only [Prod.mk.injEq] at hx
    rw [hx.1] at hd
    have := sized_slice hsz ht hd hu
    simp at this
    exact Nat.le_trans (Nat.mul_le_mul_right _ (Nat.le_add_right _ _)) this
end Go.Proofs.Ytgpoplnfhlfogaa
