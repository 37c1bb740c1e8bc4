/- Openers: a slice of calls of the clock, and one such call. -/
import Derived.Test.YtgpoplnfhlfogaaEpF
import Derived.WalkKit
import Derived.ProofKit
import Derived.OpenShut
import Derived.ShutString
import Derived.ChangeOld
import Derived.Deep.SlicePairs
namespace Go.Proofs.Ytgpoplnfhlfogaa
open Go.ChangeShapes Go.WideShapes Go.ChangeAt Go.RowKit Go.Deep
open Go.ChangeMaps (open_string shut_string)

theorem pairs_of {H : Type} {enc : TypeId × Value → H} {W : World} {x : Addr} {len n : Nat} {V0 V1 : Nat → Value} {D0 D1 : Nat → DataW H} {P0 P1 : Nat → List MemPlace}
    (h : ∀ i, i < len → W.cell? (x.add (i * 2)) = some (V0 i) ∧ W.cell? (x.add (i * 2 + 1)) = some (V1 i) ∧
      DataW.trod enc Try.prog W 0 (fun _ => true) true n 3 [V0 i] = some (D0 i, P0 i) ∧ DataW.trod enc Try.prog W 0 (fun _ => true) true n 3 [V1 i] = some (D1 i, P1 i)) (hl : len ≤ maxLen) :
    ∃ A, Pairs W (some x) len A ∧ len ≤ maxLen := by
  refine ⟨fun i => (intOf (V0 i), intOf (V1 i)), ?_, hl⟩
  rcases Nat.eq_zero_or_pos len with h0 | h0
  · exact .inl h0
  obtain ⟨b, off, sp⟩ := x
  have hsp : sp = none := by
    have := (h 0 h0).1
    simp only [Nat.zero_mul, Addr.add, if_true] at this
    cases sp with
    | none => rfl
    | some _ => simp [World.cell?] at this; split at this <;> simp at this
  subst hsp
  refine .inr ⟨b, off, rfl, fun i hi => ?_⟩
  obtain ⟨h1, h2, h3, h4⟩ := h i hi
  obtain ⟨k1, e1, _, _⟩ := DataW.trod_int Try.underlying3 h3
  obtain ⟨k2, e2, _, _⟩ := DataW.trod_int Try.underlying3 h4
  simp at e1 e2
  have ha : ∀ j, (⟨b, off, none⟩ : Addr).add j = ⟨b, off + j, none⟩ := fun j => by unfold Addr.add; split <;> simp_all
  rw [ha] at h1 h2
  refine ⟨by rw [h1]; simp [e1, intOf], ?_⟩
  show W.cell? ⟨b, off + (i * 2 + 1), none⟩ = _
  rw [h2]; simp [e2, intOf]

end Go.Proofs.Ytgpoplnfhlfogaa
