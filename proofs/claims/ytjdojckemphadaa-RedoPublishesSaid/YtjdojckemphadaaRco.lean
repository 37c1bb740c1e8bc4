/- (For seats without package record.) How a slice of puts that came in is read. -/
import Derived.Test.YtjdojckemphadaaRcM
import Derived.WalkKit
import Derived.ProofKit
import Derived.OpenShut
import Derived.ShutString
import Derived.ChangeOld
import Derived.Deep.SlicePairs
namespace Go.Proofs.Ytjdojckemphadaa
open Go Go.RowKit Go.ChangeShapes Go.WideShapes Go.ChangeAt Go.Deep

theorem u64_wf {n : Int} (h : (Lit.int .u64 n).wf = true) : U64 n := by
  have h2 : (decide (IntKind.min .u64 ≤ n) && decide (n ≤ IntKind.max .u64)) = true := h
  rw [Bool.and_eq_true, decide_eq_true_eq, decide_eq_true_eq] at h2
  have h3 : IntKind.min .u64 = 0 := by decide
  have h4 : IntKind.max .u64 = 18446744073709551615 := by decide
  unfold U64
  omega
theorem i64_wf {n : Int} (h : (Lit.int .i64 n).wf = true) : -9223372036854775808 ≤ n ∧ n ≤ 9223372036854775807 := by
  have h2 : (decide (IntKind.min .i64 ≤ n) && decide (n ≤ IntKind.max .i64)) = true := h
  rw [Bool.and_eq_true, decide_eq_true_eq, decide_eq_true_eq] at h2
  have h3 : IntKind.min .i64 = -9223372036854775808 := by decide
  have h4 : IntKind.max .i64 = 9223372036854775807 := by decide
  omega

theorem puts_open {H : Type} {enc : TypeId × Value → H} {W : World} {x : Addr} {len n : Nat} {V0 V1 : Nat → Value} {D0 D1 : Nat → DataW H} {P0 P1 : Nat → List MemPlace}
    (h : ∀ i, i < len → W.cell? (x.add (i * 2)) = some (V0 i) ∧ W.cell? (x.add (i * 2 + 1)) = some (V1 i) ∧
      DataW.trod enc Try.prog W 0 (fun _ => true) true n 3 [V0 i] = some (D0 i, P0 i) ∧ DataW.trod enc Try.prog W 0 (fun _ => true) true n 34 [V1 i] = some (D1 i, P1 i)) (hl : len ≤ maxLen) :
    ∃ L, Puts W (some x) len L ∧ PutsU L len ∧ len ≤ maxLen := by
  have key : ∀ i, i < len → ∃ a b, V0 i = .int .i64 a ∧ V1 i = .int .u64 b ∧ U64 b := fun i hi => by
    obtain ⟨_, _, h3, h4⟩ := h i hi
    obtain ⟨k1, e1, _, _⟩ := DataW.trod_int Try.underlying3 h3
    obtain ⟨k2, e2, _, wf⟩ := DataW.trod_int Try.underlying34 h4
    simp at e1 e2
    exact ⟨k1, k2, e1, e2, u64_wf wf⟩
  refine ⟨fun i => (intOf (V0 i), intOf (V1 i)), ?_, ?_, hl⟩
  · rcases Nat.eq_zero_or_pos len with h0 | h0
    · exact .inl h0
    obtain ⟨b, off, sp⟩ := x
    have hsp : sp = none := by
      have := (h 0 h0).1
      simp only [Nat.zero_mul, Addr.add, if_true] at this
      cases sp with
      | none => rfl
      | some _ => simp [World.cell?] at this; split at this <;> simp at this
    subst hsp
    refine .inr ⟨b, off, rfl, fun i hi => ?_⟩
    obtain ⟨h1, h2, _, _⟩ := h i hi
    obtain ⟨k1, k2, e1, e2, _⟩ := key i hi
    have ha : ∀ j, (⟨b, off, none⟩ : Addr).add j = ⟨b, off + j, none⟩ := fun j => by unfold Addr.add; split <;> simp_all
    rw [ha] at h1 h2
    refine ⟨by rw [h1]; simp [e1, intOf], ?_⟩
    show W.cell? ⟨b, off + (i * 2 + 1), none⟩ = _
    rw [h2]; simp [e2, intOf]
  · intro i hi
    obtain ⟨k1, k2, e1, e2, hu⟩ := key i hi
    simpa [e2, intOf] using hu
end Go.Proofs.Ytjdojckemphadaa
