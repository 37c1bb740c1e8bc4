/- EpochBlocks: for every list of calls, every thread, every number, the law returns true and writes nothing that was there. Conditions: none. -/
import Derived.Test.YtgpoplnfhlfogaaEpF
import Derived.Test.YtgpoplnfhlfogaaRows
import Derived.WalkKit
import Derived.ProofKit
import Derived.OpenShut
import Derived.ShutString
import Derived.ChangeOld
import Derived.Deep.SlicePairs
namespace Go.Proofs.Ytgpoplnfhlfogaa.lawEpochBlocks
open Go.ChangeShapes Go.WideShapes Go.ChangeAt Go.RowKit Go.Deep
open Go.ChangeMaps (open_string shut_string)

theorem own : ownKnob Try.prog.godebug = none := by kernel_rfl
theorem laidOut : laidOutB Try.prog = true := by kernel_rfl

theorem pairs_of {H : Type} {enc : TypeId × Value → H} {W : World} {x : Addr} {len n : Nat} {V0 V1 : Nat → Value} {D0 D1 : Nat → DataW H} {P0 P1 : Nat → List MemPlace}
    (h : ∀ i, i < len → W.cell? (x.add (i * 2)) = some (V0 i) ∧ W.cell? (x.add (i * 2 + 1)) = some (V1 i) ∧
      DataW.trod enc Try.prog W 0 (fun _ => true) true n 3 [V0 i] = some (D0 i, P0 i) ∧ DataW.trod enc Try.prog W 0 (fun _ => true) true n 3 [V1 i] = some (D1 i, P1 i)) (hl : len ≤ maxLen) :
    ∃ A, Pairs W (some x) len A ∧ len ≤ maxLen := by
  refine ⟨fun i => (intOf (V0 i), intOf (V1 i)), ?_, hl⟩
  rcases Nat.eq_zero_or_pos len with h0 | h0
  · exact .inl h0
  obtain ⟨b, off, sp⟩ := x
  have hsp : sp = none := by
    have := (h 0 h0).1
    simp only [Nat.zero_mul, Addr.add, if_true] at this
    cases sp with
    | none => rfl
    | some _ => simp [World.cell?] at this; split at this <;> simp at this
  subst hsp
  refine .inr ⟨b, off, rfl, fun i hi => ?_⟩
  obtain ⟨h1, h2, h3, h4⟩ := h i hi
  obtain ⟨k1, e1, _, _⟩ := DataW.trod_int Try.underlying3 h3
  obtain ⟨k2, e2, _, _⟩ := DataW.trod_int Try.underlying3 h4
  simp at e1 e2
  have ha : ∀ j, (⟨b, off, none⟩ : Addr).add j = ⟨b, off + j, none⟩ := fun j => by unfold Addr.add; split <;> simp_all
  rw [ha] at h1 h2
  refine ⟨by rw [h1]; simp [e1, intOf], ?_⟩
  show W.cell? ⟨b, off + (i * 2 + 1), none⟩ = _
  rw [h2]; simp [e2, intOf]

set_option maxRecDepth 100000 in
theorem lifted (os : Os) (started : os.Started) (H : Type) (enc : TypeId × Value → H) :
    ReturnsInHanded {} Try.checked os 3 .any (Rows.epochBlocksSpec.pre6 enc Try.prog Try.f3 Rows.epochBlocksRow.domain false) (Rows.epochBlocksSpec.post enc Try.prog Try.f3 false true false false) := by
  refine returnsInHanded_of_change (C := Try.checked) own started (by kernel_rfl) Try.func3
    (ChangeSpec.witness6 (enc := enc) (C := Try.checked) false ⟨#[], #[.slice none 0 0, .int .i64 0, .int .i64 0], []⟩ 8 (by kernel_rfl) (by kernel_rfl) (by kernel_rfl) (by kernel_rfl)) ?_
  intro W base args ds gs before hval0 hW hcnd _
  have hval : ∀ (j : Nat) t v, Try.f3.params[j]? = some t → args[j]? = some v → Value.okWide Try.prog W .any base t v := hval0
  have hW' := hW
  obtain ⟨p, q, hA0, hV, rfl, hfz, hnd⟩ := hW
  have hA : DataW.TrodAll enc Try.prog W 0 (fun _ => true) true Try.f3.params.toList args.toList ds p := hA0
  rw [Try.params3] at hA hval
  obtain ⟨v0, vs0, d0, ds0, p0, q0, hargs, rfl, rfl, h0, r0⟩ := trodAll_cons hA
  obtain ⟨v1, vs1, d1, ds1, p1, q1, rfl, rfl, rfl, h1, r1⟩ := trodAll_cons r0
  obtain ⟨v2, vs2, d2, ds2, p2, q2, rfl, rfl, rfl, h2, r2⟩ := trodAll_cons r1
  obtain ⟨rfl, rfl, rfl⟩ := trodAll_nil r2
  obtain rfl : args = #[v0, v1, v2] := by cases args; simp_all
  obtain ⟨rfl, rfl⟩ := trodVars_none hV
  obtain ⟨a0, len0, cap0, rfl⟩ := okWide_slice Try.underlying22 (hval 0 22 v0 rfl rfl)
  have k0 := h0
  have lt0 : ∀ x ∈ p0, x.block < W.heap.size := by obtain ⟨m, hm⟩ := k0; exact DataW.trod_lt m _ _ _ hm
  obtain ⟨A0, w0, l0⟩ : ∃ A, Pairs W a0 len0 A ∧ len0 ≤ maxLen := by
    obtain ⟨fuel, hf⟩ := h0
    rcases open_slice_pairs Try.underlying22 Try.underlying30 (by kernel_rfl) rfl rfl (by kernel_rfl) (by kernel_rfl) hf with ⟨hcs, _⟩ | ⟨x, l, c, m, n, V0, V1, D0, D1, P0, P1, hcs, _, hl, hc, hm, _, hcell⟩
    · simp [Value.cells] at hcs
      obtain ⟨rfl, rfl, rfl⟩ := hcs
      exact ⟨fun _ => (0, 0), .inl rfl, Nat.zero_le _⟩
    · simp [Value.cells] at hcs
      obtain ⟨rfl, rfl, rfl⟩ := hcs
      simp at hm
      subst hm
      exact pairs_of (fun i hi => hcell i (by omega)) (by omega)
  obtain ⟨a1, rfl, rfl, rfl, w1⟩ := open_int Try.underlying3 (hval 1 3 v1 rfl rfl) h1
  obtain ⟨a2, rfl, rfl, rfl, w2⟩ := open_int Try.underlying3 (hval 2 3 v2 rfl rfl) h2
  clear hA0 hval0
  refine (ep_blocks a0 len0 cap0 A0 a1 a2 W w0 (by unfold maxLen at l0; omega)).mono fun e W' ⟨he, hE⟩ => ?_
  subst he
  have bel := hE.below
  exact ⟨_, rfl, _, _, _, [], _, [], hW', trodAll_mk1 (shut_bool Try.underlying4 _), (trodAll_cons_mk (Below.trod laidOut (by kernel_rfl) (of_decide_eq_true (by kernel_rfl)) k0 bel lt0) (trodAll_cons_mk (shut_int Try.underlying3 w1) (trodAll_cons_mk (shut_int Try.underlying3 w2) trodAll_mk0))), rfl, bel.frame _, fun h => by cases h⟩

theorem proved : Rows.EpochBlocksSaid :=
  OpenClaim.holds_of_wide 3 Try.f3 rfl rfl rfl rfl rfl rfl rfl ⟨rfl, rfl, rfl, rfl, rfl⟩ rfl rfl rfl rfl rfl (by kernel_rfl) Try.func3 (by kernel_rfl)
    (of_decide_eq_true (by kernel_rfl)) (by unfold Func.isWrapper; first | (rw [if_pos (by decide +kernel)]; kernel_rfl) | (rw [if_neg (by decide +kernel)]; exact ⟨rfl, rfl⟩))
    (fun os started H enc _ => lifted os started H enc)
#print axioms proved
end Go.Proofs.Ytgpoplnfhlfogaa.lawEpochBlocks
