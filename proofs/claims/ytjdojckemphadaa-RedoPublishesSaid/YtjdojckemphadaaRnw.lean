/- A region that draws its order, with calls, inside a round of a range over a function: walked by a plan. No program is named here. -/
import Derived.Test.YtjdojckemphadaaOr4
import Derived.Test.YtjdojckemphadaaRnd
namespace Go.Proofs.Ytjdojckemphadaa
open Go Go.RowKit
section
variable {P : Program} {Q : Exit → Act → World → Prop} {md : Region.Mode}

theorem opwpIn_of_wp {o : Oper} {a : Act} {w : World} {K : Act → World → Prop} (h : o.wp P a w K Q) : o.wpIn Fence.wide 0 P a w K Q := by
  unfold Oper.wp at h
  refine ⟨fun _ _ => trivial, ?_⟩
  have hs : o.semAt Fence.wide.round a.eval = execOp a.eval o := rfl
  rw [hs]
  generalize (execOp a.eval o).run P w = r at h ⊢
  cases r with
  | ok x w' =>
    cases x with
    | enter f args => exact ⟨fun hd => (by cases hd), callsIn_wide.2 h⟩
    | row row args =>
      refine ⟨fun hd => (by cases hd), fun c cs _ => ?_⟩
      obtain ⟨v, w2, r, s⟩ := h c cs
      exact ⟨v, w2, r, stepsIn_wide.2 s⟩
    | _ => first | exact h | exact h.elim
  | halt x w' =>
    cases x <;> first | exact h | exact h.elim
theorem wpAnyIn_of_any {ops : Array Oper} (hQ : ¬ LetsOut Q) : ∀ (fuel : Nat) (listed : Array Bool) (a : Act) (w : World), wpAny P md ops Q fuel listed a w → wpAnyIn Fence.wide 0 P md ops Q fuel listed a w
  | 0, _, _, _, h => h
  | fuel + 1, listed, a, w, h => by
    refine ⟨h.1, fun i hi => ?_⟩
    have h1 := wpOp_mono (fun a' w' h' => wpAnyIn_of_any hQ fuel (listed.setIfInBounds i true) a' w' h') (h.2 i hi)
    unfold wpOp at h1
    unfold wpOpIn
    cases ho : ops[i]? with
    | none => rw [ho] at h1; exact h1
    | some o =>
      rw [ho] at h1
      by_cases hw : Region.wanted o (yielded ops a.tmps) = true
      · simp only [hw, if_true] at h1 ⊢
        rcases h1 with h1 | h1
        · exact opwpIn_of_wp h1
        · exact absurd h1.2 hQ
      · simp only [hw] at h1 ⊢
        exact ⟨fun _ _ => trivial, h1⟩
/-- the plan's law, in a round -/
theorem wpIn_region_p4 {id : Nat} {a : Act} {w : World} {l : List Oper} (r : Nat) (ex : List Nat) (p : Plan4) (S : World → Prop) (hm : P.follows .mixedOrders = true) (hnd : noDefer l.toArray = true)
    (hB : (Region.noSelect l.toArray && planB4 .any l.toArray ex p l.length (Array.replicate l.length false)) = true) (hL : ¬ LetsOut Q) (hQ : ∀ c d v a w, Q (.panic c) (a.put d v) w → Q (.panic c) a w) (hS : S w.drew)
    (h : wpPl4 P l S ex Q p a w.drew) : (Code.region id l.toArray true).wpIn (Fence.wide.inRound r) 0 P Q a w := by
  simp only [Bool.and_eq_true] at hB
  obtain ⟨hsel, hlex⟩ := hB
  refine wpIn_region_any hm (wpAnyIn_round hnd r _ _ _ _ (wpAnyIn_of_any hL _ _ _ _ (wpAny_of_t (S := S) (ex := ex) _ _ _ _ ?_)))
  have := anyT_of_plan4 (md := .any) (Q := Q) hsel hQ p l.length (Array.replicate l.length false) a w.drew (by simpa using Cl.start (md := .any) (ops := l.toArray)) hlex (fun _ => hS) h
  simpa using this
end
end Go.Proofs.Ytjdojckemphadaa
