/- Regions that draw their order, walked by a plan: an operation is taken first (it only reads), or is the only one that may come up, or one of two. S holds behind every operation but the last. No program is named here. -/
import Derived.Test.YtfojmjkcjdehaaaOrd
namespace Go.Proofs.Ytfojmjkcjdehaaa
open Go Go.RowKit
section
variable {P : Program} {Q : Exit → Act → World → Prop} {md : Region.Mode} {S : World → Prop} {last : Nat}

inductive Plan where
  | done
  | hd (i : Nat) (p : Plan)
  | tl (i : Nat) (p : Plan)
  | two (i : Nat) (p : Plan) (j : Nat) (q : Plan)
def Plan.fin : Plan → Bool
  | .done => true
  | _ => false
/-- a list of heads -/
def hds : List Nat → Plan → Plan
  | [], p => p
  | i :: r, p => .hd i (hds r p)
def tls : List Nat → Plan → Plan
  | [], p => p
  | i :: r, p => .tl i (tls r p)
def planB (md : Region.Mode) (ops : Array Oper) (last : Nat) : Plan → Nat → Array Bool → Bool
  | .done, n, listed => (Region.ready md ops listed).isEmpty && decide (n = 0)
  | .hd i p, n, listed => decide (i < last) && decide (1 ≤ n) && (Region.ready md ops listed).contains i && Region.free md ops listed i && planB md ops last p (n - 1) (listed.setIfInBounds i true)
  | .tl i p, n, listed => decide (Region.ready md ops listed = [i]) && decide (1 ≤ n) && (!p.fin || decide (i = last)) && planB md ops last p (n - 1) (listed.setIfInBounds i true)
  | .two i p j q, n, listed => decide (Region.ready md ops listed = [i, j]) && decide (1 ≤ n) && !p.fin && !q.fin && planB md ops last p (n - 1) (listed.setIfInBounds i true) && planB md ops last q (n - 1) (listed.setIfInBounds j true)
/-- one operation, then what follows -/
def wpStep (P : Program) (l : List Oper) (Q : Exit → Act → World → Prop) (i : Nat) (K : Act → World → Prop) (a : Act) (w : World) : Prop :=
  ∃ o, l[i]? = some o ∧ if Region.wanted o (yielded l.toArray a.tmps) = true then o.wp P a w K Q else K (a.put o.dst undef) w
def wpPl (P : Program) (l : List Oper) (S : World → Prop) (Q : Exit → Act → World → Prop) : Plan → Act → World → Prop
  | .done, a, w => Q .normal a w
  | .hd i p, a, w => ∃ o, l[i]? = some o ∧ ∃ v, YQ P l.toArray S o v a ∧ wpPl P l S Q p (a.put o.dst v) w
  | .tl i p, a, w => wpStep P l Q i (fun a' w' => (p.fin = false → S w') ∧ wpPl P l S Q p a' w') a w
  | .two i p j q, a, w => wpStep P l Q i (fun a' w' => (p.fin = false → S w') ∧ wpPl P l S Q p a' w') a w ∧ wpStep P l Q j (fun a' w' => (q.fin = false → S w') ∧ wpPl P l S Q q a' w') a w
theorem wpPl_done {l : List Oper} {a : Act} {w : World} (h : Q .normal a w) : wpPl P l S Q .done a w := h
theorem wpPl_hd {l : List Oper} {i : Nat} {p : Plan} {a : Act} {w : World} {o : Oper} (v : Value) (hi : l[i]? = some o) (hw : Region.wanted o (yielded l.toArray a.tmps) = true) (hy : ∀ w, S w → Oper.quietUpon P (fun w'' => w'' = w) w v ((execOp a.eval o).run P w)) (h : wpPl P l S Q p (a.put o.dst v) w) : wpPl P l S Q (.hd i p) a w :=
  ⟨o, hi, v, .inl ⟨hw, hy⟩, h⟩
theorem wpPl_no {l : List Oper} {i : Nat} {p : Plan} {a : Act} {w : World} {o : Oper} (hi : l[i]? = some o) (hw : Region.wanted o (yielded l.toArray a.tmps) = false) (h : wpPl P l S Q p (a.put o.dst undef) w) : wpPl P l S Q (.hd i p) a w :=
  ⟨o, hi, _, .inr ⟨hw, rfl⟩, h⟩
theorem wpStep_yes {l : List Oper} {i : Nat} {p : Plan} {a : Act} {w : World} {o : Oper} (hi : l[i]? = some o) (hw : Region.wanted o (yielded l.toArray a.tmps) = true) (h : ∀ K : Act → World → Prop, (∀ a' w', (p.fin = false → S w') → wpPl P l S Q p a' w' → K a' w') → o.wp P a w K Q) :
    wpStep P l Q i (fun a' w' => (p.fin = false → S w') ∧ wpPl P l S Q p a' w') a w := by
  refine ⟨o, hi, ?_⟩
  rw [if_pos hw]
  exact h _ (fun a' w' h1 h2 => ⟨h1, h2⟩)
theorem wpStep_no {l : List Oper} {i : Nat} {p : Plan} {a : Act} {w : World} {o : Oper} (hi : l[i]? = some o) (hw : Region.wanted o (yielded l.toArray a.tmps) = false) (hS : S w) (h : wpPl P l S Q p (a.put o.dst undef) w) :
    wpStep P l Q i (fun a' w' => (p.fin = false → S w') ∧ wpPl P l S Q p a' w') a w := by
  refine ⟨o, hi, ?_⟩
  rw [if_neg (by rw [hw]; simp)]
  exact ⟨fun _ => hS, h⟩
theorem wpPl_tl {l : List Oper} {i : Nat} {p : Plan} {a : Act} {w : World} {o : Oper} (hi : l[i]? = some o) (hw : Region.wanted o (yielded l.toArray a.tmps) = true) (h : ∀ K : Act → World → Prop, (∀ a' w', (p.fin = false → S w') → wpPl P l S Q p a' w' → K a' w') → o.wp P a w K Q) : wpPl P l S Q (.tl i p) a w :=
  wpStep_yes hi hw h
/-- the last one: its store may hit what was read -/
theorem wpPl_last {l : List Oper} {i : Nat} {a : Act} {w : World} {o : Oper} (hi : l[i]? = some o) (hw : Region.wanted o (yielded l.toArray a.tmps) = true) (h : o.wp P a w (fun a' w' => Q .normal a' w') Q) : wpPl P l S Q (.tl i .done) a w := by
  refine ⟨o, hi, ?_⟩
  rw [if_pos hw]
  exact Oper.wp_mono (fun a' w' h => ⟨fun hf => (by cases hf), h⟩) h
theorem wpPl_two {l : List Oper} {i j : Nat} {p q : Plan} {a : Act} {w : World} (h1 : wpPl P l S Q (.tl i p) a w) (h2 : wpPl P l S Q (.tl j q) a w) : wpPl P l S Q (.two i p j q) a w := ⟨h1, h2⟩
theorem wpStep_op {l : List Oper} {i : Nat} {K : Act → World → Prop} {a : Act} {w : World} (h : wpStep P l Q i K a w) : wpOp P l.toArray Q i K a w := by
  obtain ⟨o, hi, h⟩ := h
  have h0 : l.toArray[i]? = some o := by simpa using hi
  unfold wpOp
  simp only [h0]
  split at h
  · rename_i hw
    rw [if_pos hw]
    exact .inl h
  · rename_i hw
    rw [if_neg hw]
    exact h
theorem anyG_of_plan {l : List Oper} (hd : depAll md l.toArray last = true) (hsel : Region.noSelect l.toArray = true) (hQ : ∀ c d v a w, Q (.panic c) (a.put d v) w → Q (.panic c) a w) :
    ∀ (p : Plan) (n : Nat) (listed : Array Bool) (a : Act) (w : World), Cl md l.toArray listed → planB md l.toArray last p n listed = true → (p.fin = false → S w) →
      wpPl P l S Q p a w → wpAnyG P md l.toArray Q S last n listed a w
  | .done, n, listed, a, w, _, hB, _, h => by
    simp only [planB, Bool.and_eq_true, decide_eq_true_eq] at hB
    obtain ⟨hr, rfl⟩ := hB
    exact ⟨by simpa using hr, h⟩
  | .hd i p, n, listed, a, w, hc, hB, hS, h => by
    simp only [planB, Bool.and_eq_true, decide_eq_true_eq] at hB
    obtain ⟨⟨⟨⟨hil, hn⟩, hr⟩, hf⟩, hB'⟩ := hB
    obtain ⟨n, rfl⟩ : ∃ k, n = k + 1 := ⟨n - 1, by omega⟩
    have hr' : i ∈ Region.ready md l.toArray listed := by simpa using hr
    obtain ⟨o, hi, v, hy, h'⟩ := h
    have h0 : l.toArray[i]? = some o := by simpa using hi
    have hS' : S w := hS rfl
    have hrec := anyG_of_plan hd hsel hQ p n (listed.setIfInBounds i true) (a.put o.dst v) w (hc.set hr') (by simpa using hB') (fun _ => hS') h'
    exact YQ.firstG hd h0 hil (Region.noSelect_spec hsel) (fun c a w => hQ c o.dst v a w) _ _ _ _ hc (Region.free_spec h0 hf) hr' hy hS' hrec
  | .tl i p, n, listed, a, w, hc, hB, _, h => by
    simp only [planB, Bool.and_eq_true, decide_eq_true_eq] at hB
    obtain ⟨⟨⟨hr, hn⟩, hl⟩, hB'⟩ := hB
    obtain ⟨n, rfl⟩ : ∃ k, n = k + 1 := ⟨n - 1, by omega⟩
    refine ⟨fun h1 => (by rw [hr] at h1; cases h1), fun k hk => ?_⟩
    have hk' := hk
    rw [hr] at hk'
    have hik : k = i := by simpa using hk'
    subst hik
    refine wpOp_mono (fun a' w' ⟨h1, h2⟩ => ⟨fun hil => h1 ?_, anyG_of_plan hd hsel hQ p n _ a' w' (hc.set hk) (by simpa using hB') h1 h2⟩) (wpStep_op h)
    simp only [Bool.or_eq_true, Bool.not_eq_true', decide_eq_true_eq] at hl
    exact hl.resolve_right hil
  | .two i p j q, n, listed, a, w, hc, hB, _, h => by
    simp only [planB, Bool.and_eq_true, decide_eq_true_eq, Bool.not_eq_true'] at hB
    obtain ⟨⟨⟨⟨⟨hr, hn⟩, hp⟩, hq⟩, hB1⟩, hB2⟩ := hB
    obtain ⟨n, rfl⟩ : ∃ k, n = k + 1 := ⟨n - 1, by omega⟩
    refine ⟨fun h1 => (by rw [hr] at h1; cases h1), fun k hk => ?_⟩
    have hk' := hk
    rw [hr] at hk'
    have hik : k = i ∨ k = j := by simpa using hk'
    rcases hik with rfl | rfl
    · exact wpOp_mono (fun a' w' ⟨h1, h2⟩ => ⟨fun _ => h1 hp, anyG_of_plan hd hsel hQ p n _ a' w' (hc.set hk) (by simpa using hB1) h1 h2⟩) (wpStep_op h.1)
    · exact wpOp_mono (fun a' w' ⟨h1, h2⟩ => ⟨fun _ => h1 hq, anyG_of_plan hd hsel hQ q n _ a' w' (hc.set hk) (by simpa using hB2) h1 h2⟩) (wpStep_op h.2)
/-- THE REGION, WALKED BY A PLAN. -/
theorem wp_region_p {id : Nat} {a : Act} {w : World} {l : List Oper} (p : Plan) (S : World → Prop) (hm : P.follows .mixedOrders = true)
    (hB : (Region.noSelect l.toArray && planB .any l.toArray (l.length - 1) p l.length (Array.replicate l.length false) && depAll .any l.toArray (l.length - 1)) = true) (hQ : ∀ c d v a w, Q (.panic c) (a.put d v) w → Q (.panic c) a w) (hS : S w.drew)
    (h : wpPl P l S Q p a w.drew) : (Code.region id l.toArray true).wp P Q a w := by
  simp only [Bool.and_eq_true] at hB
  obtain ⟨⟨hsel, hlex⟩, hd⟩ := hB
  refine wp_region_any hm (wpAny_of_g (S := S) (last := l.length - 1) _ _ _ _ ?_)
  have := anyG_of_plan (md := .any) (Q := Q) hd hsel hQ p l.length (Array.replicate l.length false) a w.drew (by simpa using Cl.start (md := .any) (ops := l.toArray)) hlex (fun _ => hS) h
  simpa using this
end
end Go.Proofs.Ytfojmjkcjdehaaa
