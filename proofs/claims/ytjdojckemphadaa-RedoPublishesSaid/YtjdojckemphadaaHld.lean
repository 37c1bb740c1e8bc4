/- Regions that draw their order, some of whose stores may come ahead of reads: what is read, and calls that leave all as it was, are taken first, one by one; then the stores, in their chain. S: a class of worlds in which reads tell the same. No program is named here. -/
import Derived.Test.YtjdojckemphadaaCore
import Derived.OrdersHeld
import Derived.Deep.Quiet
import Derived.StillTail
namespace Go.Proofs.Ytjdojckemphadaa
open Go Go.RowKit
section
variable {P : Program} {ops : Array Oper} {Q : Exit → Act → World → Prop} {md : Region.Mode} {S : World → Prop}

/-- in each world of S this operation leaves v, and all as it was -/
def YQ (P : Program) (ops : Array Oper) (S : World → Prop) (o : Oper) (v : Value) (a : Act) : Prop :=
  (Region.wanted o (yielded ops a.tmps) = true ∧ ∀ w, S w → Oper.quietUpon P (fun w'' => w'' = w) w v ((execOp a.eval o).run P w)) ∨ (Region.wanted o (yielded ops a.tmps) = false ∧ v = undef)

theorem upon_quiet {o : Oper} {v : Value} {a : Act} {w : World} {K : Act → World → Prop} {r : Result Next} (h : Oper.quietUpon P (fun w'' => w'' = w) w v r) (hk : K (a.put o.dst v) w) : o.upon P a K Q r := by
  cases r with
  | ok n w' =>
    cases n with
    | value u => obtain ⟨rfl, rfl⟩ := h; exact hk
    | skip => obtain ⟨rfl, rfl⟩ := h; exact hk
    | enter f args =>
      obtain ⟨rfl, hc⟩ := h
      exact Calls.mono hc fun e w'' ⟨he, hw⟩ => by subst he; subst hw; exact hk
    | _ => exact h.elim
  | halt x w' => exact h.elim

theorem YQ.here {i : Nat} {o : Oper} {v : Value} {a : Act} (hi : ops[i]? = some o) (hy : YQ P ops S o v a) {K : Act → World → Prop} {w : World} (hS : S w) (h : K (a.put o.dst v) w) : wpOp P ops Q i K a w := by
  unfold wpOp
  simp only [hi]
  rcases hy with ⟨hw, hv⟩ | ⟨hw, rfl⟩
  · simp only [hw, if_true]
    exact .inl (upon_quiet (hv w hS) h)
  · simp only [hw, Bool.false_eq_true, if_false]
    exact h

theorem YQ.keep {oi : Oper} {v : Value} {a a' : Act} (hy : YQ P ops S oi v a) (h1 : execOp a'.eval oi = execOp a.eval oi) (h2 : Region.wanted oi (yielded ops a'.tmps) = Region.wanted oi (yielded ops a.tmps)) : YQ P ops S oi v a' := by
  unfold YQ at *
  rw [h1, h2]
  exact hy

/-- what comes up before an operation that is apart from it -/
theorem YQ.past {j : Nat} {oi oj : Oper} {v : Value} (hj : ops[j]? = some oj) (hap : oi.apart ops oj = true) (hsi : ∀ cs b, oi.op ≠ .select cs b) (hsj : ∀ cs b, oj.op ≠ .select cs b)
    (hQ : ∀ c a w, Q (.panic c) (a.put oi.dst v) w → Q (.panic c) a w) {K : Act → World → Prop} {a : Act} {w : World} (hy : YQ P ops S oi v a) (h : wpOp P ops Q j K (a.put oi.dst v) w) :
    wpOp P ops Q j (fun a' w' => YQ P ops S oi v a' ∧ K (a'.put oi.dst v) w') a w := by
  obtain ⟨p1, p2, p3⟩ := Oper.apart_spec hap
  have kp : ∀ b : Act, YQ P ops S oi v b → ∀ u, YQ P ops S oi v (b.put oj.dst u) := fun b hb u => YQ.keep hb (execOp_put oi hsi b oj.dst u p3) (wanted_put oi b oj.dst u p3)
  have hx := execOp_put oj hsj a oi.dst v p1
  unfold wpOp at *
  simp only [hj] at *
  rw [wanted_put oj a oi.dst v p1] at h
  by_cases hw : Region.wanted oj (yielded ops a.tmps) = true
  · rw [if_pos hw] at h ⊢
    rcases h with h | ⟨hk, hl⟩
    · left
      unfold Oper.wp at *
      rw [hx] at h
      generalize (execOp a.eval oj).run P w = r at *
      cases r with
      | ok n w' =>
        cases n with
        | value u => exact ⟨kp a hy u, by rw [← Act.put_comm a v u p2]; exact h⟩
        | skip => exact ⟨kp a hy _, by rw [← Act.put_comm a v undef p2]; exact h⟩
        | defer d =>
          refine ⟨kp { a with defers := d :: a.defers } (YQ.keep hy rfl rfl) _, ?_⟩
          rw [← Act.put_comm _ v undef p2, ← Act.put_defers]
          exact h
        | enter f args =>
          refine Calls.mono h fun e w'' he => ?_
          cases e with
          | returned u => exact ⟨kp a hy u, by rw [← Act.put_comm a v u p2]; exact he⟩
          | panicked c => exact hQ _ _ _ he
          | outgrown => exact he
        | row r args => exact Rows.mono h fun u w'' he => ⟨kp a hy u, by rw [← Act.put_comm a v u p2]; exact he⟩
        | _ => exact h.elim
      | halt x w' =>
        cases x with
        | panic u => exact hQ _ _ _ h
        | _ => exact h.elim
    · exact .inr ⟨by unfold Oper.asks at *; rw [hx] at hk; exact hk, hl⟩
  · rw [if_neg hw] at h ⊢
    exact ⟨kp a hy _, by rw [← Act.put_comm a v undef p2]; exact h⟩

/-- it may be taken first -/
theorem YQ.first {i : Nat} {oi : Oper} {v : Value} (hi : ops[i]? = some oi) (hsel : ∀ (j : Nat) (o : Oper) cs b, ops[j]? = some o → o.op ≠ .select cs b) (hQ : ∀ c a w, Q (.panic c) (a.put oi.dst v) w → Q (.panic c) a w) :
    ∀ (fuel : Nat) (listed : Array Bool) (a : Act) (w : World),
      (∀ j oj, ops[j]? = some oj → j ≠ i → listed.getD j true = false → (∀ e ∈ oj.after, Region.binds md e = true → e.on ≠ i) → oi.apart ops oj = true) →
      i ∈ Region.ready md ops listed → YQ P ops S oi v a → S w →
      wpAnyH P md ops Q S fuel (listed.setIfInBounds i true) (a.put oi.dst v) w → wpAnyH P md ops Q S (fuel + 1) listed a w
  | 0, listed, a, w, _, hr, hy, hS, H => by
    refine ⟨fun h0 => (by rw [h0] at hr; cases hr), fun j hj => ?_⟩
    by_cases e : j = i
    · subst e; exact hy.here hi hS ⟨hS, H⟩
    · have := ready_mono hj e
      rw [H.1] at this
      cases this
  | fuel + 1, listed, a, w, hf, hr, hy, hS, H => by
    refine ⟨fun h0 => (by rw [h0] at hr; cases hr), fun j hj => ?_⟩
    by_cases e : j = i
    · subst e; exact hy.here hi hS ⟨hS, H⟩
    · obtain ⟨hun, oj, hoj, hall⟩ := mem_ready.1 hj
      have hno : ∀ x ∈ oj.after, Region.binds md x = true → x.on ≠ i := fun x hx hb hxi => by
        have h1 := hall x hx hb
        have h0 := (mem_ready.1 hr).1
        rw [hxi] at h1
        rcases Nat.lt_or_ge i listed.size with hlt | hge
        · simp [hlt] at h0 h1
          rw [h0] at h1
          cases h1
        · simp [Array.getElem?_eq_none hge] at h1
      have hp := YQ.past hoj (hf j oj hoj e hun hno) (fun cs b => hsel i oi cs b hi) (fun cs b => hsel j oj cs b hoj) hQ hy (H.2 j (ready_mono hj e))
      refine wpOp_mono (fun a' w' ⟨hy', hS', h'⟩ => ⟨hS', YQ.first hi hsel hQ fuel (listed.setIfInBounds j true) a' w' (fun k ok hk hki hkn hkb => hf k ok hk hki ?_ hkb) (ready_mono hr (Ne.symm e)) hy' hS' (by rw [Array.setIfInBounds_comm _ _ e]; exact h')⟩) hp
      by_cases hjk : j = k
      · subst hjk; exact hun
      · rw [getD_set_ne true hjk] at hkn; exact hkn

/-- those that are taken first, one by one -/
def wpHd (P : Program) (ops : Array Oper) (S : World → Prop) (R : Act → Prop) : List Oper → Act → Prop
  | [], a => R a
  | o :: rest, a => ∃ v, YQ P ops S o v a ∧ wpHd P ops S R rest (a.put o.dst v)
theorem wpHd_nil {R : Act → Prop} {a : Act} (h : R a) : wpHd P ops S R [] a := h
theorem wpHd_no {R : Act → Prop} {o : Oper} {rest : List Oper} {a : Act} (hw : Region.wanted o (yielded ops a.tmps) = false) (h : wpHd P ops S R rest (a.put o.dst undef)) : wpHd P ops S R (o :: rest) a := ⟨_, .inr ⟨hw, rfl⟩, h⟩
theorem wpHd_yes {R : Act → Prop} {o : Oper} {rest : List Oper} {a : Act} (v : Value) (hw : Region.wanted o (yielded ops a.tmps) = true) (hy : ∀ w, S w → Oper.quietUpon P (fun w'' => w'' = w) w v ((execOp a.eval o).run P w)) (h : wpHd P ops S R rest (a.put o.dst v)) : wpHd P ops S R (o :: rest) a := ⟨v, .inl ⟨hw, hy⟩, h⟩
/-- the others, in their chain; S is shown anew behind each -/
def wpTl (P : Program) (ops : Array Oper) (S : World → Prop) (Q : Exit → Act → World → Prop) : List Oper → Act → World → Prop
  | [], a, w => Q .normal a w
  | o :: rest, a, w => if Region.wanted o (yielded ops a.tmps) = true then o.wp P a w (fun a' w' => S w' ∧ wpTl P ops S Q rest a' w') Q else S w ∧ wpTl P ops S Q rest (a.put o.dst undef) w
theorem wpTl_nil {a : Act} {w : World} (h : Q .normal a w) : wpTl P ops S Q [] a w := h
theorem wpTl_step {o : Oper} {rest : List Oper} {a : Act} {w : World} (hw : Region.wanted o (yielded ops a.tmps) = true) (h : ∀ K : Act → World → Prop, (∀ a' w', S w' → wpTl P ops S Q rest a' w' → K a' w') → o.wp P a w K Q) : wpTl P ops S Q (o :: rest) a w := by
  unfold wpTl
  rw [if_pos hw]
  exact h _ (fun a' w' h1 h2 => ⟨h1, h2⟩)
theorem any_of_tl : ∀ (l : List Oper) (k : Nat) (listed : Array Bool) (a : Act) (w : World), (∀ j, l[j]? = ops[k + j]?) → Region.seqB md ops l.length k listed = true → wpTl P ops S Q l a w → wpAnyH P md ops Q S l.length listed a w
  | [], _, _, _, _, _, hB, h => ⟨by simpa [Region.seqB] using hB, h⟩
  | o :: l, k, listed, a, w, hl, hB, h => by
    have h0 : ops[k]? = some o := by simpa using (hl 0).symm
    simp only [List.length_cons, Region.seqB, Bool.and_eq_true, decide_eq_true_eq] at hB
    refine ⟨fun h1 => (by rw [hB.1] at h1; cases h1), fun i hi => ?_⟩
    rw [hB.1] at hi
    have hik : i = k := by simpa using hi
    subst hik
    have hrec := fun a' w' => any_of_tl l (i + 1) (listed.setIfInBounds i true) a' w' (fun j => by have := hl (j + 1); simpa [Nat.add_assoc, Nat.add_comm 1 j] using this) hB.2
    unfold wpTl at h
    by_cases hw : Region.wanted o (yielded ops a.tmps) = true
    · rw [if_pos hw] at h
      have hw' : wpOp P ops Q i (fun a' w' => S w' ∧ wpTl P ops S Q l a' w') a w := by
        unfold wpOp
        simp only [h0]
        rw [if_pos hw]
        exact .inl h
      exact wpOp_mono (fun a' w' ⟨h1, h2⟩ => ⟨h1, hrec a' w' h2⟩) hw'
    · rw [if_neg hw] at h
      have hw' : wpOp P ops Q i (fun a' w' => S w' ∧ wpTl P ops S Q l a' w') a w := by
        unfold wpOp
        simp only [h0]
        rw [if_neg hw]
        exact h
      exact wpOp_mono (fun a' w' ⟨h1, h2⟩ => ⟨h1, hrec a' w' h2⟩) hw'
theorem any_of_hd (hsel : Region.noSelect ops = true) (hQ : ∀ c d v a w, Q (.panic c) (a.put d v) w → Q (.panic c) a w) {w : World} (hS : S w) {g n : Nat} {tl : List Oper} (htl : tl.length = g) (ht : ∀ j, tl[j]? = ops[n + j]?) :
    ∀ (l : List Oper) (k : Nat) (listed : Array Bool) (a : Act), (∀ j, j < l.length → l[j]? = ops[k + j]?) → k + l.length = n → Region.lexHead md ops g l.length k listed = true →
      wpHd P ops S (fun a' => wpTl P ops S Q tl a' w) l a → wpAnyH P md ops Q S (l.length + g) listed a w
  | [], k, listed, a, _, hk, hB, h => by
    have : k = n := by simpa using hk
    subst this
    subst htl
    simp only [List.length_nil, Nat.zero_add]
    exact any_of_tl tl k listed a w ht (by simpa [Region.lexHead] using hB) h
  | o :: l, k, listed, a, hl, hk, hB, h => by
    have h0 : ops[k]? = some o := by simpa using (hl 0 (by simp)).symm
    simp only [List.length_cons, Region.lexHead, Bool.and_eq_true] at hB
    obtain ⟨⟨hr, hf⟩, hB'⟩ := hB
    obtain ⟨v, hy, h'⟩ := h
    have hrec := any_of_hd hsel hQ hS htl ht l (k + 1) (listed.setIfInBounds k true) (a.put o.dst v) (fun j hj => by have := hl (j + 1) (by simp; omega); simpa [Nat.add_assoc, Nat.add_comm 1 j] using this) (by simp only [List.length_cons] at hk; omega) hB' h'
    rw [List.length_cons, show l.length + 1 + g = (l.length + g) + 1 from by omega]
    exact YQ.first h0 (Region.noSelect_spec hsel) (fun c a w => hQ c o.dst v a w) _ _ _ _ (Region.free_spec h0 hf) (by simpa using hr) hy hS hrec
/-- the region: the first n are taken first, the others are a chain -/
theorem wp_region_hd {id : Nat} {a : Act} {w : World} {l : List Oper} (n : Nat) (S : World → Prop) (hm : P.follows .mixedOrders = true)
    (hB : (Region.noSelect l.toArray && Region.lexHead .any l.toArray (l.length - n) n 0 (Array.replicate l.length false) && decide (n ≤ l.length)) = true) (hQ : ∀ c d v a w, Q (.panic c) (a.put d v) w → Q (.panic c) a w) (hS : S w.drew)
    (h : wpHd P l.toArray S (fun a' => wpTl P l.toArray S Q (l.drop n) a' w.drew) (l.take n) a) : (Code.region id l.toArray true).wp P Q a w := by
  simp only [Bool.and_eq_true, decide_eq_true_eq] at hB
  obtain ⟨⟨hsel, hlex⟩, hn⟩ := hB
  have htl : (l.take n).length = n := by simp; omega
  have hdl : (l.drop n).length = l.length - n := by simp
  refine wp_region_held (S := S) hm ?_
  have := any_of_hd (md := .any) (Q := Q) (g := l.length - n) (n := n) (tl := l.drop n) hsel hQ hS hdl (fun j => by simp [List.getElem?_drop]) (l.take n) 0 (Array.replicate l.length false) a (fun j hj => by
    have : j < n := by rw [htl] at hj; exact hj
    simp [this]) (by simpa using htl) (by rw [htl]; exact hlex) h
  rw [htl, show n + (l.length - n) = l.length from by omega] at this
  simpa using this
end
end Go.Proofs.Ytjdojckemphadaa
