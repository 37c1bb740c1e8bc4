/- Regions that draw their order, walked by a plan: an operation is taken first (it only reads), or is the only one that may come up, or one of two, or one of three. S holds behind every operation but those of ex: these wait for all that reads, or only reckon. No program is named here. -/
import Derived.Test.YtjdojckemphadaaOrd
namespace Go.Proofs.Ytjdojckemphadaa
open Go Go.RowKit
section
variable {P : Program} {Q : Exit → Act → World → Prop} {md : Region.Mode} {S : World → Prop} {ex : List Nat}

section
variable {ops : Array Oper}
/-- whatever order is picked; S holds behind every operation but those of ex -/
def wpAnyT (P : Program) (md : Region.Mode) (ops : Array Oper) (Q : Exit → Act → World → Prop) (S : World → Prop) (ex : List Nat) : Nat → Array Bool → Act → World → Prop
  | 0, listed, a, w => Region.ready md ops listed = [] ∧ Q .normal a w
  | fuel + 1, listed, a, w =>
    (Region.ready md ops listed = [] → Q .normal a w) ∧
    ∀ i ∈ Region.ready md ops listed, wpOp P ops Q i (fun a' w' => (i ∉ ex → S w') ∧ wpAnyT P md ops Q S ex fuel (listed.setIfInBounds i true) a' w') a w
theorem wpAny_of_t : ∀ (fuel : Nat) (listed : Array Bool) (a : Act) (w : World), wpAnyT P md ops Q S ex fuel listed a w → wpAny P md ops Q fuel listed a w
  | 0, _, _, _, h => h
  | fuel + 1, _, _, _, h => ⟨h.1, fun i hi => wpOp_mono (fun a' w' h' => wpAny_of_t fuel _ a' w' h'.2) (h.2 i hi)⟩

/-- j waits for i -/
def ancB (md : Region.Mode) (ops : Array Oper) : Nat → Nat → Nat → Bool
  | 0, _, _ => false
  | f + 1, j, i => match ops[j]? with
    | some o => (o.after.any fun e => Region.binds md e && e.on == i) || (o.after.any fun e => Region.binds md e && ancB md ops f e.on i)
    | none => false
theorem anc_listed {listed : Array Bool} (hc : Cl md ops listed) : ∀ (f j i : Nat) (o : Oper), ops[j]? = some o → (∀ e ∈ o.after, Region.binds md e = true → listed.getD e.on false = true) → ancB md ops f j i = true → listed.getD i false = true
  | 0, _, _, _, _, _, h => by cases h
  | f + 1, j, i, o, ho, hall, h => by
    unfold ancB at h
    simp only [ho, Bool.or_eq_true] at h
    rcases h with h | h
    · obtain ⟨k, hk, h2⟩ := Array.any_eq_true.1 h
      simp only [Bool.and_eq_true, beq_iff_eq] at h2
      have := hall _ (Array.getElem_mem hk) h2.1
      rwa [h2.2] at this
    · obtain ⟨k, hk, h2⟩ := Array.any_eq_true.1 h
      simp only [Bool.and_eq_true] at h2
      have hl := hall _ (Array.getElem_mem hk) h2.1
      cases hq : ops[(o.after[k]).on]? with
      | none =>
        have h3 := h2.2
        cases f with
        | zero => cases h3
        | succ f =>
          unfold ancB at h3
          simp [hq] at h3
      | some o2 => exact anc_listed hc f _ i o2 hq (fun e he hb => hc.2 _ o2 hq hl e he hb) h2.2
/-- it may be taken first -/
theorem YQ.firstT {i : Nat} {oi : Oper} {v : Value} (hd : ∀ j, j ∈ ex → ancB md ops 6 j i = true) (hi : ops[i]? = some oi) (hsel : ∀ (j : Nat) (o : Oper) cs b, ops[j]? = some o → o.op ≠ .select cs b) (hQ : ∀ c a w, Q (.panic c) (a.put oi.dst v) w → Q (.panic c) a w) :
    ∀ (fuel : Nat) (listed : Array Bool) (a : Act) (w : World), Cl md ops listed →
      (∀ j oj, ops[j]? = some oj → j ≠ i → listed.getD j true = false → (∀ e ∈ oj.after, Region.binds md e = true → e.on ≠ i) → oi.apart ops oj = true) →
      i ∈ Region.ready md ops listed → YQ P ops S oi v a → S w →
      wpAnyT P md ops Q S ex fuel (listed.setIfInBounds i true) (a.put oi.dst v) w → wpAnyT P md ops Q S ex (fuel + 1) listed a w
  | 0, listed, a, w, _, _, hr, hy, hS, H => by
    refine ⟨fun h0 => (by rw [h0] at hr; cases hr), fun j hj => ?_⟩
    by_cases e : j = i
    · subst e; exact hy.here hi hS ⟨fun _ => hS, H⟩
    · have := ready_mono hj e
      rw [H.1] at this
      cases this
  | fuel + 1, listed, a, w, hc, hf, hr, hy, hS, H => by
    refine ⟨fun h0 => (by rw [h0] at hr; cases hr), fun j hj => ?_⟩
    by_cases e : j = i
    · subst e; exact hy.here hi hS ⟨fun _ => hS, H⟩
    · obtain ⟨hun, oj, hoj, hall⟩ := mem_ready.1 hj
      have hiu : listed.getD i false = false := by
        have h0 := (mem_ready.1 hr).1
        rcases Nat.lt_or_ge i listed.size with hlt | hge
        · simp [hlt] at h0 ⊢
          exact h0
        · simp [Array.getElem?_eq_none hge]
      have hjl : j ∉ ex := fun h => by
        have := anc_listed hc 6 j i oj hoj hall (hd j h)
        rw [hiu] at this
        cases this
      have hno : ∀ x ∈ oj.after, Region.binds md x = true → x.on ≠ i := fun x hx hb hxi => by
        have h1 := hall x hx hb
        rw [hxi, hiu] at h1
        cases h1
      have hp := YQ.past hoj (hf j oj hoj e hun hno) (fun cs b => hsel i oi cs b hi) (fun cs b => hsel j oj cs b hoj) hQ hy (H.2 j (ready_mono hj e))
      refine wpOp_mono (fun a' w' ⟨hy', hS', h'⟩ => ⟨hS', YQ.firstT hd hi hsel hQ fuel (listed.setIfInBounds j true) a' w' (hc.set hj) (fun k ok hk hki hkn hkb => hf k ok hk hki ?_ hkb) (ready_mono hr (Ne.symm e)) hy' (hS' hjl) (by rw [Array.setIfInBounds_comm _ _ e]; exact h')⟩) hp
      by_cases hjk : j = k
      · subst hjk; exact hun
      · rw [getD_set_ne true hjk] at hkn; exact hkn

/-- it only reckons: it may be taken first -/
theorem YQ.firstP {i : Nat} {oi : Oper} {v : Value} (hix : i ∈ ex) (hi : ops[i]? = some oi) (hsel : ∀ (j : Nat) (o : Oper) cs b, ops[j]? = some o → o.op ≠ .select cs b) (hQ : ∀ c a w, Q (.panic c) (a.put oi.dst v) w → Q (.panic c) a w) :
    ∀ (fuel : Nat) (listed : Array Bool) (a : Act) (w : World), Cl md ops listed →
      (∀ j oj, ops[j]? = some oj → j ≠ i → listed.getD j true = false → (∀ e ∈ oj.after, Region.binds md e = true → e.on ≠ i) → oi.apart ops oj = true) →
      i ∈ Region.ready md ops listed → YQ P ops (fun _ => True) oi v a →
      wpAnyT P md ops Q S ex fuel (listed.setIfInBounds i true) (a.put oi.dst v) w → wpAnyT P md ops Q S ex (fuel + 1) listed a w
  | 0, listed, a, w, _, _, hr, hy, H => by
    refine ⟨fun h0 => (by rw [h0] at hr; cases hr), fun j hj => ?_⟩
    by_cases e : j = i
    · subst e; exact hy.here hi trivial ⟨fun h => absurd hix h, H⟩
    · have := ready_mono hj e
      rw [H.1] at this
      cases this
  | fuel + 1, listed, a, w, hc, hf, hr, hy, H => by
    refine ⟨fun h0 => (by rw [h0] at hr; cases hr), fun j hj => ?_⟩
    by_cases e : j = i
    · subst e; exact hy.here hi trivial ⟨fun h => absurd hix h, H⟩
    · obtain ⟨hun, oj, hoj, hall⟩ := mem_ready.1 hj
      have hiu : listed.getD i false = false := by
        have h0 := (mem_ready.1 hr).1
        rcases Nat.lt_or_ge i listed.size with hlt | hge
        · simp [hlt] at h0 ⊢
          exact h0
        · simp [Array.getElem?_eq_none hge]
      have hno : ∀ x ∈ oj.after, Region.binds md x = true → x.on ≠ i := fun x hx hb hxi => by
        have h1 := hall x hx hb
        rw [hxi, hiu] at h1
        cases h1
      have hp := YQ.past hoj (hf j oj hoj e hun hno) (fun cs b => hsel i oi cs b hi) (fun cs b => hsel j oj cs b hoj) hQ hy (H.2 j (ready_mono hj e))
      refine wpOp_mono (fun a' w' ⟨hy', hS', h'⟩ => ⟨hS', YQ.firstP hix hi hsel hQ fuel (listed.setIfInBounds j true) a' w' (hc.set hj) (fun k ok hk hki hkn hkb => hf k ok hk hki ?_ hkb) (ready_mono hr (Ne.symm e)) hy' (by rw [Array.setIfInBounds_comm _ _ e]; exact h')⟩) hp
      by_cases hjk : j = k
      · subst hjk; exact hun
      · rw [getD_set_ne true hjk] at hkn; exact hkn

end
inductive Plan4 where
  | done
  | hd (i : Nat) (p : Plan4)
  | pu (i : Nat) (p : Plan4)
  | tl (i : Nat) (p : Plan4)
  | two (i : Nat) (p : Plan4) (j : Nat) (q : Plan4)
  | three (i : Nat) (p : Plan4) (j : Nat) (q : Plan4) (k : Nat) (r : Plan4)
def Plan4.isHd : Plan4 → Bool
  | .hd _ _ => true
  | .pu _ p => p.isHd
  | _ => false
/-- a list of heads -/
def hds4 : List Nat → Plan4 → Plan4
  | [], p => p
  | i :: r, p => .hd i (hds4 r p)
def pus4 : List Nat → Plan4 → Plan4
  | [], p => p
  | i :: r, p => .pu i (pus4 r p)
def tls4 : List Nat → Plan4 → Plan4
  | [], p => p
  | i :: r, p => .tl i (tls4 r p)
def planB4 (md : Region.Mode) (ops : Array Oper) (ex : List Nat) : Plan4 → Nat → Array Bool → Bool
  | .done, n, listed => (Region.ready md ops listed).isEmpty && decide (n = 0)
  | .hd i p, n, listed => (ex.all fun j => ancB md ops 6 j i) && decide (1 ≤ n) && (Region.ready md ops listed).contains i && Region.free md ops listed i && planB4 md ops ex p (n - 1) (listed.setIfInBounds i true)
  | .pu i p, n, listed => ex.contains i && decide (1 ≤ n) && (Region.ready md ops listed).contains i && Region.free md ops listed i && planB4 md ops ex p (n - 1) (listed.setIfInBounds i true)
  | .tl i p, n, listed => decide (Region.ready md ops listed = [i]) && decide (1 ≤ n) && (!p.isHd || !ex.contains i) && planB4 md ops ex p (n - 1) (listed.setIfInBounds i true)
  | .two i p j q, n, listed => decide (Region.ready md ops listed = [i, j]) && decide (1 ≤ n) && (!p.isHd || !ex.contains i) && (!q.isHd || !ex.contains j) && planB4 md ops ex p (n - 1) (listed.setIfInBounds i true) && planB4 md ops ex q (n - 1) (listed.setIfInBounds j true)
  | .three i p j q k r, n, listed => decide (Region.ready md ops listed = [i, j, k]) && decide (1 ≤ n) && (!p.isHd || !ex.contains i) && (!q.isHd || !ex.contains j) && (!r.isHd || !ex.contains k) && planB4 md ops ex p (n - 1) (listed.setIfInBounds i true) && planB4 md ops ex q (n - 1) (listed.setIfInBounds j true) && planB4 md ops ex r (n - 1) (listed.setIfInBounds k true)
/-- one operation, then what follows -/
def wpStep4 (P : Program) (l : List Oper) (Q : Exit → Act → World → Prop) (i : Nat) (K : Act → World → Prop) (a : Act) (w : World) : Prop :=
  ∃ o, l[i]? = some o ∧ if Region.wanted o (yielded l.toArray a.tmps) = true then o.wp P a w K Q else K (a.put o.dst undef) w
def wpPl4 (P : Program) (l : List Oper) (S : World → Prop) (ex : List Nat) (Q : Exit → Act → World → Prop) : Plan4 → Act → World → Prop
  | .done, a, w => Q .normal a w
  | .hd i p, a, w => ∃ o, l[i]? = some o ∧ ∃ v, YQ P l.toArray S o v a ∧ wpPl4 P l S ex Q p (a.put o.dst v) w
  | .pu i p, a, w => ∃ o, l[i]? = some o ∧ ∃ v, YQ P l.toArray (fun _ => True) o v a ∧ wpPl4 P l S ex Q p (a.put o.dst v) w
  | .tl i p, a, w => wpStep4 P l Q i (fun a' w' => (i ∉ ex → S w') ∧ wpPl4 P l S ex Q p a' w') a w
  | .two i p j q, a, w => wpStep4 P l Q i (fun a' w' => (i ∉ ex → S w') ∧ wpPl4 P l S ex Q p a' w') a w ∧ wpStep4 P l Q j (fun a' w' => (j ∉ ex → S w') ∧ wpPl4 P l S ex Q q a' w') a w
  | .three i p j q k r, a, w => wpStep4 P l Q i (fun a' w' => (i ∉ ex → S w') ∧ wpPl4 P l S ex Q p a' w') a w ∧ wpStep4 P l Q j (fun a' w' => (j ∉ ex → S w') ∧ wpPl4 P l S ex Q q a' w') a w ∧ wpStep4 P l Q k (fun a' w' => (k ∉ ex → S w') ∧ wpPl4 P l S ex Q r a' w') a w
theorem wpPl_done4 {l : List Oper} {a : Act} {w : World} (h : Q .normal a w) : wpPl4 P l S ex Q .done a w := h
theorem wpPl_hd4 {l : List Oper} {i : Nat} {p : Plan4} {a : Act} {w : World} {o : Oper} (v : Value) (hi : l[i]? = some o) (hw : Region.wanted o (yielded l.toArray a.tmps) = true) (hy : ∀ w, S w → Oper.quietUpon P (fun w'' => w'' = w) w v ((execOp a.eval o).run P w)) (h : wpPl4 P l S ex Q p (a.put o.dst v) w) : wpPl4 P l S ex Q (.hd i p) a w :=
  ⟨o, hi, v, .inl ⟨hw, hy⟩, h⟩
theorem wpPl_pu4 {l : List Oper} {i : Nat} {p : Plan4} {a : Act} {w : World} {o : Oper} (v : Value) (hi : l[i]? = some o) (hw : Region.wanted o (yielded l.toArray a.tmps) = true) (hy : ∀ w, Oper.quietUpon P (fun w'' => w'' = w) w v ((execOp a.eval o).run P w)) (h : wpPl4 P l S ex Q p (a.put o.dst v) w) : wpPl4 P l S ex Q (.pu i p) a w :=
  ⟨o, hi, v, .inl ⟨hw, fun w _ => hy w⟩, h⟩
theorem wpPl_no4 {l : List Oper} {i : Nat} {p : Plan4} {a : Act} {w : World} {o : Oper} (hi : l[i]? = some o) (hw : Region.wanted o (yielded l.toArray a.tmps) = false) (h : wpPl4 P l S ex Q p (a.put o.dst undef) w) : wpPl4 P l S ex Q (.hd i p) a w :=
  ⟨o, hi, _, .inr ⟨hw, rfl⟩, h⟩
theorem wpStep_yes4 {l : List Oper} {i : Nat} {p : Plan4} {a : Act} {w : World} {o : Oper} (hi : l[i]? = some o) (hw : Region.wanted o (yielded l.toArray a.tmps) = true) (h : ∀ K : Act → World → Prop, (∀ a' w', (i ∉ ex → S w') → wpPl4 P l S ex Q p a' w' → K a' w') → o.wp P a w K Q) :
    wpStep4 P l Q i (fun a' w' => (i ∉ ex → S w') ∧ wpPl4 P l S ex Q p a' w') a w := by
  refine ⟨o, hi, ?_⟩
  rw [if_pos hw]
  exact h _ (fun a' w' h1 h2 => ⟨h1, h2⟩)
theorem wpStep_no4 {l : List Oper} {i : Nat} {p : Plan4} {a : Act} {w : World} {o : Oper} (hi : l[i]? = some o) (hw : Region.wanted o (yielded l.toArray a.tmps) = false) (hS : S w) (h : wpPl4 P l S ex Q p (a.put o.dst undef) w) :
    wpStep4 P l Q i (fun a' w' => (i ∉ ex → S w') ∧ wpPl4 P l S ex Q p a' w') a w := by
  refine ⟨o, hi, ?_⟩
  rw [if_neg (by rw [hw]; simp)]
  exact ⟨fun _ => hS, h⟩
theorem wpPl_tl4 {l : List Oper} {i : Nat} {p : Plan4} {a : Act} {w : World} {o : Oper} (hi : l[i]? = some o) (hw : Region.wanted o (yielded l.toArray a.tmps) = true) (h : ∀ K : Act → World → Prop, (∀ a' w', (i ∉ ex → S w') → wpPl4 P l S ex Q p a' w' → K a' w') → o.wp P a w K Q) : wpPl4 P l S ex Q (.tl i p) a w :=
  wpStep_yes4 hi hw h
/-- one of ex: its store may hit what was read -/
theorem wpPl_late4 {l : List Oper} {i : Nat} {p : Plan4} {a : Act} {w : World} {o : Oper} (hi : l[i]? = some o) (hw : Region.wanted o (yielded l.toArray a.tmps) = true) (hl : i ∈ ex) (h : ∀ K : Act → World → Prop, (∀ a' w', wpPl4 P l S ex Q p a' w' → K a' w') → o.wp P a w K Q) : wpPl4 P l S ex Q (.tl i p) a w :=
  wpPl_tl4 hi hw (fun K hK => h K (fun a' w' h2 => hK a' w' (fun hlt => absurd hl hlt) h2))
theorem wpPl_two4 {l : List Oper} {i j : Nat} {p q : Plan4} {a : Act} {w : World} (h1 : wpPl4 P l S ex Q (.tl i p) a w) (h2 : wpPl4 P l S ex Q (.tl j q) a w) : wpPl4 P l S ex Q (.two i p j q) a w := ⟨h1, h2⟩
theorem wpPl_three4 {l : List Oper} {i j k : Nat} {p q r : Plan4} {a : Act} {w : World} (h1 : wpPl4 P l S ex Q (.tl i p) a w) (h2 : wpPl4 P l S ex Q (.tl j q) a w) (h3 : wpPl4 P l S ex Q (.tl k r) a w) : wpPl4 P l S ex Q (.three i p j q k r) a w := ⟨h1, h2, h3⟩
theorem wpStep_op4 {l : List Oper} {i : Nat} {K : Act → World → Prop} {a : Act} {w : World} (h : wpStep4 P l Q i K a w) : wpOp P l.toArray Q i K a w := by
  obtain ⟨o, hi, h⟩ := h
  have h0 : l.toArray[i]? = some o := by simpa using hi
  unfold wpOp
  simp only [h0]
  split at h
  · rename_i hw
    rw [if_pos hw]
    exact .inl h
  · rename_i hw
    rw [if_neg hw]
    exact h
theorem anyT_of_plan4 {l : List Oper} (hsel : Region.noSelect l.toArray = true) (hQ : ∀ c d v a w, Q (.panic c) (a.put d v) w → Q (.panic c) a w) :
    ∀ (p : Plan4) (n : Nat) (listed : Array Bool) (a : Act) (w : World), Cl md l.toArray listed → planB4 md l.toArray ex p n listed = true → (p.isHd = true → S w) →
      wpPl4 P l S ex Q p a w → wpAnyT P md l.toArray Q S ex n listed a w
  | .done, n, listed, a, w, _, hB, _, h => by
    simp only [planB4, Bool.and_eq_true, decide_eq_true_eq] at hB
    obtain ⟨hr, rfl⟩ := hB
    exact ⟨by simpa using hr, h⟩
  | .hd i p, n, listed, a, w, hc, hB, hS, h => by
    simp only [planB4, Bool.and_eq_true, decide_eq_true_eq, List.all_eq_true] at hB
    obtain ⟨⟨⟨⟨hil, hn⟩, hr⟩, hf⟩, hB'⟩ := hB
    obtain ⟨n, rfl⟩ : ∃ k, n = k + 1 := ⟨n - 1, by omega⟩
    have hr' : i ∈ Region.ready md l.toArray listed := by simpa using hr
    obtain ⟨o, hi, v, hy, h'⟩ := h
    have h0 : l.toArray[i]? = some o := by simpa using hi
    have hS' : S w := hS rfl
    have hrec := anyT_of_plan4 hsel hQ p n (listed.setIfInBounds i true) (a.put o.dst v) w (hc.set hr') (by simpa using hB') (fun _ => hS') h'
    exact YQ.firstT hil h0 (Region.noSelect_spec hsel) (fun c a w => hQ c o.dst v a w) _ _ _ _ hc (Region.free_spec h0 hf) hr' hy hS' hrec
  | .pu i p, n, listed, a, w, hc, hB, hS, h => by
    simp only [planB4, Bool.and_eq_true, decide_eq_true_eq] at hB
    obtain ⟨⟨⟨⟨hil, hn⟩, hr⟩, hf⟩, hB'⟩ := hB
    obtain ⟨n, rfl⟩ : ∃ k, n = k + 1 := ⟨n - 1, by omega⟩
    have hr' : i ∈ Region.ready md l.toArray listed := by simpa using hr
    obtain ⟨o, hi, v, hy, h'⟩ := h
    have h0 : l.toArray[i]? = some o := by simpa using hi
    have hrec := anyT_of_plan4 hsel hQ p n (listed.setIfInBounds i true) (a.put o.dst v) w (hc.set hr') (by simpa using hB') hS h'
    exact YQ.firstP (by simpa using hil) h0 (Region.noSelect_spec hsel) (fun c a w => hQ c o.dst v a w) _ _ _ _ hc (Region.free_spec h0 hf) hr' hy hrec
  | .tl i p, n, listed, a, w, hc, hB, _, h => by
    simp only [planB4, Bool.and_eq_true, decide_eq_true_eq, Bool.or_eq_true, Bool.not_eq_true'] at hB
    obtain ⟨⟨⟨hr, hn⟩, hl⟩, hB'⟩ := hB
    obtain ⟨n, rfl⟩ : ∃ k, n = k + 1 := ⟨n - 1, by omega⟩
    refine ⟨fun h1 => (by rw [hr] at h1; cases h1), fun k hk => ?_⟩
    have hk' := hk
    rw [hr] at hk'
    have hik : k = i := by simpa using hk'
    subst hik
    exact wpOp_mono (fun a' w' ⟨h1, h2⟩ => ⟨h1, anyT_of_plan4 hsel hQ p n _ a' w' (hc.set hk) (by simpa using hB') (fun hp => hl.elim (fun hf => by rw [hf] at hp; cases hp) (fun hx => h1 (by simpa using hx))) h2⟩) (wpStep_op4 h)
  | .two i p j q, n, listed, a, w, hc, hB, _, h => by
    simp only [planB4, Bool.and_eq_true, decide_eq_true_eq, Bool.or_eq_true, Bool.not_eq_true'] at hB
    obtain ⟨⟨⟨⟨⟨hr, hn⟩, hp⟩, hq⟩, hB1⟩, hB2⟩ := hB
    obtain ⟨n, rfl⟩ : ∃ k, n = k + 1 := ⟨n - 1, by omega⟩
    refine ⟨fun h1 => (by rw [hr] at h1; cases h1), fun k hk => ?_⟩
    have hk' := hk
    rw [hr] at hk'
    have hik : k = i ∨ k = j := by simpa using hk'
    rcases hik with rfl | rfl
    · exact wpOp_mono (fun a' w' ⟨h1, h2⟩ => ⟨h1, anyT_of_plan4 hsel hQ p n _ a' w' (hc.set hk) (by simpa using hB1) (fun hh => hp.elim (fun hf => by rw [hf] at hh; cases hh) (fun hx => h1 (by simpa using hx))) h2⟩) (wpStep_op4 h.1)
    · exact wpOp_mono (fun a' w' ⟨h1, h2⟩ => ⟨h1, anyT_of_plan4 hsel hQ q n _ a' w' (hc.set hk) (by simpa using hB2) (fun hh => hq.elim (fun hf => by rw [hf] at hh; cases hh) (fun hx => h1 (by simpa using hx))) h2⟩) (wpStep_op4 h.2)
  | .three i p j q m r, n, listed, a, w, hc, hB, _, h => by
    simp only [planB4, Bool.and_eq_true, decide_eq_true_eq, Bool.or_eq_true, Bool.not_eq_true'] at hB
    obtain ⟨⟨⟨⟨⟨⟨⟨hr, hn⟩, hp⟩, hq⟩, hrr⟩, hB1⟩, hB2⟩, hB3⟩ := hB
    obtain ⟨n, rfl⟩ : ∃ k, n = k + 1 := ⟨n - 1, by omega⟩
    refine ⟨fun h1 => (by rw [hr] at h1; cases h1), fun k hk => ?_⟩
    have hk' := hk
    rw [hr] at hk'
    have hik : k = i ∨ k = j ∨ k = m := by simpa using hk'
    rcases hik with rfl | rfl | rfl
    · exact wpOp_mono (fun a' w' ⟨h1, h2⟩ => ⟨h1, anyT_of_plan4 hsel hQ p n _ a' w' (hc.set hk) (by simpa using hB1) (fun hh => hp.elim (fun hf => by rw [hf] at hh; cases hh) (fun hx => h1 (by simpa using hx))) h2⟩) (wpStep_op4 h.1)
    · exact wpOp_mono (fun a' w' ⟨h1, h2⟩ => ⟨h1, anyT_of_plan4 hsel hQ q n _ a' w' (hc.set hk) (by simpa using hB2) (fun hh => hq.elim (fun hf => by rw [hf] at hh; cases hh) (fun hx => h1 (by simpa using hx))) h2⟩) (wpStep_op4 h.2.1)
    · exact wpOp_mono (fun a' w' ⟨h1, h2⟩ => ⟨h1, anyT_of_plan4 hsel hQ r n _ a' w' (hc.set hk) (by simpa using hB3) (fun hh => hrr.elim (fun hf => by rw [hf] at hh; cases hh) (fun hx => h1 (by simpa using hx))) h2⟩) (wpStep_op4 h.2.2)
/-- THE REGION, WALKED BY A PLAN. -/
theorem wp_region_p4 {id : Nat} {a : Act} {w : World} {l : List Oper} (ex : List Nat) (p : Plan4) (S : World → Prop) (hm : P.follows .mixedOrders = true)
    (hB : (Region.noSelect l.toArray && planB4 .any l.toArray ex p l.length (Array.replicate l.length false)) = true) (hQ : ∀ c d v a w, Q (.panic c) (a.put d v) w → Q (.panic c) a w) (hS : S w.drew)
    (h : wpPl4 P l S ex Q p a w.drew) : (Code.region id l.toArray true).wp P Q a w := by
  simp only [Bool.and_eq_true] at hB
  obtain ⟨hsel, hlex⟩ := hB
  refine wp_region_any hm (wpAny_of_t (S := S) (ex := ex) _ _ _ _ ?_)
  have := anyT_of_plan4 (md := .any) (Q := Q) hsel hQ p l.length (Array.replicate l.length false) a w.drew (by simpa using Cl.start (md := .any) (ops := l.toArray)) hlex (fun _ => hS) h
  simpa using this
end
end Go.Proofs.Ytjdojckemphadaa
