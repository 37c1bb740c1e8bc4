/- The document's clock beside the clock's map; the plain law. -/
import Derived.Test.YtgpoplnfhlfogaaEpI
namespace Go.Proofs.Ytgpoplnfhlfogaa
open Go Go.RowKit Go.Shelf

/-- at which epoch a thread is pinned, one more; 0: it is not -/
def pinN (l : Ents) (i : Nat) : Int := match look l i with | some (.int _ a) => a + 1 | _ => 0
/-- a clock's map: threads, pinned at now or ahead of it -/
structure COk (now : Int) (l : Ents) : Prop where
  key : ∀ p ∈ l, 0 ≤ p.1 ∧ p.1 < 8
  val : ∀ p ∈ l, ∃ a : Int, p.2 = .int .i64 a ∧ 0 ≤ a ∧ a ≤ now
  nd : (keysOf l).Nodup
  low : 0 ≤ now
theorem COk.nil : COk 0 [] := ⟨fun p h => (by cases h), fun p h => (by cases h), List.nodup_nil, Int.le_refl 0⟩
theorem pinErr_thr {l : Ents} {t : Int} (ht : pinErr l t = 0) : 0 ≤ t ∧ t < 8 := by
  unfold pinErr at ht
  by_cases hr : t < 0 ∨ 8 ≤ t
  · rw [if_pos hr] at ht; cases ht
  · omega
theorem COk.pin {now : Int} {l : Ents} (h : COk now l) {t : Int} (ht : 0 ≤ t ∧ t < 8) : COk now (upd l t (.int .i64 now)) := by
  refine ⟨fun p hp => ?_, fun p hp => ?_, nodup_upd _ _ _ h.nd, h.low⟩
  · rcases mem_upd _ _ _ _ hp with rfl | hp
    · exact ht
    · exact h.key p hp
  · rcases mem_upd _ _ _ _ hp with rfl | hp
    · exact ⟨now, rfl, h.low, Int.le_refl _⟩
    · exact h.val p hp
theorem COk.unpin {now : Int} {l : Ents} (h : COk now l) (t : Int) : COk now (del l t) :=
  ⟨fun p hp => h.key p (mem_del _ _ _ hp), fun p hp => h.val p (mem_del _ _ _ hp), nodup_del _ _ h.nd, h.low⟩
theorem COk.up {now : Int} {l : Ents} (h : COk now l) : COk (now + 1) l :=
  ⟨h.key, fun p hp => by obtain ⟨a, h1, h2, h3⟩ := h.val p hp; exact ⟨a, h1, h2, by omega⟩, h.nd, by have := h.low; omega⟩
theorem COk.vals {now : Int} {l : Ents} (h : COk now l) : ∀ p ∈ l, ∃ n, p.2 = .int .i64 n := fun p hp => by
  obtain ⟨a, h1, _⟩ := h.val p hp
  exact ⟨a, h1⟩
theorem COk.wf {now : Int} {l : Ents} (h : COk now l) : ∀ p ∈ l, (Lit.int .i64 p.1).wf = true := fun p hp => by
  have := h.key p hp
  simp [Lit.wf, IntKind.min, IntKind.max, IntKind.signed, IntKind.bits]
  omega
/-- what is looked up, by the document's number -/
theorem COk.lk {now : Int} {l : Ents} (h : COk now l) (t : Int) :
    (look l t = none ∧ (∀ i : Nat, (i : Int) = t → pinN l i = 0)) ∨ (∃ i : Nat, i < 8 ∧ (i : Int) = t ∧ look l t = some (.int .i64 (pinN l i - 1)) ∧ 0 < pinN l i ∧ pinN l i ≤ now + 1) := by
  cases hl : look l t with
  | none =>
    refine .inl ⟨rfl, fun i hi => ?_⟩
    unfold pinN
    rw [hi, hl]
  | some v =>
    have hm := look_some_mem _ _ _ hl
    have hk := h.key _ hm
    obtain ⟨a, ha, h1, h2⟩ := h.val _ hm
    dsimp only at ha hk
    subst ha
    refine .inr ⟨t.toNat, by omega, by omega, ?_⟩
    have hp : pinN l t.toNat = a + 1 := by
      unfold pinN
      rw [show ((t.toNat : Nat) : Int) = t from by omega, hl]
    rw [hp]
    exact ⟨by rw [show a + 1 - 1 = a from by omega], by omega, by omega⟩
theorem COk.lkN {now : Int} {l : Ents} (h : COk now l) (i : Nat) :
    (look l i = none ∧ pinN l i = 0) ∨ (i < 8 ∧ look l i = some (.int .i64 (pinN l i - 1)) ∧ 0 < pinN l i ∧ pinN l i ≤ now + 1) := by
  rcases h.lk i with ⟨h1, h2⟩ | ⟨k, h1, h2, h3, h4, h5⟩
  · exact .inl ⟨h1, h2 i rfl⟩
  · obtain rfl : k = i := by omega
    exact .inr ⟨h1, h3, h4, h5⟩
theorem COk.pos {now : Int} {l : Ents} (h : COk now l) (i : Nat) : 0 ≤ pinN l i ∧ pinN l i ≤ now + 1 := by
  have := h.low
  rcases h.lkN i with ⟨_, h2⟩ | ⟨_, _, h2, h3⟩ <;> omega
theorem pinN_upd (l : Ents) (t a : Int) (i : Nat) : pinN (upd l t (.int .i64 a)) i = if (i : Int) = t then a + 1 else pinN l i := by
  unfold pinN
  rw [look_upd]
  by_cases h : (i : Int) = t
  · rw [if_pos h, if_pos h]
  · rw [if_neg h, if_neg h]
theorem pinN_del {l : Ents} (hn : (keysOf l).Nodup) (t : Int) (i : Nat) : pinN (del l t) i = if (i : Int) = t then 0 else pinN l i := by
  unfold pinN
  rw [look_del l t hn]
  by_cases h : (i : Int) = t
  · rw [if_pos h, if_pos h]
  · rw [if_neg h, if_neg h]
theorem pinN_nil (i : Nat) : pinN [] i = 0 := rfl
/-- what Pin answers, by the document's number -/
theorem pinErr_num {now : Int} {l : Ents} (h : COk now l) (i : Nat) (hi : i < 8) : pinErr l i = if 0 < pinN l i then 240 else 0 := by
  unfold pinErr
  rw [if_neg (by omega)]
  rcases h.lkN i with ⟨h1, h2⟩ | ⟨_, h1, h2, _⟩
  · rw [h1, h2]; rfl
  · rw [h1, if_pos h2]; rfl
theorem unpinErr_num {now : Int} {l : Ents} (h : COk now l) (i : Nat) (hi : i < 8) : unpinErr l i = if pinN l i = 0 then 5 else 0 := by
  unfold unpinErr
  rw [if_neg (by omega)]
  rcases h.lkN i with ⟨h1, h2⟩ | ⟨_, h1, h2, _⟩
  · rw [h1, h2]; rfl
  · rw [h1, if_neg (show ¬ pinN l i = 0 by omega)]; rfl
theorem pinErr_out {l : Ents} {t : Int} (h : ¬ (0 ≤ t ∧ t < 8)) : pinErr l t = 2 := by unfold pinErr; rw [if_pos (by omega)]
theorem unpinErr_out {l : Ents} {t : Int} (h : ¬ (0 ≤ t ∧ t < 8)) : unpinErr l t = 2 := by unfold unpinErr; rw [if_pos (by omega)]
/-- whether the clock advances, by the document's numbers -/
theorem atNow_iff {now : Int} {l : Ents} (h : COk now l) : atNow now l = true ↔ ∀ i, i < 8 → pinN l i = 0 ∨ pinN l i - 1 = now := by
  unfold atNow
  rw [List.all_eq_true]
  constructor
  · intro ha i hi
    rcases h.lkN i with ⟨_, h2⟩ | ⟨_, h1, h2, _⟩
    · exact .inl h2
    · have := ha _ (look_some_mem _ _ _ h1)
      simp at this
      exact .inr this
  · intro ha p hp
    obtain ⟨a, h1, h2, h3⟩ := h.val p hp
    have hk := h.key p hp
    have hl := look_of_mem _ _ _ h.nd (show (p.1, p.2) ∈ l from hp)
    have hn : pinN l p.1.toNat = a + 1 := by
      unfold pinN
      rw [show ((p.1.toNat : Nat) : Int) = p.1 from by omega, hl, h1]
    have := ha p.1.toNat (by omega)
    rw [h1]
    simp
    omega
theorem advOk_false {now : Int} {l : Ents} (h : COk now l) {i : Nat} (hi : i < 8) (h1 : 0 < pinN l i) (h2 : pinN l i - 1 ≠ now) : advOk now l = false := by
  unfold advOk
  cases ha : atNow now l with
  | false => rfl
  | true =>
    have := (atNow_iff h).1 ha i hi
    omega
theorem advOk_all {now : Int} {l : Ents} (h : COk now l) (ha : ∀ i, i < 8 → pinN l i = 0 ∨ pinN l i - 1 = now) : advOk now l = decide (now < 1073741824) ∨ 1073741824 < now := by
  unfold advOk
  rw [(atNow_iff h).2 ha]
  rcases Int.lt_trichotomy now 1073741824 with h1 | h1 | h1
  · refine .inl ?_
    have : (now == 1073741824) = false := by simp; omega
    rw [this]
    simp [h1]
  · refine .inl ?_
    subst h1
    rfl
  · exact .inr h1
/-- the document's list of who is pinned, up to k -/
def refP (l : Ents) (k : Nat) : List Int := ((List.range k).filter fun i => decide (0 < pinN l i)).map fun (i : Nat) => (i : Int)
theorem refP_succ (l : Ents) (k : Nat) : refP l (k + 1) = if 0 < pinN l k then refP l k ++ [(k : Int)] else refP l k := by
  unfold refP
  rw [List.range_succ, List.filter_append, List.map_append]
  by_cases h : 0 < pinN l k
  · rw [if_pos h]; simp [h]
  · rw [if_neg h]; simp [h]
theorem refP_sorted (l : Ents) (k : Nat) : (refP l k).Pairwise (· < ·) := by
  unfold refP
  refine List.Pairwise.map _ (fun a b h => Int.ofNat_lt.2 h) (List.Pairwise.filter _ List.pairwise_lt_range)
theorem refP_len (l : Ents) (k : Nat) : (refP l k).length ≤ k := by
  unfold refP
  rw [List.length_map]
  exact Nat.le_trans (List.length_filter_le _ _) (by simp)
theorem sortK_ref {now : Int} {l : Ents} (h : COk now l) : sortK l = refP l 8 := by
  have hp : (refP l 8).Perm (keysOf l) := by
    refine (List.perm_ext_iff_of_nodup ((refP_sorted l 8).imp (fun h => by omega)) h.nd).2 (fun t => ?_)
    unfold refP
    simp only [List.mem_map, List.mem_filter, List.mem_range, decide_eq_true_eq]
    constructor
    · rintro ⟨i, ⟨hi, hpos⟩, rfl⟩
      rcases h.lkN i with ⟨_, h2⟩ | ⟨_, h1, _⟩
      · omega
      · exact ⟨_, look_some_mem _ _ _ h1, rfl⟩
    · intro ht
      rcases h.lk t with ⟨h1, _⟩ | ⟨i, h1, h2, _, h3, _⟩
      · exact absurd (List.mem_map.2 ht) ((look_none l t).1 h1)
      · exact ⟨i, ⟨h1, h3⟩, h2⟩
  rw [← sortK_of hp]
  exact List.mergeSort_of_pairwise ((refP_sorted l 8).imp (fun h => by simp; omega))
/-- two clocks that say the same -/
theorem look_eq_of {n1 n2 : Int} {l1 l2 : Ents} (h1 : COk n1 l1) (h2 : COk n2 l2) (h : ∀ i, i < 8 → pinN l1 i = pinN l2 i) (t : Int) : look l1 t = look l2 t := by
  rcases h1.lk t with ⟨a1, a2⟩ | ⟨i, a1, a2, a3, a4, _⟩
  · rcases h2.lk t with ⟨b1, b2⟩ | ⟨k, b1, b2, b3, b4, _⟩
    · rw [a1, b1]
    · have := a2 k b2
      have := h k b1
      omega
  · rcases h2.lk t with ⟨b1, b2⟩ | ⟨k, b1, b2, b3, b4, _⟩
    · have := b2 i a2
      have := h i a1
      omega
    · obtain rfl : i = k := by omega
      rw [a3, b3, h i a1]
theorem pinN_of_look {l1 l2 : Ents} (h : ∀ t, look l1 t = look l2 t) (i : Nat) : pinN l1 i = pinN l2 i := by
  unfold pinN
  rw [h]
/-- the document's clock, as a value -/
def refV (now : Int) (F : Nat → Int) : Value := .agg #[.int .i64 now, .int .i64 (F 0), .int .i64 (F 1), .int .i64 (F 2), .int .i64 (F 3), .int .i64 (F 4), .int .i64 (F 5), .int .i64 (F 6), .int .i64 (F 7)]
def refC (now : Int) (F : Nat → Int) : Array Value := #[.int .i64 now, .int .i64 (F 0), .int .i64 (F 1), .int .i64 (F 2), .int .i64 (F 3), .int .i64 (F 4), .int .i64 (F 5), .int .i64 (F 6), .int .i64 (F 7)]
theorem lt8 {i : Nat} (h : i < 8) : i = 0 ∨ i = 1 ∨ i = 2 ∨ i = 3 ∨ i = 4 ∨ i = 5 ∨ i = 6 ∨ i = 7 := by omega
theorem refC_get (now : Int) (F : Nat → Int) (i : Nat) (h : i < 8) : (refC now F)[1 + i]? = some (.int .i64 (F i)) := by
  rcases lt8 h with rfl | rfl | rfl | rfl | rfl | rfl | rfl | rfl <;> rfl
theorem refC_set (now : Int) (F : Nat → Int) (i : Nat) (h : i < 8) (v : Int) : (refC now F).setIfInBounds (1 + i) (.int .i64 v) = refC now (fun k => if k = i then v else F k) := by
  rcases lt8 h with rfl | rfl | rfl | rfl | rfl | rfl | rfl | rfl <;> rfl
theorem refC_set0 (now : Int) (F : Nat → Int) (v : Int) : (refC now F).setIfInBounds 0 (.int .i64 v) = refC v F := rfl
end Go.Proofs.Ytgpoplnfhlfogaa
