/- Pools of lines: the plain law of taking and giving. No program is named here. -/
import Derived.Test.YtgpoplnfhlfogaaMaps
namespace Go.Proofs.Ytgpoplnfhlfogaa
open Go

/-- whether a line is taken, and how often it was -/
abbrev Lns := Int → Bool × Int

/-- one line turned -/
def setL (S : Lns) (t : Bool) (k : Int) : Lns := fun j => if j = k then (t, if t then (S k).2 + 1 else (S k).2) else S j
/-- lines turned, one after the other; none: one was so already -/
def turnS (t : Bool) : List Int → Lns → Option Lns
  | [], S => some S
  | k :: ks, S => if (S k).1 = t then none else turnS t ks (setL S t k)
/-- lines turned, each once -/
def allL (S : Lns) (t : Bool) (ks : List Int) : Lns := fun k => if k ∈ ks then (t, if t then (S k).2 + 1 else (S k).2) else S k

theorem turnS_iff (t : Bool) : ∀ (ks : List Int) (S S' : Lns), turnS t ks S = some S' ↔ ks.Nodup ∧ (∀ k ∈ ks, (S k).1 = !t) ∧ S' = allL S t ks
  | [], S, S' => by
    simp only [turnS, Option.some.injEq, List.nodup_nil, true_and]
    constructor
    · rintro rfl
      exact ⟨fun k hk => (by cases hk), by funext k; simp [allL]⟩
    · rintro ⟨_, rfl⟩
      funext k; simp [allL]
  | k :: ks, S, S' => by
    unfold turnS
    by_cases h : (S k).1 = t
    · rw [if_pos h]
      constructor
      · intro h'; cases h'
      · rintro ⟨_, h2, _⟩
        have := h2 k (List.mem_cons_self ..)
        rw [h] at this
        cases t <;> cases this
    · rw [if_neg h, turnS_iff t ks]
      have hk : (S k).1 = !t := by cases t <;> cases hs : (S k).1 <;> simp_all
      constructor
      · rintro ⟨h1, h2, rfl⟩
        have hn : k ∉ ks := fun hm => by
          have := h2 k hm
          simp only [setL, if_true] at this
          cases t <;> cases this
        refine ⟨List.nodup_cons.2 ⟨hn, h1⟩, ?_, ?_⟩
        · intro j hj
          rcases List.mem_cons.1 hj with rfl | hj
          · exact hk
          · have := h2 j hj
            simp only [setL] at this
            rwa [if_neg (fun e : j = k => hn (e ▸ hj))] at this
        · funext j
          simp only [allL, setL, List.mem_cons]
          by_cases hj : j = k
          · subst hj
            simp [hn]
          · simp only [if_neg hj]
            by_cases hm : j ∈ ks <;> simp [hm, hj]
      · rintro ⟨h1, h2, rfl⟩
        obtain ⟨hn, h1⟩ := List.nodup_cons.1 h1
        refine ⟨h1, ?_, ?_⟩
        · intro j hj
          simp only [setL]
          rw [if_neg (fun e : j = k => hn (e ▸ hj))]
          exact h2 j (List.mem_cons_of_mem _ hj)
        · funext j
          simp only [allL, setL, List.mem_cons]
          by_cases hj : j = k
          · subst hj
            simp [hn]
          · simp only [if_neg hj]
            by_cases hm : j ∈ ks <;> simp [hm, hj]

/-- the lines from lo on, n of them -/
def lnsOf (lo : Int) (n : Nat) : List Int := (List.range n).map fun (i : Nat) => lo + (i : Int)
theorem mem_lnsOf (lo : Int) (n : Nat) (k : Int) : k ∈ lnsOf lo n ↔ lo ≤ k ∧ k < lo + n := by
  simp only [lnsOf, List.mem_map, List.mem_range]
  constructor
  · rintro ⟨i, hi, rfl⟩; omega
  · rintro ⟨h1, h2⟩
    exact ⟨(k - lo).toNat, by omega, by omega⟩
theorem nodup_lnsOf (lo : Int) (n : Nat) : (lnsOf lo n).Nodup := by
  unfold lnsOf
  rw [List.nodup_iff_pairwise_ne, List.pairwise_map]
  exact List.Pairwise.imp (fun h e => h (by omega)) (List.nodup_iff_pairwise_ne.1 List.nodup_range)
/-- the lines that are so -/
def thoseL (S : Lns) (t : Bool) (lo : Int) (n : Nat) : List Int := (lnsOf lo n).filter fun k => (S k).1 == t
theorem mem_thoseL (S : Lns) (t : Bool) (lo : Int) (n : Nat) (k : Int) : k ∈ thoseL S t lo n ↔ lo ≤ k ∧ k < lo + n ∧ (S k).1 = t := by
  unfold thoseL
  rw [List.mem_filter, mem_lnsOf]
  simp [and_assoc]
theorem nodup_thoseL (S : Lns) (t : Bool) (lo : Int) (n : Nat) : (thoseL S t lo n).Nodup := (nodup_lnsOf lo n).filter _
theorem thoseL_congr {S S' : Lns} (t : Bool) (lo : Int) (n : Nat) (h : ∀ k, (S k).1 = (S' k).1) : thoseL S t lo n = thoseL S' t lo n := by
  unfold thoseL
  congr 1
  funext k
  rw [h k]
theorem those_len (S : Lns) (lo : Int) (n : Nat) : (thoseL S true lo n).length + (thoseL S false lo n).length = n := by
  unfold thoseL
  have hl : (lnsOf lo n).length = n := by simp [lnsOf]
  generalize lnsOf lo n = l at *
  rw [← hl]
  clear hl
  induction l with
  | nil => rfl
  | cons k l ih =>
    simp only [List.filter_cons, List.length_cons]
    simp only [beq_true, beq_false] at ih ⊢
    cases (S k).1 <;> simp <;> omega

/-- Take: the error (0: none), the lines, and the pool -/
def takeN (S : Lns) (lo : Int) (n : Nat) (many : Int) : Int × List Int × Lns :=
  if many < 0 then (2, [], S) else if ((thoseL S false lo n).length : Int) < many then (230, [], S) else (0, (thoseL S false lo n).take many.toNat, allL S true ((thoseL S false lo n).take many.toNat))
/-- Give, Claim: the error, and the pool -/
def turnN (S : Lns) (lo : Int) (n : Nat) (t : Bool) (e : Int) (ks : List Int) : Int × Lns :=
  if ∀ k ∈ ks, lo ≤ k ∧ k < lo + n then match turnS t ks S with | some S' => (0, S') | none => (e, S) else (4, S)

theorem claim_free (S : Lns) (lo : Int) (n : Nat) (m : Nat) : turnN S lo n true 231 ((thoseL S false lo n).take m) = (0, allL S true ((thoseL S false lo n).take m)) := by
  have hm : ∀ k ∈ (thoseL S false lo n).take m, k ∈ thoseL S false lo n := fun k hk => List.mem_of_mem_take hk
  unfold turnN
  rw [if_pos (fun k hk => by have := (mem_thoseL S false lo n k).1 (hm k hk); omega)]
  have := (turnS_iff true ((thoseL S false lo n).take m) S _).2 ⟨(nodup_thoseL S false lo n).sublist (List.take_sublist _ _), fun k hk => ((mem_thoseL S false lo n k).1 (hm k hk)).2.2, rfl⟩
  rw [this]
/-- what was taken may be given, and the lines are as they were -/
theorem give_taken (S : Lns) (lo : Int) (n : Nat) (ks : List Int) (hn : ks.Nodup) (hr : ∀ k ∈ ks, lo ≤ k ∧ k < lo + n ∧ (S k).1 = false) :
    ∃ S', turnN (allL S true ks) lo n false 5 ks = (0, S') ∧ ∀ k, (S' k).1 = (S k).1 := by
  refine ⟨allL (allL S true ks) false ks, ?_, ?_⟩
  · unfold turnN
    rw [if_pos (fun k hk => by have := hr k hk; omega)]
    rw [(turnS_iff false ks (allL S true ks) _).2 ⟨hn, fun k hk => by simp [allL, hk], rfl⟩]
  · intro k
    by_cases hk : k ∈ ks
    · simp [allL, hk, (hr k hk).2.2]
    · simp [allL, hk]
theorem len_of_same {a b : List Int} (ha : a.Nodup) (hb : b.Nodup) (h : ∀ k, k ∈ a ↔ k ∈ b) : a.length = b.length :=
  Nat.le_antisymm (ha.length_le_of_subset fun k hk => (h k).1 hk) (hb.length_le_of_subset fun k hk => (h k).2 hk)

/-! ### What an iterator over lines hands on -/
def encI (ks : List Int) : List (Array Value) := ks.map fun k => #[.int .i64 k]
theorem encI_len (ks : List Int) : (encI ks).length = ks.length := by simp [encI]
theorem encI_inj {a b : List Int} (h : encI a = encI b) : a = b := by
  unfold encI at h
  induction a generalizing b with
  | nil => cases b with
    | nil => rfl
    | cons y b => simp at h
  | cons x a ih => cases b with
    | nil => simp at h
    | cons y b =>
      simp at h
      obtain ⟨rfl, h⟩ := h
      rw [ih (by simpa using h)]
theorem encI_snoc (ks : List Int) (k : Int) : encI (ks ++ [k]) = encI ks ++ [#[.int .i64 k]] := by simp [encI]
theorem lnsOf_succ (lo : Int) (n : Nat) : lnsOf lo (n + 1) = lnsOf lo n ++ [lo + (n : Int)] := by simp [lnsOf, List.range_succ]
/-- the lines that are such, of the first n from lo -/
def selL (sel : Int → Bool) (lo : Int) (n : Nat) : List Int := (lnsOf lo n).filter sel
theorem selL_yes {sel : Int → Bool} {lo : Int} {n : Nat} (h : sel (lo + (n : Int)) = true) : selL sel lo (n + 1) = selL sel lo n ++ [lo + (n : Int)] := by
  unfold selL; rw [lnsOf_succ, List.filter_append]; simp [h]
theorem selL_no {sel : Int → Bool} {lo : Int} {n : Nat} (h : sel (lo + (n : Int)) = false) : selL sel lo (n + 1) = selL sel lo n := by
  unfold selL; rw [lnsOf_succ, List.filter_append]; simp [h]
theorem selL_prefix (sel : Int → Bool) (lo : Int) : ∀ (n i : Nat), i ≤ n → ∃ r, selL sel lo n = selL sel lo i ++ r
  | 0, i, h => ⟨[], by rw [show i = 0 from by omega]; simp⟩
  | n + 1, i, h => by
    by_cases hi : i = n + 1
    · exact ⟨[], by rw [hi]; simp⟩
    · obtain ⟨r, hr⟩ := selL_prefix sel lo n i (by omega)
      cases hs : sel (lo + (n : Int)) with
      | true => exact ⟨r ++ [lo + (n : Int)], by rw [selL_yes hs, hr, List.append_assoc]⟩
      | false => exact ⟨r, by rw [selL_no hs, hr]⟩
theorem selL_take (sel : Int → Bool) (lo : Int) (n i : Nat) (h : i ≤ n) : (selL sel lo n).take (selL sel lo i).length = selL sel lo i := by
  obtain ⟨r, hr⟩ := selL_prefix sel lo n i h
  rw [hr]; simp
theorem selL_len_le (sel : Int → Bool) (lo : Int) (n i : Nat) (h : i ≤ n) : (selL sel lo i).length ≤ (selL sel lo n).length := by
  obtain ⟨r, hr⟩ := selL_prefix sel lo n i h
  rw [hr]; simp
def okL (sel : Int → Bool) (lo : Int) (n : Nat) (pre : List (Array Value)) : Prop := ∃ i, i ≤ n ∧ pre = encI (selL sel lo i)
theorem okL_last {sel : Int → Bool} {lo : Int} {pre : List (Array Value)} {x : Array Value} : ∀ {n : Nat}, okL sel lo n (pre ++ [x]) → ∃ i, i < n ∧ sel (lo + (i : Int)) = true ∧ pre = encI (selL sel lo i) ∧ x = #[.int .i64 (lo + (i : Int))] := by
  rintro n ⟨j, hj, he⟩
  induction j with
  | zero => simp [selL, lnsOf, encI] at he
  | succ j ih =>
    cases hs : sel (lo + (j : Int)) with
    | true =>
      rw [selL_yes hs, encI_snoc] at he
      obtain ⟨h1, h2⟩ := List.append_inj' he rfl
      exact ⟨j, by omega, hs, h1, by simpa using h2⟩
    | false =>
      rw [selL_no hs] at he
      obtain ⟨i, h1, h2⟩ := ih (by omega) he
      exact ⟨i, h1, h2⟩
end Go.Proofs.Ytgpoplnfhlfogaa
