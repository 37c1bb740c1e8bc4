/- Plain laws of devices: all lines flushed and fenced. -/
import Derived.Test.YtfojmjkcjdehaaaPhP
namespace Go.Proofs.Ytfojmjkcjdehaaa
open Go

/-- lines 0 to k are flushed -/
def flushN (D : Dv) : Nat → Dv
  | 0 => D
  | k + 1 => ((flushN D k).flush (k : Int)).1
theorem flushN_ok {D : Dv} (h : DvOk D) : ∀ k, DvOk (flushN D k)
  | 0 => h
  | k + 1 => Dv.flush_ok (flushN_ok h k) _
theorem flushN_n (D : Dv) : ∀ k, (flushN D k).n = D.n
  | 0 => rfl
  | k + 1 => (Dv.flush_n _ _).trans (flushN_n D k)
theorem Dv.flush_LS (D : Dv) (k : Int) : (D.flush k).1.L = D.L ∧ (D.flush k).1.S = D.S := by unfold Dv.flush; split <;> exact ⟨rfl, rfl⟩
theorem flushN_L (D : Dv) : ∀ k, (flushN D k).L = D.L
  | 0 => rfl
  | k + 1 => (Dv.flush_LS _ _).1.trans (flushN_L D k)
theorem flushN_W {D : Dv} : ∀ k, k ≤ D.n → (∀ p ∈ (flushN D k).W, p.1 < k → p.2 = lineOf D.L p.1) ∧ ∀ j, j < k → ∃ p ∈ (flushN D k).W, p.1 = j
  | 0, _ => ⟨fun p _ h => absurd h (Nat.not_lt_zero _), fun j h => absurd h (Nat.not_lt_zero _)⟩
  | k + 1, hk => by
    obtain ⟨h1, h2⟩ := flushN_W (D := D) k (by omega)
    have hw : (flushN D (k + 1)).W = wout (flushN D k).W (k : Int) ++ [(k, lineOf D.L k)] := by
      show ((flushN D k).flush (k : Int)).1.W = _
      rw [flush_eq _ k (by rw [flushN_n]; omega), flushN_L]
    rw [hw]
    refine ⟨fun p hp hlt => ?_, fun j hj => ?_⟩
    · rcases List.mem_append.1 hp with hp | hp
      · obtain ⟨hp1, hp2⟩ := wout_mem hp
        exact h1 p hp1 (by omega)
      · simp at hp
        subst hp
        rfl
    · by_cases hjk : j = k
      · exact ⟨(k, lineOf D.L k), List.mem_append.2 (.inr (by simp)), hjk.symm⟩
      · obtain ⟨p, hp, hpj⟩ := h2 j (by omega)
        refine ⟨p, List.mem_append.2 (.inl ?_), hpj⟩
        unfold wout
        rw [List.mem_filter]
        exact ⟨hp, by simp; omega⟩
/-- where all lines that wait are as they are seen -/
theorem stl_all {L : Wd} : ∀ (W : List Wt) (i : Nat) (S : Wd) (x : Nat), (∀ p ∈ W, p.2 = lineOf L p.1) → ((∃ p ∈ W, p.1 = x / 8) ∨ S x = L x) → stl (fun _ => true) i W S x = L x
  | [], _, S, x, _, h => by
    rcases h with ⟨p, hp, _⟩ | h
    · cases hp
    · exact h
  | q :: W, i, S, x, h, hx => by
    show stl (fun _ => true) (i + 1) W (setLn S q.1 q.2) x = L x
    refine stl_all W (i + 1) _ x (fun p hp => h p (List.mem_cons_of_mem _ hp)) ?_
    by_cases hq : q.1 = x / 8
    · right
      unfold setLn
      rw [if_pos hq.symm, h q (List.mem_cons_self ..)]
      unfold lineOf
      rw [hq, Nat.div_add_mod]
    · rcases hx with ⟨p, hp, hpx⟩ | hx
      · rcases List.mem_cons.1 hp with rfl | hp
        · exact absurd hpx hq
        · exact .inl ⟨p, hp, hpx⟩
      · right
        unfold setLn
        rw [if_neg (fun e => hq e.symm)]
        exact hx
/-- all lines flushed, and fenced -/
theorem fenced_S {D : Dv} (h : DvOk D) {x : Nat} (hx : x < 8 * D.n) : (flushN D D.n).fence.S x = D.L x := by
  obtain ⟨h1, h2⟩ := flushN_W (D := D) D.n (Nat.le_refl _)
  have hok := flushN_ok h D.n
  show stl (fun _ => true) 0 (flushN D D.n).W (flushN D D.n).S x = D.L x
  refine stl_all _ _ _ _ (fun p hp => h1 p hp (by have := hok.lt p hp; rw [flushN_n] at this; exact this)) (.inl (h2 (x / 8) (by omega)))
theorem eqW_of {G H : Wd} (h : ∀ i, i < 8 → G i = H i) : eqW G H = true := by
  unfold eqW
  rw [List.all_eq_true]
  exact fun i hi => by simpa using h i (List.mem_range.1 hi)
theorem eqW_iff {G H : Wd} : eqW G H = true ↔ ∀ i, i < 8 → G i = H i := by
  refine ⟨fun h i hi => ?_, eqW_of⟩
  unfold eqW at h
  rw [List.all_eq_true] at h
  simpa using h i (List.mem_range.2 hi)
theorem eqL_iff {n : Nat} {F G : Wd} : eqL n F G = true ↔ ∀ x, x < 8 * n → F x = G x := by
  unfold eqL
  rw [List.all_eq_true]
  refine ⟨fun h x hx => ?_, fun h k hk => eqW_of (fun i hi => h _ (by have := List.mem_range.1 hk; omega))⟩
  have := eqW_iff.1 (h (x / 8) (List.mem_range.2 (by omega))) (x % 8) (Nat.mod_lt _ (by omega))
  unfold lineOf at this
  rwa [Nat.div_add_mod] at this
theorem dirty_zero {F G : Wd} : ∀ n, (∀ x, x < 8 * n → F x = G x) → dirtyN F G n = 0
  | 0, _ => rfl
  | n + 1, h => by
    unfold dirtyN
    rw [dirty_zero n (fun x hx => h x (by omega)), eqW_of (G := lineOf F n) (H := lineOf G n) (fun i hi => h (8 * n + i) (by omega))]
    rfl
theorem eqB_iff {A B : Dv} : A.eqB B = true ↔ A.n = B.n ∧ (∀ x, x < 8 * A.n → A.L x = B.L x) ∧ (∀ x, x < 8 * A.n → A.S x = B.S x) ∧ eqWs A.W B.W = true := by
  unfold Dv.eqB
  rw [Bool.and_eq_true, Bool.and_eq_true, Bool.and_eq_true, eqL_iff, eqL_iff, decide_eq_true_eq]
  constructor
  · rintro ⟨⟨⟨a, b⟩, c⟩, d⟩; exact ⟨a, b, c, d⟩
  · rintro ⟨a, b, c, d⟩; exact ⟨⟨⟨a, b⟩, c⟩, d⟩
/-- a crash behind that -/
theorem crash_same {D : Dv} (hW : D.W = []) (hS : ∀ x, x < 8 * D.n → D.S x = D.L x) (sel : Nat → Bool) : (D.crash sel).eqB D = true := by
  rw [eqB_iff]
  have hs : (D.crash sel).S = D.S := by
    show stl sel 0 D.W D.S = D.S
    rw [hW]
    rfl
  refine ⟨rfl, fun x hx => ?_, fun x hx => by rw [hs], ?_⟩
  · show (D.crash sel).S x = D.L x
    rw [hs]
    exact hS x hx
  · rw [hW]
    rfl
end Go.Proofs.Ytfojmjkcjdehaaa
