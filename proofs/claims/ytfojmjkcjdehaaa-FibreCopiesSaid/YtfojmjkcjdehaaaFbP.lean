/- Plain law of FibreParts: steps of a fibre, iterated. -/
import Derived.Test.YtfojmjkcjdehaaaFbH
namespace Go.Proofs.Ytfojmjkcjdehaaa
open Go Go.RowKit Go.Shelf

/-- what is left, what was done, the device -/
abbrev Fs := List Tch × List Tch × Dv
def stS (s : Fs) : Fs := ((fstep s.1 s.2.1 s.2.2).L, (fstep s.1 s.2.1 s.2.2).dn, (fstep s.1 s.2.1 s.2.2).D)
def itS : Nat → Fs → Fs
  | 0, s => s
  | n + 1, s => stS (itS n s)
theorem itS_add (m n : Nat) (s : Fs) : itS (m + n) s = itS m (itS n s) := by
  induction m with
  | zero => rw [Nat.zero_add]; rfl
  | succ m ih =>
    rw [Nat.succ_add]
    show stS (itS (m + n) s) = stS (itS m (itS n s))
    rw [ih]
theorem playD_stuck {D : Dv} {t : Tch} (h : playE D [t] ≠ 0) : playD D [t] = D := by
  unfold playD
  unfold playE at h
  by_cases hc : tcheck [t] = 0
  · rw [if_pos hc] at h ⊢
    have e1 : (playL D [t]).1 = (playOne D t).1 ∧ (playL D [t]).2 = (playOne D t).2 := by
      unfold playL
      split
      · rename_i h; rw [h]; exact ⟨rfl, rfl⟩
      · exact ⟨rfl, rfl⟩
    rw [e1.2] at h
    rw [e1.1]
    revert h
    unfold playOne Dv.store Dv.flush
    (repeat' split) <;> simp
  · rw [if_neg hc]
theorem stS_nil (dn : List Tch) (D : Dv) : stS ([], dn, D) = ([], dn, D) := rfl
/-- a step stands still, or one is less left -/
theorem stS_or (s : Fs) : stS s = s ∨ (stS s).1.length + 1 = s.1.length ∧ (stS s).2.1.length = s.2.1.length + 1 := by
  obtain ⟨L, dn, D⟩ := s
  cases L with
  | nil => exact .inl rfl
  | cons t r =>
    by_cases hp : playE D [t] = 0
    · have hf : fstep (t :: r) dn D = ⟨stepT D t, 0, r, dn ++ [stepT D t], playD D [t]⟩ := if_pos hp
      refine .inr ⟨?_, ?_⟩
      · show (fstep (t :: r) dn D).L.length + 1 = _
        rw [hf]; rfl
      · show (fstep (t :: r) dn D).dn.length = _
        rw [hf]; simp
    · have hf : fstep (t :: r) dn D = ⟨tch0, playE D [t], t :: r, dn, playD D [t]⟩ := if_neg hp
      left
      show ((fstep (t :: r) dn D).L, (fstep (t :: r) dn D).dn, (fstep (t :: r) dn D).D) = _
      rw [hf, playD_stuck hp]
theorem stS_len (s : Fs) : (stS s).1.length + (stS s).2.1.length = s.1.length + s.2.1.length := by
  rcases stS_or s with h | ⟨h1, h2⟩
  · rw [h]
  · omega
theorem itS_len (n : Nat) (s : Fs) : (itS n s).1.length + (itS n s).2.1.length = s.1.length + s.2.1.length := by
  induction n with
  | zero => rfl
  | succ n ih => exact (stS_len _).trans ih
theorem itS_or (n : Nat) (s : Fs) : stS (itS n s) = itS n s ∨ (itS n s).1.length + n = s.1.length := by
  induction n with
  | zero => exact .inr rfl
  | succ n ih =>
    rcases ih with h | h
    · left
      show stS (stS (itS n s)) = stS (itS n s)
      rw [h, h]
    · rcases stS_or (itS n s) with g | ⟨g, _⟩
      · left
        show stS (stS (itS n s)) = stS (itS n s)
        rw [g, g]
      · right
        show (stS (itS n s)).1.length + (n + 1) = _
        omega
/-- as many steps as there were touches: it stands still -/
theorem itS_fix {n : Nat} {s : Fs} (h : s.1.length ≤ n) : stS (itS n s) = itS n s := by
  rcases itS_or n s with g | g
  · exact g
  · have h0 : (itS n s).1 = [] := List.length_eq_zero_iff.1 (by omega)
    rcases e : itS n s with ⟨L, dn, D⟩
    rw [e] at h0
    cases h0
    rfl
theorem itS_more {n : Nat} {s : Fs} (h : s.1.length ≤ n) (j : Nat) : itS (j + n) s = itS n s := by
  induction j with
  | zero => rw [Nat.zero_add]
  | succ j ih =>
    rw [Nat.succ_add]
    show stS (itS (j + n) s) = _
    rw [ih]
    exact itS_fix h
def moreS (s : Fs) (M : List Tch) : Fs := (s.1 ++ M, s.2)
theorem stS_moreS (s : Fs) (M : List Tch) : moreS (stS s) M = moreS s M ∨ moreS (stS s) M = stS (moreS s M) := by
  obtain ⟨L, dn, D⟩ := s
  cases L with
  | nil => exact .inl rfl
  | cons t r =>
    right
    by_cases hp : playE D [t] = 0
    · have hf : fstep (t :: r) dn D = ⟨stepT D t, 0, r, dn ++ [stepT D t], playD D [t]⟩ := if_pos hp
      have hg : fstep (t :: (r ++ M)) dn D = ⟨stepT D t, 0, r ++ M, dn ++ [stepT D t], playD D [t]⟩ := if_pos hp
      show ((fstep (t :: r) dn D).L ++ M, (fstep (t :: r) dn D).dn, (fstep (t :: r) dn D).D) = ((fstep (t :: (r ++ M)) dn D).L, (fstep (t :: (r ++ M)) dn D).dn, (fstep (t :: (r ++ M)) dn D).D)
      rw [hf, hg]
    · have hf : fstep (t :: r) dn D = ⟨tch0, playE D [t], t :: r, dn, playD D [t]⟩ := if_neg hp
      have hg : fstep (t :: (r ++ M)) dn D = ⟨tch0, playE D [t], t :: (r ++ M), dn, playD D [t]⟩ := if_neg hp
      show ((fstep (t :: r) dn D).L ++ M, (fstep (t :: r) dn D).dn, (fstep (t :: r) dn D).D) = ((fstep (t :: (r ++ M)) dn D).L, (fstep (t :: (r ++ M)) dn D).dn, (fstep (t :: (r ++ M)) dn D).D)
      rw [hf, hg]
      rfl
theorem itS_moreS (n : Nat) (s : Fs) (M : List Tch) : ∃ j, moreS (itS n s) M = itS j (moreS s M) := by
  induction n with
  | zero => exact ⟨0, rfl⟩
  | succ n ih =>
    obtain ⟨j, hj⟩ := ih
    rcases stS_moreS (itS n s) M with h | h
    · exact ⟨j, h.trans hj⟩
    · exact ⟨j + 1, h.trans (congrArg stS hj)⟩
/-- P20.3: whenever the touches come, the end is the same -/
theorem parts (L M : List Tch) (D : Dv) (ahead : Nat) : itS (L.length + M.length) (moreS (itS ahead (L, [], D)) M) = itS (L.length + M.length) (L ++ M, [], D) := by
  obtain ⟨j, hj⟩ := itS_moreS ahead (L, [], D) M
  rw [hj, ← itS_add, Nat.add_comm (L.length + M.length) j]
  exact itS_more (s := (L ++ M, [], D)) (by simp) j
theorem tcheck_left {L M : List Tch} (h : tcheck (L ++ M) = 0) : tcheck M = 0 := by
  have h1 := tcheck_zero h
  exact tcheck_of (fun t ht => h1.1 t (List.mem_append_right _ ht)) (by have := h1.2; rw [List.length_append] at this; omega)
/-- Then's answer: no fault -/
theorem then_ok {L M r dn : List Tch} (h : tcheck (L ++ M) = 0) (hr : r.length + dn.length = L.length) : thenE r dn M = 0 := by
  have h1 := (tcheck_zero h).2
  rw [List.length_append] at h1
  unfold thenE
  rw [tcheck_left h]
  unfold ask2
  rw [if_pos rfl, if_neg]
  simp
  omega
end Go.Proofs.Ytfojmjkcjdehaaa
