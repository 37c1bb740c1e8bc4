/- Touches, in plain words: which may be, which lists, and what they do to a device. No program is named here. -/
import Derived.Test.YtfojmjkcjdehaaaPmM
namespace Go.Proofs.Ytfojmjkcjdehaaa
open Go Go.RowKit

/-- a touch: its kind, where, and a word -/
structure Tch where
  kd : Int
  at' : Int
  wd : Int
deriving DecidableEq
/-- no touch -/
def tch0 : Tch := ⟨0, 0, 0⟩
/-- up to where it may be, and whether it may have a word -/
def bndT (k : Int) : Int × Bool := if k = 1 ∨ k = 2 then (8192, true) else if k = 3 then (1024, false) else if k = 4 then (1, false) else (0, false)
/-- may it be? -/
def Tch.right (t : Tch) : Bool := decide (0 ≤ t.at') && decide (t.at' < (bndT t.kd).1) && ((bndT t.kd).2 || t.wd == 0)
/-- what is wrong with a list -/
def tcheck (L : List Tch) : Int := if L.all Tch.right = true then (if 4096 < L.length then 3 else 0) else 2
/-- a touch is done -/
def playOne (D : Dv) (t : Tch) : Dv × Int := if t.kd = 1 then (D, (D.load t.at').2) else if t.kd = 2 then D.store t.at' t.wd else if t.kd = 3 then D.flush t.at' else (D.fence, 0)
/-- touches are done, till one is refused -/
def playL (D : Dv) : List Tch → Dv × Int
  | [] => (D, 0)
  | t :: r => if (playOne D t).2 = 0 then playL (playOne D t).1 r else ((playOne D t).1, (playOne D t).2)
theorem playOne_ok {D : Dv} (h : DvOk D) (t : Tch) : DvOk (playOne D t).1 := by
  unfold playOne
  split
  · exact h
  · split
    · exact Dv.store_ok h _ _
    · split
      · exact Dv.flush_ok h _
      · exact Dv.settle_ok h _
theorem playL_ok {D : Dv} (h : DvOk D) : ∀ L : List Tch, DvOk (playL D L).1
  | [] => h
  | t :: r => by
    unfold playL
    split
    · exact playL_ok (playOne_ok h t) r
    · exact playOne_ok h t
theorem playOne_n (D : Dv) (t : Tch) : (playOne D t).1.n = D.n := by
  unfold playOne
  split
  · rfl
  · split
    · unfold Dv.store Dv.put; split <;> rfl
    · split
      · unfold Dv.flush; split <;> rfl
      · rfl
theorem playL_n (D : Dv) : ∀ L : List Tch, (playL D L).1.n = D.n
  | [] => rfl
  | t :: r => by
    unfold playL
    split
    · exact (playL_n _ r).trans (playOne_n D t)
    · exact playOne_n D t
/-- one more behind -/
theorem playL_snoc (D : Dv) : ∀ (L : List Tch) (t : Tch), (playL D L).2 = 0 → playL D (L ++ [t]) = playOne (playL D L).1 t
  | [], t, _ => by
    show playL D [t] = playOne D t
    unfold playL
    split
    · rename_i h
      unfold playL
      rw [← h]
    · rfl
  | x :: r, t, h => by
    unfold playL at h ⊢
    show (if (playOne D x).2 = 0 then playL (playOne D x).1 (r ++ [t]) else _) = _
    split at h
    · rename_i h0
      rw [if_pos h0, if_pos h0]
      exact playL_snoc _ r t h
    · rename_i h0
      exact absurd h h0
theorem playL_append (D : Dv) : ∀ (L M : List Tch), (playL D L).2 = 0 → playL D (L ++ M) = playL (playL D L).1 M
  | [], _, _ => rfl
  | x :: r, M, h => by
    unfold playL at h
    show (if (playOne D x).2 = 0 then playL (playOne D x).1 (r ++ M) else _) = _
    split at h
    · rename_i h0
      rw [if_pos h0, playL_append _ r M h, show (playL D (x :: r)).1 = (playL (playOne D x).1 r).1 from by
        show (if (playOne D x).2 = 0 then playL (playOne D x).1 r else _).1 = _
        rw [if_pos h0]]
    · rename_i h0
      exact absurd h h0
theorem tcheck_zero {L : List Tch} (h : tcheck L = 0) : (∀ t ∈ L, t.right = true) ∧ L.length ≤ 4096 := by
  unfold tcheck at h
  split at h
  · rename_i h1
    split at h
    · cases h
    · exact ⟨List.all_eq_true.1 h1, by omega⟩
  · cases h
theorem tcheck_of {L : List Tch} (h : ∀ t ∈ L, t.right = true) (hl : L.length ≤ 4096) : tcheck L = 0 := by
  unfold tcheck
  rw [if_pos (List.all_eq_true.2 h), if_neg (by omega)]
theorem bndT_kind {k : Int} {a : Int} (h0 : 0 ≤ a) (h1 : a < (bndT k).1) : k = 1 ∨ k = 2 ∨ k = 3 ∨ k = 4 := by
  unfold bndT at h1
  split at h1
  · rename_i h; rcases h with h | h <;> simp [h]
  · split at h1
    · rename_i h; simp [h]
    · split at h1
      · rename_i h; simp [h]
      · exact absurd h1 (by simp; omega)
theorem Tch.right_kind {t : Tch} (h : t.right = true) : t.kd = 1 ∨ t.kd = 2 ∨ t.kd = 3 ∨ t.kd = 4 := by
  unfold Tch.right at h
  simp only [Bool.and_eq_true, decide_eq_true_eq] at h
  exact bndT_kind h.1.1 h.1.2
end Go.Proofs.Ytfojmjkcjdehaaa
