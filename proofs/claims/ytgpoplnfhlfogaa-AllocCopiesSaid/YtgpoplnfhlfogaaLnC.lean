/- Rows of pairs of a truth and a number, as lists of cells. No program is named here. -/
import Derived.Test.YtgpoplnfhlfogaaOpn
import Derived.Test.YtgpoplnfhlfogaaAlM
namespace Go.Proofs.Ytgpoplnfhlfogaa
open Go Go.RowKit

/-- n pairs as cells -/
def lnC (F : Nat → Bool × Int) : Nat → List Value
  | 0 => []
  | n + 1 => lnC F n ++ [.bool (F n).1, .int .i64 (F n).2]
theorem lnC_len (F : Nat → Bool × Int) : ∀ n, (lnC F n).length = n * 2
  | 0 => rfl
  | n + 1 => by simp [lnC, lnC_len F n]; omega
theorem lnC_get (F : Nat → Bool × Int) : ∀ n i, i < n → (lnC F n)[i * 2]? = some (.bool (F i).1) ∧ (lnC F n)[i * 2 + 1]? = some (.int .i64 (F i).2)
  | 0, i, h => absurd h (Nat.not_lt_zero _)
  | n + 1, i, h => by
    unfold lnC
    by_cases hi : i < n
    · have := lnC_get F n i hi
      rw [List.getElem?_append_left (by rw [lnC_len]; omega), List.getElem?_append_left (by rw [lnC_len]; omega)]
      exact this
    · obtain rfl : i = n := by omega
      rw [List.getElem?_append_right (by rw [lnC_len]; omega), List.getElem?_append_right (by rw [lnC_len]; omega), lnC_len]
      rw [show i * 2 - i * 2 = 0 from by omega, show i * 2 + 1 - i * 2 = 1 from by omega]
      exact ⟨rfl, rfl⟩
theorem lnC_at (F : Nat → Bool × Int) (n j : Nat) (u : Value) (h : (lnC F n)[j]? = some u) : ∃ i, i < n ∧ ((j = i * 2 ∧ u = .bool (F i).1) ∨ (j = i * 2 + 1 ∧ u = .int .i64 (F i).2)) := by
  have hl : j < n * 2 := by
    have := (List.getElem?_eq_some_iff.1 h).1
    rwa [lnC_len] at this
  obtain ⟨i, hi, hj | hj⟩ : ∃ i, i < n ∧ (j = i * 2 ∨ j = i * 2 + 1) := ⟨j / 2, by omega, by omega⟩
  · have := (lnC_get F n i hi).1
    rw [← hj, h] at this
    exact ⟨i, hi, .inl ⟨hj, by injection this⟩⟩
  · have := (lnC_get F n i hi).2
    rw [← hj, h] at this
    exact ⟨i, hi, .inr ⟨hj, by injection this⟩⟩
theorem lnC_one (F : Nat → Bool × Int) (n : Nat) : ∀ u ∈ lnC F n, u.oneCell' = true := by
  intro u hu
  obtain ⟨j, hj⟩ := List.getElem?_of_mem hu
  obtain ⟨i, _, ⟨_, rfl⟩ | ⟨_, rfl⟩⟩ := lnC_at F n j u hj <;> rfl

/-- the lines of the document's pool lie there -/
def RPl (w : World) (ao : Option Addr) (lo : Int) (n : Nat) (S : Lns) : Prop :=
  n = 0 ∨ ∃ b off, ao = some ⟨b, off, none⟩ ∧ ∀ i, i < n → w.cell? ⟨b, off + i * 2, none⟩ = some (.bool (S (lo + (i : Int))).1) ∧ w.cell? ⟨b, off + i * 2 + 1, none⟩ = some (.int .i64 (S (lo + (i : Int))).2)
theorem RPl.ext {w w' : World} {ao : Option Addr} {lo : Int} {n : Nat} {S : Lns} {k : List Nat} (h : RPl w ao lo n S) (hE : Ext k w w') (hk : ∀ p, ao = some p → p.block ∉ k) : RPl w' ao lo n S := by
  rcases h with h | ⟨b, off, h1, h2⟩
  · exact .inl h
  · exact .inr ⟨b, off, h1, fun i hi => ⟨hE.cell (h2 i hi).1 (show b ∉ k from hk _ h1), hE.cell (h2 i hi).2 (show b ∉ k from hk _ h1)⟩⟩
theorem RPl.ext0 {w w' : World} {ao : Option Addr} {lo : Int} {n : Nat} {S : Lns} (h : RPl w ao lo n S) (hE : Ext [] w w') : RPl w' ao lo n S := h.ext hE (fun _ _ => by simp)
theorem RPl.src {w : World} {ao : Option Addr} {lo : Int} {n : Nat} {S : Lns} (h : RPl w ao lo n S) : RowSrc w ao n 2 (lnC (fun i => S (lo + (i : Int))) n) := by
  rcases h with rfl | ⟨b, off, rfl, hc⟩
  · cases ao with
    | none => exact .inl ⟨rfl, rfl, rfl⟩
    | some ad => exact .inr ⟨ad, rfl, rfl, fun j u hj => by simp [lnC] at hj, fun u hu => by simp [lnC] at hu⟩
  · refine .inr ⟨_, rfl, lnC_len _ _, fun j u hj => ?_, lnC_one _ _⟩
    obtain ⟨i, hi, ⟨rfl, rfl⟩ | ⟨rfl, rfl⟩⟩ := lnC_at _ n j u hj
    · have := (hc i hi).1
      unfold Addr.add
      split
      · rename_i h0
        rw [show i * 2 = 0 from by simpa using h0] at this
        exact this
      · exact this
    · have := (hc i hi).2
      unfold Addr.add
      split
      · rename_i h0
        simp at h0
      · exact this
end Go.Proofs.Ytgpoplnfhlfogaa
