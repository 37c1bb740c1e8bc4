/- Counting what an iterator hands on, and leaving it at so many: the loop's invariants. No program is named here. -/
import Derived.Test.YtjdojckemphadaaRnd
namespace Go.Proofs.Ytjdojckemphadaa
open Go Go.RowKit

theorem cell1_set' {w : World} {g : Nat} {v : Value} {e : TypeId} (h : w.heap[g]? = some (.cells #[v] e (0, 0))) (u : Value) : (w.setCell ⟨g, 0, none⟩ u).heap[g]? = some (.cells #[u] e (0, 0)) := cell1_set h u
/-- block nb counts what was handed on; fewer than many, or none -/
def CntGo (W0 : World) (nb T : Nat) (many : Int) (mm : List Nat) (pre : List (Array Value)) (W : World) : Prop :=
  mm = [nb] ∧ Ext [nb] W0 W ∧ W.heap[nb]? = some (.cells #[.int .i64 pre.length] T (0, 0)) ∧ (pre.length = 0 ∨ (pre.length : Int) < many)
/-- it was left at the count of v -/
def CntEnd (W0 : World) (nb T m id : Nat) (many : Int) (c : Code) (W : World) : Prop :=
  c = .exit id ∧ ∃ v : Nat, Ext [nb] W0 W ∧ W.heap[nb]? = some (.cells #[.int .i64 v] T (0, 0)) ∧ 1 ≤ v ∧ v ≤ m ∧ many ≤ v ∧ (v = 1 ∨ (v : Int) - 1 < many)
theorem CntGo.steady {W0 : World} {nb T N : Nat} {many : Int} (hN : W0.heap.size ≤ N) (mm : List Nat) (pre : List (Array Value)) : Steady N (CntGo W0 nb T many mm pre) :=
  (Steady.const _ _).and ((Steady.ext hN).and ((Steady.block (.inr rfl)).and (Steady.const _ _)))
theorem CntEnd.steady {W0 : World} {nb T m id N : Nat} {many : Int} (hN : W0.heap.size ≤ N) (c : Code) : Steady N (CntEnd W0 nb T m id many c) :=
  (Steady.const _ _).and (.ex fun _ => (Steady.ext hN).and ((Steady.block (.inr rfl)).and (Steady.const _ _)))
theorem CntGo.start {W0 : World} {nb T : Nat} {many : Int} (h : W0.heap[nb]? = some (.cells #[.int .i64 0] T (0, 0))) : CntGo W0 nb T many [nb] [] W0 := ⟨rfl, Ext.refl _ _, h, .inl rfl⟩
/-- one more was handed on -/
theorem CntGo.step {W0 W Wx : World} {nb T q : Nat} {many : Int} {mm : List Nat} {pre : List (Array Value)} {x : Array Value} (h : CntGo W0 nb T many mm pre W) (hq : pre.length = q) (hm : (q : Int) + 1 < many) :
    ∃ m', Sub Wx mm m' ∧ CntGo W0 nb T many m' (pre ++ [x]) (W.setCell ⟨nb, 0, none⟩ (.int .i64 ((q : Int) + 1))) := by
  obtain ⟨rfl, hE, hb, _⟩ := h
  refine ⟨[nb], Sub.refl _ _, rfl, hE.setCell (.inl (by simp)) _, ?_, .inr (by simp; omega)⟩
  have := cell1_set hb (.int .i64 ((q : Int) + 1))
  rw [this]
  simp [hq]
theorem CntGo.stop {W0 W : World} {nb T q m id : Nat} {many : Int} {mm : List Nat} {pre : List (Array Value)} (h : CntGo W0 nb T many mm pre W) (hq : pre.length = q) (hm : many ≤ (q : Int) + 1) (hqm : q < m) :
    CntEnd W0 nb T m id many (.exit id) (W.setCell ⟨nb, 0, none⟩ (.int .i64 ((q : Int) + 1))) := by
  obtain ⟨rfl, hE, hb, hl⟩ := h
  refine ⟨rfl, q + 1, hE.setCell (.inl (by simp)) _, cell1_set hb _, by omega, by omega, by omega, ?_⟩
  rw [hq] at hl
  omega
/-- behind all, or where it was left: the count -/
def Counted (W0 : World) (nb T m : Nat) (many : Int) (W : World) : Prop := ∃ v : Nat, Ext [nb] W0 W ∧ W.heap[nb]? = some (.cells #[.int .i64 v] T (0, 0)) ∧ (v : Int) = min (m : Int) (max 1 many)
theorem CntGo.done {W0 W : World} {nb T m : Nat} {many : Int} {mm : List Nat} {xs : List (Array Value)} (h : CntGo W0 nb T many mm xs W) (hm : xs.length = m) : Counted W0 nb T m many W := by
  obtain ⟨rfl, hE, hb, hl⟩ := h
  rw [hm] at hb hl
  exact ⟨m, hE, hb, by omega⟩
theorem CntEnd.done {W0 W : World} {nb T m id : Nat} {many : Int} {c : Code} (h : CntEnd W0 nb T m id many c W) : c = .exit id ∧ Counted W0 nb T m many W := by
  obtain ⟨rfl, v, hE, hb, h1, h2, h3, h4⟩ := h
  exact ⟨rfl, v, hE, hb, by omega⟩
end Go.Proofs.Ytjdojckemphadaa
