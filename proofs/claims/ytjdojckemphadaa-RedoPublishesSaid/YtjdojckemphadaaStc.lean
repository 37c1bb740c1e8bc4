/- A cell abides whatever is Calm. No program is named here. -/
import Derived.Test.YtjdojckemphadaaCore
namespace Go.Proofs.Ytjdojckemphadaa
open Go Go.RowKit

theorem Steady.mono {N N' : Nat} {I : World → Prop} (h : Steady N I) (hN : N ≤ N') : Steady N' I := fun w w' hi c => h w w' hi (c.mono hN)
theorem Steady.cell {N : Nat} {p : Addr} {v : Value} : Steady N (fun W => W.cell? p = some v) := fun w w' h c => by
  have hl := World.block_lt_of_cell? _ _ h
  cases hb : w.heap[p.block]? with
  | none => simp [World.cell?, hb] at h
  | some o =>
    have hd : dataB o = true := by
      cases o <;> first | rfl | (simp [World.cell?, hb] at h)
    exact (World.cell?_of_block (w := w) ((c.block _ _ hb (.inr hd)).trans hb.symm)).trans h
theorem setCell_same {w : World} {b o : Nat} {cs : Array Value} {e : TypeId} {f : Nat × Nat} {v : Value} (h : w.heap[b]? = some (.cells cs e f)) (hv : cs[o]? = some v) : w.setCell ⟨b, o, none⟩ v = w := by
  have hm : w.heap.modify b (fun x => match x with
      | .cells c elem frozen => .cells (if (none : Option Nat).isSome then c else c.setIfInBounds o v) elem frozen
      | o => o) = w.heap := by
    refine Array.ext_getElem? (fun i => ?_)
    rw [Array.getElem?_modify]
    by_cases hi : b = i
    · subst hi
      rw [if_pos rfl, h]
      have hs : cs.setIfInBounds o v = cs := by
        refine Array.ext_getElem? (fun j => ?_)
        rw [Array.getElem?_setIfInBounds]
        by_cases hj : o = j
        · subst hj
          have hlt := (Array.getElem?_eq_some_iff.1 hv).1
          rw [if_pos rfl, if_pos hlt, hv]
        · rw [if_neg hj]
      simp [hs]
    · rw [if_neg hi]
  exact congrArg (fun h => ({ w with heap := h } : World)) hm
end Go.Proofs.Ytjdojckemphadaa
