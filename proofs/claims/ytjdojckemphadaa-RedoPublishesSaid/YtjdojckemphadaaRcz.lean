/- A row of words stored into a new block. -/
import Derived.Test.YtjdojckemphadaaRcM
namespace Go.Proofs.Ytjdojckemphadaa
open Go Go.RowKit

/-- the store of words into fresh ones -/
theorem store25z {ops : Array Oper} {rest : List Oper} {dst : Option Tmp} {x y : Operand} {ty : TypeId} {pos : String} {aft : Array Edge} {a : Act} {w : World} {Q : Exit → Act → World → Prop} {g : Nat} {G : Nat → Int}
    (hg : w.heap.size = g) (hx : a.eval x = .pointer (some ⟨g, 0, none⟩)) (hy : a.eval y = .agg (arrF 24 G))
    (h : ∀ W, Ext [] w W → W.heap.size = g + 1 → W.heap[g]? = some (.cells (arrF 24 G) 49 (0, 0)) → wpList Try.prog ops Q rest (a.put dst undef) W) :
    wpList Try.prog ops Q ({ dst := dst, op := .store 49 x y, type := ty, pos := pos, after := aft, guard := none } :: rest) a (w.alloc (.cells #[.int .u64 0, .int .u64 0, .int .u64 0, .int .u64 0, .int .u64 0, .int .u64 0, .int .u64 0, .int .u64 0, .int .u64 0, .int .u64 0, .int .u64 0, .int .u64 0, .int .u64 0, .int .u64 0, .int .u64 0, .int .u64 0, .int .u64 0, .int .u64 0, .int .u64 0, .int .u64 0, .int .u64 0, .int .u64 0, .int .u64 0, .int .u64 0] 49)) := by
  subst hg
  rw [← arr0]
  exact store25 (World.alloc_heap_new _ _) hx hy (fun W h1 h2 h3 => h W (((Ext.refl [] w).alloc _).trans' h1 (fun j hj => .inr (by simp at hj; omega))) (by rw [h2, World.size_alloc]) h3)

end Go.Proofs.Ytjdojckemphadaa
