/- The load of a whole row of 24 words, as one step of a region that draws its order. -/
import Derived.Test.YteaedcjnfigigaaRcQ
namespace Go.Proofs.Yteaedcjnfigigaa
open Go Go.RowKit

/-- does v point to the start of a block of 24 cells? -/
def rowOk (w : World) (v : Value) : Bool :=
  match v with
  | .pointer (some ⟨g, 0, none⟩) => match w.heap[g]? with
    | some (.cells cs _ _) => cs.size == 24
    | _ => false
  | _ => false
/-- what lies in the block that v points to -/
def rowVal (w : World) (v : Value) : Value :=
  match v with
  | .pointer (some ⟨g, 0, none⟩) => match w.heap[g]? with
    | some (.cells cs _ _) => .agg cs
    | _ => undef
  | _ => undef
theorem row_of {w : World} {g : Nat} {F : Nat → Int} {t : TypeId} {f : Nat × Nat} (h : w.heap[g]? = some (.cells (arrF 24 F) t f)) :
    rowOk w (.pointer (some ⟨g, 0, none⟩)) = true ∧ rowVal w (.pointer (some ⟨g, 0, none⟩)) = .agg (arrF 24 F) := by
  unfold rowOk rowVal
  simp [h, arrF_size]
theorem wp_load25 {dst : Option Tmp} {x : Operand} {ty : TypeId} {pos : String} {aft : Array Edge} {gd : Option (Nat × Bool)} {a : Act} {w : World} {K : Act → World → Prop} {Q : Exit → Act → World → Prop}
    (h : rowOk w (a.eval x) = true) :
    Oper.wp Try.prog { dst := dst, op := .load 25 x, type := ty, pos := pos, after := aft, guard := gd } a w K Q = K (a.put dst (rowVal w (a.eval x))) w := by
  generalize hv : a.eval x = v at *
  unfold rowOk at h
  split at h
  · rename_i g
    split at h
    · rename_i cs t f hg
      have hs : cs.size = 24 := by simpa using h
      have hr : rowVal w (.pointer (some ⟨g, 0, none⟩)) = .agg cs := by unfold rowVal; simp [hg]
      rw [hr]
      unfold Oper.wp
      simp only [execOp, hv, Instr.loadAt, Instr.sureAddr, Sem.run_bind, Sem.run_pure, Result.andThen_ok]
      rw [run_loadVar_row w g t 25 cs f _ hg Try.underlying25 rfl (by rw [hs]; exact sz25)]
      rfl
    · cases h
  · cases h
end Go.Proofs.Yteaedcjnfigigaa
