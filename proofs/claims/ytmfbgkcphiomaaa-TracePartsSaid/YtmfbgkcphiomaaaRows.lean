/-
  No cell of these rows narrows 'for every input' (looked for: loops, veiled, ifaces, maps, wideKeys, modest, calm, conditions, laid).
  DERIVED. THE GIVEN ROWS OF THIS SEAT. 7 by the template 'for every input the law returns true; each argument reads behind the call as it read before'; 0 by the template 'total and deterministic' (their statements: YtmfbgkcphiomaaaTotals.lean).
  GIVEN WITH THE SEED: the statements are not yours to turn. If you find one false, say at which input.
  Laid BY PROGRAM, IN A SANDBOX (cutbox-rows.mjs): the forced cells as the released guide's own fill.sh prints them over the translation b7db6eec42c569a3… (all of the seat's roots in one cut). By AI agents, Wed Nov 11 2026. No macro, syntax, notation, axiom, sorry.
-/
import Derived.Test.YtmfbgkcphiomaaaChecked
import GoSem.Claim
import GoSem.ClaimJoined
import GoSem.ClaimMapViews
import Derived.JoinedTies
import Derived.KernelRfl
namespace Go.Proofs.Ytmfbgkcphiomaaa
/- THE CELL 'sum', in the pinned program and in every row, IS THE sha256 OF THE DUMP (.gsa) THAT YtmfbgkcphiomaaaProg.lean LOADS. Nothing in Lean hashes anything: it is a label: what it is worth is what the hold of that sum in a sandbox is worth. -/
noncomputable def Try.pinned : Pinned := { name := "ytmfbgkcphiomaaa", sum := "b7db6eec42c569a36104412eb6fc9d0c68e8d52d3522f70f228a5bac531d36d4", checked := Try.checked }
namespace Rows
def none {H : Type} : Left H := { results := [], args := [] }

/-- 'waterlinelaw05.TraceCloses': WHATEVER THE INPUT: true; the input reads as it did. -/
def traceClosesSpec : ChangeSpec := { name := "traceCloses", fn := fun _ => fun
  | [d] => { results := [.lit (.bool true)], args := [d] }
  | _ => none }
def traceClosesRow : OpenClaim := { program := "ytmfbgkcphiomaaa", sum := "b7db6eec42c569a36104412eb6fc9d0c68e8d52d3522f70f228a5bac531d36d4", func := "waterline/waterlinelaw05.TraceCloses", spec := "traceCloses", unfollowed := true, recurses := true, apart := false }
def TraceClosesSaid : Prop := traceClosesRow.holds Try.pinned (OpenSpec.ofChange traceClosesSpec)

/-- ITS FALSE NEIGHBOUR: 'it returns false'. Refute it at one input. -/
def traceClosesWrong : ChangeSpec := { name := "traceCloses", fn := fun _ => fun
  | [d] => { results := [.lit (.bool false)], args := [d] }
  | _ => none }
def TraceClosesWrongFalsely : Prop := traceClosesRow.holds Try.pinned (OpenSpec.ofChange traceClosesWrong)

/-- 'waterlinelaw05.TraceStores': WHATEVER THE INPUT: true; the input reads as it did. -/
def traceStoresSpec : ChangeSpec := { name := "traceStores", fn := fun _ => fun
  | [d1, d2] => { results := [.lit (.bool true)], args := [d1, d2] }
  | _ => none }
def traceStoresRow : OpenClaim := { program := "ytmfbgkcphiomaaa", sum := "b7db6eec42c569a36104412eb6fc9d0c68e8d52d3522f70f228a5bac531d36d4", func := "waterline/waterlinelaw05.TraceStores", spec := "traceStores", unfollowed := true, recurses := true, apart := false }
def TraceStoresSaid : Prop := traceStoresRow.holds Try.pinned (OpenSpec.ofChange traceStoresSpec)

/-- ITS FALSE NEIGHBOUR: 'it returns false'. Refute it at one input. -/
def traceStoresWrong : ChangeSpec := { name := "traceStores", fn := fun _ => fun
  | [d1, d2] => { results := [.lit (.bool false)], args := [d1, d2] }
  | _ => none }
def TraceStoresWrongFalsely : Prop := traceStoresRow.holds Try.pinned (OpenSpec.ofChange traceStoresWrong)

/-- 'waterlinelaw05.TraceLong': WHATEVER THE INPUT: true; the input reads as it did. -/
def traceLongSpec : ChangeSpec := { name := "traceLong", fn := fun _ => fun
  | [d1, d2] => { results := [.lit (.bool true)], args := [d1, d2] }
  | _ => none }
def traceLongRow : OpenClaim := { program := "ytmfbgkcphiomaaa", sum := "b7db6eec42c569a36104412eb6fc9d0c68e8d52d3522f70f228a5bac531d36d4", func := "waterline/waterlinelaw05.TraceLong", spec := "traceLong", unfollowed := true, recurses := true, apart := false }
def TraceLongSaid : Prop := traceLongRow.holds Try.pinned (OpenSpec.ofChange traceLongSpec)

/-- ITS FALSE NEIGHBOUR: 'it returns false'. Refute it at one input. -/
def traceLongWrong : ChangeSpec := { name := "traceLong", fn := fun _ => fun
  | [d1, d2] => { results := [.lit (.bool false)], args := [d1, d2] }
  | _ => none }
def TraceLongWrongFalsely : Prop := traceLongRow.holds Try.pinned (OpenSpec.ofChange traceLongWrong)

/-- 'waterlinelaw05.TraceHolds': WHATEVER THE INPUT: true; the input reads as it did. -/
def traceHoldsSpec : ChangeSpec := { name := "traceHolds", fn := fun _ => fun
  | [d1, d2] => { results := [.lit (.bool true)], args := [d1, d2] }
  | _ => none }
def traceHoldsRow : OpenClaim := { program := "ytmfbgkcphiomaaa", sum := "b7db6eec42c569a36104412eb6fc9d0c68e8d52d3522f70f228a5bac531d36d4", func := "waterline/waterlinelaw05.TraceHolds", spec := "traceHolds", unfollowed := true, recurses := true, apart := false }
def TraceHoldsSaid : Prop := traceHoldsRow.holds Try.pinned (OpenSpec.ofChange traceHoldsSpec)

/-- ITS FALSE NEIGHBOUR: 'it returns false'. Refute it at one input. -/
def traceHoldsWrong : ChangeSpec := { name := "traceHolds", fn := fun _ => fun
  | [d1, d2] => { results := [.lit (.bool false)], args := [d1, d2] }
  | _ => none }
def TraceHoldsWrongFalsely : Prop := traceHoldsRow.holds Try.pinned (OpenSpec.ofChange traceHoldsWrong)

/-- 'waterlinelaw05.TraceParts': WHATEVER THE INPUT: true; the input reads as it did. -/
def tracePartsSpec : ChangeSpec := { name := "traceParts", fn := fun _ => fun
  | [d1, d2] => { results := [.lit (.bool true)], args := [d1, d2] }
  | _ => none }
def tracePartsRow : OpenClaim := { program := "ytmfbgkcphiomaaa", sum := "b7db6eec42c569a36104412eb6fc9d0c68e8d52d3522f70f228a5bac531d36d4", func := "waterline/waterlinelaw05.TraceParts", spec := "traceParts", unfollowed := true, recurses := true, apart := false }
def TracePartsSaid : Prop := tracePartsRow.holds Try.pinned (OpenSpec.ofChange tracePartsSpec)

/-- ITS FALSE NEIGHBOUR: 'it returns false'. Refute it at one input. -/
def tracePartsWrong : ChangeSpec := { name := "traceParts", fn := fun _ => fun
  | [d1, d2] => { results := [.lit (.bool false)], args := [d1, d2] }
  | _ => none }
def TracePartsWrongFalsely : Prop := tracePartsRow.holds Try.pinned (OpenSpec.ofChange tracePartsWrong)

/-- 'waterlinelaw05.TraceChecks': WHATEVER THE INPUT: true; the input reads as it did. -/
def traceChecksSpec : ChangeSpec := { name := "traceChecks", fn := fun _ => fun
  | [d1, d2] => { results := [.lit (.bool true)], args := [d1, d2] }
  | _ => none }
def traceChecksRow : OpenClaim := { program := "ytmfbgkcphiomaaa", sum := "b7db6eec42c569a36104412eb6fc9d0c68e8d52d3522f70f228a5bac531d36d4", func := "waterline/waterlinelaw05.TraceChecks", spec := "traceChecks", unfollowed := true, recurses := true, apart := false }
def TraceChecksSaid : Prop := traceChecksRow.holds Try.pinned (OpenSpec.ofChange traceChecksSpec)

/-- ITS FALSE NEIGHBOUR: 'it returns false'. Refute it at one input. -/
def traceChecksWrong : ChangeSpec := { name := "traceChecks", fn := fun _ => fun
  | [d1, d2] => { results := [.lit (.bool false)], args := [d1, d2] }
  | _ => none }
def TraceChecksWrongFalsely : Prop := traceChecksRow.holds Try.pinned (OpenSpec.ofChange traceChecksWrong)

/-- 'waterlinelaw05.TraceCounts': WHATEVER THE INPUT: true; the input reads as it did. -/
def traceCountsSpec : ChangeSpec := { name := "traceCounts", fn := fun _ => fun
  | [d] => { results := [.lit (.bool true)], args := [d] }
  | _ => none }
def traceCountsRow : OpenClaim := { program := "ytmfbgkcphiomaaa", sum := "b7db6eec42c569a36104412eb6fc9d0c68e8d52d3522f70f228a5bac531d36d4", func := "waterline/waterlinelaw05.TraceCounts", spec := "traceCounts", unfollowed := true, recurses := true, apart := false }
def TraceCountsSaid : Prop := traceCountsRow.holds Try.pinned (OpenSpec.ofChange traceCountsSpec)

/-- ITS FALSE NEIGHBOUR: 'it returns false'. Refute it at one input. -/
def traceCountsWrong : ChangeSpec := { name := "traceCounts", fn := fun _ => fun
  | [d] => { results := [.lit (.bool false)], args := [d] }
  | _ => none }
def TraceCountsWrongFalsely : Prop := traceCountsRow.holds Try.pinned (OpenSpec.ofChange traceCountsWrong)

/- THE SECOND FORM. 'bulk': how many values and letters a reading holds, each counted each time it is reached (what is shared counts as often as it is met; a slice's spare places count too). A statement '..UptoSaid' is the law's where the arguments, and the package variables that the reading takes, are together of bulk at most 1048576: NARROWER than '..Said'. Prove '..Said' where nothing that the law and all that it calls make is longer than what came in: it says more and counts as full. Else prove '..UptoSaid'. A law counts once. -/
mutual
def uptoBulk {H : Type} : DataW H → Nat
  | .lit (.string bytes) => bytes.length + 1
  | .lit _ => 1
  | .nil => 1
  | .ptr d => uptoBulk d + 1
  | .slice elems spare => uptoBulkAll elems + uptoBulkAll spare + 1
  | .agg parts => uptoBulkAll parts + 1
  | .iface _ d => uptoBulk d + 1
  | .map entries => uptoBulkEntries entries + 1
  | .held _ => 1
def uptoBulkAll {H : Type} : List (DataW H) → Nat
  | [] => 0
  | d :: r => uptoBulk d + uptoBulkAll r
def uptoBulkEntries {H : Type} : List (Lit × DataW H) → Nat
  | [] => 0
  | x :: r => uptoBulkEntry x + uptoBulkEntries r
def uptoBulkEntry {H : Type} : Lit × DataW H → Nat
  | (.string bytes, d) => bytes.length + uptoBulk d + 1
  | (_, d) => uptoBulk d + 1
 end
def uptoSmall : (H : Type) → List (DataW H) → Bool := fun _ ds => decide (uptoBulkAll ds ≤ 1048576)
def OpenSpec.upto (s : _root_.Go.ChangeSpec) : _root_.Go.OpenSpec := { _root_.Go.OpenSpec.ofChange s with cond := some uptoSmall }

/-- 'waterlinelaw05.TraceCloses', WHERE WHAT IT READS IS OF BULK AT MOST 1048576: true; the input reads as it did. -/
def traceClosesUptoRow : OpenClaim := { program := "ytmfbgkcphiomaaa", sum := "b7db6eec42c569a36104412eb6fc9d0c68e8d52d3522f70f228a5bac531d36d4", func := "waterline/waterlinelaw05.TraceCloses", spec := "traceCloses", unfollowed := true, recurses := true, apart := false, narrowed := true }
def TraceClosesUptoSaid : Prop := traceClosesUptoRow.holds Try.pinned (OpenSpec.upto traceClosesSpec)

/-- 'waterlinelaw05.TraceStores', WHERE WHAT IT READS IS OF BULK AT MOST 1048576: true; the input reads as it did. -/
def traceStoresUptoRow : OpenClaim := { program := "ytmfbgkcphiomaaa", sum := "b7db6eec42c569a36104412eb6fc9d0c68e8d52d3522f70f228a5bac531d36d4", func := "waterline/waterlinelaw05.TraceStores", spec := "traceStores", unfollowed := true, recurses := true, apart := false, narrowed := true }
def TraceStoresUptoSaid : Prop := traceStoresUptoRow.holds Try.pinned (OpenSpec.upto traceStoresSpec)

/-- 'waterlinelaw05.TraceLong', WHERE WHAT IT READS IS OF BULK AT MOST 1048576: true; the input reads as it did. -/
def traceLongUptoRow : OpenClaim := { program := "ytmfbgkcphiomaaa", sum := "b7db6eec42c569a36104412eb6fc9d0c68e8d52d3522f70f228a5bac531d36d4", func := "waterline/waterlinelaw05.TraceLong", spec := "traceLong", unfollowed := true, recurses := true, apart := false, narrowed := true }
def TraceLongUptoSaid : Prop := traceLongUptoRow.holds Try.pinned (OpenSpec.upto traceLongSpec)

/-- 'waterlinelaw05.TraceHolds', WHERE WHAT IT READS IS OF BULK AT MOST 1048576: true; the input reads as it did. -/
def traceHoldsUptoRow : OpenClaim := { program := "ytmfbgkcphiomaaa", sum := "b7db6eec42c569a36104412eb6fc9d0c68e8d52d3522f70f228a5bac531d36d4", func := "waterline/waterlinelaw05.TraceHolds", spec := "traceHolds", unfollowed := true, recurses := true, apart := false, narrowed := true }
def TraceHoldsUptoSaid : Prop := traceHoldsUptoRow.holds Try.pinned (OpenSpec.upto traceHoldsSpec)

/-- 'waterlinelaw05.TraceParts', WHERE WHAT IT READS IS OF BULK AT MOST 1048576: true; the input reads as it did. -/
def tracePartsUptoRow : OpenClaim := { program := "ytmfbgkcphiomaaa", sum := "b7db6eec42c569a36104412eb6fc9d0c68e8d52d3522f70f228a5bac531d36d4", func := "waterline/waterlinelaw05.TraceParts", spec := "traceParts", unfollowed := true, recurses := true, apart := false, narrowed := true }
def TracePartsUptoSaid : Prop := tracePartsUptoRow.holds Try.pinned (OpenSpec.upto tracePartsSpec)

/-- 'waterlinelaw05.TraceChecks', WHERE WHAT IT READS IS OF BULK AT MOST 1048576: true; the input reads as it did. -/
def traceChecksUptoRow : OpenClaim := { program := "ytmfbgkcphiomaaa", sum := "b7db6eec42c569a36104412eb6fc9d0c68e8d52d3522f70f228a5bac531d36d4", func := "waterline/waterlinelaw05.TraceChecks", spec := "traceChecks", unfollowed := true, recurses := true, apart := false, narrowed := true }
def TraceChecksUptoSaid : Prop := traceChecksUptoRow.holds Try.pinned (OpenSpec.upto traceChecksSpec)

/-- 'waterlinelaw05.TraceCounts', WHERE WHAT IT READS IS OF BULK AT MOST 1048576: true; the input reads as it did. -/
def traceCountsUptoRow : OpenClaim := { program := "ytmfbgkcphiomaaa", sum := "b7db6eec42c569a36104412eb6fc9d0c68e8d52d3522f70f228a5bac531d36d4", func := "waterline/waterlinelaw05.TraceCounts", spec := "traceCounts", unfollowed := true, recurses := true, apart := false, narrowed := true }
def TraceCountsUptoSaid : Prop := traceCountsUptoRow.holds Try.pinned (OpenSpec.upto traceCountsSpec)

end Rows
end Go.Proofs.Ytmfbgkcphiomaaa
