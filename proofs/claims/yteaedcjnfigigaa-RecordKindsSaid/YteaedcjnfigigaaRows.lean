/-
  No cell of these rows narrows 'for every input' (looked for: loops, veiled, ifaces, maps, wideKeys, modest, calm, conditions, laid).
  DERIVED. THE GIVEN ROWS OF THIS SEAT. 5 by the template 'for every input the law returns true; each argument reads behind the call as it read before'; 0 by the template 'total and deterministic' (their statements: YteaedcjnfigigaaTotals.lean).
  GIVEN WITH THE SEED: the statements are not yours to turn. If you find one false, say at which input.
  Laid BY PROGRAM, IN A SANDBOX (cutbox-rows.mjs): the forced cells as the released guide's own fill.sh prints them over the translation 081157a779f37efc… (all of the seat's roots in one cut). By AI agents, Wed Nov 11 2026. No macro, syntax, notation, axiom, sorry.
-/
import Derived.Test.YteaedcjnfigigaaChecked
import GoSem.Claim
import GoSem.ClaimJoined
import GoSem.ClaimMapViews
import Derived.JoinedTies
import Derived.KernelRfl
namespace Go.Proofs.Yteaedcjnfigigaa
/- THE CELL 'sum', in the pinned program and in every row, IS THE sha256 OF THE DUMP (.gsa) THAT YteaedcjnfigigaaProg.lean LOADS. Nothing in Lean hashes anything: it is a label: what it is worth is what the hold of that sum in a sandbox is worth. -/
noncomputable def Try.pinned : Pinned := { name := "yteaedcjnfigigaa", sum := "081157a779f37efc1867ec1b942c6f3d447379f6d48f46969b65e3925cbf986e", checked := Try.checked }
namespace Rows
def none {H : Type} : Left H := { results := [], args := [] }

/-- 'waterlinelaw18.RecordPacks': WHATEVER THE INPUT: true; the input reads as it did. -/
def recordPacksSpec : ChangeSpec := { name := "recordPacks", fn := fun _ => fun
  | [d] => { results := [.lit (.bool true)], args := [d] }
  | _ => none }
def recordPacksRow : OpenClaim := { program := "yteaedcjnfigigaa", sum := "081157a779f37efc1867ec1b942c6f3d447379f6d48f46969b65e3925cbf986e", func := "waterline/waterlinelaw18.RecordPacks", spec := "recordPacks", unfollowed := true, recurses := true, apart := false }
def RecordPacksSaid : Prop := recordPacksRow.holds Try.pinned (OpenSpec.ofChange recordPacksSpec)

/-- ITS FALSE NEIGHBOUR: 'it returns false'. Refute it at one input. -/
def recordPacksWrong : ChangeSpec := { name := "recordPacks", fn := fun _ => fun
  | [d] => { results := [.lit (.bool false)], args := [d] }
  | _ => none }
def RecordPacksWrongFalsely : Prop := recordPacksRow.holds Try.pinned (OpenSpec.ofChange recordPacksWrong)

/-- 'waterlinelaw18.RecordHolds': WHATEVER THE INPUT: true; the input reads as it did. -/
def recordHoldsSpec : ChangeSpec := { name := "recordHolds", fn := fun _ => fun
  | [d1, d2, d3] => { results := [.lit (.bool true)], args := [d1, d2, d3] }
  | _ => none }
def recordHoldsRow : OpenClaim := { program := "yteaedcjnfigigaa", sum := "081157a779f37efc1867ec1b942c6f3d447379f6d48f46969b65e3925cbf986e", func := "waterline/waterlinelaw18.RecordHolds", spec := "recordHolds", unfollowed := true, recurses := true, apart := false }
def RecordHoldsSaid : Prop := recordHoldsRow.holds Try.pinned (OpenSpec.ofChange recordHoldsSpec)

/-- ITS FALSE NEIGHBOUR: 'it returns false'. Refute it at one input. -/
def recordHoldsWrong : ChangeSpec := { name := "recordHolds", fn := fun _ => fun
  | [d1, d2, d3] => { results := [.lit (.bool false)], args := [d1, d2, d3] }
  | _ => none }
def RecordHoldsWrongFalsely : Prop := recordHoldsRow.holds Try.pinned (OpenSpec.ofChange recordHoldsWrong)

/-- 'waterlinelaw18.RecordSame': WHATEVER THE INPUT: true; the input reads as it did. -/
def recordSameSpec : ChangeSpec := { name := "recordSame", fn := fun _ => fun
  | [d1, d2] => { results := [.lit (.bool true)], args := [d1, d2] }
  | _ => none }
def recordSameRow : OpenClaim := { program := "yteaedcjnfigigaa", sum := "081157a779f37efc1867ec1b942c6f3d447379f6d48f46969b65e3925cbf986e", func := "waterline/waterlinelaw18.RecordSame", spec := "recordSame", unfollowed := true, recurses := true, apart := false }
def RecordSameSaid : Prop := recordSameRow.holds Try.pinned (OpenSpec.ofChange recordSameSpec)

/-- ITS FALSE NEIGHBOUR: 'it returns false'. Refute it at one input. -/
def recordSameWrong : ChangeSpec := { name := "recordSame", fn := fun _ => fun
  | [d1, d2] => { results := [.lit (.bool false)], args := [d1, d2] }
  | _ => none }
def RecordSameWrongFalsely : Prop := recordSameRow.holds Try.pinned (OpenSpec.ofChange recordSameWrong)

/-- 'waterlinelaw18.RecordKinds': WHATEVER THE INPUT: true; the input reads as it did. -/
def recordKindsSpec : ChangeSpec := { name := "recordKinds", fn := fun _ => fun
  | [d1, d2] => { results := [.lit (.bool true)], args := [d1, d2] }
  | _ => none }
def recordKindsRow : OpenClaim := { program := "yteaedcjnfigigaa", sum := "081157a779f37efc1867ec1b942c6f3d447379f6d48f46969b65e3925cbf986e", func := "waterline/waterlinelaw18.RecordKinds", spec := "recordKinds", unfollowed := true, recurses := true, apart := false }
def RecordKindsSaid : Prop := recordKindsRow.holds Try.pinned (OpenSpec.ofChange recordKindsSpec)

/-- ITS FALSE NEIGHBOUR: 'it returns false'. Refute it at one input. -/
def recordKindsWrong : ChangeSpec := { name := "recordKinds", fn := fun _ => fun
  | [d1, d2] => { results := [.lit (.bool false)], args := [d1, d2] }
  | _ => none }
def RecordKindsWrongFalsely : Prop := recordKindsRow.holds Try.pinned (OpenSpec.ofChange recordKindsWrong)

/-- 'waterlinelaw18.RecordEach': WHATEVER THE INPUT: true; the input reads as it did. -/
def recordEachSpec : ChangeSpec := { name := "recordEach", fn := fun _ => fun
  | [d1, d2] => { results := [.lit (.bool true)], args := [d1, d2] }
  | _ => none }
def recordEachRow : OpenClaim := { program := "yteaedcjnfigigaa", sum := "081157a779f37efc1867ec1b942c6f3d447379f6d48f46969b65e3925cbf986e", func := "waterline/waterlinelaw18.RecordEach", spec := "recordEach", unfollowed := true, recurses := true, apart := false }
def RecordEachSaid : Prop := recordEachRow.holds Try.pinned (OpenSpec.ofChange recordEachSpec)

/-- ITS FALSE NEIGHBOUR: 'it returns false'. Refute it at one input. -/
def recordEachWrong : ChangeSpec := { name := "recordEach", fn := fun _ => fun
  | [d1, d2] => { results := [.lit (.bool false)], args := [d1, d2] }
  | _ => none }
def RecordEachWrongFalsely : Prop := recordEachRow.holds Try.pinned (OpenSpec.ofChange recordEachWrong)

/- THE SECOND FORM. 'bulk': how many values and letters a reading holds, each counted each time it is reached (what is shared counts as often as it is met; a slice's spare places count too). A statement '..UptoSaid' is the law's where the arguments, and the package variables that the reading takes, are together of bulk at most 1048576: NARROWER than '..Said'. Prove '..Said' where nothing that the law and all that it calls make is longer than what came in: it says more and counts as full. Else prove '..UptoSaid'. A law counts once. -/
mutual
def uptoBulk {H : Type} : DataW H → Nat
  | .lit (.string bytes) => bytes.length + 1
  | .lit _ => 1
  | .nil => 1
  | .ptr d => uptoBulk d + 1
  | .slice elems spare => uptoBulkAll elems + uptoBulkAll spare + 1
  | .agg parts => uptoBulkAll parts + 1
  | .iface _ d => uptoBulk d + 1
  | .map entries => uptoBulkEntries entries + 1
  | .held _ => 1
def uptoBulkAll {H : Type} : List (DataW H) → Nat
  | [] => 0
  | d :: r => uptoBulk d + uptoBulkAll r
def uptoBulkEntries {H : Type} : List (Lit × DataW H) → Nat
  | [] => 0
  | x :: r => uptoBulkEntry x + uptoBulkEntries r
def uptoBulkEntry {H : Type} : Lit × DataW H → Nat
  | (.string bytes, d) => bytes.length + uptoBulk d + 1
  | (_, d) => uptoBulk d + 1
 end
def uptoSmall : (H : Type) → List (DataW H) → Bool := fun _ ds => decide (uptoBulkAll ds ≤ 1048576)
def OpenSpec.upto (s : _root_.Go.ChangeSpec) : _root_.Go.OpenSpec := { _root_.Go.OpenSpec.ofChange s with cond := some uptoSmall }

/-- 'waterlinelaw18.RecordPacks', WHERE WHAT IT READS IS OF BULK AT MOST 1048576: true; the input reads as it did. -/
def recordPacksUptoRow : OpenClaim := { program := "yteaedcjnfigigaa", sum := "081157a779f37efc1867ec1b942c6f3d447379f6d48f46969b65e3925cbf986e", func := "waterline/waterlinelaw18.RecordPacks", spec := "recordPacks", unfollowed := true, recurses := true, apart := false, narrowed := true }
def RecordPacksUptoSaid : Prop := recordPacksUptoRow.holds Try.pinned (OpenSpec.upto recordPacksSpec)

/-- 'waterlinelaw18.RecordHolds', WHERE WHAT IT READS IS OF BULK AT MOST 1048576: true; the input reads as it did. -/
def recordHoldsUptoRow : OpenClaim := { program := "yteaedcjnfigigaa", sum := "081157a779f37efc1867ec1b942c6f3d447379f6d48f46969b65e3925cbf986e", func := "waterline/waterlinelaw18.RecordHolds", spec := "recordHolds", unfollowed := true, recurses := true, apart := false, narrowed := true }
def RecordHoldsUptoSaid : Prop := recordHoldsUptoRow.holds Try.pinned (OpenSpec.upto recordHoldsSpec)

/-- 'waterlinelaw18.RecordSame', WHERE WHAT IT READS IS OF BULK AT MOST 1048576: true; the input reads as it did. -/
def recordSameUptoRow : OpenClaim := { program := "yteaedcjnfigigaa", sum := "081157a779f37efc1867ec1b942c6f3d447379f6d48f46969b65e3925cbf986e", func := "waterline/waterlinelaw18.RecordSame", spec := "recordSame", unfollowed := true, recurses := true, apart := false, narrowed := true }
def RecordSameUptoSaid : Prop := recordSameUptoRow.holds Try.pinned (OpenSpec.upto recordSameSpec)

/-- 'waterlinelaw18.RecordKinds', WHERE WHAT IT READS IS OF BULK AT MOST 1048576: true; the input reads as it did. -/
def recordKindsUptoRow : OpenClaim := { program := "yteaedcjnfigigaa", sum := "081157a779f37efc1867ec1b942c6f3d447379f6d48f46969b65e3925cbf986e", func := "waterline/waterlinelaw18.RecordKinds", spec := "recordKinds", unfollowed := true, recurses := true, apart := false, narrowed := true }
def RecordKindsUptoSaid : Prop := recordKindsUptoRow.holds Try.pinned (OpenSpec.upto recordKindsSpec)

/-- 'waterlinelaw18.RecordEach', WHERE WHAT IT READS IS OF BULK AT MOST 1048576: true; the input reads as it did. -/
def recordEachUptoRow : OpenClaim := { program := "yteaedcjnfigigaa", sum := "081157a779f37efc1867ec1b942c6f3d447379f6d48f46969b65e3925cbf986e", func := "waterline/waterlinelaw18.RecordEach", spec := "recordEach", unfollowed := true, recurses := true, apart := false, narrowed := true }
def RecordEachUptoSaid : Prop := recordEachUptoRow.holds Try.pinned (OpenSpec.upto recordEachSpec)

end Rows
end Go.Proofs.Yteaedcjnfigigaa
