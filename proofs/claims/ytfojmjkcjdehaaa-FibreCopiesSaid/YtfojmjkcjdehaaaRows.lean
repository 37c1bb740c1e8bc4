/-
  No cell of these rows narrows 'for every input' (looked for: loops, veiled, ifaces, maps, wideKeys, modest, calm, conditions, laid).
  DERIVED. THE GIVEN ROWS OF THIS SEAT. 9 by the template 'for every input the law returns true; each argument reads behind the call as it read before'; 0 by the template 'total and deterministic' (their statements: YtfojmjkcjdehaaaTotals.lean).
  GIVEN WITH THE SEED: the statements are not yours to turn. If you find one false, say at which input.
  Laid BY PROGRAM, IN A SANDBOX (cutbox-rows.mjs): the forced cells as the released guide's own fill.sh prints them over the translation 1c8d9dfaa2a389b7… (all of the seat's roots in one cut). By AI agents, Wed Nov 11 2026. No macro, syntax, notation, axiom, sorry.
-/
import Derived.Test.YtfojmjkcjdehaaaChecked
import GoSem.Claim
import GoSem.ClaimJoined
import GoSem.ClaimMapViews
import Derived.JoinedTies
import Derived.KernelRfl
namespace Go.Proofs.Ytfojmjkcjdehaaa
/- THE CELL 'sum', in the pinned program and in every row, IS THE sha256 OF THE DUMP (.gsa) THAT YtfojmjkcjdehaaaProg.lean LOADS. Nothing in Lean hashes anything: it is a label: what it is worth is what the hold of that sum in a sandbox is worth. -/
noncomputable def Try.pinned : Pinned := { name := "ytfojmjkcjdehaaa", sum := "1c8d9dfaa2a389b79621ee67ed48dd2164afa0233bc211f976f3eb5d615e79f1", checked := Try.checked }
namespace Rows
def none {H : Type} : Left H := { results := [], args := [] }

/-- 'waterlinelaw04.PmemOne': WHATEVER THE INPUT: true; the input reads as it did. -/
def pmemOneSpec : ChangeSpec := { name := "pmemOne", fn := fun _ => fun
  | [d1, d2, d3] => { results := [.lit (.bool true)], args := [d1, d2, d3] }
  | _ => none }
def pmemOneRow : OpenClaim := { program := "ytfojmjkcjdehaaa", sum := "1c8d9dfaa2a389b79621ee67ed48dd2164afa0233bc211f976f3eb5d615e79f1", func := "waterline/waterlinelaw04.PmemOne", spec := "pmemOne", unfollowed := true, recurses := true, apart := false }
def PmemOneSaid : Prop := pmemOneRow.holds Try.pinned (OpenSpec.ofChange pmemOneSpec)

/-- ITS FALSE NEIGHBOUR: 'it returns false'. Refute it at one input. -/
def pmemOneWrong : ChangeSpec := { name := "pmemOne", fn := fun _ => fun
  | [d1, d2, d3] => { results := [.lit (.bool false)], args := [d1, d2, d3] }
  | _ => none }
def PmemOneWrongFalsely : Prop := pmemOneRow.holds Try.pinned (OpenSpec.ofChange pmemOneWrong)

/-- 'waterlinelaw04.PmemAll': WHATEVER THE INPUT: true; the input reads as it did. -/
def pmemAllSpec : ChangeSpec := { name := "pmemAll", fn := fun _ => fun
  | [d1, d2] => { results := [.lit (.bool true)], args := [d1, d2] }
  | _ => none }
def pmemAllRow : OpenClaim := { program := "ytfojmjkcjdehaaa", sum := "1c8d9dfaa2a389b79621ee67ed48dd2164afa0233bc211f976f3eb5d615e79f1", func := "waterline/waterlinelaw04.PmemAll", spec := "pmemAll", unfollowed := true, recurses := true, apart := false }
def PmemAllSaid : Prop := pmemAllRow.holds Try.pinned (OpenSpec.ofChange pmemAllSpec)

/-- ITS FALSE NEIGHBOUR: 'it returns false'. Refute it at one input. -/
def pmemAllWrong : ChangeSpec := { name := "pmemAll", fn := fun _ => fun
  | [d1, d2] => { results := [.lit (.bool false)], args := [d1, d2] }
  | _ => none }
def PmemAllWrongFalsely : Prop := pmemAllRow.holds Try.pinned (OpenSpec.ofChange pmemAllWrong)

/-- 'waterlinelaw04.PmemPlays': WHATEVER THE INPUT: true; the input reads as it did. -/
def pmemPlaysSpec : ChangeSpec := { name := "pmemPlays", fn := fun _ => fun
  | [d1, d2] => { results := [.lit (.bool true)], args := [d1, d2] }
  | _ => none }
def pmemPlaysRow : OpenClaim := { program := "ytfojmjkcjdehaaa", sum := "1c8d9dfaa2a389b79621ee67ed48dd2164afa0233bc211f976f3eb5d615e79f1", func := "waterline/waterlinelaw04.PmemPlays", spec := "pmemPlays", unfollowed := true, recurses := true, apart := false }
def PmemPlaysSaid : Prop := pmemPlaysRow.holds Try.pinned (OpenSpec.ofChange pmemPlaysSpec)

/-- ITS FALSE NEIGHBOUR: 'it returns false'. Refute it at one input. -/
def pmemPlaysWrong : ChangeSpec := { name := "pmemPlays", fn := fun _ => fun
  | [d1, d2] => { results := [.lit (.bool false)], args := [d1, d2] }
  | _ => none }
def PmemPlaysWrongFalsely : Prop := pmemPlaysRow.holds Try.pinned (OpenSpec.ofChange pmemPlaysWrong)

/-- 'waterlinelaw04.PmemCopies': WHATEVER THE INPUT: true; the input reads as it did. -/
def pmemCopiesSpec : ChangeSpec := { name := "pmemCopies", fn := fun _ => fun
  | [d1, d2, d3, d4] => { results := [.lit (.bool true)], args := [d1, d2, d3, d4] }
  | _ => none }
def pmemCopiesRow : OpenClaim := { program := "ytfojmjkcjdehaaa", sum := "1c8d9dfaa2a389b79621ee67ed48dd2164afa0233bc211f976f3eb5d615e79f1", func := "waterline/waterlinelaw04.PmemCopies", spec := "pmemCopies", unfollowed := true, recurses := true, apart := false }
def PmemCopiesSaid : Prop := pmemCopiesRow.holds Try.pinned (OpenSpec.ofChange pmemCopiesSpec)

/-- ITS FALSE NEIGHBOUR: 'it returns false'. Refute it at one input. -/
def pmemCopiesWrong : ChangeSpec := { name := "pmemCopies", fn := fun _ => fun
  | [d1, d2, d3, d4] => { results := [.lit (.bool false)], args := [d1, d2, d3, d4] }
  | _ => none }
def PmemCopiesWrongFalsely : Prop := pmemCopiesRow.holds Try.pinned (OpenSpec.ofChange pmemCopiesWrong)

/-- 'waterlinelaw04.PmemHolds': WHATEVER THE INPUT: true; the input reads as it did. -/
def pmemHoldsSpec : ChangeSpec := { name := "pmemHolds", fn := fun _ => fun
  | [d1, d2] => { results := [.lit (.bool true)], args := [d1, d2] }
  | _ => none }
def pmemHoldsRow : OpenClaim := { program := "ytfojmjkcjdehaaa", sum := "1c8d9dfaa2a389b79621ee67ed48dd2164afa0233bc211f976f3eb5d615e79f1", func := "waterline/waterlinelaw04.PmemHolds", spec := "pmemHolds", unfollowed := true, recurses := true, apart := false }
def PmemHoldsSaid : Prop := pmemHoldsRow.holds Try.pinned (OpenSpec.ofChange pmemHoldsSpec)

/-- ITS FALSE NEIGHBOUR: 'it returns false'. Refute it at one input. -/
def pmemHoldsWrong : ChangeSpec := { name := "pmemHolds", fn := fun _ => fun
  | [d1, d2] => { results := [.lit (.bool false)], args := [d1, d2] }
  | _ => none }
def PmemHoldsWrongFalsely : Prop := pmemHoldsRow.holds Try.pinned (OpenSpec.ofChange pmemHoldsWrong)

/-- 'waterlinelaw20.FibreHolds': WHATEVER THE INPUT: true; the input reads as it did. -/
def fibreHoldsSpec : ChangeSpec := { name := "fibreHolds", fn := fun _ => fun
  | [d1, d2] => { results := [.lit (.bool true)], args := [d1, d2] }
  | _ => none }
def fibreHoldsRow : OpenClaim := { program := "ytfojmjkcjdehaaa", sum := "1c8d9dfaa2a389b79621ee67ed48dd2164afa0233bc211f976f3eb5d615e79f1", func := "waterline/waterlinelaw20.FibreHolds", spec := "fibreHolds", unfollowed := true, recurses := true, apart := false }
def FibreHoldsSaid : Prop := fibreHoldsRow.holds Try.pinned (OpenSpec.ofChange fibreHoldsSpec)

/-- ITS FALSE NEIGHBOUR: 'it returns false'. Refute it at one input. -/
def fibreHoldsWrong : ChangeSpec := { name := "fibreHolds", fn := fun _ => fun
  | [d1, d2] => { results := [.lit (.bool false)], args := [d1, d2] }
  | _ => none }
def FibreHoldsWrongFalsely : Prop := fibreHoldsRow.holds Try.pinned (OpenSpec.ofChange fibreHoldsWrong)

/-- 'waterlinelaw20.FibreParts': WHATEVER THE INPUT: true; the input reads as it did. -/
def fibrePartsSpec : ChangeSpec := { name := "fibreParts", fn := fun _ => fun
  | [d1, d2, d3] => { results := [.lit (.bool true)], args := [d1, d2, d3] }
  | _ => none }
def fibrePartsRow : OpenClaim := { program := "ytfojmjkcjdehaaa", sum := "1c8d9dfaa2a389b79621ee67ed48dd2164afa0233bc211f976f3eb5d615e79f1", func := "waterline/waterlinelaw20.FibreParts", spec := "fibreParts", unfollowed := true, recurses := true, apart := false }
def FibrePartsSaid : Prop := fibrePartsRow.holds Try.pinned (OpenSpec.ofChange fibrePartsSpec)

/-- ITS FALSE NEIGHBOUR: 'it returns false'. Refute it at one input. -/
def fibrePartsWrong : ChangeSpec := { name := "fibreParts", fn := fun _ => fun
  | [d1, d2, d3] => { results := [.lit (.bool false)], args := [d1, d2, d3] }
  | _ => none }
def FibrePartsWrongFalsely : Prop := fibrePartsRow.holds Try.pinned (OpenSpec.ofChange fibrePartsWrong)

/-- 'waterlinelaw20.FibreCopies': WHATEVER THE INPUT: true; the input reads as it did. -/
def fibreCopiesSpec : ChangeSpec := { name := "fibreCopies", fn := fun _ => fun
  | [d1, d2, d3, d4, d5] => { results := [.lit (.bool true)], args := [d1, d2, d3, d4, d5] }
  | _ => none }
def fibreCopiesRow : OpenClaim := { program := "ytfojmjkcjdehaaa", sum := "1c8d9dfaa2a389b79621ee67ed48dd2164afa0233bc211f976f3eb5d615e79f1", func := "waterline/waterlinelaw20.FibreCopies", spec := "fibreCopies", unfollowed := true, recurses := true, apart := false }
def FibreCopiesSaid : Prop := fibreCopiesRow.holds Try.pinned (OpenSpec.ofChange fibreCopiesSpec)

/-- ITS FALSE NEIGHBOUR: 'it returns false'. Refute it at one input. -/
def fibreCopiesWrong : ChangeSpec := { name := "fibreCopies", fn := fun _ => fun
  | [d1, d2, d3, d4, d5] => { results := [.lit (.bool false)], args := [d1, d2, d3, d4, d5] }
  | _ => none }
def FibreCopiesWrongFalsely : Prop := fibreCopiesRow.holds Try.pinned (OpenSpec.ofChange fibreCopiesWrong)

/-- 'waterlinelaw20.FibrePlays': WHATEVER THE INPUT: true; the input reads as it did. -/
def fibrePlaysSpec : ChangeSpec := { name := "fibrePlays", fn := fun _ => fun
  | [d1, d2] => { results := [.lit (.bool true)], args := [d1, d2] }
  | _ => none }
def fibrePlaysRow : OpenClaim := { program := "ytfojmjkcjdehaaa", sum := "1c8d9dfaa2a389b79621ee67ed48dd2164afa0233bc211f976f3eb5d615e79f1", func := "waterline/waterlinelaw20.FibrePlays", spec := "fibrePlays", unfollowed := true, recurses := true, apart := false }
def FibrePlaysSaid : Prop := fibrePlaysRow.holds Try.pinned (OpenSpec.ofChange fibrePlaysSpec)

/-- ITS FALSE NEIGHBOUR: 'it returns false'. Refute it at one input. -/
def fibrePlaysWrong : ChangeSpec := { name := "fibrePlays", fn := fun _ => fun
  | [d1, d2] => { results := [.lit (.bool false)], args := [d1, d2] }
  | _ => none }
def FibrePlaysWrongFalsely : Prop := fibrePlaysRow.holds Try.pinned (OpenSpec.ofChange fibrePlaysWrong)

/- THE SECOND FORM. 'bulk': how many values and letters a reading holds, each counted each time it is reached (what is shared counts as often as it is met; a slice's spare places count too). A statement '..UptoSaid' is the law's where the arguments, and the package variables that the reading takes, are together of bulk at most 1048576: NARROWER than '..Said'. Prove '..Said' where nothing that the law and all that it calls make is longer than what came in: it says more and counts as full. Else prove '..UptoSaid'. A law counts once. -/
mutual
def uptoBulk {H : Type} : DataW H → Nat
  | .lit (.string bytes) => bytes.length + 1
  | .lit _ => 1
  | .nil => 1
  | .ptr d => uptoBulk d + 1
  | .slice elems spare => uptoBulkAll elems + uptoBulkAll spare + 1
  | .agg parts => uptoBulkAll parts + 1
  | .iface _ d => uptoBulk d + 1
  | .map entries => uptoBulkEntries entries + 1
  | .held _ => 1
def uptoBulkAll {H : Type} : List (DataW H) → Nat
  | [] => 0
  | d :: r => uptoBulk d + uptoBulkAll r
def uptoBulkEntries {H : Type} : List (Lit × DataW H) → Nat
  | [] => 0
  | x :: r => uptoBulkEntry x + uptoBulkEntries r
def uptoBulkEntry {H : Type} : Lit × DataW H → Nat
  | (.string bytes, d) => bytes.length + uptoBulk d + 1
  | (_, d) => uptoBulk d + 1
 end
def uptoSmall : (H : Type) → List (DataW H) → Bool := fun _ ds => decide (uptoBulkAll ds ≤ 1048576)
def OpenSpec.upto (s : _root_.Go.ChangeSpec) : _root_.Go.OpenSpec := { _root_.Go.OpenSpec.ofChange s with cond := some uptoSmall }

/-- 'waterlinelaw04.PmemOne', WHERE WHAT IT READS IS OF BULK AT MOST 1048576: true; the input reads as it did. -/
def pmemOneUptoRow : OpenClaim := { program := "ytfojmjkcjdehaaa", sum := "1c8d9dfaa2a389b79621ee67ed48dd2164afa0233bc211f976f3eb5d615e79f1", func := "waterline/waterlinelaw04.PmemOne", spec := "pmemOne", unfollowed := true, recurses := true, apart := false, narrowed := true }
def PmemOneUptoSaid : Prop := pmemOneUptoRow.holds Try.pinned (OpenSpec.upto pmemOneSpec)

/-- 'waterlinelaw04.PmemAll', WHERE WHAT IT READS IS OF BULK AT MOST 1048576: true; the input reads as it did. -/
def pmemAllUptoRow : OpenClaim := { program := "ytfojmjkcjdehaaa", sum := "1c8d9dfaa2a389b79621ee67ed48dd2164afa0233bc211f976f3eb5d615e79f1", func := "waterline/waterlinelaw04.PmemAll", spec := "pmemAll", unfollowed := true, recurses := true, apart := false, narrowed := true }
def PmemAllUptoSaid : Prop := pmemAllUptoRow.holds Try.pinned (OpenSpec.upto pmemAllSpec)

/-- 'waterlinelaw04.PmemPlays', WHERE WHAT IT READS IS OF BULK AT MOST 1048576: true; the input reads as it did. -/
def pmemPlaysUptoRow : OpenClaim := { program := "ytfojmjkcjdehaaa", sum := "1c8d9dfaa2a389b79621ee67ed48dd2164afa0233bc211f976f3eb5d615e79f1", func := "waterline/waterlinelaw04.PmemPlays", spec := "pmemPlays", unfollowed := true, recurses := true, apart := false, narrowed := true }
def PmemPlaysUptoSaid : Prop := pmemPlaysUptoRow.holds Try.pinned (OpenSpec.upto pmemPlaysSpec)

/-- 'waterlinelaw04.PmemCopies', WHERE WHAT IT READS IS OF BULK AT MOST 1048576: true; the input reads as it did. -/
def pmemCopiesUptoRow : OpenClaim := { program := "ytfojmjkcjdehaaa", sum := "1c8d9dfaa2a389b79621ee67ed48dd2164afa0233bc211f976f3eb5d615e79f1", func := "waterline/waterlinelaw04.PmemCopies", spec := "pmemCopies", unfollowed := true, recurses := true, apart := false, narrowed := true }
def PmemCopiesUptoSaid : Prop := pmemCopiesUptoRow.holds Try.pinned (OpenSpec.upto pmemCopiesSpec)

/-- 'waterlinelaw04.PmemHolds', WHERE WHAT IT READS IS OF BULK AT MOST 1048576: true; the input reads as it did. -/
def pmemHoldsUptoRow : OpenClaim := { program := "ytfojmjkcjdehaaa", sum := "1c8d9dfaa2a389b79621ee67ed48dd2164afa0233bc211f976f3eb5d615e79f1", func := "waterline/waterlinelaw04.PmemHolds", spec := "pmemHolds", unfollowed := true, recurses := true, apart := false, narrowed := true }
def PmemHoldsUptoSaid : Prop := pmemHoldsUptoRow.holds Try.pinned (OpenSpec.upto pmemHoldsSpec)

/-- 'waterlinelaw20.FibreHolds', WHERE WHAT IT READS IS OF BULK AT MOST 1048576: true; the input reads as it did. -/
def fibreHoldsUptoRow : OpenClaim := { program := "ytfojmjkcjdehaaa", sum := "1c8d9dfaa2a389b79621ee67ed48dd2164afa0233bc211f976f3eb5d615e79f1", func := "waterline/waterlinelaw20.FibreHolds", spec := "fibreHolds", unfollowed := true, recurses := true, apart := false, narrowed := true }
def FibreHoldsUptoSaid : Prop := fibreHoldsUptoRow.holds Try.pinned (OpenSpec.upto fibreHoldsSpec)

/-- 'waterlinelaw20.FibreParts', WHERE WHAT IT READS IS OF BULK AT MOST 1048576: true; the input reads as it did. -/
def fibrePartsUptoRow : OpenClaim := { program := "ytfojmjkcjdehaaa", sum := "1c8d9dfaa2a389b79621ee67ed48dd2164afa0233bc211f976f3eb5d615e79f1", func := "waterline/waterlinelaw20.FibreParts", spec := "fibreParts", unfollowed := true, recurses := true, apart := false, narrowed := true }
def FibrePartsUptoSaid : Prop := fibrePartsUptoRow.holds Try.pinned (OpenSpec.upto fibrePartsSpec)

/-- 'waterlinelaw20.FibreCopies', WHERE WHAT IT READS IS OF BULK AT MOST 1048576: true; the input reads as it did. -/
def fibreCopiesUptoRow : OpenClaim := { program := "ytfojmjkcjdehaaa", sum := "1c8d9dfaa2a389b79621ee67ed48dd2164afa0233bc211f976f3eb5d615e79f1", func := "waterline/waterlinelaw20.FibreCopies", spec := "fibreCopies", unfollowed := true, recurses := true, apart := false, narrowed := true }
def FibreCopiesUptoSaid : Prop := fibreCopiesUptoRow.holds Try.pinned (OpenSpec.upto fibreCopiesSpec)

/-- 'waterlinelaw20.FibrePlays', WHERE WHAT IT READS IS OF BULK AT MOST 1048576: true; the input reads as it did. -/
def fibrePlaysUptoRow : OpenClaim := { program := "ytfojmjkcjdehaaa", sum := "1c8d9dfaa2a389b79621ee67ed48dd2164afa0233bc211f976f3eb5d615e79f1", func := "waterline/waterlinelaw20.FibrePlays", spec := "fibrePlays", unfollowed := true, recurses := true, apart := false, narrowed := true }
def FibrePlaysUptoSaid : Prop := fibrePlaysUptoRow.holds Try.pinned (OpenSpec.upto fibrePlaysSpec)

end Rows
end Go.Proofs.Ytfojmjkcjdehaaa
