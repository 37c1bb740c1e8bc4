/-
  No cell of these rows narrows 'for every input' (looked for: loops, veiled, ifaces, maps, wideKeys, modest, calm, conditions, laid).
  DERIVED. THE GIVEN ROWS OF THIS SEAT. 10 by the template 'for every input the law returns true; each argument reads behind the call as it read before'; 0 by the template 'total and deterministic' (their statements: YtgpoplnfhlfogaaTotals.lean).
  GIVEN WITH THE SEED: the statements are not yours to turn. If you find one false, say at which input.
  Laid BY PROGRAM, IN A SANDBOX (cutbox-rows.mjs): the forced cells as the released guide's own fill.sh prints them over the translation 33214a45935126ec… (all of the seat's roots in one cut). By AI agents, Wed Nov 11 2026. No macro, syntax, notation, axiom, sorry.
-/
import Derived.Test.YtgpoplnfhlfogaaChecked
import GoSem.Claim
import GoSem.ClaimJoined
import GoSem.ClaimMapViews
import Derived.JoinedTies
import Derived.KernelRfl
namespace Go.Proofs.Ytgpoplnfhlfogaa
/- THE CELL 'sum', in the pinned program and in every row, IS THE sha256 OF THE DUMP (.gsa) THAT YtgpoplnfhlfogaaProg.lean LOADS. Nothing in Lean hashes anything: it is a label: what it is worth is what the hold of that sum in a sandbox is worth. -/
noncomputable def Try.pinned : Pinned := { name := "ytgpoplnfhlfogaa", sum := "33214a45935126ecb2a333da9a2383bbf9f6c35e3cb640dd2d9c14fc23e7562d", checked := Try.checked }
namespace Rows
def none {H : Type} : Left H := { results := [], args := [] }

/-- 'waterlinelaw14.EpochBlocks': WHATEVER THE INPUT: true; the input reads as it did. -/
def epochBlocksSpec : ChangeSpec := { name := "epochBlocks", fn := fun _ => fun
  | [d1, d2, d3] => { results := [.lit (.bool true)], args := [d1, d2, d3] }
  | _ => none }
def epochBlocksRow : OpenClaim := { program := "ytgpoplnfhlfogaa", sum := "33214a45935126ecb2a333da9a2383bbf9f6c35e3cb640dd2d9c14fc23e7562d", func := "waterline/waterlinelaw14.EpochBlocks", spec := "epochBlocks", unfollowed := true, recurses := true, apart := false }
def EpochBlocksSaid : Prop := epochBlocksRow.holds Try.pinned (OpenSpec.ofChange epochBlocksSpec)

/-- ITS FALSE NEIGHBOUR: 'it returns false'. Refute it at one input. -/
def epochBlocksWrong : ChangeSpec := { name := "epochBlocks", fn := fun _ => fun
  | [d1, d2, d3] => { results := [.lit (.bool false)], args := [d1, d2, d3] }
  | _ => none }
def EpochBlocksWrongFalsely : Prop := epochBlocksRow.holds Try.pinned (OpenSpec.ofChange epochBlocksWrong)

/-- 'waterlinelaw13.AllocHolds': WHATEVER THE INPUT: true; the input reads as it did. -/
def allocHoldsSpec : ChangeSpec := { name := "allocHolds", fn := fun _ => fun
  | [d1, d2] => { results := [.lit (.bool true)], args := [d1, d2] }
  | _ => none }
def allocHoldsRow : OpenClaim := { program := "ytgpoplnfhlfogaa", sum := "33214a45935126ecb2a333da9a2383bbf9f6c35e3cb640dd2d9c14fc23e7562d", func := "waterline/waterlinelaw13.AllocHolds", spec := "allocHolds", inPlace := ["maps.clone"], unfollowed := true, recurses := true, apart := false }
def AllocHoldsSaid : Prop := allocHoldsRow.holds Try.pinned (OpenSpec.ofChange allocHoldsSpec)

/-- ITS FALSE NEIGHBOUR: 'it returns false'. Refute it at one input. -/
def allocHoldsWrong : ChangeSpec := { name := "allocHolds", fn := fun _ => fun
  | [d1, d2] => { results := [.lit (.bool false)], args := [d1, d2] }
  | _ => none }
def AllocHoldsWrongFalsely : Prop := allocHoldsRow.holds Try.pinned (OpenSpec.ofChange allocHoldsWrong)

/-- 'waterlinelaw13.AllocParts': WHATEVER THE INPUT: true; the input reads as it did. -/
def allocPartsSpec : ChangeSpec := { name := "allocParts", fn := fun _ => fun
  | [d1, d2, d3] => { results := [.lit (.bool true)], args := [d1, d2, d3] }
  | _ => none }
def allocPartsRow : OpenClaim := { program := "ytgpoplnfhlfogaa", sum := "33214a45935126ecb2a333da9a2383bbf9f6c35e3cb640dd2d9c14fc23e7562d", func := "waterline/waterlinelaw13.AllocParts", spec := "allocParts", inPlace := ["maps.clone"], unfollowed := true, recurses := true, apart := false }
def AllocPartsSaid : Prop := allocPartsRow.holds Try.pinned (OpenSpec.ofChange allocPartsSpec)

/-- ITS FALSE NEIGHBOUR: 'it returns false'. Refute it at one input. -/
def allocPartsWrong : ChangeSpec := { name := "allocParts", fn := fun _ => fun
  | [d1, d2, d3] => { results := [.lit (.bool false)], args := [d1, d2, d3] }
  | _ => none }
def AllocPartsWrongFalsely : Prop := allocPartsRow.holds Try.pinned (OpenSpec.ofChange allocPartsWrong)

/-- 'waterlinelaw13.AllocPlays': WHATEVER THE INPUT: true; the input reads as it did. -/
def allocPlaysSpec : ChangeSpec := { name := "allocPlays", fn := fun _ => fun
  | [d1, d2, d3] => { results := [.lit (.bool true)], args := [d1, d2, d3] }
  | _ => none }
def allocPlaysRow : OpenClaim := { program := "ytgpoplnfhlfogaa", sum := "33214a45935126ecb2a333da9a2383bbf9f6c35e3cb640dd2d9c14fc23e7562d", func := "waterline/waterlinelaw13.AllocPlays", spec := "allocPlays", inPlace := ["maps.clone"], unfollowed := true, recurses := true, apart := false }
def AllocPlaysSaid : Prop := allocPlaysRow.holds Try.pinned (OpenSpec.ofChange allocPlaysSpec)

/-- ITS FALSE NEIGHBOUR: 'it returns false'. Refute it at one input. -/
def allocPlaysWrong : ChangeSpec := { name := "allocPlays", fn := fun _ => fun
  | [d1, d2, d3] => { results := [.lit (.bool false)], args := [d1, d2, d3] }
  | _ => none }
def AllocPlaysWrongFalsely : Prop := allocPlaysRow.holds Try.pinned (OpenSpec.ofChange allocPlaysWrong)

/-- 'waterlinelaw13.AllocCopies': WHATEVER THE INPUT: true; the input reads as it did. -/
def allocCopiesSpec : ChangeSpec := { name := "allocCopies", fn := fun _ => fun
  | [d1, d2, d3, d4] => { results := [.lit (.bool true)], args := [d1, d2, d3, d4] }
  | _ => none }
def allocCopiesRow : OpenClaim := { program := "ytgpoplnfhlfogaa", sum := "33214a45935126ecb2a333da9a2383bbf9f6c35e3cb640dd2d9c14fc23e7562d", func := "waterline/waterlinelaw13.AllocCopies", spec := "allocCopies", inPlace := ["maps.clone"], unfollowed := true, recurses := true, apart := false }
def AllocCopiesSaid : Prop := allocCopiesRow.holds Try.pinned (OpenSpec.ofChange allocCopiesSpec)

/-- ITS FALSE NEIGHBOUR: 'it returns false'. Refute it at one input. -/
def allocCopiesWrong : ChangeSpec := { name := "allocCopies", fn := fun _ => fun
  | [d1, d2, d3, d4] => { results := [.lit (.bool false)], args := [d1, d2, d3, d4] }
  | _ => none }
def AllocCopiesWrongFalsely : Prop := allocCopiesRow.holds Try.pinned (OpenSpec.ofChange allocCopiesWrong)

/-- 'waterlinelaw15.LimboParts': WHATEVER THE INPUT: true; the input reads as it did. -/
def limboPartsSpec : ChangeSpec := { name := "limboParts", fn := fun _ => fun
  | [d1, d2] => { results := [.lit (.bool true)], args := [d1, d2] }
  | _ => none }
def limboPartsRow : OpenClaim := { program := "ytgpoplnfhlfogaa", sum := "33214a45935126ecb2a333da9a2383bbf9f6c35e3cb640dd2d9c14fc23e7562d", func := "waterline/waterlinelaw15.LimboParts", spec := "limboParts", inPlace := ["maps.clone"], unfollowed := true, recurses := true, apart := false }
def LimboPartsSaid : Prop := limboPartsRow.holds Try.pinned (OpenSpec.ofChange limboPartsSpec)

/-- ITS FALSE NEIGHBOUR: 'it returns false'. Refute it at one input. -/
def limboPartsWrong : ChangeSpec := { name := "limboParts", fn := fun _ => fun
  | [d1, d2] => { results := [.lit (.bool false)], args := [d1, d2] }
  | _ => none }
def LimboPartsWrongFalsely : Prop := limboPartsRow.holds Try.pinned (OpenSpec.ofChange limboPartsWrong)

/-- 'waterlinelaw14.EpochHolds': WHATEVER THE INPUT: true; the input reads as it did. -/
def epochHoldsSpec : ChangeSpec := { name := "epochHolds", fn := fun _ => fun
  | [d] => { results := [.lit (.bool true)], args := [d] }
  | _ => none }
def epochHoldsRow : OpenClaim := { program := "ytgpoplnfhlfogaa", sum := "33214a45935126ecb2a333da9a2383bbf9f6c35e3cb640dd2d9c14fc23e7562d", func := "waterline/waterlinelaw14.EpochHolds", spec := "epochHolds", inPlace := ["maps.clone"], unfollowed := true, recurses := true, apart := false }
def EpochHoldsSaid : Prop := epochHoldsRow.holds Try.pinned (OpenSpec.ofChange epochHoldsSpec)

/-- ITS FALSE NEIGHBOUR: 'it returns false'. Refute it at one input. -/
def epochHoldsWrong : ChangeSpec := { name := "epochHolds", fn := fun _ => fun
  | [d] => { results := [.lit (.bool false)], args := [d] }
  | _ => none }
def EpochHoldsWrongFalsely : Prop := epochHoldsRow.holds Try.pinned (OpenSpec.ofChange epochHoldsWrong)

/-- 'waterlinelaw14.EpochPlays': WHATEVER THE INPUT: true; the input reads as it did. -/
def epochPlaysSpec : ChangeSpec := { name := "epochPlays", fn := fun _ => fun
  | [d] => { results := [.lit (.bool true)], args := [d] }
  | _ => none }
def epochPlaysRow : OpenClaim := { program := "ytgpoplnfhlfogaa", sum := "33214a45935126ecb2a333da9a2383bbf9f6c35e3cb640dd2d9c14fc23e7562d", func := "waterline/waterlinelaw14.EpochPlays", spec := "epochPlays", inPlace := ["maps.clone"], unfollowed := true, recurses := true, apart := false }
def EpochPlaysSaid : Prop := epochPlaysRow.holds Try.pinned (OpenSpec.ofChange epochPlaysSpec)

/-- ITS FALSE NEIGHBOUR: 'it returns false'. Refute it at one input. -/
def epochPlaysWrong : ChangeSpec := { name := "epochPlays", fn := fun _ => fun
  | [d] => { results := [.lit (.bool false)], args := [d] }
  | _ => none }
def EpochPlaysWrongFalsely : Prop := epochPlaysRow.holds Try.pinned (OpenSpec.ofChange epochPlaysWrong)

/-- 'waterlinelaw14.EpochCopies': WHATEVER THE INPUT: true; the input reads as it did. -/
def epochCopiesSpec : ChangeSpec := { name := "epochCopies", fn := fun _ => fun
  | [d1, d2, d3, d4] => { results := [.lit (.bool true)], args := [d1, d2, d3, d4] }
  | _ => none }
def epochCopiesRow : OpenClaim := { program := "ytgpoplnfhlfogaa", sum := "33214a45935126ecb2a333da9a2383bbf9f6c35e3cb640dd2d9c14fc23e7562d", func := "waterline/waterlinelaw14.EpochCopies", spec := "epochCopies", inPlace := ["maps.clone"], unfollowed := true, recurses := true, apart := false }
def EpochCopiesSaid : Prop := epochCopiesRow.holds Try.pinned (OpenSpec.ofChange epochCopiesSpec)

/-- ITS FALSE NEIGHBOUR: 'it returns false'. Refute it at one input. -/
def epochCopiesWrong : ChangeSpec := { name := "epochCopies", fn := fun _ => fun
  | [d1, d2, d3, d4] => { results := [.lit (.bool false)], args := [d1, d2, d3, d4] }
  | _ => none }
def EpochCopiesWrongFalsely : Prop := epochCopiesRow.holds Try.pinned (OpenSpec.ofChange epochCopiesWrong)

/-- 'waterlinelaw15.LimboHolds': WHATEVER THE INPUT: true; the input reads as it did. -/
def limboHoldsSpec : ChangeSpec := { name := "limboHolds", fn := fun _ => fun
  | [d] => { results := [.lit (.bool true)], args := [d] }
  | _ => none }
def limboHoldsRow : OpenClaim := { program := "ytgpoplnfhlfogaa", sum := "33214a45935126ecb2a333da9a2383bbf9f6c35e3cb640dd2d9c14fc23e7562d", func := "waterline/waterlinelaw15.LimboHolds", spec := "limboHolds", inPlace := ["maps.clone"], unfollowed := true, recurses := true, apart := false }
def LimboHoldsSaid : Prop := limboHoldsRow.holds Try.pinned (OpenSpec.ofChange limboHoldsSpec)

/-- ITS FALSE NEIGHBOUR: 'it returns false'. Refute it at one input. -/
def limboHoldsWrong : ChangeSpec := { name := "limboHolds", fn := fun _ => fun
  | [d] => { results := [.lit (.bool false)], args := [d] }
  | _ => none }
def LimboHoldsWrongFalsely : Prop := limboHoldsRow.holds Try.pinned (OpenSpec.ofChange limboHoldsWrong)

/- THE SECOND FORM. 'bulk': how many values and letters a reading holds, each counted each time it is reached (what is shared counts as often as it is met; a slice's spare places count too). A statement '..UptoSaid' is the law's where the arguments, and the package variables that the reading takes, are together of bulk at most 1048576: NARROWER than '..Said'. Prove '..Said' where nothing that the law and all that it calls make is longer than what came in: it says more and counts as full. Else prove '..UptoSaid'. A law counts once. -/
mutual
def uptoBulk {H : Type} : DataW H → Nat
  | .lit (.string bytes) => bytes.length + 1
  | .lit _ => 1
  | .nil => 1
  | .ptr d => uptoBulk d + 1
  | .slice elems spare => uptoBulkAll elems + uptoBulkAll spare + 1
  | .agg parts => uptoBulkAll parts + 1
  | .iface _ d => uptoBulk d + 1
  | .map entries => uptoBulkEntries entries + 1
  | .held _ => 1
def uptoBulkAll {H : Type} : List (DataW H) → Nat
  | [] => 0
  | d :: r => uptoBulk d + uptoBulkAll r
def uptoBulkEntries {H : Type} : List (Lit × DataW H) → Nat
  | [] => 0
  | x :: r => uptoBulkEntry x + uptoBulkEntries r
def uptoBulkEntry {H : Type} : Lit × DataW H → Nat
  | (.string bytes, d) => bytes.length + uptoBulk d + 1
  | (_, d) => uptoBulk d + 1
 end
def uptoSmall : (H : Type) → List (DataW H) → Bool := fun _ ds => decide (uptoBulkAll ds ≤ 1048576)
def OpenSpec.upto (s : _root_.Go.ChangeSpec) : _root_.Go.OpenSpec := { _root_.Go.OpenSpec.ofChange s with cond := some uptoSmall }

/-- 'waterlinelaw14.EpochBlocks', WHERE WHAT IT READS IS OF BULK AT MOST 1048576: true; the input reads as it did. -/
def epochBlocksUptoRow : OpenClaim := { program := "ytgpoplnfhlfogaa", sum := "33214a45935126ecb2a333da9a2383bbf9f6c35e3cb640dd2d9c14fc23e7562d", func := "waterline/waterlinelaw14.EpochBlocks", spec := "epochBlocks", unfollowed := true, recurses := true, apart := false, narrowed := true }
def EpochBlocksUptoSaid : Prop := epochBlocksUptoRow.holds Try.pinned (OpenSpec.upto epochBlocksSpec)

/-- 'waterlinelaw13.AllocHolds', WHERE WHAT IT READS IS OF BULK AT MOST 1048576: true; the input reads as it did. -/
def allocHoldsUptoRow : OpenClaim := { program := "ytgpoplnfhlfogaa", sum := "33214a45935126ecb2a333da9a2383bbf9f6c35e3cb640dd2d9c14fc23e7562d", func := "waterline/waterlinelaw13.AllocHolds", spec := "allocHolds", inPlace := ["maps.clone"], unfollowed := true, recurses := true, apart := false, narrowed := true }
def AllocHoldsUptoSaid : Prop := allocHoldsUptoRow.holds Try.pinned (OpenSpec.upto allocHoldsSpec)

/-- 'waterlinelaw13.AllocParts', WHERE WHAT IT READS IS OF BULK AT MOST 1048576: true; the input reads as it did. -/
def allocPartsUptoRow : OpenClaim := { program := "ytgpoplnfhlfogaa", sum := "33214a45935126ecb2a333da9a2383bbf9f6c35e3cb640dd2d9c14fc23e7562d", func := "waterline/waterlinelaw13.AllocParts", spec := "allocParts", inPlace := ["maps.clone"], unfollowed := true, recurses := true, apart := false, narrowed := true }
def AllocPartsUptoSaid : Prop := allocPartsUptoRow.holds Try.pinned (OpenSpec.upto allocPartsSpec)

/-- 'waterlinelaw13.AllocPlays', WHERE WHAT IT READS IS OF BULK AT MOST 1048576: true; the input reads as it did. -/
def allocPlaysUptoRow : OpenClaim := { program := "ytgpoplnfhlfogaa", sum := "33214a45935126ecb2a333da9a2383bbf9f6c35e3cb640dd2d9c14fc23e7562d", func := "waterline/waterlinelaw13.AllocPlays", spec := "allocPlays", inPlace := ["maps.clone"], unfollowed := true, recurses := true, apart := false, narrowed := true }
def AllocPlaysUptoSaid : Prop := allocPlaysUptoRow.holds Try.pinned (OpenSpec.upto allocPlaysSpec)

/-- 'waterlinelaw13.AllocCopies', WHERE WHAT IT READS IS OF BULK AT MOST 1048576: true; the input reads as it did. -/
def allocCopiesUptoRow : OpenClaim := { program := "ytgpoplnfhlfogaa", sum := "33214a45935126ecb2a333da9a2383bbf9f6c35e3cb640dd2d9c14fc23e7562d", func := "waterline/waterlinelaw13.AllocCopies", spec := "allocCopies", inPlace := ["maps.clone"], unfollowed := true, recurses := true, apart := false, narrowed := true }
def AllocCopiesUptoSaid : Prop := allocCopiesUptoRow.holds Try.pinned (OpenSpec.upto allocCopiesSpec)

/-- 'waterlinelaw15.LimboParts', WHERE WHAT IT READS IS OF BULK AT MOST 1048576: true; the input reads as it did. -/
def limboPartsUptoRow : OpenClaim := { program := "ytgpoplnfhlfogaa", sum := "33214a45935126ecb2a333da9a2383bbf9f6c35e3cb640dd2d9c14fc23e7562d", func := "waterline/waterlinelaw15.LimboParts", spec := "limboParts", inPlace := ["maps.clone"], unfollowed := true, recurses := true, apart := false, narrowed := true }
def LimboPartsUptoSaid : Prop := limboPartsUptoRow.holds Try.pinned (OpenSpec.upto limboPartsSpec)

/-- 'waterlinelaw14.EpochHolds', WHERE WHAT IT READS IS OF BULK AT MOST 1048576: true; the input reads as it did. -/
def epochHoldsUptoRow : OpenClaim := { program := "ytgpoplnfhlfogaa", sum := "33214a45935126ecb2a333da9a2383bbf9f6c35e3cb640dd2d9c14fc23e7562d", func := "waterline/waterlinelaw14.EpochHolds", spec := "epochHolds", inPlace := ["maps.clone"], unfollowed := true, recurses := true, apart := false, narrowed := true }
def EpochHoldsUptoSaid : Prop := epochHoldsUptoRow.holds Try.pinned (OpenSpec.upto epochHoldsSpec)

/-- 'waterlinelaw14.EpochPlays', WHERE WHAT IT READS IS OF BULK AT MOST 1048576: true; the input reads as it did. -/
def epochPlaysUptoRow : OpenClaim := { program := "ytgpoplnfhlfogaa", sum := "33214a45935126ecb2a333da9a2383bbf9f6c35e3cb640dd2d9c14fc23e7562d", func := "waterline/waterlinelaw14.EpochPlays", spec := "epochPlays", inPlace := ["maps.clone"], unfollowed := true, recurses := true, apart := false, narrowed := true }
def EpochPlaysUptoSaid : Prop := epochPlaysUptoRow.holds Try.pinned (OpenSpec.upto epochPlaysSpec)

/-- 'waterlinelaw14.EpochCopies', WHERE WHAT IT READS IS OF BULK AT MOST 1048576: true; the input reads as it did. -/
def epochCopiesUptoRow : OpenClaim := { program := "ytgpoplnfhlfogaa", sum := "33214a45935126ecb2a333da9a2383bbf9f6c35e3cb640dd2d9c14fc23e7562d", func := "waterline/waterlinelaw14.EpochCopies", spec := "epochCopies", inPlace := ["maps.clone"], unfollowed := true, recurses := true, apart := false, narrowed := true }
def EpochCopiesUptoSaid : Prop := epochCopiesUptoRow.holds Try.pinned (OpenSpec.upto epochCopiesSpec)

/-- 'waterlinelaw15.LimboHolds', WHERE WHAT IT READS IS OF BULK AT MOST 1048576: true; the input reads as it did. -/
def limboHoldsUptoRow : OpenClaim := { program := "ytgpoplnfhlfogaa", sum := "33214a45935126ecb2a333da9a2383bbf9f6c35e3cb640dd2d9c14fc23e7562d", func := "waterline/waterlinelaw15.LimboHolds", spec := "limboHolds", inPlace := ["maps.clone"], unfollowed := true, recurses := true, apart := false, narrowed := true }
def LimboHoldsUptoSaid : Prop := limboHoldsUptoRow.holds Try.pinned (OpenSpec.upto limboHoldsSpec)

end Rows
end Go.Proofs.Ytgpoplnfhlfogaa
