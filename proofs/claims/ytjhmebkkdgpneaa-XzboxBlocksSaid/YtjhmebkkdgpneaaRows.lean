/-
  No cell of these rows narrows 'for every input' (looked for: loops, veiled, ifaces, maps, wideKeys, modest, calm, conditions, laid).
  DERIVED. THE GIVEN ROWS OF THIS SEAT. 5 by the template 'for every input the law returns true; each argument reads behind the call as it read before'; 0 by the template 'total and deterministic' (their statements: YtjhmebkkdgpneaaTotals.lean).
  GIVEN WITH THE SEED: the statements are not yours to turn. If you find one false, say at which input.
  Laid BY PROGRAM, IN A SANDBOX (cutbox-rows.mjs): the forced cells as the released guide's own fill.sh prints them over the translation 28302e381aceaeb7… (all of the seat's roots in one cut). By AI agents, Wed Nov 11 2026. No macro, syntax, notation, axiom, sorry.
-/
import Derived.Test.YtjhmebkkdgpneaaChecked
import GoSem.Claim
import GoSem.ClaimJoined
import GoSem.ClaimMapViews
import Derived.JoinedTies
import Derived.KernelRfl
namespace Go.Proofs.Ytjhmebkkdgpneaa
/- THE CELL 'sum', in the pinned program and in every row, IS THE sha256 OF THE DUMP (.gsa) THAT YtjhmebkkdgpneaaProg.lean LOADS. Nothing in Lean hashes anything: it is a label: what it is worth is what the hold of that sum in a sandbox is worth. -/
noncomputable def Try.pinned : Pinned := { name := "ytjhmebkkdgpneaa", sum := "28302e381aceaeb796086ae1c8e86089e6be64446b4c0ecf7730c79d8f044663", checked := Try.checked }
namespace Rows
def none {H : Type} : Left H := { results := [], args := [] }

/-- 'balerlaw18.XzboxHeads': WHATEVER THE INPUT: true; the input reads as it did. -/
def xzboxHeadsSpec : ChangeSpec := { name := "xzboxHeads", fn := fun _ => fun
  | [d] => { results := [.lit (.bool true)], args := [d] }
  | _ => none }
def xzboxHeadsRow : OpenClaim := { program := "ytjhmebkkdgpneaa", sum := "28302e381aceaeb796086ae1c8e86089e6be64446b4c0ecf7730c79d8f044663", func := "baler/balerlaw18.XzboxHeads", spec := "xzboxHeads", unfollowed := true, recurses := true, apart := false }
def XzboxHeadsSaid : Prop := xzboxHeadsRow.holds Try.pinned (OpenSpec.ofChange xzboxHeadsSpec)

/-- ITS FALSE NEIGHBOUR: 'it returns false'. Refute it at one input. -/
def xzboxHeadsWrong : ChangeSpec := { name := "xzboxHeads", fn := fun _ => fun
  | [d] => { results := [.lit (.bool false)], args := [d] }
  | _ => none }
def XzboxHeadsWrongFalsely : Prop := xzboxHeadsRow.holds Try.pinned (OpenSpec.ofChange xzboxHeadsWrong)

/-- 'balerlaw18.XzboxNumbers': WHATEVER THE INPUT: true; the input reads as it did. -/
def xzboxNumbersSpec : ChangeSpec := { name := "xzboxNumbers", fn := fun _ => fun
  | [d1, d2] => { results := [.lit (.bool true)], args := [d1, d2] }
  | _ => none }
def xzboxNumbersRow : OpenClaim := { program := "ytjhmebkkdgpneaa", sum := "28302e381aceaeb796086ae1c8e86089e6be64446b4c0ecf7730c79d8f044663", func := "baler/balerlaw18.XzboxNumbers", spec := "xzboxNumbers", unfollowed := true, recurses := true, apart := false }
def XzboxNumbersSaid : Prop := xzboxNumbersRow.holds Try.pinned (OpenSpec.ofChange xzboxNumbersSpec)

/-- ITS FALSE NEIGHBOUR: 'it returns false'. Refute it at one input. -/
def xzboxNumbersWrong : ChangeSpec := { name := "xzboxNumbers", fn := fun _ => fun
  | [d1, d2] => { results := [.lit (.bool false)], args := [d1, d2] }
  | _ => none }
def XzboxNumbersWrongFalsely : Prop := xzboxNumbersRow.holds Try.pinned (OpenSpec.ofChange xzboxNumbersWrong)

/-- 'balerlaw18.XzboxBack': WHATEVER THE INPUT: true; the input reads as it did. -/
def xzboxBackSpec : ChangeSpec := { name := "xzboxBack", fn := fun _ => fun
  | [d1, d2] => { results := [.lit (.bool true)], args := [d1, d2] }
  | _ => none }
def xzboxBackRow : OpenClaim := { program := "ytjhmebkkdgpneaa", sum := "28302e381aceaeb796086ae1c8e86089e6be64446b4c0ecf7730c79d8f044663", func := "baler/balerlaw18.XzboxBack", spec := "xzboxBack", unfollowed := true, recurses := true, apart := false }
def XzboxBackSaid : Prop := xzboxBackRow.holds Try.pinned (OpenSpec.ofChange xzboxBackSpec)

/-- ITS FALSE NEIGHBOUR: 'it returns false'. Refute it at one input. -/
def xzboxBackWrong : ChangeSpec := { name := "xzboxBack", fn := fun _ => fun
  | [d1, d2] => { results := [.lit (.bool false)], args := [d1, d2] }
  | _ => none }
def XzboxBackWrongFalsely : Prop := xzboxBackRow.holds Try.pinned (OpenSpec.ofChange xzboxBackWrong)

/-- 'balerlaw18.XzboxMade': WHATEVER THE INPUT: true; the input reads as it did. -/
def xzboxMadeSpec : ChangeSpec := { name := "xzboxMade", fn := fun _ => fun
  | [d1, d2, d3] => { results := [.lit (.bool true)], args := [d1, d2, d3] }
  | _ => none }
def xzboxMadeRow : OpenClaim := { program := "ytjhmebkkdgpneaa", sum := "28302e381aceaeb796086ae1c8e86089e6be64446b4c0ecf7730c79d8f044663", func := "baler/balerlaw18.XzboxMade", spec := "xzboxMade", unfollowed := true, recurses := true, apart := false }
def XzboxMadeSaid : Prop := xzboxMadeRow.holds Try.pinned (OpenSpec.ofChange xzboxMadeSpec)

/-- ITS FALSE NEIGHBOUR: 'it returns false'. Refute it at one input. -/
def xzboxMadeWrong : ChangeSpec := { name := "xzboxMade", fn := fun _ => fun
  | [d1, d2, d3] => { results := [.lit (.bool false)], args := [d1, d2, d3] }
  | _ => none }
def XzboxMadeWrongFalsely : Prop := xzboxMadeRow.holds Try.pinned (OpenSpec.ofChange xzboxMadeWrong)

/-- 'balerlaw18.XzboxBlocks': WHATEVER THE INPUT: true; the input reads as it did. -/
def xzboxBlocksSpec : ChangeSpec := { name := "xzboxBlocks", fn := fun _ => fun
  | [d] => { results := [.lit (.bool true)], args := [d] }
  | _ => none }
def xzboxBlocksRow : OpenClaim := { program := "ytjhmebkkdgpneaa", sum := "28302e381aceaeb796086ae1c8e86089e6be64446b4c0ecf7730c79d8f044663", func := "baler/balerlaw18.XzboxBlocks", spec := "xzboxBlocks", unfollowed := true, recurses := true, apart := false }
def XzboxBlocksSaid : Prop := xzboxBlocksRow.holds Try.pinned (OpenSpec.ofChange xzboxBlocksSpec)

/-- ITS FALSE NEIGHBOUR: 'it returns false'. Refute it at one input. -/
def xzboxBlocksWrong : ChangeSpec := { name := "xzboxBlocks", fn := fun _ => fun
  | [d] => { results := [.lit (.bool false)], args := [d] }
  | _ => none }
def XzboxBlocksWrongFalsely : Prop := xzboxBlocksRow.holds Try.pinned (OpenSpec.ofChange xzboxBlocksWrong)

/- THE SECOND FORM. 'bulk': how many values and letters a reading holds, each counted each time it is reached (what is shared counts as often as it is met; a slice's spare places count too). A statement '..UptoSaid' is the law's where the arguments, and the package variables that the reading takes, are together of bulk at most 1048576: NARROWER than '..Said'. Prove '..Said' where nothing that the law and all that it calls make is longer than what came in: it says more and counts as full. Else prove '..UptoSaid'. A law counts once. -/
mutual
def uptoBulk {H : Type} : DataW H → Nat
  | .lit (.string bytes) => bytes.length + 1
  | .lit _ => 1
  | .nil => 1
  | .ptr d => uptoBulk d + 1
  | .slice elems spare => uptoBulkAll elems + uptoBulkAll spare + 1
  | .agg parts => uptoBulkAll parts + 1
  | .iface _ d => uptoBulk d + 1
  | .map entries => uptoBulkEntries entries + 1
  | .held _ => 1
def uptoBulkAll {H : Type} : List (DataW H) → Nat
  | [] => 0
  | d :: r => uptoBulk d + uptoBulkAll r
def uptoBulkEntries {H : Type} : List (Lit × DataW H) → Nat
  | [] => 0
  | x :: r => uptoBulkEntry x + uptoBulkEntries r
def uptoBulkEntry {H : Type} : Lit × DataW H → Nat
  | (.string bytes, d) => bytes.length + uptoBulk d + 1
  | (_, d) => uptoBulk d + 1
 end
def uptoSmall : (H : Type) → List (DataW H) → Bool := fun _ ds => decide (uptoBulkAll ds ≤ 1048576)
def OpenSpec.upto (s : _root_.Go.ChangeSpec) : _root_.Go.OpenSpec := { _root_.Go.OpenSpec.ofChange s with cond := some uptoSmall }

/-- 'balerlaw18.XzboxHeads', WHERE WHAT IT READS IS OF BULK AT MOST 1048576: true; the input reads as it did. -/
def xzboxHeadsUptoRow : OpenClaim := { program := "ytjhmebkkdgpneaa", sum := "28302e381aceaeb796086ae1c8e86089e6be64446b4c0ecf7730c79d8f044663", func := "baler/balerlaw18.XzboxHeads", spec := "xzboxHeads", unfollowed := true, recurses := true, apart := false, narrowed := true }
def XzboxHeadsUptoSaid : Prop := xzboxHeadsUptoRow.holds Try.pinned (OpenSpec.upto xzboxHeadsSpec)

/-- 'balerlaw18.XzboxNumbers', WHERE WHAT IT READS IS OF BULK AT MOST 1048576: true; the input reads as it did. -/
def xzboxNumbersUptoRow : OpenClaim := { program := "ytjhmebkkdgpneaa", sum := "28302e381aceaeb796086ae1c8e86089e6be64446b4c0ecf7730c79d8f044663", func := "baler/balerlaw18.XzboxNumbers", spec := "xzboxNumbers", unfollowed := true, recurses := true, apart := false, narrowed := true }
def XzboxNumbersUptoSaid : Prop := xzboxNumbersUptoRow.holds Try.pinned (OpenSpec.upto xzboxNumbersSpec)

/-- 'balerlaw18.XzboxBack', WHERE WHAT IT READS IS OF BULK AT MOST 1048576: true; the input reads as it did. -/
def xzboxBackUptoRow : OpenClaim := { program := "ytjhmebkkdgpneaa", sum := "28302e381aceaeb796086ae1c8e86089e6be64446b4c0ecf7730c79d8f044663", func := "baler/balerlaw18.XzboxBack", spec := "xzboxBack", unfollowed := true, recurses := true, apart := false, narrowed := true }
def XzboxBackUptoSaid : Prop := xzboxBackUptoRow.holds Try.pinned (OpenSpec.upto xzboxBackSpec)

/-- 'balerlaw18.XzboxMade', WHERE WHAT IT READS IS OF BULK AT MOST 1048576: true; the input reads as it did. -/
def xzboxMadeUptoRow : OpenClaim := { program := "ytjhmebkkdgpneaa", sum := "28302e381aceaeb796086ae1c8e86089e6be64446b4c0ecf7730c79d8f044663", func := "baler/balerlaw18.XzboxMade", spec := "xzboxMade", unfollowed := true, recurses := true, apart := false, narrowed := true }
def XzboxMadeUptoSaid : Prop := xzboxMadeUptoRow.holds Try.pinned (OpenSpec.upto xzboxMadeSpec)

/-- 'balerlaw18.XzboxBlocks', WHERE WHAT IT READS IS OF BULK AT MOST 1048576: true; the input reads as it did. -/
def xzboxBlocksUptoRow : OpenClaim := { program := "ytjhmebkkdgpneaa", sum := "28302e381aceaeb796086ae1c8e86089e6be64446b4c0ecf7730c79d8f044663", func := "baler/balerlaw18.XzboxBlocks", spec := "xzboxBlocks", unfollowed := true, recurses := true, apart := false, narrowed := true }
def XzboxBlocksUptoSaid : Prop := xzboxBlocksUptoRow.holds Try.pinned (OpenSpec.upto xzboxBlocksSpec)

end Rows
end Go.Proofs.Ytjhmebkkdgpneaa
