/-
  No cell of these rows narrows 'for every input' (looked for: loops, veiled, ifaces, maps, wideKeys, modest, calm, conditions, laid).
  DERIVED. THE GIVEN ROWS OF THIS SEAT. 5 by the template 'for every input the law returns true; each argument reads behind the call as it read before'; 0 by the template 'total and deterministic' (their statements: YtcnjbdaopphleaaTotals.lean).
  GIVEN WITH THE SEED: the statements are not yours to turn. If you find one false, say at which input.
  Laid BY PROGRAM, IN A SANDBOX (cutbox-rows.mjs): the forced cells as the released guide's own fill.sh prints them over the translation 38faae1ef96174a1… (all of the seat's roots in one cut). By AI agents, Wed Nov 11 2026. No macro, syntax, notation, axiom, sorry.
-/
import Derived.Test.YtcnjbdaopphleaaChecked
import GoSem.Claim
import GoSem.ClaimJoined
import GoSem.ClaimMapViews
import Derived.JoinedTies
import Derived.KernelRfl
namespace Go.Proofs.Ytcnjbdaopphleaa
/- THE CELL 'sum', in the pinned program and in every row, IS THE sha256 OF THE DUMP (.gsa) THAT YtcnjbdaopphleaaProg.lean LOADS. Nothing in Lean hashes anything: it is a label: what it is worth is what the hold of that sum in a sandbox is worth. -/
noncomputable def Try.pinned : Pinned := { name := "ytcnjbdaopphleaa", sum := "38faae1ef96174a1f5e1767234892997edbb400c511d853f6a2d6c116cf3cba6", checked := Try.checked }
namespace Rows
def none {H : Type} : Left H := { results := [], args := [] }

/-- 'balerlaw10.RangesReads': WHATEVER THE INPUT: true; the input reads as it did. -/
def rangesReadsSpec : ChangeSpec := { name := "rangesReads", fn := fun _ => fun
  | [d1, d2, d3] => { results := [.lit (.bool true)], args := [d1, d2, d3] }
  | _ => none }
def rangesReadsRow : OpenClaim := { program := "ytcnjbdaopphleaa", sum := "38faae1ef96174a1f5e1767234892997edbb400c511d853f6a2d6c116cf3cba6", func := "baler/balerlaw10.RangesReads", spec := "rangesReads", apart := false }
def RangesReadsSaid : Prop := rangesReadsRow.holds Try.pinned (OpenSpec.ofChange rangesReadsSpec)

/-- ITS FALSE NEIGHBOUR: 'it returns false'. Refute it at one input. -/
def rangesReadsWrong : ChangeSpec := { name := "rangesReads", fn := fun _ => fun
  | [d1, d2, d3] => { results := [.lit (.bool false)], args := [d1, d2, d3] }
  | _ => none }
def RangesReadsWrongFalsely : Prop := rangesReadsRow.holds Try.pinned (OpenSpec.ofChange rangesReadsWrong)

/-- 'balerlaw10.RangesWrites': WHATEVER THE INPUT: true; the input reads as it did. -/
def rangesWritesSpec : ChangeSpec := { name := "rangesWrites", fn := fun _ => fun
  | [d1, d2] => { results := [.lit (.bool true)], args := [d1, d2] }
  | _ => none }
def rangesWritesRow : OpenClaim := { program := "ytcnjbdaopphleaa", sum := "38faae1ef96174a1f5e1767234892997edbb400c511d853f6a2d6c116cf3cba6", func := "baler/balerlaw10.RangesWrites", spec := "rangesWrites", apart := false }
def RangesWritesSaid : Prop := rangesWritesRow.holds Try.pinned (OpenSpec.ofChange rangesWritesSpec)

/-- ITS FALSE NEIGHBOUR: 'it returns false'. Refute it at one input. -/
def rangesWritesWrong : ChangeSpec := { name := "rangesWrites", fn := fun _ => fun
  | [d1, d2] => { results := [.lit (.bool false)], args := [d1, d2] }
  | _ => none }
def RangesWritesWrongFalsely : Prop := rangesWritesRow.holds Try.pinned (OpenSpec.ofChange rangesWritesWrong)

/-- 'balerlaw10.RangesBack': WHATEVER THE INPUT: true; the input reads as it did. -/
def rangesBackSpec : ChangeSpec := { name := "rangesBack", fn := fun _ => fun
  | [d1, d2] => { results := [.lit (.bool true)], args := [d1, d2] }
  | _ => none }
def rangesBackRow : OpenClaim := { program := "ytcnjbdaopphleaa", sum := "38faae1ef96174a1f5e1767234892997edbb400c511d853f6a2d6c116cf3cba6", func := "baler/balerlaw10.RangesBack", spec := "rangesBack", apart := false }
def RangesBackSaid : Prop := rangesBackRow.holds Try.pinned (OpenSpec.ofChange rangesBackSpec)

/-- ITS FALSE NEIGHBOUR: 'it returns false'. Refute it at one input. -/
def rangesBackWrong : ChangeSpec := { name := "rangesBack", fn := fun _ => fun
  | [d1, d2] => { results := [.lit (.bool false)], args := [d1, d2] }
  | _ => none }
def RangesBackWrongFalsely : Prop := rangesBackRow.holds Try.pinned (OpenSpec.ofChange rangesBackWrong)

/-- 'balerlaw10.RangesSmall': WHATEVER THE INPUT: true; the input reads as it did. -/
def rangesSmallSpec : ChangeSpec := { name := "rangesSmall", fn := fun _ => fun
  | [d1, d2] => { results := [.lit (.bool true)], args := [d1, d2] }
  | _ => none }
def rangesSmallRow : OpenClaim := { program := "ytcnjbdaopphleaa", sum := "38faae1ef96174a1f5e1767234892997edbb400c511d853f6a2d6c116cf3cba6", func := "baler/balerlaw10.RangesSmall", spec := "rangesSmall", apart := false }
def RangesSmallSaid : Prop := rangesSmallRow.holds Try.pinned (OpenSpec.ofChange rangesSmallSpec)

/-- ITS FALSE NEIGHBOUR: 'it returns false'. Refute it at one input. -/
def rangesSmallWrong : ChangeSpec := { name := "rangesSmall", fn := fun _ => fun
  | [d1, d2] => { results := [.lit (.bool false)], args := [d1, d2] }
  | _ => none }
def RangesSmallWrongFalsely : Prop := rangesSmallRow.holds Try.pinned (OpenSpec.ofChange rangesSmallWrong)

/-- 'balerlaw10.RangesNil': WHATEVER THE INPUT: true; the input reads as it did. -/
def rangesNilSpec : ChangeSpec := { name := "rangesNil", fn := fun _ => fun
  | [d1, d2] => { results := [.lit (.bool true)], args := [d1, d2] }
  | _ => none }
def rangesNilRow : OpenClaim := { program := "ytcnjbdaopphleaa", sum := "38faae1ef96174a1f5e1767234892997edbb400c511d853f6a2d6c116cf3cba6", func := "baler/balerlaw10.RangesNil", spec := "rangesNil", apart := false }
def RangesNilSaid : Prop := rangesNilRow.holds Try.pinned (OpenSpec.ofChange rangesNilSpec)

/-- ITS FALSE NEIGHBOUR: 'it returns false'. Refute it at one input. -/
def rangesNilWrong : ChangeSpec := { name := "rangesNil", fn := fun _ => fun
  | [d1, d2] => { results := [.lit (.bool false)], args := [d1, d2] }
  | _ => none }
def RangesNilWrongFalsely : Prop := rangesNilRow.holds Try.pinned (OpenSpec.ofChange rangesNilWrong)

/- THE SECOND FORM. 'bulk': how many values and letters a reading holds, each counted each time it is reached (what is shared counts as often as it is met; a slice's spare places count too). A statement '..UptoSaid' is the law's where the arguments, and the package variables that the reading takes, are together of bulk at most 1048576: NARROWER than '..Said'. Prove '..Said' where nothing that the law and all that it calls make is longer than what came in: it says more and counts as full. Else prove '..UptoSaid'. A law counts once. -/
mutual
def uptoBulk {H : Type} : DataW H → Nat
  | .lit (.string bytes) => bytes.length + 1
  | .lit _ => 1
  | .nil => 1
  | .ptr d => uptoBulk d + 1
  | .slice elems spare => uptoBulkAll elems + uptoBulkAll spare + 1
  | .agg parts => uptoBulkAll parts + 1
  | .iface _ d => uptoBulk d + 1
  | .map entries => uptoBulkEntries entries + 1
  | .held _ => 1
def uptoBulkAll {H : Type} : List (DataW H) → Nat
  | [] => 0
  | d :: r => uptoBulk d + uptoBulkAll r
def uptoBulkEntries {H : Type} : List (Lit × DataW H) → Nat
  | [] => 0
  | x :: r => uptoBulkEntry x + uptoBulkEntries r
def uptoBulkEntry {H : Type} : Lit × DataW H → Nat
  | (.string bytes, d) => bytes.length + uptoBulk d + 1
  | (_, d) => uptoBulk d + 1
 end
def uptoSmall : (H : Type) → List (DataW H) → Bool := fun _ ds => decide (uptoBulkAll ds ≤ 1048576)
def OpenSpec.upto (s : _root_.Go.ChangeSpec) : _root_.Go.OpenSpec := { _root_.Go.OpenSpec.ofChange s with cond := some uptoSmall }

/-- 'balerlaw10.RangesReads', WHERE WHAT IT READS IS OF BULK AT MOST 1048576: true; the input reads as it did. -/
def rangesReadsUptoRow : OpenClaim := { program := "ytcnjbdaopphleaa", sum := "38faae1ef96174a1f5e1767234892997edbb400c511d853f6a2d6c116cf3cba6", func := "baler/balerlaw10.RangesReads", spec := "rangesReads", apart := false, narrowed := true }
def RangesReadsUptoSaid : Prop := rangesReadsUptoRow.holds Try.pinned (OpenSpec.upto rangesReadsSpec)

/-- 'balerlaw10.RangesWrites', WHERE WHAT IT READS IS OF BULK AT MOST 1048576: true; the input reads as it did. -/
def rangesWritesUptoRow : OpenClaim := { program := "ytcnjbdaopphleaa", sum := "38faae1ef96174a1f5e1767234892997edbb400c511d853f6a2d6c116cf3cba6", func := "baler/balerlaw10.RangesWrites", spec := "rangesWrites", apart := false, narrowed := true }
def RangesWritesUptoSaid : Prop := rangesWritesUptoRow.holds Try.pinned (OpenSpec.upto rangesWritesSpec)

/-- 'balerlaw10.RangesBack', WHERE WHAT IT READS IS OF BULK AT MOST 1048576: true; the input reads as it did. -/
def rangesBackUptoRow : OpenClaim := { program := "ytcnjbdaopphleaa", sum := "38faae1ef96174a1f5e1767234892997edbb400c511d853f6a2d6c116cf3cba6", func := "baler/balerlaw10.RangesBack", spec := "rangesBack", apart := false, narrowed := true }
def RangesBackUptoSaid : Prop := rangesBackUptoRow.holds Try.pinned (OpenSpec.upto rangesBackSpec)

/-- 'balerlaw10.RangesSmall', WHERE WHAT IT READS IS OF BULK AT MOST 1048576: true; the input reads as it did. -/
def rangesSmallUptoRow : OpenClaim := { program := "ytcnjbdaopphleaa", sum := "38faae1ef96174a1f5e1767234892997edbb400c511d853f6a2d6c116cf3cba6", func := "baler/balerlaw10.RangesSmall", spec := "rangesSmall", apart := false, narrowed := true }
def RangesSmallUptoSaid : Prop := rangesSmallUptoRow.holds Try.pinned (OpenSpec.upto rangesSmallSpec)

/-- 'balerlaw10.RangesNil', WHERE WHAT IT READS IS OF BULK AT MOST 1048576: true; the input reads as it did. -/
def rangesNilUptoRow : OpenClaim := { program := "ytcnjbdaopphleaa", sum := "38faae1ef96174a1f5e1767234892997edbb400c511d853f6a2d6c116cf3cba6", func := "baler/balerlaw10.RangesNil", spec := "rangesNil", apart := false, narrowed := true }
def RangesNilUptoSaid : Prop := rangesNilUptoRow.holds Try.pinned (OpenSpec.upto rangesNilSpec)

end Rows
end Go.Proofs.Ytcnjbdaopphleaa
