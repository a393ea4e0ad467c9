/-
  No cell of these rows narrows 'for every input' (looked for: loops, veiled, ifaces, maps, wideKeys, modest, calm, conditions, laid).
  DERIVED. THE GIVEN ROWS OF THIS SEAT. 5 by the template 'for every input the law returns true; each argument reads behind the call as it read before'; 0 by the template 'total and deterministic' (their statements: YtgahfpflhhfhfaaGreatTotals.lean).
  GIVEN WITH THE SEED: the statements are not yours to turn. If you find one false, say at which input.
  Laid BY PROGRAM, IN A SANDBOX (cutbox-rows.mjs): the forced cells as the released guide's own fill.sh prints them over the translation ecd206edc351e9dc… (all of the seat's roots in one cut). By AI agents, Wed Nov 11 2026. No macro, syntax, notation, axiom, sorry.
-/
import Derived.Test.YtgahfpflhhfhfaaGreatChecked
import GoSem.Claim
import GoSem.ClaimJoined
import GoSem.ClaimMapViews
import Derived.JoinedTies
import Derived.KernelRfl
namespace Go.Proofs.YtgahfpflhhfhfaaGreat
/- THE CELL 'sum', in the pinned program and in every row, IS THE sha256 OF THE DUMP (.gsa) THAT YtgahfpflhhfhfaaGreatProg.lean LOADS. Nothing in Lean hashes anything: it is a label: what it is worth is what the hold of that sum in a sandbox is worth. -/
noncomputable def Tryz.pinned : Pinned := { name := "ytgahfpflhhfhfaagreat", sum := "ecd206edc351e9dca3bd3a5fa3ed2e9cd772db548170437939dba9f6f6e74bd0", checked := Tryz.checked }
namespace Rows
def none {H : Type} : Left H := { results := [], args := [] }

/-- 'balerlaw20.XzReads': WHATEVER THE INPUT: true; the input reads as it did. -/
def xzReadsSpec : ChangeSpec := { name := "xzReads", fn := fun _ => fun
  | [d1, d2] => { results := [.lit (.bool true)], args := [d1, d2] }
  | _ => none }
def xzReadsRow : OpenClaim := { program := "ytgahfpflhhfhfaagreat", sum := "ecd206edc351e9dca3bd3a5fa3ed2e9cd772db548170437939dba9f6f6e74bd0", func := "baler/balerlaw20.XzReads", spec := "xzReads", inPlace := ["sync/atomic.LoadInt64", "sync/atomic.CompareAndSwapInt64"], unfollowed := true, recurses := true, apart := false }
def XzReadsSaid : Prop := xzReadsRow.holds Tryz.pinned (OpenSpec.ofChange xzReadsSpec)

/-- ITS FALSE NEIGHBOUR: 'it returns false'. Refute it at one input. -/
def xzReadsWrong : ChangeSpec := { name := "xzReads", fn := fun _ => fun
  | [d1, d2] => { results := [.lit (.bool false)], args := [d1, d2] }
  | _ => none }
def XzReadsWrongFalsely : Prop := xzReadsRow.holds Tryz.pinned (OpenSpec.ofChange xzReadsWrong)

/-- 'balerlaw20.XzMade': WHATEVER THE INPUT: true; the input reads as it did. -/
def xzMadeSpec : ChangeSpec := { name := "xzMade", fn := fun _ => fun
  | [d1, d2, d3, d4] => { results := [.lit (.bool true)], args := [d1, d2, d3, d4] }
  | _ => none }
def xzMadeRow : OpenClaim := { program := "ytgahfpflhhfhfaagreat", sum := "ecd206edc351e9dca3bd3a5fa3ed2e9cd772db548170437939dba9f6f6e74bd0", func := "baler/balerlaw20.XzMade", spec := "xzMade", inPlace := ["sync/atomic.LoadInt64", "sync/atomic.CompareAndSwapInt64"], unfollowed := true, recurses := true, apart := false }
def XzMadeSaid : Prop := xzMadeRow.holds Tryz.pinned (OpenSpec.ofChange xzMadeSpec)

/-- ITS FALSE NEIGHBOUR: 'it returns false'. Refute it at one input. -/
def xzMadeWrong : ChangeSpec := { name := "xzMade", fn := fun _ => fun
  | [d1, d2, d3, d4] => { results := [.lit (.bool false)], args := [d1, d2, d3, d4] }
  | _ => none }
def XzMadeWrongFalsely : Prop := xzMadeRow.holds Tryz.pinned (OpenSpec.ofChange xzMadeWrong)

/-- 'balerlaw20.XzCut': WHATEVER THE INPUT: true; the input reads as it did. -/
def xzCutSpec : ChangeSpec := { name := "xzCut", fn := fun _ => fun
  | [d1, d2, d3, d4] => { results := [.lit (.bool true)], args := [d1, d2, d3, d4] }
  | _ => none }
def xzCutRow : OpenClaim := { program := "ytgahfpflhhfhfaagreat", sum := "ecd206edc351e9dca3bd3a5fa3ed2e9cd772db548170437939dba9f6f6e74bd0", func := "baler/balerlaw20.XzCut", spec := "xzCut", inPlace := ["sync/atomic.LoadInt64", "sync/atomic.CompareAndSwapInt64"], unfollowed := true, recurses := true, apart := false }
def XzCutSaid : Prop := xzCutRow.holds Tryz.pinned (OpenSpec.ofChange xzCutSpec)

/-- ITS FALSE NEIGHBOUR: 'it returns false'. Refute it at one input. -/
def xzCutWrong : ChangeSpec := { name := "xzCut", fn := fun _ => fun
  | [d1, d2, d3, d4] => { results := [.lit (.bool false)], args := [d1, d2, d3, d4] }
  | _ => none }
def XzCutWrongFalsely : Prop := xzCutRow.holds Tryz.pinned (OpenSpec.ofChange xzCutWrong)

/-- 'balerlaw20.XzBudget': WHATEVER THE INPUT: true; the input reads as it did. -/
def xzBudgetSpec : ChangeSpec := { name := "xzBudget", fn := fun _ => fun
  | [d1, d2, d3] => { results := [.lit (.bool true)], args := [d1, d2, d3] }
  | _ => none }
def xzBudgetRow : OpenClaim := { program := "ytgahfpflhhfhfaagreat", sum := "ecd206edc351e9dca3bd3a5fa3ed2e9cd772db548170437939dba9f6f6e74bd0", func := "baler/balerlaw20.XzBudget", spec := "xzBudget", inPlace := ["sync/atomic.LoadInt64", "sync/atomic.CompareAndSwapInt64"], unfollowed := true, recurses := true, apart := false }
def XzBudgetSaid : Prop := xzBudgetRow.holds Tryz.pinned (OpenSpec.ofChange xzBudgetSpec)

/-- ITS FALSE NEIGHBOUR: 'it returns false'. Refute it at one input. -/
def xzBudgetWrong : ChangeSpec := { name := "xzBudget", fn := fun _ => fun
  | [d1, d2, d3] => { results := [.lit (.bool false)], args := [d1, d2, d3] }
  | _ => none }
def XzBudgetWrongFalsely : Prop := xzBudgetRow.holds Tryz.pinned (OpenSpec.ofChange xzBudgetWrong)

/-- 'balerlaw20.XzChanged': WHATEVER THE INPUT: true; the input reads as it did. -/
def xzChangedSpec : ChangeSpec := { name := "xzChanged", fn := fun _ => fun
  | [d1, d2, d3] => { results := [.lit (.bool true)], args := [d1, d2, d3] }
  | _ => none }
def xzChangedRow : OpenClaim := { program := "ytgahfpflhhfhfaagreat", sum := "ecd206edc351e9dca3bd3a5fa3ed2e9cd772db548170437939dba9f6f6e74bd0", func := "baler/balerlaw20.XzChanged", spec := "xzChanged", inPlace := ["sync/atomic.LoadInt64", "sync/atomic.CompareAndSwapInt64"], unfollowed := true, recurses := true, apart := false }
def XzChangedSaid : Prop := xzChangedRow.holds Tryz.pinned (OpenSpec.ofChange xzChangedSpec)

/-- ITS FALSE NEIGHBOUR: 'it returns false'. Refute it at one input. -/
def xzChangedWrong : ChangeSpec := { name := "xzChanged", fn := fun _ => fun
  | [d1, d2, d3] => { results := [.lit (.bool false)], args := [d1, d2, d3] }
  | _ => none }
def XzChangedWrongFalsely : Prop := xzChangedRow.holds Tryz.pinned (OpenSpec.ofChange xzChangedWrong)

/- THE SECOND FORM. 'bulk': how many values and letters a reading holds, each counted each time it is reached (what is shared counts as often as it is met; a slice's spare places count too). A statement '..UptoSaid' is the law's where the arguments, and the package variables that the reading takes, are together of bulk at most 1048576: NARROWER than '..Said'. Prove '..Said' where nothing that the law and all that it calls make is longer than what came in: it says more and counts as full. Else prove '..UptoSaid'. A law counts once. -/
mutual
def uptoBulk {H : Type} : DataW H → Nat
  | .lit (.string bytes) => bytes.length + 1
  | .lit _ => 1
  | .nil => 1
  | .ptr d => uptoBulk d + 1
  | .slice elems spare => uptoBulkAll elems + uptoBulkAll spare + 1
  | .agg parts => uptoBulkAll parts + 1
  | .iface _ d => uptoBulk d + 1
  | .map entries => uptoBulkEntries entries + 1
  | .held _ => 1
def uptoBulkAll {H : Type} : List (DataW H) → Nat
  | [] => 0
  | d :: r => uptoBulk d + uptoBulkAll r
def uptoBulkEntries {H : Type} : List (Lit × DataW H) → Nat
  | [] => 0
  | x :: r => uptoBulkEntry x + uptoBulkEntries r
def uptoBulkEntry {H : Type} : Lit × DataW H → Nat
  | (.string bytes, d) => bytes.length + uptoBulk d + 1
  | (_, d) => uptoBulk d + 1
 end
def uptoSmall : (H : Type) → List (DataW H) → Bool := fun _ ds => decide (uptoBulkAll ds ≤ 1048576)
def OpenSpec.upto (s : _root_.Go.ChangeSpec) : _root_.Go.OpenSpec := { _root_.Go.OpenSpec.ofChange s with cond := some uptoSmall }

/-- 'balerlaw20.XzReads', WHERE WHAT IT READS IS OF BULK AT MOST 1048576: true; the input reads as it did. -/
def xzReadsUptoRow : OpenClaim := { program := "ytgahfpflhhfhfaagreat", sum := "ecd206edc351e9dca3bd3a5fa3ed2e9cd772db548170437939dba9f6f6e74bd0", func := "baler/balerlaw20.XzReads", spec := "xzReads", inPlace := ["sync/atomic.LoadInt64", "sync/atomic.CompareAndSwapInt64"], unfollowed := true, recurses := true, apart := false, narrowed := true }
def XzReadsUptoSaid : Prop := xzReadsUptoRow.holds Tryz.pinned (OpenSpec.upto xzReadsSpec)

/-- 'balerlaw20.XzMade', WHERE WHAT IT READS IS OF BULK AT MOST 1048576: true; the input reads as it did. -/
def xzMadeUptoRow : OpenClaim := { program := "ytgahfpflhhfhfaagreat", sum := "ecd206edc351e9dca3bd3a5fa3ed2e9cd772db548170437939dba9f6f6e74bd0", func := "baler/balerlaw20.XzMade", spec := "xzMade", inPlace := ["sync/atomic.LoadInt64", "sync/atomic.CompareAndSwapInt64"], unfollowed := true, recurses := true, apart := false, narrowed := true }
def XzMadeUptoSaid : Prop := xzMadeUptoRow.holds Tryz.pinned (OpenSpec.upto xzMadeSpec)

/-- 'balerlaw20.XzCut', WHERE WHAT IT READS IS OF BULK AT MOST 1048576: true; the input reads as it did. -/
def xzCutUptoRow : OpenClaim := { program := "ytgahfpflhhfhfaagreat", sum := "ecd206edc351e9dca3bd3a5fa3ed2e9cd772db548170437939dba9f6f6e74bd0", func := "baler/balerlaw20.XzCut", spec := "xzCut", inPlace := ["sync/atomic.LoadInt64", "sync/atomic.CompareAndSwapInt64"], unfollowed := true, recurses := true, apart := false, narrowed := true }
def XzCutUptoSaid : Prop := xzCutUptoRow.holds Tryz.pinned (OpenSpec.upto xzCutSpec)

/-- 'balerlaw20.XzBudget', WHERE WHAT IT READS IS OF BULK AT MOST 1048576: true; the input reads as it did. -/
def xzBudgetUptoRow : OpenClaim := { program := "ytgahfpflhhfhfaagreat", sum := "ecd206edc351e9dca3bd3a5fa3ed2e9cd772db548170437939dba9f6f6e74bd0", func := "baler/balerlaw20.XzBudget", spec := "xzBudget", inPlace := ["sync/atomic.LoadInt64", "sync/atomic.CompareAndSwapInt64"], unfollowed := true, recurses := true, apart := false, narrowed := true }
def XzBudgetUptoSaid : Prop := xzBudgetUptoRow.holds Tryz.pinned (OpenSpec.upto xzBudgetSpec)

/-- 'balerlaw20.XzChanged', WHERE WHAT IT READS IS OF BULK AT MOST 1048576: true; the input reads as it did. -/
def xzChangedUptoRow : OpenClaim := { program := "ytgahfpflhhfhfaagreat", sum := "ecd206edc351e9dca3bd3a5fa3ed2e9cd772db548170437939dba9f6f6e74bd0", func := "baler/balerlaw20.XzChanged", spec := "xzChanged", inPlace := ["sync/atomic.LoadInt64", "sync/atomic.CompareAndSwapInt64"], unfollowed := true, recurses := true, apart := false, narrowed := true }
def XzChangedUptoSaid : Prop := xzChangedUptoRow.holds Tryz.pinned (OpenSpec.upto xzChangedSpec)

end Rows
end Go.Proofs.YtgahfpflhhfhfaaGreat
