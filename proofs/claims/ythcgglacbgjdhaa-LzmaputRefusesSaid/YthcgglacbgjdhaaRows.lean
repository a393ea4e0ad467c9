/-
  No cell of these rows narrows 'for every input' (looked for: loops, veiled, ifaces, maps, wideKeys, modest, calm, conditions, laid).
  DERIVED. THE GIVEN ROWS OF THIS SEAT. 4 by the template 'for every input the law returns true; each argument reads behind the call as it read before'; 0 by the template 'total and deterministic' (their statements: YthcgglacbgjdhaaTotals.lean).
  GIVEN WITH THE SEED: the statements are not yours to turn. If you find one false, say at which input.
  Laid BY PROGRAM, IN A SANDBOX (cutbox-rows.mjs): the forced cells as the released guide's own fill.sh prints them over the translation 9ebe862a69231737… (all of the seat's roots in one cut). By AI agents, Wed Nov 11 2026. No macro, syntax, notation, axiom, sorry.
-/
import Derived.Test.YthcgglacbgjdhaaChecked
import GoSem.Claim
import GoSem.ClaimJoined
import GoSem.ClaimMapViews
import Derived.JoinedTies
import Derived.KernelRfl
namespace Go.Proofs.Ythcgglacbgjdhaa
/- THE CELL 'sum', in the pinned program and in every row, IS THE sha256 OF THE DUMP (.gsa) THAT YthcgglacbgjdhaaProg.lean LOADS. Nothing in Lean hashes anything: it is a label: what it is worth is what the hold of that sum in a sandbox is worth. -/
noncomputable def Try.pinned : Pinned := { name := "ythcgglacbgjdhaa", sum := "9ebe862a69231737c1aa68bc5976edd7b8354e74df19007b4ff5739a14a3e60e", checked := Try.checked }
namespace Rows
def none {H : Type} : Left H := { results := [], args := [] }

/-- 'balerlaw14.LzmaputSmall': WHATEVER THE INPUT: true; the input reads as it did. -/
def lzmaputSmallSpec : ChangeSpec := { name := "lzmaputSmall", fn := fun _ => fun
  | [d] => { results := [.lit (.bool true)], args := [d] }
  | _ => none }
def lzmaputSmallRow : OpenClaim := { program := "ythcgglacbgjdhaa", sum := "9ebe862a69231737c1aa68bc5976edd7b8354e74df19007b4ff5739a14a3e60e", func := "baler/balerlaw14.LzmaputSmall", spec := "lzmaputSmall", inPlace := ["sync/atomic.LoadInt64", "sync/atomic.CompareAndSwapInt64"], unfollowed := true, recurses := true, apart := false }
def LzmaputSmallSaid : Prop := lzmaputSmallRow.holds Try.pinned (OpenSpec.ofChange lzmaputSmallSpec)

/-- ITS FALSE NEIGHBOUR: 'it returns false'. Refute it at one input. -/
def lzmaputSmallWrong : ChangeSpec := { name := "lzmaputSmall", fn := fun _ => fun
  | [d] => { results := [.lit (.bool false)], args := [d] }
  | _ => none }
def LzmaputSmallWrongFalsely : Prop := lzmaputSmallRow.holds Try.pinned (OpenSpec.ofChange lzmaputSmallWrong)

/-- 'balerlaw14.LzmaputNil': WHATEVER THE INPUT: true; the input reads as it did. -/
def lzmaputNilSpec : ChangeSpec := { name := "lzmaputNil", fn := fun _ => fun
  | [d1, d2] => { results := [.lit (.bool true)], args := [d1, d2] }
  | _ => none }
def lzmaputNilRow : OpenClaim := { program := "ythcgglacbgjdhaa", sum := "9ebe862a69231737c1aa68bc5976edd7b8354e74df19007b4ff5739a14a3e60e", func := "baler/balerlaw14.LzmaputNil", spec := "lzmaputNil", inPlace := ["sync/atomic.LoadInt64", "sync/atomic.CompareAndSwapInt64"], unfollowed := true, recurses := true, apart := false }
def LzmaputNilSaid : Prop := lzmaputNilRow.holds Try.pinned (OpenSpec.ofChange lzmaputNilSpec)

/-- ITS FALSE NEIGHBOUR: 'it returns false'. Refute it at one input. -/
def lzmaputNilWrong : ChangeSpec := { name := "lzmaputNil", fn := fun _ => fun
  | [d1, d2] => { results := [.lit (.bool false)], args := [d1, d2] }
  | _ => none }
def LzmaputNilWrongFalsely : Prop := lzmaputNilRow.holds Try.pinned (OpenSpec.ofChange lzmaputNilWrong)

/-- 'balerlaw14.LzmaputSteps': WHATEVER THE INPUT: true; the input reads as it did. -/
def lzmaputStepsSpec : ChangeSpec := { name := "lzmaputSteps", fn := fun _ => fun
  | [d1, d2, d3] => { results := [.lit (.bool true)], args := [d1, d2, d3] }
  | _ => none }
def lzmaputStepsRow : OpenClaim := { program := "ythcgglacbgjdhaa", sum := "9ebe862a69231737c1aa68bc5976edd7b8354e74df19007b4ff5739a14a3e60e", func := "baler/balerlaw14.LzmaputSteps", spec := "lzmaputSteps", inPlace := ["sync/atomic.LoadInt64", "sync/atomic.CompareAndSwapInt64"], unfollowed := true, recurses := true, apart := false }
def LzmaputStepsSaid : Prop := lzmaputStepsRow.holds Try.pinned (OpenSpec.ofChange lzmaputStepsSpec)

/-- ITS FALSE NEIGHBOUR: 'it returns false'. Refute it at one input. -/
def lzmaputStepsWrong : ChangeSpec := { name := "lzmaputSteps", fn := fun _ => fun
  | [d1, d2, d3] => { results := [.lit (.bool false)], args := [d1, d2, d3] }
  | _ => none }
def LzmaputStepsWrongFalsely : Prop := lzmaputStepsRow.holds Try.pinned (OpenSpec.ofChange lzmaputStepsWrong)

/-- 'balerlaw14.LzmaputRefuses': WHATEVER THE INPUT: true; the input reads as it did. -/
def lzmaputRefusesSpec : ChangeSpec := { name := "lzmaputRefuses", fn := fun _ => fun
  | [d1, d2, d3, d4] => { results := [.lit (.bool true)], args := [d1, d2, d3, d4] }
  | _ => none }
def lzmaputRefusesRow : OpenClaim := { program := "ythcgglacbgjdhaa", sum := "9ebe862a69231737c1aa68bc5976edd7b8354e74df19007b4ff5739a14a3e60e", func := "baler/balerlaw14.LzmaputRefuses", spec := "lzmaputRefuses", inPlace := ["sync/atomic.LoadInt64", "sync/atomic.CompareAndSwapInt64"], unfollowed := true, recurses := true, apart := false }
def LzmaputRefusesSaid : Prop := lzmaputRefusesRow.holds Try.pinned (OpenSpec.ofChange lzmaputRefusesSpec)

/-- ITS FALSE NEIGHBOUR: 'it returns false'. Refute it at one input. -/
def lzmaputRefusesWrong : ChangeSpec := { name := "lzmaputRefuses", fn := fun _ => fun
  | [d1, d2, d3, d4] => { results := [.lit (.bool false)], args := [d1, d2, d3, d4] }
  | _ => none }
def LzmaputRefusesWrongFalsely : Prop := lzmaputRefusesRow.holds Try.pinned (OpenSpec.ofChange lzmaputRefusesWrong)

/- THE SECOND FORM. 'bulk': how many values and letters a reading holds, each counted each time it is reached (what is shared counts as often as it is met; a slice's spare places count too). A statement '..UptoSaid' is the law's where the arguments, and the package variables that the reading takes, are together of bulk at most 1048576: NARROWER than '..Said'. Prove '..Said' where nothing that the law and all that it calls make is longer than what came in: it says more and counts as full. Else prove '..UptoSaid'. A law counts once. -/
mutual
def uptoBulk {H : Type} : DataW H → Nat
  | .lit (.string bytes) => bytes.length + 1
  | .lit _ => 1
  | .nil => 1
  | .ptr d => uptoBulk d + 1
  | .slice elems spare => uptoBulkAll elems + uptoBulkAll spare + 1
  | .agg parts => uptoBulkAll parts + 1
  | .iface _ d => uptoBulk d + 1
  | .map entries => uptoBulkEntries entries + 1
  | .held _ => 1
def uptoBulkAll {H : Type} : List (DataW H) → Nat
  | [] => 0
  | d :: r => uptoBulk d + uptoBulkAll r
def uptoBulkEntries {H : Type} : List (Lit × DataW H) → Nat
  | [] => 0
  | x :: r => uptoBulkEntry x + uptoBulkEntries r
def uptoBulkEntry {H : Type} : Lit × DataW H → Nat
  | (.string bytes, d) => bytes.length + uptoBulk d + 1
  | (_, d) => uptoBulk d + 1
 end
def uptoSmall : (H : Type) → List (DataW H) → Bool := fun _ ds => decide (uptoBulkAll ds ≤ 1048576)
def OpenSpec.upto (s : _root_.Go.ChangeSpec) : _root_.Go.OpenSpec := { _root_.Go.OpenSpec.ofChange s with cond := some uptoSmall }

/-- 'balerlaw14.LzmaputSmall', WHERE WHAT IT READS IS OF BULK AT MOST 1048576: true; the input reads as it did. -/
def lzmaputSmallUptoRow : OpenClaim := { program := "ythcgglacbgjdhaa", sum := "9ebe862a69231737c1aa68bc5976edd7b8354e74df19007b4ff5739a14a3e60e", func := "baler/balerlaw14.LzmaputSmall", spec := "lzmaputSmall", inPlace := ["sync/atomic.LoadInt64", "sync/atomic.CompareAndSwapInt64"], unfollowed := true, recurses := true, apart := false, narrowed := true }
def LzmaputSmallUptoSaid : Prop := lzmaputSmallUptoRow.holds Try.pinned (OpenSpec.upto lzmaputSmallSpec)

/-- 'balerlaw14.LzmaputNil', WHERE WHAT IT READS IS OF BULK AT MOST 1048576: true; the input reads as it did. -/
def lzmaputNilUptoRow : OpenClaim := { program := "ythcgglacbgjdhaa", sum := "9ebe862a69231737c1aa68bc5976edd7b8354e74df19007b4ff5739a14a3e60e", func := "baler/balerlaw14.LzmaputNil", spec := "lzmaputNil", inPlace := ["sync/atomic.LoadInt64", "sync/atomic.CompareAndSwapInt64"], unfollowed := true, recurses := true, apart := false, narrowed := true }
def LzmaputNilUptoSaid : Prop := lzmaputNilUptoRow.holds Try.pinned (OpenSpec.upto lzmaputNilSpec)

/-- 'balerlaw14.LzmaputSteps', WHERE WHAT IT READS IS OF BULK AT MOST 1048576: true; the input reads as it did. -/
def lzmaputStepsUptoRow : OpenClaim := { program := "ythcgglacbgjdhaa", sum := "9ebe862a69231737c1aa68bc5976edd7b8354e74df19007b4ff5739a14a3e60e", func := "baler/balerlaw14.LzmaputSteps", spec := "lzmaputSteps", inPlace := ["sync/atomic.LoadInt64", "sync/atomic.CompareAndSwapInt64"], unfollowed := true, recurses := true, apart := false, narrowed := true }
def LzmaputStepsUptoSaid : Prop := lzmaputStepsUptoRow.holds Try.pinned (OpenSpec.upto lzmaputStepsSpec)

/-- 'balerlaw14.LzmaputRefuses', WHERE WHAT IT READS IS OF BULK AT MOST 1048576: true; the input reads as it did. -/
def lzmaputRefusesUptoRow : OpenClaim := { program := "ythcgglacbgjdhaa", sum := "9ebe862a69231737c1aa68bc5976edd7b8354e74df19007b4ff5739a14a3e60e", func := "baler/balerlaw14.LzmaputRefuses", spec := "lzmaputRefuses", inPlace := ["sync/atomic.LoadInt64", "sync/atomic.CompareAndSwapInt64"], unfollowed := true, recurses := true, apart := false, narrowed := true }
def LzmaputRefusesUptoSaid : Prop := lzmaputRefusesUptoRow.holds Try.pinned (OpenSpec.upto lzmaputRefusesSpec)

end Rows
end Go.Proofs.Ythcgglacbgjdhaa
