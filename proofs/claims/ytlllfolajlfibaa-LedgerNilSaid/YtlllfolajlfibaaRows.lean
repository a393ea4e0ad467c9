/-
  No cell of these rows narrows 'for every input' (looked for: loops, veiled, ifaces, maps, wideKeys, modest, calm, conditions, laid).
  DERIVED. THE GIVEN ROWS OF THIS SEAT. 4 by the template 'for every input the law returns true; each argument reads behind the call as it read before'; 0 by the template 'total and deterministic' (their statements: YtlllfolajlfibaaTotals.lean).
  GIVEN WITH THE SEED: the statements are not yours to turn. If you find one false, say at which input.
  Laid BY PROGRAM, IN A SANDBOX (cutbox-rows.mjs): the forced cells as the released guide's own fill.sh prints them over the translation f46a1af162682a2c… (all of the seat's roots in one cut). By AI agents, Wed Nov 11 2026. No macro, syntax, notation, axiom, sorry.
-/
import Derived.Test.YtlllfolajlfibaaChecked
import GoSem.Claim
import GoSem.ClaimJoined
import GoSem.ClaimMapViews
import Derived.JoinedTies
import Derived.KernelRfl
namespace Go.Proofs.Ytlllfolajlfibaa
/- THE CELL 'sum', in the pinned program and in every row, IS THE sha256 OF THE DUMP (.gsa) THAT YtlllfolajlfibaaProg.lean LOADS. Nothing in Lean hashes anything: it is a label: what it is worth is what the hold of that sum in a sandbox is worth. -/
noncomputable def Try.pinned : Pinned := { name := "ytlllfolajlfibaa", sum := "f46a1af162682a2c31c1391221dfc68e3f5bab062e3d33bcdcc87a4aa527e70f", checked := Try.checked }
namespace Rows
def none {H : Type} : Left H := { results := [], args := [] }

/-- 'balerlaw04.LedgerPlays': WHATEVER THE INPUT: true; the input reads as it did. -/
def ledgerPlaysSpec : ChangeSpec := { name := "ledgerPlays", fn := fun _ => fun
  | [d1, d2] => { results := [.lit (.bool true)], args := [d1, d2] }
  | _ => none }
def ledgerPlaysRow : OpenClaim := { program := "ytlllfolajlfibaa", sum := "f46a1af162682a2c31c1391221dfc68e3f5bab062e3d33bcdcc87a4aa527e70f", func := "baler/balerlaw04.LedgerPlays", spec := "ledgerPlays", inPlace := ["sync/atomic.LoadInt64", "sync/atomic.CompareAndSwapInt64"], apart := false }
def LedgerPlaysSaid : Prop := ledgerPlaysRow.holds Try.pinned (OpenSpec.ofChange ledgerPlaysSpec)

/-- ITS FALSE NEIGHBOUR: 'it returns false'. Refute it at one input. -/
def ledgerPlaysWrong : ChangeSpec := { name := "ledgerPlays", fn := fun _ => fun
  | [d1, d2] => { results := [.lit (.bool false)], args := [d1, d2] }
  | _ => none }
def LedgerPlaysWrongFalsely : Prop := ledgerPlaysRow.holds Try.pinned (OpenSpec.ofChange ledgerPlaysWrong)

/-- 'balerlaw04.LedgerNil': WHATEVER THE INPUT: true; the input reads as it did. -/
def ledgerNilSpec : ChangeSpec := { name := "ledgerNil", fn := fun _ => fun
  | [d] => { results := [.lit (.bool true)], args := [d] }
  | _ => none }
def ledgerNilRow : OpenClaim := { program := "ytlllfolajlfibaa", sum := "f46a1af162682a2c31c1391221dfc68e3f5bab062e3d33bcdcc87a4aa527e70f", func := "baler/balerlaw04.LedgerNil", spec := "ledgerNil", inPlace := ["sync/atomic.LoadInt64", "sync/atomic.CompareAndSwapInt64"], apart := false }
def LedgerNilSaid : Prop := ledgerNilRow.holds Try.pinned (OpenSpec.ofChange ledgerNilSpec)

/-- ITS FALSE NEIGHBOUR: 'it returns false'. Refute it at one input. -/
def ledgerNilWrong : ChangeSpec := { name := "ledgerNil", fn := fun _ => fun
  | [d] => { results := [.lit (.bool false)], args := [d] }
  | _ => none }
def LedgerNilWrongFalsely : Prop := ledgerNilRow.holds Try.pinned (OpenSpec.ofChange ledgerNilWrong)

/-- 'balerlaw04.LedgerSum': WHATEVER THE INPUT: true; the input reads as it did. -/
def ledgerSumSpec : ChangeSpec := { name := "ledgerSum", fn := fun _ => fun
  | [d1, d2] => { results := [.lit (.bool true)], args := [d1, d2] }
  | _ => none }
def ledgerSumRow : OpenClaim := { program := "ytlllfolajlfibaa", sum := "f46a1af162682a2c31c1391221dfc68e3f5bab062e3d33bcdcc87a4aa527e70f", func := "baler/balerlaw04.LedgerSum", spec := "ledgerSum", inPlace := ["sync/atomic.LoadInt64", "sync/atomic.CompareAndSwapInt64"], apart := false }
def LedgerSumSaid : Prop := ledgerSumRow.holds Try.pinned (OpenSpec.ofChange ledgerSumSpec)

/-- ITS FALSE NEIGHBOUR: 'it returns false'. Refute it at one input. -/
def ledgerSumWrong : ChangeSpec := { name := "ledgerSum", fn := fun _ => fun
  | [d1, d2] => { results := [.lit (.bool false)], args := [d1, d2] }
  | _ => none }
def LedgerSumWrongFalsely : Prop := ledgerSumRow.holds Try.pinned (OpenSpec.ofChange ledgerSumWrong)

/-- 'balerlaw04.LedgerMany': WHATEVER THE INPUT: true; the input reads as it did. -/
def ledgerManySpec : ChangeSpec := { name := "ledgerMany", fn := fun _ => fun
  | [d1, d2, d3] => { results := [.lit (.bool true)], args := [d1, d2, d3] }
  | _ => none }
def ledgerManyRow : OpenClaim := { program := "ytlllfolajlfibaa", sum := "f46a1af162682a2c31c1391221dfc68e3f5bab062e3d33bcdcc87a4aa527e70f", func := "baler/balerlaw04.LedgerMany", spec := "ledgerMany", inPlace := ["sync/atomic.LoadInt64", "sync/atomic.CompareAndSwapInt64"], apart := false }
def LedgerManySaid : Prop := ledgerManyRow.holds Try.pinned (OpenSpec.ofChange ledgerManySpec)

/-- ITS FALSE NEIGHBOUR: 'it returns false'. Refute it at one input. -/
def ledgerManyWrong : ChangeSpec := { name := "ledgerMany", fn := fun _ => fun
  | [d1, d2, d3] => { results := [.lit (.bool false)], args := [d1, d2, d3] }
  | _ => none }
def LedgerManyWrongFalsely : Prop := ledgerManyRow.holds Try.pinned (OpenSpec.ofChange ledgerManyWrong)

/- THE SECOND FORM. 'bulk': how many values and letters a reading holds, each counted each time it is reached (what is shared counts as often as it is met; a slice's spare places count too). A statement '..UptoSaid' is the law's where the arguments, and the package variables that the reading takes, are together of bulk at most 1048576: NARROWER than '..Said'. Prove '..Said' where nothing that the law and all that it calls make is longer than what came in: it says more and counts as full. Else prove '..UptoSaid'. A law counts once. -/
mutual
def uptoBulk {H : Type} : DataW H → Nat
  | .lit (.string bytes) => bytes.length + 1
  | .lit _ => 1
  | .nil => 1
  | .ptr d => uptoBulk d + 1
  | .slice elems spare => uptoBulkAll elems + uptoBulkAll spare + 1
  | .agg parts => uptoBulkAll parts + 1
  | .iface _ d => uptoBulk d + 1
  | .map entries => uptoBulkEntries entries + 1
  | .held _ => 1
def uptoBulkAll {H : Type} : List (DataW H) → Nat
  | [] => 0
  | d :: r => uptoBulk d + uptoBulkAll r
def uptoBulkEntries {H : Type} : List (Lit × DataW H) → Nat
  | [] => 0
  | x :: r => uptoBulkEntry x + uptoBulkEntries r
def uptoBulkEntry {H : Type} : Lit × DataW H → Nat
  | (.string bytes, d) => bytes.length + uptoBulk d + 1
  | (_, d) => uptoBulk d + 1
 end
def uptoSmall : (H : Type) → List (DataW H) → Bool := fun _ ds => decide (uptoBulkAll ds ≤ 1048576)
def OpenSpec.upto (s : _root_.Go.ChangeSpec) : _root_.Go.OpenSpec := { _root_.Go.OpenSpec.ofChange s with cond := some uptoSmall }

/-- 'balerlaw04.LedgerPlays', WHERE WHAT IT READS IS OF BULK AT MOST 1048576: true; the input reads as it did. -/
def ledgerPlaysUptoRow : OpenClaim := { program := "ytlllfolajlfibaa", sum := "f46a1af162682a2c31c1391221dfc68e3f5bab062e3d33bcdcc87a4aa527e70f", func := "baler/balerlaw04.LedgerPlays", spec := "ledgerPlays", inPlace := ["sync/atomic.LoadInt64", "sync/atomic.CompareAndSwapInt64"], apart := false, narrowed := true }
def LedgerPlaysUptoSaid : Prop := ledgerPlaysUptoRow.holds Try.pinned (OpenSpec.upto ledgerPlaysSpec)

/-- 'balerlaw04.LedgerNil', WHERE WHAT IT READS IS OF BULK AT MOST 1048576: true; the input reads as it did. -/
def ledgerNilUptoRow : OpenClaim := { program := "ytlllfolajlfibaa", sum := "f46a1af162682a2c31c1391221dfc68e3f5bab062e3d33bcdcc87a4aa527e70f", func := "baler/balerlaw04.LedgerNil", spec := "ledgerNil", inPlace := ["sync/atomic.LoadInt64", "sync/atomic.CompareAndSwapInt64"], apart := false, narrowed := true }
def LedgerNilUptoSaid : Prop := ledgerNilUptoRow.holds Try.pinned (OpenSpec.upto ledgerNilSpec)

/-- 'balerlaw04.LedgerSum', WHERE WHAT IT READS IS OF BULK AT MOST 1048576: true; the input reads as it did. -/
def ledgerSumUptoRow : OpenClaim := { program := "ytlllfolajlfibaa", sum := "f46a1af162682a2c31c1391221dfc68e3f5bab062e3d33bcdcc87a4aa527e70f", func := "baler/balerlaw04.LedgerSum", spec := "ledgerSum", inPlace := ["sync/atomic.LoadInt64", "sync/atomic.CompareAndSwapInt64"], apart := false, narrowed := true }
def LedgerSumUptoSaid : Prop := ledgerSumUptoRow.holds Try.pinned (OpenSpec.upto ledgerSumSpec)

/-- 'balerlaw04.LedgerMany', WHERE WHAT IT READS IS OF BULK AT MOST 1048576: true; the input reads as it did. -/
def ledgerManyUptoRow : OpenClaim := { program := "ytlllfolajlfibaa", sum := "f46a1af162682a2c31c1391221dfc68e3f5bab062e3d33bcdcc87a4aa527e70f", func := "baler/balerlaw04.LedgerMany", spec := "ledgerMany", inPlace := ["sync/atomic.LoadInt64", "sync/atomic.CompareAndSwapInt64"], apart := false, narrowed := true }
def LedgerManyUptoSaid : Prop := ledgerManyUptoRow.holds Try.pinned (OpenSpec.upto ledgerManySpec)

end Rows
end Go.Proofs.Ytlllfolajlfibaa
