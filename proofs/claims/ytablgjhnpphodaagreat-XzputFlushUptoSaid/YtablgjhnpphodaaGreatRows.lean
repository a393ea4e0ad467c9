/-
  No cell of these rows narrows 'for every input' (looked for: loops, veiled, ifaces, maps, wideKeys, modest, calm, conditions, laid).
  DERIVED. THE GIVEN ROWS OF THIS SEAT. 5 by the template 'for every input the law returns true; each argument reads behind the call as it read before'; 0 by the template 'total and deterministic' (their statements: YtablgjhnpphodaaGreatTotals.lean).
  GIVEN WITH THE SEED: the statements are not yours to turn. If you find one false, say at which input.
  Laid BY PROGRAM, IN A SANDBOX (cutbox-rows.mjs): the forced cells as the released guide's own fill.sh prints them over the translation f42f957f8faecf9c… (all of the seat's roots in one cut). By AI agents, Wed Nov 11 2026. No macro, syntax, notation, axiom, sorry.
-/
import Derived.Test.YtablgjhnpphodaaGreatChecked
import GoSem.Claim
import GoSem.ClaimJoined
import GoSem.ClaimMapViews
import Derived.JoinedTies
import Derived.KernelRfl
namespace Go.Proofs.YtablgjhnpphodaaGreat
/- THE CELL 'sum', in the pinned program and in every row, IS THE sha256 OF THE DUMP (.gsa) THAT YtablgjhnpphodaaGreatProg.lean LOADS. Nothing in Lean hashes anything: it is a label: what it is worth is what the hold of that sum in a sandbox is worth. -/
noncomputable def Tryz.pinned : Pinned := { name := "ytablgjhnpphodaagreat", sum := "f42f957f8faecf9cf909cdf287c7bc505b2352855eefb137000e70bea3390054", checked := Tryz.checked }
namespace Rows
def none {H : Type} : Left H := { results := [], args := [] }

/-- 'balerlaw22.XzputFlush': WHATEVER THE INPUT: true; the input reads as it did. -/
def xzputFlushSpec : ChangeSpec := { name := "xzputFlush", fn := fun _ => fun
  | [d1, d2] => { results := [.lit (.bool true)], args := [d1, d2] }
  | _ => none }
def xzputFlushRow : OpenClaim := { program := "ytablgjhnpphodaagreat", sum := "f42f957f8faecf9cf909cdf287c7bc505b2352855eefb137000e70bea3390054", func := "baler/balerlaw22.XzputFlush", spec := "xzputFlush", inPlace := ["sync/atomic.LoadInt64", "sync/atomic.CompareAndSwapInt64"], unfollowed := true, recurses := true, apart := false }
def XzputFlushSaid : Prop := xzputFlushRow.holds Tryz.pinned (OpenSpec.ofChange xzputFlushSpec)

/-- ITS FALSE NEIGHBOUR: 'it returns false'. Refute it at one input. -/
def xzputFlushWrong : ChangeSpec := { name := "xzputFlush", fn := fun _ => fun
  | [d1, d2] => { results := [.lit (.bool false)], args := [d1, d2] }
  | _ => none }
def XzputFlushWrongFalsely : Prop := xzputFlushRow.holds Tryz.pinned (OpenSpec.ofChange xzputFlushWrong)

/-- 'balerlaw22.XzputSmall': WHATEVER THE INPUT: true; the input reads as it did. -/
def xzputSmallSpec : ChangeSpec := { name := "xzputSmall", fn := fun _ => fun
  | [d1, d2] => { results := [.lit (.bool true)], args := [d1, d2] }
  | _ => none }
def xzputSmallRow : OpenClaim := { program := "ytablgjhnpphodaagreat", sum := "f42f957f8faecf9cf909cdf287c7bc505b2352855eefb137000e70bea3390054", func := "baler/balerlaw22.XzputSmall", spec := "xzputSmall", inPlace := ["sync/atomic.LoadInt64", "sync/atomic.CompareAndSwapInt64"], unfollowed := true, recurses := true, apart := false }
def XzputSmallSaid : Prop := xzputSmallRow.holds Tryz.pinned (OpenSpec.ofChange xzputSmallSpec)

/-- ITS FALSE NEIGHBOUR: 'it returns false'. Refute it at one input. -/
def xzputSmallWrong : ChangeSpec := { name := "xzputSmall", fn := fun _ => fun
  | [d1, d2] => { results := [.lit (.bool false)], args := [d1, d2] }
  | _ => none }
def XzputSmallWrongFalsely : Prop := xzputSmallRow.holds Tryz.pinned (OpenSpec.ofChange xzputSmallWrong)

/-- 'balerlaw22.XzputClosed': WHATEVER THE INPUT: true; the input reads as it did. -/
def xzputClosedSpec : ChangeSpec := { name := "xzputClosed", fn := fun _ => fun
  | [d1, d2] => { results := [.lit (.bool true)], args := [d1, d2] }
  | _ => none }
def xzputClosedRow : OpenClaim := { program := "ytablgjhnpphodaagreat", sum := "f42f957f8faecf9cf909cdf287c7bc505b2352855eefb137000e70bea3390054", func := "baler/balerlaw22.XzputClosed", spec := "xzputClosed", inPlace := ["sync/atomic.LoadInt64", "sync/atomic.CompareAndSwapInt64"], unfollowed := true, recurses := true, apart := false }
def XzputClosedSaid : Prop := xzputClosedRow.holds Tryz.pinned (OpenSpec.ofChange xzputClosedSpec)

/-- ITS FALSE NEIGHBOUR: 'it returns false'. Refute it at one input. -/
def xzputClosedWrong : ChangeSpec := { name := "xzputClosed", fn := fun _ => fun
  | [d1, d2] => { results := [.lit (.bool false)], args := [d1, d2] }
  | _ => none }
def XzputClosedWrongFalsely : Prop := xzputClosedRow.holds Tryz.pinned (OpenSpec.ofChange xzputClosedWrong)

/-- 'balerlaw22.XzputOwn': WHATEVER THE INPUT: true; the input reads as it did. -/
def xzputOwnSpec : ChangeSpec := { name := "xzputOwn", fn := fun _ => fun
  | [d1, d2, d3] => { results := [.lit (.bool true)], args := [d1, d2, d3] }
  | _ => none }
def xzputOwnRow : OpenClaim := { program := "ytablgjhnpphodaagreat", sum := "f42f957f8faecf9cf909cdf287c7bc505b2352855eefb137000e70bea3390054", func := "baler/balerlaw22.XzputOwn", spec := "xzputOwn", inPlace := ["sync/atomic.LoadInt64", "sync/atomic.CompareAndSwapInt64"], unfollowed := true, recurses := true, apart := false }
def XzputOwnSaid : Prop := xzputOwnRow.holds Tryz.pinned (OpenSpec.ofChange xzputOwnSpec)

/-- ITS FALSE NEIGHBOUR: 'it returns false'. Refute it at one input. -/
def xzputOwnWrong : ChangeSpec := { name := "xzputOwn", fn := fun _ => fun
  | [d1, d2, d3] => { results := [.lit (.bool false)], args := [d1, d2, d3] }
  | _ => none }
def XzputOwnWrongFalsely : Prop := xzputOwnRow.holds Tryz.pinned (OpenSpec.ofChange xzputOwnWrong)

/-- 'balerlaw22.XzputBack': WHATEVER THE INPUT: true; the input reads as it did. -/
def xzputBackSpec : ChangeSpec := { name := "xzputBack", fn := fun _ => fun
  | [d1, d2] => { results := [.lit (.bool true)], args := [d1, d2] }
  | _ => none }
def xzputBackRow : OpenClaim := { program := "ytablgjhnpphodaagreat", sum := "f42f957f8faecf9cf909cdf287c7bc505b2352855eefb137000e70bea3390054", func := "baler/balerlaw22.XzputBack", spec := "xzputBack", inPlace := ["sync/atomic.LoadInt64", "sync/atomic.CompareAndSwapInt64"], unfollowed := true, recurses := true, apart := false }
def XzputBackSaid : Prop := xzputBackRow.holds Tryz.pinned (OpenSpec.ofChange xzputBackSpec)

/-- ITS FALSE NEIGHBOUR: 'it returns false'. Refute it at one input. -/
def xzputBackWrong : ChangeSpec := { name := "xzputBack", fn := fun _ => fun
  | [d1, d2] => { results := [.lit (.bool false)], args := [d1, d2] }
  | _ => none }
def XzputBackWrongFalsely : Prop := xzputBackRow.holds Tryz.pinned (OpenSpec.ofChange xzputBackWrong)

/- THE SECOND FORM. 'bulk': how many values and letters a reading holds, each counted each time it is reached (what is shared counts as often as it is met; a slice's spare places count too). A statement '..UptoSaid' is the law's where the arguments, and the package variables that the reading takes, are together of bulk at most 1048576: NARROWER than '..Said'. Prove '..Said' where nothing that the law and all that it calls make is longer than what came in: it says more and counts as full. Else prove '..UptoSaid'. A law counts once. -/
mutual
def uptoBulk {H : Type} : DataW H → Nat
  | .lit (.string bytes) => bytes.length + 1
  | .lit _ => 1
  | .nil => 1
  | .ptr d => uptoBulk d + 1
  | .slice elems spare => uptoBulkAll elems + uptoBulkAll spare + 1
  | .agg parts => uptoBulkAll parts + 1
  | .iface _ d => uptoBulk d + 1
  | .map entries => uptoBulkEntries entries + 1
  | .held _ => 1
def uptoBulkAll {H : Type} : List (DataW H) → Nat
  | [] => 0
  | d :: r => uptoBulk d + uptoBulkAll r
def uptoBulkEntries {H : Type} : List (Lit × DataW H) → Nat
  | [] => 0
  | x :: r => uptoBulkEntry x + uptoBulkEntries r
def uptoBulkEntry {H : Type} : Lit × DataW H → Nat
  | (.string bytes, d) => bytes.length + uptoBulk d + 1
  | (_, d) => uptoBulk d + 1
 end
def uptoSmall : (H : Type) → List (DataW H) → Bool := fun _ ds => decide (uptoBulkAll ds ≤ 1048576)
def OpenSpec.upto (s : _root_.Go.ChangeSpec) : _root_.Go.OpenSpec := { _root_.Go.OpenSpec.ofChange s with cond := some uptoSmall }

/-- 'balerlaw22.XzputFlush', WHERE WHAT IT READS IS OF BULK AT MOST 1048576: true; the input reads as it did. -/
def xzputFlushUptoRow : OpenClaim := { program := "ytablgjhnpphodaagreat", sum := "f42f957f8faecf9cf909cdf287c7bc505b2352855eefb137000e70bea3390054", func := "baler/balerlaw22.XzputFlush", spec := "xzputFlush", inPlace := ["sync/atomic.LoadInt64", "sync/atomic.CompareAndSwapInt64"], unfollowed := true, recurses := true, apart := false, narrowed := true }
def XzputFlushUptoSaid : Prop := xzputFlushUptoRow.holds Tryz.pinned (OpenSpec.upto xzputFlushSpec)

/-- 'balerlaw22.XzputSmall', WHERE WHAT IT READS IS OF BULK AT MOST 1048576: true; the input reads as it did. -/
def xzputSmallUptoRow : OpenClaim := { program := "ytablgjhnpphodaagreat", sum := "f42f957f8faecf9cf909cdf287c7bc505b2352855eefb137000e70bea3390054", func := "baler/balerlaw22.XzputSmall", spec := "xzputSmall", inPlace := ["sync/atomic.LoadInt64", "sync/atomic.CompareAndSwapInt64"], unfollowed := true, recurses := true, apart := false, narrowed := true }
def XzputSmallUptoSaid : Prop := xzputSmallUptoRow.holds Tryz.pinned (OpenSpec.upto xzputSmallSpec)

/-- 'balerlaw22.XzputClosed', WHERE WHAT IT READS IS OF BULK AT MOST 1048576: true; the input reads as it did. -/
def xzputClosedUptoRow : OpenClaim := { program := "ytablgjhnpphodaagreat", sum := "f42f957f8faecf9cf909cdf287c7bc505b2352855eefb137000e70bea3390054", func := "baler/balerlaw22.XzputClosed", spec := "xzputClosed", inPlace := ["sync/atomic.LoadInt64", "sync/atomic.CompareAndSwapInt64"], unfollowed := true, recurses := true, apart := false, narrowed := true }
def XzputClosedUptoSaid : Prop := xzputClosedUptoRow.holds Tryz.pinned (OpenSpec.upto xzputClosedSpec)

/-- 'balerlaw22.XzputOwn', WHERE WHAT IT READS IS OF BULK AT MOST 1048576: true; the input reads as it did. -/
def xzputOwnUptoRow : OpenClaim := { program := "ytablgjhnpphodaagreat", sum := "f42f957f8faecf9cf909cdf287c7bc505b2352855eefb137000e70bea3390054", func := "baler/balerlaw22.XzputOwn", spec := "xzputOwn", inPlace := ["sync/atomic.LoadInt64", "sync/atomic.CompareAndSwapInt64"], unfollowed := true, recurses := true, apart := false, narrowed := true }
def XzputOwnUptoSaid : Prop := xzputOwnUptoRow.holds Tryz.pinned (OpenSpec.upto xzputOwnSpec)

/-- 'balerlaw22.XzputBack', WHERE WHAT IT READS IS OF BULK AT MOST 1048576: true; the input reads as it did. -/
def xzputBackUptoRow : OpenClaim := { program := "ytablgjhnpphodaagreat", sum := "f42f957f8faecf9cf909cdf287c7bc505b2352855eefb137000e70bea3390054", func := "baler/balerlaw22.XzputBack", spec := "xzputBack", inPlace := ["sync/atomic.LoadInt64", "sync/atomic.CompareAndSwapInt64"], unfollowed := true, recurses := true, apart := false, narrowed := true }
def XzputBackUptoSaid : Prop := xzputBackUptoRow.holds Tryz.pinned (OpenSpec.upto xzputBackSpec)

end Rows
end Go.Proofs.YtablgjhnpphodaaGreat
