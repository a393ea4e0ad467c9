/-
  No cell of these rows narrows 'for every input' (looked for: loops, veiled, ifaces, maps, wideKeys, modest, calm, conditions, laid).
  DERIVED. THE GIVEN ROWS OF THIS SEAT. 4 by the template 'for every input the law returns true; each argument reads behind the call as it read before'; 0 by the template 'total and deterministic' (their statements: YtefbjamepbkklaaTotals.lean).
  GIVEN WITH THE SEED: the statements are not yours to turn. If you find one false, say at which input.
  Laid BY PROGRAM, IN A SANDBOX (cutbox-rows.mjs): the forced cells as the released guide's own fill.sh prints them over the translation 8fe5abb93ea0a3c9… (all of the seat's roots in one cut). By AI agents, Wed Nov 11 2026. No macro, syntax, notation, axiom, sorry.
-/
import Derived.Test.YtefbjamepbkklaaChecked
import GoSem.Claim
import GoSem.ClaimJoined
import GoSem.ClaimMapViews
import Derived.JoinedTies
import Derived.KernelRfl
namespace Go.Proofs.Ytefbjamepbkklaa
/- THE CELL 'sum', in the pinned program and in every row, IS THE sha256 OF THE DUMP (.gsa) THAT YtefbjamepbkklaaProg.lean LOADS. Nothing in Lean hashes anything: it is a label: what it is worth is what the hold of that sum in a sandbox is worth. -/
noncomputable def Try.pinned : Pinned := { name := "ytefbjamepbkklaa", sum := "8fe5abb93ea0a3c9090fd6a139d22ec75081db064cfe60fc0dfe113cdefc1726", checked := Try.checked }
namespace Rows
def none {H : Type} : Left H := { results := [], args := [] }

/-- 'balerlaw16.Lzma2Back': WHATEVER THE INPUT: true; the input reads as it did. -/
def lzma2BackSpec : ChangeSpec := { name := "lzma2Back", fn := fun _ => fun
  | [d1, d2, d3] => { results := [.lit (.bool true)], args := [d1, d2, d3] }
  | _ => none }
def lzma2BackRow : OpenClaim := { program := "ytefbjamepbkklaa", sum := "8fe5abb93ea0a3c9090fd6a139d22ec75081db064cfe60fc0dfe113cdefc1726", func := "baler/balerlaw16.Lzma2Back", spec := "lzma2Back", inPlace := ["sync/atomic.LoadInt64", "sync/atomic.CompareAndSwapInt64"], unfollowed := true, recurses := true, apart := false }
def Lzma2BackSaid : Prop := lzma2BackRow.holds Try.pinned (OpenSpec.ofChange lzma2BackSpec)

/-- ITS FALSE NEIGHBOUR: 'it returns false'. Refute it at one input. -/
def lzma2BackWrong : ChangeSpec := { name := "lzma2Back", fn := fun _ => fun
  | [d1, d2, d3] => { results := [.lit (.bool false)], args := [d1, d2, d3] }
  | _ => none }
def Lzma2BackWrongFalsely : Prop := lzma2BackRow.holds Try.pinned (OpenSpec.ofChange lzma2BackWrong)

/-- 'balerlaw16.Lzma2Small': WHATEVER THE INPUT: true; the input reads as it did. -/
def lzma2SmallSpec : ChangeSpec := { name := "lzma2Small", fn := fun _ => fun
  | [d1, d2, d3] => { results := [.lit (.bool true)], args := [d1, d2, d3] }
  | _ => none }
def lzma2SmallRow : OpenClaim := { program := "ytefbjamepbkklaa", sum := "8fe5abb93ea0a3c9090fd6a139d22ec75081db064cfe60fc0dfe113cdefc1726", func := "baler/balerlaw16.Lzma2Small", spec := "lzma2Small", inPlace := ["sync/atomic.LoadInt64", "sync/atomic.CompareAndSwapInt64"], unfollowed := true, recurses := true, apart := false }
def Lzma2SmallSaid : Prop := lzma2SmallRow.holds Try.pinned (OpenSpec.ofChange lzma2SmallSpec)

/-- ITS FALSE NEIGHBOUR: 'it returns false'. Refute it at one input. -/
def lzma2SmallWrong : ChangeSpec := { name := "lzma2Small", fn := fun _ => fun
  | [d1, d2, d3] => { results := [.lit (.bool false)], args := [d1, d2, d3] }
  | _ => none }
def Lzma2SmallWrongFalsely : Prop := lzma2SmallRow.holds Try.pinned (OpenSpec.ofChange lzma2SmallWrong)

/-- 'balerlaw16.Lzma2Cut': WHATEVER THE INPUT: true; the input reads as it did. -/
def lzma2CutSpec : ChangeSpec := { name := "lzma2Cut", fn := fun _ => fun
  | [d1, d2, d3] => { results := [.lit (.bool true)], args := [d1, d2, d3] }
  | _ => none }
def lzma2CutRow : OpenClaim := { program := "ytefbjamepbkklaa", sum := "8fe5abb93ea0a3c9090fd6a139d22ec75081db064cfe60fc0dfe113cdefc1726", func := "baler/balerlaw16.Lzma2Cut", spec := "lzma2Cut", inPlace := ["sync/atomic.LoadInt64", "sync/atomic.CompareAndSwapInt64"], unfollowed := true, recurses := true, apart := false }
def Lzma2CutSaid : Prop := lzma2CutRow.holds Try.pinned (OpenSpec.ofChange lzma2CutSpec)

/-- ITS FALSE NEIGHBOUR: 'it returns false'. Refute it at one input. -/
def lzma2CutWrong : ChangeSpec := { name := "lzma2Cut", fn := fun _ => fun
  | [d1, d2, d3] => { results := [.lit (.bool false)], args := [d1, d2, d3] }
  | _ => none }
def Lzma2CutWrongFalsely : Prop := lzma2CutRow.holds Try.pinned (OpenSpec.ofChange lzma2CutWrong)

/-- 'balerlaw16.Lzma2Sizes': WHATEVER THE INPUT: true; the input reads as it did. -/
def lzma2SizesSpec : ChangeSpec := { name := "lzma2Sizes", fn := fun _ => fun
  | [d1, d2] => { results := [.lit (.bool true)], args := [d1, d2] }
  | _ => none }
def lzma2SizesRow : OpenClaim := { program := "ytefbjamepbkklaa", sum := "8fe5abb93ea0a3c9090fd6a139d22ec75081db064cfe60fc0dfe113cdefc1726", func := "baler/balerlaw16.Lzma2Sizes", spec := "lzma2Sizes", inPlace := ["sync/atomic.LoadInt64", "sync/atomic.CompareAndSwapInt64"], unfollowed := true, recurses := true, apart := false }
def Lzma2SizesSaid : Prop := lzma2SizesRow.holds Try.pinned (OpenSpec.ofChange lzma2SizesSpec)

/-- ITS FALSE NEIGHBOUR: 'it returns false'. Refute it at one input. -/
def lzma2SizesWrong : ChangeSpec := { name := "lzma2Sizes", fn := fun _ => fun
  | [d1, d2] => { results := [.lit (.bool false)], args := [d1, d2] }
  | _ => none }
def Lzma2SizesWrongFalsely : Prop := lzma2SizesRow.holds Try.pinned (OpenSpec.ofChange lzma2SizesWrong)

/- THE SECOND FORM. 'bulk': how many values and letters a reading holds, each counted each time it is reached (what is shared counts as often as it is met; a slice's spare places count too). A statement '..UptoSaid' is the law's where the arguments, and the package variables that the reading takes, are together of bulk at most 1048576: NARROWER than '..Said'. Prove '..Said' where nothing that the law and all that it calls make is longer than what came in: it says more and counts as full. Else prove '..UptoSaid'. A law counts once. -/
mutual
def uptoBulk {H : Type} : DataW H → Nat
  | .lit (.string bytes) => bytes.length + 1
  | .lit _ => 1
  | .nil => 1
  | .ptr d => uptoBulk d + 1
  | .slice elems spare => uptoBulkAll elems + uptoBulkAll spare + 1
  | .agg parts => uptoBulkAll parts + 1
  | .iface _ d => uptoBulk d + 1
  | .map entries => uptoBulkEntries entries + 1
  | .held _ => 1
def uptoBulkAll {H : Type} : List (DataW H) → Nat
  | [] => 0
  | d :: r => uptoBulk d + uptoBulkAll r
def uptoBulkEntries {H : Type} : List (Lit × DataW H) → Nat
  | [] => 0
  | x :: r => uptoBulkEntry x + uptoBulkEntries r
def uptoBulkEntry {H : Type} : Lit × DataW H → Nat
  | (.string bytes, d) => bytes.length + uptoBulk d + 1
  | (_, d) => uptoBulk d + 1
 end
def uptoSmall : (H : Type) → List (DataW H) → Bool := fun _ ds => decide (uptoBulkAll ds ≤ 1048576)
def OpenSpec.upto (s : _root_.Go.ChangeSpec) : _root_.Go.OpenSpec := { _root_.Go.OpenSpec.ofChange s with cond := some uptoSmall }

/-- 'balerlaw16.Lzma2Back', WHERE WHAT IT READS IS OF BULK AT MOST 1048576: true; the input reads as it did. -/
def lzma2BackUptoRow : OpenClaim := { program := "ytefbjamepbkklaa", sum := "8fe5abb93ea0a3c9090fd6a139d22ec75081db064cfe60fc0dfe113cdefc1726", func := "baler/balerlaw16.Lzma2Back", spec := "lzma2Back", inPlace := ["sync/atomic.LoadInt64", "sync/atomic.CompareAndSwapInt64"], unfollowed := true, recurses := true, apart := false, narrowed := true }
def Lzma2BackUptoSaid : Prop := lzma2BackUptoRow.holds Try.pinned (OpenSpec.upto lzma2BackSpec)

/-- 'balerlaw16.Lzma2Small', WHERE WHAT IT READS IS OF BULK AT MOST 1048576: true; the input reads as it did. -/
def lzma2SmallUptoRow : OpenClaim := { program := "ytefbjamepbkklaa", sum := "8fe5abb93ea0a3c9090fd6a139d22ec75081db064cfe60fc0dfe113cdefc1726", func := "baler/balerlaw16.Lzma2Small", spec := "lzma2Small", inPlace := ["sync/atomic.LoadInt64", "sync/atomic.CompareAndSwapInt64"], unfollowed := true, recurses := true, apart := false, narrowed := true }
def Lzma2SmallUptoSaid : Prop := lzma2SmallUptoRow.holds Try.pinned (OpenSpec.upto lzma2SmallSpec)

/-- 'balerlaw16.Lzma2Cut', WHERE WHAT IT READS IS OF BULK AT MOST 1048576: true; the input reads as it did. -/
def lzma2CutUptoRow : OpenClaim := { program := "ytefbjamepbkklaa", sum := "8fe5abb93ea0a3c9090fd6a139d22ec75081db064cfe60fc0dfe113cdefc1726", func := "baler/balerlaw16.Lzma2Cut", spec := "lzma2Cut", inPlace := ["sync/atomic.LoadInt64", "sync/atomic.CompareAndSwapInt64"], unfollowed := true, recurses := true, apart := false, narrowed := true }
def Lzma2CutUptoSaid : Prop := lzma2CutUptoRow.holds Try.pinned (OpenSpec.upto lzma2CutSpec)

/-- 'balerlaw16.Lzma2Sizes', WHERE WHAT IT READS IS OF BULK AT MOST 1048576: true; the input reads as it did. -/
def lzma2SizesUptoRow : OpenClaim := { program := "ytefbjamepbkklaa", sum := "8fe5abb93ea0a3c9090fd6a139d22ec75081db064cfe60fc0dfe113cdefc1726", func := "baler/balerlaw16.Lzma2Sizes", spec := "lzma2Sizes", inPlace := ["sync/atomic.LoadInt64", "sync/atomic.CompareAndSwapInt64"], unfollowed := true, recurses := true, apart := false, narrowed := true }
def Lzma2SizesUptoSaid : Prop := lzma2SizesUptoRow.holds Try.pinned (OpenSpec.upto lzma2SizesSpec)

end Rows
end Go.Proofs.Ytefbjamepbkklaa
