/-
  No cell of these rows narrows 'for every input' (looked for: loops, veiled, ifaces, maps, wideKeys, modest, calm, conditions, laid).
  DERIVED. THE GIVEN ROWS OF THIS SEAT. 3 by the template 'for every input the law returns true; each argument reads behind the call as it read before'; 0 by the template 'total and deterministic' (their statements: YteghpnlamdgpnaaTotals.lean).
  GIVEN WITH THE SEED: the statements are not yours to turn. If you find one false, say at which input.
  Laid BY PROGRAM, IN A SANDBOX (cutbox-rows.mjs): the forced cells as the released guide's own fill.sh prints them over the translation 9598a1256b089aef… (all of the seat's roots in one cut). By AI agents, Wed Nov 11 2026. No macro, syntax, notation, axiom, sorry.
-/
import Derived.Test.YteghpnlamdgpnaaChecked
import GoSem.Claim
import GoSem.ClaimJoined
import GoSem.ClaimMapViews
import Derived.JoinedTies
import Derived.KernelRfl
namespace Go.Proofs.Yteghpnlamdgpnaa
/- THE CELL 'sum', in the pinned program and in every row, IS THE sha256 OF THE DUMP (.gsa) THAT YteghpnlamdgpnaaProg.lean LOADS. Nothing in Lean hashes anything: it is a label: what it is worth is what the hold of that sum in a sandbox is worth. -/
noncomputable def Try.pinned : Pinned := { name := "yteghpnlamdgpnaa", sum := "9598a1256b089aef1db07b56ab60f22b0276da94f5d14bd92abb774ec78cd304", checked := Try.checked }
namespace Rows
def none {H : Type} : Left H := { results := [], args := [] }

/-- 'balerlaw12.LzmaNil': WHATEVER THE INPUT: true; the input reads as it did. -/
def lzmaNilSpec : ChangeSpec := { name := "lzmaNil", fn := fun _ => fun
  | [d1, d2, d3] => { results := [.lit (.bool true)], args := [d1, d2, d3] }
  | _ => none }
def lzmaNilRow : OpenClaim := { program := "yteghpnlamdgpnaa", sum := "9598a1256b089aef1db07b56ab60f22b0276da94f5d14bd92abb774ec78cd304", func := "baler/balerlaw12.LzmaNil", spec := "lzmaNil", inPlace := ["sync/atomic.LoadInt64", "sync/atomic.CompareAndSwapInt64"], unfollowed := true, recurses := true, apart := false }
def LzmaNilSaid : Prop := lzmaNilRow.holds Try.pinned (OpenSpec.ofChange lzmaNilSpec)

/-- ITS FALSE NEIGHBOUR: 'it returns false'. Refute it at one input. -/
def lzmaNilWrong : ChangeSpec := { name := "lzmaNil", fn := fun _ => fun
  | [d1, d2, d3] => { results := [.lit (.bool false)], args := [d1, d2, d3] }
  | _ => none }
def LzmaNilWrongFalsely : Prop := lzmaNilRow.holds Try.pinned (OpenSpec.ofChange lzmaNilWrong)

/-- 'balerlaw12.LzmaPlain': WHATEVER THE INPUT: true; the input reads as it did. -/
def lzmaPlainSpec : ChangeSpec := { name := "lzmaPlain", fn := fun _ => fun
  | [d] => { results := [.lit (.bool true)], args := [d] }
  | _ => none }
def lzmaPlainRow : OpenClaim := { program := "yteghpnlamdgpnaa", sum := "9598a1256b089aef1db07b56ab60f22b0276da94f5d14bd92abb774ec78cd304", func := "baler/balerlaw12.LzmaPlain", spec := "lzmaPlain", inPlace := ["sync/atomic.LoadInt64", "sync/atomic.CompareAndSwapInt64"], unfollowed := true, recurses := true, apart := false }
def LzmaPlainSaid : Prop := lzmaPlainRow.holds Try.pinned (OpenSpec.ofChange lzmaPlainSpec)

/-- ITS FALSE NEIGHBOUR: 'it returns false'. Refute it at one input. -/
def lzmaPlainWrong : ChangeSpec := { name := "lzmaPlain", fn := fun _ => fun
  | [d] => { results := [.lit (.bool false)], args := [d] }
  | _ => none }
def LzmaPlainWrongFalsely : Prop := lzmaPlainRow.holds Try.pinned (OpenSpec.ofChange lzmaPlainWrong)

/-- 'balerlaw12.LzmaExact': WHATEVER THE INPUT: true; the input reads as it did. -/
def lzmaExactSpec : ChangeSpec := { name := "lzmaExact", fn := fun _ => fun
  | [d1, d2, d3] => { results := [.lit (.bool true)], args := [d1, d2, d3] }
  | _ => none }
def lzmaExactRow : OpenClaim := { program := "yteghpnlamdgpnaa", sum := "9598a1256b089aef1db07b56ab60f22b0276da94f5d14bd92abb774ec78cd304", func := "baler/balerlaw12.LzmaExact", spec := "lzmaExact", inPlace := ["sync/atomic.LoadInt64", "sync/atomic.CompareAndSwapInt64"], unfollowed := true, recurses := true, apart := false }
def LzmaExactSaid : Prop := lzmaExactRow.holds Try.pinned (OpenSpec.ofChange lzmaExactSpec)

/-- ITS FALSE NEIGHBOUR: 'it returns false'. Refute it at one input. -/
def lzmaExactWrong : ChangeSpec := { name := "lzmaExact", fn := fun _ => fun
  | [d1, d2, d3] => { results := [.lit (.bool false)], args := [d1, d2, d3] }
  | _ => none }
def LzmaExactWrongFalsely : Prop := lzmaExactRow.holds Try.pinned (OpenSpec.ofChange lzmaExactWrong)

/- THE SECOND FORM. 'bulk': how many values and letters a reading holds, each counted each time it is reached (what is shared counts as often as it is met; a slice's spare places count too). A statement '..UptoSaid' is the law's where the arguments, and the package variables that the reading takes, are together of bulk at most 1048576: NARROWER than '..Said'. Prove '..Said' where nothing that the law and all that it calls make is longer than what came in: it says more and counts as full. Else prove '..UptoSaid'. A law counts once. -/
mutual
def uptoBulk {H : Type} : DataW H → Nat
  | .lit (.string bytes) => bytes.length + 1
  | .lit _ => 1
  | .nil => 1
  | .ptr d => uptoBulk d + 1
  | .slice elems spare => uptoBulkAll elems + uptoBulkAll spare + 1
  | .agg parts => uptoBulkAll parts + 1
  | .iface _ d => uptoBulk d + 1
  | .map entries => uptoBulkEntries entries + 1
  | .held _ => 1
def uptoBulkAll {H : Type} : List (DataW H) → Nat
  | [] => 0
  | d :: r => uptoBulk d + uptoBulkAll r
def uptoBulkEntries {H : Type} : List (Lit × DataW H) → Nat
  | [] => 0
  | x :: r => uptoBulkEntry x + uptoBulkEntries r
def uptoBulkEntry {H : Type} : Lit × DataW H → Nat
  | (.string bytes, d) => bytes.length + uptoBulk d + 1
  | (_, d) => uptoBulk d + 1
 end
def uptoSmall : (H : Type) → List (DataW H) → Bool := fun _ ds => decide (uptoBulkAll ds ≤ 1048576)
def OpenSpec.upto (s : _root_.Go.ChangeSpec) : _root_.Go.OpenSpec := { _root_.Go.OpenSpec.ofChange s with cond := some uptoSmall }

/-- 'balerlaw12.LzmaNil', WHERE WHAT IT READS IS OF BULK AT MOST 1048576: true; the input reads as it did. -/
def lzmaNilUptoRow : OpenClaim := { program := "yteghpnlamdgpnaa", sum := "9598a1256b089aef1db07b56ab60f22b0276da94f5d14bd92abb774ec78cd304", func := "baler/balerlaw12.LzmaNil", spec := "lzmaNil", inPlace := ["sync/atomic.LoadInt64", "sync/atomic.CompareAndSwapInt64"], unfollowed := true, recurses := true, apart := false, narrowed := true }
def LzmaNilUptoSaid : Prop := lzmaNilUptoRow.holds Try.pinned (OpenSpec.upto lzmaNilSpec)

/-- 'balerlaw12.LzmaPlain', WHERE WHAT IT READS IS OF BULK AT MOST 1048576: true; the input reads as it did. -/
def lzmaPlainUptoRow : OpenClaim := { program := "yteghpnlamdgpnaa", sum := "9598a1256b089aef1db07b56ab60f22b0276da94f5d14bd92abb774ec78cd304", func := "baler/balerlaw12.LzmaPlain", spec := "lzmaPlain", inPlace := ["sync/atomic.LoadInt64", "sync/atomic.CompareAndSwapInt64"], unfollowed := true, recurses := true, apart := false, narrowed := true }
def LzmaPlainUptoSaid : Prop := lzmaPlainUptoRow.holds Try.pinned (OpenSpec.upto lzmaPlainSpec)

/-- 'balerlaw12.LzmaExact', WHERE WHAT IT READS IS OF BULK AT MOST 1048576: true; the input reads as it did. -/
def lzmaExactUptoRow : OpenClaim := { program := "yteghpnlamdgpnaa", sum := "9598a1256b089aef1db07b56ab60f22b0276da94f5d14bd92abb774ec78cd304", func := "baler/balerlaw12.LzmaExact", spec := "lzmaExact", inPlace := ["sync/atomic.LoadInt64", "sync/atomic.CompareAndSwapInt64"], unfollowed := true, recurses := true, apart := false, narrowed := true }
def LzmaExactUptoSaid : Prop := lzmaExactUptoRow.holds Try.pinned (OpenSpec.upto lzmaExactSpec)

end Rows
end Go.Proofs.Yteghpnlamdgpnaa
