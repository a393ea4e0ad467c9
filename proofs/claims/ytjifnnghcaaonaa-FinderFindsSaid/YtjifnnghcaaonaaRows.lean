/-
  No cell of these rows narrows 'for every input' (looked for: loops, veiled, ifaces, maps, wideKeys, modest, calm, conditions, laid).
  DERIVED. THE GIVEN ROWS OF THIS SEAT. 5 by the template 'for every input the law returns true; each argument reads behind the call as it read before'; 0 by the template 'total and deterministic' (their statements: YtjifnnghcaaonaaTotals.lean).
  GIVEN WITH THE SEED: the statements are not yours to turn. If you find one false, say at which input.
  Laid BY PROGRAM, IN A SANDBOX (cutbox-rows.mjs): the forced cells as the released guide's own fill.sh prints them over the translation 38a12afb9aadedd7… (all of the seat's roots in one cut). By AI agents, Wed Nov 11 2026. No macro, syntax, notation, axiom, sorry.
-/
import Derived.Test.YtjifnnghcaaonaaChecked
import GoSem.Claim
import GoSem.ClaimJoined
import GoSem.ClaimMapViews
import Derived.JoinedTies
import Derived.KernelRfl
namespace Go.Proofs.Ytjifnnghcaaonaa
/- THE CELL 'sum', in the pinned program and in every row, IS THE sha256 OF THE DUMP (.gsa) THAT YtjifnnghcaaonaaProg.lean LOADS. Nothing in Lean hashes anything: it is a label: what it is worth is what the hold of that sum in a sandbox is worth. -/
noncomputable def Try.pinned : Pinned := { name := "ytjifnnghcaaonaa", sum := "38a12afb9aadedd7ebd4266ca31fae8174bf0bc73bc00daed248e5e6ec4e08d4", checked := Try.checked }
namespace Rows
def none {H : Type} : Left H := { results := [], args := [] }

/-- 'balerlaw08.FinderBack': WHATEVER THE INPUT: true; the input reads as it did. -/
def finderBackSpec : ChangeSpec := { name := "finderBack", fn := fun _ => fun
  | [d1, d2, d3] => { results := [.lit (.bool true)], args := [d1, d2, d3] }
  | _ => none }
def finderBackRow : OpenClaim := { program := "ytjifnnghcaaonaa", sum := "38a12afb9aadedd7ebd4266ca31fae8174bf0bc73bc00daed248e5e6ec4e08d4", func := "baler/balerlaw08.FinderBack", spec := "finderBack", unfollowed := true, recurses := true, apart := false }
def FinderBackSaid : Prop := finderBackRow.holds Try.pinned (OpenSpec.ofChange finderBackSpec)

/-- ITS FALSE NEIGHBOUR: 'it returns false'. Refute it at one input. -/
def finderBackWrong : ChangeSpec := { name := "finderBack", fn := fun _ => fun
  | [d1, d2, d3] => { results := [.lit (.bool false)], args := [d1, d2, d3] }
  | _ => none }
def FinderBackWrongFalsely : Prop := finderBackRow.holds Try.pinned (OpenSpec.ofChange finderBackWrong)

/-- 'balerlaw08.FinderRight': WHATEVER THE INPUT: true; the input reads as it did. -/
def finderRightSpec : ChangeSpec := { name := "finderRight", fn := fun _ => fun
  | [d1, d2, d3, d4, d5, d6] => { results := [.lit (.bool true)], args := [d1, d2, d3, d4, d5, d6] }
  | _ => none }
def finderRightRow : OpenClaim := { program := "ytjifnnghcaaonaa", sum := "38a12afb9aadedd7ebd4266ca31fae8174bf0bc73bc00daed248e5e6ec4e08d4", func := "baler/balerlaw08.FinderRight", spec := "finderRight", unfollowed := true, recurses := true, apart := false }
def FinderRightSaid : Prop := finderRightRow.holds Try.pinned (OpenSpec.ofChange finderRightSpec)

/-- ITS FALSE NEIGHBOUR: 'it returns false'. Refute it at one input. -/
def finderRightWrong : ChangeSpec := { name := "finderRight", fn := fun _ => fun
  | [d1, d2, d3, d4, d5, d6] => { results := [.lit (.bool false)], args := [d1, d2, d3, d4, d5, d6] }
  | _ => none }
def FinderRightWrongFalsely : Prop := finderRightRow.holds Try.pinned (OpenSpec.ofChange finderRightWrong)

/-- 'balerlaw08.FinderAgain': WHATEVER THE INPUT: true; the input reads as it did. -/
def finderAgainSpec : ChangeSpec := { name := "finderAgain", fn := fun _ => fun
  | [d1, d2, d3, d4, d5, d6] => { results := [.lit (.bool true)], args := [d1, d2, d3, d4, d5, d6] }
  | _ => none }
def finderAgainRow : OpenClaim := { program := "ytjifnnghcaaonaa", sum := "38a12afb9aadedd7ebd4266ca31fae8174bf0bc73bc00daed248e5e6ec4e08d4", func := "baler/balerlaw08.FinderAgain", spec := "finderAgain", unfollowed := true, recurses := true, apart := false }
def FinderAgainSaid : Prop := finderAgainRow.holds Try.pinned (OpenSpec.ofChange finderAgainSpec)

/-- ITS FALSE NEIGHBOUR: 'it returns false'. Refute it at one input. -/
def finderAgainWrong : ChangeSpec := { name := "finderAgain", fn := fun _ => fun
  | [d1, d2, d3, d4, d5, d6] => { results := [.lit (.bool false)], args := [d1, d2, d3, d4, d5, d6] }
  | _ => none }
def FinderAgainWrongFalsely : Prop := finderAgainRow.holds Try.pinned (OpenSpec.ofChange finderAgainWrong)

/-- 'balerlaw08.FinderFinds': WHATEVER THE INPUT: true; the input reads as it did. -/
def finderFindsSpec : ChangeSpec := { name := "finderFinds", fn := fun _ => fun
  | [d1, d2, d3, d4, d5, d6] => { results := [.lit (.bool true)], args := [d1, d2, d3, d4, d5, d6] }
  | _ => none }
def finderFindsRow : OpenClaim := { program := "ytjifnnghcaaonaa", sum := "38a12afb9aadedd7ebd4266ca31fae8174bf0bc73bc00daed248e5e6ec4e08d4", func := "baler/balerlaw08.FinderFinds", spec := "finderFinds", unfollowed := true, recurses := true, apart := false }
def FinderFindsSaid : Prop := finderFindsRow.holds Try.pinned (OpenSpec.ofChange finderFindsSpec)

/-- ITS FALSE NEIGHBOUR: 'it returns false'. Refute it at one input. -/
def finderFindsWrong : ChangeSpec := { name := "finderFinds", fn := fun _ => fun
  | [d1, d2, d3, d4, d5, d6] => { results := [.lit (.bool false)], args := [d1, d2, d3, d4, d5, d6] }
  | _ => none }
def FinderFindsWrongFalsely : Prop := finderFindsRow.holds Try.pinned (OpenSpec.ofChange finderFindsWrong)

/-- 'balerlaw08.FinderPlain': WHATEVER THE INPUT: true; the input reads as it did. -/
def finderPlainSpec : ChangeSpec := { name := "finderPlain", fn := fun _ => fun
  | [d1, d2, d3] => { results := [.lit (.bool true)], args := [d1, d2, d3] }
  | _ => none }
def finderPlainRow : OpenClaim := { program := "ytjifnnghcaaonaa", sum := "38a12afb9aadedd7ebd4266ca31fae8174bf0bc73bc00daed248e5e6ec4e08d4", func := "baler/balerlaw08.FinderPlain", spec := "finderPlain", unfollowed := true, recurses := true, apart := false }
def FinderPlainSaid : Prop := finderPlainRow.holds Try.pinned (OpenSpec.ofChange finderPlainSpec)

/-- ITS FALSE NEIGHBOUR: 'it returns false'. Refute it at one input. -/
def finderPlainWrong : ChangeSpec := { name := "finderPlain", fn := fun _ => fun
  | [d1, d2, d3] => { results := [.lit (.bool false)], args := [d1, d2, d3] }
  | _ => none }
def FinderPlainWrongFalsely : Prop := finderPlainRow.holds Try.pinned (OpenSpec.ofChange finderPlainWrong)

/- THE SECOND FORM. 'bulk': how many values and letters a reading holds, each counted each time it is reached (what is shared counts as often as it is met; a slice's spare places count too). A statement '..UptoSaid' is the law's where the arguments, and the package variables that the reading takes, are together of bulk at most 1048576: NARROWER than '..Said'. Prove '..Said' where nothing that the law and all that it calls make is longer than what came in: it says more and counts as full. Else prove '..UptoSaid'. A law counts once. -/
mutual
def uptoBulk {H : Type} : DataW H → Nat
  | .lit (.string bytes) => bytes.length + 1
  | .lit _ => 1
  | .nil => 1
  | .ptr d => uptoBulk d + 1
  | .slice elems spare => uptoBulkAll elems + uptoBulkAll spare + 1
  | .agg parts => uptoBulkAll parts + 1
  | .iface _ d => uptoBulk d + 1
  | .map entries => uptoBulkEntries entries + 1
  | .held _ => 1
def uptoBulkAll {H : Type} : List (DataW H) → Nat
  | [] => 0
  | d :: r => uptoBulk d + uptoBulkAll r
def uptoBulkEntries {H : Type} : List (Lit × DataW H) → Nat
  | [] => 0
  | x :: r => uptoBulkEntry x + uptoBulkEntries r
def uptoBulkEntry {H : Type} : Lit × DataW H → Nat
  | (.string bytes, d) => bytes.length + uptoBulk d + 1
  | (_, d) => uptoBulk d + 1
 end
def uptoSmall : (H : Type) → List (DataW H) → Bool := fun _ ds => decide (uptoBulkAll ds ≤ 1048576)
def OpenSpec.upto (s : _root_.Go.ChangeSpec) : _root_.Go.OpenSpec := { _root_.Go.OpenSpec.ofChange s with cond := some uptoSmall }

/-- 'balerlaw08.FinderBack', WHERE WHAT IT READS IS OF BULK AT MOST 1048576: true; the input reads as it did. -/
def finderBackUptoRow : OpenClaim := { program := "ytjifnnghcaaonaa", sum := "38a12afb9aadedd7ebd4266ca31fae8174bf0bc73bc00daed248e5e6ec4e08d4", func := "baler/balerlaw08.FinderBack", spec := "finderBack", unfollowed := true, recurses := true, apart := false, narrowed := true }
def FinderBackUptoSaid : Prop := finderBackUptoRow.holds Try.pinned (OpenSpec.upto finderBackSpec)

/-- 'balerlaw08.FinderRight', WHERE WHAT IT READS IS OF BULK AT MOST 1048576: true; the input reads as it did. -/
def finderRightUptoRow : OpenClaim := { program := "ytjifnnghcaaonaa", sum := "38a12afb9aadedd7ebd4266ca31fae8174bf0bc73bc00daed248e5e6ec4e08d4", func := "baler/balerlaw08.FinderRight", spec := "finderRight", unfollowed := true, recurses := true, apart := false, narrowed := true }
def FinderRightUptoSaid : Prop := finderRightUptoRow.holds Try.pinned (OpenSpec.upto finderRightSpec)

/-- 'balerlaw08.FinderAgain', WHERE WHAT IT READS IS OF BULK AT MOST 1048576: true; the input reads as it did. -/
def finderAgainUptoRow : OpenClaim := { program := "ytjifnnghcaaonaa", sum := "38a12afb9aadedd7ebd4266ca31fae8174bf0bc73bc00daed248e5e6ec4e08d4", func := "baler/balerlaw08.FinderAgain", spec := "finderAgain", unfollowed := true, recurses := true, apart := false, narrowed := true }
def FinderAgainUptoSaid : Prop := finderAgainUptoRow.holds Try.pinned (OpenSpec.upto finderAgainSpec)

/-- 'balerlaw08.FinderFinds', WHERE WHAT IT READS IS OF BULK AT MOST 1048576: true; the input reads as it did. -/
def finderFindsUptoRow : OpenClaim := { program := "ytjifnnghcaaonaa", sum := "38a12afb9aadedd7ebd4266ca31fae8174bf0bc73bc00daed248e5e6ec4e08d4", func := "baler/balerlaw08.FinderFinds", spec := "finderFinds", unfollowed := true, recurses := true, apart := false, narrowed := true }
def FinderFindsUptoSaid : Prop := finderFindsUptoRow.holds Try.pinned (OpenSpec.upto finderFindsSpec)

/-- 'balerlaw08.FinderPlain', WHERE WHAT IT READS IS OF BULK AT MOST 1048576: true; the input reads as it did. -/
def finderPlainUptoRow : OpenClaim := { program := "ytjifnnghcaaonaa", sum := "38a12afb9aadedd7ebd4266ca31fae8174bf0bc73bc00daed248e5e6ec4e08d4", func := "baler/balerlaw08.FinderPlain", spec := "finderPlain", unfollowed := true, recurses := true, apart := false, narrowed := true }
def FinderPlainUptoSaid : Prop := finderPlainUptoRow.holds Try.pinned (OpenSpec.upto finderPlainSpec)

end Rows
end Go.Proofs.Ytjifnnghcaaonaa
