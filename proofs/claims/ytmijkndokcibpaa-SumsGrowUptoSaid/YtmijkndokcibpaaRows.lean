/-
  No cell of these rows narrows 'for every input' (looked for: loops, veiled, ifaces, maps, wideKeys, modest, calm, conditions, laid).
  DERIVED. THE GIVEN ROWS OF THIS SEAT. 6 by the template 'for every input the law returns true; each argument reads behind the call as it read before'; 0 by the template 'total and deterministic' (their statements: YtmijkndokcibpaaTotals.lean).
  GIVEN WITH THE SEED: the statements are not yours to turn. If you find one false, say at which input.
  Laid BY PROGRAM, IN A SANDBOX (cutbox-rows.mjs): the forced cells as the released guide's own fill.sh prints them over the translation d0f3feaf636580e3… (all of the seat's roots in one cut). By AI agents, Wed Nov 11 2026. No macro, syntax, notation, axiom, sorry.
-/
import Derived.Test.YtmijkndokcibpaaChecked
import GoSem.Claim
import GoSem.ClaimJoined
import GoSem.ClaimMapViews
import Derived.JoinedTies
import Derived.KernelRfl
namespace Go.Proofs.Ytmijkndokcibpaa
/- THE CELL 'sum', in the pinned program and in every row, IS THE sha256 OF THE DUMP (.gsa) THAT YtmijkndokcibpaaProg.lean LOADS. Nothing in Lean hashes anything: it is a label: what it is worth is what the hold of that sum in a sandbox is worth. -/
noncomputable def Try.pinned : Pinned := { name := "ytmijkndokcibpaa", sum := "d0f3feaf636580e377800a84c985adc5525c4f68f8f3151667055b8eb354d1b4", checked := Try.checked }
namespace Rows
def none {H : Type} : Left H := { results := [], args := [] }

/-- 'balerlaw02.SumsTell': WHATEVER THE INPUT: true; the input reads as it did. -/
def sumsTellSpec : ChangeSpec := { name := "sumsTell", fn := fun _ => fun
  | [d] => { results := [.lit (.bool true)], args := [d] }
  | _ => none }
def sumsTellRow : OpenClaim := { program := "ytmijkndokcibpaa", sum := "d0f3feaf636580e377800a84c985adc5525c4f68f8f3151667055b8eb354d1b4", func := "baler/balerlaw02.SumsTell", spec := "sumsTell", unfollowed := true, recurses := true, apart := false }
def SumsTellSaid : Prop := sumsTellRow.holds Try.pinned (OpenSpec.ofChange sumsTellSpec)

/-- ITS FALSE NEIGHBOUR: 'it returns false'. Refute it at one input. -/
def sumsTellWrong : ChangeSpec := { name := "sumsTell", fn := fun _ => fun
  | [d] => { results := [.lit (.bool false)], args := [d] }
  | _ => none }
def SumsTellWrongFalsely : Prop := sumsTellRow.holds Try.pinned (OpenSpec.ofChange sumsTellWrong)

/-- 'balerlaw02.SumsGrow': WHATEVER THE INPUT: true; the input reads as it did. -/
def sumsGrowSpec : ChangeSpec := { name := "sumsGrow", fn := fun _ => fun
  | [d1, d2] => { results := [.lit (.bool true)], args := [d1, d2] }
  | _ => none }
def sumsGrowRow : OpenClaim := { program := "ytmijkndokcibpaa", sum := "d0f3feaf636580e377800a84c985adc5525c4f68f8f3151667055b8eb354d1b4", func := "baler/balerlaw02.SumsGrow", spec := "sumsGrow", unfollowed := true, recurses := true, apart := false }
def SumsGrowSaid : Prop := sumsGrowRow.holds Try.pinned (OpenSpec.ofChange sumsGrowSpec)

/-- ITS FALSE NEIGHBOUR: 'it returns false'. Refute it at one input. -/
def sumsGrowWrong : ChangeSpec := { name := "sumsGrow", fn := fun _ => fun
  | [d1, d2] => { results := [.lit (.bool false)], args := [d1, d2] }
  | _ => none }
def SumsGrowWrongFalsely : Prop := sumsGrowRow.holds Try.pinned (OpenSpec.ofChange sumsGrowWrong)

/-- 'balerlaw02.SumsCut': WHATEVER THE INPUT: true; the input reads as it did. -/
def sumsCutSpec : ChangeSpec := { name := "sumsCut", fn := fun _ => fun
  | [d1, d2, d3] => { results := [.lit (.bool true)], args := [d1, d2, d3] }
  | _ => none }
def sumsCutRow : OpenClaim := { program := "ytmijkndokcibpaa", sum := "d0f3feaf636580e377800a84c985adc5525c4f68f8f3151667055b8eb354d1b4", func := "baler/balerlaw02.SumsCut", spec := "sumsCut", unfollowed := true, recurses := true, apart := false }
def SumsCutSaid : Prop := sumsCutRow.holds Try.pinned (OpenSpec.ofChange sumsCutSpec)

/-- ITS FALSE NEIGHBOUR: 'it returns false'. Refute it at one input. -/
def sumsCutWrong : ChangeSpec := { name := "sumsCut", fn := fun _ => fun
  | [d1, d2, d3] => { results := [.lit (.bool false)], args := [d1, d2, d3] }
  | _ => none }
def SumsCutWrongFalsely : Prop := sumsCutRow.holds Try.pinned (OpenSpec.ofChange sumsCutWrong)

/-- 'balerlaw02.SumsLinear': WHATEVER THE INPUT: true; the input reads as it did. -/
def sumsLinearSpec : ChangeSpec := { name := "sumsLinear", fn := fun _ => fun
  | [d1, d2, d3] => { results := [.lit (.bool true)], args := [d1, d2, d3] }
  | _ => none }
def sumsLinearRow : OpenClaim := { program := "ytmijkndokcibpaa", sum := "d0f3feaf636580e377800a84c985adc5525c4f68f8f3151667055b8eb354d1b4", func := "baler/balerlaw02.SumsLinear", spec := "sumsLinear", unfollowed := true, recurses := true, apart := false }
def SumsLinearSaid : Prop := sumsLinearRow.holds Try.pinned (OpenSpec.ofChange sumsLinearSpec)

/-- ITS FALSE NEIGHBOUR: 'it returns false'. Refute it at one input. -/
def sumsLinearWrong : ChangeSpec := { name := "sumsLinear", fn := fun _ => fun
  | [d1, d2, d3] => { results := [.lit (.bool false)], args := [d1, d2, d3] }
  | _ => none }
def SumsLinearWrongFalsely : Prop := sumsLinearRow.holds Try.pinned (OpenSpec.ofChange sumsLinearWrong)

/-- 'balerlaw02.SumsOne': WHATEVER THE INPUT: true; the input reads as it did. -/
def sumsOneSpec : ChangeSpec := { name := "sumsOne", fn := fun _ => fun
  | [d1, d2, d3] => { results := [.lit (.bool true)], args := [d1, d2, d3] }
  | _ => none }
def sumsOneRow : OpenClaim := { program := "ytmijkndokcibpaa", sum := "d0f3feaf636580e377800a84c985adc5525c4f68f8f3151667055b8eb354d1b4", func := "baler/balerlaw02.SumsOne", spec := "sumsOne", unfollowed := true, recurses := true, apart := false }
def SumsOneSaid : Prop := sumsOneRow.holds Try.pinned (OpenSpec.ofChange sumsOneSpec)

/-- ITS FALSE NEIGHBOUR: 'it returns false'. Refute it at one input. -/
def sumsOneWrong : ChangeSpec := { name := "sumsOne", fn := fun _ => fun
  | [d1, d2, d3] => { results := [.lit (.bool false)], args := [d1, d2, d3] }
  | _ => none }
def SumsOneWrongFalsely : Prop := sumsOneRow.holds Try.pinned (OpenSpec.ofChange sumsOneWrong)

/-- 'balerlaw02.SumsNil': WHATEVER THE INPUT: true; the input reads as it did. -/
def sumsNilSpec : ChangeSpec := { name := "sumsNil", fn := fun _ => fun
  | [d] => { results := [.lit (.bool true)], args := [d] }
  | _ => none }
def sumsNilRow : OpenClaim := { program := "ytmijkndokcibpaa", sum := "d0f3feaf636580e377800a84c985adc5525c4f68f8f3151667055b8eb354d1b4", func := "baler/balerlaw02.SumsNil", spec := "sumsNil", unfollowed := true, recurses := true, apart := false }
def SumsNilSaid : Prop := sumsNilRow.holds Try.pinned (OpenSpec.ofChange sumsNilSpec)

/-- ITS FALSE NEIGHBOUR: 'it returns false'. Refute it at one input. -/
def sumsNilWrong : ChangeSpec := { name := "sumsNil", fn := fun _ => fun
  | [d] => { results := [.lit (.bool false)], args := [d] }
  | _ => none }
def SumsNilWrongFalsely : Prop := sumsNilRow.holds Try.pinned (OpenSpec.ofChange sumsNilWrong)

/- THE SECOND FORM. 'bulk': how many values and letters a reading holds, each counted each time it is reached (what is shared counts as often as it is met; a slice's spare places count too). A statement '..UptoSaid' is the law's where the arguments, and the package variables that the reading takes, are together of bulk at most 1048576: NARROWER than '..Said'. Prove '..Said' where nothing that the law and all that it calls make is longer than what came in: it says more and counts as full. Else prove '..UptoSaid'. A law counts once. -/
mutual
def uptoBulk {H : Type} : DataW H → Nat
  | .lit (.string bytes) => bytes.length + 1
  | .lit _ => 1
  | .nil => 1
  | .ptr d => uptoBulk d + 1
  | .slice elems spare => uptoBulkAll elems + uptoBulkAll spare + 1
  | .agg parts => uptoBulkAll parts + 1
  | .iface _ d => uptoBulk d + 1
  | .map entries => uptoBulkEntries entries + 1
  | .held _ => 1
def uptoBulkAll {H : Type} : List (DataW H) → Nat
  | [] => 0
  | d :: r => uptoBulk d + uptoBulkAll r
def uptoBulkEntries {H : Type} : List (Lit × DataW H) → Nat
  | [] => 0
  | x :: r => uptoBulkEntry x + uptoBulkEntries r
def uptoBulkEntry {H : Type} : Lit × DataW H → Nat
  | (.string bytes, d) => bytes.length + uptoBulk d + 1
  | (_, d) => uptoBulk d + 1
 end
def uptoSmall : (H : Type) → List (DataW H) → Bool := fun _ ds => decide (uptoBulkAll ds ≤ 1048576)
def OpenSpec.upto (s : _root_.Go.ChangeSpec) : _root_.Go.OpenSpec := { _root_.Go.OpenSpec.ofChange s with cond := some uptoSmall }

/-- 'balerlaw02.SumsTell', WHERE WHAT IT READS IS OF BULK AT MOST 1048576: true; the input reads as it did. -/
def sumsTellUptoRow : OpenClaim := { program := "ytmijkndokcibpaa", sum := "d0f3feaf636580e377800a84c985adc5525c4f68f8f3151667055b8eb354d1b4", func := "baler/balerlaw02.SumsTell", spec := "sumsTell", unfollowed := true, recurses := true, apart := false, narrowed := true }
def SumsTellUptoSaid : Prop := sumsTellUptoRow.holds Try.pinned (OpenSpec.upto sumsTellSpec)

/-- 'balerlaw02.SumsGrow', WHERE WHAT IT READS IS OF BULK AT MOST 1048576: true; the input reads as it did. -/
def sumsGrowUptoRow : OpenClaim := { program := "ytmijkndokcibpaa", sum := "d0f3feaf636580e377800a84c985adc5525c4f68f8f3151667055b8eb354d1b4", func := "baler/balerlaw02.SumsGrow", spec := "sumsGrow", unfollowed := true, recurses := true, apart := false, narrowed := true }
def SumsGrowUptoSaid : Prop := sumsGrowUptoRow.holds Try.pinned (OpenSpec.upto sumsGrowSpec)

/-- 'balerlaw02.SumsCut', WHERE WHAT IT READS IS OF BULK AT MOST 1048576: true; the input reads as it did. -/
def sumsCutUptoRow : OpenClaim := { program := "ytmijkndokcibpaa", sum := "d0f3feaf636580e377800a84c985adc5525c4f68f8f3151667055b8eb354d1b4", func := "baler/balerlaw02.SumsCut", spec := "sumsCut", unfollowed := true, recurses := true, apart := false, narrowed := true }
def SumsCutUptoSaid : Prop := sumsCutUptoRow.holds Try.pinned (OpenSpec.upto sumsCutSpec)

/-- 'balerlaw02.SumsLinear', WHERE WHAT IT READS IS OF BULK AT MOST 1048576: true; the input reads as it did. -/
def sumsLinearUptoRow : OpenClaim := { program := "ytmijkndokcibpaa", sum := "d0f3feaf636580e377800a84c985adc5525c4f68f8f3151667055b8eb354d1b4", func := "baler/balerlaw02.SumsLinear", spec := "sumsLinear", unfollowed := true, recurses := true, apart := false, narrowed := true }
def SumsLinearUptoSaid : Prop := sumsLinearUptoRow.holds Try.pinned (OpenSpec.upto sumsLinearSpec)

/-- 'balerlaw02.SumsOne', WHERE WHAT IT READS IS OF BULK AT MOST 1048576: true; the input reads as it did. -/
def sumsOneUptoRow : OpenClaim := { program := "ytmijkndokcibpaa", sum := "d0f3feaf636580e377800a84c985adc5525c4f68f8f3151667055b8eb354d1b4", func := "baler/balerlaw02.SumsOne", spec := "sumsOne", unfollowed := true, recurses := true, apart := false, narrowed := true }
def SumsOneUptoSaid : Prop := sumsOneUptoRow.holds Try.pinned (OpenSpec.upto sumsOneSpec)

/-- 'balerlaw02.SumsNil', WHERE WHAT IT READS IS OF BULK AT MOST 1048576: true; the input reads as it did. -/
def sumsNilUptoRow : OpenClaim := { program := "ytmijkndokcibpaa", sum := "d0f3feaf636580e377800a84c985adc5525c4f68f8f3151667055b8eb354d1b4", func := "baler/balerlaw02.SumsNil", spec := "sumsNil", unfollowed := true, recurses := true, apart := false, narrowed := true }
def SumsNilUptoSaid : Prop := sumsNilUptoRow.holds Try.pinned (OpenSpec.upto sumsNilSpec)

end Rows
end Go.Proofs.Ytmijkndokcibpaa
