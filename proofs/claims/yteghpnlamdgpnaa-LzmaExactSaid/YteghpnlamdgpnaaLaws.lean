/- Laws of single operations, over any program: a struct that is built by a known equation. -/
import Derived.WalkKit
namespace Go.Proofs.Yteghpnlamdgpnaa
open Go.RowKit

theorem wpList_build {P : Program} {ops : Array Oper} {Q : Exit → Act → World → Prop} {a : Act} {w : World} {rest : List Oper} {o : Oper}
    (T : TypeId) (parts : Array (Nat × Operand)) (hg : o.guard = none) (hop : o.op = .build T parts) (v : Value)
    (ps : Array (Nat × Value)) (hps : (parts.map fun (i, x) => (i, a.eval x)) = ps) (hrun : (Instr.build T ps).run P w = .ok v w) (h : wpList P ops Q rest (a.put o.dst v) w) : wpList P ops Q (o :: rest) a w :=
  wpList_plain hg fun K hK => by
    unfold Oper.wp execOp
    simp only [hop, hps, Sem.run_bind, hrun, Result.andThen_ok, Sem.run_pure]
    exact hK _ _ h
end Go.Proofs.Yteghpnlamdgpnaa
