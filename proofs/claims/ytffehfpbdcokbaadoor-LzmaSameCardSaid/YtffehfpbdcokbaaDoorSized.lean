/- A slice of bytes that came in: its bytes are within reach. Over any program. -/
import Derived.Test.YtffehfpbdcokbaaDoorOpen
import Derived.SizedLaws
namespace Go.Proofs.YtffehfpbdcokbaaDoor.Opn
open Go.ChangeShapes Go.WideShapes Go.Deep Go.RowKit
section
variable {H : Type} {enc : TypeId × Value → H} {P : Program} {w : World}
theorem sized_bytes {t e : TypeId} {A : Option Addr} {len cap : Nat} {d : DataW H} {p : List MemPlace} (ht : P.underlying t = some (.slice e)) (he : P.underlying e = some (.int .u8)) (hc : P.cellsOf e = 1) (hb : P.bytesOf e = 1)
    (h : DataW.Trod enc P w 0 (fun _ => true) true t (.slice A len cap) d p) {l : List Nat} (hm : ∀ k ∈ d.weights P t, k ∈ l) (hl : l.all (· ≤ reachBytes) = true) : len = 0 ∨ cap ≤ 140737488351232 := by
  obtain ⟨fuel, hf⟩ := h
  rcases open_ints ht he hc hf with ⟨hcs, _⟩ | ⟨x, l', c, zs, hcs, _, hl', hm', hz, hx, hcell, hwz⟩
  · simp [Value.cells] at hcs
    obtain ⟨rfl, rfl, rfl⟩ := hcs
    exact .inl rfl
  · simp [Value.cells] at hcs
    obtain ⟨rfl, rfl, rfl⟩ := hcs
    simp only [if_true] at hz
    right
    have h3 : (lits (H := H) IntKind.u8 (zs.take len)).length + (lits (H := H) IntKind.u8 (zs.drop len)).length = cap := by simp [lits]; omega
    have h4 : cap * 1 ∈ d.weights P t := by
      have hx' := congrArg Prod.fst hx
      simp only at hx'
      rw [hx']
      simp only [DataW.weights, ht]
      rw [h3, hb]
      exact List.mem_cons_self
    have h5 := of_decide_eq_true (List.all_eq_true.1 hl _ (hm _ h4))
    have h6 : reachBytes = 140737488351232 := by decide
    omega
end
end Go.Proofs.YtffehfpbdcokbaaDoor.Opn
