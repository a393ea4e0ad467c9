/- What the document says of a window of 4; and WindowNil. -/
import Derived.Test.YteghpnlamdgpnaaWinG
import Derived.Lib.SlBytesConst
namespace Go.Proofs.Yteghpnlamdgpnaa
open Go.RowKit Win
set_option linter.unusedVariables false
set_option linter.unusedSimpArgs false

/-- A literal's row: its cells are the bytes (one place behind them bears a mark). -/
def LitAt (w : World) (b : Nat) (bs : List UInt8) : Prop := ∃ T fr, w.heap[b]? = some (.cells (bs.map byteV).toArray T fr)
theorem LitAt.lt {w : World} {b : Nat} {bs : List UInt8} (h : LitAt w b bs) : b < w.heap.size := by
  obtain ⟨T, fr, h⟩ := h
  exact (Array.getElem?_eq_some_iff.1 h).1
theorem LitAt.row {w : World} {b : Nat} {bs : List UInt8} (h : LitAt w b bs) : BRow w w.heap.size (some ⟨b, 0, none⟩) bs := by
  intro _
  refine ⟨b, 0, rfl, h.lt, fun k hk => ?_⟩
  obtain ⟨T, fr, h⟩ := h
  simp [World.cell?, h, List.getD, hk]
theorem LitAt.new (w : World) (bs : List UInt8) (T : TypeId) (fr : Nat × Nat) : LitAt (w.alloc (.cells (bs.map byteV).toArray T fr)) w.heap.size bs := ⟨T, fr, by show (w.heap.push _)[w.heap.size]? = _; simp⟩
theorem own_ne {w : World} {T T' base g : Nat} {v : Value} {bs : List UInt8} {c : Array Value} (h : OwnB w T base v bs) (hp : Pts w g c T') (hT : T' ≠ T) : v.ownBlock ≠ some g := by
  intro hq
  rcases h.form with ⟨e, _⟩ | ⟨g', cap, cur, e, _, hp', _⟩
  · rw [e] at hq; cases hq
  · rw [e] at hq
    injection hq with hq
    subst hq
    have e2 := hp'.symm.trans hp
    simp at e2
    exact hT e2.2.symm
theorem WinAt.later {w w' : World} {base b k S : Nat} {v : Value} {R : List UInt8} {a : Nat} (h : WinAt w base b k S v R a) (hb : Below w.heap.size w w') : WinAt w' base b k S v R a := by
  have hf : Frm (fun _ => False) w w' := Frm.of_below hb
  exact ⟨h.p.frm hf (by simp), h.o.frm hf (by simp), h.n, h.lt, h.z⟩
theorem WinAt.led {w : World} {base b k S : Nat} {v : Value} {R : List UInt8} {a : Nat} {B n m : Int} (h : WinAt w base b k S v R a) (hl : Led w k B n m) : ¬ (k = b ∨ v.ownBlock = some k) := by
  rintro (rfl | e)
  · have e := h.p.symm.trans hl
    simp [ledCells] at e
  · exact own_ne h.o hl (by decide) e

end Go.Proofs.Yteghpnlamdgpnaa
