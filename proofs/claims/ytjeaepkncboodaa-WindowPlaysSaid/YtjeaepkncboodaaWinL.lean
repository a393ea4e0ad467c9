/- The walk of WindowHolds. -/
import Derived.Test.YtjeaepkncboodaaWinK
namespace Go.Proofs.Ytjeaepkncboodaa
open Go.RowKit Win
set_option linter.unusedVariables false
set_option linter.unusedSimpArgs false

theorem WsAt.same {w w' : World} {base k : Nat} {B m : Int} {ws : List Wn} (h : WsAt w base k B ws m) (hl : Led w' k B (sumW ws) m) (hf : Frm (· = k) w w') : WsAt w' base k B ws m :=
  ⟨hl, h.n, h.m, fun j hj => ⟨(h.w j hj).1.frm hf (h.ne hj), (h.w j hj).2⟩, h.d⟩
theorem WsAt.later {w w' : World} {base k : Nat} {B m : Int} {ws : List Wn} (h : WsAt w base k B ws m) (hb : Below w.heap.size w w') : WsAt w' base k B ws m := by
  have hf : Frm (fun _ => False) w w' := Frm.of_below hb
  exact ⟨Pts.frm h.l hf (by simp), h.n, h.m, fun j hj => ⟨(h.w j hj).1.frm hf (by simp), (h.w j hj).2⟩, h.d⟩
theorem WsAt.frmP {w w' : World} {base k : Nat} {B m : Int} {ws : List Wn} {v : Value} {ps : List Nat} {base2 : Nat} (h : WsAt w base k B ws m) (ho : OwnP w 25 base2 v ps) (hf : Frm (fun x => v.ownBlock = some x) w w') : WsAt w' base k B ws m := by
  have hno : ∀ (b : Nat) (c : Array Value) (T : TypeId), Pts w b c T → T ≠ 25 → v.ownBlock ≠ some b := by
    intro b c T hp hT hq
    rcases ho.form with ⟨e, _⟩ | ⟨g, cap, cur, e, _, hp', _⟩
    · rw [e] at hq; cases hq
    · rw [e] at hq
      injection hq with hq
      subst hq
      have e2 := hp'.symm.trans hp
      simp at e2
      exact hT e2.2.symm
  exact ⟨Pts.frm h.l hf (hno _ _ _ h.l (by decide)), h.n, h.m, fun j hj => ⟨(h.w j hj).1.frm hf (hno _ _ _ (h.w j hj).1 (by decide)), (h.w j hj).2⟩, h.d⟩
theorem OwnP.neLed {w : World} {base k : Nat} {v : Value} {ps : List Nat} {B n m : Int} (ho : OwnP w 25 base v ps) (h : Led w k B n m) : ∀ q, v.ownBlock = some q → ¬ q = k := by
  intro q hq e
  subst e
  rcases ho.form with ⟨e, _⟩ | ⟨g, cap, cur, e, _, hp', _⟩
  · rw [e] at hq; cases hq
  · rw [e] at hq
    injection hq with hq
    subst hq
    have e2 := hp'.symm.trans h
    simp at e2
theorem OwnP.neWs {w : World} {base base2 k : Nat} {v : Value} {ps : List Nat} {B m : Int} {ws : List Wn} (ho : OwnP w 25 base v ps) (h : WsAt w base2 k B ws m) {j : Nat} (hj : j < ws.length) : ∀ q, v.ownBlock = some q → ¬ (q = (ws.getD j default).b ∨ q = k) := by
  rintro q hq (e | e)
  · subst e
    rcases ho.form with ⟨e, _⟩ | ⟨g, cap, cur, e, _, hp', _⟩
    · rw [e] at hq; cases hq
    · rw [e] at hq
      injection hq with hq
      have hq2 : g = (ws.getD j default).b := hq
      rw [hq2] at hp'
      have e2 := hp'.symm.trans (h.w j hj).1
      simp at e2
  · exact ho.neLed h.l q hq e
theorem map_set_off (ws : List Wn) (j : Nat) (h : j < ws.length) : (ws.set j { ws.getD j default with on := false }).map Wn.b = ws.map Wn.b := by
  rw [List.map_set]
  apply List.ext_getElem?
  intro i
  by_cases hi : i = j
  · subst hi
    rw [List.getElem?_set_self (by simpa using h)]
    simp [List.getD, h]
  · rw [List.getElem?_set_ne (fun e => hi e.symm)]
theorem getD_map_b (ws : List Wn) (j : Nat) (h : j < ws.length) : (ws.map Wn.b).getD j 0 = (ws.getD j default).b := by
  simp [List.getD, h]
/-- All of the first i are off. -/
def Off (i : Nat) (ws : List Wn) : Prop := ∀ j, j < i → (ws.getD j default).on = false
theorem Off.all {ws : List Wn} (h : Off ws.length ws) : sumW ws = 0 := by
  induction ws with
  | nil => rfl
  | cons x l ih =>
    have h0 := h 0 (by simp)
    have h1 : Off l.length l := fun j hj => by simpa using h (j + 1) (by simpa using hj)
    have := ih h1
    simp only [List.getD_cons_zero] at h0
    simp only [sumW, List.map_cons, List.foldr_cons, Wn.held, h0] at this ⊢
    simpa using this
theorem Off.set {ws : List Wn} {i : Nat} (h : Off i ws) (hi : i < ws.length) : Off (i + 1) (ws.set i { ws.getD i default with on := false }) := by
  intro j hj
  rw [getD_set _ _ _ _ (by omega)]
  by_cases e : j = i
  · rw [if_pos e]
  · rw [if_neg e]; exact h j (by omega)
/-- Held and Drop of one of the windows, its parts by name. -/
theorem held_wx {w : World} {base k j b S : Nat} {on : Bool} {B m : Int} {ws : List Wn} (H : Nat) (h : WsAt w base k B ws m) (hj : j < ws.length) (hx : ws.getD j default = ⟨b, S, on⟩) (hH : (if on then S else 0) = H) :
    Calls Try.prog 13 #[.pointer (some ⟨b, 0, none⟩)] w fun e w' => e = .returned (.int .i64 H) ∧ w = w' := by
  have := held_ws h hj
  rw [hx] at this
  subst hH
  exact this
theorem drop_wx {w : World} {base k j b S : Nat} {on : Bool} {B m : Int} {ws : List Wn} (h : WsAt w base k B ws m) (hj : j < ws.length) (hx : ws.getD j default = ⟨b, S, on⟩) (hB : 0 ≤ B ∧ B ≤ 16777216) :
    Calls Try.prog 14 #[.pointer (some ⟨b, 0, none⟩)] w fun e w' => e = .returned (.tuple #[]) ∧ WsAt w' base k B (ws.set j ⟨b, S, false⟩) m ∧ Frm (fun x => x = b ∨ x = k) w w' := by
  have := drop_ws h hj hB
  rw [hx] at this
  exact this
end Go.Proofs.Ytjeaepkncboodaa
