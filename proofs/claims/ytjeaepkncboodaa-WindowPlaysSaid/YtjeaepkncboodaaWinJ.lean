/- Some windows and their ledger. -/
import Derived.Test.YtjeaepkncboodaaWinI
namespace Go.Proofs.Ytjeaepkncboodaa
open Go.RowKit Win
set_option linter.unusedVariables false
set_option linter.unusedSimpArgs false

/-- A window that nothing was put into: its block, its size, whether it lives. -/
structure Wn where
  b : Nat
  S : Nat
  on : Bool
instance : Inhabited Wn := ⟨⟨0, 1, false⟩⟩
def Wn.held (x : Wn) : Nat := if x.on then x.S else 0
def sumW (ws : List Wn) : Nat := (ws.map Wn.held).foldr (· + ·) 0
theorem sumW_snoc (ws : List Wn) (x : Wn) : sumW (ws ++ [x]) = sumW ws + x.held := by
  unfold sumW
  induction ws with
  | nil => simp
  | cons y l ih => simp at ih ⊢; omega
theorem sumW_set : ∀ (ws : List Wn) (j : Nat), j < ws.length → sumW (ws.set j { ws.getD j default with on := false }) + (ws.getD j default).held = sumW ws
  | [], j, h => absurd h (by simp)
  | y :: l, 0, _ => by simp [sumW, Wn.held]; omega
  | y :: l, j + 1, h => by
    have ih := sumW_set l j (by simpa using h)
    simp only [sumW, List.set_cons_succ, List.map_cons, List.foldr_cons, List.getD_cons_succ] at ih ⊢
    omega
/-- What a window's block holds. -/
def wnCells (k : Nat) (x : Wn) : Array Value := #[.slice none 0 0, .int .i64 ((0 : Nat) : Int), .int .i64 x.S, .pointer (if x.on then some ⟨k, 0, none⟩ else none)]
structure WsAt (w : World) (base k : Nat) (B : Int) (ws : List Wn) (m : Int) : Prop where
  l : Led w k B (sumW ws) m
  n : (sumW ws : Int) ≤ B
  m : (sumW ws : Int) ≤ m ∧ m ≤ B
  w : ∀ j, j < ws.length → Pts w (ws.getD j default).b (wnCells k (ws.getD j default)) 57 ∧ 1 ≤ (ws.getD j default).S ∧ (ws.getD j default).S ≤ 16777216 ∧ base ≤ (ws.getD j default).b
  d : ∀ i j, i < ws.length → j < ws.length → i ≠ j → (ws.getD i default).b ≠ (ws.getD j default).b
theorem getD_snoc (ws : List Wn) (x : Wn) (j : Nat) (h : j < ws.length + 1) : (ws ++ [x]).getD j default = if j < ws.length then ws.getD j default else x := by
  simp only [List.getD]
  by_cases hj : j < ws.length
  · rw [if_pos hj, List.getElem?_append_left hj]
  · rw [if_neg hj, List.getElem?_append_right (by omega), show j - ws.length = 0 by omega]; rfl
theorem getD_set (ws : List Wn) (x : Wn) (j i : Nat) (h : i < ws.length) : (ws.set j x).getD i default = if i = j then x else ws.getD i default := by
  simp only [List.getD]
  by_cases hj : i = j
  · subst hj; rw [if_pos rfl, List.getElem?_set_self h]; rfl
  · rw [if_neg hj, List.getElem?_set_ne (fun e => hj e.symm)]
theorem WsAt.ne {w : World} {base k : Nat} {B m : Int} {ws : List Wn} (h : WsAt w base k B ws m) {j : Nat} (hj : j < ws.length) : (ws.getD j default).b ≠ k := by
  intro e
  have e2 := (e ▸ (h.w j hj).1 : Pts w k _ _).symm.trans h.l
  simp [wnCells, ledCells] at e2
theorem WsAt.snoc {w w' : World} {base k b S : Nat} {B m : Int} {ws : List Wn} (h : WsAt w base k B ws m) (hS : 1 ≤ S ∧ S ≤ 16777216) (hfit : (S : Int) ≤ B - sumW ws) (hb : w.heap.size ≤ b) (hbase : base ≤ w.heap.size)
    (hp : Pts w' b (wnCells k ⟨b, S, true⟩) 57) (hl : Led w' k B (sumW ws + S) (max m (sumW ws + S))) (hf : Frm (· = k) w w') : WsAt w' base k B (ws ++ [⟨b, S, true⟩]) (max m (sumW ws + S)) := by
  have hs : (sumW (ws ++ [⟨b, S, true⟩]) : Int) = sumW ws + S := by rw [sumW_snoc]; simp [Wn.held]
  have hn := h.n
  have hm := h.m
  refine ⟨by rw [hs]; exact hl, by rw [hs]; omega, by rw [hs]; omega, fun j hj => ?_, fun i j hi hj hij => ?_⟩
  · rw [List.length_append, List.length_singleton] at hj
    rw [getD_snoc _ _ _ hj]
    by_cases hj2 : j < ws.length
    · rw [if_pos hj2]
      obtain ⟨h1, h2⟩ := h.w j hj2
      exact ⟨h1.frm hf (h.ne hj2), h2⟩
    · rw [if_neg hj2]
      exact ⟨hp, hS.1, hS.2, Nat.le_trans hbase hb⟩
  · rw [List.length_append, List.length_singleton] at hi hj
    rw [getD_snoc _ _ _ hi, getD_snoc _ _ _ hj]
    have hlt : ∀ q, q < ws.length → (ws.getD q default).b < w.heap.size := fun q hq => (h.w q hq).1.lt
    by_cases hi2 : i < ws.length
    · by_cases hj2 : j < ws.length
      · rw [if_pos hi2, if_pos hj2]; exact h.d i j hi2 hj2 hij
      · rw [if_pos hi2, if_neg hj2]; have := hlt i hi2; show _ ≠ b; omega
    · by_cases hj2 : j < ws.length
      · rw [if_neg hi2, if_pos hj2]; have := hlt j hj2; show b ≠ _; omega
      · omega
theorem WsAt.off {w w' : World} {base k j : Nat} {B m : Int} {ws : List Wn} (h : WsAt w base k B ws m) (hj : j < ws.length) (hp : Pts w' (ws.getD j default).b (wnCells k { ws.getD j default with on := false }) 57)
    (hl : Led w' k B ((sumW ws : Int) - (ws.getD j default).held) m) (hf : Frm (fun x => x = (ws.getD j default).b ∨ x = k) w w') : WsAt w' base k B (ws.set j { ws.getD j default with on := false }) m := by
  have hs := sumW_set ws j hj
  have hs2 : (sumW (ws.set j { ws.getD j default with on := false }) : Int) = (sumW ws : Int) - (ws.getD j default).held := by omega
  have hn := h.n
  have hm := h.m
  refine ⟨by rw [hs2]; exact hl, by omega, by omega, fun i hi => ?_, fun i i' hi hi' hii => ?_⟩
  · rw [List.length_set] at hi
    rw [getD_set _ _ _ _ hi]
    by_cases hij : i = j
    · subst hij
      rw [if_pos rfl]
      obtain ⟨_, h2⟩ := h.w i hi
      exact ⟨hp, h2⟩
    · rw [if_neg hij]
      obtain ⟨h1, h2⟩ := h.w i hi
      exact ⟨h1.frm hf (by rintro (e | e); exact h.d i j hi hj hij e; exact h.ne hi e), h2⟩
  · rw [List.length_set] at hi hi'
    rw [getD_set _ _ _ _ hi, getD_set _ _ _ _ hi']
    have hb : ∀ q, (if q = j then { ws.getD j default with on := false } else ws.getD q default : Wn).b = (ws.getD q default).b := by
      intro q; by_cases hq : q = j
      · subst hq; rw [if_pos rfl]
      · rw [if_neg hq]
    rw [hb, hb]
    exact h.d i i' hi hi' hii
end Go.Proofs.Ytjeaepkncboodaa
