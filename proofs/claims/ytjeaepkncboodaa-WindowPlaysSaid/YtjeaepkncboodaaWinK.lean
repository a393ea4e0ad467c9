/- Dropping and asking one of some windows. -/
import Derived.Test.YtjeaepkncboodaaWinJ
namespace Go.Proofs.Ytjeaepkncboodaa
open Go.RowKit Win
set_option linter.unusedVariables false
set_option linter.unusedSimpArgs false

theorem held_ws {w : World} {base k j : Nat} {B m : Int} {ws : List Wn} (h : WsAt w base k B ws m) (hj : j < ws.length) :
    Calls Try.prog 13 #[.pointer (some ⟨(ws.getD j default).b, 0, none⟩)] w fun e w' => e = .returned (.int .i64 ((ws.getD j default).held : Nat)) ∧ w = w' := by
  obtain ⟨hp, h1, h2, _⟩ := h.w j hj
  generalize ws.getD j default = x at *
  obtain ⟨b, S, on⟩ := x
  cases on
  · exact held_gone b _ _ _ w hp
  · exact held_win 0 b k S (.slice none 0 0) [] 0 w ⟨hp, OwnB.nil _ _ _, Nat.zero_le _, by simp only at h1; omega, fun _ => rfl⟩
theorem drop_ws {w : World} {base k j : Nat} {B m : Int} {ws : List Wn} (h : WsAt w base k B ws m) (hj : j < ws.length) (hB : 0 ≤ B ∧ B ≤ 16777216) :
    Calls Try.prog 14 #[.pointer (some ⟨(ws.getD j default).b, 0, none⟩)] w fun e w' => e = .returned (.tuple #[]) ∧ WsAt w' base k B (ws.set j { ws.getD j default with on := false }) m ∧ Frm (fun x => x = (ws.getD j default).b ∨ x = k) w w' := by
  obtain ⟨hp, h1, h2, _⟩ := h.w j hj
  have hs := sumW_set ws j hj
  obtain ⟨x, hx⟩ : ∃ x, ws.getD j default = x := ⟨_, rfl⟩
  have hoff := fun w' => h.off (w' := w') hj
  rw [hx] at hp h1 h2 hs hoff ⊢
  obtain ⟨b, S, on⟩ := x
  cases on
  · refine (drop_gone b _ _ _ w hp).mono ?_
    rintro e w' ⟨rfl, rfl⟩
    exact ⟨rfl, hoff w hp (by simpa [Wn.held] using h.l) (Frm.refl _ _), Frm.refl _ _⟩
  · have hn := h.n
    refine (drop_win 0 b k S 0 (.slice none 0 0) [] B (sumW ws) m w ⟨hp, OwnB.nil _ _ _, Nat.zero_le _, by simp only at h1; omega, fun _ => rfl⟩ h.l hB (by omega)).mono ?_
    rintro e w' ⟨rfl, hp2, hl2, hf2⟩
    have hre : reN (sumW ws) (S : Nat) = (sumW ws : Int) - (S : Nat) := by
      have : S ≤ sumW ws := by simp only [Wn.held, if_true] at hs; omega
      unfold reN
      rw [if_neg (by omega), if_neg (by omega)]
    rw [hre] at hl2
    exact ⟨rfl, hoff w' hp2 (by simpa [Wn.held] using hl2) hf2, hf2⟩
end Go.Proofs.Ytjeaepkncboodaa
