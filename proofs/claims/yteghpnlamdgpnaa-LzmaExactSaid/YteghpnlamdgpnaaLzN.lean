/- Settings: the walk. -/
import Derived.Test.YteghpnlamdgpnaaLzM
namespace Go.Proofs.Yteghpnlamdgpnaa
open Go.RowKit Rng Lz
set_option linter.unusedVariables false
set_option linter.unusedSimpArgs false
theorem qcells_hdr (lc lp pb st lc' lp' pb' : Nat) (rep : Nat → Nat) (pr : Pr) (lv : Value) :
    (((qcells lc lp pb st rep pr lv).setIfInBounds 0 (.int .i64 (lc' : Int))).setIfInBounds 1 (.int .i64 (lp' : Int))).setIfInBounds 2 (.int .i64 (pb' : Int)) = qcells lc' lp' pb' st rep pr lv := by
  refine qcells_eq (by rw [Array.size_setIfInBounds, Array.size_setIfInBounds, Array.size_setIfInBounds, qcells_size]) fun j hj => ?_
  by_cases e2 : j = 2
  · subst e2
    rw [Array.getElem?_setIfInBounds_self_of_lt (by rw [Array.size_setIfInBounds, Array.size_setIfInBounds, qcells_size]; omega)]
    rfl
  rw [Array.getElem?_setIfInBounds_ne (fun h => e2 h.symm)]
  by_cases e1 : j = 1
  · subst e1
    rw [Array.getElem?_setIfInBounds_self_of_lt (by rw [Array.size_setIfInBounds, qcells_size]; omega)]
    rfl
  rw [Array.getElem?_setIfInBounds_ne (fun h => e1 h.symm)]
  by_cases e0 : j = 0
  · subst e0
    rw [Array.getElem?_setIfInBounds_self_of_lt (by rw [qcells_size]; omega)]
    rfl
  rw [Array.getElem?_setIfInBounds_ne (fun h => e0 h.symm), qcells_get _ _ _ _ _ _ _ hj]
  unfold qcell
  simp only [if_neg e0, if_neg e1, if_neg e2]
set_option maxRecDepth 100000 in
set_option maxHeartbeats 2000000 in
theorem props_p (p k0 lc lp pb st : Nat) (rep : Nat → Nat) (pr : Pr) (lv : Value) (T : TypeId) (w : World) (hp : Pts w k0 (qcells lc lp pb st rep pr lv) T) (hlv : ∃ A n c, lv = .slice A n c) (hb : p ≤ 255) :
    Calls Try.prog 10 #[.pointer (some ⟨k0, 0, none⟩), .int .u8 p] w fun e w' => e = .returned (.int .i64 (if 224 < p ∨ 4 < p % 9 + p / 9 % 5 then 11 else 0)) ∧ Frm (· = k0) w w' ∧
      (¬ (224 < p ∨ 4 < p % 9 + p / 9 % 5) → ∃ lb, w.heap.size ≤ lb ∧ Pts w' k0 (mcells ⟨k0, lb, p % 9, p / 9 % 5, p / 45⟩ 0 (fun _ => 0) (fun _ => 1024)) T ∧ Pts w' lb (lcells ⟨k0, lb, p % 9, p / 9 % 5, p / 45⟩ (fun _ => 1024)) 38) := by
  have HP := Lib.hid hp
  have HLV := Lib.hid hlv
  have d0 : w.cell? ⟨k0, 0, none⟩ = some (.int .i64 lc) := (hp.cell 0).trans (qcells_get lc lp pb st _ _ _ (i := 0) (by omega))
  have d1 : w.cell? ⟨k0, 1, none⟩ = some (.int .i64 lp) := (hp.cell 1).trans (qcells_get lc lp pb st _ _ _ (i := 1) (by omega))
  have d2 : w.cell? ⟨k0, 2, none⟩ = some (.int .i64 pb) := (hp.cell 2).trans (qcells_get lc lp pb st _ _ _ (i := 2) (by omega))
  have f0 := hp.frozen 0
  have f1 := hp.frozen 1
  have f2 := hp.frozen 2
  clear hp hlv
  obtain ⟨a, ha⟩ : ∃ a, p % 9 = a := ⟨_, rfl⟩
  obtain ⟨b1, hb1⟩ : ∃ a, p / 9 = a := ⟨_, rfl⟩
  obtain ⟨b, hbb⟩ : ∃ a, b1 % 5 = a := ⟨_, rfl⟩
  obtain ⟨c, hc⟩ : ∃ a, p / 45 = a := ⟨_, rfl⟩
  rw [ha, hb1, hbb, hc]
  have e1 : (p : Int) % 9 = (a : Int) := by omega
  have e2 : (p : Int) / 9 = (b1 : Int) := by omega
  have e3 : (b1 : Int) % 5 = (b : Int) := by omega
  have e4 : (p : Int) / 45 = (c : Int) := by omega
  have ab : a ≤ 8 := by omega
  have bb : b ≤ 4 := by omega
  have cb : c ≤ 5 := by omega
  have cb4 : p ≤ 224 → c ≤ 4 := by omega
  have CB4 := Lib.hid cb4
  clear ha hb1 hbb hc cb4
  have h3 : 224 < p ∨ (p ≤ 224 ∧ 4 < a + b) ∨ (p ≤ 224 ∧ a + b ≤ 4) := by omega
  rcases h3 with h | ⟨h, h4⟩ | ⟨h, h4⟩
  · have hi : (224 : Int) < (p : Int) := by omega
    go_enter Try.func10, Try.ntmps10
    go_wp2
    go_ret
    first | exact ⟨rfl, Frm.refl _ _⟩ | exact ⟨ret_u32 (by rw [if_pos (.inl h)]), Frm.refl _ _, fun hn => absurd (.inl h) hn⟩
  · have hi : (p : Int) ≤ 224 := by omega
    have hj : (4 : Int) < (a : Int) + (b : Int) := by omega
    go_enter Try.func10, Try.ntmps10
    go_wp2
    go_ret
    first | exact ⟨rfl, Frm.refl _ _⟩ | exact ⟨ret_u32 (by rw [if_pos (.inr h4)]), Frm.refl _ _, fun hn => absurd (.inr h4) hn⟩
  · have hi : (p : Int) ≤ 224 := by omega
    have hj : (a : Int) + (b : Int) ≤ 4 := by omega
    go_enter Try.func10, Try.ntmps10
    go_wp2_with fail
    have hq : Pts (((w.setCell ⟨k0, 0, none⟩ (.int .i64 a)).setCell ⟨k0, 1, none⟩ (.int .i64 b)).setCell ⟨k0, 2, none⟩ (.int .i64 c)) k0 (qcells a b c st rep pr lv) T := by
      have h9 := ((HP.out.set 0 (.int .i64 (a : Int))).set 1 (.int .i64 (b : Int))).set 2 (.int .i64 (c : Int))
      rw [qcells_hdr] at h9
      exact h9
    have hf : Frm (· = k0) w (((w.setCell ⟨k0, 0, none⟩ (.int .i64 a)).setCell ⟨k0, 1, none⟩ (.int .i64 b)).setCell ⟨k0, 2, none⟩ (.int .i64 c)) :=
      (((Frm.refl (· = k0) w).setCell (p := ⟨k0, 0, none⟩) rfl _).setCell (p := ⟨k0, 1, none⟩) rfl _).setCell (p := ⟨k0, 2, none⟩) rfl _
    generalize (((w.setCell ⟨k0, 0, none⟩ (.int .i64 a)).setCell ⟨k0, 1, none⟩ (.int .i64 b)).setCell ⟨k0, 2, none⟩ (.int .i64 c)) = wa at *
    refine (mreset_any k0 a b c st rep pr lv T wa hq h4 HLV.out (CB4.out h)).mono ?_; rintro e w1 ⟨rfl, lb, g1, g2, g3, g4⟩
    have G2 := Lib.hid g2
    have G3 := Lib.hid g3
    have G4 := Lib.hid (hf.trans g4)
    have hlb := Nat.le_trans hf.size g1
    clear g2 g3 g4 hq hf g1
    go_wp2
    go_ret
    first | exact ⟨rfl, G4.out, lb, hlb, G2.out, G3.out⟩ | exact ⟨ret_u32 (by rw [if_neg (by omega)]), G4.out, fun _ => ⟨lb, hlb, G2.out, G3.out⟩⟩
end Go.Proofs.Yteghpnlamdgpnaa
