/- Texts of this proof, put together: LzL, LzM, LzN, U8. -/
import Derived.Test.YtffehfpbdcokbaaDoorChecked
import Derived.Test.YtffehfpbdcokbaaDoorBu8
set_option linter.unusedVariables false
set_option linter.unusedSimpArgs false
/- A state that is made; its settings. -/
namespace Go.Proofs.YtffehfpbdcokbaaDoor
open Go.RowKit Rng Lz
set_option linter.unusedVariables false
set_option linter.unusedSimpArgs false
theorem lreset_nil (w : World) : Calls Tryd.prog 10 #[.pointer none] w fun e w' => e = .returned (.tuple #[]) ∧ w = w' := by
  go_enter Tryd.func10, Tryd.ntmps10
  go_wp2
  go_end0
  exact ⟨rfl, rfl⟩
theorem lreset_st (k0 lc lp pb st : Nat) (rep : Nat → Nat) (pr : Pr) (lv : Value) (T : TypeId) (w : World) (hp : Pts w k0 (qcells lc lp pb st rep pr lv) T) (hcl : lc + lp ≤ 4) (hlv : ∃ A n c, lv = .slice A n c) (hpb : pb ≤ 4) :
    Calls Tryd.prog 10 #[.pointer (some ⟨k0, 0, none⟩)] w fun e w' => e = .returned (.tuple #[]) ∧ ∃ lb, w.heap.size ≤ lb ∧ Pts w' k0 (mcells ⟨k0, lb, lc, lp, pb⟩ 0 (fun _ => 0) (fun _ => 1024)) T ∧ Pts w' lb (lcells ⟨k0, lb, lc, lp, pb⟩ (fun _ => 1024)) 37 ∧ Frm (· = k0) w w' := by
  have HP := Lib.hid hp
  clear hp
  go_enter Tryd.func10, Tryd.ntmps10
  go_wp2_with fail
  refine (mreset_any k0 lc lp pb st rep pr lv T w HP.out hcl hlv hpb).mono ?_; rintro e w1 ⟨rfl, h1⟩
  have H1 := Lib.hid h1
  clear h1
  go_wp2
  go_end0
  exact ⟨rfl, H1.out⟩
theorem props_nil (p : Int) (w : World) (hp : 0 ≤ p ∧ p ≤ 255) : Calls Tryd.prog 9 #[.pointer none, .int .u8 p] w fun e w' => e = .returned (.int .i64 1) ∧ w = w' := by
  obtain ⟨n, rfl⟩ : ∃ n : Nat, p = n := ⟨p.toNat, by omega⟩
  have hn : n ≤ 255 := by omega
  clear hp
  go_enter Tryd.func9, Tryd.ntmps9
  go_wp2
  go_ret
  exact ⟨rfl, rfl⟩
end Go.Proofs.YtffehfpbdcokbaaDoor

/- A state that is made: the walk. -/
namespace Go.Proofs.YtffehfpbdcokbaaDoor
open Go.RowKit Rng Lz
set_option linter.unusedVariables false
set_option linter.unusedSimpArgs false
theorem fold_list : ∀ (l : List Value) (k : Nat) (Z : Array Value), k + l.length ≤ Z.size →
    ((l.zipIdx k).foldl (fun (cs : Array Value) x => cs.setIfInBounds x.2 x.1) Z).size = Z.size ∧ ∀ j, ((l.zipIdx k).foldl (fun (cs : Array Value) x => cs.setIfInBounds x.2 x.1) Z)[j]? = if k ≤ j ∧ j < k + l.length then l[j - k]? else Z[j]?
  | [], k, Z, h => ⟨rfl, fun j => by rw [if_neg (by simp only [List.length_nil]; omega)]; rfl⟩
  | v :: l, k, Z, h => by
    have h' : k + 1 + l.length ≤ (Z.setIfInBounds k v).size := by rw [Array.size_setIfInBounds]; simp only [List.length_cons] at h; omega
    obtain ⟨i1, i2⟩ := fold_list l (k + 1) (Z.setIfInBounds k v) h'
    simp only [List.zipIdx_cons, List.foldl_cons]
    refine ⟨by rw [i1, Array.size_setIfInBounds], fun j => ?_⟩
    rw [i2 j]
    simp only [List.length_cons] at h ⊢
    by_cases e : j = k
    · subst e
      rw [if_neg (by omega), if_pos (by omega), Nat.sub_self, Array.getElem?_setIfInBounds_self_of_lt (by omega)]
      rfl
    · by_cases e2 : k + 1 ≤ j ∧ j < k + 1 + l.length
      · rw [if_pos e2, if_pos (by omega), show j - k = (j - (k + 1)) + 1 by omega, List.getElem?_cons_succ]
      · rw [if_neg e2, if_neg (by omega), Array.getElem?_setIfInBounds_ne (fun h => e h.symm)]
theorem fold_all (X Z : Array Value) (n : Nat) (hx : X.size = n) (hz : Z.size = n) : Array.foldl (fun (cs : Array Value) x => cs.setIfInBounds x.2 x.1) Z X.zipIdx 0 n = X := by
  have hsz : X.zipIdx.size = n := by rw [Array.size_zipIdx, hx]
  rw [← hsz, ← Array.foldl_toList, Array.toList_zipIdx]
  obtain ⟨i1, i2⟩ := fold_list X.toList 0 Z (by rw [Array.length_toList]; omega)
  apply Array.ext_getElem?
  intro j
  rw [i2 j]
  by_cases e : j < X.size
  · rw [if_pos ⟨Nat.zero_le _, by rw [Array.length_toList]; omega⟩, Nat.sub_zero, Array.getElem?_toList]
  · rw [if_neg (by rw [Array.length_toList]; omega), Array.getElem?_eq_none (by omega), Array.getElem?_eq_none (by omega)]
theorem split_get (X Y : List Value) (a z : Value) (n : Nat) (hX : X.length = 8) {j : Nat} (h8 : 8 ≤ j) : (X ++ List.replicate n a ++ [z])[j]? = if j < 8 + n then some a else if j = 8 + n then some z else none := by
  by_cases h : j < 8 + n
  · rw [if_pos h, List.getElem?_append_left (by rw [List.length_append, List.length_replicate]; omega), List.getElem?_append_right (by omega), List.getElem?_replicate, if_pos (by omega)]
  · rw [if_neg h, List.getElem?_append_right (by rw [List.length_append, List.length_replicate]; omega), List.length_append, List.length_replicate, hX]
    by_cases e : j = 8 + n
    · subst e; rw [if_pos rfl, Nat.sub_self]; rfl
    · rw [if_neg e, List.getElem?_eq_none (by simp only [List.length_cons, List.length_nil]; omega)]
theorem zero_list : Tryd.zeroCells54.toList = (List.replicate 4 (Value.int .i64 0) ++ List.replicate 4 (Value.int .u32 0)) ++ List.replicate 1860 (Value.int .u16 0) ++ [Value.slice none 0 0] := by kernel_rfl
theorem zero55_size : Tryd.zeroCells54.size = 1869 := by kernel_rfl
theorem zero57_size : Tryd.zeroCells56.size = 1869 := by kernel_rfl
theorem zero_q : Tryd.zeroCells54 = qcells 0 0 0 0 (fun _ => 0) (fun _ => 0) (.slice none 0 0) := by
  refine qcells_eq zero55_size fun j hj => ?_
  rw [← Array.getElem?_toList, zero_list]
  have hX : (List.replicate 4 (Value.int .i64 0) ++ List.replicate 4 (Value.int .u32 0)).length = 8 := rfl
  obtain ⟨N, hN⟩ : ∃ N, N = 1860 := ⟨_, rfl⟩
  rw [← hN]
  unfold qcell
  by_cases h8 : j < 8
  · rw [List.append_assoc, List.getElem?_append_left (by rw [hX]; exact h8)]
    have a : j = 0 ∨ j = 1 ∨ j = 2 ∨ j = 3 ∨ j = 4 ∨ j = 5 ∨ j = 6 ∨ j = 7 := by omega
    rcases a with rfl | rfl | rfl | rfl | rfl | rfl | rfl | rfl <;> rfl
  · rw [split_get _ [] _ _ N hX (by omega), if_neg (show ¬ j = 0 by omega), if_neg (show ¬ j = 1 by omega), if_neg (show ¬ j = 2 by omega), if_neg (show ¬ j = 3 by omega), if_neg h8]
    by_cases hu : j < 1868
    · rw [if_pos (show j < 8 + N by omega), if_pos hu]; rfl
    · rw [if_neg (show ¬ j < 8 + N by omega), if_neg hu, if_pos (by omega)]
theorem made_q : (Tryd.zeroCells54.setIfInBounds 0 (.int .i64 3)).setIfInBounds 2 (.int .i64 2) = qcells 3 0 2 0 (fun _ => 0) (fun _ => 0) (.slice none 0 0) := by
  rw [zero_q]
  refine qcells_eq (by rw [Array.size_setIfInBounds, Array.size_setIfInBounds, qcells_size]) fun j hj => ?_
  by_cases e2 : j = 2
  · subst e2
    rw [Array.getElem?_setIfInBounds_self_of_lt (by rw [Array.size_setIfInBounds, qcells_size]; omega)]
    rfl
  · rw [Array.getElem?_setIfInBounds_ne (fun h => e2 h.symm)]
    by_cases e0 : j = 0
    · subst e0
      rw [Array.getElem?_setIfInBounds_self_of_lt (by rw [qcells_size]; omega)]
      rfl
    · rw [Array.getElem?_setIfInBounds_ne (fun h => e0 h.symm), qcells_get _ _ _ _ _ _ _ hj]
      unfold qcell
      simp only [if_neg e0, if_neg e2]
theorem made_all : Array.foldl (fun (cs : Array Value) x => cs.setIfInBounds x.2 x.1) Tryd.zeroCells56 ((Tryd.zeroCells54.setIfInBounds 0 (.int .i64 3)).setIfInBounds 2 (.int .i64 2)).zipIdx 0 1869 = qcells 3 0 2 0 (fun _ => 0) (fun _ => 0) (.slice none 0 0) := by
  rw [made_q]
  exact fold_all _ _ 1869 (qcells_size _ _ _ _ _ _ _) zero57_size
/-- Where a state lies that was made: lc 3, lp 0, pb 2. -/
def newK (sb lb : Nat) : LK := ⟨sb, lb, 3, 0, 2⟩
set_option maxRecDepth 100000 in
set_option maxHeartbeats 2000000 in
theorem lnew_p (w : World) : Calls Tryd.prog 5 #[] w fun e w' => ∃ b lb, e = .returned (.pointer (some ⟨b, 0, none⟩)) ∧ w.heap.size ≤ b ∧ w.heap.size ≤ lb ∧ b ≠ lb ∧
    Pts w' b (mcells (newK b lb) 0 (fun _ => 0) (fun _ => 1024)) 56 ∧ Pts w' lb (lcells (newK b lb) (fun _ => 1024)) 37 ∧ Below w.heap.size w w' := by
  have hma := made_all
  go_enter Tryd.func5, Tryd.ntmps5
  go_wp2_with fail
  have hp := Pts.new w (qcells 3 0 2 0 (fun _ => 0) (fun _ => 0) (.slice none 0 0)) 56
  have hb := (Below.refl w.heap.size w).alloc (Nat.le_refl _) (.cells (qcells 3 0 2 0 (fun _ => 0) (fun _ => 0) (.slice none 0 0)) 56)
  have hsz : (w.alloc (.cells (qcells 3 0 2 0 (fun _ => 0) (fun _ => 0) (.slice none 0 0)) 56)).heap.size = w.heap.size + 1 := by show (w.heap.push _).size = _; rw [Array.size_push]
  generalize w.alloc (.cells (qcells 3 0 2 0 (fun _ => 0) (fun _ => 0) (.slice none 0 0)) 56) = wa at *
  refine (lreset_st w.heap.size 3 0 2 0 _ _ _ 56 wa hp (by omega) ⟨none, 0, 0, rfl⟩ (by omega)).mono ?_; rintro e w1 ⟨rfl, lb, h1, h2, h3, f1⟩
  have H2 := Lib.hid h2
  have H3 := Lib.hid h3
  have B1 := Lib.hid (hb.trans (f1.below hb.size (fun q hq => by omega)))
  have hlb : w.heap.size < lb := by omega
  clear h2 h3 f1 hma
  go_wp2
  go_ret
  exact ⟨w.heap.size, lb, rfl, Nat.le_refl _, by omega, by omega, H2.out, H3.out, B1.out⟩
end Go.Proofs.YtffehfpbdcokbaaDoor

/- Settings: the walk. -/
namespace Go.Proofs.YtffehfpbdcokbaaDoor
open Go.RowKit Rng Lz
set_option linter.unusedVariables false
set_option linter.unusedSimpArgs false
theorem qcells_hdr (lc lp pb st lc' lp' pb' : Nat) (rep : Nat → Nat) (pr : Pr) (lv : Value) :
    (((qcells lc lp pb st rep pr lv).setIfInBounds 0 (.int .i64 (lc' : Int))).setIfInBounds 1 (.int .i64 (lp' : Int))).setIfInBounds 2 (.int .i64 (pb' : Int)) = qcells lc' lp' pb' st rep pr lv := by
  refine qcells_eq (by rw [Array.size_setIfInBounds, Array.size_setIfInBounds, Array.size_setIfInBounds, qcells_size]) fun j hj => ?_
  by_cases e2 : j = 2
  · subst e2
    rw [Array.getElem?_setIfInBounds_self_of_lt (by rw [Array.size_setIfInBounds, Array.size_setIfInBounds, qcells_size]; omega)]
    rfl
  rw [Array.getElem?_setIfInBounds_ne (fun h => e2 h.symm)]
  by_cases e1 : j = 1
  · subst e1
    rw [Array.getElem?_setIfInBounds_self_of_lt (by rw [Array.size_setIfInBounds, qcells_size]; omega)]
    rfl
  rw [Array.getElem?_setIfInBounds_ne (fun h => e1 h.symm)]
  by_cases e0 : j = 0
  · subst e0
    rw [Array.getElem?_setIfInBounds_self_of_lt (by rw [qcells_size]; omega)]
    rfl
  rw [Array.getElem?_setIfInBounds_ne (fun h => e0 h.symm), qcells_get _ _ _ _ _ _ _ hj]
  unfold qcell
  simp only [if_neg e0, if_neg e1, if_neg e2]
set_option maxRecDepth 100000 in
set_option maxHeartbeats 2000000 in
theorem props_p (p k0 lc lp pb st : Nat) (rep : Nat → Nat) (pr : Pr) (lv : Value) (T : TypeId) (w : World) (hp : Pts w k0 (qcells lc lp pb st rep pr lv) T) (hlv : ∃ A n c, lv = .slice A n c) (hb : p ≤ 255) :
    Calls Tryd.prog 9 #[.pointer (some ⟨k0, 0, none⟩), .int .u8 p] w fun e w' => e = .returned (.int .i64 (if 224 < p ∨ 4 < p % 9 + p / 9 % 5 then 11 else 0)) ∧ Frm (· = k0) w w' ∧
      (¬ (224 < p ∨ 4 < p % 9 + p / 9 % 5) → ∃ lb, w.heap.size ≤ lb ∧ Pts w' k0 (mcells ⟨k0, lb, p % 9, p / 9 % 5, p / 45⟩ 0 (fun _ => 0) (fun _ => 1024)) T ∧ Pts w' lb (lcells ⟨k0, lb, p % 9, p / 9 % 5, p / 45⟩ (fun _ => 1024)) 37) := by
  have HP := Lib.hid hp
  have HLV := Lib.hid hlv
  have d0 : w.cell? ⟨k0, 0, none⟩ = some (.int .i64 lc) := (hp.cell 0).trans (qcells_get lc lp pb st _ _ _ (i := 0) (by omega))
  have d1 : w.cell? ⟨k0, 1, none⟩ = some (.int .i64 lp) := (hp.cell 1).trans (qcells_get lc lp pb st _ _ _ (i := 1) (by omega))
  have d2 : w.cell? ⟨k0, 2, none⟩ = some (.int .i64 pb) := (hp.cell 2).trans (qcells_get lc lp pb st _ _ _ (i := 2) (by omega))
  have f0 := hp.frozen 0
  have f1 := hp.frozen 1
  have f2 := hp.frozen 2
  clear hp hlv
  obtain ⟨a, ha⟩ : ∃ a, p % 9 = a := ⟨_, rfl⟩
  obtain ⟨b1, hb1⟩ : ∃ a, p / 9 = a := ⟨_, rfl⟩
  obtain ⟨b, hbb⟩ : ∃ a, b1 % 5 = a := ⟨_, rfl⟩
  obtain ⟨c, hc⟩ : ∃ a, p / 45 = a := ⟨_, rfl⟩
  rw [ha, hb1, hbb, hc]
  have e1 : (p : Int) % 9 = (a : Int) := by omega
  have e2 : (p : Int) / 9 = (b1 : Int) := by omega
  have e3 : (b1 : Int) % 5 = (b : Int) := by omega
  have e4 : (p : Int) / 45 = (c : Int) := by omega
  have ab : a ≤ 8 := by omega
  have bb : b ≤ 4 := by omega
  have cb : c ≤ 5 := by omega
  have cb4 : p ≤ 224 → c ≤ 4 := by omega
  have CB4 := Lib.hid cb4
  clear ha hb1 hbb hc cb4
  have h3 : 224 < p ∨ (p ≤ 224 ∧ 4 < a + b) ∨ (p ≤ 224 ∧ a + b ≤ 4) := by omega
  rcases h3 with h | ⟨h, h4⟩ | ⟨h, h4⟩
  · have hi : (224 : Int) < (p : Int) := by omega
    go_enter Tryd.func9, Tryd.ntmps9
    go_wp2
    go_ret
    first | exact ⟨rfl, Frm.refl _ _⟩ | exact ⟨ret_u32 (by rw [if_pos (.inl h)]), Frm.refl _ _, fun hn => absurd (.inl h) hn⟩
  · have hi : (p : Int) ≤ 224 := by omega
    have hj : (4 : Int) < (a : Int) + (b : Int) := by omega
    go_enter Tryd.func9, Tryd.ntmps9
    go_wp2
    go_ret
    first | exact ⟨rfl, Frm.refl _ _⟩ | exact ⟨ret_u32 (by rw [if_pos (.inr h4)]), Frm.refl _ _, fun hn => absurd (.inr h4) hn⟩
  · have hi : (p : Int) ≤ 224 := by omega
    have hj : (a : Int) + (b : Int) ≤ 4 := by omega
    go_enter Tryd.func9, Tryd.ntmps9
    go_wp2_with fail
    have hq : Pts (((w.setCell ⟨k0, 0, none⟩ (.int .i64 a)).setCell ⟨k0, 1, none⟩ (.int .i64 b)).setCell ⟨k0, 2, none⟩ (.int .i64 c)) k0 (qcells a b c st rep pr lv) T := by
      have h9 := ((HP.out.set 0 (.int .i64 (a : Int))).set 1 (.int .i64 (b : Int))).set 2 (.int .i64 (c : Int))
      rw [qcells_hdr] at h9
      exact h9
    have hf : Frm (· = k0) w (((w.setCell ⟨k0, 0, none⟩ (.int .i64 a)).setCell ⟨k0, 1, none⟩ (.int .i64 b)).setCell ⟨k0, 2, none⟩ (.int .i64 c)) :=
      (((Frm.refl (· = k0) w).setCell (p := ⟨k0, 0, none⟩) rfl _).setCell (p := ⟨k0, 1, none⟩) rfl _).setCell (p := ⟨k0, 2, none⟩) rfl _
    generalize (((w.setCell ⟨k0, 0, none⟩ (.int .i64 a)).setCell ⟨k0, 1, none⟩ (.int .i64 b)).setCell ⟨k0, 2, none⟩ (.int .i64 c)) = wa at *
    refine (mreset_any k0 a b c st rep pr lv T wa hq h4 HLV.out (CB4.out h)).mono ?_; rintro e w1 ⟨rfl, lb, g1, g2, g3, g4⟩
    have G2 := Lib.hid g2
    have G3 := Lib.hid g3
    have G4 := Lib.hid (hf.trans g4)
    have hlb := Nat.le_trans hf.size g1
    clear g2 g3 g4 hq hf g1
    go_wp2
    go_ret
    first | exact ⟨rfl, G4.out, lb, hlb, G2.out, G3.out⟩ | exact ⟨ret_u32 (by rw [if_neg (by omega)]), G4.out, fun _ => ⟨lb, hlb, G2.out, G3.out⟩⟩
end Go.Proofs.YtffehfpbdcokbaaDoor

/- What the run-time knows of bytes. -/
namespace Go.Proofs.YtffehfpbdcokbaaDoor
theorem Tryd.info_u8 : (Tryd.prog.info? 5).map (fun i => (i.zero, i.size, i.bytes)) = some (some (.int .u8 0), 1, 1) := by kernel_rfl
end Go.Proofs.YtffehfpbdcokbaaDoor
