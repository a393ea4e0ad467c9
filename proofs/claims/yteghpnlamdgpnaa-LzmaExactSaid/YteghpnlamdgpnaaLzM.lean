/- A state that is made: the walk. -/
import Derived.Test.YteghpnlamdgpnaaLzL
namespace Go.Proofs.Yteghpnlamdgpnaa
open Go.RowKit Rng Lz
set_option linter.unusedVariables false
set_option linter.unusedSimpArgs false
theorem fold_list : ∀ (l : List Value) (k : Nat) (Z : Array Value), k + l.length ≤ Z.size →
    ((l.zipIdx k).foldl (fun (cs : Array Value) x => cs.setIfInBounds x.2 x.1) Z).size = Z.size ∧ ∀ j, ((l.zipIdx k).foldl (fun (cs : Array Value) x => cs.setIfInBounds x.2 x.1) Z)[j]? = if k ≤ j ∧ j < k + l.length then l[j - k]? else Z[j]?
  | [], k, Z, h => ⟨rfl, fun j => by rw [if_neg (by simp only [List.length_nil]; omega)]; rfl⟩
  | v :: l, k, Z, h => by
    have h' : k + 1 + l.length ≤ (Z.setIfInBounds k v).size := by rw [Array.size_setIfInBounds]; simp only [List.length_cons] at h; omega
    obtain ⟨i1, i2⟩ := fold_list l (k + 1) (Z.setIfInBounds k v) h'
    simp only [List.zipIdx_cons, List.foldl_cons]
    refine ⟨by rw [i1, Array.size_setIfInBounds], fun j => ?_⟩
    rw [i2 j]
    simp only [List.length_cons] at h ⊢
    by_cases e : j = k
    · subst e
      rw [if_neg (by omega), if_pos (by omega), Nat.sub_self, Array.getElem?_setIfInBounds_self_of_lt (by omega)]
      rfl
    · by_cases e2 : k + 1 ≤ j ∧ j < k + 1 + l.length
      · rw [if_pos e2, if_pos (by omega), show j - k = (j - (k + 1)) + 1 by omega, List.getElem?_cons_succ]
      · rw [if_neg e2, if_neg (by omega), Array.getElem?_setIfInBounds_ne (fun h => e h.symm)]
theorem fold_all (X Z : Array Value) (n : Nat) (hx : X.size = n) (hz : Z.size = n) : Array.foldl (fun (cs : Array Value) x => cs.setIfInBounds x.2 x.1) Z X.zipIdx 0 n = X := by
  have hsz : X.zipIdx.size = n := by rw [Array.size_zipIdx, hx]
  rw [← hsz, ← Array.foldl_toList, Array.toList_zipIdx]
  obtain ⟨i1, i2⟩ := fold_list X.toList 0 Z (by rw [Array.length_toList]; omega)
  apply Array.ext_getElem?
  intro j
  rw [i2 j]
  by_cases e : j < X.size
  · rw [if_pos ⟨Nat.zero_le _, by rw [Array.length_toList]; omega⟩, Nat.sub_zero, Array.getElem?_toList]
  · rw [if_neg (by rw [Array.length_toList]; omega), Array.getElem?_eq_none (by omega), Array.getElem?_eq_none (by omega)]
theorem split_get (X Y : List Value) (a z : Value) (n : Nat) (hX : X.length = 8) {j : Nat} (h8 : 8 ≤ j) : (X ++ List.replicate n a ++ [z])[j]? = if j < 8 + n then some a else if j = 8 + n then some z else none := by
  by_cases h : j < 8 + n
  · rw [if_pos h, List.getElem?_append_left (by rw [List.length_append, List.length_replicate]; omega), List.getElem?_append_right (by omega), List.getElem?_replicate, if_pos (by omega)]
  · rw [if_neg h, List.getElem?_append_right (by rw [List.length_append, List.length_replicate]; omega), List.length_append, List.length_replicate, hX]
    by_cases e : j = 8 + n
    · subst e; rw [if_pos rfl, Nat.sub_self]; rfl
    · rw [if_neg e, List.getElem?_eq_none (by simp only [List.length_cons, List.length_nil]; omega)]
theorem zero_list : Try.zeroCells55.toList = (List.replicate 4 (Value.int .i64 0) ++ List.replicate 4 (Value.int .u32 0)) ++ List.replicate 1860 (Value.int .u16 0) ++ [Value.slice none 0 0] := by kernel_rfl
theorem zero55_size : Try.zeroCells55.size = 1869 := by kernel_rfl
theorem zero57_size : Try.zeroCells57.size = 1869 := by kernel_rfl
theorem zero_q : Try.zeroCells55 = qcells 0 0 0 0 (fun _ => 0) (fun _ => 0) (.slice none 0 0) := by
  refine qcells_eq zero55_size fun j hj => ?_
  rw [← Array.getElem?_toList, zero_list]
  have hX : (List.replicate 4 (Value.int .i64 0) ++ List.replicate 4 (Value.int .u32 0)).length = 8 := rfl
  obtain ⟨N, hN⟩ : ∃ N, N = 1860 := ⟨_, rfl⟩
  rw [← hN]
  unfold qcell
  by_cases h8 : j < 8
  · rw [List.append_assoc, List.getElem?_append_left (by rw [hX]; exact h8)]
    have a : j = 0 ∨ j = 1 ∨ j = 2 ∨ j = 3 ∨ j = 4 ∨ j = 5 ∨ j = 6 ∨ j = 7 := by omega
    rcases a with rfl | rfl | rfl | rfl | rfl | rfl | rfl | rfl <;> rfl
  · rw [split_get _ [] _ _ N hX (by omega), if_neg (show ¬ j = 0 by omega), if_neg (show ¬ j = 1 by omega), if_neg (show ¬ j = 2 by omega), if_neg (show ¬ j = 3 by omega), if_neg h8]
    by_cases hu : j < 1868
    · rw [if_pos (show j < 8 + N by omega), if_pos hu]; rfl
    · rw [if_neg (show ¬ j < 8 + N by omega), if_neg hu, if_pos (by omega)]
theorem made_q : (Try.zeroCells55.setIfInBounds 0 (.int .i64 3)).setIfInBounds 2 (.int .i64 2) = qcells 3 0 2 0 (fun _ => 0) (fun _ => 0) (.slice none 0 0) := by
  rw [zero_q]
  refine qcells_eq (by rw [Array.size_setIfInBounds, Array.size_setIfInBounds, qcells_size]) fun j hj => ?_
  by_cases e2 : j = 2
  · subst e2
    rw [Array.getElem?_setIfInBounds_self_of_lt (by rw [Array.size_setIfInBounds, qcells_size]; omega)]
    rfl
  · rw [Array.getElem?_setIfInBounds_ne (fun h => e2 h.symm)]
    by_cases e0 : j = 0
    · subst e0
      rw [Array.getElem?_setIfInBounds_self_of_lt (by rw [qcells_size]; omega)]
      rfl
    · rw [Array.getElem?_setIfInBounds_ne (fun h => e0 h.symm), qcells_get _ _ _ _ _ _ _ hj]
      unfold qcell
      simp only [if_neg e0, if_neg e2]
theorem made_all : Array.foldl (fun (cs : Array Value) x => cs.setIfInBounds x.2 x.1) Try.zeroCells57 ((Try.zeroCells55.setIfInBounds 0 (.int .i64 3)).setIfInBounds 2 (.int .i64 2)).zipIdx 0 1869 = qcells 3 0 2 0 (fun _ => 0) (fun _ => 0) (.slice none 0 0) := by
  rw [made_q]
  exact fold_all _ _ 1869 (qcells_size _ _ _ _ _ _ _) zero57_size
/-- Where a state lies that was made: lc 3, lp 0, pb 2. -/
def newK (sb lb : Nat) : LK := ⟨sb, lb, 3, 0, 2⟩
set_option maxRecDepth 100000 in
set_option maxHeartbeats 2000000 in
theorem lnew_p (w : World) : Calls Try.prog 9 #[] w fun e w' => ∃ b lb, e = .returned (.pointer (some ⟨b, 0, none⟩)) ∧ w.heap.size ≤ b ∧ w.heap.size ≤ lb ∧ b ≠ lb ∧
    Pts w' b (mcells (newK b lb) 0 (fun _ => 0) (fun _ => 1024)) 57 ∧ Pts w' lb (lcells (newK b lb) (fun _ => 1024)) 38 ∧ Below w.heap.size w w' := by
  have hma := made_all
  go_enter Try.func9, Try.ntmps9
  go_wp2_with fail
  have hp := Pts.new w (qcells 3 0 2 0 (fun _ => 0) (fun _ => 0) (.slice none 0 0)) 57
  have hb := (Below.refl w.heap.size w).alloc (Nat.le_refl _) (.cells (qcells 3 0 2 0 (fun _ => 0) (fun _ => 0) (.slice none 0 0)) 57)
  have hsz : (w.alloc (.cells (qcells 3 0 2 0 (fun _ => 0) (fun _ => 0) (.slice none 0 0)) 57)).heap.size = w.heap.size + 1 := by show (w.heap.push _).size = _; rw [Array.size_push]
  generalize w.alloc (.cells (qcells 3 0 2 0 (fun _ => 0) (fun _ => 0) (.slice none 0 0)) 57) = wa at *
  refine (lreset_st w.heap.size 3 0 2 0 _ _ _ 57 wa hp (by omega) ⟨none, 0, 0, rfl⟩ (by omega)).mono ?_; rintro e w1 ⟨rfl, lb, h1, h2, h3, f1⟩
  have H2 := Lib.hid h2
  have H3 := Lib.hid h3
  have B1 := Lib.hid (hb.trans (f1.below hb.size (fun q hq => by omega)))
  have hlb : w.heap.size < lb := by omega
  clear h2 h3 f1 hma
  go_wp2
  go_ret
  exact ⟨w.heap.size, lb, rfl, Nat.le_refl _, by omega, by omega, H2.out, H3.out, B1.out⟩
end Go.Proofs.Yteghpnlamdgpnaa
