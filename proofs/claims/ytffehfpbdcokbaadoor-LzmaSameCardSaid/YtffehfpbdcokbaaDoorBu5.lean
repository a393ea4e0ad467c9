/- Texts of this proof, put together: LzG. -/
import Derived.Laws.CopyOwn
import Derived.Test.YtffehfpbdcokbaaDoorBu4
set_option linter.unusedVariables false
set_option linter.unusedSimpArgs false
/- The distances that are kept move on; the place. -/
namespace Go.Proofs.YtffehfpbdcokbaaDoor
open Go.RowKit Rng Lz
set_option linter.unusedVariables false
set_option linter.unusedSimpArgs false
def shiftN (rep : Nat → Nat) (n : Nat) : Nat → Nat := fun j => if 1 ≤ j ∧ j ≤ n then rep (j - 1) else rep j
theorem mcells_row (k : LK) (st : Nat) (rep : Nat → Nat) (pr : Pr) (n : Nat) (hn : n ≤ 3) :
    ((mcells k st rep pr).toList.take 5 ++ (List.range n).map (fun j => Value.int .u32 (rep j : Int)) ++ (mcells k st rep pr).toList.drop (5 + n)).toArray = mcells k st (shiftN rep n) pr := by
  have hsz : (mcells k st rep pr).size = 1869 := by simp [mcells]
  have hg : ∀ {j}, j < 1869 → (mcells k st rep pr).toList[j]? = some (mcell k st rep pr j) := fun {j} h => by rw [Array.getElem?_toList]; exact mcells_get k st rep pr h
  have key : ∀ j, j < 1869 → ((mcells k st rep pr).toList.take 5 ++ (List.range n).map (fun j => Value.int .u32 (rep j : Int)) ++ (mcells k st rep pr).toList.drop (5 + n))[j]? = some (mcell k st (shiftN rep n) pr j) := by
    intro j hj
    have l1 : ((mcells k st rep pr).toList.take 5).length = 5 := by rw [List.length_take, Array.length_toList, hsz]; rfl
    have l2 : ((List.range n).map (fun j => Value.int .u32 (rep j : Int))).length = n := by simp
    by_cases h5 : j < 5
    · rw [List.append_assoc, List.getElem?_append_left (by rw [l1]; exact h5), List.getElem?_take, if_pos h5, hg hj]
      unfold mcell shiftN
      by_cases h4 : j = 4
      · subst h4; rfl
      · have : ¬ (1 ≤ j - 4 ∧ j - 4 ≤ n) := by omega
        simp only [if_neg this]
    · by_cases h5n : j < 5 + n
      · rw [List.append_assoc, List.getElem?_append_right (by rw [l1]; omega), l1, List.getElem?_append_left (by rw [l2]; omega), List.getElem?_map, List.getElem?_range (by omega)]
        unfold mcell shiftN
        have a1 : ¬ j = 0 := by omega
        have a2 : ¬ j = 1 := by omega
        have a3 : ¬ j = 2 := by omega
        have a4 : ¬ j = 3 := by omega
        have a5 : j < 8 := by omega
        have a6 : 1 ≤ j - 4 ∧ j - 4 ≤ n := by omega
        rw [if_neg a1, if_neg a2, if_neg a3, if_neg a4, if_pos a5, if_pos a6]
        show some (Value.int .u32 (rep (j - 5) : Int)) = some (Value.int .u32 (rep (j - 4 - 1) : Int))
        rw [show j - 4 - 1 = j - 5 by omega]
      · rw [List.append_assoc, List.getElem?_append_right (by rw [l1]; omega), l1, List.getElem?_append_right (by rw [l2]; omega), l2, List.getElem?_drop, show 5 + n + (j - 5 - n) = j by omega, hg hj]
        unfold mcell shiftN
        have : ¬ (1 ≤ j - 4 ∧ j - 4 ≤ n) := by omega
        simp only [if_neg this]
  apply Array.ext
  · simp only [List.size_toArray, List.length_append, List.length_take, List.length_drop, List.length_map, List.length_range, Array.length_toList, hsz]
    simp only [mcells, Array.size_ofFn]; omega
  · intro j h1 h2
    have hj : j < 1869 := by simpa [mcells] using h2
    have e1 := key j hj
    have e2 := mcells_get k st (shiftN rep n) pr hj
    rw [Array.getElem?_eq_getElem h2] at e2
    rw [← List.getElem?_toArray, Array.getElem?_eq_getElem h1] at e1
    exact Option.some.inj (e1.trans e2.symm)
theorem Tryd.size_u32 : (Tryd.prog.info? 35).map (·.size) = some 1 := by kernel_rfl
section
variable {σ : Type} {CA : World → σ → Prop} {own : Nat → Prop} {T : TypeId} {w w' : World} {k : LK} {st : Nat} {rep : Nat → Nat} {s : CP σ}
theorem rep_copy (hk : KeepOK CA own) (h : LzAt CA own T w k st rep s) (n dc sc ty : Nat) (hn : n ≤ 3) :
    ∃ w', (Builtin.copy_ #[92, 92] ty #[.slice (some ⟨k.sb, 5, none⟩) n dc, .slice (some ⟨k.sb, 4, none⟩) n sc]).run Tryd.prog w = .ok (.int .i64 n) w' ∧ LzAt CA own T w' k st (shiftN rep n) s ∧ Frm (Wr own k) w w' := by
  have hh : w.heap[k.sb]? = some (.cells (mcells k st rep s.pr) T (0, 0)) := h.m
  have hsz : (mcells k st rep s.pr).size = 1869 := by simp [mcells]
  have hrun := run_copy_row (P := Tryd.prog) w 92 92 ty 35 k.sb 5 n dc ⟨k.sb, 4, none⟩ n sc (mcells k st rep s.pr) T ((List.range n).map (fun j => Value.int .u32 (rep j : Int))) Tryd.underlying92 Tryd.size_u32 hh
    (by simp) (by
      intro j v hj
      rw [List.getElem?_map] at hj
      by_cases hjn : j < n
      · rw [List.getElem?_range hjn] at hj
        simp only [Option.map_some, Option.some.injEq] at hj
        subst hj
        rw [Opn.add_at]
        rw [h.m.cell, mcells_get (i := 4 + j) _ _ _ _ (by omega)]
        unfold mcell
        rw [if_neg (by omega), if_neg (by omega), if_neg (by omega), if_neg (by omega), if_pos (by omega), Nat.add_sub_cancel_left]
      · rw [List.getElem?_eq_none (by simp; omega)] at hj; cases hj) (by rw [hsz]; simp; omega) (by
      intro v hv
      obtain ⟨j, _, rfl⟩ := List.mem_map.1 hv
      rfl)
  have hl : ((List.range n).map (fun j => Value.int .u32 (rep j : Int))).length = n := by simp
  rw [hl] at hrun
  rw [mcells_row k st rep s.pr n hn] at hrun
  obtain ⟨C, hC⟩ : ∃ C, mcells k st (shiftN rep n) s.pr = C := ⟨_, rfl⟩
  rw [hC] at hrun
  have hm := setRow_heap w k.sb _ C T (0, 0) hh
  clear hsz hl
  have hf : Frm (· = k.sb) w (w.setRow k.sb C) := ⟨rfl, rfl, rfl, by simp, fun q hq hne => setRow_other w k.sb q _ hne⟩
  refine ⟨_, hrun, ⟨hk _ _ _ _ h.c hf (fun q hq e => h.ne.1 (e ▸ hq)), ?_, h.l.frm hf (fun e => h.ne.2.2 e.symm), h.fit, h.ne⟩, hf.mono fun q _ e => .inr (.inl e)⟩
  rw [hC]
  exact hm
end
/-- The k-th distance is the first one. -/
def takeS (rep : Nat → Nat) (n : Nat) : Nat → Nat := fun j => if j = 0 then rep n else shiftN rep n j
set_option maxRecDepth 100000 in
set_option maxHeartbeats 1000000 in
theorem take_any {σ : Type} {CA : World → σ → Prop} {own : Nat → Prop} (hk : KeepOK CA own) (T : TypeId) (k : LK) (st n : Nat) (rep : Nat → Nat) (s : CP σ) (w : World) (h : LzAt CA own T w k st rep s) (hn : 1 ≤ n ∧ n ≤ 3) :
    Calls Tryd.prog 39 #[.pointer (some ⟨k.sb, 0, none⟩), .int .i64 n] w fun e w' => e = .returned (.tuple #[]) ∧ LzAt CA own T w' k st (takeS rep n) s ∧ Frm (Wr own k) w w' := by
  obtain ⟨n1, n3⟩ := hn
  have cn : w.cell? ⟨k.sb, 4 + n, none⟩ = some (.int .u32 (rep n)) := by
    rw [(h.hdr (i := 4 + n) (by omega)).1]
    unfold mcell
    rw [if_neg (by omega), if_neg (by omega), if_neg (by omega), if_neg (by omega), if_pos (by omega), Nat.add_sub_cancel_left]
  have AT := Lib.hid h
  have hni : (n : Int) < 4 := by omega
  obtain ⟨d, hd⟩ : ∃ d, rep n = d := ⟨_, rfl⟩
  rw [hd] at cn
  have HD := Lib.hid hd
  clear h hd
  have h123 : n = 1 ∨ n = 2 ∨ n = 3 := by omega
  rcases h123 with rfl | rfl | rfl
  · go_enter Tryd.func39, Tryd.ntmps39
    go_wp2
    refine QTail.wp_region_qtail_lit 11 (by kernel_rfl) (by kernel_rfl) ?_
    simp only [List.take_succ_cons, List.take_zero, List.drop_succ_cons, List.drop_zero]
    repeat (go_big_quiet_step (fail))
    refine wpQuiet_nil ?_
    rintro w' ⟨nr, rfl⟩
    obtain ⟨w5, hrun, h5, f5⟩ := rep_copy hk (AT.out.later hk ((Frm.refl _ w).drewN nr)) 1 3 4 3 (by omega)
    have z := (h5.hdr (i := 4) (by omega))
    unfold mcell at z
    have z1 := z.1
    have z2 := z.2
    simp only [Nat.reduceEqDiff, if_false, Nat.reduceLT, if_true, Nat.reduceSub] at z1
    have h6 := h5.putRep 0 d (by omega) hk
    have H6 := Lib.hid h6
    have F5 := Lib.hid (((Frm.refl _ w).drewN nr).trans f5)
    clear h5 f5 h6 z
    go_wp2
    go_end0
    rw [← HD.out] at H6 ⊢
    exact ⟨rfl, H6.out.1, F5.out.trans H6.out.2⟩
  · go_enter Tryd.func39, Tryd.ntmps39
    go_wp2
    refine QTail.wp_region_qtail_lit 11 (by kernel_rfl) (by kernel_rfl) ?_
    simp only [List.take_succ_cons, List.take_zero, List.drop_succ_cons, List.drop_zero]
    repeat (go_big_quiet_step (fail))
    refine wpQuiet_nil ?_
    rintro w' ⟨nr, rfl⟩
    obtain ⟨w5, hrun, h5, f5⟩ := rep_copy hk (AT.out.later hk ((Frm.refl _ w).drewN nr)) 2 3 4 3 (by omega)
    have z := (h5.hdr (i := 4) (by omega))
    unfold mcell at z
    have z1 := z.1
    have z2 := z.2
    simp only [Nat.reduceEqDiff, if_false, Nat.reduceLT, if_true, Nat.reduceSub] at z1
    have h6 := h5.putRep 0 d (by omega) hk
    have H6 := Lib.hid h6
    have F5 := Lib.hid (((Frm.refl _ w).drewN nr).trans f5)
    clear h5 f5 h6 z
    go_wp2
    go_end0
    rw [← HD.out] at H6 ⊢
    exact ⟨rfl, H6.out.1, F5.out.trans H6.out.2⟩
  · go_enter Tryd.func39, Tryd.ntmps39
    go_wp2
    refine QTail.wp_region_qtail_lit 11 (by kernel_rfl) (by kernel_rfl) ?_
    simp only [List.take_succ_cons, List.take_zero, List.drop_succ_cons, List.drop_zero]
    repeat (go_big_quiet_step (fail))
    refine wpQuiet_nil ?_
    rintro w' ⟨nr, rfl⟩
    obtain ⟨w5, hrun, h5, f5⟩ := rep_copy hk (AT.out.later hk ((Frm.refl _ w).drewN nr)) 3 3 4 3 (by omega)
    have z := (h5.hdr (i := 4) (by omega))
    unfold mcell at z
    have z1 := z.1
    have z2 := z.2
    simp only [Nat.reduceEqDiff, if_false, Nat.reduceLT, if_true, Nat.reduceSub] at z1
    have h6 := h5.putRep 0 d (by omega) hk
    have H6 := Lib.hid h6
    have F5 := Lib.hid (((Frm.refl _ w).drewN nr).trans f5)
    clear h5 f5 h6 z
    go_wp2
    go_end0
    rw [← HD.out] at H6 ⊢
    exact ⟨rfl, H6.out.1, F5.out.trans H6.out.2⟩
end Go.Proofs.YtffehfpbdcokbaaDoor
