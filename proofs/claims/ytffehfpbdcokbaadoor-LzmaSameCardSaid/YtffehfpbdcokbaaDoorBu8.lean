/- Texts of this proof, put together: LzK. -/
import Derived.Laws.MakeOwn
import Derived.RegionTactic
import Derived.Test.YtffehfpbdcokbaaDoorBu7
set_option linter.unusedVariables false
set_option linter.unusedSimpArgs false
/- A model as at first: the walk. -/
namespace Go.Proofs.YtffehfpbdcokbaaDoor
open Go.RowKit Rng Lz
set_option linter.unusedVariables false
set_option linter.unusedSimpArgs false
theorem Frm.transW {S T : Nat → Prop} {a b c : World} (h : Frm S a b) (k : Frm T b c) (hs : ∀ q, T q → q < a.heap.size → S q) : Frm S a c :=
  ⟨k.os.trans h.os, k.tape.trans h.tape, k.output.trans h.output, Nat.le_trans h.size k.size, fun q hq hS => (k.block q (Nat.lt_of_lt_of_le hq h.size) (fun ht => hS (hs q ht hq))).trans (h.block q hq hS)⟩
theorem qcells_st (lc lp pb st st' : Nat) (rep : Nat → Nat) (pr : Pr) (lv : Value) : (qcells lc lp pb st rep pr lv).setIfInBounds 3 (.int .i64 (st' : Int)) = qcells lc lp pb st' rep pr lv := by
  refine qcells_eq (by rw [Array.size_setIfInBounds, qcells_size]) fun j hj => ?_
  by_cases e : j = 3
  · subst e
    rw [Array.getElem?_setIfInBounds_self_of_lt (by rw [qcells_size]; omega)]; rfl
  · rw [Array.getElem?_setIfInBounds_ne (fun h => e h.symm), qcells_get _ _ _ _ _ _ _ hj]
    unfold qcell
    simp only [if_neg e]
theorem qcells_lv (lc lp pb st : Nat) (rep : Nat → Nat) (pr : Pr) (lv lv' : Value) : (qcells lc lp pb st rep pr lv).setIfInBounds 1868 lv' = qcells lc lp pb st rep pr lv' := by
  refine qcells_eq (by rw [Array.size_setIfInBounds, qcells_size]) fun j hj => ?_
  by_cases e : j = 1868
  · subst e
    rw [Array.getElem?_setIfInBounds_self_of_lt (by rw [qcells_size]; omega)]; rfl
  · rw [Array.getElem?_setIfInBounds_ne (fun h => e h.symm), qcells_get _ _ _ _ _ _ _ hj]
    unfold qcell
    by_cases h2 : j < 1868
    · simp only [if_pos h2]
    · omega
theorem qcells_rep (lc lp pb st : Nat) (rep : Nat → Nat) (pr : Pr) (lv : Value) {i : Nat} (h : i < 4) (v : Nat) : (qcells lc lp pb st rep pr lv).setIfInBounds (4 + i) (.int .u32 (v : Int)) = qcells lc lp pb st (fun j => if j = i then v else rep j) pr lv := by
  refine qcells_eq (by rw [Array.size_setIfInBounds, qcells_size]) fun j hj => ?_
  by_cases e : j = 4 + i
  · subst e
    rw [Array.getElem?_setIfInBounds_self_of_lt (by rw [qcells_size]; omega)]
    unfold qcell
    rw [if_neg (by omega), if_neg (by omega), if_neg (by omega), if_neg (by omega), if_pos (by omega)]
    simp
  · rw [Array.getElem?_setIfInBounds_ne (fun h => e h.symm), qcells_get _ _ _ _ _ _ _ hj]
    unfold qcell
    have : j < 8 → 4 ≤ j → ¬ j - 4 = i := fun _ _ => by omega
    by_cases h8 : j < 8
    · by_cases h4 : 4 ≤ j
      · simp only [if_neg (this h8 h4)]
      · have a : j = 0 ∨ j = 1 ∨ j = 2 ∨ j = 3 := by omega
        rcases a with rfl | rfl | rfl | rfl <;> rfl
    · simp only [if_neg h8]
theorem qcells_rep0 (lc lp pb st : Nat) (rep : Nat → Nat) (pr : Pr) (lv : Value) :
    ((((qcells lc lp pb st rep pr lv).setIfInBounds 4 (.int .u32 0)).setIfInBounds 5 (.int .u32 0)).setIfInBounds 6 (.int .u32 0)).setIfInBounds 7 (.int .u32 0) = qcells lc lp pb st (fun _ => 0) pr lv := by
  have h0 := qcells_rep lc lp pb st rep pr lv (i := 0) (by omega) 0
  have h1 := qcells_rep lc lp pb st (fun j => if j = 0 then 0 else rep j) pr lv (i := 1) (by omega) 0
  have h2 := qcells_rep lc lp pb st (fun j => if j = 1 then 0 else (if j = 0 then 0 else rep j)) pr lv (i := 2) (by omega) 0
  have h3 := qcells_rep lc lp pb st (fun j => if j = 2 then 0 else (if j = 1 then 0 else (if j = 0 then 0 else rep j))) pr lv (i := 3) (by omega) 0
  have e0 : (qcells lc lp pb st rep pr lv).setIfInBounds 4 (.int .u32 0) = _ := h0
  rw [e0]
  refine (congrArg (fun C => (Array.setIfInBounds C 6 (Value.int .u32 0)).setIfInBounds 7 (Value.int .u32 0)) h1).trans ?_
  refine (congrArg (fun C => Array.setIfInBounds C 7 (Value.int .u32 0)) h2).trans ?_
  refine h3.trans ?_
  apply qcells_eq (qcells_size _ _ _ _ _ _ _)
  intro j hj
  rw [qcells_get _ _ _ _ _ _ _ hj]
  unfold qcell
  by_cases h8 : j < 8
  · have a : j = 0 ∨ j = 1 ∨ j = 2 ∨ j = 3 ∨ j = 4 ∨ j = 5 ∨ j = 6 ∨ j = 7 := by omega
    rcases a with rfl | rfl | rfl | rfl | rfl | rfl | rfl | rfl <;> rfl
  · simp only [if_neg h8]
theorem Tryd.info_u16l : (Tryd.prog.info? 37).map (fun i => (i.zero, i.size, i.bytes)) = some (some (.int .u16 0), 1, 2) := by kernel_rfl
theorem make_tree (n : Nat) (hn : n ≤ 16777216) (w : World) :
    (Instr.makeSlice 52 (.int .i64 (n : Int)) (.int .i64 (n : Int))).run Tryd.prog w = .ok (.slice (some ⟨w.heap.size, 0, none⟩) n n) (w.alloc (.cells (madeCells #[.int .u16 0] n) 37)) := by
  obtain ⟨i, hi, hz⟩ := Option.map_eq_some_iff.1 Tryd.info_u16l
  simp only [Prod.mk.injEq] at hz
  have h := run_make (P := Tryd.prog) w 52 37 i (.int .u16 0) Tryd.underlying52 hi hz.1 .i64 .i64 n n (by omega) (by omega) (by rw [hz.2.2]; omega) (by omega)
  rw [hz.2.1] at h
  simp only [Int.toNat_natCast, Nat.mul_one] at h
  exact h
set_option maxRecDepth 100000 in
set_option maxHeartbeats 2000000 in
theorem mreset_any (k0 lc lp pb st : Nat) (rep : Nat → Nat) (pr : Pr) (lv : Value) (T : TypeId) (w : World) (hp : Pts w k0 (qcells lc lp pb st rep pr lv) T) (hcl : lc + lp ≤ 4) (hlv : ∃ A n c, lv = .slice A n c) (hpb : pb ≤ 4) :
    Calls Tryd.prog 18 #[.pointer (some ⟨k0, 0, none⟩)] w fun e w' => e = .returned (.tuple #[]) ∧ ∃ lb, w.heap.size ≤ lb ∧ Pts w' k0 (mcells ⟨k0, lb, lc, lp, pb⟩ 0 (fun _ => 0) (fun _ => 1024)) T ∧ Pts w' lb (lcells ⟨k0, lb, lc, lp, pb⟩ (fun _ => 1024)) 37 ∧ Frm (· = k0) w w' := by
  have hc := fun {i : Nat} (h : i < 8) => (hp.cell i).trans (qcells_get lc lp pb st rep pr lv (i := i) (by omega))
  have c3 : w.cell? ⟨k0, 3, none⟩ = some (.int .i64 st) := hc (i := 3) (by omega)
  have c4 : w.cell? ⟨k0, 4, none⟩ = some (.int .u32 (rep 0)) := hc (i := 4) (by omega)
  have c5 : w.cell? ⟨k0, 5, none⟩ = some (.int .u32 (rep 1)) := hc (i := 5) (by omega)
  have c6 : w.cell? ⟨k0, 6, none⟩ = some (.int .u32 (rep 2)) := hc (i := 6) (by omega)
  have c7 : w.cell? ⟨k0, 7, none⟩ = some (.int .u32 (rep 3)) := hc (i := 7) (by omega)
  have f3 := hp.frozen 3
  have f4 := hp.frozen 4
  have f5 := hp.frozen 5
  have f6 := hp.frozen 6
  have f7 := hp.frozen 7
  have HP := Lib.hid hp
  clear hp hc
  go_enter Tryd.func18, Tryd.ntmps18
  go_wp2_with fail
  have hq0 : Pts (((((w.setCell ⟨k0, 3, none⟩ (.int .i64 0)).setCell ⟨k0, 4, none⟩ (.int .u32 0)).setCell ⟨k0, 5, none⟩ (.int .u32 0)).setCell ⟨k0, 6, none⟩ (.int .u32 0)).setCell ⟨k0, 7, none⟩ (.int .u32 0)) k0 (qcells lc lp pb 0 (fun _ => 0) pr lv) T := by
    have h := ((((HP.out.set 3 (.int .i64 ((0 : Nat) : Int))).set 4 (.int .u32 0)).set 5 (.int .u32 0)).set 6 (.int .u32 0)).set 7 (.int .u32 0)
    rw [qcells_st, qcells_rep0] at h
    exact h
  have hf0 : Frm (· = k0) w (((((w.setCell ⟨k0, 3, none⟩ (.int .i64 0)).setCell ⟨k0, 4, none⟩ (.int .u32 0)).setCell ⟨k0, 5, none⟩ (.int .u32 0)).setCell ⟨k0, 6, none⟩ (.int .u32 0)).setCell ⟨k0, 7, none⟩ (.int .u32 0)) :=
    (((((Frm.refl (· = k0) w).setCell (p := ⟨k0, 3, none⟩) rfl _).setCell (p := ⟨k0, 4, none⟩) rfl _).setCell (p := ⟨k0, 5, none⟩) rfl _).setCell (p := ⟨k0, 6, none⟩) rfl _).setCell (p := ⟨k0, 7, none⟩) rfl _
  generalize (((((w.setCell ⟨k0, 3, none⟩ (.int .i64 0)).setCell ⟨k0, 4, none⟩ (.int .u32 0)).setCell ⟨k0, 5, none⟩ (.int .u32 0)).setCell ⟨k0, 6, none⟩ (.int .u32 0)).setCell ⟨k0, 7, none⟩ (.int .u32 0)) = wa at *
  have HQ0 := Lib.hid hq0
  have HF0 := Lib.hid hf0
  clear hq0 hf0 c3 c4 c5 c6 c7 f3 f4 f5 f6 f7 HP
  go_loopw [12] (fun iv wr => ∃ (i : Nat) (pq : Pr), iv = .int .i64 i ∧ i ≤ 12 ∧ Pts wr k0 (qcells lc lp pb 0 (fun _ => 0) pq lv) T ∧ Ev pq 8 (8 + i * 16) ∧ Ev pq 248 (248 + i * 16) ∧ Frm (· = k0) w wr) (fun iv _ => 12 - (intOf iv).toNat)
  case atStart => exact ⟨0, pr, rfl, by omega, HQ0.out, Ev.none _ (by omega), Ev.none _ (by omega), HF0.out⟩
  case round =>
    obtain ⟨i, pq, rfl, hi, hq, he1, he2, hf⟩ := hrel
    have HQ := Lib.hid hq
    have E1 := Lib.hid he1
    have E2 := Lib.hid he2
    have FR := Lib.hid hf
    clear hq he1 he2 hf HQ0 HF0
    by_cases hlt : i < 12
    · go_wp2_with fail
      refine (even_q k0 _ 16 _ lc lp pb 0 _ pq lv T _ HQ.out (by omega) (by omega)).mono ?_; rintro e w2 ⟨rfl, h2, f2⟩
      have H2 := Lib.hid h2
      have F2 := Lib.hid (FR.out.trans f2)
      clear h2 f2
      go_wp2_with fail
      refine (even_q k0 _ 16 _ lc lp pb 0 _ _ lv T _ H2.out (by omega) (by omega)).mono ?_; rintro e w3 ⟨rfl, h3, f3⟩
      have H3 := Lib.hid h3
      have F3 := Lib.hid (F2.out.trans f3)
      clear h3 f3
      go_wp2
      refine ⟨⟨i + 1, _, by go_num, by omega, H3.out, ?_, ?_, F3.out⟩, by simp [intOf]; omega⟩
      · have e := ((E1.out.mo (Mo.fill pq (8 + i * 16) 16)).more (Ev.fill pq (8 + i * 16) 16)).mo (Mo.fill (fillS pq (8 + i * 16) 16) (248 + i * 16) 16)
        rw [show 8 + (i + 1) * 16 = 8 + i * 16 + 16 by omega]
        exact e
      · have e := ((E2.out.mo (Mo.fill pq (8 + i * 16) 16)).mo (Mo.fill (fillS pq (8 + i * 16) 16) (248 + i * 16) 16)).more (Ev.fill (fillS pq (8 + i * 16) 16) (248 + i * 16) 16)
        rw [show 248 + (i + 1) * 16 = 248 + i * 16 + 16 by omega]
        exact e
    · obtain rfl : i = 12 := by omega
      go_wp2_with fail
      refine (even_q k0 200 12 _ lc lp pb 0 _ pq lv T _ HQ.out (by omega) (by omega)).mono ?_; rintro e w2 ⟨rfl, h2, f2⟩
      have H2 := Lib.hid h2
      have F2 := Lib.hid (FR.out.trans f2)
      have G1 : Hid (Ev (fillS pq 200 12) 8 212) := Lib.hid ((E1.out.mo (Mo.fill pq 200 12)).more (Ev.fill pq 200 12))
      have G2 : Hid (Ev (fillS pq 200 12) 248 440) := Lib.hid (E2.out.mo (Mo.fill pq 200 12))
      generalize fillS pq 200 12 = p2 at H2 G1 G2
      clear h2 f2 HQ E1 E2 FR
      go_wp2
      go_loopw [35] (fun iv wr => ∃ (i : Nat) (pq : Pr), iv = .int .i64 i ∧ i ≤ 3 ∧ Pts wr k0 (qcells lc lp pb 0 (fun _ => 0) pq lv) T ∧ Ev pq 8 (212 + i * 12) ∧ Ev pq 248 440 ∧ Frm (· = k0) w wr) (fun iv _ => 3 - (intOf iv).toNat)
      case atStart => exact ⟨0, p2, rfl, by omega, H2.out, G1.out, G2.out, F2.out⟩
      case round =>
        obtain ⟨i, pq, rfl, hi, hq, he1, he2, hf⟩ := hrel
        have HQ := Lib.hid hq
        have E1 := Lib.hid he1
        have E2 := Lib.hid he2
        have FR := Lib.hid hf
        clear hq he1 he2 hf H2 F2 G1 G2
        by_cases hlt : i < 3
        · go_wp2_with fail
          refine (even_q k0 _ 12 _ lc lp pb 0 _ pq lv T _ HQ.out (by omega) (by omega)).mono ?_; rintro e w2 ⟨rfl, h2, f2⟩
          have H2 := Lib.hid h2
          have F2 := Lib.hid (FR.out.trans f2)
          clear h2 f2
          go_wp2
          refine ⟨⟨i + 1, _, by go_num, by omega, H2.out, ?_, E2.out.mo (Mo.fill _ _ _), F2.out⟩, by simp [intOf]; omega⟩
          have e := (E1.out.mo (Mo.fill pq (212 + i * 12) 12)).more (Ev.fill pq (212 + i * 12) 12)
          rw [show 212 + (i + 1) * 12 = 212 + i * 12 + 12 by omega]
          exact e
        · obtain rfl : i = 3 := by omega
          have G1 : Hid (Ev pq 8 440) := Lib.hid (E1.out.more E2.out)
          clear E1 E2
          go_wp2
          go_loopw [46] (fun iv wr => ∃ (i : Nat) (pq : Pr), iv = .int .i64 i ∧ i ≤ 4 ∧ Pts wr k0 (qcells lc lp pb 0 (fun _ => 0) pq lv) T ∧ Ev pq 8 (440 + i * 64) ∧ Frm (· = k0) w wr) (fun iv _ => 4 - (intOf iv).toNat)
          case atStart => exact ⟨0, pq, rfl, by omega, HQ.out, G1.out, FR.out⟩
          case round =>
            obtain ⟨i, pq, rfl, hi, hq, he1, hf⟩ := hrel
            have HQ2 := Lib.hid hq
            have E1 := Lib.hid he1
            have FR2 := Lib.hid hf
            clear hq he1 hf HQ G1 FR
            by_cases hlt : i < 4
            · go_wp2_with fail
              refine (even_q k0 _ 64 _ lc lp pb 0 _ pq lv T _ HQ2.out (by omega) (by omega)).mono ?_; rintro e w2 ⟨rfl, h2, f2⟩
              have H2 := Lib.hid h2
              have F2 := Lib.hid (FR2.out.trans f2)
              clear h2 f2
              go_wp2
              have e := (E1.out.mo (Mo.fill pq (440 + i * 64) 64)).more (Ev.fill pq (440 + i * 64) 64)
              rw [show 440 + i * 64 + 64 = 440 + (i + 1) * 64 by omega] at e
              refine ⟨?_, by simp [intOf]; omega⟩
              repeat apply Exists.intro
              exact ⟨⟨i + 1, _, rfl, by omega, H2.out, e, F2.out⟩, rfl⟩
            · obtain rfl : i = 4 := by omega
              go_wp2_with fail
              refine (even_q k0 696 128 _ lc lp pb 0 _ pq lv T _ HQ2.out (by omega) (by omega)).mono ?_; rintro e w2 ⟨rfl, h2, f2⟩
              have H2 := Lib.hid h2
              have F2 := Lib.hid (FR2.out.trans f2)
              have G1 : Hid (Ev (fillS pq 696 128) 8 824) := Lib.hid ((E1.out.mo (Mo.fill pq 696 128)).more (Ev.fill pq 696 128))
              generalize fillS pq 696 128 = p2 at H2 G1
              clear h2 f2 HQ2 E1 FR2
              go_wp2_with fail
              refine (even_q k0 824 16 _ lc lp pb 0 _ p2 lv T _ H2.out (by omega) (by omega)).mono ?_; rintro e w3 ⟨rfl, h3, f3⟩
              have H3 := Lib.hid h3
              have F3 := Lib.hid (F2.out.trans f3)
              have G3 : Hid (Ev (fillS p2 824 16) 8 840) := Lib.hid ((G1.out.mo (Mo.fill p2 824 16)).more (Ev.fill p2 824 16))
              generalize fillS p2 824 16 = p3 at H3 G3
              clear h3 f3 H2 F2 G1
              go_wp2_with fail
              refine (lreset_any k0 840 lc lp pb 0 _ p3 lv T _ H3.out (.inl rfl)).mono ?_; rintro e w4 ⟨rfl, ⟨p4, h4, m4, e4⟩, f4⟩
              have H4 := Lib.hid h4
              have F4 := Lib.hid (F3.out.trans f4)
              have G4 : Hid (Ev p4 8 1354) := Lib.hid ((G3.out.mo m4).more e4)
              clear h4 f4 m4 e4 H3 F3 G3
              go_wp2_with fail
              refine (lreset_any k0 1354 lc lp pb 0 _ p4 lv T _ H4.out (.inr rfl)).mono ?_; rintro e w5 ⟨rfl, ⟨p5, h5, m5, e5⟩, f5⟩
              have F5 := Lib.hid (F4.out.trans f5)
              have G5 : Hid (Ev p5 8 1868) := Lib.hid ((G4.out.mo m5).more e5)
              have hq5 : Pts w5 k0 (qcells lc lp pb 0 (fun _ => 0) (fun _ => 1024) lv) T := by
                have e : qcells lc lp pb 0 (fun _ => 0) p5 lv = qcells lc lp pb 0 (fun _ => 0) (fun _ => 1024) lv := by
                  refine qcells_eq (qcells_size _ _ _ _ _ _ _) fun j hj => ?_
                  rw [qcells_get _ _ _ _ _ _ _ hj]
                  unfold qcell
                  by_cases h8 : 8 ≤ j ∧ j < 1868
                  · rw [G5.out j h8.1 h8.2]
                  · by_cases h9 : j < 8
                    · simp only [if_pos h9]
                    · have : ¬ j < 1868 := by omega
                      simp only [if_neg this]
                rw [← e]; exact h5
              have H5 := Lib.hid hq5
              have c0 : w5.cell? ⟨k0, 0, none⟩ = some (.int .i64 lc) := (hq5.cell 0).trans (qcells_get lc lp pb 0 _ _ lv (i := 0) (by omega))
              have c1 : w5.cell? ⟨k0, 1, none⟩ = some (.int .i64 lp) := (hq5.cell 1).trans (qcells_get lc lp pb 0 _ _ lv (i := 1) (by omega))
              have c9 : w5.cell? ⟨k0, 1868, none⟩ = some lv := (hq5.cell 1868).trans (qcells_get lc lp pb 0 _ _ lv (i := 1868) (by omega))
              have f9 := hq5.frozen 1868
              clear h5 f5 m5 e5 H4 F4 G4 hq5
              obtain ⟨A9, n9, c9v, rfl⟩ := hlv
              obtain ⟨E, hE⟩ : ∃ E, lc + lp = E := ⟨_, rfl⟩
              have hEi : (lc : Int) + (lp : Int) = (E : Int) := by omega
              have hPle : 2 ^ E ≤ 2 ^ 4 := Nat.pow_le_pow_right (by omega) (by omega)
              obtain ⟨P, hP⟩ : ∃ P, 2 ^ E = P := ⟨_, rfl⟩
              have hPi : (2 : Int) ^ E = (P : Int) := by rw [← hP]; simp
              rw [hP] at hPle
              obtain ⟨L, hL⟩ : ∃ L, 768 * P = L := ⟨_, rfl⟩
              have hLi : (768 : Int) * (P : Int) = (L : Int) := by omega
              have hLb : L ≤ 12288 := by omega
              have hEu : IntKind.u64.wrap (E : Int) = (E : Int) := Go.IntWalk.u64_in _ (by omega)
              have hEw : IntKind.i64.wrap (E : Int) = (E : Int) := Go.IntWalk.i64_in _ (by omega)
              have hE64 : min E 64 = E := by omega
              have hLw : IntKind.i64.wrap (L : Int) = (L : Int) := Go.IntWalk.i64_in _ (by omega)
              have hmk := make_tree L (by omega)
              have HLL : Hid (∀ lb, (⟨k0, lb, lc, lp, pb⟩ : LK).L = L) := Lib.hid (fun lb => by unfold LK.L; simp only; rw [hE, hP, hL])
              clear hE hP hL
              have hpa := H5.out.alloc (.cells (madeCells #[.int .u16 0] L) 37)
              have c9a : (w5.alloc (.cells (madeCells #[.int .u16 0] L) 37)).cell? ⟨k0, 1868, none⟩ = some (.slice A9 n9 c9v) := (hpa.cell 1868).trans (qcells_get lc lp pb 0 _ _ _ (i := 1868) (by omega))
              have f9a := hpa.frozen 1868
              have HPA := Lib.hid hpa
              have hk0 := H5.out.lt
              clear hpa
              go_wp2
              go_region
              all_goals
                obtain ⟨lb, hlb⟩ : ∃ lb, w5.heap.size = lb := ⟨_, rfl⟩
                have h6 := ((H5.out.set 1868 (.slice (some ⟨lb, 0, none⟩) L L)).alloc (.cells (madeCells #[.int .u16 0] L) 37)).drew
                rw [qcells_lv] at h6
                have h7 := (Pts.new (w5.setCell ⟨k0, 1868, none⟩ (.slice (some ⟨lb, 0, none⟩) L L)) (madeCells #[.int .u16 0] L) 37).drew
                have hsz : (w5.setCell ⟨k0, 1868, none⟩ (.slice (some ⟨lb, 0, none⟩) L L)).heap.size = lb := by show (w5.heap.modify _ _).size = _; simp only [Array.size_modify]; exact hlb
                rw [hsz] at h7
                have f6 := ((F5.out.setCell (p := ⟨k0, 1868, none⟩) rfl (.slice (some ⟨lb, 0, none⟩) L L)).alloc (.cells (madeCells #[.int .u16 0] L) 37)).drew
                simp only [hlb]
                generalize ((w5.setCell ⟨k0, 1868, none⟩ (.slice (some ⟨lb, 0, none⟩) L L)).alloc (.cells (madeCells #[.int .u16 0] L) 37)).drew = w6 at *
                have d9 : w6.cell? ⟨k0, 1868, none⟩ = some (.slice (some ⟨lb, 0, none⟩) L L) := (h6.cell 1868).trans (qcells_get lc lp pb 0 _ _ _ (i := 1868) (by omega))
                have H6 := Lib.hid h6
                have H7 := Lib.hid h7
                have F6 := Lib.hid f6
                have hlb0 : w.heap.size ≤ lb := by rw [← hlb]; exact F5.out.size
                clear h6 h7 f6 HPA hsz hmk c9 f9 c9a f9a c0 c1
                go_wp2_with fail
                refine (even_any lb 0 L _ _ _ _ H7.out (by rw [size_madeCells]; omega) (by omega)).mono ?_; rintro e w7 ⟨rfl, ⟨C', h8, he8⟩, f8⟩
                have hC : C' = lcells ⟨k0, lb, lc, lp, pb⟩ (fun _ => 1024) := by
                  have hcs : C'.size = L := by rw [he8.1, size_madeCells]
                  apply Array.ext
                  · rw [hcs]; simp only [lcells, Array.size_ofFn]; exact (HLL.out lb).symm
                  · intro j h1 h2
                    have hj : j < L := by rw [hcs] at h1; exact h1
                    have e1 := he8.2 j
                    rw [if_pos ⟨Nat.zero_le _, by omega⟩, Array.getElem?_eq_getElem h1] at e1
                    have e2 := lcells_get ⟨k0, lb, lc, lp, pb⟩ (fun _ => 1024) (j := j) (by rw [HLL.out lb]; exact hj)
                    rw [Array.getElem?_eq_getElem h2] at e2
                    exact (Option.some.inj e1).trans (Option.some.inj e2).symm
                subst hC
                have H8 := Lib.hid h8
                have H9 := Lib.hid (H6.out.frm f8 (by intro e; omega))
                have F8 := Lib.hid (F6.out.transW f8 (fun q hq hqw => by omega))
                clear h8 he8 f8
                go_wp2
                go_end0
                refine ⟨rfl, lb, hlb0, ?_, H8.out, F8.out⟩
                have e := qcells_m ⟨k0, lb, lc, lp, pb⟩ 0 (fun _ => 0) (fun _ => 1024)
                rw [HLL.out lb] at e
                rw [← e]
                exact H9.out
end Go.Proofs.YtffehfpbdcokbaaDoor
