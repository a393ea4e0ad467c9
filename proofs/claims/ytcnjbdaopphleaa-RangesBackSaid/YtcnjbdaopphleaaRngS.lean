/- The walk of RangesWrites. -/
import Derived.Test.YtcnjbdaopphleaaRngR
import Derived.Test.YtcnjbdaopphleaaRActs
namespace Go.Proofs.Ytcnjbdaopphleaa
open Go.RowKit Rng
set_option linter.unusedVariables false
set_option linter.unusedSimpArgs false
theorem and3_mod {x : Nat} (h : x < 4294967296) : bits .and .u32 (x : Int) 3 = ((x % 4 : Nat) : Int) := by
  have e1 : x < Num.M32 := h
  have e2 : 3 < Num.M32 := by unfold Num.M32; omega
  have h1 := Num.and32 e1 e2
  rw [show (3 : Nat) = 2 ^ 2 - 1 by rfl, Nat.and_two_pow_sub_one_eq_mod] at h1
  exact h1
theorem close_cnt (e : Enc) : e.close.cnt ≤ e.cnt + 5 := by
  cases h : e.closed with
  | true => rw [close_shut h]; omega
  | false =>
    rw [close_open h]
    show (e.shifts 5).out.length + (e.shifts 5).more ≤ _
    have h9 : (e.shifts 5).cnt = e.cnt + 5 := by
      show (e.shift.shift.shift.shift.shift).cnt = _
      rw [Enc.shift_cnt, Enc.shift_cnt, Enc.shift_cnt, Enc.shift_cnt, Enc.shift_cnt]
    unfold Rng.Enc.cnt at h9 ⊢
    omega
theorem count_le (n : Int) : count n ≤ 32 := by unfold count; omega
theorem drawnFrm (w : World) (n : Nat) : Frm (fun _ => False) w (w.drewN n) := (Frm.refl _ w).drewN n
set_option maxRecDepth 100000 in
set_option maxHeartbeats 8000000 in
theorem lawWrites10 (A1 : Option Addr) (n1 c1 : Nat) (f1 : Nat → Int) (A2 : Option Addr) (l : List RAct) (n2 c2 : Nat) (w : World)
    (j1 : n1 ≤ c1) (j2 : c1 ≤ maxLen) (j3 : Opn.RowAt w w.heap.size A1 n1 fun i => .int .u16 (f1 i)) (j4 : ∀ i, i < n1 → 0 ≤ f1 i ∧ f1 i ≤ 65535)
    (k1 : n2 = l.length) (k2 : l.length ≤ c2) (k3 : c2 ≤ maxLen) (k4 : RActRow w w.heap.size A2 l) (k5 : ∀ s ∈ l, s.Fits) :
    Calls Try.prog 4 #[.slice A1 n1 c1, .slice A2 n2 c2] w fun e w' => e = .returned (.bool true) ∧ Below w.heap.size w w' := by
  obtain ⟨cl, rfl, hq, hcb⟩ := HRow.of_row j3 j4
  subst k1
  have HQ := Lib.hid hq
  have HCB := Lib.hid hcb
  have HA := Lib.hid k4
  have HF := Lib.hid k5
  clear j3 j4 hq hcb k4 k5
  by_cases hmain : cl.length ≤ 200 ∧ l.length ≤ 2000
  · obtain ⟨m2, m3⟩ := hmain
    go_enter Try.func4, Try.ntmps4
    go_wp2_with fail
    refine (enew_p _).mono ?_; rintro r w1 ⟨rfl, hE1, hB1⟩
    have hl1 := hE1.p.lt
    have hs1 := hB1.size
    have E1 := Lib.hid hE1
    have B1 := Lib.hid hB1
    clear hE1 hB1
    go_wp2_with fail
    refine (enew_r _).mono ?_; rintro r w2 ⟨rfl, hE2, hB2⟩
    obtain ⟨db2, hdb2⟩ : ∃ x, w1.heap.size = x := ⟨_, rfl⟩
    rw [hdb2] at hE2 hB2
    simp only [hdb2]
    have hl2 := hE2.p.lt
    have hs2 := hB2.size
    have E1' := Lib.hid (E1.out.frm (Frm.of_below (S := fun _ => False) (by rw [hdb2]; exact hB2)) (fun h => h) (fun _ _ h => h))
    have E2 := Lib.hid hE2
    have B2 := Lib.hid (B1.out.trans (hB2.mono (by omega)))
    clear hE2 hB2 E1 B1
    go_wp2_with fail
    refine (chances_any A1 cl _ c1 w2 rfl (HRow.more (HQ.out.below B2.out) B2.out.size) m2).mono ?_; rintro e w4 ⟨v4, rfl, ho4, hb4⟩
    obtain ⟨g, cg, curg, rfl, hgb, hgp, hgc, hgm, _⟩ := ho4.block (by simp)
    have E1b := Lib.hid (E1'.out.frm (Frm.of_below (S := fun _ => False) hb4) (fun h => h) (fun _ _ h => h))
    have E2b := Lib.hid (E2.out.frm (Frm.of_below (S := fun _ => False) hb4) (fun h => h) (fun _ _ h => h))
    have B4 := Lib.hid (B2.out.trans (hb4.mono B2.out.size))
    have OH4 := Lib.hid ho4
    have hgl := hgp.lt
    have hs4 := hb4.size
    clear ho4 hb4 hgp E1' E2
    go_wp2_with fail
    refine (chances_any A1 cl _ c1 w4 rfl (HRow.more (HQ.out.below B4.out) B4.out.size) m2).mono ?_; rintro e w5 ⟨v5, rfl, ho5, hb5⟩
    obtain ⟨h, ch, curh, rfl, hhb, hhp, hhc, hhm, _⟩ := ho5.block (by simp)
    have hlen1 : (cl ++ [1024]).length = cl.length + 1 := by simp
    have hbnd : ∀ x ∈ cl ++ [1024], x < 65536 := by
      intro x hx
      rcases List.mem_append.1 hx with hx | hx
      · exact HCB.out x hx
      · simp at hx; omega
    have hf5 := Frm.of_below (S := fun _ => False) hb5
    have PL := Lib.hid (show EPlay w w5 w.heap.size db2 g cg h ch none (.slice none 0 0) (.slice none 0 0) newEnc newEnc (cl ++ [1024]) (cl ++ [1024]) from
      ⟨E1b.out.frm hf5 (fun h => h) (fun _ _ h => h), ⟨E2b.out.p.frm hf5 (fun h => h), OwnB.nil _ _ _, E2b.out.k⟩,
        (OH4.out.base (by have := B2.out.size; omega)).frm hf5 (fun _ _ h => h), ho5.base (by have := B4.out.size; omega), hbnd, hbnd, by omega, by omega, by omega, (fun q hq => by cases hq), by omega, (fun b c e => by cases e), B4.out.trans (hb5.mono B4.out.size)⟩)
    clear ho5 hb5 hhp hf5 E1b E2b OH4
    go_wp2
    obtain ⟨N, hN⟩ : ∃ N, cl.length + 1 = N := ⟨_, rfl⟩
    have hN2 : 0 < N ∧ N ≤ 201 := by omega
    simp only [hN]
    rw [hN] at hlen1
    have HN := Lib.hid hN
    clear hN
    go_loopw [9] (fun iv wr => ∃ (i : Nat) (e : Enc) (pl : List Nat) (v1 v2 : Value), iv = .int .i64 i ∧ i ≤ l.length ∧ pl.length = N ∧ EPlay w wr w.heap.size db2 g cg h ch none v1 v2 e e pl pl ∧ e.Run ∧ e.closed = false ∧ e.cnt ≤ 32 * i) (fun iv _ => l.length - (intOf iv).toNat)
    case atStart => exact ⟨0, newEnc, cl ++ [1024], _, _, rfl, by omega, hlen1, PL.out, newEnc_run, rfl, Nat.le_refl _⟩
    case round =>
      obtain ⟨i, e, pl, v1, v2, rfl, hi2, hpl, hplay, hrun, hcl, hcnt⟩ := hrel
      clear PL B4 B2
      have RUN := Lib.hid hrun
      have CL := Lib.hid hcl
      have CNT := Lib.hid hcnt
      clear hrun hcl hcnt
      by_cases hlt2 : i < l.length
      · obtain ⟨b0, off, rfl, hb0, hcell⟩ := HA.out (by omega)
        obtain ⟨c0, c1', c2'⟩ := hcell i hlt2
        have hx : l.getD i default ∈ l := by rw [List.getD, List.getElem?_eq_getElem hlt2]; exact List.getElem_mem hlt2
        have hfit := HF.out _ hx
        obtain ⟨⟨ax, nx, mx⟩, hxx⟩ : ∃ x, l.getD i default = x := ⟨_, rfl⟩
        rw [hxx] at c0 c1' c2' hfit
        simp only at c0 c1' c2'
        have hm := hfit.m
        have ha := hfit.a
        have hnx := hfit.n
        simp only at hm ha hnx
        have x0 := (hplay.b.cell (p := ⟨b0, off + i * 3, none⟩) hb0).trans c0
        have x1 := (hplay.b.cell (p := ⟨b0, off + i * 3 + 1, none⟩) hb0).trans c1'
        have x2 := (hplay.b.cell (p := ⟨b0, off + i * 3 + 2, none⟩) hb0).trans c2'
        have PLX := Lib.hid (hplay.act #[.int .i64 ax, .int .u32 nx, .int .i64 mx])
        have HNX := Lib.hid hnx
        have h3 := and3_mod hnx
        obtain ⟨z, hz⟩ : ∃ z, nx % 4 = z := ⟨_, rfl⟩
        rw [hz] at h3
        have hz4 : z < 4 := by omega
        clear hcell hfit hxx hx c0 c1' c2' hplay hnx hz
        by_cases hmany : 0 < mx
        · go_wp2_with fail
          obtain ⟨xb, hxb⟩ : ∃ xb, wr.heap.size = xb := ⟨_, rfl⟩
          rw [hxb] at PLX
          generalize wr.alloc (.cells #[.int .i64 ax, .int .u32 nx, .int .i64 mx] 36) = wx at *
          simp only [hxb]
          clear x0 x1 x2 hxb
          refine (eplay_dir_p nx mx _ PLX.out (by have := CNT.out; omega) RUN.out CL.out HNX.out).mono ?_; rintro r w6 ⟨rfl, v6, hP6⟩
          have y1 : w6.cell? ⟨xb, 1, none⟩ = some (.int .u32 nx) := by rw [(hP6.x _ _ rfl).1.cell]; rfl
          have y2 : w6.cell? ⟨xb, 2, none⟩ = some (.int .i64 mx) := by rw [(hP6.x _ _ rfl).1.cell]; rfl
          have P6 := Lib.hid hP6
          clear hP6 PLX
          go_wp2_with fail
          refine (eplay_dir_r nx mx _ P6.out (by have := CNT.out; omega) RUN.out CL.out HNX.out).mono ?_; rintro r w7 ⟨rfl, v7, hP7⟩
          have P7 := Lib.hid hP7.free
          clear hP7 P6
          go_wp2
          exact ⟨⟨i + 1, _, pl, v6, v7, by go_num, by omega, hpl, P7.out, RUN.out.direct, by rw [Enc.direct_closed]; exact CL.out, by have h1 := Enc.direct_cnt (x := nx) (n := count mx) (e := e); have h2 := count_le mx; have h3 := CNT.out; omega⟩, by simp [intOf]; omega⟩
        · obtain ⟨t, s, J, ht, hts, hs, hss, hJ1, hJ2, hJ⟩ := modR ax N (by omega) (by omega)
          have hJi : (J : Int) < (N : Int) := by omega
          have hJ0 : 0 ≤ (J : Int) := by omega
          have hJp : J < pl.length := by rw [hpl]; exact hJ
          have HJP := Lib.hid hJp
          clear hJp
          go_wp2
          obtain ⟨xb, hxb⟩ : ∃ xb, wr.heap.size = xb := ⟨_, rfl⟩
          rw [hxb] at PLX
          generalize wr.alloc (.cells #[.int .i64 ax, .int .u32 nx, .int .i64 mx] 36) = wx at *
          simp only [hxb]
          have y1 : wx.cell? ⟨xb, 1, none⟩ = some (.int .u32 nx) := by rw [(PLX.out.x _ _ rfl).1.cell]; rfl
          clear x0 x1 x2 hxb
          obtain ⟨one, hone⟩ : ∃ one : Bool, one = decide ((z : Int) ≠ 0) := ⟨_, rfl⟩
          have HONE := Lib.hid hone
          obtain ⟨L, hL⟩ : ∃ L, learn (fair (pl.getD J 0)) one = L := ⟨_, rfl⟩
          have HL := Lib.hid hL
          clear hone hL
          refine QTail.wp_region_qtail_lit 8 (by kernel_rfl) (by kernel_rfl) ?_
          simp only [List.take_succ_cons, List.take_zero, List.drop_succ_cons, List.drop_zero]
          repeat (go_big_quiet_step (fail))
          refine wpQuiet_nil ?_
          rintro w' ⟨nr, rfl⟩
          go_wp2_with fail
          refine (eplay_bit_p J z one _ (PLX.out.still (drawnFrm _ _)) (by have := CNT.out; omega) RUN.out CL.out HJP.out HONE.out).mono ?_; rintro r w6 ⟨rfl, v6, hP6⟩
          rw [HL.out] at hP6
          have y1' : w6.cell? ⟨xb, 1, none⟩ = some (.int .u32 nx) := by rw [(hP6.x _ _ rfl).1.cell]; rfl
          have P6 := Lib.hid hP6
          clear hP6 PLX y1
          go_wp2
          refine QTail.wp_region_qtail_lit 8 (by kernel_rfl) (by kernel_rfl) ?_
          simp only [List.take_succ_cons, List.take_zero, List.drop_succ_cons, List.drop_zero]
          repeat (go_big_quiet_step (fail))
          refine wpQuiet_nil ?_
          rintro w' ⟨nr2, rfl⟩
          go_wp2_with fail
          refine (eplay_bit_r J z one _ (P6.out.still (drawnFrm _ _)) (by have := CNT.out; omega) RUN.out CL.out HJP.out HONE.out).mono ?_; rintro r w7 ⟨rfl, v7, hP7⟩
          rw [HL.out] at hP7
          have z1 : w7.cell? ⟨g, J, none⟩ = some (.int .u16 L) := (hP7.cell_p (j := J) (by rw [List.length_set]; exact HJP.out)).trans (by rw [getD_set_self HJP.out])
          have z2 : w7.cell? ⟨h, J, none⟩ = some (.int .u16 L) := (hP7.cell_q (j := J) (by rw [List.length_set]; exact HJP.out)).trans (by rw [getD_set_self HJP.out])
          have P7 := Lib.hid hP7
          have hfb := fair_bd (pl.getD J 0)
          have hR7 := Lib.hid (RUN.out.bit hfb.1 hfb.2 one)
          clear hP7 P6 y1' hfb
          go_wp2
          go_quiet (fail)
          go_wp2
          exact ⟨⟨i + 1, _, pl.set J L, v6, v7, by go_num, by omega, by rw [List.length_set]; exact hpl, (P7.out.still (drawnFrm _ _)).free, hR7.out, by rw [Enc.bit_closed]; exact CL.out, by have h1 := Enc.bit_cnt e (fair (pl.getD J 0)) one; have h3 := CNT.out; omega⟩, by simp [intOf]; omega⟩
      · obtain rfl : i = l.length := by omega
        have PL := Lib.hid hplay
        clear hplay
        go_wp2_with fail
        have hcn : e.cnt + 5 < 1000000 := by have := CNT.out; omega
        refine (eclose_p _ _ _ _ _ PL.out.d1 PL.out.b.size hcn).mono ?_; rintro r w6 ⟨v6, rv6, rfl, hE6, hF6, hM6, hO6, hN6⟩
        have P6 := Lib.hid (PL.out.frm_p hE6 hF6 hM6)
        have hwr := PL.out.b.size
        have hdl := PL.out.d2.p.lt
        have hvl : ∀ q, v2.ownBlock = some q → q < wr.heap.size := fun q hq => (PL.out.d2.o.lt hq).2
        obtain ⟨A6, c6, rfl, hc6, hm6, hr6⟩ := hO6.slice
        have O6 := Lib.hid hO6
        have HVL := Lib.hid hvl
        clear hE6 hF6 hM6 hO6 hN6 hr6 PL hvl
        go_wp2_with fail
        refine (eclose_r _ _ _ _ _ P6.out.d2 P6.out.b.size hcn).mono ?_; rintro r w7 ⟨v7, rv7, rfl, hE7, hF7, hM7, rfl⟩
        have P7 := Lib.hid (P6.out.frm_r hE7 hF7 hM7)
        have O7 := Lib.hid (O6.out.frm hF7 (fun q hq hh => by
          have h1 := (O6.out.lt hq).1
          rcases hh with hh | hh
          · omega
          · have := HVL.out q hh; omega))
        clear hE7 hF7 hM7 O6
        obtain ⟨A7, c7, rfl, hc7, hm7, hr7⟩ := P7.out.d2.o.slice
        obtain ⟨A6', c6', e6, _, _, hr6⟩ := O7.out.slice
        injection e6 with e6 e6b e6c
        subst e6
        subst e6c
        have q1 := run_conv_bytes (P := Try.prog) w7 22 9 5 Try.underlying22 Try.underlying5 Try.underlying9 A6 _ c6 _ e.close.out rfl hr6
        have q2 := run_conv_bytes (P := Try.prog) w7 22 9 5 Try.underlying22 Try.underlying5 Try.underlying9 A7 _ c7 _ e.close.out rfl hr7
        obtain ⟨S, hS⟩ : ∃ S, e.close.out = S := ⟨_, rfl⟩
        rw [hS] at q1 q2
        have q2d := run_conv_bytes (P := Try.prog) w7.drew 22 9 5 Try.underlying22 Try.underlying5 Try.underlying9 A7 _ c7 _ e.close.out rfl (BRow.drewN hr7 1)
        rw [hS] at q2d
        simp only [hS]
        have hcc := close_cnt e
        have hcl3 := close_closed e
        have D7 := Lib.hid (P7.out.still ((Frm.refl (fun _ => False) w7).drew)).d1
        have hSl : S.length ≤ maxLen := by rw [← hS]; exact Nat.le_trans hc7 hm7
        have HS := Lib.hid hS
        have HCL3 := Lib.hid hcl3
        have hcc5 : e.close.cnt + 5 < 1000000 := by have := CNT.out; omega
        have HCC := Lib.hid hcc5
        clear hr6 hr7 hS hcc hcl3 hcc5 e6b O7
        go_wp2_with fail
        refine (edirect_shut _ _ 7 9 _ _ _ P7.out.d1 HCL3.out).mono ?_; rintro r w8 ⟨rfl, rfl⟩
        go_wp2
        go_region_with (first
          | (go_at_call 24; refine Calls.mono (eclose_p w.heap.size w.heap.size v6 e.close w7.drew D7.out P7.out.b.size HCC.out) ?_; rintro r w8 ⟨v8, rv8, rfl, hE8, hF8, hM8, hO8, hN8⟩; have hP8 := (P7.out.still ((Frm.refl (fun _ => False) w7).drew)).frm_p hE8 hF8 hM8; rw [close_shut HCL3.out, HS.out] at hO8; obtain ⟨A8, c8, rfl, hc8, hm8, hr8⟩ := hO8.slice; obtain ⟨A9, c9, e9, _, _, hr9⟩ := hP8.d2.o.slice; injection e9 with e9a e9b e9c; rw [← e9a] at hr9; have q3 := run_conv_bytes (P := Try.prog) w8 22 9 5 Try.underlying22 Try.underlying5 Try.underlying9 A8 _ c8 _ S rfl hr8; have q4 := run_conv_bytes (P := Try.prog) w8 22 9 5 Try.underlying22 Try.underlying5 Try.underlying9 A7 _ c7 _ e.close.out rfl hr9; rw [HS.out] at q4; have B8 := Lib.hid hP8.b; clear hE8 hF8 hM8 hO8 hN8 hP8 hr8 hr9 e9b e9a e9c)
          | (go_at_call 8; refine Calls.mono (wakes10 w8) ?_; rintro r w9 ⟨rfl, h9⟩))
        all_goals
          have B9 := Lib.hid (B8.out.trans (h9.mono B8.out.size))
          clear h9
          go_wp2
          go_ret
          exact ⟨rfl, B9.out⟩
  · have h5 : 200 < cl.length ∨ (cl.length ≤ 200 ∧ 2000 < l.length) := by omega
    clear hmain
    rcases h5 with h1 | ⟨h1, h2⟩
    all_goals
      go_enter Try.func4, Try.ntmps4
      go_wp2_with fail
      refine (wakes10 _).mono ?_; rintro e w1 ⟨rfl, h1⟩
      go_wp2
      go_ret
      exact ⟨rfl, h1⟩
end Go.Proofs.Ytcnjbdaopphleaa
