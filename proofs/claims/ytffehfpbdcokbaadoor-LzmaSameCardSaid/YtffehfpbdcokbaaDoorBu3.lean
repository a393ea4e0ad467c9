/- Texts of this proof, put together: RngC. -/
import Derived.Test.YtffehfpbdcokbaaDoorBu1
set_option linter.unusedVariables false
set_option linter.unusedSimpArgs false
/- The decoder's Direct and End. -/
namespace Go.Proofs.YtffehfpbdcokbaaDoor
open Go.RowKit Rng
set_option linter.unusedVariables false
set_option linter.unusedSimpArgs false
theorem one_lt {d : Dec} (h : d.order.code < d.order.size / 2) : d.one = (false, ⟨d.order.rest, d.order.size / 2, d.order.code, d.order.want⟩) := by unfold Dec.one; simp only; rw [if_pos h]
theorem one_ge {d : Dec} (h : ¬ d.order.code < d.order.size / 2) : d.one = (true, ⟨d.order.rest, d.order.size / 2, d.order.code - d.order.size / 2, d.order.want⟩) := by unfold Dec.one; simp only; rw [if_neg h]
theorem direct_step {n x : Nat} {d : Dec} : Dec.direct (n + 1) x d = Dec.direct n (x * 2 % 4294967296 + (if d.one.1 then 1 else 0)) d.one.2 := rfl
theorem or_one {x : Nat} (h1 : x % 2 = 0) (h2 : x < 4294967296) : bits .or .u32 (x : Int) 1 = ((x + 1 : Nat) : Int) := by
  have e1 : x < Num.M32 := h2
  have e2 : 1 < Num.M32 := by unfold Num.M32; omega
  have h := Num.or32 e1 e2
  have h3 := Nat.shiftLeft_add_eq_or_of_lt (a := x / 2) (b := 1) (i := 1) (by omega)
  have e : (x / 2) <<< 1 = x := by rw [Nat.shiftLeft_eq]; omega
  rw [e] at h3
  rw [← h3] at h
  exact h
set_option maxRecDepth 100000 in
set_option maxHeartbeats 1000000 in
theorem ddirect_p (b rb : Nat) (n : Int) (d : Dec) (w : World) (hd : DecAt w 86 b rb d) :
    Calls Tryd.prog 77 #[.pointer (some ⟨b, 0, none⟩), .int .i64 n] w fun e w' => e = .returned (.int .u32 (d.direct (count n) 0).1) ∧ DecAt w' 86 b rb (d.direct (count n) 0).2 ∧ Frm (· = b) w w' := by
  obtain ⟨N, hN⟩ : ∃ N : Nat, count n = N := ⟨_, rfl⟩
  have hN2 : N ≤ 32 := by rw [← hN]; unfold count; omega
  obtain ⟨x, hx⟩ : ∃ x : Int, max n 0 = x := ⟨_, rfl⟩
  have f1 := fun w => max2_num (P := Tryd.prog) .i64 #[3, 3] 3 n 0 x hx w
  have f2 := fun w => min2_num (P := Tryd.prog) .i64 #[3, 3] 3 x 32 N (by rw [← hN]; unfold count; omega) w
  obtain ⟨G, hG⟩ : ∃ G, d.direct N 0 = G := ⟨_, rfl⟩
  rw [hN, hG]
  have HD := Lib.hid hd
  have HG := Lib.hid hG
  clear hx hN hd hG
  go_enter Tryd.func77, Tryd.ntmps77
  go_wp2
  go_loopw [4, 10] (fun xv iv wr => ∃ (j y : Nat) (dj : Dec), iv = .int .i64 j ∧ xv = .int .u32 y ∧ j ≤ N ∧ y < 4294967296 ∧ dj.direct (N - j) y = G ∧ DecAt wr 86 b rb dj ∧ Frm (· = b) w wr) (fun _ iv _ => N - (intOf iv).toNat)
  case atStart => exact ⟨0, 0, d, rfl, rfl, by omega, by omega, HG.out, HD.out, Frm.refl _ _⟩
  case round =>
    obtain ⟨j, y, dj, rfl, rfl, hj, hy, hg, hdj, hf⟩ := hrel
    have HF := Lib.hid hf
    have HDJ := Lib.hid hdj
    have HGJ := Lib.hid hg
    clear hf hdj hg HD HG
    by_cases hlt : j < N
    · obtain ⟨y2, hy2⟩ : ∃ y2 : Nat, y * 2 % 4294967296 = y2 := ⟨_, rfl⟩
      have hwy : IntKind.u32.wrap ((y : Int) * 2) = (y2 : Int) := by rw [IntKind.wrap_u32']; omega
      have hor : bits .or .u32 (y2 : Int) 1 = ((y2 + 1 : Nat) : Int) := or_one (by omega) (by omega)
      have hg2 := HGJ.out
      rw [show N - j = (N - (j + 1)) + 1 by omega, direct_step, hy2] at hg2
      have hy2l : y2 + 1 < 4294967296 := by omega
      have HY := Lib.hid hy2l
      have HG2 := Lib.hid hg2
      clear hg2 hy2 hy hy2l HGJ
      go_wp2_with fail
      refine (dorder_p b rb dj _ HDJ.out).mono ?_; rintro e w1 ⟨rfl, hd1, hf1⟩
      have hfit := HDJ.out.f.one
      have hbe := (show dj.order.code < dj.order.size / 2 ∨ ¬ dj.order.code < dj.order.size / 2 by omega).imp (fun h => And.intro h (one_lt h)) (fun h => And.intro h (one_ge h))
      obtain ⟨⟨A, cp, hpt, hrow, hoff0, hcp, hcm⟩, ⟨hs, hk⟩, hrb⟩ := hd1
      have hoff := hoff0.of_ne hrb
      obtain ⟨o, ho⟩ : ∃ o, dj.order = o := ⟨_, rfl⟩
      rw [ho] at hbe hpt hrow hoff hcp hs hk hoff0
      obtain ⟨rest, s, k, wt⟩ := o
      simp only at hbe hpt hrow hoff hcp hs hk hoff0
      have HN0 := Lib.hid hoff0
      have HRB := Lib.hid hrb
      obtain ⟨q, hq⟩ : ∃ q : Nat, s / 2 = q := ⟨_, rfl⟩
      rw [hq] at hbe
      have hq1 : (s : Int) / 2 = (q : Int) := by omega
      obtain ⟨k3, hk3e⟩ : ∃ k3 : Nat, k - q = k3 := ⟨_, rfl⟩
      have hk3 : ¬ k < q → IntKind.u32.wrap ((k : Int) - q) = (k3 : Int) := fun h => by rw [Go.IntWalk.u32_in _ (by omega)]; omega
      rw [hk3e] at hbe
      have d1 : w1.cell? ⟨b, 1, none⟩ = some (.int .u32 s) := by rw [hpt.cell]; rfl
      have g1 := hpt.frozen 1
      have HP1 := Lib.hid hpt
      have HROW := Lib.hid hrow
      have HOFF := Lib.hid hoff
      have HF1 := Lib.hid hf1
      have HCP := Lib.hid (And.intro hcp hcm)
      have HFIT := Lib.hid hfit
      clear hpt hrow hoff hf1 hcp hcm hfit hq hs hk ho hk3e hoff0 hrb
      go_wp2
      have P2 := HP1.out.set 1 (.int .u32 q)
      have F2 := HF1.out.setCell (p := ⟨b, 1, none⟩) (by rfl) (.int .u32 q)
      have R2 : BRow (w1.setCell ⟨b, 1, none⟩ (.int .u32 q)) (w1.setCell ⟨b, 1, none⟩ (.int .u32 q)).heap.size A rest := (HROW.out.off HOFF.out ((Frm.refl (· = b) w1).setCell (p := ⟨b, 1, none⟩) (by rfl) (.int .u32 q))).more ((Frm.refl (· = b) w1).setCell (p := ⟨b, 1, none⟩) (by rfl) (.int .u32 q)).size
      generalize w1.setCell ⟨b, 1, none⟩ (.int .u32 q) = w2 at *
      have e1 : w2.cell? ⟨b, 1, none⟩ = some (.int .u32 q) := by rw [P2.cell]; rfl
      have e2 : w2.cell? ⟨b, 2, none⟩ = some (.int .u32 k) := by rw [P2.cell]; rfl
      have g2 := P2.frozen 2
      have PP2 := Lib.hid P2
      have FF2 := Lib.hid F2
      have RR2 := Lib.hid R2
      clear P2 F2 R2 d1 g1 hq1
      go_quiet (fail)
      rcases hbe with ⟨h1, hbe⟩ | ⟨h1, hbe⟩
      · have hcc : decide ((q : Int) ≤ (k : Int)) = false := by simp; omega
        rw [hbe] at HG2 HFIT
        clear hk3
        go_wp2
        exact ⟨⟨j + 1, y2, ⟨rest, q, k, wt⟩, by go_num, rfl, by omega, by have := HY.out; omega, HG2.out, ⟨⟨A, cp, PP2.out.drewN nq, RR2.out.drewN nq, HN0.out, HCP.out.1, HCP.out.2⟩, HFIT.out, HRB.out⟩, (HF.out.trans FF2.out).drewN nq⟩, by simp [intOf]; omega⟩
      · have hcc : decide ((q : Int) ≤ (k : Int)) = true := by simp; omega
        rw [hbe] at HG2 HFIT
        have hw3 := hk3 h1
        have HBE := Lib.hid hbe
        clear hk3 hbe
        go_wp2
        have e1' : (w2.drewN nq).cell? ⟨b, 1, none⟩ = some (.int .u32 q) := e1
        have e2' : (w2.drewN nq).cell? ⟨b, 2, none⟩ = some (.int .u32 k) := e2
        have g2' : (w2.drewN nq).frozen? ⟨b, 2, none⟩ = false := g2
        have P3 := PP2.out.drewN nq
        have F3 := (HF.out.trans FF2.out).drewN nq
        have R3 : BRow (w2.drewN nq) (w2.drewN nq).heap.size A rest := RR2.out.drewN nq
        generalize w2.drewN nq = w3 at *
        have PP3 := Lib.hid P3
        have FF3 := Lib.hid F3
        have RR3 := Lib.hid R3
        clear P3 F3 R3 e1 e2 g2
        go_still_tail 11, (by kernel_rfl)
        change wpList _ _ _ _ _ w3.drew
        go_wp2
        have F4 := (FF3.out.setCell (p := ⟨b, 2, none⟩) (by rfl) (.int .u32 k3)).drew
        have F5 := ((Frm.refl (· = b) w3).setCell (p := ⟨b, 2, none⟩) (by rfl) (.int .u32 k3)).drew
        exact ⟨⟨j + 1, y2 + 1, ⟨rest, q, k3, wt⟩, by go_num, rfl, by omega, by have := HY.out; omega, HG2.out, ⟨⟨A, cp, (PP3.out.set 2 (.int .u32 k3)).drew, (RR3.out.off HOFF.out F5).more F5.size, HN0.out, HCP.out.1, HCP.out.2⟩, HFIT.out, HRB.out⟩, F4⟩, by simp [intOf]; omega⟩
    · obtain rfl : j = N := by omega
      have h0 := HGJ.out
      rw [Nat.sub_self] at h0
      obtain ⟨h0a, h0b⟩ : G.1 = y ∧ G.2 = dj := by rw [← h0]; exact ⟨rfl, rfl⟩
      have H0A := Lib.hid h0a
      have H0B := Lib.hid h0b
      clear h0 h0a h0b
      go_wp2
      go_ret
      rw [H0A.out, H0B.out]
      exact ⟨rfl, HDJ.out, HF.out⟩
theorem dend_p (b rb : Nat) (d : Dec) (w : World) (hd : DecAt w 86 b rb d) :
    Calls Tryd.prog 16 #[.pointer (some ⟨b, 0, none⟩)] w fun e w' => e = .returned (.tuple #[.int .i64 d.fin.1, .int .i64 d.fin.2]) ∧ DecAt w' 86 b rb d.order ∧ Frm (· = b) w w' := by
  have HD := Lib.hid hd
  obtain ⟨R, hR⟩ : ∃ R, d.fin = R := ⟨_, rfl⟩
  obtain ⟨o, ho⟩ : ∃ o, d.order = o := ⟨_, rfl⟩
  have hfin : (if o.want then (0, 10) else if o.code ≠ 0 then (0, 11) else (o.rest.length, 0)) = R := by rw [← hR, ← ho]; rfl
  rw [hR, ho]
  have HO := Lib.hid ho
  have HFI := Lib.hid hfin
  clear hd hR ho hfin
  go_enter Tryd.func16, Tryd.ntmps16
  go_wp2_with fail
  refine (dorder_p b rb d _ HD.out).mono ?_; rintro e w1 ⟨rfl, hd1, hf1⟩
  rw [HO.out] at hd1
  have HD1 := Lib.hid hd1
  have HF1 := Lib.hid hf1
  obtain ⟨⟨A, cp, hpt, hrow, hoff, hcp, hcm⟩, ⟨hs, hk⟩, hrb⟩ := hd1
  have d0 : w1.cell? ⟨b, 0, none⟩ = some (.slice A o.rest.length cp) := by rw [hpt.cell]; rfl
  have d2 : w1.cell? ⟨b, 2, none⟩ = some (.int .u32 o.code) := by rw [hpt.cell]; rfl
  have d3 : w1.cell? ⟨b, 3, none⟩ = some (.bool o.want) := by rw [hpt.cell]; rfl
  clear hpt hrow hoff hf1 hcm hs hk
  cases hw : o.want with
  | true =>
    have hr := HFI.out
    rw [hw] at d3 hr
    rw [if_pos rfl] at hr
    subst hr
    go_wp2
    go_ret2
    exact ⟨rfl, HD1.out, HF1.out⟩
  | false =>
    have hr := HFI.out
    rw [hw] at d3 hr
    rw [if_neg (by simp)] at hr
    by_cases hk : o.code = 0
    · rw [if_neg (by simpa using hk)] at hr
      subst hr
      rw [hk] at d2
      clear HFI
      go_wp2
      go_ret2
      exact ⟨rfl, HD1.out, HF1.out⟩
    · rw [if_pos hk] at hr
      subst hr
      have hk2 : ((o.code : Int) == 0) = false := by simpa using hk
      clear HFI
      go_wp2
      go_ret2
      exact ⟨rfl, HD1.out, HF1.out⟩
end Go.Proofs.YtffehfpbdcokbaaDoor
