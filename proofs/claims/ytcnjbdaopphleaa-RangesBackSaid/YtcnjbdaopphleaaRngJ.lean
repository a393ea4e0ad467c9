/- The encoder's Direct. -/
import Derived.Test.YtcnjbdaopphleaaRngI
namespace Go.Proofs.Ytcnjbdaopphleaa
open Go.RowKit Rng
set_option linter.unusedVariables false
set_option linter.unusedSimpArgs false
theorem bit_at {x t : Nat} (hx : x < 4294967296) : bits .and .u32 ((x : Int) / 2 ^ t) 1 = ((x / 2 ^ t % 2 : Nat) : Int) := by
  have h1 : x / 2 ^ t < Num.M32 := Nat.lt_of_le_of_lt (Nat.div_le_self _ _) hx
  have h := Num.and32_1 h1
  rw [← h]
  congr 1
set_option maxRecDepth 100000 in
set_option maxHeartbeats 2000000 in
theorem edirect_p (b base x : Nat) (n : Int) (v : Value) (e : Enc) (w : World) (h : EncAt w 66 0 b base v e) (hbase : base ≤ w.heap.size) (hlen : e.cnt + 32 < 1000000) (hs : e.Run) (hcl : e.closed = false) (hx : x < 4294967296) :
    Calls Try.prog 20 #[.pointer (some ⟨b, 0, none⟩), .int .u32 x, .int .i64 n] w fun r w' => ∃ v' : Value, r = .returned (.tuple #[]) ∧ EncAt w' 66 0 b base v' (Enc.direct x (count n) e) ∧
      Frm (fun y => y = b ∨ v.ownBlock = some y) w w' ∧ Moved w v v' := by
  obtain ⟨N, hN⟩ : ∃ N : Nat, count n = N := ⟨_, rfl⟩
  have hN2 : N ≤ 32 := by rw [← hN]; unfold count; omega
  obtain ⟨y, hy⟩ : ∃ y : Int, max n 0 = y := ⟨_, rfl⟩
  have f1 := fun w => max2_num (P := Try.prog) .i64 #[3, 3] 3 n 0 y hy w
  have f2 := fun w => min2_num (P := Try.prog) .i64 #[3, 3] 3 y 32 N (by rw [← hN]; unfold count; omega) w
  obtain ⟨G, hG⟩ : ∃ G, Enc.direct x N e = G := ⟨_, rfl⟩
  rw [hN, hG]
  have d5 : w.cell? ⟨b, 5, none⟩ = some (.bool false) := by rw [h.p.cell, ← hcl]; rfl
  have HG := Lib.hid hG
  have HE := Lib.hid h
  have HS := Lib.hid hs
  have HCL := Lib.hid hcl
  have HX := Lib.hid hx
  have HLEN := Lib.hid hlen
  clear hy hN hG h hs hcl hx hlen
  go_enter Try.func20, Try.ntmps20
  go_wp2
  go_loopw [6] (fun iv wr => ∃ (j : Nat) (e1 : Enc) (v1 : Value), iv = .int .i64 ((j : Int) - 1) ∧ j ≤ N ∧ Enc.direct x j e1 = G ∧ EncAt wr 66 0 b base v1 e1 ∧ e1.Run ∧ e1.closed = false ∧ e1.cnt ≤ e.cnt + (N - j) ∧
      Frm (fun y => y = b ∨ v.ownBlock = some y) w wr ∧ Moved w v v1) (fun iv _ => (intOf iv + 1).toNat)
  case atStart => exact ⟨N, e, v, rfl, by omega, HG.out, HE.out, HS.out, HCL.out, by omega, Frm.refl _ _, Moved.refl _ _⟩
  case round =>
    obtain ⟨j, e1, v1, rfl, hj, hg, he1, hr1, hc1, hn1, hf1, hm1⟩ := hrel
    have E1 := Lib.hid he1
    have R1 := Lib.hid hr1
    have C1 := Lib.hid hc1
    have N1 := Lib.hid hn1
    have F1 := Lib.hid hf1
    have M1 := Lib.hid hm1
    have G1 := Lib.hid hg
    have hpt := he1.p
    have k5 : wr.cell? ⟨b, 5, none⟩ = some (.bool false) := by rw [hpt.cell, ← hc1]; rfl
    clear he1 hr1 hc1 hn1 hf1 hm1 hg HE HS HCL
    cases j with
    | zero =>
      have hneg : ¬ ((0 : Int) ≤ ((0 : Nat) : Int) - 1) := by omega
      have h0 : e1 = G := G1.out
      subst h0
      clear hpt G1
      go_wp2
      go_end0
      first
        | exact ⟨_, rfl, E1.out, F1.out, M1.out⟩
        | exact ⟨rfl, _, E1.out, F1.out, M1.out⟩
    | succ t =>
      have hti : (((t + 1 : Nat) : Int) - 1) = (t : Int) := by omega
      rw [hti]
      obtain ⟨s, hse⟩ : ∃ s, e1.size = s := ⟨_, rfl⟩
      obtain ⟨lo, hlo⟩ : ∃ lo, e1.low = lo := ⟨_, rfl⟩
      have d0 : wr.cell? ⟨b, 0, none⟩ = some (.int .u64 lo) := by rw [hpt.cell, ← hlo]; rfl
      have d1 : wr.cell? ⟨b, 1, none⟩ = some (.int .u32 s) := by rw [hpt.cell, ← hse]; rfl
      have g0 := hpt.frozen 0
      have g1 := hpt.frozen 1
      have hlow := R1.out.l
      have hsz := R1.out.s
      rw [hse] at hsz hlow
      rw [hlo] at hlow
      obtain ⟨q, hq⟩ : ∃ q, s / 2 = q := ⟨_, rfl⟩
      obtain ⟨lo3, hlo3⟩ : ∃ lo3, lo + q = lo3 := ⟨_, rfl⟩
      have hq1 : (s : Int) / 2 = (q : Int) := by omega
      have hq64 : IntKind.u64.wrap (q : Int) = (q : Int) := by rw [Go.IntWalk.u64_in _ (by omega)]
      have hadd : IntKind.u64.wrap ((lo : Int) + q) = (lo3 : Int) := by rw [u64_add (by omega), hlo3]
      have hbt := bit_at (x := x) (t := t) HX.out
      have hg2 := G1.out
      rw [Enc.direct, Enc.one_half] at hg2
      have hcase : x / 2 ^ t % 2 = 0 ∨ x / 2 ^ t % 2 = 1 := by omega
      have PT := Lib.hid hpt
      have HSE := Lib.hid hse
      have HLO := Lib.hid hlo
      have HQ := Lib.hid hq
      have HLO3 := Lib.hid hlo3
      have NB := Lib.hid (E1.out.nb (by decide))
      have HN := Lib.hid hj
      clear hpt hti hlow hsz hse hlo hq hlo3 G1
      rcases hcase with hb | hb
      · rw [hb] at hbt hg2
        have hbt0 : bits .and .u32 ((x : Int) / 2 ^ t) 1 = 0 := hbt
        have HG2 := Lib.hid hg2
        clear hbt hb hg2
        go_wp2_with fail
        have hE2 : EncAt (wr.setCell ⟨b, 1, none⟩ (.int .u32 q)) 66 0 b base v1 (e1.half (0 == 1)) := by
          refine ⟨?_, E1.out.o.other (p := ⟨b, 1, none⟩) NB.out _, (R1.out.half _).ok⟩
          have h9 := PT.out.set 1 (.int .u32 q)
          rw [← HQ.out, ← HSE.out] at h9 ⊢
          exact h9
        have hF2 := F1.out.setCell (p := ⟨b, 1, none⟩) (.inl rfl) (.int .u32 q)
        refine (eorder_p b base v1 _ _ hE2 (Nat.le_trans hbase hF2.size) (by have h1 : (e1.half (0 == 1)).cnt = e1.cnt := rfl; have h2 := N1.out; have h3 := HLEN.out; have h4 := HN.out; omega) (R1.out.half _)).mono ?_
        rintro r w3 ⟨v3, rfl, hE3, hF3, hM3⟩
        have E3 := Lib.hid hE3
        have F3 := Lib.hid (hF2.transR hF3 (fun q hq hh => hh.elim .inl (fun h2 => M1.out.own q hq h2)))
        have M3 := Lib.hid (M1.out.trans hM3 hF2.size)
        clear hE2 hF2 hE3 hF3 hM3
        go_wp2
        exact ⟨⟨t, _, v3, by go_num, by have := HN.out; omega, HG2.out, E3.out, R1.out.one _, by rw [Enc.order_closed]; exact C1.out, by have h1 := Enc.one_cnt e1 (0 == 1); have h2 := N1.out; have h3 := HN.out; rw [Enc.one_half] at h1; omega, F3.out, M3.out⟩, by simp [intOf] <;> omega⟩
      · rw [hb] at hbt hg2
        have hbt0 : bits .and .u32 ((x : Int) / 2 ^ t) 1 = 1 := hbt
        have HG2 := Lib.hid hg2
        clear hbt hb hg2
        go_wp2
        have hP2 := PT.out.set 1 (.int .u32 q)
        have hO2 := E1.out.o.other (p := ⟨b, 1, none⟩) NB.out (.int .u32 q)
        have hF2 := F1.out.setCell (p := ⟨b, 1, none⟩) (.inl rfl) (.int .u32 q)
        generalize wr.setCell ⟨b, 1, none⟩ (.int .u32 q) = w2 at *
        have e0 : w2.cell? ⟨b, 0, none⟩ = some (.int .u64 lo) := by rw [hP2.cell, ← HLO.out]; rfl
        have e1' : w2.cell? ⟨b, 1, none⟩ = some (.int .u32 q) := by rw [hP2.cell]; rfl
        have k0 := hP2.frozen 0
        have P2 := Lib.hid hP2
        have O2 := Lib.hid hO2
        have F2 := Lib.hid hF2
        clear hP2 hO2 hF2 d0 d1 g0 g1
        go_still_tail 12, (by kernel_rfl)
        change wpList _ _ _ _ _ w2.drew
        go_wp2_with fail
        have hE3 : EncAt (w2.setCell ⟨b, 0, none⟩ (.int .u64 lo3)).drew 66 0 b base v1 (e1.half (1 == 1)) := by
          refine ⟨?_, O2.out.other (p := ⟨b, 0, none⟩) NB.out _, (R1.out.half _).ok⟩
          have h9 := (P2.out.set 0 (.int .u64 lo3)).drew
          rw [← HLO3.out, ← HLO.out, ← HQ.out, ← HSE.out] at h9 ⊢
          exact h9
        have hF3 := (F2.out.setCell (p := ⟨b, 0, none⟩) (.inl rfl) (.int .u64 lo3)).drew
        refine (eorder_p b base v1 _ _ hE3 (Nat.le_trans hbase hF3.size) (by have h1 : (e1.half (1 == 1)).cnt = e1.cnt := rfl; have h2 := N1.out; have h3 := HLEN.out; have h4 := HN.out; omega) (R1.out.half _)).mono ?_
        rintro r w3 ⟨v3, rfl, hE4, hF4, hM4⟩
        have E3 := Lib.hid hE4
        have F3 := Lib.hid (hF3.transR hF4 (fun q hq hh => hh.elim .inl (fun h2 => M1.out.own q hq h2)))
        have M3 := Lib.hid (M1.out.trans hM4 hF3.size)
        clear hE3 hF3 hE4 hF4 hM4
        go_wp2
        exact ⟨⟨t, _, v3, by go_num, by have := HN.out; omega, HG2.out, E3.out, R1.out.one _, by rw [Enc.order_closed]; exact C1.out, by have h1 := Enc.one_cnt e1 (1 == 1); have h2 := N1.out; have h3 := HN.out; rw [Enc.one_half] at h1; omega, F3.out, M3.out⟩, by simp [intOf] <;> omega⟩
set_option maxRecDepth 100000 in
set_option maxHeartbeats 2000000 in
theorem edirect_r (b base x : Nat) (n : Int) (v : Value) (e : Enc) (w : World) (h : EncAt w 68 1 b base v e) (hbase : base ≤ w.heap.size) (hlen : e.cnt + 32 < 1000000) (hs : e.Run) (hcl : e.closed = false) (hx : x < 4294967296) :
    Calls Try.prog 21 #[.pointer (some ⟨b, 0, none⟩), .int .u32 x, .int .i64 n] w fun r w' => ∃ v' : Value, r = .returned (.tuple #[]) ∧ EncAt w' 68 1 b base v' (Enc.direct x (count n) e) ∧
      Frm (fun y => y = b ∨ v.ownBlock = some y) w w' ∧ Moved w v v' := by
  obtain ⟨N, hN⟩ : ∃ N : Nat, count n = N := ⟨_, rfl⟩
  have hN2 : N ≤ 32 := by rw [← hN]; unfold count; omega
  obtain ⟨y, hy⟩ : ∃ y : Int, min n 32 = y := ⟨_, rfl⟩
  have f1 := fun w => min2_num (P := Try.prog) .i64 #[3, 3] 3 n 32 y hy w
  have f2 := fun w => max2_num (P := Try.prog) .i64 #[3, 3] 3 0 y N (by rw [← hN]; unfold count; omega) w
  obtain ⟨G, hG⟩ : ∃ G, Enc.direct x N e = G := ⟨_, rfl⟩
  rw [hN, hG]
  have d5 : w.cell? ⟨b, 5, none⟩ = some (.bool false) := by rw [h.p.cell, ← hcl]; rfl
  have HG := Lib.hid hG
  have HE := Lib.hid h
  have HS := Lib.hid hs
  have HCL := Lib.hid hcl
  have HX := Lib.hid hx
  have HLEN := Lib.hid hlen
  clear hy hN hG h hs hcl hx hlen
  go_enter Try.func21, Try.ntmps21
  go_wp2
  go_loopw [6] (fun iv wr => ∃ (j : Nat) (e1 : Enc) (v1 : Value), iv = .int .i64 ((j : Int) - 1) ∧ j ≤ N ∧ Enc.direct x j e1 = G ∧ EncAt wr 68 1 b base v1 e1 ∧ e1.Run ∧ e1.closed = false ∧ e1.cnt ≤ e.cnt + (N - j) ∧
      Frm (fun y => y = b ∨ v.ownBlock = some y) w wr ∧ Moved w v v1) (fun iv _ => (intOf iv + 1).toNat)
  case atStart => exact ⟨N, e, v, rfl, by omega, HG.out, HE.out, HS.out, HCL.out, by omega, Frm.refl _ _, Moved.refl _ _⟩
  case round =>
    obtain ⟨j, e1, v1, rfl, hj, hg, he1, hr1, hc1, hn1, hf1, hm1⟩ := hrel
    have E1 := Lib.hid he1
    have R1 := Lib.hid hr1
    have C1 := Lib.hid hc1
    have N1 := Lib.hid hn1
    have F1 := Lib.hid hf1
    have M1 := Lib.hid hm1
    have G1 := Lib.hid hg
    have hpt := he1.p
    have k5 : wr.cell? ⟨b, 5, none⟩ = some (.bool false) := by rw [hpt.cell, ← hc1]; rfl
    clear he1 hr1 hc1 hn1 hf1 hm1 hg HE HS HCL
    cases j with
    | zero =>
      have hneg : ¬ ((0 : Int) ≤ ((0 : Nat) : Int) - 1) := by omega
      have h0 : e1 = G := G1.out
      subst h0
      clear hpt G1
      go_wp2
      go_end0
      first
        | exact ⟨_, rfl, E1.out, F1.out, M1.out⟩
        | exact ⟨rfl, _, E1.out, F1.out, M1.out⟩
    | succ t =>
      have hti : (((t + 1 : Nat) : Int) - 1) = (t : Int) := by omega
      rw [hti]
      obtain ⟨s, hse⟩ : ∃ s, e1.size = s := ⟨_, rfl⟩
      obtain ⟨lo, hlo⟩ : ∃ lo, e1.low = lo := ⟨_, rfl⟩
      have d0 : wr.cell? ⟨b, 0, none⟩ = some (.int .u64 lo) := by rw [hpt.cell, ← hlo]; rfl
      have d1 : wr.cell? ⟨b, 1, none⟩ = some (.int .u32 s) := by rw [hpt.cell, ← hse]; rfl
      have g0 := hpt.frozen 0
      have g1 := hpt.frozen 1
      have hlow := R1.out.l
      have hsz := R1.out.s
      rw [hse] at hsz hlow
      rw [hlo] at hlow
      obtain ⟨q, hq⟩ : ∃ q, s / 2 = q := ⟨_, rfl⟩
      obtain ⟨lo3, hlo3⟩ : ∃ lo3, lo + q = lo3 := ⟨_, rfl⟩
      have hq1 : (s : Int) / 2 = (q : Int) := by omega
      have hq64 : IntKind.u64.wrap (q : Int) = (q : Int) := by rw [Go.IntWalk.u64_in _ (by omega)]
      have hadd : IntKind.u64.wrap ((lo : Int) + q) = (lo3 : Int) := by rw [u64_add (by omega), hlo3]
      have hbt := bit_at (x := x) (t := t) HX.out
      have hg2 := G1.out
      rw [Enc.direct, Enc.one_half] at hg2
      have hcase : x / 2 ^ t % 2 = 0 ∨ x / 2 ^ t % 2 = 1 := by omega
      have PT := Lib.hid hpt
      have HSE := Lib.hid hse
      have HLO := Lib.hid hlo
      have HQ := Lib.hid hq
      have HLO3 := Lib.hid hlo3
      have NB := Lib.hid (E1.out.nb (by decide))
      have HN := Lib.hid hj
      clear hpt hti hlow hsz hse hlo hq hlo3 G1
      rcases hcase with hb | hb
      · rw [hb] at hbt hg2
        have hbt0 : bits .and .u32 ((x : Int) / 2 ^ t) 1 = 0 := hbt
        have HG2 := Lib.hid hg2
        clear hbt hb hg2
        go_wp2_with fail
        have hE2 : EncAt (wr.setCell ⟨b, 1, none⟩ (.int .u32 q)) 68 1 b base v1 (e1.half (0 == 1)) := by
          refine ⟨?_, E1.out.o.other (p := ⟨b, 1, none⟩) NB.out _, (R1.out.half _).ok⟩
          have h9 := PT.out.set 1 (.int .u32 q)
          rw [← HQ.out, ← HSE.out] at h9 ⊢
          exact h9
        have hF2 := F1.out.setCell (p := ⟨b, 1, none⟩) (.inl rfl) (.int .u32 q)
        refine (eorder_r b base v1 _ _ hE2 (Nat.le_trans hbase hF2.size) (by have h1 : (e1.half (0 == 1)).cnt = e1.cnt := rfl; have h2 := N1.out; have h3 := HLEN.out; have h4 := HN.out; omega) (R1.out.half _)).mono ?_
        rintro r w3 ⟨v3, rfl, hE3, hF3, hM3⟩
        have E3 := Lib.hid hE3
        have F3 := Lib.hid (hF2.transR hF3 (fun q hq hh => hh.elim .inl (fun h2 => M1.out.own q hq h2)))
        have M3 := Lib.hid (M1.out.trans hM3 hF2.size)
        clear hE2 hF2 hE3 hF3 hM3
        go_wp2
        exact ⟨⟨t, _, v3, by go_num, by have := HN.out; omega, HG2.out, E3.out, R1.out.one _, by rw [Enc.order_closed]; exact C1.out, by have h1 := Enc.one_cnt e1 (0 == 1); have h2 := N1.out; have h3 := HN.out; rw [Enc.one_half] at h1; omega, F3.out, M3.out⟩, by simp [intOf] <;> omega⟩
      · rw [hb] at hbt hg2
        have hbt0 : bits .and .u32 ((x : Int) / 2 ^ t) 1 = 1 := hbt
        have HG2 := Lib.hid hg2
        clear hbt hb hg2
        go_wp2
        have hP2 := PT.out.set 1 (.int .u32 q)
        have hO2 := E1.out.o.other (p := ⟨b, 1, none⟩) NB.out (.int .u32 q)
        have hF2 := F1.out.setCell (p := ⟨b, 1, none⟩) (.inl rfl) (.int .u32 q)
        generalize wr.setCell ⟨b, 1, none⟩ (.int .u32 q) = w2 at *
        have e0 : w2.cell? ⟨b, 0, none⟩ = some (.int .u64 lo) := by rw [hP2.cell, ← HLO.out]; rfl
        have e1' : w2.cell? ⟨b, 1, none⟩ = some (.int .u32 q) := by rw [hP2.cell]; rfl
        have k0 := hP2.frozen 0
        have P2 := Lib.hid hP2
        have O2 := Lib.hid hO2
        have F2 := Lib.hid hF2
        clear hP2 hO2 hF2 d0 d1 g0 g1
        go_still_tail 13, (by kernel_rfl)
        change wpList _ _ _ _ _ w2.drew
        go_wp2_with fail
        have hE3 : EncAt (w2.setCell ⟨b, 0, none⟩ (.int .u64 lo3)).drew 68 1 b base v1 (e1.half (1 == 1)) := by
          refine ⟨?_, O2.out.other (p := ⟨b, 0, none⟩) NB.out _, (R1.out.half _).ok⟩
          have h9 := (P2.out.set 0 (.int .u64 lo3)).drew
          rw [← HLO3.out, ← HLO.out, ← HQ.out, ← HSE.out] at h9 ⊢
          exact h9
        have hF3 := (F2.out.setCell (p := ⟨b, 0, none⟩) (.inl rfl) (.int .u64 lo3)).drew
        refine (eorder_r b base v1 _ _ hE3 (Nat.le_trans hbase hF3.size) (by have h1 : (e1.half (1 == 1)).cnt = e1.cnt := rfl; have h2 := N1.out; have h3 := HLEN.out; have h4 := HN.out; omega) (R1.out.half _)).mono ?_
        rintro r w3 ⟨v3, rfl, hE4, hF4, hM4⟩
        have E3 := Lib.hid hE4
        have F3 := Lib.hid (hF3.transR hF4 (fun q hq hh => hh.elim .inl (fun h2 => M1.out.own q hq h2)))
        have M3 := Lib.hid (M1.out.trans hM4 hF3.size)
        clear hE3 hF3 hE4 hF4 hM4
        go_wp2
        exact ⟨⟨t, _, v3, by go_num, by have := HN.out; omega, HG2.out, E3.out, R1.out.one _, by rw [Enc.order_closed]; exact C1.out, by have h1 := Enc.one_cnt e1 (1 == 1); have h2 := N1.out; have h3 := HN.out; rw [Enc.one_half] at h1; omega, F3.out, M3.out⟩, by simp [intOf] <;> omega⟩
end Go.Proofs.Ytcnjbdaopphleaa
