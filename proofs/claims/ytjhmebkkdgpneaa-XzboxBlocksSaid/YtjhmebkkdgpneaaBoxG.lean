/- A stream's foot: the document's walk. -/
import Derived.Test.YtjhmebkkdgpneaaBoxF
namespace Go.Proofs.Ytjhmebkkdgpneaa
open Go.RowKit Box
set_option linter.unusedVariables false
set_option linter.unusedSimpArgs false
theorem le_four {a b c d : Nat} (ha : a < 256) (hb : b < 256) (hc : c < 256) (hd : d < 256) :
    bits .or .u64 (bits .or .u64 (bits .or .u64 (a : Int) ((b : Int) * 256)) ((c : Int) * 65536)) ((d : Int) * 16777216) = ((((d * 256 + c) * 256 + b) * 256 + a : Nat) : Int) := by
  have e1 : bits .or .u64 (a : Int) ((b * 256 : Nat) : Int) = ((b * 256 + a : Nat) : Int) := by
    rw [Num.or64 (by unfold Num.M64; omega) (by unfold Num.M64; omega), Nat.or_comm]
    have h3 := Nat.shiftLeft_add_eq_or_of_lt (a := b) (b := a) (i := 8) ha
    rw [Nat.shiftLeft_eq] at h3
    rw [← h3]
  have e2 : bits .or .u64 ((b * 256 + a : Nat) : Int) ((c * 65536 : Nat) : Int) = ((c * 65536 + (b * 256 + a) : Nat) : Int) := by
    rw [Num.or64 (by unfold Num.M64; omega) (by unfold Num.M64; omega), Nat.or_comm]
    have h3 := Nat.shiftLeft_add_eq_or_of_lt (a := c) (b := b * 256 + a) (i := 16) (by rw [show (2 : Nat) ^ 16 = 65536 by decide]; omega)
    rw [Nat.shiftLeft_eq] at h3
    rw [← h3]
  have e3 : bits .or .u64 ((c * 65536 + (b * 256 + a) : Nat) : Int) ((d * 16777216 : Nat) : Int) = ((d * 16777216 + (c * 65536 + (b * 256 + a)) : Nat) : Int) := by
    rw [Num.or64 (by unfold Num.M64; omega) (by unfold Num.M64; omega), Nat.or_comm]
    have h3 := Nat.shiftLeft_add_eq_or_of_lt (a := d) (b := c * 65536 + (b * 256 + a)) (i := 24) (by rw [show (2 : Nat) ^ 24 = 16777216 by decide]; omega)
    rw [Nat.shiftLeft_eq] at h3
    rw [← h3]
  rw [show ((b : Int) * 256) = ((b * 256 : Nat) : Int) by omega, e1, show ((c : Int) * 65536) = ((c * 65536 : Nat) : Int) by omega, e2, show ((d : Int) * 16777216) = ((d * 16777216 : Nat) : Int) by omega, e3, show d * 16777216 + (c * 65536 + (b * 256 + a)) = ((d * 256 + c) * 256 + b) * 256 + a by omega]
theorem byte_eqn {a b : UInt8} (h : a = b) : ((a.toNat : Int) != (b.toNat : Int)) = false := by subst h; simp
theorem bad_or {y0 y1 y2 y3 t0 t1 t2 t3 d0 d1 : UInt8} (h : ¬ (t0 = y0 ∧ t1 = y1 ∧ t2 = y2 ∧ t3 = y3) ∨ ¬ (d0 = 89 ∧ d1 = 90)) : ([y0, y1, y2, y3] == [t0, t1, t2, t3]) = false ∨ ([d0, d1] == ([89, 90] : List UInt8)) = false := by
  rcases h with h | h
  · exact .inl (four_ne h)
  · refine .inr ?_
    rw [beq_eq_false_iff_ne]
    intro e
    simp only [List.cons.injEq, and_true] at e
    exact h e
theorem foot_bad1c {X Y D : List UInt8} {F0 F1 : UInt8} {N : Nat} {R : Int × Nat × Int} (h : (if ¬ ((X == Y) = true ∧ (D == ([89, 90] : List UInt8)) = true) then (0, 0, 11) else if ¬ flagsOk F0 F1 then (0, 0, 12) else ((F1.toNat : Int), N, 0)) = R)
    (h1 : (X == Y) = false ∨ (D == ([89, 90] : List UInt8)) = false) : R = (0, 0, 11) := by
  rw [if_pos (fun h => by rcases h1 with h1 | h1; · rw [h1] at h; cases h.1
                          · rw [h1] at h; cases h.2)] at h
  exact h.symm
set_option maxRecDepth 100000 in
set_option maxHeartbeats 2000000 in
theorem rfoot_p (A : Option Addr) (bs : List UInt8) (n c B : Nat) (w : World) (hn : n = bs.length) (hc : n ≤ c) (hr : BRow w B A bs) (hB : B = w.heap.size) (hlen : bs.length ≤ maxLen) :
    Calls Try.prog 11 #[.slice A n c] w fun e w' => e = .returned (footV (footOf bs)) ∧ Below w.heap.size w w' := by
  subst hn
  subst hB
  obtain ⟨R, hR⟩ : ∃ R, footOf bs = R := ⟨_, rfl⟩
  have hRR := hR
  unfold footOf at hRR
  by_cases h12 : bs.length < 12
  · rw [if_pos h12] at hRR
    rw [hR, ← hRR]
    clear hR hRR
    go_enter Try.func11, Try.ntmps11
    go_wp2
    refine bodyPost_ret (results_tmp3 rfl _ _ _) rfl ?_
    exact ⟨rfl, Below.refl _ _⟩
  · rw [if_neg h12] at hRR
    rw [hR]
    clear hR
    have hs1 : ∀ w, (Instr.sliceAt 22 (.slice A bs.length c) (some (.int .i64 4)) (some (.int .i64 10)) none).run Try.prog w = .ok (.slice (A.map (·.add 4)) 6 (c - 4)) w := fun w => slice_midX A bs.length c 4 10 (by decide) (by omega) hc (by omega) w
    have hrs := hr.mid (f := 4) (t := 6) (c := c) hc (by omega)
    obtain ⟨A4, hA4⟩ : ∃ A4, A.map (·.add 4) = A4 := ⟨_, rfl⟩
    rw [hA4] at hs1 hrs
    obtain ⟨S, hS⟩ : ∃ S, (bs.drop 4).take 6 = S := ⟨_, rfl⟩
    have lS : 6 = S.length := by rw [← hS, List.length_take, List.length_drop]; omega
    rw [hS] at hrs hRR
    have hcrc := rcrc32_any' A4 S 6 (c - 4) _ w lS hrs (by omega)
    unfold sealB at hRR
    obtain ⟨x, hx⟩ : ∃ x, crc32 S = x := ⟨_, rfl⟩
    rw [hx] at hcrc hRR
    have hl4 : (bs.take 4) = [bs.getD 0 0, bs.getD 1 0, bs.getD 2 0, bs.getD 3 0] := by
      have e1 := mid_two (l := bs) (f := 0) (by omega)
      have e2 := mid_two (l := bs) (f := 2) (by omega)
      rw [List.drop_zero] at e1
      have e3 : bs.take 4 = bs.take 2 ++ (bs.drop 2).take 2 := by rw [← List.take_add]
      rw [e3, e1, e2]; rfl
    have hl2 : (bs.take 12).drop 10 = [bs.getD 10 0, bs.getD 11 0] := by rw [List.drop_take]; exact mid_two (by omega)
    rw [hl4, hl2] at hRR
    obtain ⟨b0, off, rfl, hb0, hcell⟩ := hr (by omega)
    have hge : 12 ≤ bs.length := by omega
    have k0 : w.cell? ⟨b0, off, none⟩ = some (.int .u8 ((bs.getD 0 0).toNat : Int)) := hcell 0 (by omega)
    have k1 : w.cell? ⟨b0, off + 1, none⟩ = some (.int .u8 ((bs.getD 1 0).toNat : Int)) := hcell 1 (by omega)
    have k2 : w.cell? ⟨b0, off + 2, none⟩ = some (.int .u8 ((bs.getD 2 0).toNat : Int)) := hcell 2 (by omega)
    have k3 : w.cell? ⟨b0, off + 3, none⟩ = some (.int .u8 ((bs.getD 3 0).toNat : Int)) := hcell 3 (by omega)
    have k10 : w.cell? ⟨b0, off + 10, none⟩ = some (.int .u8 ((bs.getD 10 0).toNat : Int)) := hcell 10 (by omega)
    have k11 : w.cell? ⟨b0, off + 11, none⟩ = some (.int .u8 ((bs.getD 11 0).toNat : Int)) := hcell 11 (by omega)
    have k8 : w.cell? ⟨b0, off + 8, none⟩ = some (.int .u8 ((bs.getD 8 0).toNat : Int)) := hcell 8 (by omega)
    have k9 : w.cell? ⟨b0, off + 9, none⟩ = some (.int .u8 ((bs.getD 9 0).toNat : Int)) := hcell 9 (by omega)
    have k4 : w.cell? ⟨b0, off + 4, none⟩ = some (.int .u8 ((bs.getD 4 0).toNat : Int)) := hcell 4 (by omega)
    have k5 : w.cell? ⟨b0, off + 5, none⟩ = some (.int .u8 ((bs.getD 5 0).toNat : Int)) := hcell 5 (by omega)
    have k6 : w.cell? ⟨b0, off + 6, none⟩ = some (.int .u8 ((bs.getD 6 0).toNat : Int)) := hcell 6 (by omega)
    have k7 : w.cell? ⟨b0, off + 7, none⟩ = some (.int .u8 ((bs.getD 7 0).toNat : Int)) := hcell 7 (by omega)
    have hhi : hiNum bs 4 = (((bs.getD 7 0).toNat * 256 + (bs.getD 6 0).toNat) * 256 + (bs.getD 5 0).toNat) * 256 + (bs.getD 4 0).toNat := by simp only [hiNum]; simp
    rw [hhi] at hRR
    clear hhi hcell hr hS hl4 hl2 hx
    obtain ⟨t0, ht0⟩ : ∃ v, bs.getD 0 0 = v := ⟨_, rfl⟩
    obtain ⟨t1, ht1⟩ : ∃ v, bs.getD 1 0 = v := ⟨_, rfl⟩
    obtain ⟨t2, ht2⟩ : ∃ v, bs.getD 2 0 = v := ⟨_, rfl⟩
    obtain ⟨t3, ht3⟩ : ∃ v, bs.getD 3 0 = v := ⟨_, rfl⟩
    obtain ⟨d0, hd0⟩ : ∃ v, bs.getD 10 0 = v := ⟨_, rfl⟩
    obtain ⟨d1, hd1⟩ : ∃ v, bs.getD 11 0 = v := ⟨_, rfl⟩
    obtain ⟨F0, hF0⟩ : ∃ v, bs.getD 8 0 = v := ⟨_, rfl⟩
    obtain ⟨F1, hF1⟩ : ∃ v, bs.getD 9 0 = v := ⟨_, rfl⟩
    obtain ⟨n4, hn4⟩ : ∃ v, bs.getD 4 0 = v := ⟨_, rfl⟩
    obtain ⟨n5, hn5⟩ : ∃ v, bs.getD 5 0 = v := ⟨_, rfl⟩
    obtain ⟨n6, hn6⟩ : ∃ v, bs.getD 6 0 = v := ⟨_, rfl⟩
    obtain ⟨n7, hn7⟩ : ∃ v, bs.getD 7 0 = v := ⟨_, rfl⟩
    simp only [ht0, ht1, ht2, ht3, hd0, hd1, hF0, hF1, hn4, hn5, hn6, hn7] at hRR k0 k1 k2 k3 k10 k11 k8 k9 k4 k5 k6 k7
    clear ht0 ht1 ht2 ht3 hd0 hd1 hF0 hF1 hn4 hn5 hn6 hn7
    have g0 := byte_of x
    have g1 : IntKind.u8.wrap ((x : Int) / 256) = _ := byte_div x 256
    have g2 : IntKind.u8.wrap ((x : Int) / 65536) = _ := byte_div x 65536
    have g3 : IntKind.u8.wrap ((x : Int) / 16777216) = _ := byte_div x 16777216
    unfold four at hRR
    obtain ⟨y0, h0⟩ : ∃ y, UInt8.ofNat x = y := ⟨_, rfl⟩
    obtain ⟨y1, h1⟩ : ∃ y, UInt8.ofNat (x / 256) = y := ⟨_, rfl⟩
    obtain ⟨y2, h2⟩ : ∃ y, UInt8.ofNat (x / 65536) = y := ⟨_, rfl⟩
    obtain ⟨y3, h3⟩ : ∃ y, UInt8.ofNat (x / 16777216) = y := ⟨_, rfl⟩
    simp only [h0, h1, h2, h3] at g0 g1 g2 g3 hRR
    have HQ := Lib.hid hcrc
    have HRR := Lib.hid hRR
    have HGE := Lib.hid hge
    clear hcrc hRR h0 h1 h2 h3 hrs lS h12 hc hlen hA4 hge
    have hl12 : ¬ (bs.length : Int) < 12 := by have := HGE.out; omega
    by_cases q0 : t0 = y0
    · have p0 : ((t0.toNat : Int) != (y0.toNat : Int)) = false := byte_eqn q0
      by_cases q1 : t1 = y1
      · have p1 : ((t1.toNat : Int) != (y1.toNat : Int)) = false := byte_eqn q1
        by_cases q2 : t2 = y2
        · have p2 : ((t2.toNat : Int) != (y2.toNat : Int)) = false := byte_eqn q2
          by_cases q3 : t3 = y3
          · have p3 : ((t3.toNat : Int) != (y3.toNat : Int)) = false := byte_eqn q3
            by_cases q4 : d0 = 89
            · have p4 : ((d0.toNat : Int) != 89) = false := byte_eqn q4
              by_cases q5 : d1 = 90
              · have p5 : ((d1.toNat : Int) != 90) = false := byte_eqn q5
                have hR := HRR.out
                have hok : ([y0, y1, y2, y3] == [t0, t1, t2, t3]) = true ∧ ([d0, d1] == ([89, 90] : List UInt8)) = true := by subst q0 q1 q2 q3 q4 q5; simp
                rw [if_neg (fun h => h hok)] at hR
                clear HRR q0 q1 q2 q3 q4 q5 hok
                by_cases hF : F0 = 0
                · subst hF
                  have k8 : w.cell? ⟨b0, off + 8, none⟩ = some (.int .u8 0) := k8
                  have HK := Lib.hid (known_p F1 w)
                  by_cases hk : knownB F1 = true
                  · rw [if_neg (fun h => h ((flags_iff _ _).2 ⟨rfl, hk⟩))] at hR
                    subst hR
                    rw [hk] at HK
                    have l4 := n4.toNat_lt
                    have l5 := n5.toNat_lt
                    have l6 := n6.toNat_lt
                    have l7 := n7.toNat_lt
                    have l9 := F1.toNat_lt
                    have hle := le_four l4 l5 l6 l7
                    obtain ⟨N, hN⟩ : ∃ N, ((n7.toNat * 256 + n6.toNat) * 256 + n5.toNat) * 256 + n4.toNat = N := ⟨_, rfl⟩
                    have hN2 : N < 4294967296 := by omega
                    rw [hN] at hle ⊢
                    clear hk hN
                    generalize n4.toNat = m4 at *
                    generalize n5.toNat = m5 at *
                    generalize n6.toNat = m6 at *
                    generalize n7.toNat = m7 at *
                    go_enter Try.func11, Try.ntmps11
                    go_wp2_with fail
                    refine HQ.out.mono ?_; rintro r w1 ⟨rfl, rfl⟩
                    go_wp2_with fail
                    refine HK.out.mono ?_; rintro r w2 ⟨rfl, rfl⟩
                    go_wp2
                    go_quiet (fail)
                    go_wp2
                    refine bodyPost_ret (results_tmp3 rfl _ _ _) rfl ?_
                    exact ⟨rfl, below_drewN (Below.refl _ _) _⟩
                  · rw [if_pos (fun h => hk ((flags_iff _ _).1 h).2)] at hR
                    subst hR
                    have hk : knownB F1 = false := by simpa using hk
                    rw [hk] at HK
                    clear hk
                    go_enter Try.func11, Try.ntmps11
                    go_wp2_with fail
                    refine HQ.out.mono ?_; rintro r w1 ⟨rfl, rfl⟩
                    go_wp2_with fail
                    refine HK.out.mono ?_; rintro r w2 ⟨rfl, rfl⟩
                    go_wp2
                    refine bodyPost_ret (results_tmp3 rfl _ _ _) rfl ?_
                    exact ⟨rfl, Below.refl _ _⟩
                · rw [if_pos (fun h => hF h.1)] at hR
                  subst hR
                  have hq : ((F0.toNat : Int) != 0) = true := byte_neq (b := 0) hF
                  clear hF
                  go_enter Try.func11, Try.ntmps11
                  go_wp2_with fail
                  refine HQ.out.mono ?_; rintro r w1 ⟨rfl, rfl⟩
                  go_wp2
                  refine bodyPost_ret (results_tmp3 rfl _ _ _) rfl ?_
                  exact ⟨rfl, Below.refl _ _⟩
              · have p5 : ((d1.toNat : Int) != 90) = true := byte_neq q5
                have hR := foot_bad1c HRR.out (bad_or (.inr (fun h => q5 h.2)))
                clear HRR q0 q1 q2 q3 q4 q5
                subst hR
                go_enter Try.func11, Try.ntmps11
                go_wp2_with fail
                refine HQ.out.mono ?_; rintro r w1 ⟨rfl, rfl⟩
                go_wp2
                refine bodyPost_ret (results_tmp3 rfl _ _ _) rfl ?_
                exact ⟨rfl, Below.refl _ _⟩
            · have p4 : ((d0.toNat : Int) != 89) = true := byte_neq q4
              have hR := foot_bad1c HRR.out (bad_or (.inr (fun h => q4 h.1)))
              clear HRR q0 q1 q2 q3 q4
              subst hR
              go_enter Try.func11, Try.ntmps11
              go_wp2_with fail
              refine HQ.out.mono ?_; rintro r w1 ⟨rfl, rfl⟩
              go_wp2
              refine bodyPost_ret (results_tmp3 rfl _ _ _) rfl ?_
              exact ⟨rfl, Below.refl _ _⟩
          · have p3 : ((t3.toNat : Int) != (y3.toNat : Int)) = true := byte_neq q3
            have hR := foot_bad1c HRR.out (bad_or (.inl (fun h => q3 h.2.2.2)))
            clear HRR q0 q1 q2 q3
            subst hR
            go_enter Try.func11, Try.ntmps11
            go_wp2_with fail
            refine HQ.out.mono ?_; rintro r w1 ⟨rfl, rfl⟩
            go_wp2
            refine bodyPost_ret (results_tmp3 rfl _ _ _) rfl ?_
            exact ⟨rfl, Below.refl _ _⟩
        · have p2 : ((t2.toNat : Int) != (y2.toNat : Int)) = true := byte_neq q2
          have hR := foot_bad1c HRR.out (bad_or (.inl (fun h => q2 h.2.2.1)))
          clear HRR q0 q1 q2
          subst hR
          go_enter Try.func11, Try.ntmps11
          go_wp2_with fail
          refine HQ.out.mono ?_; rintro r w1 ⟨rfl, rfl⟩
          go_wp2
          refine bodyPost_ret (results_tmp3 rfl _ _ _) rfl ?_
          exact ⟨rfl, Below.refl _ _⟩
      · have p1 : ((t1.toNat : Int) != (y1.toNat : Int)) = true := byte_neq q1
        have hR := foot_bad1c HRR.out (bad_or (.inl (fun h => q1 h.2.1)))
        clear HRR q0 q1
        subst hR
        go_enter Try.func11, Try.ntmps11
        go_wp2_with fail
        refine HQ.out.mono ?_; rintro r w1 ⟨rfl, rfl⟩
        go_wp2
        refine bodyPost_ret (results_tmp3 rfl _ _ _) rfl ?_
        exact ⟨rfl, Below.refl _ _⟩
    · have p0 : ((t0.toNat : Int) != (y0.toNat : Int)) = true := byte_neq q0
      have hR := foot_bad1c HRR.out (bad_or (.inl (fun h => q0 h.1)))
      clear HRR q0
      subst hR
      go_enter Try.func11, Try.ntmps11
      go_wp2_with fail
      refine HQ.out.mono ?_; rintro r w1 ⟨rfl, rfl⟩
      go_wp2
      refine bodyPost_ret (results_tmp3 rfl _ _ _) rfl ?_
      exact ⟨rfl, Below.refl _ _⟩
end Go.Proofs.Ytjhmebkkdgpneaa
