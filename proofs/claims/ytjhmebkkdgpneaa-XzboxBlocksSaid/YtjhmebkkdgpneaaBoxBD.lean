/- A block's head: the walk of Block, to its end. -/
import Derived.Test.YtjhmebkkdgpneaaBoxBC
import Derived.Test.YtjhmebkkdgpneaaBoxI
namespace Go.Proofs.Ytjhmebkkdgpneaa
open Go.RowKit Box
set_option linter.unusedVariables false
set_option linter.unusedSimpArgs false
section
variable {w0 w : World} {s : Int} {n p q : Nat}
theorem BkAt.drew (S : BkAt w0 w s n p q) : BkAt w0 w.drew s n p q := ⟨S.ps.drew, S.pn.drew, S.pp.drew, S.pq.drew, S.pe.drew, S.be.drew⟩
theorem BkAt.put0 (S : BkAt w0 w s n p q) : BkAt w0 (w.setCell ⟨w0.heap.size, 0, none⟩ (.int .i64 s)) s n p q :=
  ⟨S.ps.set 0 _, S.pn.other (p := ⟨w0.heap.size, 0, none⟩) (by show w0.heap.size + 1 ≠ w0.heap.size; omega) _, S.pp.other (p := ⟨w0.heap.size, 0, none⟩) (by show w0.heap.size + 2 ≠ w0.heap.size; omega) _, S.pq.other (p := ⟨w0.heap.size, 0, none⟩) (by show w0.heap.size + 3 ≠ w0.heap.size; omega) _, S.pe.other (p := ⟨w0.heap.size, 0, none⟩) (by show w0.heap.size + 4 ≠ w0.heap.size; omega) _, S.be.setCell (p := ⟨w0.heap.size, 0, none⟩) (show w0.heap.size ≤ w0.heap.size by omega) _⟩
theorem BkAt.put1 (S : BkAt w0 w s n p q) : BkAt w0 (w.setCell ⟨w0.heap.size + 1, 0, none⟩ (.int .i64 (n : Int))) s n p q :=
  ⟨S.ps.other (p := ⟨w0.heap.size + 1, 0, none⟩) (by show w0.heap.size ≠ w0.heap.size + 1; omega) _, S.pn.set 0 _, S.pp.other (p := ⟨w0.heap.size + 1, 0, none⟩) (by show w0.heap.size + 2 ≠ w0.heap.size + 1; omega) _, S.pq.other (p := ⟨w0.heap.size + 1, 0, none⟩) (by show w0.heap.size + 3 ≠ w0.heap.size + 1; omega) _, S.pe.other (p := ⟨w0.heap.size + 1, 0, none⟩) (by show w0.heap.size + 4 ≠ w0.heap.size + 1; omega) _, S.be.setCell (p := ⟨w0.heap.size + 1, 0, none⟩) (show w0.heap.size ≤ w0.heap.size + 1 by omega) _⟩
theorem BkAt.put2 (S : BkAt w0 w s n p q) : BkAt w0 (w.setCell ⟨w0.heap.size + 2, 0, none⟩ (.int .u64 (p : Int))) s n p q :=
  ⟨S.ps.other (p := ⟨w0.heap.size + 2, 0, none⟩) (by show w0.heap.size ≠ w0.heap.size + 2; omega) _, S.pn.other (p := ⟨w0.heap.size + 2, 0, none⟩) (by show w0.heap.size + 1 ≠ w0.heap.size + 2; omega) _, S.pp.set 0 _, S.pq.other (p := ⟨w0.heap.size + 2, 0, none⟩) (by show w0.heap.size + 3 ≠ w0.heap.size + 2; omega) _, S.pe.other (p := ⟨w0.heap.size + 2, 0, none⟩) (by show w0.heap.size + 4 ≠ w0.heap.size + 2; omega) _, S.be.setCell (p := ⟨w0.heap.size + 2, 0, none⟩) (show w0.heap.size ≤ w0.heap.size + 2 by omega) _⟩
theorem BkAt.put3 (S : BkAt w0 w s n p q) : BkAt w0 (w.setCell ⟨w0.heap.size + 3, 0, none⟩ (.int .u64 (q : Int))) s n p q :=
  ⟨S.ps.other (p := ⟨w0.heap.size + 3, 0, none⟩) (by show w0.heap.size ≠ w0.heap.size + 3; omega) _, S.pn.other (p := ⟨w0.heap.size + 3, 0, none⟩) (by show w0.heap.size + 1 ≠ w0.heap.size + 3; omega) _, S.pp.other (p := ⟨w0.heap.size + 3, 0, none⟩) (by show w0.heap.size + 2 ≠ w0.heap.size + 3; omega) _, S.pq.set 0 _, S.pe.other (p := ⟨w0.heap.size + 3, 0, none⟩) (by show w0.heap.size + 4 ≠ w0.heap.size + 3; omega) _, S.be.setCell (p := ⟨w0.heap.size + 3, 0, none⟩) (show w0.heap.size ≤ w0.heap.size + 3 by omega) _⟩
theorem BkAt.put4 (S : BkAt w0 w s n p q) : BkAt w0 (w.setCell ⟨w0.heap.size + 4, 0, none⟩ (.int .i64 0)) s n p q :=
  ⟨S.ps.other (p := ⟨w0.heap.size + 4, 0, none⟩) (by show w0.heap.size ≠ w0.heap.size + 4; omega) _, S.pn.other (p := ⟨w0.heap.size + 4, 0, none⟩) (by show w0.heap.size + 1 ≠ w0.heap.size + 4; omega) _, S.pp.other (p := ⟨w0.heap.size + 4, 0, none⟩) (by show w0.heap.size + 2 ≠ w0.heap.size + 4; omega) _, S.pq.other (p := ⟨w0.heap.size + 4, 0, none⟩) (by show w0.heap.size + 3 ≠ w0.heap.size + 4; omega) _, S.pe.set 0 _, S.be.setCell (p := ⟨w0.heap.size + 4, 0, none⟩) (show w0.heap.size ≤ w0.heap.size + 4 by omega) _⟩
end
set_option maxRecDepth 100000 in
set_option maxHeartbeats 600000 in
theorem block_p (A : Option Addr) (bs : List UInt8) (n c : Nat) (w : World) (hn : n = bs.length) (hc : n ≤ c) (hcm : c ≤ maxLen) (hr : BRow w w.heap.size A bs) :
    Calls Try.prog 19 #[.slice A n c] w (BlkPost (blockOf bs) w) := by
  subst hn
  have hmf : ∀ (fn : Fn) (first cap : Array Value) (w : World), (Instr.makeFunc fn first cap).run Try.prog w = .ok (.func fn first cap) w := fun _ _ _ _ => rfl
  have s1 : ∃ w1, (((((w.alloc (.cells #[.int .i64 0] 3)).alloc (.cells #[.int .i64 0] 3)).alloc (.cells #[.int .u64 0] 26)).alloc (.cells #[.int .u64 0] 26)).alloc (.cells #[.int .i64 0] 23)).alloc (.cells #[.slice A bs.length c, .int .i64 0] 49) = w1 ∧ BkAt w w1 0 0 0 0 ∧ CurAt w1 (w.heap.size + 5) w.heap.size bs 0 := by
    have sz1 : (w.alloc (.cells #[.int .i64 0] 3)).heap.size = w.heap.size + 1 := by show (w.heap.push _).size = _; rw [Array.size_push]
    have q1 := Pts.new w #[.int .i64 0] 3
    have b1 : Below w.heap.size w _ := (Below.refl _ w).alloc (Nat.le_refl _) (.cells #[.int .i64 0] 3)
    generalize w.alloc (.cells #[.int .i64 0] 3) = x1 at *
    have sz2 : (x1.alloc (.cells #[.int .i64 0] 3)).heap.size = w.heap.size + 2 := by show (x1.heap.push _).size = _; rw [Array.size_push, sz1]
    have q2 := Pts.new x1 #[.int .i64 0] 3
    have q1 := q1.alloc (.cells #[.int .i64 0] 3)
    have b2 := b1.alloc b1.size (.cells #[.int .i64 0] 3)
    rw [sz1] at q2
    generalize x1.alloc (.cells #[.int .i64 0] 3) = x2 at *
    have sz3 : (x2.alloc (.cells #[.int .u64 0] 26)).heap.size = w.heap.size + 3 := by show (x2.heap.push _).size = _; rw [Array.size_push, sz2]
    have q3 := Pts.new x2 #[.int .u64 0] 26
    have q1 := q1.alloc (.cells #[.int .u64 0] 26)
    have q2 := q2.alloc (.cells #[.int .u64 0] 26)
    have b3 := b2.alloc b2.size (.cells #[.int .u64 0] 26)
    rw [sz2] at q3
    generalize x2.alloc (.cells #[.int .u64 0] 26) = x3 at *
    have sz4 : (x3.alloc (.cells #[.int .u64 0] 26)).heap.size = w.heap.size + 4 := by show (x3.heap.push _).size = _; rw [Array.size_push, sz3]
    have q4 := Pts.new x3 #[.int .u64 0] 26
    have q1 := q1.alloc (.cells #[.int .u64 0] 26)
    have q2 := q2.alloc (.cells #[.int .u64 0] 26)
    have q3 := q3.alloc (.cells #[.int .u64 0] 26)
    have b4 := b3.alloc b3.size (.cells #[.int .u64 0] 26)
    rw [sz3] at q4
    generalize x3.alloc (.cells #[.int .u64 0] 26) = x4 at *
    have sz5 : (x4.alloc (.cells #[.int .i64 0] 23)).heap.size = w.heap.size + 5 := by show (x4.heap.push _).size = _; rw [Array.size_push, sz4]
    have q5 := Pts.new x4 #[.int .i64 0] 23
    have q1 := q1.alloc (.cells #[.int .i64 0] 23)
    have q2 := q2.alloc (.cells #[.int .i64 0] 23)
    have q3 := q3.alloc (.cells #[.int .i64 0] 23)
    have q4 := q4.alloc (.cells #[.int .i64 0] 23)
    have b5 := b4.alloc b4.size (.cells #[.int .i64 0] 23)
    rw [sz4] at q5
    generalize x4.alloc (.cells #[.int .i64 0] 23) = x5 at *
    have q6 := CurAt.fresh (w := x5) w hc hcm hr b5 b5.size
    rw [sz5] at q6
    exact ⟨_, rfl, ⟨q1.alloc _, q2.alloc _, q3.alloc _, q4.alloc _, q5.alloc _, b5.alloc b5.size _⟩, q6⟩
  obtain ⟨w1, hw1, s1, c1⟩ := s1
  have S1 := Lib.hid s1
  have C1 := Lib.hid c1
  have CAP := Lib.hid hc
  have ROW := Lib.hid hr
  clear s1 c1 hr
  obtain ⟨R, hR⟩ : ∃ R, blockOf bs = R := ⟨_, rfl⟩
  rw [hR]
  cases bs with
  | nil =>
    have hR : (0, 0, 0, 0, 10) = R := hR
    subst hR
    simp only [List.length_nil] at hw1
    clear hc
    go_enter_defers Try.func19, Try.ntmps19
    go_wp2_with fail
    refine (must_bad _ _ _).mono ?_; rintro r w2 ⟨rfl, rfl⟩
    go_wp2
    exact bk_door _ (by decide) _ _ _ _ w w1 S1.out _ rfl rfl rfl rfl rfl
  | cons b r0 =>
    have hRb := hR
    unfold blockOf at hRb
    simp only at hRb
    obtain ⟨bs, hbs⟩ : ∃ bs, b :: r0 = bs := ⟨_, rfl⟩
    have hb0 : bs.getD 0 0 = b := by rw [← hbs]; rfl
    have hl1 : 1 ≤ bs.length := by rw [← hbs]; simp
    rw [hbs] at hRb hw1 CAP ROW hc C1 ⊢
    obtain ⟨b0, off, rfl, hbl, hcell⟩ := ROW.out (by omega)
    have k0 : w1.cell? ⟨b0, off, none⟩ = some (.int .u8 (b.toNat : Int)) := by
      have := hcell 0 (by omega)
      rw [hb0] at this
      exact (S1.out.be.cell (p := ⟨b0, off + 0, none⟩) hbl).trans this
    have hbn := b.toNat_lt
    obtain ⟨N, hN⟩ : ∃ N, (b.toNat + 1) * 4 = N := ⟨_, rfl⟩
    rw [hN] at hRb
    have hbz : b = 0 ↔ b.toNat = 0 := ⟨fun e => by rw [e]; rfl, fun e => by rw [← UInt8.ofNat_toNat (x := b), e]; rfl⟩
    obtain ⟨bn, hbb⟩ : ∃ bn, b.toNat = bn := ⟨_, rfl⟩
    rw [hbb] at k0 hbn hN hbz
    have hNi : ((bn : Int) + 1) * 4 = (N : Int) := by omega
    have hNb : 4 ≤ N ∧ N ≤ 1024 := by omega
    have HRB := Lib.hid hRb
    have HBZ := Lib.hid hbz
    have HN4 := Lib.hid hN
    have hl1i : decide (0 < bs.length) = true := decide_eq_true (by omega)
    clear hR hRb hbz hcell hbs hb0 hbb hc hN
    by_cases hsh : bs.length < N
    · have hR := HRB.out
      rw [if_pos hsh] at hR
      subst hR
      have HSH := Lib.hid hsh
      clear HRB hsh
      go_enter_defers Try.func19, Try.ntmps19
      go_wp2_with fail
      refine (must_ok _ _ _).mono ?_; rintro r w2 ⟨rfl, rfl⟩
      go_wp2_with fail
      refine (take_bad (w.heap.size + 5) w.heap.size N 0 10 bs w1 C1.out HSH.out).mono ?_; rintro r w2 ⟨rfl, rfl⟩
      go_wp2
      exact bk_door _ (by decide) _ _ _ _ w w1 S1.out _ rfl rfl rfl rfl rfl
    · have hR := HRB.out
      rw [if_neg hsh] at hR
      have HSH := Lib.hid hsh
      have HT := Lib.hid (take_ok (w.heap.size + 5) w.heap.size N 0 10 bs w1 C1.out (by omega) (by omega))
      clear HRB hsh
      have lH : (bs.take N).length = N := by rw [List.length_take]; have := HSH.out; omega
      obtain ⟨H, hH⟩ : ∃ H, bs.take N = H := ⟨_, rfl⟩
      rw [hH] at hR lH HT
      have LH := Lib.hid lH
      clear hH lH
      by_cases hz : b = 0
      · rw [if_pos hz] at hR
        subst hR
        have hbn0 : bn = 0 := HBZ.out.1 hz
        have hbq : ((bn : Int) != 0) = false := by rw [hbn0]; rfl
        clear hz hbn0
        go_enter_defers Try.func19, Try.ntmps19
        go_wp2_with fail
        refine (must_ok _ _ _).mono ?_; rintro r w2 ⟨rfl, rfl⟩
        go_wp2_with fail
        refine HT.out.mono ?_; rintro r w2 ⟨A2, c2, rfl, hr2, hc2, hm2, hcu2, hf2⟩
        have S2 := Lib.hid (S1.out.frm hf2 (fun k hk => by omega))
        have k2 : w2.cell? ⟨b0, off, none⟩ = some (.int .u8 (bn : Int)) := (World.cell?_of_block (w := w1) (hf2.block b0 (by have := S1.out.be.size; omega) (by show ¬ _ = _; omega))).trans k0
        have C2 := Lib.hid hcu2
        have R2 := Lib.hid hr2
        have HC2 := Lib.hid hc2
        have HM2 := Lib.hid hm2
        clear hr2 hc2 hm2 hcu2 hf2
        go_wp2_with fail
        refine (must_bad _ _ _).mono ?_; rintro r w3 ⟨rfl, rfl⟩
        go_wp2
        exact bk_door _ (by decide) _ _ _ _ w w2 S2.out _ rfl rfl rfl rfl rfl
      · rw [if_neg hz] at hR
        have hbn0 : ¬ bn = 0 := fun e => hz (HBZ.out.2 e)
        have hbq : ((bn : Int) != 0) = true := by simp; omega
        have hN8 : 8 ≤ N := by have := HN4.out; omega
        clear hz hbn0
        have HRR := Lib.hid hR
        clear hR
        go_enter_defers Try.func19, Try.ntmps19
        go_wp2_with fail
        refine (must_ok _ _ _).mono ?_; rintro r w2 ⟨rfl, rfl⟩
        go_wp2_with fail
        refine HT.out.mono ?_; rintro r w2 ⟨A2, c2, rfl, hr2, hc2, hm2, hcu2, hf2⟩
        have S2 := Lib.hid (S1.out.frm hf2 (fun k hk => by omega))
        have k2 : w2.cell? ⟨b0, off, none⟩ = some (.int .u8 (bn : Int)) := (World.cell?_of_block (w := w1) (hf2.block b0 (by have := S1.out.be.size; omega) (by show ¬ _ = _; omega))).trans k0
        have C2 := Lib.hid hcu2
        have R2 := Lib.hid hr2
        have HC2 := Lib.hid hc2
        have HM2 := Lib.hid hm2
        clear hr2 hc2 hm2 hcu2 hf2
        go_wp2_with fail
        refine (sealed_p A2 H N c2 w2 LH.out.symm (by omega) HC2.out ((R2.out).more S2.out.be.size) (by rw [LH.out]; omega)).mono ?_; rintro r w3 ⟨rfl, hb3⟩
        have S3 := Lib.hid (S2.out.still hb3)
        have C3 := Lib.hid (C2.out.frm (S := fun _ => False) (Frm.of_below hb3) (fun h => h) (fun k h => h.elim))
        have R3 := Lib.hid (R2.out.below (hb3.mono S2.out.be.size))
        have hR := HRR.out
        clear hb3 HRR
        by_cases hse : sealedB H = true
        · rw [if_neg (fun h => h hse)] at hR
          rw [hse]
          clear hse
          go_wp2_with fail
          refine (must_ok _ _ _).mono ?_; rintro r w4 ⟨rfl, rfl⟩
          have hs9 : ∀ w, (Instr.sliceAt 22 (.slice A2 N c2) (some (.int .i64 1)) (some (.int .i64 ((N - 4 : Nat) : Int))) none).run Try.prog w = .ok (.slice (A2.map (·.add 1)) (N - 4 - 1) (c2 - 1)) w := fun w => slice_midX A2 N c2 1 (N - 4) (by omega) (by omega) HC2.out (by have := HC2.out; omega) w
          have hrm := R3.out.mid (f := 1) (t := N - 5) (c := c2) (by rw [LH.out]; exact HC2.out) (by have := HC2.out; omega)
          obtain ⟨A9, hA9⟩ : ∃ A9, A2.map (·.add 1) = A9 := ⟨_, rfl⟩
          rw [hA9] at hs9 hrm
          obtain ⟨N4, hN4⟩ : ∃ N4, N - 4 = N4 := ⟨_, rfl⟩
          have hN4i : (N : Int) - 4 = (N4 : Int) := by omega
          obtain ⟨N5, hN5⟩ : ∃ N5, N4 - 1 = N5 := ⟨_, rfl⟩
          rw [hN4, hN5] at hs9
          have hN55 : N - 5 = N5 := by omega
          rw [hN55] at hrm hR
          have hwN4 : IntKind.i64.wrap (N4 : Int) = (N4 : Int) := Go.IntWalk.i64_in _ (by omega)
          obtain ⟨B5, hB5⟩ : ∃ B5, (H.drop 1).take N5 = B5 := ⟨_, rfl⟩
          have lB5 : N5 = B5.length := by rw [← hB5, List.length_take, List.length_drop, LH.out]; omega
          rw [hB5] at hrm hR
          obtain ⟨c9, hc9⟩ : ∃ c9, c2 - 1 = c9 := ⟨_, rfl⟩
          rw [hc9] at hs9
          have hc9b : N5 ≤ c9 ∧ c9 ≤ maxLen := by have := HC2.out; have := HM2.out; omega
          obtain ⟨Ax, cx, hpx, _, _, _, _⟩ := C3.out
          have cx0 : w3.cell? ⟨w.heap.size + 5, 0, none⟩ = some (.slice Ax (bs.drop N).length cx) := hpx.cell 0
          have zx0 := hpx.frozen 0
          have hp4 := hpx.set 0 (.slice A9 N5 c9)
          have hf4 : Frm (· = w.heap.size + 5) w3 (w3.setCell ⟨w.heap.size + 5, 0, none⟩ (.slice A9 N5 c9)) := (Frm.refl _ w3).setCell (by rfl) _
          have hc4 : CurAt (w3.setCell ⟨w.heap.size + 5, 0, none⟩ (.slice A9 N5 c9)) (w.heap.size + 5) w.heap.size B5 (0 + N) := by
            rw [lB5] at hp4 hf4 ⊢
            exact ⟨A9, c9, hp4, hrm.frm hf4 S3.out.be.size (fun k hk => by omega), by omega, hc9b.2, by omega⟩
          have S4 := Lib.hid (S3.out.frm hf4 (fun k hk => by omega))
          have C4 := Lib.hid hc4
          have LB := Lib.hid (show 0 + N + B5.length ≤ 1000000 by omega)
          have HR9 := Lib.hid hR
          generalize hw4 : w3.setCell ⟨w.heap.size + 5, 0, none⟩ (.slice A9 N5 c9) = w4 at *
          have n4 : w4.cell? ⟨w.heap.size + 1, 0, none⟩ = some (.int .i64 0) := S4.out.pn.cell 0
          have zn4 := S4.out.pn.frozen 0
          have S5 := Lib.hid (show BkAt w (w4.setCell ⟨w.heap.size + 1, 0, none⟩ (.int .i64 (N : Int))) 0 N 0 0 from
            ⟨S4.out.ps.other (p := ⟨w.heap.size + 1, 0, none⟩) (by show w.heap.size ≠ w.heap.size + 1; omega) _, S4.out.pn.set 0 _, S4.out.pp.other (p := ⟨w.heap.size + 1, 0, none⟩) (by show w.heap.size + 2 ≠ w.heap.size + 1; omega) _, S4.out.pq.other (p := ⟨w.heap.size + 1, 0, none⟩) (by show w.heap.size + 3 ≠ w.heap.size + 1; omega) _, S4.out.pe.other (p := ⟨w.heap.size + 1, 0, none⟩) (by show w.heap.size + 4 ≠ w.heap.size + 1; omega) _, S4.out.be.setCell (p := ⟨w.heap.size + 1, 0, none⟩) (show w.heap.size ≤ w.heap.size + 1 by omega) _⟩)
          have hc5 : CurAt (w4.setCell ⟨w.heap.size + 1, 0, none⟩ (.int .i64 (N : Int))) (w.heap.size + 5) w.heap.size B5 (0 + N) := by
            obtain ⟨A', c', hp', hr', h1', h2', h3'⟩ := C4.out
            have hb' : Below w.heap.size w4 (w4.setCell ⟨w.heap.size + 1, 0, none⟩ (.int .i64 (N : Int))) := (Below.refl _ w4).setCell (p := ⟨w.heap.size + 1, 0, none⟩) (show w.heap.size ≤ w.heap.size + 1 by omega) _
            exact ⟨A', c', hp'.other (p := ⟨w.heap.size + 1, 0, none⟩) (by show w.heap.size + 5 ≠ w.heap.size + 1; omega) _, hr'.below hb', h1', h2', h3'⟩
          have C5 := Lib.hid hc5
          clear hR hB5 hA9 hN4 hN5 hN55 hrm hc9 hc4 hc5 hp4 hf4 hpx lB5 hc9b
          generalize hw5 : w4.setCell ⟨w.heap.size + 1, 0, none⟩ (.int .i64 (N : Int)) = w5 at *
          go_wp2_with fail
          refine (cblock_p (w.heap.size + 5) w.heap.size (0 + N) B5 w5 C5.out LB.out).mono ?_; rintro r w6 ⟨hbk, hf6⟩
          have S6 := Lib.hid (S5.out.frm hf6 (fun k hk => by omega))
          clear hf6
          obtain ⟨Q, hQ⟩ : ∃ Q, bkBody B5 = Q := ⟨_, rfl⟩
          rw [hQ] at hbk
          have hR := HR9.out
          rw [hQ] at hR
          clear HR9 hQ
          match Q, hbk, hR with
          | .error x, hbk, hR =>
            obtain ⟨hx0, rfl⟩ := hbk
            have hR : (0, 0, 0, 0, x) = R := hR
            subst hR
            have HX0 := Lib.hid hx0
            clear hx0
            go_wp2
            exact bk_door _ HX0.out _ _ _ _ w w6 S6.out _ rfl rfl rfl rfl rfl
          | .ok (s, p, q), hbk, hR =>
            have hbk : r = .returned (.tuple #[.int .i64 s, .int .u64 (p : Int), .int .u64 (q : Int)]) := hbk
            subst hbk
            have hR : (s, N, p, q, 0) = R := hR
            subst hR
            have m0 : w6.cell? ⟨w.heap.size, 0, none⟩ = some (.int .i64 0) := S6.out.ps.cell 0
            have zm0 := S6.out.ps.frozen 0
            have m2 : w6.cell? ⟨w.heap.size + 2, 0, none⟩ = some (.int .u64 0) := S6.out.pp.cell 0
            have zm2 := S6.out.pp.frozen 0
            have m3 : w6.cell? ⟨w.heap.size + 3, 0, none⟩ = some (.int .u64 0) := S6.out.pq.cell 0
            have zm3 := S6.out.pq.frozen 0
            have S7 := Lib.hid (show BkAt w (((w6.setCell ⟨w.heap.size, 0, none⟩ (.int .i64 s)).setCell ⟨w.heap.size + 2, 0, none⟩ (.int .u64 (p : Int))).setCell ⟨w.heap.size + 3, 0, none⟩ (.int .u64 (q : Int))) s N p q from
              ⟨((S6.out.ps.set 0 _).other (p := ⟨w.heap.size + 2, 0, none⟩) (by show w.heap.size ≠ w.heap.size + 2; omega) _).other (p := ⟨w.heap.size + 3, 0, none⟩) (by show w.heap.size ≠ w.heap.size + 3; omega) _,
               ((S6.out.pn.other (p := ⟨w.heap.size, 0, none⟩) (by show w.heap.size + 1 ≠ w.heap.size; omega) _).other (p := ⟨w.heap.size + 2, 0, none⟩) (by show w.heap.size + 1 ≠ w.heap.size + 2; omega) _).other (p := ⟨w.heap.size + 3, 0, none⟩) (by show w.heap.size + 1 ≠ w.heap.size + 3; omega) _,
               ((S6.out.pp.other (p := ⟨w.heap.size, 0, none⟩) (by show w.heap.size + 2 ≠ w.heap.size; omega) _).set 0 _).other (p := ⟨w.heap.size + 3, 0, none⟩) (by show w.heap.size + 2 ≠ w.heap.size + 3; omega) _,
               ((S6.out.pq.other (p := ⟨w.heap.size, 0, none⟩) (by show w.heap.size + 3 ≠ w.heap.size; omega) _).other (p := ⟨w.heap.size + 2, 0, none⟩) (by show w.heap.size + 3 ≠ w.heap.size + 2; omega) _).set 0 _,
               ((S6.out.pe.other (p := ⟨w.heap.size, 0, none⟩) (by show w.heap.size + 4 ≠ w.heap.size; omega) _).other (p := ⟨w.heap.size + 2, 0, none⟩) (by show w.heap.size + 4 ≠ w.heap.size + 2; omega) _).other (p := ⟨w.heap.size + 3, 0, none⟩) (by show w.heap.size + 4 ≠ w.heap.size + 3; omega) _,
               ((S6.out.be.setCell (p := ⟨w.heap.size, 0, none⟩) (Nat.le_refl _) _).setCell (p := ⟨w.heap.size + 2, 0, none⟩) (show w.heap.size ≤ w.heap.size + 2 by omega) _).setCell (p := ⟨w.heap.size + 3, 0, none⟩) (show w.heap.size ≤ w.heap.size + 3 by omega) _⟩)
            generalize hw7 : ((w6.setCell ⟨w.heap.size, 0, none⟩ (.int .i64 s)).setCell ⟨w.heap.size + 2, 0, none⟩ (.int .u64 (p : Int))).setCell ⟨w.heap.size + 3, 0, none⟩ (.int .u64 (q : Int)) = w7 at *
            go_wp2
            have d0 : w7.cell? ⟨w.heap.size, 0, none⟩ = some (.int .i64 s) := S7.out.ps.cell 0
            have y0 := S7.out.ps.frozen 0
            have d1 : w7.cell? ⟨w.heap.size + 1, 0, none⟩ = some (.int .i64 (N : Int)) := S7.out.pn.cell 0
            have y1 := S7.out.pn.frozen 0
            have d2 : w7.cell? ⟨w.heap.size + 2, 0, none⟩ = some (.int .u64 (p : Int)) := S7.out.pp.cell 0
            have y2 := S7.out.pp.frozen 0
            have d3 : w7.cell? ⟨w.heap.size + 3, 0, none⟩ = some (.int .u64 (q : Int)) := S7.out.pq.cell 0
            have y3 := S7.out.pq.frozen 0
            have d4 : w7.cell? ⟨w.heap.size + 4, 0, none⟩ = some (.int .i64 0) := S7.out.pe.cell 0
            have y4 := S7.out.pe.frozen 0
            have A4 := S7.out.put0
            have A5 := A4.put1
            have A6 := A5.put2
            have A7 := A6.put3
            have A8 := A7.put4
            have E8 : RowKit.Hid (BkAt w (((((w7.setCell ⟨w.heap.size, 0, none⟩ (.int .i64 s)).setCell ⟨w.heap.size + 1, 0, none⟩ (.int .i64 (N : Int))).setCell ⟨w.heap.size + 1 + 1, 0, none⟩ (.int .u64 (p : Int))).setCell ⟨w.heap.size + 1 + 1 + 1, 0, none⟩ (.int .u64 (q : Int))).setCell ⟨w.heap.size + 1 + 1 + 1 + 1, 0, none⟩ (.int .i64 0)).drew s N p q) := Lib.hid A8.drew
            have e4 : (w7.setCell ⟨w.heap.size, 0, none⟩ (.int .i64 s)).cell? ⟨w.heap.size, 0, none⟩ = some (.int .i64 s) := A4.ps.cell 0
            have e5 : ((w7.setCell ⟨w.heap.size, 0, none⟩ (.int .i64 s)).setCell ⟨w.heap.size + 1, 0, none⟩ (.int .i64 (N : Int))).cell? ⟨w.heap.size + 1, 0, none⟩ = some (.int .i64 (N : Int)) := A5.pn.cell 0
            have e6 : (((w7.setCell ⟨w.heap.size, 0, none⟩ (.int .i64 s)).setCell ⟨w.heap.size + 1, 0, none⟩ (.int .i64 (N : Int))).setCell ⟨w.heap.size + 1 + 1, 0, none⟩ (.int .u64 (p : Int))).cell? ⟨w.heap.size + 1 + 1, 0, none⟩ = some (.int .u64 (p : Int)) := A6.pp.cell 0
            have e7 : ((((w7.setCell ⟨w.heap.size, 0, none⟩ (.int .i64 s)).setCell ⟨w.heap.size + 1, 0, none⟩ (.int .i64 (N : Int))).setCell ⟨w.heap.size + 1 + 1, 0, none⟩ (.int .u64 (p : Int))).setCell ⟨w.heap.size + 1 + 1 + 1, 0, none⟩ (.int .u64 (q : Int))).cell? ⟨w.heap.size + 1 + 1 + 1, 0, none⟩ = some (.int .u64 (q : Int)) := A7.pq.cell 0
            have n2 : ¬ (w.heap.size = w.heap.size + 1 + 1) := by omega
            have n3 : ¬ (w.heap.size = w.heap.size + 1 + 1 + 1) := by omega
            have n4 : ¬ (w.heap.size = w.heap.size + 1 + 1 + 1 + 1) := by omega
            have n2' : ¬ (w.heap.size + 1 + 1 = w.heap.size) := by omega
            have n3' : ¬ (w.heap.size + 1 + 1 + 1 = w.heap.size) := by omega
            have n4' : ¬ (w.heap.size + 1 + 1 + 1 + 1 = w.heap.size) := by omega
            clear A4 A5 A6 A7 A8
            go_region_held3 (fun w' => w'.cell? ⟨w.heap.size, 0, none⟩ = some (.int .i64 s) ∧ w'.cell? ⟨w.heap.size + 1, 0, none⟩ = some (.int .i64 (N : Int)) ∧ w'.cell? ⟨w.heap.size + 2, 0, none⟩ = some (.int .u64 (p : Int)) ∧ w'.cell? ⟨w.heap.size + 3, 0, none⟩ = some (.int .u64 (q : Int))) (first | with_reducible exact ⟨d0, d1, d2, d3⟩ | go_keep) (first | (go_at_call 21))
            all_goals
              go_wp2
              exact bk_end _ _ _ _ w _ E8.out _ rfl rfl rfl rfl rfl
        · rw [if_pos hse] at hR
          subst hR
          have hse : sealedB H = false := by simpa using hse
          rw [hse]
          clear hse
          go_wp2_with fail
          refine (must_bad _ _ _).mono ?_; rintro r w4 ⟨rfl, rfl⟩
          go_wp2
          exact bk_door _ (by decide) _ _ _ _ w w3 S3.out _ rfl rfl rfl rfl rfl
end Go.Proofs.Ytjhmebkkdgpneaa
