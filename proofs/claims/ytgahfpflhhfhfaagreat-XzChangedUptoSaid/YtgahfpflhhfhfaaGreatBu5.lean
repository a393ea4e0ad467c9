/- Texts of this proof, put together: BoxBD, XzG, XzI, XzJ, FindP, Ht, XzH, RfK, XzK, XzL, XzM, XzN, XzR, XzS, XzT, XzU, XzV. -/
import Derived.Defers
import Derived.Recover
import Derived.OrdersHeld
import Derived.Deep.RegionHeld3
import Derived.RangeFuncNested
import Derived.Test.YtgahfpflhhfhfaaGreatFrm
import Derived.Test.YtgahfpflhhfhfaaGreatBu1
import Derived.Test.YtgahfpflhhfhfaaGreatBu2
import Derived.Test.YtgahfpflhhfhfaaGreatBu3
import Derived.Test.YtgahfpflhhfhfaaGreatBu4
set_option linter.unusedVariables false
set_option linter.unusedSimpArgs false
/- A block's head: the walk of Block, tq9 its end. -/
namespace Go.Proofs.YtgahfpflhhfhfaaGreat
open Go.RowKit Box
set_option linter.unusedVariables false
set_option linter.unusedSimpArgs false
section
variable {w0 w : World} {s : Int} {n p q : Nat}
theorem BkAt.drew (S : BkAt w0 w s n p q) : BkAt w0 w.drew s n p q := ⟨S.ps.drew, S.pn.drew, S.pp.drew, S.pq.drew, S.pe.drew, S.be.drew⟩
theorem BkAt.put0 (S : BkAt w0 w s n p q) : BkAt w0 (w.setCell ⟨w0.heap.size, 0, none⟩ (.int .i64 s)) s n p q :=
  ⟨S.ps.set 0 _, S.pn.other (p := ⟨w0.heap.size, 0, none⟩) (by show w0.heap.size + 1 ≠ w0.heap.size; omega) _, S.pp.other (p := ⟨w0.heap.size, 0, none⟩) (by show w0.heap.size + 2 ≠ w0.heap.size; omega) _, S.pq.other (p := ⟨w0.heap.size, 0, none⟩) (by show w0.heap.size + 3 ≠ w0.heap.size; omega) _, S.pe.other (p := ⟨w0.heap.size, 0, none⟩) (by show w0.heap.size + 4 ≠ w0.heap.size; omega) _, S.be.setCell (p := ⟨w0.heap.size, 0, none⟩) (show w0.heap.size ≤ w0.heap.size by omega) _⟩
theorem BkAt.put1 (S : BkAt w0 w s n p q) : BkAt w0 (w.setCell ⟨w0.heap.size + 1, 0, none⟩ (.int .i64 (n : Int))) s n p q :=
  ⟨S.ps.other (p := ⟨w0.heap.size + 1, 0, none⟩) (by show w0.heap.size ≠ w0.heap.size + 1; omega) _, S.pn.set 0 _, S.pp.other (p := ⟨w0.heap.size + 1, 0, none⟩) (by show w0.heap.size + 2 ≠ w0.heap.size + 1; omega) _, S.pq.other (p := ⟨w0.heap.size + 1, 0, none⟩) (by show w0.heap.size + 3 ≠ w0.heap.size + 1; omega) _, S.pe.other (p := ⟨w0.heap.size + 1, 0, none⟩) (by show w0.heap.size + 4 ≠ w0.heap.size + 1; omega) _, S.be.setCell (p := ⟨w0.heap.size + 1, 0, none⟩) (show w0.heap.size ≤ w0.heap.size + 1 by omega) _⟩
theorem BkAt.put2 (S : BkAt w0 w s n p q) : BkAt w0 (w.setCell ⟨w0.heap.size + 2, 0, none⟩ (.int .u64 (p : Int))) s n p q :=
  ⟨S.ps.other (p := ⟨w0.heap.size + 2, 0, none⟩) (by show w0.heap.size ≠ w0.heap.size + 2; omega) _, S.pn.other (p := ⟨w0.heap.size + 2, 0, none⟩) (by show w0.heap.size + 1 ≠ w0.heap.size + 2; omega) _, S.pp.set 0 _, S.pq.other (p := ⟨w0.heap.size + 2, 0, none⟩) (by show w0.heap.size + 3 ≠ w0.heap.size + 2; omega) _, S.pe.other (p := ⟨w0.heap.size + 2, 0, none⟩) (by show w0.heap.size + 4 ≠ w0.heap.size + 2; omega) _, S.be.setCell (p := ⟨w0.heap.size + 2, 0, none⟩) (show w0.heap.size ≤ w0.heap.size + 2 by omega) _⟩
theorem BkAt.put3 (S : BkAt w0 w s n p q) : BkAt w0 (w.setCell ⟨w0.heap.size + 3, 0, none⟩ (.int .u64 (q : Int))) s n p q :=
  ⟨S.ps.other (p := ⟨w0.heap.size + 3, 0, none⟩) (by show w0.heap.size ≠ w0.heap.size + 3; omega) _, S.pn.other (p := ⟨w0.heap.size + 3, 0, none⟩) (by show w0.heap.size + 1 ≠ w0.heap.size + 3; omega) _, S.pp.other (p := ⟨w0.heap.size + 3, 0, none⟩) (by show w0.heap.size + 2 ≠ w0.heap.size + 3; omega) _, S.pq.set 0 _, S.pe.other (p := ⟨w0.heap.size + 3, 0, none⟩) (by show w0.heap.size + 4 ≠ w0.heap.size + 3; omega) _, S.be.setCell (p := ⟨w0.heap.size + 3, 0, none⟩) (show w0.heap.size ≤ w0.heap.size + 3 by omega) _⟩
theorem BkAt.put4 (S : BkAt w0 w s n p q) : BkAt w0 (w.setCell ⟨w0.heap.size + 4, 0, none⟩ (.int .i64 0)) s n p q :=
  ⟨S.ps.other (p := ⟨w0.heap.size + 4, 0, none⟩) (by show w0.heap.size ≠ w0.heap.size + 4; omega) _, S.pn.other (p := ⟨w0.heap.size + 4, 0, none⟩) (by show w0.heap.size + 1 ≠ w0.heap.size + 4; omega) _, S.pp.other (p := ⟨w0.heap.size + 4, 0, none⟩) (by show w0.heap.size + 2 ≠ w0.heap.size + 4; omega) _, S.pq.other (p := ⟨w0.heap.size + 4, 0, none⟩) (by show w0.heap.size + 3 ≠ w0.heap.size + 4; omega) _, S.pe.set 0 _, S.be.setCell (p := ⟨w0.heap.size + 4, 0, none⟩) (show w0.heap.size ≤ w0.heap.size + 4 by omega) _⟩
end
set_option maxRecDepth 100000 in
set_option maxHeartbeats 600000 in
theorem block_p (A : Option Addr) (bs : List UInt8) (n c : Nat) (w : World) (hn : n = bs.length) (hc : n ≤ c) (hcm : c ≤ maxLen) (hr : BRow w w.heap.size A bs) :
    Calls Tryz.prog 22 #[.slice A n c] w (BlkPost (blockOf bs) w) := by
  subst hn
  have hmf : ∀ (fn : Fn) (first cap : Array Value) (w : World), (Instr.makeFunc fn first cap).run Tryz.prog w = .ok (.func fn first cap) w := fun _ _ _ _ => rfl
  have s1 : ∃ w1, (((((w.alloc (.cells #[.int .i64 0] 3)).alloc (.cells #[.int .i64 0] 3)).alloc (.cells #[.int .u64 0] 50)).alloc (.cells #[.int .u64 0] 50)).alloc (.cells #[.int .i64 0] 24)).alloc (.cells #[.slice A bs.length c, .int .i64 0] 77) = w1 ∧ BkAt w w1 0 0 0 0 ∧ CurAt w1 (w.heap.size + 5) w.heap.size bs 0 := by
    have sz1 : (w.alloc (.cells #[.int .i64 0] 3)).heap.size = w.heap.size + 1 := by show (w.heap.push _).size = _; rw [Array.size_push]
    have q1 := Pts.new w #[.int .i64 0] 3
    have b1 : Below w.heap.size w _ := (Below.refl _ w).alloc (Nat.le_refl _) (.cells #[.int .i64 0] 3)
    generalize w.alloc (.cells #[.int .i64 0] 3) = x1 at *
    have sz2 : (x1.alloc (.cells #[.int .i64 0] 3)).heap.size = w.heap.size + 2 := by show (x1.heap.push _).size = _; rw [Array.size_push, sz1]
    have q2 := Pts.new x1 #[.int .i64 0] 3
    have q1 := q1.alloc (.cells #[.int .i64 0] 3)
    have b2 := b1.alloc b1.size (.cells #[.int .i64 0] 3)
    rw [sz1] at q2
    generalize x1.alloc (.cells #[.int .i64 0] 3) = x2 at *
    have sz3 : (x2.alloc (.cells #[.int .u64 0] 50)).heap.size = w.heap.size + 3 := by show (x2.heap.push _).size = _; rw [Array.size_push, sz2]
    have q3 := Pts.new x2 #[.int .u64 0] 50
    have q1 := q1.alloc (.cells #[.int .u64 0] 50)
    have q2 := q2.alloc (.cells #[.int .u64 0] 50)
    have b3 := b2.alloc b2.size (.cells #[.int .u64 0] 50)
    rw [sz2] at q3
    generalize x2.alloc (.cells #[.int .u64 0] 50) = x3 at *
    have sz4 : (x3.alloc (.cells #[.int .u64 0] 50)).heap.size = w.heap.size + 4 := by show (x3.heap.push _).size = _; rw [Array.size_push, sz3]
    have q4 := Pts.new x3 #[.int .u64 0] 50
    have q1 := q1.alloc (.cells #[.int .u64 0] 50)
    have q2 := q2.alloc (.cells #[.int .u64 0] 50)
    have q3 := q3.alloc (.cells #[.int .u64 0] 50)
    have b4 := b3.alloc b3.size (.cells #[.int .u64 0] 50)
    rw [sz3] at q4
    generalize x3.alloc (.cells #[.int .u64 0] 50) = x4 at *
    have sz5 : (x4.alloc (.cells #[.int .i64 0] 24)).heap.size = w.heap.size + 5 := by show (x4.heap.push _).size = _; rw [Array.size_push, sz4]
    have q5 := Pts.new x4 #[.int .i64 0] 24
    have q1 := q1.alloc (.cells #[.int .i64 0] 24)
    have q2 := q2.alloc (.cells #[.int .i64 0] 24)
    have q3 := q3.alloc (.cells #[.int .i64 0] 24)
    have q4 := q4.alloc (.cells #[.int .i64 0] 24)
    have b5 := b4.alloc b4.size (.cells #[.int .i64 0] 24)
    rw [sz4] at q5
    generalize x4.alloc (.cells #[.int .i64 0] 24) = x5 at *
    have q6 := CurAt.fresh (w := x5) w hc hcm hr b5 b5.size
    rw [sz5] at q6
    exact ⟨_, rfl, ⟨q1.alloc _, q2.alloc _, q3.alloc _, q4.alloc _, q5.alloc _, b5.alloc b5.size _⟩, q6⟩
  obtain ⟨w1, hw1, s1, c1⟩ := s1
  have S1 := Lib.hid s1
  have C1 := Lib.hid c1
  have CAP := Lib.hid hc
  have ROW := Lib.hid hr
  clear s1 c1 hr
  obtain ⟨R, hR⟩ : ∃ R, blockOf bs = R := ⟨_, rfl⟩
  rw [hR]
  cases bs with
  | nil =>
    have hR : (0, 0, 0, 0, 10) = R := hR
    subst hR
    simp only [List.length_nil] at hw1
    clear hc
    go_enter_defers Tryz.func22, Tryz.ntmps22
    go_wp2_with fail
    refine (must_bad _ _ _).mono ?_; rintro r w2 ⟨rfl, rfl⟩
    go_wp2
    exact bk_door _ (by decide) _ _ _ _ w w1 S1.out _ rfl rfl rfl rfl rfl
  | cons b r0 =>
    have hRb := hR
    unfold blockOf at hRb
    simp only at hRb
    obtain ⟨bs, hbs⟩ : ∃ bs, b :: r0 = bs := ⟨_, rfl⟩
    have hb0 : bs.getD 0 0 = b := by rw [← hbs]; rfl
    have hl1 : 1 ≤ bs.length := by rw [← hbs]; simp
    rw [hbs] at hRb hw1 CAP ROW hc C1 ⊢
    obtain ⟨b0, off, rfl, hbl, hcell⟩ := ROW.out (by omega)
    have k0 : w1.cell? ⟨b0, off, none⟩ = some (.int .u8 (b.toNat : Int)) := by
      have := hcell 0 (by omega)
      rw [hb0] at this
      exact (S1.out.be.cell (p := ⟨b0, off + 0, none⟩) hbl).trans this
    have hbn := b.toNat_lt
    obtain ⟨N, hN⟩ : ∃ N, (b.toNat + 1) * 4 = N := ⟨_, rfl⟩
    rw [hN] at hRb
    have hbz : b = 0 ↔ b.toNat = 0 := ⟨fun e => by rw [e]; rfl, fun e => by rw [← UInt8.ofNat_toNat (x := b), e]; rfl⟩
    obtain ⟨bn, hbb⟩ : ∃ bn, b.toNat = bn := ⟨_, rfl⟩
    rw [hbb] at k0 hbn hN hbz
    have hNi : ((bn : Int) + 1) * 4 = (N : Int) := by omega
    have hNb : 4 ≤ N ∧ N ≤ 1024 := by omega
    have HRB := Lib.hid hRb
    have HBZ := Lib.hid hbz
    have HN4 := Lib.hid hN
    have hl1i : decide (0 < bs.length) = true := decide_eq_true (by omega)
    clear hR hRb hbz hcell hbs hb0 hbb hc hN
    by_cases hsh : bs.length < N
    · have hR := HRB.out
      rw [if_pos hsh] at hR
      subst hR
      have HSH := Lib.hid hsh
      clear HRB hsh
      go_enter_defers Tryz.func22, Tryz.ntmps22
      go_wp2_with fail
      refine (must_ok _ _ _).mono ?_; rintro r w2 ⟨rfl, rfl⟩
      go_wp2_with fail
      refine (take_bad (w.heap.size + 5) w.heap.size N 0 10 bs w1 C1.out HSH.out).mono ?_; rintro r w2 ⟨rfl, rfl⟩
      go_wp2
      exact bk_door _ (by decide) _ _ _ _ w w1 S1.out _ rfl rfl rfl rfl rfl
    · have hR := HRB.out
      rw [if_neg hsh] at hR
      have HSH := Lib.hid hsh
      have HT := Lib.hid (take_ok (w.heap.size + 5) w.heap.size N 0 10 bs w1 C1.out (by omega) (by omega))
      clear HRB hsh
      have lH : (bs.take N).length = N := by rw [List.length_take]; have := HSH.out; omega
      obtain ⟨H, hH⟩ : ∃ H, bs.take N = H := ⟨_, rfl⟩
      rw [hH] at hR lH HT
      have LH := Lib.hid lH
      clear hH lH
      by_cases hz : b = 0
      · rw [if_pos hz] at hR
        subst hR
        have hbn0 : bn = 0 := HBZ.out.1 hz
        have hbq : ((bn : Int) != 0) = false := by rw [hbn0]; rfl
        clear hz hbn0
        go_enter_defers Tryz.func22, Tryz.ntmps22
        go_wp2_with fail
        refine (must_ok _ _ _).mono ?_; rintro r w2 ⟨rfl, rfl⟩
        go_wp2_with fail
        refine HT.out.mono ?_; rintro r w2 ⟨A2, c2, rfl, hr2, hc2, hm2, hcu2, hf2⟩
        have S2 := Lib.hid (S1.out.frm hf2 (fun k hk => by omega))
        have k2 : w2.cell? ⟨b0, off, none⟩ = some (.int .u8 (bn : Int)) := (World.cell?_of_block (w := w1) (hf2.block b0 (by have := S1.out.be.size; omega) (by show ¬ _ = _; omega))).trans k0
        have C2 := Lib.hid hcu2
        have R2 := Lib.hid hr2
        have HC2 := Lib.hid hc2
        have HM2 := Lib.hid hm2
        clear hr2 hc2 hm2 hcu2 hf2
        go_wp2_with fail
        refine (must_bad _ _ _).mono ?_; rintro r w3 ⟨rfl, rfl⟩
        go_wp2
        exact bk_door _ (by decide) _ _ _ _ w w2 S2.out _ rfl rfl rfl rfl rfl
      · rw [if_neg hz] at hR
        have hbn0 : ¬ bn = 0 := fun e => hz (HBZ.out.2 e)
        have hbq : ((bn : Int) != 0) = true := by simp; omega
        have hN8 : 8 ≤ N := by have := HN4.out; omega
        clear hz hbn0
        have HRR := Lib.hid hR
        clear hR
        go_enter_defers Tryz.func22, Tryz.ntmps22
        go_wp2_with fail
        refine (must_ok _ _ _).mono ?_; rintro r w2 ⟨rfl, rfl⟩
        go_wp2_with fail
        refine HT.out.mono ?_; rintro r w2 ⟨A2, c2, rfl, hr2, hc2, hm2, hcu2, hf2⟩
        have S2 := Lib.hid (S1.out.frm hf2 (fun k hk => by omega))
        have k2 : w2.cell? ⟨b0, off, none⟩ = some (.int .u8 (bn : Int)) := (World.cell?_of_block (w := w1) (hf2.block b0 (by have := S1.out.be.size; omega) (by show ¬ _ = _; omega))).trans k0
        have C2 := Lib.hid hcu2
        have R2 := Lib.hid hr2
        have HC2 := Lib.hid hc2
        have HM2 := Lib.hid hm2
        clear hr2 hc2 hm2 hcu2 hf2
        go_wp2_with fail
        refine (sealed_p A2 H N c2 w2 LH.out.symm (by omega) HC2.out ((R2.out).more S2.out.be.size) (by rw [LH.out]; omega)).mono ?_; rintro r w3 ⟨rfl, hb3⟩
        have S3 := Lib.hid (S2.out.still hb3)
        have C3 := Lib.hid (C2.out.frm (S := fun _ => False) (Frm.of_below hb3) (fun h => h) (fun k h => h.elim))
        have R3 := Lib.hid (R2.out.below (hb3.mono S2.out.be.size))
        have hR := HRR.out
        clear hb3 HRR
        by_cases hse : sealedB H = true
        · rw [if_neg (fun h => h hse)] at hR
          rw [hse]
          clear hse
          go_wp2_with fail
          refine (must_ok _ _ _).mono ?_; rintro r w4 ⟨rfl, rfl⟩
          have hs9 : ∀ w, (Instr.sliceAt 22 (.slice A2 N c2) (some (.int .i64 1)) (some (.int .i64 ((N - 4 : Nat) : Int))) none).run Tryz.prog w = .ok (.slice (A2.map (·.add 1)) (N - 4 - 1) (c2 - 1)) w := fun w => slice_midX A2 N c2 1 (N - 4) (by omega) (by omega) HC2.out (by have := HC2.out; omega) w
          have hrm := R3.out.mid (f := 1) (t := N - 5) (c := c2) (by rw [LH.out]; exact HC2.out) (by have := HC2.out; omega)
          obtain ⟨A9, hA9⟩ : ∃ A9, A2.map (·.add 1) = A9 := ⟨_, rfl⟩
          rw [hA9] at hs9 hrm
          obtain ⟨N4, hN4⟩ : ∃ N4, N - 4 = N4 := ⟨_, rfl⟩
          have hN4i : (N : Int) - 4 = (N4 : Int) := by omega
          obtain ⟨N5, hN5⟩ : ∃ N5, N4 - 1 = N5 := ⟨_, rfl⟩
          rw [hN4, hN5] at hs9
          have hN55 : N - 5 = N5 := by omega
          rw [hN55] at hrm hR
          have hwN4 : IntKind.i64.wrap (N4 : Int) = (N4 : Int) := Go.IntWalk.i64_in _ (by omega)
          obtain ⟨B5, hB5⟩ : ∃ B5, (H.drop 1).take N5 = B5 := ⟨_, rfl⟩
          have lB5 : N5 = B5.length := by rw [← hB5, List.length_take, List.length_drop, LH.out]; omega
          rw [hB5] at hrm hR
          obtain ⟨c9, hc9⟩ : ∃ c9, c2 - 1 = c9 := ⟨_, rfl⟩
          rw [hc9] at hs9
          have hc9b : N5 ≤ c9 ∧ c9 ≤ maxLen := by have := HC2.out; have := HM2.out; omega
          obtain ⟨Ax, cx, hpx, _, _, _, _⟩ := C3.out
          have cx0 : w3.cell? ⟨w.heap.size + 5, 0, none⟩ = some (.slice Ax (bs.drop N).length cx) := hpx.cell 0
          have zx0 := hpx.frozen 0
          have hp4 := hpx.set 0 (.slice A9 N5 c9)
          have hf4 : Frm (· = w.heap.size + 5) w3 (w3.setCell ⟨w.heap.size + 5, 0, none⟩ (.slice A9 N5 c9)) := (Frm.refl _ w3).setCell (by rfl) _
          have hc4 : CurAt (w3.setCell ⟨w.heap.size + 5, 0, none⟩ (.slice A9 N5 c9)) (w.heap.size + 5) w.heap.size B5 (0 + N) := by
            rw [lB5] at hp4 hf4 ⊢
            exact ⟨A9, c9, hp4, hrm.frm hf4 S3.out.be.size (fun k hk => by omega), by omega, hc9b.2, by omega⟩
          have S4 := Lib.hid (S3.out.frm hf4 (fun k hk => by omega))
          have C4 := Lib.hid hc4
          have LB := Lib.hid (show 0 + N + B5.length ≤ 1000000 by omega)
          have HR9 := Lib.hid hR
          generalize hw4 : w3.setCell ⟨w.heap.size + 5, 0, none⟩ (.slice A9 N5 c9) = w4 at *
          have n4 : w4.cell? ⟨w.heap.size + 1, 0, none⟩ = some (.int .i64 0) := S4.out.pn.cell 0
          have zn4 := S4.out.pn.frozen 0
          have S5 := Lib.hid (show BkAt w (w4.setCell ⟨w.heap.size + 1, 0, none⟩ (.int .i64 (N : Int))) 0 N 0 0 from
            ⟨S4.out.ps.other (p := ⟨w.heap.size + 1, 0, none⟩) (by show w.heap.size ≠ w.heap.size + 1; omega) _, S4.out.pn.set 0 _, S4.out.pp.other (p := ⟨w.heap.size + 1, 0, none⟩) (by show w.heap.size + 2 ≠ w.heap.size + 1; omega) _, S4.out.pq.other (p := ⟨w.heap.size + 1, 0, none⟩) (by show w.heap.size + 3 ≠ w.heap.size + 1; omega) _, S4.out.pe.other (p := ⟨w.heap.size + 1, 0, none⟩) (by show w.heap.size + 4 ≠ w.heap.size + 1; omega) _, S4.out.be.setCell (p := ⟨w.heap.size + 1, 0, none⟩) (show w.heap.size ≤ w.heap.size + 1 by omega) _⟩)
          have hc5 : CurAt (w4.setCell ⟨w.heap.size + 1, 0, none⟩ (.int .i64 (N : Int))) (w.heap.size + 5) w.heap.size B5 (0 + N) := by
            obtain ⟨A', c', hp', hr', h1', h2', h3'⟩ := C4.out
            have hb' : Below w.heap.size w4 (w4.setCell ⟨w.heap.size + 1, 0, none⟩ (.int .i64 (N : Int))) := (Below.refl _ w4).setCell (p := ⟨w.heap.size + 1, 0, none⟩) (show w.heap.size ≤ w.heap.size + 1 by omega) _
            exact ⟨A', c', hp'.other (p := ⟨w.heap.size + 1, 0, none⟩) (by show w.heap.size + 5 ≠ w.heap.size + 1; omega) _, hr'.below hb', h1', h2', h3'⟩
          have C5 := Lib.hid hc5
          clear hR hB5 hA9 hN4 hN5 hN55 hrm hc9 hc4 hc5 hp4 hf4 hpx lB5 hc9b
          generalize hw5 : w4.setCell ⟨w.heap.size + 1, 0, none⟩ (.int .i64 (N : Int)) = w5 at *
          go_wp2_with fail
          refine (cblock_p (w.heap.size + 5) w.heap.size (0 + N) B5 w5 C5.out LB.out).mono ?_; rintro r w6 ⟨hbk, hf6⟩
          have S6 := Lib.hid (S5.out.frm hf6 (fun k hk => by omega))
          clear hf6
          obtain ⟨Q, hQ⟩ : ∃ Q, bkBody B5 = Q := ⟨_, rfl⟩
          rw [hQ] at hbk
          have hR := HR9.out
          rw [hQ] at hR
          clear HR9 hQ
          match Q, hbk, hR with
          | .error x, hbk, hR =>
            obtain ⟨hx0, rfl⟩ := hbk
            have hR : (0, 0, 0, 0, x) = R := hR
            subst hR
            have HX0 := Lib.hid hx0
            clear hx0
            go_wp2
            exact bk_door _ HX0.out _ _ _ _ w w6 S6.out _ rfl rfl rfl rfl rfl
          | .ok (s, p, q), hbk, hR =>
            have hbk : r = .returned (.tuple #[.int .i64 s, .int .u64 (p : Int), .int .u64 (q : Int)]) := hbk
            subst hbk
            have hR : (s, N, p, q, 0) = R := hR
            subst hR
            have m0 : w6.cell? ⟨w.heap.size, 0, none⟩ = some (.int .i64 0) := S6.out.ps.cell 0
            have zm0 := S6.out.ps.frozen 0
            have m2 : w6.cell? ⟨w.heap.size + 2, 0, none⟩ = some (.int .u64 0) := S6.out.pp.cell 0
            have zm2 := S6.out.pp.frozen 0
            have m3 : w6.cell? ⟨w.heap.size + 3, 0, none⟩ = some (.int .u64 0) := S6.out.pq.cell 0
            have zm3 := S6.out.pq.frozen 0
            have S7 := Lib.hid (show BkAt w (((w6.setCell ⟨w.heap.size, 0, none⟩ (.int .i64 s)).setCell ⟨w.heap.size + 2, 0, none⟩ (.int .u64 (p : Int))).setCell ⟨w.heap.size + 3, 0, none⟩ (.int .u64 (q : Int))) s N p q from
              ⟨((S6.out.ps.set 0 _).other (p := ⟨w.heap.size + 2, 0, none⟩) (by show w.heap.size ≠ w.heap.size + 2; omega) _).other (p := ⟨w.heap.size + 3, 0, none⟩) (by show w.heap.size ≠ w.heap.size + 3; omega) _,
               ((S6.out.pn.other (p := ⟨w.heap.size, 0, none⟩) (by show w.heap.size + 1 ≠ w.heap.size; omega) _).other (p := ⟨w.heap.size + 2, 0, none⟩) (by show w.heap.size + 1 ≠ w.heap.size + 2; omega) _).other (p := ⟨w.heap.size + 3, 0, none⟩) (by show w.heap.size + 1 ≠ w.heap.size + 3; omega) _,
               ((S6.out.pp.other (p := ⟨w.heap.size, 0, none⟩) (by show w.heap.size + 2 ≠ w.heap.size; omega) _).set 0 _).other (p := ⟨w.heap.size + 3, 0, none⟩) (by show w.heap.size + 2 ≠ w.heap.size + 3; omega) _,
               ((S6.out.pq.other (p := ⟨w.heap.size, 0, none⟩) (by show w.heap.size + 3 ≠ w.heap.size; omega) _).other (p := ⟨w.heap.size + 2, 0, none⟩) (by show w.heap.size + 3 ≠ w.heap.size + 2; omega) _).set 0 _,
               ((S6.out.pe.other (p := ⟨w.heap.size, 0, none⟩) (by show w.heap.size + 4 ≠ w.heap.size; omega) _).other (p := ⟨w.heap.size + 2, 0, none⟩) (by show w.heap.size + 4 ≠ w.heap.size + 2; omega) _).other (p := ⟨w.heap.size + 3, 0, none⟩) (by show w.heap.size + 4 ≠ w.heap.size + 3; omega) _,
               ((S6.out.be.setCell (p := ⟨w.heap.size, 0, none⟩) (Nat.le_refl _) _).setCell (p := ⟨w.heap.size + 2, 0, none⟩) (show w.heap.size ≤ w.heap.size + 2 by omega) _).setCell (p := ⟨w.heap.size + 3, 0, none⟩) (show w.heap.size ≤ w.heap.size + 3 by omega) _⟩)
            generalize hw7 : ((w6.setCell ⟨w.heap.size, 0, none⟩ (.int .i64 s)).setCell ⟨w.heap.size + 2, 0, none⟩ (.int .u64 (p : Int))).setCell ⟨w.heap.size + 3, 0, none⟩ (.int .u64 (q : Int)) = w7 at *
            go_wp2
            have d0 : w7.cell? ⟨w.heap.size, 0, none⟩ = some (.int .i64 s) := S7.out.ps.cell 0
            have y0 := S7.out.ps.frozen 0
            have d1 : w7.cell? ⟨w.heap.size + 1, 0, none⟩ = some (.int .i64 (N : Int)) := S7.out.pn.cell 0
            have y1 := S7.out.pn.frozen 0
            have d2 : w7.cell? ⟨w.heap.size + 2, 0, none⟩ = some (.int .u64 (p : Int)) := S7.out.pp.cell 0
            have y2 := S7.out.pp.frozen 0
            have d3 : w7.cell? ⟨w.heap.size + 3, 0, none⟩ = some (.int .u64 (q : Int)) := S7.out.pq.cell 0
            have y3 := S7.out.pq.frozen 0
            have d4 : w7.cell? ⟨w.heap.size + 4, 0, none⟩ = some (.int .i64 0) := S7.out.pe.cell 0
            have y4 := S7.out.pe.frozen 0
            have A4 := S7.out.put0
            have A5 := A4.put1
            have A6 := A5.put2
            have A7 := A6.put3
            have A8 := A7.put4
            have E8 : RowKit.Hid (BkAt w (((((w7.setCell ⟨w.heap.size, 0, none⟩ (.int .i64 s)).setCell ⟨w.heap.size + 1, 0, none⟩ (.int .i64 (N : Int))).setCell ⟨w.heap.size + 1 + 1, 0, none⟩ (.int .u64 (p : Int))).setCell ⟨w.heap.size + 1 + 1 + 1, 0, none⟩ (.int .u64 (q : Int))).setCell ⟨w.heap.size + 1 + 1 + 1 + 1, 0, none⟩ (.int .i64 0)).drew s N p q) := Lib.hid A8.drew
            have e4 : (w7.setCell ⟨w.heap.size, 0, none⟩ (.int .i64 s)).cell? ⟨w.heap.size, 0, none⟩ = some (.int .i64 s) := A4.ps.cell 0
            have e5 : ((w7.setCell ⟨w.heap.size, 0, none⟩ (.int .i64 s)).setCell ⟨w.heap.size + 1, 0, none⟩ (.int .i64 (N : Int))).cell? ⟨w.heap.size + 1, 0, none⟩ = some (.int .i64 (N : Int)) := A5.pn.cell 0
            have e6 : (((w7.setCell ⟨w.heap.size, 0, none⟩ (.int .i64 s)).setCell ⟨w.heap.size + 1, 0, none⟩ (.int .i64 (N : Int))).setCell ⟨w.heap.size + 1 + 1, 0, none⟩ (.int .u64 (p : Int))).cell? ⟨w.heap.size + 1 + 1, 0, none⟩ = some (.int .u64 (p : Int)) := A6.pp.cell 0
            have e7 : ((((w7.setCell ⟨w.heap.size, 0, none⟩ (.int .i64 s)).setCell ⟨w.heap.size + 1, 0, none⟩ (.int .i64 (N : Int))).setCell ⟨w.heap.size + 1 + 1, 0, none⟩ (.int .u64 (p : Int))).setCell ⟨w.heap.size + 1 + 1 + 1, 0, none⟩ (.int .u64 (q : Int))).cell? ⟨w.heap.size + 1 + 1 + 1, 0, none⟩ = some (.int .u64 (q : Int)) := A7.pq.cell 0
            have n2 : ¬ (w.heap.size = w.heap.size + 1 + 1) := by omega
            have n3 : ¬ (w.heap.size = w.heap.size + 1 + 1 + 1) := by omega
            have n4 : ¬ (w.heap.size = w.heap.size + 1 + 1 + 1 + 1) := by omega
            have n2' : ¬ (w.heap.size + 1 + 1 = w.heap.size) := by omega
            have n3' : ¬ (w.heap.size + 1 + 1 + 1 = w.heap.size) := by omega
            have n4' : ¬ (w.heap.size + 1 + 1 + 1 + 1 = w.heap.size) := by omega
            clear A4 A5 A6 A7 A8
            go_region_held3 (fun w' => w'.cell? ⟨w.heap.size, 0, none⟩ = some (.int .i64 s) ∧ w'.cell? ⟨w.heap.size + 1, 0, none⟩ = some (.int .i64 (N : Int)) ∧ w'.cell? ⟨w.heap.size + 2, 0, none⟩ = some (.int .u64 (p : Int)) ∧ w'.cell? ⟨w.heap.size + 3, 0, none⟩ = some (.int .u64 (q : Int))) (first | with_reducible exact ⟨d0, d1, d2, d3⟩ | go_keep) (first | (go_at_call 40))
            all_goals
              go_wp2
              exact bk_end _ _ _ _ w _ E8.out _ rfl rfl rfl rfl rfl
        · rw [if_pos hse] at hR
          subst hR
          have hse : sealedB H = false := by simpa using hse
          rw [hse]
          clear hse
          go_wp2_with fail
          refine (must_bad _ _ _).mono ?_; rintro r w4 ⟨rfl, rfl⟩
          go_wp2
          exact bk_door _ (by decide) _ _ _ _ w w3 S3.out _ rfl rfl rfl rfl rfl
end Go.Proofs.YtgahfpflhhfhfaaGreat

/- A block of a member: what it tells of its head, in bounds; how it is left: ahead of the walk. -/
namespace Go.Proofs.YtgahfpflhhfhfaaGreat
open Go.RowKit Rng Win Lz Box
set_option linter.unusedVariables false
set_option linter.unusedSimpArgs false
/-- What a block's head may tell. -/
def bkIn (R : BkR) : Prop :=
  match R with
  | .ok (s, _, _) => 0 ≤ s ∧ s ≤ 4294967295
  | .error x => x = 11 ∨ x = 12
theorem winOf_in {c : Nat} (h : c ≤ 40) : 0 ≤ winOf c ∧ winOf c ≤ 4294967295 := by
  unfold winOf
  by_cases h4 : c = 40
  · rw [if_pos h4]; omega
  · rw [if_neg h4]
    have := win_in (m := c) (by omega)
    omega
theorem bkFilter_in (r : List UInt8) (p w : Nat) : bkIn (bkFilter r p w) := by
  unfold bkFilter
  cases r with
  | nil => exact .inl rfl
  | cons c t =>
    simp only
    split
    · exact .inr rfl
    · split
      · exact .inl rfl
      · split
        · exact .inl rfl
        · exact winOf_in (by omega)
theorem bkSet_in (r : List UInt8) (p w : Nat) : bkIn (bkSet r p w) := by
  unfold bkSet
  split
  · exact .inl rfl
  · split
    · exact .inl rfl
    · exact bkFilter_in _ _ _
theorem bkKind_in (r : List UInt8) (p w : Nat) : bkIn (bkKind r p w) := by
  unfold bkKind
  split
  · exact .inl rfl
  · split
    · exact .inr rfl
    · exact bkSet_in _ _ _
theorem bkWhole_in (f : Nat) (r : List UInt8) (p : Nat) : bkIn (bkWhole f r p) := by
  unfold bkWhole
  split
  · split
    · exact .inl rfl
    · exact bkKind_in _ _ _
  · exact bkKind_in _ _ _
theorem bkPacked_in (f : Nat) (r : List UInt8) : bkIn (bkPacked f r) := by
  unfold bkPacked
  split
  · split
    · exact .inl rfl
    · split
      · exact .inl rfl
      · exact bkWhole_in _ _ _
  · exact bkWhole_in _ _ _
theorem bkBody_in (r : List UInt8) : bkIn (bkBody r) := by
  unfold bkBody
  cases r with
  | nil => exact .inl rfl
  | cons f t =>
    simp only
    split
    · exact .inr rfl
    · exact bkPacked_in _ _
theorem blockOf_in (bs : List UInt8) : ∃ s n p q er : Nat, blockOf bs = ((s : Int), n, p, q, (er : Int)) := by
  unfold blockOf
  cases bs with
  | nil => exact ⟨0, 0, 0, 0, 10, rfl⟩
  | cons b r =>
    simp only
    split
    · exact ⟨0, 0, 0, 0, 10, rfl⟩
    · split
      · exact ⟨0, 0, 0, 0, 11, rfl⟩
      · split
        · exact ⟨0, 0, 0, 0, 11, rfl⟩
        · obtain ⟨R, hR⟩ : ∃ R, bkBody ((((b :: r).take ((b.toNat + 1) * 4)).drop 1).take ((b.toNat + 1) * 4 - 5)) = R := ⟨_, rfl⟩
          have h := bkBody_in ((((b :: r).take ((b.toNat + 1) * 4)).drop 1).take ((b.toNat + 1) * 4 - 5))
          rw [hR] at h ⊢
          cases R with
          | ok x =>
            obtain ⟨s, p, q⟩ := x
            have h : 0 ≤ s ∧ s ≤ 4294967295 := h
            exact ⟨s.toNat, _, p, q, 0, by unfold blkOf; simp only; rw [Int.toNat_of_nonneg h.1]; rfl⟩
          | error x =>
            rcases h with rfl | rfl
            · exact ⟨0, 0, 0, 0, 11, rfl⟩
            · exact ⟨0, 0, 0, 0, 12, rfl⟩
/-- The function that hears of windows, called at the end. -/
theorem hold_d (n : Int) (w : World) : CallsD Tryz.prog 18 #[.int .i64 n] .returning w fun e u' w' => u' = .returning ∧ e = .returned (.tuple #[]) ∧ w = w' := by
  refine (callsD_of_wp (R := fun e w' => e = .returned (.tuple #[]) ∧ w = w') Tryz.func18 rfl ?_)
  simp only [Tryz.ntmps18, List.size_toArray, List.length_cons, List.length_nil, Nat.reduceAdd, Nat.reduceSub, Array.replicate_succ, Array.replicate_zero, List.push_toArray, List.append_toArray, List.nil_append, List.cons_append]
  go_wp2
  go_end0
  exact ⟨rfl, rfl⟩
theorem hold_leave {fn : Func} {tmps : Array Value} {R : Ending → World → Prop} {w : World} {v : Value} {n : Int} (hr : (results fn tmps).run Tryz.prog w = .ok v w) (hR : R (.returned v) w) :
    Leaves Tryz.prog fn tmps R [{ target := .fn (.func 18) #[], args := #[.int .i64 n] }] .returning w := by
  refine leaves_cons (f := 18) (args := #[.int .i64 n]) (by simp) (by simp [go_sem]) ?_
  refine (hold_d n w).mono ?_
  rintro e u' w' ⟨rfl, rfl, rfl⟩
  exact ⟨v, hr, hR⟩
/-- How a block ends. -/
def BlkXEnd (rb fb un B0 bud : Nat) (put hold : Value) (kind : Int) (J : (Nat → Prop) → List UInt8 → World → Prop) (M : Nat → Prop) (lv : Value) (recs : List (Nat × Nat)) (out : List UInt8) (E : BlkE) (w : World) (e : Ending) (w' : World) : Prop :=
  Frm (fun q => M q ∨ q = fb ∨ q = rb ∨ lv.ownBlock = some q) w w' ∧ ∃ M', (∀ q, M' q → M q ∨ w.heap.size ≤ q) ∧ match E with
  | .err z o => z ≠ 0 ∧ e = .returned (.int .i64 (z : Int)) ∧ J M' (out ++ o) w'
  | .ok o r rest => e = .returned (.int .i64 0) ∧ J M' (out ++ o) w' ∧ ∃ lv', RxAt w' rb fb bud put hold kind (out ++ o).length lv' ∧ OwnPr w' 100 B0 lv' (recs ++ [r]) ∧ (∀ q, lv'.ownBlock = some q → ¬ M' q ∧ (lv.ownBlock = some q ∨ w.heap.size ≤ q)) ∧
    ∃ A n c used, SrcAt w' fb A n c used ∧ used + n = un ∧ BRow w' B0 A rest ∧ n = rest.length ∧ n ≤ c ∧ c ≤ maxLen
end Go.Proofs.YtgahfpflhhfhfaaGreat

/- The bytes of a check, as a block holds them against its own: plain. -/
namespace Go.Proofs.YtgahfpflhhfhfaaGreat
open Go.RowKit Rng Win Lz Box
set_option linter.unusedVariables false
set_option linter.unusedSimpArgs false
theorem chkN_len (k : Int) : chkN k = chkLen k := rfl
theorem leB_snoc : ∀ (n X : Nat), leB X (n + 1) = leB X n ++ [UInt8.ofNat (X / 256 ^ n)]
  | 0, X => by simp [leB]
  | n + 1, X => by
    show UInt8.ofNat X :: leB (X / 256) (n + 1) = UInt8.ofNat X :: leB (X / 256) n ++ _
    rw [leB_snoc n (X / 256), Nat.div_div_eq_div_mul, Nat.pow_succ, Nat.mul_comm]
    rfl
/-- Eight cells, the first of them a list's bytes. -/
def wcells (l : List UInt8) : Array Value := ((l ++ List.replicate (8 - l.length) 0).map byteV).toArray
theorem wcells_at (l : List UInt8) (hl : l.length ≤ 8) {k : Nat} (hk : k < l.length) : (wcells l)[k]? = some (byteV (l.getD k 0)) := by
  unfold wcells
  simp only [List.getElem?_toArray, List.getElem?_map]
  rw [List.getElem?_append_left hk]
  simp [List.getD, hk]
theorem wcells_set (l : List UInt8) (y : UInt8) (hl : l.length < 8) : (wcells l).setIfInBounds l.length (byteV y) = wcells (l ++ [y]) := by
  unfold wcells
  have e : List.replicate (8 - l.length) (0 : UInt8) = 0 :: List.replicate (8 - (l ++ [y]).length) 0 := by
    rw [List.length_append, show 8 - l.length = (8 - (l.length + [y].length)) + 1 by simp; omega, List.replicate_succ]
  rw [e]
  simp only [List.setIfInBounds_toArray, List.map_append, List.map_cons]
  congr 1
  simp [List.set_append]
theorem wcells_nil : wcells [] = #[.int .u8 0, .int .u8 0, .int .u8 0, .int .u8 0, .int .u8 0, .int .u8 0, .int .u8 0, .int .u8 0] := rfl
theorem wcells_row {W : World} {b : Nat} {l : List UInt8} {T : TypeId} (h : Pts W b (wcells l) T) (hl : l.length ≤ 8) : BRow W W.heap.size (some ⟨b, 0, none⟩) l := by
  intro h0
  refine ⟨b, 0, rfl, h.lt, fun k hk => ?_⟩
  rw [Nat.zero_add, h.cell]
  exact wcells_at l hl hk
/-- A check's sum. -/
theorem chk_sum (k : Int) (bs : List UInt8) : ∃ X : Nat, sumOf (chkK k) bs = (X : Int) ∧ X < 18446744073709551616 ∧ chkB k bs = leB X (chkLen k) := by
  unfold chkK chkB chkLen
  by_cases h1 : k = 1
  · rw [if_pos h1, if_pos h1, if_pos h1]
    exact ⟨crc32 bs, sumOf_1 bs, Nat.lt_of_lt_of_le (c32_lt32 bs) (by decide), rfl⟩
  · rw [if_neg h1, if_neg h1, if_neg h1]
    by_cases h4 : k = 4
    · rw [if_pos h4, if_pos h4, if_pos h4]
      exact ⟨crc64 bs, sumOf_2 bs, c64_lt64 bs, rfl⟩
    · rw [if_neg h4, if_neg h4, if_neg h4]
      exact ⟨0, rfl, by decide, rfl⟩
theorem chkLen_le (k : Int) : chkLen k ≤ 8 := by
  unfold chkLen
  repeat' split
  all_goals omega
theorem u8_wrap_nat (x : Nat) : IntKind.u8.wrap (x : Int) = ((UInt8.ofNat x).toNat : Int) := by
  rw [UInt8.toNat_ofNat']
  show _ = (((x % 256 : Nat)) : Int)
  rw [IntKind.wrap_u8]
  omega
theorem slice_arr8 (b n : Nat) (hn : n ≤ 8) (w : World) :
    (Instr.sliceAt 99 (.pointer (some ⟨b, 0, none⟩)) none (some (.int .i64 (n : Int))) none).run Tryz.prog w = .ok (.slice (some ⟨b, 0, none⟩) n 8) w := by
  unfold Instr.sliceAt
  simp [go_sem]
  first | done | omega | (intro h; omega)
end Go.Proofs.YtgahfpflhhfhfaaGreat

/- A block's record is put tq9 the others: what holds behind it. -/
namespace Go.Proofs.YtgahfpflhhfhfaaGreat
open Go.RowKit Rng Win Lz Box
set_option linter.unusedVariables false
set_option linter.unusedSimpArgs false
section
variable (rb fb bx bud B0 : Nat) (put hold : Value) (kind : Int) (lv : Value) (recs : List (Nat × Nat)) (J : (Nat → Prop) → List UInt8 → World → Prop) (M : Nat → Prop) (out : List UInt8) (w : World)
/-- Ahead of a block's chunks. -/
structure XB (A : Option Addr) (n c used : Nat) (src : List UInt8) (W : World) : Prop where
  x : Pts W bx #[.pointer (some ⟨rb, 0, none⟩)] 60
  r : RxAt W rb fb bud put hold kind out.length lv
  s : SrcAt W fb A n c used
  b : BRow W B0 A src
  o : OwnPr W 100 B0 lv recs
  j : J M out W
  f : Frm (fun q => q = fb) w W
end
section
variable {rb fb bx bud B0 fput most : Nat} {lb : Array Value} {put hold : Value} {kind : Int} {lv : Value} {recs : List (Nat × Nat)} {J : (Nat → Prop) → List UInt8 → World → Prop} {M : Nat → Prop} {out : List UInt8} {w W W' : World} {A A' : Option Addr} {n c used n' c' used' : Nat} {src src' : List UInt8}
theorem XB.still (hp : PutOk Tryz.prog fput lb B0 most J) (h : XB rb fb bx bud B0 put hold kind lv recs J M out w A n c used src W) (hb : Below W.heap.size W W') (hB0 : B0 ≤ w.heap.size) : XB rb fb bx bud B0 put hold kind lv recs J M out w A n c used src W' :=
  ⟨h.x.below hb h.x.lt, Pts.below h.r hb (Pts.lt h.r), Pts.below h.s hb (Pts.lt h.s), h.b.below (hb.mono (Nat.le_trans hB0 h.f.size)), h.o.frm (S := fun _ => False) (Frm.of_below hb) (fun _ _ h => h), hp.keep M _ W W' h.j (Frm.of_below hb), h.f.trans (Frm.of_below hb)⟩
theorem XB.takes (hp : PutOk Tryz.prog fput lb B0 most J) (h : XB rb fb bx bud B0 put hold kind lv recs J M out w A n c used src W) (hM : ¬ M fb) (hs : SrcAt W' fb A' n' c' used') (hf : Frm (· = fb) W W') (hb : BRow W' B0 A' src') : XB rb fb bx bud B0 put hold kind lv recs J M out w A' n' c' used' src' W' :=
  ⟨h.x.frm hf (h.x.ne_of h.s (by decide)), Pts.frm h.r hf (Pts.ne_of h.r h.s (by decide)), hs, hb, h.o.frm hf (fun k hk e => by
    rcases h.o.2 with ⟨h2, _⟩ | ⟨g, cap, cur, h2, _, hh, _⟩
    · rw [h2] at hk; cases hk
    · rw [h2] at hk
      injection hk with hk
      exact Pts.ne_of (show Pts W g cur _ from hh) h.s (by decide) (hk.trans e)), hp.keep M _ W W' h.j (hf.mono fun q _ e hm => hM (e ▸ hm)), h.f.trans hf⟩
theorem XB.cells (h : XB rb fb bx bud B0 put hold kind lv recs J M out w A n c used src W) : W.cell? ⟨bx, 0, none⟩ = some (.pointer (some ⟨rb, 0, none⟩)) ∧ W.cell? ⟨rb, 0, none⟩ = some (.pointer (some ⟨fb, 0, none⟩)) ∧ W.cell? ⟨rb, 1, none⟩ = some (.int .i64 bud) ∧ W.cell? ⟨rb, 3, none⟩ = some hold ∧ W.cell? ⟨rb, 4, none⟩ = some (.int .i64 kind) ∧ W.cell? ⟨rb, 5, none⟩ = some (.int .i64 (out.length : Int)) ∧ W.cell? ⟨rb, 6, none⟩ = some lv :=
  ⟨by rw [h.x.cell]; rfl, h.r.cells.1, h.r.cells.2.1, h.r.cells.2.2.2.1, h.r.cells.2.2.2.2.1, h.r.cells.2.2.2.2.2.1, h.r.cells.2.2.2.2.2.2⟩
end
/-- Behind a block's chunks. -/
structure XC (rb fb bx bud B0 nb sc : Nat) (put hold : Value) (kind : Int) (lv : Value) (recs : List (Nat × Nat)) (J : (Nat → Prop) → List UInt8 → World → Prop) (M : Nat → Prop) (out : List UInt8) (w : World) (Mi own : Nat → Prop) (sb : Nat) (T : List UInt8) (W : World) : Prop where
  n : Pts W nb #[.int .i64 (T.length : Int)] 3
  s : Pts W sc #[.iface 111 (.pointer (some ⟨sb, 0, none⟩))] 94
  x : Pts W bx #[.pointer (some ⟨rb, 0, none⟩)] 60
  r : RxAt W rb fb bud put hold kind (out ++ T).length lv
  u : SumAt W sb own (chkK kind) T
  o : OwnPr W 100 B0 lv recs
  j : J Mi (out ++ T) W
  f : Frm (fun q => M q ∨ q = fb ∨ q = rb) w W
  m : ∀ q, Mi q → (M q ∨ w.heap.size ≤ q) ∧ q ≠ rb ∧ q ≠ fb ∧ lv.ownBlock ≠ some q
  w : ∀ q, own q → w.heap.size ≤ q
section
variable {rb fb bx bud B0 nb sc fput most : Nat} {lb : Array Value} {put hold : Value} {kind : Int} {lv : Value} {recs : List (Nat × Nat)} {J : (Nat → Prop) → List UInt8 → World → Prop} {M Mi own : Nat → Prop} {sb : Nat} {out T : List UInt8} {w W W' : World}
theorem XC.cells (h : XC rb fb bx bud B0 nb sc put hold kind lv recs J M out w Mi own sb T W) : W.cell? ⟨nb, 0, none⟩ = some (.int .i64 (T.length : Int)) ∧ W.cell? ⟨sc, 0, none⟩ = some (.iface 111 (.pointer (some ⟨sb, 0, none⟩))) ∧ W.cell? ⟨bx, 0, none⟩ = some (.pointer (some ⟨rb, 0, none⟩)) ∧ W.cell? ⟨rb, 0, none⟩ = some (.pointer (some ⟨fb, 0, none⟩)) ∧ W.cell? ⟨rb, 5, none⟩ = some (.int .i64 ((out ++ T).length : Int)) ∧ W.cell? ⟨rb, 6, none⟩ = some lv ∧ W.frozen? ⟨rb, 6, none⟩ = false :=
  ⟨by rw [h.n.cell]; rfl, by rw [h.s.cell]; rfl, by rw [h.x.cell]; rfl, h.r.cells.1, h.r.cells.2.2.2.2.2.1, h.r.cells.2.2.2.2.2.2, Pts.frozen h.r 6⟩
theorem XC.still (hp : PutOk Tryz.prog fput lb B0 most J) (h : XC rb fb bx bud B0 nb sc put hold kind lv recs J M out w Mi own sb T W) (hb : Below W.heap.size W W') : XC rb fb bx bud B0 nb sc put hold kind lv recs J M out w Mi own sb T W' :=
  ⟨h.n.below hb h.n.lt, h.s.below hb h.s.lt, h.x.below hb h.x.lt, Pts.below h.r hb (Pts.lt h.r), h.u.frmX (S := fun _ => False) (Frm.of_below hb) (fun _ _ h => h), h.o.frm (S := fun _ => False) (Frm.of_below hb) (fun _ _ h => h), hp.keep Mi _ W W' h.j (Frm.of_below hb), h.f.trans (Frm.of_below hb), h.m, h.w⟩
theorem XC.takes (hp : PutOk Tryz.prog fput lb B0 most J) (h : XC rb fb bx bud B0 nb sc put hold kind lv recs J M out w Mi own sb T W) {A : Option Addr} {n c used : Nat} (hs : SrcAt W fb A n c used) (hfl : fb < w.heap.size) (hf : Frm (· = fb) W W') : XC rb fb bx bud B0 nb sc put hold kind lv recs J M out w Mi own sb T W' :=
  ⟨h.n.frm hf (h.n.ne_of hs (by decide)), h.s.frm hf (h.s.ne_of hs (by decide)), h.x.frm hf (h.x.ne_of hs (by decide)), Pts.frm h.r hf (Pts.ne_of h.r hs (by decide)), h.u.frmX hf (fun q hq e => by have := h.w q hq; omega), h.o.frm hf (fun k hk e => by
    rcases h.o.2 with ⟨h2, _⟩ | ⟨g, cap, cur, h2, _, hh, _⟩
    · rw [h2] at hk; cases hk
    · rw [h2] at hk
      injection hk with hk
      exact Pts.ne_of (show Pts W g cur _ from hh) hs (by decide) (hk.trans e)), hp.keep Mi _ W W' h.j (hf.mono fun q _ e hm => (h.m q hm).2.2.1 e), h.f.trans (hf.mono fun q _ e => .inr (.inl e)), h.m, h.w⟩
end
theorem xblock_err2 {rb fb un B0 bud bx nb sc sb : Nat} {put hold : Value} {kind : Int} {J : (Nat → Prop) → List UInt8 → World → Prop} {M Mi own : Nat → Prop} {lv : Value} {recs : List (Nat × Nat)} {out T : List UInt8} {E : BlkE} {w w' : World} {z : Nat} (hE : E = .err z T) (hz : z ≠ 0) (h : XC rb fb bx bud B0 nb sc put hold kind lv recs J M out w Mi own sb T w') :
    BlkXEnd rb fb un B0 bud put hold kind J M lv recs out E w (.returned (.int .i64 (z : Int))) w' := by
  subst hE
  exact ⟨h.f.mono fun q _ e => by rcases e with e | e | e; exact .inl e; exact .inr (.inl e); exact .inr (.inr (.inl e)), Mi, fun q hq => (h.m q hq).1, hz, rfl, h.j⟩
/-- The cells that are loaded where a record is put tq9 the others. -/
def LoB (bx rb fb nb tl : Nat) (w' : World) : Prop := w'.cell? ⟨bx, 0, none⟩ = some (.pointer (some ⟨rb, 0, none⟩)) ∧ w'.cell? ⟨rb, 0, none⟩ = some (.pointer (some ⟨fb, 0, none⟩)) ∧ w'.cell? ⟨nb, 0, none⟩ = some (.int .i64 (tl : Int))
theorem cell_alloc {w : World} (o : Obj) {p : Addr} {v : Value} (hp : w.cell? p = some v) : (w.alloc o).cell? p = some v := by
  rw [World.cell?_of_block (w := w)]
  · exact hp
  · exact Below.heap_alloc _ _ _ (World.block_lt_of_cell? w p hp)
theorem LoB.alloc {bx rb fb nb tl : Nat} {w : World} (h : LoB bx rb fb nb tl w) (o : Obj) : LoB bx rb fb nb tl (w.alloc o) := ⟨cell_alloc o h.1, cell_alloc o h.2.1, cell_alloc o h.2.2⟩
theorem Frm.undrew {S : Nat → Prop} {a b : World} (h : Frm S a.drew b) : Frm S a b := ⟨h.os, h.tape, h.output, h.size, h.block⟩
theorem xblock_err {rb fb un B0 bud : Nat} {put hold : Value} {kind : Int} {J : (Nat → Prop) → List UInt8 → World → Prop} {M : Nat → Prop} {lv : Value} {recs : List (Nat × Nat)} {out : List UInt8} {E : BlkE} {w w' : World} {z : Nat} (hE : E = .err z []) (hz : z ≠ 0) (hf : Frm (fun q => q = fb) w w') (hj : J M out w') :
    BlkXEnd rb fb un B0 bud put hold kind J M lv recs out E w (.returned (.int .i64 (z : Int))) w' := by
  subst hE
  exact ⟨hf.mono fun q _ e => .inr (.inl e), M, fun q h => .inl h, hz, rfl, by rw [List.append_nil]; exact hj⟩
theorem xblock_ok {rb fb un B0 bud bx nb sc sb fput most : Nat} {lb : Array Value} {put hold : Value} {kind : Int} {J : (Nat → Prop) → List UInt8 → World → Prop} {M Mi own : Nat → Prop} {lv v12 : Value} {recs : List (Nat × Nat)} {out T rest : List UInt8} {rc : Nat × Nat} {E : BlkE} {w Wa w12 : World} {o : Obj} {A : Option Addr} {n c used : Nat}
    (hp : PutOk Tryz.prog fput lb B0 most J) (h : XC rb fb bx bud B0 nb sc put hold kind lv recs J M out w Mi own sb T Wa) (hown : OwnPr w12 100 B0 v12 (recs ++ [rc])) (hf : Frm (fun k => lv.ownBlock = some k) (Wa.alloc o) w12) (hnew : v12.ownBlock = lv.ownBlock ∨ v12.ownBlock = some (Wa.alloc o).heap.size)
    (hs : SrcAt Wa fb A n c used) (hun : used + n = un) (hr : BRow Wa B0 A rest) (hn : n = rest.length) (hc : n ≤ c) (hcm : c ≤ maxLen) (hE : E = .ok T rc rest) (hB0 : B0 ≤ w.heap.size) (hlo : LoB bx rb fb nb T.length Wa) (hBr : B0 ≤ rb) :
    LoB bx rb fb nb T.length w12 ∧ LoB bx rb fb nb T.length (w12.setCell ⟨rb, 6, none⟩ v12) ∧ w12.cell? ⟨rb, 6, none⟩ = some lv ∧ w12.frozen? ⟨rb, 6, none⟩ = false ∧ BlkXEnd rb fb un B0 bud put hold kind J M lv recs out E w (.returned (.int .i64 0)) (w12.setCell ⟨rb, 6, none⟩ v12) := by
  have hty : ∀ {q : Nat} {c : Array Value} {T' : TypeId}, lv.ownBlock = some q → Pts Wa q c T' → (100 : Nat) = T' := fun {q c T'} hq hpp => by
    rcases h.o.2 with ⟨h3, _⟩ | ⟨g, cap, cur, h3, _, hh, _⟩
    · rw [h3] at hq; cases hq
    · rw [h3] at hq
      injection hq with hq
      subst hq
      have h9 : Wa.heap[g]? = some (.cells cur 100 (0, 0)) := hh
      unfold Pts at hpp
      rw [h9] at hpp
      injection hpp with hpp
      injection hpp
  have k1 : lv.ownBlock ≠ some bx := fun e => absurd (hty e h.x) (by decide)
  have k2 : lv.ownBlock ≠ some rb := fun e => absurd (hty e h.r) (by decide)
  have k3 : lv.ownBlock ≠ some nb := fun e => absurd (hty e h.n) (by decide)
  have k4 : lv.ownBlock ≠ some fb := fun e => absurd (hty e hs) (by decide)
  have hx := (h.x.alloc o).frm hf k1
  have hrr : RxAt w12 rb fb bud put hold kind (out ++ T).length lv := Pts.frm (Pts.alloc h.r o) hf k2
  have hnn := (h.n.alloc o).frm hf k3
  have hsz : (Wa.alloc o).heap.size = Wa.heap.size + 1 := by simp only [World.size_alloc]
  have hw : w.heap.size ≤ Wa.heap.size := h.f.size
  have hf1 : Frm (fun k => lv.ownBlock = some k) Wa w12 := ((Frm.refl _ Wa).alloc o).trans hf
  have hf2 : Frm (fun k => lv.ownBlock = some k ∨ k = rb) Wa (w12.setCell ⟨rb, 6, none⟩ v12) := (hf1.mono fun q _ e => .inl e).setCell (p := ⟨rb, 6, none⟩) (.inr rfl) v12
  have hv12 : ∀ q, v12.ownBlock = some q → lv.ownBlock = some q ∨ q = Wa.heap.size + 1 := fun q hq => by
    rcases hnew with e | e
    · exact .inl (e ▸ hq)
    · rw [e, hsz] at hq
      injection hq with hq
      exact .inr hq.symm
  have hlo2 := hlo.alloc o
  have hx2 : Pts (w12.setCell ⟨rb, 6, none⟩ v12) bx _ _ := hx.other (p := ⟨rb, 6, none⟩) (h.x.ne_of h.r (by decide)) v12
  have hn2 : Pts (w12.setCell ⟨rb, 6, none⟩ v12) nb _ _ := hnn.other (p := ⟨rb, 6, none⟩) (h.n.ne_of h.r (by decide)) v12
  have hr2 : RxAt (w12.setCell ⟨rb, 6, none⟩ v12) rb fb bud put hold kind (out ++ T).length v12 := Pts.set hrr 6 v12
  refine ⟨⟨by rw [hx.cell]; rfl, hrr.cells.1, by rw [hnn.cell]; rfl⟩, ⟨by rw [hx2.cell]; rfl, hr2.cells.1, by rw [hn2.cell]; rfl⟩, hrr.cells.2.2.2.2.2.2, Pts.frozen hrr 6, ?_⟩
  subst hE
  refine ⟨?_, Mi, fun q hq => (h.m q hq).1, rfl, hp.keep Mi _ Wa _ h.j (hf2.mono fun q _ e hm => ?_), v12, ?_, ?_, fun q hq => ⟨fun hm => ?_, ?_⟩, A, n, c, used, Pts.frm hs hf2 ?_, hun, hr.below (hf2.below (Nat.le_trans hB0 hw) fun k hk => ?_), hn, hc, hcm⟩
  · refine (h.f.mono fun q _ e => ?_).trans (hf2.mono fun q _ e => ?_)
    · rcases e with e | e | e
      · exact .inl e
      · exact .inr (.inl e)
      · exact .inr (.inr (.inl e))
    · rcases e with e | e
      · exact .inr (.inr (.inr e))
      · exact .inr (.inr (.inl e))
  · rcases e with e | e
    · exact (h.m q hm).2.2.2 e
    · exact (h.m q hm).2.1 e
  · exact Pts.set hrr 6 v12
  · refine hown.frm (S := fun k => k = rb) ((Frm.refl (fun k => k = rb) w12).setCell (p := ⟨rb, 6, none⟩) rfl v12) fun q hq e => ?_
    have hrl := Pts.lt h.r
    rcases hv12 q hq with e2 | e2
    · exact k2 (e ▸ e2)
    · omega
  · rcases hv12 q hq with e2 | e2
    · exact (h.m q hm).2.2.2 e2
    · have := hp.lt h.j q hm; omega
  · rcases hv12 q hq with e2 | e2
    · exact .inl e2
    · exact .inr (by omega)
  · rintro (e | e)
    · exact k4 e
    · exact Pts.ne_of hs h.r (by decide) e
  · rcases hk with e | e
    · exact (h.o.lt e).1
    · omega
end Go.Proofs.YtgahfpflhhfhfaaGreat

/- Steps of a text, in plain Lean: what they tell. -/
namespace Go.Proofs.YtgahfpflhhfhfaaGreat.Fnd
open Go.RowKit
set_option linter.unusedVariables false
set_option linter.unusedSimpArgs false

structure Sq where
  lits : Int
  mat : Int
  back : Int
instance : Inhabited Sq := ⟨⟨0, 0, 0⟩⟩

def maxC : Nat := 16777216
/-- n bytes more, each the one that stands k behind. -/
def copyBack (k : Nat) : Nat → List UInt8 → List UInt8
  | 0, out => out
  | n + 1, out => copyBack k n (out ++ [out.getD (out.length - k) 0])
def Bad1 (s : Sq) (rest : Nat) : Prop := s.lits < 0 ∨ s.mat < 0 ∨ s.back < 0 ∨ (rest : Int) < s.lits
def Bad2 (s : Sq) (out1 : Nat) : Prop := (0 < s.mat ∧ (s.back = 0 ∨ (out1 : Int) < s.back)) ∨ (maxC : Int) - out1 < s.mat
instance (s : Sq) (n : Nat) : Decidable (Bad1 s n) := by unfold Bad1; infer_instance
instance (s : Sq) (n : Nat) : Decidable (Bad2 s n) := by unfold Bad2; infer_instance
/-- What steps make of a text's first bytes and of the bytes that stand behind; none: they are malformed. -/
def backGo : List Sq → List UInt8 → List UInt8 → Option (List UInt8)
  | [], out, _ => if maxC < out.length then none else some out
  | s :: l, out, rest =>
    if Bad1 s rest.length then none
    else if Bad2 s (out ++ rest.take s.lits.toNat).length then none
    else backGo l (copyBack s.back.toNat s.mat.toNat (out ++ rest.take s.lits.toNat)) (rest.drop s.lits.toNat)

inductive Tale
  | arg
  | malformed
  | ok (out : List UInt8)
def back (b : List UInt8) (from_ : Int) (l : List Sq) : Tale :=
  if from_ < 0 ∨ (b.length : Int) < from_ then .arg
  else match backGo l (b.take from_.toNat) (b.drop from_.toNat) with
    | none => .malformed
    | some out => .ok out

/-- A slice of steps that came in. -/
def SqRow (w : World) (B : Nat) (A : Option Addr) (l : List Sq) : Prop :=
  0 < l.length → ∃ b off, A = some ⟨b, off, none⟩ ∧ b < B ∧ ∀ k, k < l.length →
    w.cell? ⟨b, off + k * 3, none⟩ = some (.int .i64 (l.getD k default).lits) ∧ w.cell? ⟨b, off + k * 3 + 1, none⟩ = some (.int .i64 (l.getD k default).mat) ∧ w.cell? ⟨b, off + k * 3 + 2, none⟩ = some (.int .i64 (l.getD k default).back)
/-- Numbers of an int. -/
def Sq.fits (s : Sq) : Prop := (-9223372036854775808 ≤ s.lits ∧ s.lits ≤ 9223372036854775807) ∧ (-9223372036854775808 ≤ s.mat ∧ s.mat ≤ 9223372036854775807) ∧ (-9223372036854775808 ≤ s.back ∧ s.back ≤ 9223372036854775807)
theorem min2_int {P : Program} (ts : Array TypeId) (t : TypeId) (x y n : Int) (h : min x y = n) (w : World) : (Builtin.min_ ts t #[.int .i64 x, .int .i64 y]).run P w = .ok (.int .i64 n) w := by
  have e : (if y < x then y else x) = n := by split <;> omega
  rw [← e]
  simp [Builtin.min_, Builtin.min2]
theorem max2_int {P : Program} (ts : Array TypeId) (t : TypeId) (x y n : Int) (h : max x y = n) (w : World) : (Builtin.max_ ts t #[.int .i64 x, .int .i64 y]).run P w = .ok (.int .i64 n) w := by
  have e : (if x < y then y else x) = n := by split <;> omega
  rw [← e]
  simp [Builtin.max_, Builtin.max2]
end Go.Proofs.YtgahfpflhhfhfaaGreat.Fnd

/- A drawn region whose last operations come in one forced order, behind all others: the others in whatever order, under a condition on the world that needs tq9 hold no longer when the last ones begin. No program in sight. -/
namespace Go.Proofs.YtgahfpflhhfhfaaGreat
open Go
set_option linter.unusedVariables false
set_option linter.unusedSimpArgs false
section
variable {P : Program} {ops : Array Oper} {md : Region.Mode} {S : World → Prop}
def tailH (P : Program) (ops : Array Oper) (Q : Exit → Act → World → Prop) (l : List Oper) : Exit → Act → World → Prop
  | .normal, a, w => wpList P ops Q l a w
  | e, a, w => Q e a w
theorem wp_of_tailH {Q : Exit → Act → World → Prop} {o : Oper} {a : Act} {w : World} {K : Act → World → Prop} {l : List Oper} (h : o.wp P a w K (tailH P ops Q l)) : o.wp P a w K Q := by
  unfold Oper.wp at *
  generalize (execOp a.eval o).run P w = r at *
  cases r with
  | ok n w' =>
    cases n <;> simp only [Oper.upon] at h ⊢
    case enter f args => exact Calls.mono h (fun e w'' he => by cases e <;> exact he)
    all_goals exact h
  | halt x w' => cases x <;> simp only [Oper.upon] at h ⊢ <;> exact h
theorem wpOp_tailH {Q : Exit → Act → World → Prop} {i : Nat} {a : Act} {w : World} {K : Act → World → Prop} {l : List Oper} (h : wpOp P ops (tailH P ops Q l) i K a w) : wpOp P ops Q i K a w := by
  unfold wpOp at *
  cases ho : ops[i]? with
  | none => simp only [ho] at h ⊢; exact h
  | some o =>
    simp only [ho] at h ⊢
    split
    · rename_i hw
      simp only [hw, if_true] at h
      exact h.imp wp_of_tailH (fun h2 => ⟨h2.1, h2.2⟩)
    · rename_i hw
      simp only [hw] at h
      exact h
theorem head_anyH {n g : Nat} {Q : Exit → Act → World → Prop} {l : List Oper} (hf : fwdB md ops = true) (hs : Region.sinkB md ops n = true) (hc : Region.chainB md ops n = true) (hn : n < ops.size)
    (hE : ∀ a w, wpList P ops Q l a w → wpAny P md ops Q g (firstN ops.size n) a w) :
    ∀ (f : Nat) (listed l1 : Array Bool) (a : Act) (w : World), HeadInv md ops n listed → l1.size = ops.size → (∀ j d, j < n → l1.getD j d = listed.getD j d) → (∀ j, n ≤ j → l1.getD j true = true) →
      wpAnyH P md ops (tailH P ops Q l) S f l1 a w → wpAny P md ops Q (f + g) listed a w := by
  have same : ∀ (listed l1 : Array Bool), HeadInv md ops n listed → (∀ j d, j < n → l1.getD j d = listed.getD j d) → (∀ j, n ≤ j → l1.getD j true = true) →
      ∀ i, (i < n ∧ i ∈ Region.ready md ops listed ↔ i ∈ Region.ready md ops l1) := by
    intro listed l1 inv h1 h2 i
    constructor
    · rintro ⟨hi, hm⟩
      obtain ⟨hu, o, ho, hall⟩ := mem_ready.1 hm
      exact mem_ready.2 ⟨(h1 i true hi).trans hu, o, ho, fun e he hb => (h1 e.on false (by have := fwdB_spec hf ho he hb; omega)).trans (hall e he hb)⟩
    · intro hm
      obtain ⟨hu, o, ho, hall⟩ := mem_ready.1 hm
      have hi : i < n := by
        rcases Nat.lt_or_ge i n with h | h
        · exact h
        · rw [h2 i h] at hu; cases hu
      exact ⟨hi, mem_ready.2 ⟨(h1 i true hi).symm.trans hu, o, ho, fun e he hb => (h1 e.on false (by have := fwdB_spec hf ho he hb; omega)).symm.trans (hall e he hb)⟩⟩
  have done : ∀ (listed l1 : Array Bool), HeadInv md ops n listed → (∀ j d, j < n → l1.getD j d = listed.getD j d) → (∀ j, n ≤ j → l1.getD j true = true) →
      Region.ready md ops l1 = [] → listed = firstN ops.size n := by
    intro listed l1 inv h1 h2 he
    have all : ∀ d i, i = d → i < n → listed.getD i false = true := by
      intro d
      induction d using Nat.strongRecOn with
      | _ d ih =>
        intro i hd hi
        cases hl : listed.getD i true with
        | true =>
          have hlt : i < listed.size := by rw [inv.size]; omega
          simp [hlt] at hl ⊢
          exact hl
        | false =>
          exfalso
          have hlt : i < ops.size := by omega
          have hm := mem_ready.2 ⟨(h1 i true hi).trans hl, ops[i], Array.getElem?_eq_getElem hlt, fun e he hb => by
            have hlt2 := fwdB_spec hf (Array.getElem?_eq_getElem hlt) he hb
            exact (h1 e.on false (by omega)).trans (ih e.on (by omega) e.on rfl (by omega))⟩
          rw [he] at hm
          cases hm
    apply Array.ext
    · simp [firstN, inv.size]
    · intro i hi1 hi2
      simp only [firstN, Array.getElem_ofFn]
      rcases Nat.lt_or_ge i n with h | h
      · have := all i i rfl h
        simp [hi1] at this
        simp [this, h]
      · have := inv.tail i h (by rw [← inv.size]; exact hi1)
        simp [hi1] at this
        rw [this]
        simp only [Bool.false_eq, decide_eq_false_iff_not]
        omega
  intro f
  induction f with
  | zero =>
    intro listed l1 a w inv hsz h1 h2 h
    rw [done listed l1 inv h1 h2 h.1, Nat.zero_add]
    exact hE a w h.2
  | succ f ih =>
    intro listed l1 a w inv hsz h1 h2 h
    cases hrl : Region.ready md ops l1 with
    | nil =>
      rw [done listed l1 inv h1 h2 hrl]
      exact wpAny_plus (hE a w (h.1 hrl)) _
    | cons x xs =>
      have hx : x ∈ Region.ready md ops l1 := by rw [hrl]; exact List.mem_cons_self
      have hx2 := (same listed l1 inv h1 h2 x).2 hx
      have hxu := (mem_ready.1 hx2.2).1
      rw [show f + 1 + g = (f + g) + 1 by omega]
      refine ⟨fun h0 => by rw [h0] at hx2; exact absurd hx2.2 (by simp), fun i hi => ?_⟩
      have hin : i < n := by
        rcases Nat.lt_or_ge i n with h3 | h3
        · exact h3
        · exact absurd hi (tail_waits hs hc hn inv _ x rfl hx2.1 hxu i h3)
      have hil := (same listed l1 inv h1 h2 i).1 ⟨hin, hi⟩
      refine wpOp_mono (fun a' w' h' => ih (listed.setIfInBounds i true) (l1.setIfInBounds i true) a' w' (inv.set hi hin) (by simp [hsz]) ?_ ?_ h'.2) (wpOp_tailH (h.2 i hil))
      · intro j d hj
        by_cases hij : i = j
        · subst hij
          have e1 : i < l1.size := by omega
          have e2 : i < listed.size := by rw [inv.size]; omega
          simp [e1, e2]
        · rw [getD_set_ne d hij, getD_set_ne d hij]; exact h1 j d hj
      · intro j hj
        rw [getD_set_ne true (by omega)]
        exact h2 j hj
def headTB (md : Region.Mode) (ops : Array Oper) (n : Nat) : Bool :=
  decide (n < ops.size) && fwdB md ops && Region.sinkB md ops n && Region.chainB md ops n && Region.seqB md ops (ops.size - n) n (firstN ops.size n)
theorem wp_region_headH {id : Nat} {Q : Exit → Act → World → Prop} {a : Act} {w : World} {l : List Oper} (n : Nat) (S : World → Prop) (hm : P.follows .mixedOrders = true) (hB : headTB .any l.toArray n = true)
    (h : wpAnyH P .any l.toArray (tailH P l.toArray Q (l.drop n)) S n (lastN' l.toArray.size n) a w.drew) : (Code.region id l.toArray true).wp P Q a w := by
  simp only [headTB, Bool.and_eq_true, decide_eq_true_eq] at hB
  obtain ⟨⟨⟨⟨hn, hf⟩, hs⟩, hc⟩, hseq⟩ := hB
  have hn' : n < l.length := by simpa using hn
  have hdl : (l.drop n).length = l.toArray.size - n := by simp
  refine wp_region_any hm ?_
  have inv0 : HeadInv .any l.toArray n (Array.replicate l.toArray.size false) :=
    ⟨by simp, fun j oj _ hl => (by rw [getD_replicate_false] at hl; cases hl), fun t _ ht => getD_in (by simpa using ht) (getD_replicate_false _ _)⟩
  have G := head_anyH (P := P) (Q := Q) (S := S) (l := l.drop n) (g := l.toArray.size - n) hf hs hc hn (fun a' w' h' => by
    have := wpAny_of_seq (md := .any) (Q' := Q) (l.drop n) n (firstN l.toArray.size n) a' w' (fun j => by simp [List.getElem?_drop]) (by rw [hdl]; exact hseq) h'
    rwa [hdl] at this) n (Array.replicate l.toArray.size false) (lastN' l.toArray.size n) a w.drew inv0 (by simp [lastN']) ?_ ?_ h
  · rw [show n + (l.toArray.size - n) = l.toArray.size by omega] at G
    exact G
  · intro j d hj
    have h1 : j < l.length := by omega
    simp [lastN', h1]
    omega
  · intro j hj
    by_cases h1 : j < l.length
    · simp [lastN', h1]
      omega
    · simp [lastN', h1]
end
end Go.Proofs.YtgahfpflhhfhfaaGreat

/- A block of a member: the walk. -/
namespace Go.Proofs.YtgahfpflhhfhfaaGreat
open Go.RowKit Rng Win Lz Box
set_option linter.unusedVariables false
set_option linter.unusedSimpArgs false
set_option maxRecDepth 100000 in
set_option maxHeartbeats 8000000 in
theorem xblock_p (rb fb bud un fput B0 : Nat) (lb : Array Value) (kind : Int) (lv : Value) (recs : List (Nat × Nat)) (J : (Nat → Prop) → List UInt8 → World → Prop) (M : Nat → Prop) (out bs : List UInt8) (A : Option Addr) (n c used b0 : Nat) (w : World)
    (hp : PutOk Tryz.prog fput lb B0 16777216 J) (hr : RxAt w rb fb bud (.func (.func fput) #[] lb) (.func (.func 18) #[] #[]) kind out.length lv) (hs : SrcAt w fb A n c used) (hn : n = bs.length) (hb : BRow w B0 A bs) (hB0 : B0 ≤ w.heap.size) (hBr : B0 ≤ rb) (hBf : B0 ≤ fb)
    (hc : n ≤ c) (hcm : c ≤ maxLen) (hu : used + n = un) (hub : un ≤ 4611686018427387904) (hl : n ≤ 1000000000) (h1 : 1 ≤ n) (hb0 : b0 = (bs.getD 0 0).toNat) (ho : OwnPr w 100 B0 lv recs) (hrl : recs.length ≤ 100000000)
    (hj : J M out w) (hM : ∀ q, M q → q ≠ rb ∧ q ≠ fb ∧ lv.ownBlock ≠ some q) (hol : out.length ≤ 16777216) (hbud : bud ≤ 16777216) :
    Calls Tryz.prog 31 #[.pointer (some ⟨rb, 0, none⟩), .int .u8 (b0 : Int)] w (BlkXEnd rb fb un B0 bud (.func (.func fput) #[] lb) (.func (.func 18) #[] #[]) kind J M lv recs out (xBlock bud kind out.length bs) w) := by
  obtain ⟨PUT, hPUT⟩ : ∃ P, Value.func (.func fput) #[] lb = P := ⟨_, rfl⟩
  rw [hPUT] at hr ⊢
  have HPUT := Lib.hid hPUT
  obtain ⟨E, hE⟩ : ∃ E, xBlock bud kind out.length bs = E := ⟨_, rfl⟩
  rw [hE]
  obtain ⟨W0, hW0⟩ : ∃ W, w.alloc (.cells #[.pointer (some ⟨rb, 0, none⟩)] 60) = W := ⟨_, rfl⟩
  have hb00 : Below w.heap.size w W0 := by rw [← hW0]; exact (Below.refl _ w).alloc (Nat.le_refl _) _
  have hs00 : W0.heap.size = w.heap.size + 1 := by rw [← hW0]; simp only [World.size_alloc]
  have hX0 : XB rb fb w.heap.size bud B0 PUT (.func (.func 18) #[] #[]) kind lv recs J M out w A n c used bs W0 := by
    refine ⟨by rw [← hW0]; exact Pts.new _ _ _, Pts.below hr hb00 (Pts.lt hr), Pts.below hs hb00 (Pts.lt hs), hb.below (hb00.mono hB0), ho.frm (S := fun _ => False) (Frm.of_below hb00) (fun _ _ h => h), hp.keep M _ w W0 hj (Frm.of_below hb00), Frm.of_below hb00⟩
  have HP := Lib.hid hp
  have HX0 := Lib.hid hX0
  have HE := Lib.hid hE
  have HM := Lib.hid hM
  have HLT : Hid ((∀ q, M q → q < w.heap.size) ∧ rb < w.heap.size ∧ fb < w.heap.size ∧ ∀ q, lv.ownBlock = some q → q < w.heap.size) := Lib.hid ⟨hp.lt hj, Pts.lt hr, Pts.lt hs, fun q hq => (ho.lt hq).2⟩
  have HH : Hid ((n = bs.length ∧ n ≤ c ∧ c ≤ maxLen ∧ used + n = un ∧ un ≤ 4611686018427387904 ∧ n ≤ 1000000000 ∧ 1 ≤ n) ∧ (B0 ≤ w.heap.size ∧ B0 ≤ rb ∧ B0 ≤ fb) ∧ recs.length ≤ 100000000 ∧ out.length ≤ 16777216 ∧ bud ≤ 16777216 ∧ b0 = (bs.getD 0 0).toNat) := Lib.hid ⟨⟨hn, hc, hcm, hu, hub, hl, h1⟩, ⟨hB0, hBr, hBf⟩, hrl, hol, hbud, hb0⟩
  obtain ⟨cx, c0, c1, c3, c4, c5, c6⟩ := hX0.cells
  have HU0 := Lib.hid (used_p fb A n c used W0 hX0.s)
  obtain ⟨hl0, hhl0⟩ : ∃ h, (b0 + 1) * 4 = h := ⟨_, rfl⟩
  have hb256 : b0 < 256 := by rw [hb0]; exact (bs.getD 0 0).toNat_lt
  have i1 : ((b0 : Int) + 1) * 4 = (hl0 : Int) := by omega
  have hhd : hdLen bs = hl0 := by unfold hdLen; rw [← hb0, hhl0]
  have HHD := Lib.hid hhd
  have hhl4 : 4 ≤ hl0 ∧ hl0 ≤ 1024 := by omega
  clear hp hr hs hn hb hB0 hBr hBf hc hcm hu hub hl h1 hb0 ho hrl hj hM hol hbud hE hb00 hX0 hhl0 hhd hPUT
  by_cases hsh : n < hl0
  · have HEE : Hid (E = .err 10 []) := Lib.hid (by rw [← HE.out]; unfold xBlock; rw [HHD.out, if_pos (by have := HH.out.1.1; omega)])
    have HT := Lib.hid (rtake_no rb fb bud PUT _ kind out.length lv A n c used hl0 W0 HX0.out.r HX0.out.s hsh)
    clear hsh
    go_enter_defers Tryz.func31, Tryz.ntmps31
    go_wp2_with fail
    refine HU0.out.mono ?_; rintro e w1 ⟨rfl, rfl⟩
    go_wp2_with fail
    refine HT.out.mono ?_; rintro e w1 ⟨rfl, rfl⟩
    go_wp2
    refine ⟨.int .i64 10, by simp [results, Tryz.results31, go_sem], ?_⟩
    exact xblock_err HEE.out (by decide) HX0.out.f HX0.out.j
  · have HT := Lib.hid (rtake_p rb fb bud PUT _ kind out.length lv A n c used hl0 W0 HX0.out.r HX0.out.s HH.out.1.2.1 (by omega) (by have := HH.out.1.2.2.2.1; have := HH.out.1.2.2.2.2.1; omega))
    have hln : (bs.take hl0).length = hl0 := by rw [List.length_take]; have := HH.out.1.1; omega
    have hld : (bs.drop hl0).length = n - hl0 := by rw [List.length_drop]; have := HH.out.1.1; omega
    have hEE : xBody bud kind out.length (blockOf (bs.take hl0)) hl0 (bs.drop hl0) = E := by
      rw [← HE.out]
      unfold xBlock
      rw [HHD.out, if_neg (by have := HH.out.1.1; omega)]
    obtain ⟨hd, hhd⟩ : ∃ hd, bs.take hl0 = hd := ⟨_, rfl⟩
    obtain ⟨sr, hsr⟩ : ∃ sr, bs.drop hl0 = sr := ⟨_, rfl⟩
    obtain ⟨win, n', pk, wl, er, hR⟩ := blockOf_in (bs.take hl0)
    rw [hhd] at hR hln hEE
    rw [hsr] at hld hEE
    rw [hR] at hEE
    have hbd : sr.length + hl0 = bs.length := by rw [hld]; have := HH.out.1.1; omega
    have HHS := Lib.hid (And.intro hhd (And.intro hsr (And.intro hln (And.intro hld hbd))))
    have HEE := Lib.hid hEE
    have HRR := Lib.hid hR
    have HSH := Lib.hid hsh
    clear hhd hsr hln hld hEE hR hbd hsh HE
    go_enter_defers Tryz.func31, Tryz.ntmps31
    go_wp2_with fail
    refine HU0.out.mono ?_; rintro e w1 ⟨rfl, rfl⟩
    go_wp2_with fail
    refine HT.out.mono ?_; rintro e w1 ⟨rfl, hs1, hf1⟩
    have hr1 : BRow w1 B0 A bs := HX0.out.b.below (hf1.below (by have := HH.out.2.1.1; omega) (fun q hq => by have := HH.out.2.1.2.2; omega))
    have hrd : BRow w1 B0 (takeA A c hl0) sr := by
      have h := hr1.drop (k := hl0) (cap := c) (by have := HH.out.1.1; have := HH.out.1.2.1; omega)
      rw [HHS.out.2.1] at h
      exact h
    have hrt : BRow w1 B0 A hd := by rw [← HHS.out.1]; exact hr1.take hl0
    have hX1 : XB rb fb w.heap.size bud B0 PUT (.func (.func 18) #[] #[]) kind lv recs J M out w (takeA A c hl0) (n - hl0) (c - hl0) (used + hl0) sr w1 := HX0.out.takes HP.out (fun h => (HM.out _ h).2.1 rfl) hs1 hf1 hrd
    have hBK := block_p A hd hl0 hl0 w1 HHS.out.2.2.1.symm (Nat.le_refl _) (by have := HH.out.1.2.1; have := HH.out.1.2.2.1; have := HSH.out; omega) (hrt.more (by have := hX1.f.size; have := HH.out.2.1.1; omega))
    rw [HRR.out] at hBK
    obtain ⟨A1, hA1⟩ : ∃ A1, takeA A c hl0 = A1 := ⟨_, rfl⟩
    obtain ⟨n1, hn1⟩ : ∃ n1, n - hl0 = n1 := ⟨_, rfl⟩
    obtain ⟨k1, hk1⟩ : ∃ k1, c - hl0 = k1 := ⟨_, rfl⟩
    obtain ⟨u1, hu1⟩ : ∃ u1, used + hl0 = u1 := ⟨_, rfl⟩
    rw [hA1, hn1, hk1, hu1] at hX1
    have H1 : Hid (n1 = sr.length ∧ n1 ≤ k1 ∧ k1 ≤ maxLen ∧ u1 + n1 = un ∧ used + hl0 = u1) := Lib.hid (by
      have h1 := HH.out.1.2.1; have h2 := HH.out.1.2.2.1; have h3 := HH.out.1.2.2.2.1; have h4 := HSH.out; have h5 := HHS.out.2.2.2.1
      exact ⟨by omega, by omega, by omega, by omega, hu1⟩)
    have HX1 := Lib.hid hX1
    have HBK := Lib.hid hBK
    clear hs1 hf1 hr1 hrd hrt hX1 hBK hA1 hn1 hk1 hu1 cx c0 c1 c3 c4 c5 c6 HU0 HT
    go_wp2_with fail
    refine HBK.out.mono ?_; rintro e w2 ⟨rfl, hb2⟩
    unfold blkV
    simp only
    have hX2 := HX1.out.still HP.out hb2 HH.out.2.1.1
    obtain ⟨cx, c0, c1, c3, c4, c5, c6⟩ := hX2.cells
    have HX2 := Lib.hid hX2
    clear hX2 hb2
    by_cases he : er = 0
    · subst he
      by_cases hw : bud < win
      · have qw : decide (bud < win) = true := decide_eq_true hw
        have HEF : Hid (E = .err 40 []) := Lib.hid (by
          rw [← HEE.out]
          unfold xBody
          rw [if_neg (by simp), if_pos (by simp only; omega)])
        clear hw
        go_wp2
        refine ⟨.int .i64 40, by simp [results, Tryz.results31, go_sem], ?_⟩
        exact xblock_err HEF.out (by decide) HX2.out.f HX2.out.j
      · have qw : decide (bud < win) = false := decide_eq_false hw
        have HEG : Hid (E = match d2P (max win 4096) (16777216 - out.length) sr with | (o, .inl e) => BlkE.err e o | (o, .inr rest) => xTail ((win : Int), n', pk, wl, ((0 : Nat) : Int)) kind hl0 (sr.length - rest.length) o rest) := Lib.hid (by
          rw [← HEE.out]
          unfold xBody
          rw [if_neg (by simp), if_neg (by simp only; omega)]
          rfl)
        have hwb : win ≤ 16777216 := by have := HH.out.2.2.2.2.1; omega
        clear hw HEE
        go_wp2_with fail
        refine (hold_p _ w2).mono ?_; rintro e w3 ⟨rfl, rfl⟩
        go_wp2_with fail
        refine (check_p kind w2).mono ?_; rintro e w3 ⟨sb, own, rfl, hu3, ho3, hb3⟩
        have hX3 := HX2.out.still HP.out hb3 HH.out.2.1.1
        obtain ⟨W4, hW4⟩ : ∃ W, w3.alloc (.cells #[.iface 111 (.pointer (some ⟨sb, 0, none⟩))] 94) = W := ⟨_, rfl⟩
        have hb4 : Below w3.heap.size w3 W4 := by rw [← hW4]; exact (Below.refl _ w3).alloc (Nat.le_refl _) _
        have hs4 : W4.heap.size = w3.heap.size + 1 := by rw [← hW4]; simp only [World.size_alloc]
        have hp4 : Pts W4 w3.heap.size #[.iface 111 (.pointer (some ⟨sb, 0, none⟩))] 94 := by rw [← hW4]; exact Pts.new _ _ _
        have hX4 := hX3.still HP.out hb4 HH.out.2.1.1
        have hu4 : SumAt W4 sb own (chkK kind) [] := hu3.frmX (S := fun _ => False) (Frm.of_below hb4) (fun _ _ h => h)
        have hO4 : ∀ q, own q → w.heap.size + 1 ≤ q ∧ q < w3.heap.size := fun q hq => ⟨by have := ho3 q hq; have := HX2.out.x.lt; omega, lt_of_cells (hu3.cellsX q hq)⟩
        obtain ⟨cx4, d0, d1, d3, d4, d5, d6⟩ := hX4.cells
        have HX4 := Lib.hid hX4
        have H4 : Hid (Pts W4 w3.heap.size #[.iface 111 (.pointer (some ⟨sb, 0, none⟩))] 94 ∧ SumAt W4 sb own (chkK kind) [] ∧ (∀ q, own q → w.heap.size + 1 ≤ q ∧ q < w3.heap.size) ∧ w.heap.size + 1 ≤ w3.heap.size) := Lib.hid ⟨hp4, hu4, hO4, by have := hX3.x.lt; omega⟩
        clear hX3 hb3 hu3 ho3 hb4 hX4 hu4 hO4 hp4 cx c0 c1 c3 c4 c5 c6
        go_wp2_with fail
        have HU4 := Lib.hid (used_p fb A1 n1 k1 u1 W4 HX4.out.s)
        refine HU4.out.mono ?_; rintro e w5 ⟨rfl, rfl⟩
        obtain ⟨W5, hW5⟩ : ∃ W, W4.alloc (.cells #[.int .i64 0] 3) = W := ⟨_, rfl⟩
        have hb5 : Below W4.heap.size W4 W5 := by rw [← hW5]; exact (Below.refl _ W4).alloc (Nat.le_refl _) _
        have hs5 : W5.heap.size = W4.heap.size + 1 := by rw [← hW5]; simp only [World.size_alloc]
        have hp5 : Pts W5 W4.heap.size #[.int .i64 0] 3 := by rw [← hW5]; exact Pts.new _ _ _
        have hX5 := HX4.out.still HP.out hb5 HH.out.2.1.1
        obtain ⟨cx5, e0, e1, e3, e4, e5, e6⟩ := hX5.cells
        obtain ⟨S, hS⟩ : ∃ S, max win 4096 = S := ⟨_, rfl⟩
        have hS2 : 1 ≤ S ∧ S ≤ 16777216 := by omega
        have hSi : max (win : Int) 4096 = (S : Int) := by omega
        have f1 := fun w => Fnd.max2_int (P := Tryz.prog) #[3, 3] 3 _ _ _ hSi w
        obtain ⟨mo, hmo⟩ : ∃ mo, 16777216 - out.length = mo := ⟨_, rfl⟩
        have hmo2 : out.length + mo = 16777216 := by have := HH.out.2.2.2.1; omega
        have hmi : (16777216 : Int) - (out.length : Int) = (mo : Int) := by omega
        have hmw : IntKind.i64.wrap (mo : Int) = (mo : Int) := Go.IntWalk.i64_in _ (by omega)
        rw [hS, hmo] at HEG
        have hJ5 : JB W4.heap.size w3.heap.size w.heap.size rb fb bud PUT (.func (.func 18) #[] #[]) kind out.length lv out w.heap.size J (fun q => q = W4.heap.size ∨ q = w3.heap.size ∨ q = w.heap.size ∨ q = rb ∨ own q ∨ M q) [] W5.drew := by
          have h45 := H4.out.2.2.2
          refine ⟨M, own, sb, ⟨hp5, (show Pts W5 _ _ _ from H4.out.1.below hb5 H4.out.1.lt), hX5.x, hX5.r, (H4.out.2.1.frmX (S := fun _ => False) (Frm.of_below hb5) (fun _ _ h => h)).frmX ((Frm.refl (fun _ => False) W5).drew) (fun _ _ h => h), by rw [List.append_nil]; exact HP.out.keep M _ W5 _ hX5.j ((Frm.refl (fun q => ¬ M q) W5).drew), fun q hq => ?_, fun q hq => ?_⟩, fun q => Iff.rfl⟩
          · have h1 := H4.out.2.2.1 q hq
            have hMw : ¬ M q := fun hm => by have := HLT.out.1 q hm; omega
            have := HLT.out.2.1
            exact ⟨by omega, hMw, by omega, by omega, by omega, by omega⟩
          · have h1 := HLT.out.1 q hq
            exact ⟨by omega, by omega, by omega, (HM.out q hq).1⟩
        have HX5 := Lib.hid hX5
        have HRun := run_p fb B0 S mo 57 #[.pointer (some ⟨W4.heap.size, 0, none⟩), .pointer (some ⟨w3.heap.size, 0, none⟩), .pointer (some ⟨w.heap.size, 0, none⟩)] _ _ A1 n1 k1 u1 un sr W5.drew (blk1_ok W4.heap.size w3.heap.size w.heap.size rb fb bud fput B0 w.heap.size 16777216 mo lb _ kind out.length lv out J HP.out (by omega) (by omega) HH.out.2.1.1 HX4.out.f.size (by have := H4.out.2.2.2; have := HH.out.2.1.1; omega) HH.out.2.1.1 HH.out.2.1.2.1)
          (by rw [HPUT.out]; exact hJ5) (by
            have h1 := HLT.out.2.2.1
            have h2 := H4.out.2.2.2
            rintro (e | e | e | e | e | e)
            · omega
            · omega
            · omega
            · exact Pts.ne_of HX5.out.s HX5.out.r (by decide) e
            · have := H4.out.2.2.1 _ e; omega
            · exact (HM.out _ e).2.1 rfl) HH.out.2.1.2.2 HX5.out.s H1.out.1 HX5.out.b (by have := HX5.out.f.size; have := HH.out.2.1.1; show B0 ≤ W5.heap.size; omega) H1.out.2.1 H1.out.2.2.1 H1.out.2.2.2.1 HH.out.1.2.2.2.2.1 hS2.1 hS2.2 (by clear hmw; omega)
        obtain ⟨D, hD⟩ : ∃ D, evGo S mo (sr.length + 1) newDS 0 sr = D := ⟨_, rfl⟩
        rw [hD] at HRun
        have hdp := d2E_d2P S mo sr
        rw [show d2E S mo sr = D from hD] at hdp
        have hok := evGo_ok S mo (sr.length + 1) newDS 0 sr
        rw [hD] at hok
        have hTl : (evOut D.1).length ≤ mo := by
          have := d2P_len S mo sr
          rw [hdp] at this
          exact this
        have HRR2 := Lib.hid HRun
        have HW5 := Lib.hid hW5
        have HDP := Lib.hid (And.intro hdp (And.intro hok hTl))
        have H5 : Hid (out.length + mo = 16777216 ∧ W5.heap.size = W4.heap.size + 1 ∧ W4.heap.size = w3.heap.size + 1) := Lib.hid ⟨hmo2, hs5, hs4⟩
        clear HRun hdp hok hTl hD hJ5 hX5 hb5 hp5 hS hmo hmo2 HRR HU4 hS2 hs4 hs5 hW5 d0 d1 d3 d4 d5 d6 cx4 i1
        go_wp2
        rw [HW5.out]
        go_still_tail 12, (by kernel_rfl)
        change wpList _ _ _ _ _ W5.drew
        go_wp2_with fail
        refine HRR2.out.mono ?_; rintro e w6 ⟨rfl, ⟨M6, hJ6, hM6⟩, hf6, hsrc6⟩
        obtain ⟨Mi, own6, sb6, hJX, hMiff⟩ := hJ6
        obtain ⟨T, hT⟩ : ∃ T, evOut D.1 = T := ⟨_, rfl⟩
        obtain ⟨z, hz⟩ : ∃ z, evErr D.1 = z := ⟨_, rfl⟩
        rw [hT] at hJX HDP
        rw [hz] at HDP
        rw [hz]
        have hf56 : Frm (fun q => M q ∨ q = fb ∨ q = rb) w w6 := HX5.out.f.mono (fun q _ e => .inr (.inl e)) |>.drew.transW hf6 (fun q hq hlt => by
          have h2 := H4.out.2.2.2
          rcases hq with (e | e | e | e | e | e) | e
          · have := H5.out.2; omega
          · omega
          · omega
          · exact .inr (.inr e)
          · have := H4.out.2.2.1 _ e; omega
          · exact .inl e
          · exact .inr (.inl e))
        have ho6 : OwnPr w6 100 B0 lv recs := by
          refine OwnPr.frm (S := _) (w := W5.drew) HX5.out.o hf6 (fun q hq hn => ?_)
          have h1 := HLT.out.2.2.2 q hq
          have h2 := H4.out.2.2.2
          have hty : ∀ {c : Array Value} {T' : TypeId}, Pts W5 q c T' → (100 : Nat) = T' := fun {c T'} hpp => by
            rcases HX5.out.o.2 with ⟨h3, _⟩ | ⟨g, cap, cur, h3, _, hh, _⟩
            · rw [h3] at hq; cases hq
            · rw [h3] at hq
              injection hq with hq
              subst hq
              have h9 : W5.heap[g]? = some (.cells cur 100 (0, 0)) := hh
              unfold Pts at hpp
              rw [h9] at hpp
              injection hpp with hpp
              injection hpp
          rcases hn with (e | e | e | e | e | e) | e
          · have := H5.out.2; omega
          · omega
          · omega
          · subst e; exact absurd (hty HX5.out.r) (by decide)
          · have := H4.out.2.2.1 _ e; omega
          · exact (HM.out q e).2.2 hq
          · subst e; exact absurd (hty HX5.out.s) (by decide)
        have hMi6 : ∀ q, Mi q → (M q ∨ w.heap.size ≤ q) ∧ q ≠ rb ∧ q ≠ fb ∧ lv.ownBlock ≠ some q := fun q hq => by
          have h1 := hM6 q ((hMiff q).2 (.inr (.inr (.inr (.inr (.inr hq))))))
          have h3 := hJX.m q hq
          have h4 : M q ∨ w.heap.size ≤ q := by
            have h2 := H4.out.2.2.2
            rcases h1 with (e | e | e | e | e | e) | e
            · have := H5.out.2; omega
            · omega
            · omega
            · exact absurd e h3.2.2.2
            · have := H4.out.2.2.1 _ e; omega
            · exact .inl e
            · have h9 : W5.heap.size ≤ q := e
              have := HX5.out.f.size; omega
          refine ⟨h4, h3.2.2.2, ?_, ?_⟩
          · rcases h4 with e | e
            · exact (HM.out q e).2.1
            · have := HLT.out.2.2.1; omega
          · rcases h4 with e | e
            · exact (HM.out q e).2.2
            · intro h5; have := HLT.out.2.2.2 q h5; omega
        have hown6 : ∀ q, own6 q → w.heap.size ≤ q := fun q hq => (hJX.o q hq).1
        have cx6 : w6.cell? ⟨w.heap.size, 0, none⟩ = some (.pointer (some ⟨rb, 0, none⟩)) := by rw [hJX.x.cell]; rfl
        have c56 : w6.cell? ⟨rb, 5, none⟩ = some (.int .i64 (out.length : Int)) := hJX.r.cells.2.2.2.2.2.1
        have cn6 : w6.cell? ⟨W4.heap.size, 0, none⟩ = some (.int .i64 (T.length : Int)) := by rw [hJX.n.cell]; rfl
        have z56 := Pts.frozen hJX.r 5
        have hTo : ((out.length : Int) + (T.length : Int)) = (((out ++ T).length : Nat) : Int) := by rw [List.length_append]; omega
        have hTb : (out ++ T).length ≤ 16777216 := by rw [List.length_append]; have := HDP.out.2.2; have := H5.out.1; omega
        have hTw : IntKind.i64.wrap (((out ++ T).length : Nat) : Int) = (((out ++ T).length : Nat) : Int) := Go.IntWalk.i64_in _ (by omega)
        obtain ⟨OT, hOT⟩ : ∃ OT, (out ++ T).length = OT := ⟨_, rfl⟩
        rw [hOT] at hTo hTw hTb
        have H6 : Hid (JBx W4.heap.size w3.heap.size w.heap.size rb fb bud (.func (.func fput) #[] lb) (.func (.func 18) #[] #[]) kind out.length lv out w.heap.size J Mi own6 sb6 T w6 ∧ Frm (fun q => M q ∨ q = fb ∨ q = rb) w w6 ∧ OwnPr w6 100 B0 lv recs ∧ (∀ q, Mi q → (M q ∨ w.heap.size ≤ q) ∧ q ≠ rb ∧ q ≠ fb ∧ lv.ownBlock ≠ some q) ∧ (∀ q, own6 q → w.heap.size ≤ q)) := Lib.hid ⟨hJX, hf56, ho6, hMi6, hown6⟩
        have HS6 := Lib.hid hsrc6
        have HT6 := Lib.hid (And.intro hT (And.intro hz hOT))
        clear hJX hf56 ho6 hMi6 hown6 hsrc6 hf6 hM6 hMiff hT hz hOT HRR2 HW5 cx5 e0 e1 e3 e4 e5 e6
        go_wp2
        refine QTail.wp_region_qtail_lit 8 (by kernel_rfl) (by kernel_rfl) ?_
        simp only [List.take_succ_cons, List.take_zero, List.drop_succ_cons, List.drop_zero]
        repeat (go_big_quiet_step (fail))
        refine wpQuiet_nil ?_
        rintro w' ⟨nq, rfl⟩
        obtain ⟨W7, hW7⟩ : ∃ W, (w6.drewN nq).setCell ⟨rb, 5, none⟩ (.int .i64 (OT : Int)) = W := ⟨_, rfl⟩
        have hf67 : Frm (fun q => q = rb) w6 W7 := by rw [← hW7]; exact ((Frm.refl (fun q => q = rb) w6).drewN nq).setCell (p := ⟨rb, 5, none⟩) rfl _
        have hX7 : XC rb fb w.heap.size bud B0 W4.heap.size w3.heap.size PUT (.func (.func 18) #[] #[]) kind lv recs J M out w Mi own6 sb6 T W7 := by
          obtain ⟨hJX, hf56, ho6, hMi6, hown6⟩ := H6.out
          obtain ⟨k1, k2, k3, k4, k5, k6⟩ := hJX.ne
          refine ⟨hJX.n.frm hf67 k3, hJX.s.frm hf67 k5, hJX.x.frm hf67 k6, ?_, hJX.u.frmX hf67 (fun q hq e => (hJX.o q hq).2.2.2.2.2 e), ho6.frm hf67 (fun q hq e => ?_), HP.out.keep Mi _ w6 W7 hJX.j (hf67.mono fun q _ e hm => (hMi6 q hm).2.1 e), hf56.trans (hf67.mono fun q _ e => .inr (.inr e)), hMi6, hown6⟩
          · rw [← hW7, HT6.out.2.2, ← HPUT.out]
            exact Pts.set (Pts.drewN hJX.r nq) 5 (.int .i64 (OT : Int))
          · rcases ho6.2 with ⟨h3, _⟩ | ⟨g, cap, cur, h3, _, hh, _⟩
            · rw [h3] at hq; cases hq
            · rw [h3] at hq
              injection hq with hq
              exact Pts.ne_of (show Pts w6 g cur _ from hh) hJX.r (by decide) (hq.trans e)
        have hsrc7 : ∃ A n c used, SrcAt W7 fb A n c used ∧ used ≤ un := by
          have h6 := HS6.out
          have hfr : ∀ A n c used, SrcAt w6 fb A n c used → SrcAt W7 fb A n c used := fun A n c used h => Pts.frm h hf67 (fun e => Pts.ne_of h H6.out.1.r (by decide) e)
          cases hD2 : D.2 with
          | none => rw [hD2] at h6; obtain ⟨A, n, c, used, h, hu⟩ := h6; exact ⟨A, n, c, used, hfr _ _ _ _ h, hu⟩
          | some r => rw [hD2] at h6; obtain ⟨A, n, c, used, h, hu, _⟩ := h6; exact ⟨A, n, c, used, hfr _ _ _ _ h, by omega⟩
        obtain ⟨A7, n7, k7, u7, hs7, hu7⟩ := hsrc7
        have hD7 : ∀ r, D.2 = some r → u7 + n7 = un ∧ BRow W7 B0 A7 r ∧ n7 = r.length ∧ n7 ≤ k7 ∧ k7 ≤ maxLen := fun r hr => by
          have h6 := HS6.out
          rw [hr] at h6
          obtain ⟨A, n, c, used, h, h1, h2, h3, h4, h5⟩ := h6
          have h9 : SrcAt W7 fb A n c used := Pts.frm h hf67 (fun e => Pts.ne_of h H6.out.1.r (by decide) e)
          have h10 := h9.symm.trans hs7
          simp only [Option.some.injEq, Obj.cells.injEq, Array.mk.injEq, List.cons.injEq, Value.slice.injEq, Value.int.injEq, and_true, true_and] at h10
          obtain ⟨⟨rfl, rfl, rfl⟩, h11⟩ := h10
          obtain rfl : used = u7 := by omega
          exact ⟨h1, h2.below (hf67.below (by have := H6.out.2.1.size; have := HH.out.2.1.1; omega) (fun q hq => by have := HH.out.2.1.2.1; omega)), h3, h4, h5⟩
        obtain ⟨cn7, csc7, cx7, c07, c57, c67, z67⟩ := hX7.cells
        have hU7 := Lib.hid (used_p fb A7 n7 k7 u7 W7 hs7)
        have H7 := Lib.hid (And.intro hX7 (And.intro hs7 (And.intro hu7 hD7)))
        have hu1 : u1 ≤ 4611686018427387904 := by have := H1.out.2.2.2.1; have := HH.out.1.2.2.2.2.1; omega
        have hu7b : u7 ≤ 4611686018427387904 := by have := HH.out.1.2.2.2.2.1; omega
        have hdw : IntKind.i64.wrap ((u7 : Int) - (u1 : Int)) = (u7 : Int) - (u1 : Int) := Go.IntWalk.i64_in _ (by omega)
        clear hf67 hX7 hs7 hu7 hD7 HS6 H6
        go_wp2_with fail
        refine hU7.out.mono ?_; rintro e w8 ⟨rfl, rfl⟩
        clear hW7 hU7 cx6 c56 cn6 z56
        by_cases hz : z = 0
        · subst hz
          obtain ⟨r, hr⟩ : ∃ r, D.2 = some r := by
            rcases HDP.out.2.1 with ⟨l, b, e, h1, h2, h3, h4, h5⟩ | ⟨⟨r, h1⟩, h2⟩
            · have h6 := HT6.out.2.1
              rw [h1, h3] at h6
              exact absurd ((evErr_snoc h5 h2).symm.trans h6) h2
            · exact ⟨r, h1⟩
          have hdr := HDP.out.1
          rw [hr] at hdr
          obtain ⟨pf, hpf, hp1, -⟩ := d2P_front hdr
          have hrl : r.length + pf.length = sr.length := by rw [hpf, List.length_append]; omega
          obtain ⟨h71, h72, h73, h74, h75⟩ := H7.out.2.2.2 r hr
          obtain ⟨uu, huu⟩ : ∃ uu, sr.length - r.length = uu := ⟨_, rfl⟩
          have hdu : (u7 : Int) - (u1 : Int) = (uu : Int) := by have := H1.out.1; have := H1.out.2.2.2.1; omega
          have huw : IntKind.i64.wrap (uu : Int) = (uu : Int) := Go.IntWalk.i64_in _ (by omega)
          have huu2 : uu ≤ 1000000000 := by have := HHS.out.2.2.2.2; have := HH.out.1.1; have := HH.out.1.2.2.2.2.2.1; omega
          have huw2 : IntKind.u64.wrap (uu : Int) = (uu : Int) := Go.IntWalk.u64_in _ (by omega)
          have htw2 : IntKind.u64.wrap (T.length : Int) = (T.length : Int) := Go.IntWalk.u64_in _ (by omega)
          have HEH : Hid (E = xTail ((win : Int), n', pk, wl, ((0 : Nat) : Int)) kind hl0 uu T r) := Lib.hid (by rw [HEG.out, hdr, ← huu])
          have H8 : Hid (u7 + n7 = un ∧ BRow W7 B0 A7 r ∧ n7 = r.length ∧ n7 ≤ k7 ∧ k7 ≤ maxLen ∧ uu ≤ 1000000000 ∧ r.length ≤ 1000000000) := Lib.hid ⟨h71, h72, h73, h74, h75, huu2, by have := HHS.out.2.2.2.2; have := HH.out.1.1; have := HH.out.1.2.2.2.2.2.1; omega⟩
          clear hr hdr hpf hp1 hrl h71 h72 h73 h74 h75 huu hdw HDP HEG
          obtain ⟨tl, htl⟩ : ∃ tl, T.length = tl := ⟨_, rfl⟩
          have HTL := Lib.hid htl
          rw [htl] at cn7 htw2 hTo
          rw [show ((0 : Nat) : Int) = 0 from rfl, htl]
          clear htl
          dsimp only
          iterate 60 (first | (with_reducible show Code.wp _ (Code.block 1 _) _ _ _) | go_values | go_guarded | go_step | go_upon | go_at_K | skip)
          go_cut [] from 109 to 130 (fun wx => wx = W7 ∧ ((pk = 18446744073709551615 ∨ pk = uu) ∧ (wl = 18446744073709551615 ∨ wl = tl)))
          case first =>
            have hbad : ∀ (hb : (pk ≠ M64' ∧ pk ≠ uu) ∨ (wl ≠ M64' ∧ wl ≠ T.length)), E = .err 11 T := fun hb => by
              rw [HEH.out]
              unfold xTail
              rw [if_pos hb]
            have HBAD := Lib.hid hbad
            clear hbad
            by_cases hp1 : pk = 18446744073709551615
            · have p1 : ((pk : Int) != 18446744073709551615) = false := by rw [hp1]; rfl
              have HP1 := Lib.hid hp1
              clear hp1
              by_cases hw1 : wl = 18446744073709551615
              · have p2 : ((wl : Int) != 18446744073709551615) = false := by rw [hw1]; rfl
                have HW1 := Lib.hid hw1
                clear hw1
                go_wp2
                go_meet
                case rel => exact ⟨rfl, .inl HP1.out, .inl HW1.out⟩
              · have p2 : ((wl : Int) != 18446744073709551615) = true := bne_iff_ne.2 (by omega)
                by_cases hw2 : wl = tl
                · have p3 : ((wl : Int) != (tl : Int)) = false := by rw [hw2]; simp
                  have HW2 := Lib.hid hw2
                  clear hw1 hw2
                  go_wp2
                  go_meet
                  case rel => exact ⟨rfl, .inl HP1.out, .inr HW2.out⟩
                · have p3 : ((wl : Int) != (tl : Int)) = true := bne_iff_ne.2 (by omega)
                  have HEF := Lib.hid (HBAD.out (.inr ⟨hw1, by rw [HTL.out]; exact hw2⟩))
                  clear hw1 hw2
                  go_wp2
                  refine hold_leave (v := .int .i64 11) (by simp [results, Tryz.results31, go_sem]) ?_
                  exact xblock_err2 HEF.out (by decide) H7.out.1
            · have p1 : ((pk : Int) != 18446744073709551615) = true := bne_iff_ne.2 (by omega)
              by_cases hp2 : pk = uu
              · have p4 : ((pk : Int) != (uu : Int)) = false := by rw [hp2]; simp
                have HP1 := Lib.hid hp2
                clear hp1 hp2
                by_cases hw1 : wl = 18446744073709551615
                · have p2 : ((wl : Int) != 18446744073709551615) = false := by rw [hw1]; rfl
                  have HW1 := Lib.hid hw1
                  clear hw1
                  go_wp2
                  go_meet
                  case rel => exact ⟨rfl, .inr HP1.out, .inl HW1.out⟩
                · have p2 : ((wl : Int) != 18446744073709551615) = true := bne_iff_ne.2 (by omega)
                  by_cases hw2 : wl = tl
                  · have p3 : ((wl : Int) != (tl : Int)) = false := by rw [hw2]; simp
                    have HW2 := Lib.hid hw2
                    clear hw1 hw2
                    go_wp2
                    go_meet
                    case rel => exact ⟨rfl, .inr HP1.out, .inr HW2.out⟩
                  · have p3 : ((wl : Int) != (tl : Int)) = true := bne_iff_ne.2 (by omega)
                    have HEF := Lib.hid (HBAD.out (.inr ⟨hw1, by rw [HTL.out]; exact hw2⟩))
                    clear hw1 hw2
                    go_wp2
                    refine hold_leave (v := .int .i64 11) (by simp [results, Tryz.results31, go_sem]) ?_
                    exact xblock_err2 HEF.out (by decide) H7.out.1
              · have p4 : ((pk : Int) != (uu : Int)) = true := bne_iff_ne.2 (by omega)
                have HEF := Lib.hid (HBAD.out (.inl ⟨hp1, hp2⟩))
                clear hp1 hp2
                go_wp2
                refine hold_leave (v := .int .i64 11) (by simp [results, Tryz.results31, go_sem]) ?_
                exact xblock_err2 HEF.out (by decide) H7.out.1
          case rest =>
            obtain ⟨rfl, hpk, hwl⟩ := hcut
            obtain ⟨pad, hpad⟩ : ∃ pad, padOf (hl0 + uu) = pad := ⟨_, rfl⟩
            obtain ⟨sz, hsz⟩ : ∃ sz, chkN kind = sz := ⟨_, rfl⟩
            have hszl : chkLen kind = sz := by rw [← chkN_len]; exact hsz
            have hsz8 : sz ≤ 8 := by rw [← hszl]; exact chkLen_le kind
            have hpad4 : pad < 4 := by rw [← hpad]; unfold padOf; omega
            have hEI : E = if r.length < pad + sz then .err 10 T else if r.take pad ≠ List.replicate pad 0 ∨ (r.drop pad).take sz ≠ chkB kind T then .err 11 T else .ok T (hl0 + uu + sz, T.length) (r.drop (pad + sz)) := by
              rw [HEH.out]
              unfold xTail
              rw [if_neg, hpad, hszl]
              simp only
              have h9 := HTL.out
              rintro (⟨e1, e2⟩ | ⟨e1, e2⟩)
              · rcases hpk with e | e
                · exact e1 e
                · exact e2 e
              · rcases hwl with e | e
                · exact e1 e
                · exact e2 (by omega)
            have hHU : (hl0 : Int) + (uu : Int) = ((hl0 + uu : Nat) : Int) := by omega
            obtain ⟨HU, hHU2⟩ : ∃ HU, hl0 + uu = HU := ⟨_, rfl⟩
            rw [hHU2] at hHU hpad
            have hHUb : HU ≤ 1000002000 := by have := H8.out.2.2.2.2.2.1; omega
            have hw1 : IntKind.i64.wrap (HU : Int) = (HU : Int) := Go.IntWalk.i64_in _ (by omega)
            have hw2 : IntKind.i64.wrap (-(HU : Int)) = -(HU : Int) := Go.IntWalk.i64_in _ (by omega)
            have hw3 : bits .and .i64 (-(HU : Int)) 3 = (pad : Int) := by rw [i64_and3, ← hpad]; unfold padOf; omega
            obtain ⟨q, hq⟩ : ∃ q, pad + sz = q := ⟨_, rfl⟩
            have hq2 : (pad : Int) + (sz : Int) = (q : Int) := by omega
            have hqw : IntKind.i64.wrap (q : Int) = (q : Int) := Go.IntWalk.i64_in _ (by omega)
            rw [hq] at hEI
            have HEI := Lib.hid hEI
            have HQ := Lib.hid (And.intro hq (And.intro hsz (And.intro hszl (And.intro hpad hHU2))))
            rw [hsz]
            have hn7r := H8.out.2.2.1
            clear hEI hpk hwl HEH hq hszl hpad hHU2 hsz
            by_cases hsh : n7 < q
            · have HEF : Hid (E = .err 10 T) := Lib.hid (by rw [HEI.out, if_pos (by omega)])
              have HTN := Lib.hid (rtake_no rb fb bud PUT _ kind _ lv A7 n7 k7 u7 q _ H7.out.1.r H7.out.2.1 hsh)
              clear hsh hn7r
              go_wp2_with fail
              refine HTN.out.mono ?_; rintro e w9 ⟨rfl, rfl⟩
              go_wp2
              refine hold_leave (v := .int .i64 10) (by simp [results, Tryz.results31, go_sem]) ?_
              exact xblock_err2 HEF.out (by decide) H7.out.1
            · have HEJ : Hid (E = if r.take pad ≠ List.replicate pad 0 ∨ (r.drop pad).take sz ≠ chkB kind T then .err 11 T else .ok T (hl0 + uu + sz, T.length) (r.drop q)) := Lib.hid (by rw [HEI.out, if_neg (by omega)])
              have HTP := Lib.hid (rtake_p rb fb bud PUT _ kind _ lv A7 n7 k7 u7 q _ H7.out.1.r H7.out.2.1 H8.out.2.2.2.1 (by omega) (by have := H8.out.1; have := HH.out.1.2.2.2.2.1; omega))
              have HQN := Lib.hid (show q ≤ n7 by omega)
              clear hsh hn7r HEI
              go_wp2_with fail
              refine HTP.out.mono ?_; rintro e w9 ⟨rfl, hs9, hf9⟩
              have hX9 := H7.out.1.takes HP.out H7.out.2.1 HLT.out.2.2.1 hf9
              have hB9 : B0 ≤ w9.heap.size := Nat.le_trans HH.out.2.1.1 hX9.f.size
              have hr9 : BRow w9 B0 A7 r := H8.out.2.1.below (hf9.below (Nat.le_trans HH.out.2.1.1 H7.out.1.f.size) (fun q hq => by have := HH.out.2.1.2.2; omega))
              have hrt : BRow w9 B0 A7 (r.take pad) := hr9.take pad
              have hrd : BRow w9 B0 (takeA A7 k7 q) (r.drop q) := hr9.drop (by have := H8.out.2.2.1; have := H8.out.2.2.2.1; omega)
              have hpq : pad + sz = q := HQ.out.1
              have hrlen : q ≤ r.length := by have := HQN.out; have := H8.out.2.2.1; omega
              have hr8 : BRow w9 B0 (takeA A7 q pad) ((r.drop pad).take sz) := by
                have h8 := (hr9.take q).drop (k := pad) (cap := q) (by rw [List.length_take]; omega)
                rw [List.drop_take, show q - pad = sz by omega] at h8
                exact h8
              obtain ⟨A8, hA8⟩ : ∃ A8, takeA A7 q pad = A8 := ⟨_, rfl⟩
              rw [hA8] at hr8
              have hsl1 : ∀ w, (Instr.sliceAt 22 (.slice A7 q q) none (some (.int .i64 (pad : Int))) none).run Tryz.prog w = .ok (.slice A7 pad q) w := fun w => slice_toX A7 q q pad (by omega) (Nat.le_refl _) w
              have hsl2 : ∀ w, (Instr.sliceAt 22 (.slice A7 q q) (some (.int .i64 (pad : Int))) none none).run Tryz.prog w = .ok (.slice A8 sz sz) w := fun w => by
                have h8 := slice_fromX A7 q q pad (by omega) (Nat.le_refl _) w
                rw [show q - pad = sz by omega] at h8
                rw [← hA8]
                exact h8
              obtain ⟨P1, hP1⟩ : ∃ P1, r.take pad = P1 := ⟨_, rfl⟩
              obtain ⟨P2, hP2⟩ : ∃ P2, (r.drop pad).take sz = P2 := ⟨_, rfl⟩
              have hl1 : P1.length = pad := by rw [← hP1, List.length_take]; omega
              have hl2 : P2.length = sz := by rw [← hP2, List.length_take, List.length_drop]; omega
              obtain ⟨X, hX, hXb, hXc⟩ := chk_sum kind T
              rw [HQ.out.2.2.1] at hXc
              rw [hP1, hP2, hXc] at HEJ
              rw [hP1] at hrt
              rw [hP2] at hr8
              obtain ⟨W10, hW10⟩ : ∃ W, w9.alloc (.cells #[.int .u8 0, .int .u8 0, .int .u8 0, .int .u8 0, .int .u8 0, .int .u8 0, .int .u8 0, .int .u8 0] 99) = W := ⟨_, rfl⟩
              have hb10 : Below w9.heap.size w9 W10 := by rw [← hW10]; exact (Below.refl _ w9).alloc (Nat.le_refl _) _
              have hp10 : Pts W10 w9.heap.size (wcells []) 99 := by rw [← hW10, wcells_nil]; exact Pts.new _ _ _
              have hX10 := hX9.still HP.out hb10
              have hV := value_any sb6 own6 (chkK kind) T W10 hX10.u (by have := HTL.out; have := hTb; omega)
              rw [hX] at hV
              have HV := Lib.hid hV
              have hs10 : SrcAt W10 fb (takeA A7 k7 q) (n7 - q) (k7 - q) (u7 + q) := Pts.below hs9 hb10 (Pts.lt hs9)
              have hwz : w.heap.size ≤ w9.heap.size := hX9.f.size
              have H10 : Hid (XC rb fb w.heap.size bud B0 W4.heap.size w3.heap.size PUT (.func (.func 18) #[] #[]) kind lv recs J M out w Mi own6 sb6 T W10 ∧ Pts W10 w9.heap.size (wcells []) 99 ∧ SrcAt W10 fb (takeA A7 k7 q) (n7 - q) (k7 - q) (u7 + q) ∧ BRow W10 B0 A7 P1 ∧ BRow W10 B0 A8 P2 ∧ BRow W10 B0 (takeA A7 k7 q) (r.drop q)) := Lib.hid ⟨hX10, hp10, hs10, hrt.below (hb10.mono hB9), hr8.below (hb10.mono hB9), hrd.below (hb10.mono hB9)⟩
              have HL := Lib.hid (And.intro hl1 (And.intro hl2 (And.intro hXb (And.intro hrlen (And.intro hB9 hwz)))))
              have H9 : Hid (XC rb fb w.heap.size bud B0 W4.heap.size w3.heap.size PUT (.func (.func 18) #[] #[]) kind lv recs J M out w Mi own6 sb6 T w9 ∧ SrcAt w9 fb (takeA A7 k7 q) (n7 - q) (k7 - q) (u7 + q) ∧ BRow w9 B0 A7 P1 ∧ BRow w9 B0 A8 P2 ∧ BRow w9 B0 (takeA A7 k7 q) (r.drop q) ∧ Below w9.heap.size w9 W10) := Lib.hid ⟨hX9, hs9, hrt, hr8, hrd, hb10⟩
              obtain ⟨cn10, csc10, cx10, c010, c510, c610, z610⟩ := hX10.cells
              have mV := meth_sV
              clear hs9 hf9 hX9 hB9 hr9 hrt hrd hrlen hr8 hA8 hP1 hP2 hl1 hl2 hX hXb hXc hb10 hp10 hX10 hV hs10 hwz HTP cn7 csc7 cx7 c07 c57 c67 z67
              go_wp2_with fail
              refine HV.out.mono ?_; rintro e w11 ⟨rfl, d, rfl⟩
              go_wp2
              go_loopw [20, 21] (fun iv xv wr => ∃ i Y : Nat, iv = .int .i64 (i : Int) ∧ xv = .int .u64 (Y : Int) ∧ i ≤ sz ∧ Y = X / 256 ^ i ∧ Pts wr w9.heap.size (wcells (leB X i)) 99 ∧ Frm (· = w9.heap.size) W10 wr) (fun iv _ _ => sz - (intOf iv).toNat)
              case atStart => exact ⟨0, X, rfl, rfl, Nat.zero_le _, by simp, H10.out.2.1.drewN d, (Frm.refl _ W10).drewN d⟩
              case round =>
                obtain ⟨i, Y, rfl, rfl, hi, hY, hpw, hfw⟩ := hrel
                have HPW := Lib.hid hpw
                have HFW := Lib.hid hfw
                have HY := Lib.hid hY
                have hYb : Y < 18446744073709551616 := by rw [hY]; exact Nat.lt_of_le_of_lt (Nat.div_le_self _ _) HL.out.2.2.1
                clear hpw hfw hY HV cn10 csc10 cx10 c010 c510 c610 z610
                by_cases his : i < sz
                · have hll : (leB X i).length = i := leB_len i X
                  have hcl := HPW.out.cell i
                  have hzl := HPW.out.frozen i
                  have hci : ∃ v, (wcells (leB X i))[i]? = some v := by
                    have hsz : (wcells (leB X i)).size = 8 := by simp [wcells, hll]; omega
                    exact ⟨_, Array.getElem?_eq_getElem (by rw [hsz]; omega)⟩
                  obtain ⟨v0, hv0⟩ := hci
                  rw [hv0] at hcl
                  obtain ⟨y, hy⟩ : ∃ y, UInt8.ofNat Y = y := ⟨_, rfl⟩
                  have hw8 := u8_wrap_nat Y
                  rw [hy] at hw8
                  obtain ⟨yn, hyn⟩ : ∃ yn, y.toNat = yn := ⟨_, rfl⟩
                  have hnew : Pts (wr.setCell ⟨w9.heap.size, i, none⟩ (.int .u8 (yn : Int))) w9.heap.size (wcells (leB X (i + 1))) 99 ∧ Frm (· = w9.heap.size) W10 (wr.setCell ⟨w9.heap.size, i, none⟩ (.int .u8 (yn : Int))) := by
                    refine ⟨?_, HFW.out.setCell (p := ⟨w9.heap.size, i, none⟩) rfl _⟩
                    have h1 := wcells_set (leB X i) y (by omega)
                    rw [hll] at h1
                    rw [leB_snoc, ← HY.out, hy, ← h1, ← hyn]
                    exact HPW.out.set i _
                  rw [hyn] at hw8
                  have HNEW := Lib.hid hnew
                  have hYd : ((Y : Int) / 256) = ((Y / 256 : Nat) : Int) := by omega
                  have hYn : Y / 256 = X / 256 ^ (i + 1) := by rw [HY.out, Nat.div_div_eq_div_mul, Nat.pow_succ]
                  have HYN := Lib.hid hYn
                  obtain ⟨Y2, hY2⟩ : ∃ Y2, Y / 256 = Y2 := ⟨_, rfl⟩
                  rw [hY2] at hYd HYN
                  have his8 : (i : Int) < 8 := by omega
                  clear hnew hll hv0 hy hyn hYn hY2
                  go_wp2
                  exact ⟨⟨i + 1, Y2, by go_num, rfl, by omega, HYN.out, HNEW.out⟩, by simp [intOf]; omega⟩
                · obtain rfl : i = sz := by omega
                  clear his hi hYb
                  have hbw : Below w9.heap.size w9 wr := H9.out.2.2.2.2.2.trans (HFW.out.below H9.out.2.2.2.2.2.size (fun k hk => by omega))
                  have hXr := H9.out.1.still HP.out hbw
                  have hsr := Pts.below H9.out.2.1 hbw (Pts.lt H9.out.2.1)
                  have hBr : B0 ≤ wr.heap.size := Nat.le_trans HL.out.2.2.2.2.1 hbw.size
                  have hrw : BRow wr wr.heap.size (some ⟨w9.heap.size, 0, none⟩) (leB X i) := wcells_row HPW.out (by rw [leB_len]; exact hsz8)
                  obtain ⟨Wa, hWa⟩ : ∃ W, wr.drew.alloc (.cells (madeCells #[.int .u8 0] pad) 5) = W := ⟨_, rfl⟩
                  have hba : Below wr.heap.size wr Wa := by rw [← hWa]; exact ((Below.refl _ wr).drew).alloc (Nat.le_refl _) _
                  have hza : BRow Wa Wa.heap.size (some ⟨wr.heap.size, 0, none⟩) (List.replicate pad 0) := by rw [← hWa]; exact noughts_row pad wr.drew
                  have hmk := made_bytes pad (by omega)
                  have hEQ := equal_p A7 (some ⟨wr.heap.size, 0, none⟩) P1 (List.replicate pad 0) pad q pad pad Wa.heap.size Wa HL.out.1.symm (((H9.out.2.2.1.below (hbw.mono HL.out.2.2.2.2.1)).below (hba.mono hBr)).more (Nat.le_trans hBr hba.size)) (by simp) hza
                  have hE2 := equal_p A8 (some ⟨w9.heap.size, 0, none⟩) P2 (leB X i) i i i 8 Wa.heap.size Wa HL.out.2.1.symm (((H9.out.2.2.2.1.below (hbw.mono HL.out.2.2.2.2.1)).below (hba.mono hBr)).more (Nat.le_trans hBr hba.size)) (leB_len _ _).symm ((hrw.below hba).more hba.size)
                  have hsl3 : ∀ w, (Instr.sliceAt 99 (.pointer (some ⟨w9.heap.size, 0, none⟩)) none (some (.int .i64 (i : Int))) none).run Tryz.prog w = .ok (.slice (some ⟨w9.heap.size, 0, none⟩) i 8) w := fun w => slice_arr8 w9.heap.size i hsz8 w
                  obtain ⟨b1, hb1⟩ : ∃ b, (P1 == List.replicate pad 0) = b := ⟨_, rfl⟩
                  obtain ⟨b2, hb2⟩ : ∃ b, (P2 == leB X i) = b := ⟨_, rfl⟩
                  rw [hb1] at hEQ
                  rw [hb2] at hE2
                  have HEQ := Lib.hid hEQ
                  have HE2 := Lib.hid hE2
                  have HB1 := Lib.hid (And.intro hb1 hb2)
                  have HWR := Lib.hid (And.intro hXr (And.intro hsr (And.intro hBr (And.intro hbw hba))))
                  clear hbw hXr hsr hBr hrw hba hza hEQ hE2 hb1 hb2 HPW HFW HY
                  have hii : (0 : Int) ≤ (i : Int) ∧ (i : Int) ≤ 8 := by omega
                  cases b1 with
                  | false =>
                    have HEF : Hid (E = .err 11 T) := Lib.hid (by rw [HEJ.out, if_pos (.inl (by simpa using HB1.out.1))])
                    go_wp2
                    refine wp_region_noPanic ?_
                    refine wp_region_any (by kernel_rfl) ?_
                    change wpAny _ _ _ _ _ _ _ (World.drew _)
                    refine wpAny_take (i := 0) rfl (by kernel_rfl) (by kernel_rfl) (by kernel_rfl) (fun _ _ _ h => h) (Or.inl ⟨by rfl, by (intro w; go_simp; try with_reducible rfl)⟩) ?_
                    try go_simp
                    refine wpAny_take (i := 1) rfl (by kernel_rfl) (by kernel_rfl) (by kernel_rfl) (fun _ _ _ h => h) (Or.inl ⟨by rfl, by (intro w; go_simp; try with_reducible rfl)⟩) ?_
                    go_simp
                    refine wpAny_take (i := 2) rfl (by kernel_rfl) (by kernel_rfl) (by kernel_rfl) (fun _ _ _ h => h) (Or.inl ⟨by rfl, by (intro w; go_simp; try with_reducible rfl)⟩) ?_
                    try go_simp
                    refine wpAny_take (i := 3) rfl (by kernel_rfl) (by kernel_rfl) (by kernel_rfl) (fun _ _ _ h => h) (Or.inl ⟨by rfl, by (intro w; go_simp; try with_reducible rfl)⟩) ?_
                    go_simp
                    refine wpAny_ready (rs := [4]) (by kernel_rfl) (by simp) ?_
                    refine AllReady.cons rfl (fun K hK => ?_) AllReady.nil
                    go_simp
                    refine hK _ _ ?_; clear hK K
                    refine wpAny_ready (rs := [5]) (by kernel_rfl) (by simp) ?_
                    refine AllReady.cons rfl (fun K hK => ?_) AllReady.nil
                    go_simp
                    go_wp2_with (go_at_call 35; refine HEQ.out.mono ?_; rintro e w11 ⟨rfl, rfl⟩)
                    refine wpAny_take (i := 6) rfl (by kernel_rfl) (by kernel_rfl) (by kernel_rfl) (fun _ _ _ h => h) (Or.inl ⟨by rfl, by (intro w; go_simp; try with_reducible rfl)⟩) ?_
                    try go_simp
                    refine wpAny_take (i := 7) rfl (by kernel_rfl) (by kernel_rfl) (by kernel_rfl) (fun _ _ _ h => h) (Or.inl ⟨by rfl, by (intro w; go_simp; try with_reducible rfl)⟩) ?_
                    go_simp
                    refine wpAny_take (i := 8) rfl (by kernel_rfl) (by kernel_rfl) (by kernel_rfl) (fun _ _ _ h => h) (Or.inr ⟨by rfl, rfl⟩) ?_
                    try go_simp
                    refine wpAny_take (i := 9) rfl (by kernel_rfl) (by kernel_rfl) (by kernel_rfl) (fun _ _ _ h => h) (Or.inr ⟨by rfl, rfl⟩) ?_
                    go_simp
                    refine wpAny_take (i := 10) rfl (by kernel_rfl) (by kernel_rfl) (by kernel_rfl) (fun _ _ _ h => h) (Or.inr ⟨by rfl, rfl⟩) ?_
                    try go_simp
                    refine wpAny_take (i := 11) rfl (by kernel_rfl) (by kernel_rfl) (by kernel_rfl) (fun _ _ _ h => h) (Or.inr ⟨by rfl, rfl⟩) ?_
                    go_simp
                    refine wpAny_take (i := 12) rfl (by kernel_rfl) (by kernel_rfl) (by kernel_rfl) (fun _ _ _ h => h) (Or.inr ⟨by rfl, rfl⟩) ?_
                    try go_simp
                    refine wpAny_take (i := 13) rfl (by kernel_rfl) (by kernel_rfl) (by kernel_rfl) (fun _ _ _ h => h) (Or.inr ⟨by rfl, rfl⟩) ?_
                    go_simp
                    refine wpAny_take (i := 14) rfl (by kernel_rfl) (by kernel_rfl) (by kernel_rfl) (fun _ _ _ h => h) (Or.inr ⟨by rfl, rfl⟩) ?_
                    try go_simp
                    refine wpAny_take (i := 15) rfl (by kernel_rfl) (by kernel_rfl) (by kernel_rfl) (fun _ _ _ h => h) (Or.inl ⟨by rfl, by (intro w; go_simp; try with_reducible rfl)⟩) ?_
                    go_simp
                    refine wpAny_done (by kernel_rfl) ?_ _
                    refine NoPanic.normal ?_
                    go_wp2
                    refine hold_leave (v := .int .i64 11) (by simp [results, Tryz.results31, go_sem]) ?_
                    exact xblock_err2 HEF.out (by decide) (HWR.out.1.still HP.out HWR.out.2.2.2.2)
                  | true =>
                    go_wp2
                    refine wp_region_noPanic ?_
                    refine wp_region_any (by kernel_rfl) ?_
                    change wpAny _ _ _ _ _ _ _ (World.drew _)
                    refine wpAny_take (i := 0) rfl (by kernel_rfl) (by kernel_rfl) (by kernel_rfl) (fun _ _ _ h => h) (Or.inl ⟨by rfl, by (intro w; go_simp; try with_reducible rfl)⟩) ?_
                    try go_simp
                    refine wpAny_take (i := 1) rfl (by kernel_rfl) (by kernel_rfl) (by kernel_rfl) (fun _ _ _ h => h) (Or.inl ⟨by rfl, by (intro w; go_simp; try with_reducible rfl)⟩) ?_
                    go_simp
                    refine wpAny_take (i := 2) rfl (by kernel_rfl) (by kernel_rfl) (by kernel_rfl) (fun _ _ _ h => h) (Or.inl ⟨by rfl, by (intro w; go_simp; try with_reducible rfl)⟩) ?_
                    try go_simp
                    refine wpAny_take (i := 3) rfl (by kernel_rfl) (by kernel_rfl) (by kernel_rfl) (fun _ _ _ h => h) (Or.inl ⟨by rfl, by (intro w; go_simp; try with_reducible rfl)⟩) ?_
                    go_simp
                    refine wpAny_ready (rs := [4]) (by kernel_rfl) (by simp) ?_
                    refine AllReady.cons rfl (fun K hK => ?_) AllReady.nil
                    go_simp
                    refine hK _ _ ?_; clear hK K
                    refine wpAny_ready (rs := [5]) (by kernel_rfl) (by simp) ?_
                    refine AllReady.cons rfl (fun K hK => ?_) AllReady.nil
                    go_simp
                    go_wp2_with (go_at_call 35; refine HEQ.out.mono ?_; rintro e w11 ⟨rfl, rfl⟩)
                    refine wpAny_take (i := 6) rfl (by kernel_rfl) (by kernel_rfl) (by kernel_rfl) (fun _ _ _ h => h) (Or.inl ⟨by rfl, by (intro w; go_simp; try with_reducible rfl)⟩) ?_
                    try go_simp
                    refine wpAny_take (i := 7) rfl (by kernel_rfl) (by kernel_rfl) (by kernel_rfl) (fun _ _ _ h => h) (Or.inl ⟨by rfl, by (intro w; go_simp; try with_reducible rfl)⟩) ?_
                    go_simp
                    refine wpAny_take (i := 8) rfl (by kernel_rfl) (by kernel_rfl) (by kernel_rfl) (fun _ _ _ h => h) (Or.inl ⟨by rfl, by (intro w; go_simp; try with_reducible rfl)⟩) ?_
                    try go_simp
                    refine wpAny_take (i := 9) rfl (by kernel_rfl) (by kernel_rfl) (by kernel_rfl) (fun _ _ _ h => h) (Or.inl ⟨by rfl, by (intro w; go_simp; try with_reducible rfl)⟩) ?_
                    go_simp
                    refine wpAny_take (i := 10) rfl (by kernel_rfl) (by kernel_rfl) (by kernel_rfl) (fun _ _ _ h => h) (Or.inl ⟨by rfl, by (intro w; go_simp; try with_reducible rfl)⟩) ?_
                    try go_simp
                    refine wpAny_take (i := 11) rfl (by kernel_rfl) (by kernel_rfl) (by kernel_rfl) (fun _ _ _ h => h) (Or.inl ⟨by rfl, by (intro w; go_simp; try with_reducible rfl)⟩) ?_
                    go_simp
                    refine wpAny_take (i := 12) rfl (by kernel_rfl) (by kernel_rfl) (by kernel_rfl) (fun _ _ _ h => h) (Or.inl ⟨by rfl, by (intro w; go_simp; try with_reducible rfl)⟩) ?_
                    try go_simp
                    refine wpAny_ready (rs := [13]) (by kernel_rfl) (by simp) ?_
                    refine AllReady.cons rfl (fun K hK => ?_) AllReady.nil
                    go_simp
                    go_wp2_with (go_at_call 35; refine HE2.out.mono ?_; rintro e w13 ⟨rfl, rfl⟩)
                    refine wpAny_take (i := 14) rfl (by kernel_rfl) (by kernel_rfl) (by kernel_rfl) (fun _ _ _ h => h) (Or.inl ⟨by rfl, by (intro w; go_simp; try with_reducible rfl)⟩) ?_
                    try go_simp
                    refine wpAny_take (i := 15) rfl (by kernel_rfl) (by kernel_rfl) (by kernel_rfl) (fun _ _ _ h => h) (Or.inl ⟨by rfl, by (intro w; go_simp; try with_reducible rfl)⟩) ?_
                    go_simp
                    refine wpAny_done (by kernel_rfl) ?_ _
                    refine NoPanic.normal ?_
                    have hXa := HWR.out.1.still HP.out HWR.out.2.2.2.2
                    have HXA := Lib.hid hXa
                    cases b2 with
                    | false =>
                      have HEF : Hid (E = .err 11 T) := Lib.hid (by rw [HEJ.out, if_pos (.inr (by simpa using HB1.out.2))])
                      clear hXa
                      go_wp2
                      refine hold_leave (v := .int .i64 11) (by simp [results, Tryz.results31, go_sem]) ?_
                      exact xblock_err2 HEF.out (by decide) HXA.out
                    | true =>
                      have hEK : E = .ok T (hl0 + uu + i, T.length) (r.drop q) := by
                        rw [HEJ.out, if_neg]
                        rintro (h | h)
                        · exact h (by simpa using HB1.out.1)
                        · exact h (by simpa using HB1.out.2)
                      have HEK := Lib.hid hEK
                      obtain ⟨Al, kl, hlv, -, -, -⟩ := hXa.o.slice
                      subst hlv
                      have hu7q : (((u7 + q : Nat)) : Int) - (used : Int) = ((HU + q : Nat) : Int) := by
                        have h1 := H1.out.2.2.2.2
                        have h2 := HQ.out.2.2.2.2
                        omega
                      obtain ⟨UQ, hUQ⟩ : ∃ UQ, u7 + q = UQ := ⟨_, rfl⟩
                      obtain ⟨DQ, hDQ⟩ : ∃ DQ, HU + q = DQ := ⟨_, rfl⟩
                      obtain ⟨RR, hRR⟩ : ∃ RR, HU + i = RR := ⟨_, rfl⟩
                      have hdq2 : (DQ : Int) - (pad : Int) = (RR : Int) := by have := HQ.out.1; omega
                      have hqb : q ≤ 11 := by have := HQ.out.1; omega
                      have hdw1 : IntKind.i64.wrap (DQ : Int) = (DQ : Int) := Go.IntWalk.i64_in _ (by omega)
                      have hdw2 : IntKind.i64.wrap (RR : Int) = (RR : Int) := Go.IntWalk.i64_in _ (by omega)
                      have hdw3 : IntKind.u64.wrap (RR : Int) = (RR : Int) := Go.IntWalk.u64_in _ (by omega)
                      have hdw4 : IntKind.u64.wrap (T.length : Int) = (T.length : Int) := Go.IntWalk.u64_in _ (by have := HTL.out; omega)
                      rw [hUQ, hDQ] at hu7q
                      have hsa : SrcAt Wa fb (takeA A7 k7 q) (n7 - q) (k7 - q) UQ := by rw [← hUQ]; exact Pts.below HWR.out.2.1 HWR.out.2.2.2.2 (Pts.lt HWR.out.2.1)
                      have hRR2 : hl0 + uu + i = RR := by rw [HQ.out.2.2.2.2]; exact hRR
                      have HS9 := Lib.hid (And.intro hsa (And.intro hRR2 hUQ))
                      obtain ⟨a3, asc, a0, a1, a5, a2, az⟩ := hXa.cells
                      have hS0 : LoB w.heap.size rb fb W4.heap.size T.length Wa := ⟨a0, a1, a3⟩
                      have a2a : ∀ o, (Wa.alloc o).cell? ⟨rb, 6, none⟩ = some (.slice Al recs.length kl) := fun o => cell_alloc o a2
                      clear hXa hEK hsa hUQ hDQ hRR hRR2 asc a5
                      go_wp2
                      have hS4 := And.intro hS0.1 (And.intro hS0.2.1 (And.intro hS0.2.2 a2))
                      refine wp_region_noPanic ?_
                      refine wp_region_headH 20 (fun w' => w'.cell? ⟨w.heap.size, 0, none⟩ = some (.pointer (some ⟨rb, 0, none⟩)) ∧ w'.cell? ⟨rb, 0, none⟩ = some (.pointer (some ⟨fb, 0, none⟩)) ∧ w'.cell? ⟨W4.heap.size, 0, none⟩ = some (.int .i64 (T.length : Int)) ∧ w'.cell? ⟨rb, 6, none⟩ = some (.slice Al recs.length kl)) (by kernel_rfl) (by kernel_rfl) ?_
                      simp only [List.drop_succ_cons, List.drop_zero]
                      refine wpAnyH_take (i := 0) rfl (by kernel_rfl) (by kernel_rfl) (by kernel_rfl) (fun _ _ _ h => h) (Or.inl ⟨by rfl, by (intro w hSw; (try dsimp only at hSw); go_simp; try with_reducible rfl)⟩) hS4 ?_
                      try simp only [Act.put, List.setIfInBounds_toArray, List.set_cons_zero, List.set_cons_succ]
                      refine wpAnyH_take (i := 1) rfl (by kernel_rfl) (by kernel_rfl) (by kernel_rfl) (fun _ _ _ h => h) (Or.inl ⟨by rfl, by (intro w hSw; (try dsimp only at hSw); go_simp; try with_reducible rfl)⟩) hS4 ?_
                      try simp only [Act.put, List.setIfInBounds_toArray, List.set_cons_zero, List.set_cons_succ]
                      refine wpAnyH_take (i := 2) rfl (by kernel_rfl) (by kernel_rfl) (by kernel_rfl) (fun _ _ _ h => h) (Or.inl ⟨by rfl, by (intro w hSw; (try dsimp only at hSw); go_simp; try with_reducible rfl)⟩) hS4 ?_
                      try simp only [Act.put, List.setIfInBounds_toArray, List.set_cons_zero, List.set_cons_succ]
                      refine wpAnyH_take (i := 3) rfl (by kernel_rfl) (by kernel_rfl) (by kernel_rfl) (fun _ _ _ h => h) (Or.inl ⟨by rfl, by (intro w hSw; (try dsimp only at hSw); go_simp; try with_reducible rfl)⟩) hS4 ?_
                      try simp only [Act.put, List.setIfInBounds_toArray, List.set_cons_zero, List.set_cons_succ]
                      refine wpAnyH_take (i := 4) rfl (by kernel_rfl) (by kernel_rfl) (by kernel_rfl) (fun _ _ _ h => h) (Or.inl ⟨by rfl, by (intro w hSw; (try dsimp only at hSw); go_simp; try with_reducible rfl)⟩) hS4 ?_
                      try simp only [Act.put, List.setIfInBounds_toArray, List.set_cons_zero, List.set_cons_succ]
                      refine wpAnyH_take (i := 5) rfl (by kernel_rfl) (by kernel_rfl) (by kernel_rfl) (fun _ _ _ h => h) (Or.inl ⟨by rfl, by (intro w hSw; (try dsimp only at hSw); go_simp; try with_reducible rfl)⟩) hS4 ?_
                      try simp only [Act.put, List.setIfInBounds_toArray, List.set_cons_zero, List.set_cons_succ]
                      refine wpAnyH_take (i := 6) rfl (by kernel_rfl) (by kernel_rfl) (by kernel_rfl) (fun _ _ _ h => h) (Or.inl ⟨by rfl, by (intro w hSw; (try dsimp only at hSw); go_simp; try with_reducible rfl)⟩) hS4 ?_
                      try simp only [Act.put, List.setIfInBounds_toArray, List.set_cons_zero, List.set_cons_succ]
                      refine wpAnyH_take (i := 7) rfl (by kernel_rfl) (by kernel_rfl) (by kernel_rfl) (fun _ _ _ h => h) (Or.inl ⟨by rfl, by (intro w hSw; (try dsimp only at hSw); go_simp; try with_reducible rfl)⟩) hS4 ?_
                      try simp only [Act.put, List.setIfInBounds_toArray, List.set_cons_zero, List.set_cons_succ]
                      refine wpAnyH_take (i := 8) rfl (by kernel_rfl) (by kernel_rfl) (by kernel_rfl) (fun _ _ _ h => h) (Or.inl ⟨by rfl, by (intro w hSw; (try dsimp only at hSw); go_simp; try with_reducible rfl)⟩) hS4 ?_
                      try simp only [Act.put, List.setIfInBounds_toArray, List.set_cons_zero, List.set_cons_succ]
                      refine wpAnyH_take (i := 10) rfl (by kernel_rfl) (by kernel_rfl) (by kernel_rfl) (fun _ _ _ h => h) (Or.inl ⟨by rfl, by (intro w hSw; (try dsimp only at hSw); go_simp; try with_reducible rfl)⟩) hS4 ?_
                      try simp only [Act.put, List.setIfInBounds_toArray, List.set_cons_zero, List.set_cons_succ]
                      refine wpAnyH_take (i := 12) rfl (by kernel_rfl) (by kernel_rfl) (by kernel_rfl) (fun _ _ _ h => h) (Or.inl ⟨by rfl, by (intro w hSw; (try dsimp only at hSw); go_simp; try with_reducible rfl)⟩) hS4 ?_
                      try simp only [Act.put, List.setIfInBounds_toArray, List.set_cons_zero, List.set_cons_succ]
                      refine wpAnyH_take (i := 15) rfl (by kernel_rfl) (by kernel_rfl) (by kernel_rfl) (fun _ _ _ h => h) (Or.inl ⟨by rfl, by (intro w hSw; (try dsimp only at hSw); go_simp; try with_reducible rfl)⟩) hS4 ?_
                      try simp only [Act.put, List.setIfInBounds_toArray, List.set_cons_zero, List.set_cons_succ]
                      refine wpAnyH_take (i := 16) rfl (by kernel_rfl) (by kernel_rfl) (by kernel_rfl) (fun _ _ _ h => h) (Or.inl ⟨by rfl, by (intro w hSw; (try dsimp only at hSw); go_simp; try with_reducible rfl)⟩) hS4 ?_
                      try simp only [Act.put, List.setIfInBounds_toArray, List.set_cons_zero, List.set_cons_succ]
                      refine wpAnyH_ready (rs := [9]) (by kernel_rfl) (by simp) ?_
                      refine AllReadyH.cons rfl (fun K9 hK9 => ?_) AllReadyH.nil
                      go_simp
                      refine (used_p fb _ _ _ UQ _ (show SrcAt Wa.drew fb _ _ _ _ from HS9.out.1)).mono ?_; rintro e w' ⟨rfl, rfl⟩
                      refine hK9.out _ _ hS4 (fun _ => ?_)
                      clear hK9 K9
                      try simp only [Act.put, List.setIfInBounds_toArray, List.set_cons_zero, List.set_cons_succ]
                      refine wpAnyH_take (i := 11) rfl (by kernel_rfl) (by kernel_rfl) (by kernel_rfl) (fun _ _ _ h => h) (Or.inl ⟨by rfl, by (intro w hSw; (try dsimp only at hSw); go_simp; try with_reducible rfl)⟩) hS4 ?_
                      try simp only [Act.put, List.setIfInBounds_toArray, List.set_cons_zero, List.set_cons_succ]
                      refine wpAnyH_take (i := 13) rfl (by kernel_rfl) (by kernel_rfl) (by kernel_rfl) (fun _ _ _ h => h) (Or.inl ⟨by rfl, by (intro w hSw; (try dsimp only at hSw); go_simp; try with_reducible rfl)⟩) hS4 ?_
                      try simp only [Act.put, List.setIfInBounds_toArray, List.set_cons_zero, List.set_cons_succ]
                      refine wpAnyH_take (i := 14) rfl (by kernel_rfl) (by kernel_rfl) (by kernel_rfl) (fun _ _ _ h => h) (Or.inl ⟨by rfl, by (intro w hSw; (try dsimp only at hSw); go_simp; try with_reducible rfl)⟩) hS4 ?_
                      try simp only [Act.put, List.setIfInBounds_toArray, List.set_cons_zero, List.set_cons_succ]
                      refine wpAnyH_take (i := 17) rfl (by kernel_rfl) (by kernel_rfl) (by kernel_rfl) (fun _ _ _ h => h) (Or.inl ⟨by rfl, by (intro w hSw; (try dsimp only at hSw); go_simp; try with_reducible rfl)⟩) hS4 ?_
                      try simp only [Act.put, List.setIfInBounds_toArray, List.set_cons_zero, List.set_cons_succ]
                      refine wpAnyH_ready (rs := [18]) (by kernel_rfl) (by simp) ?_
                      refine AllReadyH.cons rfl (fun K18 hK18 => ?_) AllReadyH.nil
                      go_simp
                      refine hK18.out _ _ (And.intro (cell_alloc _ hS0.1) (And.intro (cell_alloc _ hS0.2.1) (And.intro (cell_alloc _ hS0.2.2) (cell_alloc _ a2)))) (fun _ => ?_)
                      clear hK18 K18
                      try simp only [Act.put, List.setIfInBounds_toArray, List.set_cons_zero, List.set_cons_succ]
                      refine wpAnyH_ready (rs := [19]) (by kernel_rfl) (by simp) ?_
                      refine AllReadyH.cons rfl (fun K19 hK19 => ?_) AllReadyH.nil
                      refine stepR_append_pr _ rfl (.tmp 180) (.tmp 194) 46 rfl 100 B0 Tryz.underlying46 Tryz.info_pair (.slice Al recs.length kl) recs rfl ?_ Wa.heap.size 1 (RR, T.length) rfl ?_ ?_ ?_ ?_; exact HXA.out.o.alloc _; exact Pts.new _ _ _; (have := HH.out.2.2.1; omega); (show B0 ≤ (Wa.heap.push _).size; rw [Array.size_push]; have := HXA.out.f.size; have := HH.out.2.1.1; omega)
                      intro v12 w12 hown12 hfrm12 hnew12
                      obtain ⟨A12, k12, rfl, -, -, -⟩ := hown12.slice
                      obtain ⟨hS1, hS2, c12, z12, hend⟩ := xblock_ok (E := E) (rest := r.drop q) (rc := (RR, T.length)) (un := un) (A := takeA A7 k7 q) (n := n7 - q) (c := k7 - q) (used := UQ) HP.out HXA.out hown12 hfrm12.undrew hnew12 HS9.out.1 (by have := H8.out.1; have := HQN.out; have := HS9.out.2.2; omega) (H9.out.2.2.2.2.1.below (HWR.out.2.2.2.1.mono HL.out.2.2.2.2.1) |>.below (HWR.out.2.2.2.2.mono HWR.out.2.2.1)) (by rw [List.length_drop, H8.out.2.2.1]) (by have := H8.out.2.2.2.1; omega) (by have := H8.out.2.2.2.2.1; omega) (by rw [HEK.out, HS9.out.2.1]) HH.out.2.1.1 hS0 HH.out.2.1.2.1
                      obtain ⟨L12, hL12⟩ : ∃ L, (recs ++ [(RR, T.length)]).length = L := ⟨_, rfl⟩
                      rw [hL12] at hend hS2
                      rw [hL12]
                      have HEND := Lib.hid hend
                      refine hK19.out _ _ (And.intro hS1.1 (And.intro hS1.2.1 (And.intro hS1.2.2 c12))) (fun _ => ?_)
                      clear hK19 K19
                      clear hown12 hfrm12 hnew12 hL12 hend
                      try simp only [Act.put, List.setIfInBounds_toArray, List.set_cons_zero, List.set_cons_succ]
                      refine wpAnyH_done (by kernel_rfl) ?_ _
                      change wpList _ _ _ _ _ _
                      go_wp2
                      refine NoPanic.normal ?_
                      all_goals
                        go_wp2
                        refine hold_leave (v := .int .i64 0) (by simp [results, Tryz.results31, go_sem]) ?_
                        exact HEND.out
        · have qz : ((z : Int) != 0) = true := bne_iff_ne.2 (by omega)
          have HEF : Hid (E = .err z T) := Lib.hid (by
            rcases HDP.out.2.1 with ⟨l, b, e, h1, h2, h3, h4, h5⟩ | ⟨⟨r, h1⟩, h2⟩
            · rw [HEG.out, HDP.out.1, h4]
            · exact absurd (HT6.out.2.1.symm.trans (evErr_zero h2)) hz)
          have HZ := Lib.hid hz
          clear hz
          go_wp2
          refine hold_leave (v := .int .i64 (z : Int)) (by simp [results, Tryz.results31, go_sem]) ?_
          exact xblock_err2 HEF.out HZ.out H7.out.1
    · have qz : ((er : Int) != 0) = true := bne_iff_ne.2 (by omega)
      have HEF : Hid (E = .err er []) := Lib.hid (by
        rw [← HEE.out]
        unfold xBody
        rw [if_pos (by simp only; omega)]
        simp)
      have HZ := Lib.hid he
      clear he
      go_wp2
      refine ⟨.int .i64 (er : Int), by simp [results, Tryz.results31, go_sem], ?_⟩
      exact xblock_err HEF.out HZ.out HX2.out.f HX2.out.j
end Go.Proofs.YtgahfpflhhfhfaaGreat

/- A range over a function whose iterator reads what the round's body changes: the contract, the law of the walk. No program in sight. -/
namespace Go.Proofs.YtgahfpflhhfhfaaGreat
open Go.RowKit
set_option linter.unusedVariables false
set_option linter.unusedSimpArgs false
/-- What abides the law's own book-keeping. -/
def AbM {α : Type} (D : Nat) (J : List α → World → Prop) : Prop := ∀ pre W l o o', D ≤ l → W.heap[l]? = some o → o.isCells = false → J pre W → J pre (W.putObj l o')
/-- An iterator that changes nothing, and ends by what K tells of the world between two rounds. -/
def SeqK {α : Type} (F : Fence) (n : Nat) (P : Program) (g : Nat) (bd : Array Value) (encs : α → Array Value) (Px : List α → α → World → Prop) (S : List α → World → Prop) (K : List α → World → Prop) : Prop :=
  ∀ (l : Nat) (J Jx : List α → World → Prop) (W : World), (∀ pre W1, J pre W1 → K pre W1) →
    (∀ pre x W1, J pre W1 → Px pre x W1 → YieldAt F (n - 1) P l (encs x) W1 fun e W' =>
      (e = .returned (.bool true) ∧ J (pre ++ [x]) W') ∨ (e = .returned (.bool false) ∧ Jx (pre ++ [x]) W')) →
    J [] W →
    CallsIn F n P g (bd ++ #[.func (.yield l) #[] #[]]) W fun e W' => (∃ v, e = .returned v) ∧ ((∃ xs, S xs W' ∧ J xs W') ∨ (∃ pre, Jx pre W'))
/-- How a round's body may be left: D, D + 1: the law's own blocks. -/
def ownPostK {α : Type} (D : Nat) (I : List α → World → Prop) (Ix : Code → List α → World → Prop) (xs : List α) (W : World) : Exit → Act → World → Prop
  | .normal, _, W' => (W'.heap[D]? = W.heap[D]? ∧ W'.heap[D + 1]? = W.heap[D + 1]?) ∧ I xs W'
  | .ret, _, W' => (W'.heap[D]? = W.heap[D]? ∧ W'.heap[D + 1]? = W.heap[D + 1]?) ∧ Ix .ret xs W'
  | .exit id, _, W' => (W'.heap[D]? = W.heap[D]? ∧ W'.heap[D + 1]? = W.heap[D + 1]?) ∧ Ix (.exit id) xs W'
  | .goto t, _, W' => (W'.heap[D]? = W.heap[D]? ∧ W'.heap[D + 1]? = W.heap[D + 1]?) ∧ Ix (.goto t) xs W'
  | .panic _, _, _ => False
  | .outgrown, _, _ => False
variable {F : Fence} {n : Nat} {P : Program}
theorem wpIn_rangeFunc_ownK {α : Type} {g : Operand} {ps : Array Tmp} {assign body : Code} {Q : Exit → Act → World → Prop} {a : Act} {w : World}
    (hro : F.round = none) (h1 : 1 ≤ n) {gf : Nat} {bd : Array Value} (hg : a.eval g = .func (.func gf) bd #[]) (hFg : F.fn gf) (eg : ∀ args w, (callFunc gf args).run P w = .ok (.enter gf args) w)
    {encs : α → Array Value} {Px : List α → α → World → Prop} {S : List α → World → Prop} {K : List α → World → Prop} (hseq : SeqK F (n - 1) P gf bd encs Px S K)
    (hps : ∀ x, (encs x).size = ps.size)
    (I : List α → World → Prop) (Ix : Code → List α → World → Prop) (hS : AbM w.heap.size S) (hIl : AbM w.heap.size I) (hIxl : ∀ c, AbM w.heap.size (Ix c)) (hIK : ∀ pre W, I pre W → K pre W) (h0 : I [] ((w.alloc (.deferred (some []))).alloc (.loop default))) (a₁ : α → Act)
    (hPx : ∀ pre x W l o o', w.heap.size ≤ l → W.heap[l]? = some o → o.isCells = false → Px pre x W → Px pre x (W.putObj l o'))
    (hassign : ∀ (l : Nat) (x : α) (W : World) (K : Act → World → Prop), K (a₁ x) W →
      assign.wpIn (F.inRound l) (n - 1 - 1) P (Exit.then K (fun _ _ _ => False)) { tmps := (ps.zip (encs x)).foldl (fun t (p, v) => t.setIfInBounds p v) a.tmps, defers := [] } W)
    (hbody : ∀ (l : Nat) (pre : List α) (x : α) (W : World), I pre W → Px pre x W → W.heap[w.heap.size]? = some (.deferred (some [])) → (∃ r, W.heap[w.heap.size + 1]? = some (.loop r)) → body.wpIn (F.inRound l) (n - 1 - 1) P (ownPostK w.heap.size I Ix (pre ++ [x]) W) (a₁ x) W)
    (hdone : ∀ (xs : List α) (W : World), S xs W → I xs W → W.heap[w.heap.size]? = some (.deferred (some [])) → Q .normal { a with defers := { target := .collected w.heap.size, args := #[] } :: a.defers } W)
    (hstop : ∀ (c : Code) (pre : List α) (W : World), Ix c pre W → W.heap[w.heap.size]? = some (.deferred (some [])) → c.wpIn F n P Q { a with defers := { target := .collected w.heap.size, args := #[] } :: a.defers } W) :
    (Code.rangeFunc g ps assign body).wpIn F n P Q a w := by
  refine wpIn_rangeFunc ?_
  intro fn hfn
  rw [hro]
  obtain ⟨rec, hrec⟩ : ∃ rec : LoopState → Option Code → Loop, rec = fun st pe => { state := st, pending := pe, fn, tmps := a.tmps, params := ps, assign, body, defers := w.heap.size } := ⟨_, rfl⟩
  obtain ⟨W1, hW1⟩ : ∃ W1, (w.alloc (.deferred (some []))).alloc (.loop (rec .ready none)) = W1 := ⟨_, rfl⟩
  have hL1 : W1.heap[w.heap.size + 1]? = some (.loop (rec .ready none)) := by
    rw [← hW1]; have := World.alloc_heap_new (w.alloc (.deferred (some []))) (.loop (rec .ready none)); rwa [World.size_alloc] at this
  have hK1 : W1.heap[w.heap.size]? = some (.deferred (some [])) := by
    rw [← hW1]; exact (Below.heap_alloc _ _ _ (by simp)).trans (World.alloc_heap_new w _)
  have hI1 : I [] W1 := by
    have hL0 : ((w.alloc (.deferred (some []))).alloc (.loop default)).heap[w.heap.size + 1]? = some (.loop default) := by
      have := World.alloc_heap_new (w.alloc (.deferred (some []))) (.loop default); rwa [World.size_alloc] at this
    have h := hIl [] _ (w.heap.size + 1) _ (.loop (rec .ready none)) (by omega) hL0 rfl h0
    have e : ((w.alloc (.deferred (some []))).alloc (.loop default)).putObj (w.heap.size + 1) (.loop (rec .ready none)) = W1 := by
      rw [← hW1]
      simp only [World.putObj, World.alloc]
      congr 1
      apply Array.ext_getElem?
      intro i
      simp only [Array.getElem?_setIfInBounds, Array.getElem?_push, Array.size_push]
      repeat' split
      all_goals first | rfl | omega | simp_all
    rw [e] at h
    exact h
  refine ⟨w.heap.size + 1, [{ target := .collected w.heap.size, args := #[] }], W1, { target := .fn (.func gf) #[], args := bd ++ #[.func (.yield (w.heap.size + 1)) #[] #[]] }, W1, gf,
    bd ++ #[.func (.yield (w.heap.size + 1)) #[] #[]], W1, ?_, ?_, ?_, ?_, fun _ => h1, ?_⟩
  · rw [← hW1, hrec]; exact run_enterLoop_outer _ _ _ _ _
  · simp only [resolve, hg]
    simp [go_sem]
  · intro f' hf'; simp [Target.leads] at hf'; subst hf'; exact hFg
  · simp [invoke, go_sem, eg]
  · refine (hseq (w.heap.size + 1)
      (fun pre W => I pre W ∧ W.heap[w.heap.size + 1]? = some (.loop (rec .ready none)) ∧ W.heap[w.heap.size]? = some (.deferred (some [])))
      (fun pre W => ∃ c, Ix c pre W ∧ W.heap[w.heap.size + 1]? = some (.loop (rec .done (some c))) ∧ W.heap[w.heap.size]? = some (.deferred (some [])))
      W1 (fun pre W1 h => hIK pre W1 h.1) ?_ ⟨hI1, hL1, hK1⟩).mono ?_
    · rintro pre x W ⟨hi, hl, hk⟩ hpx
      have hlt : w.heap.size + 1 < W.heap.size := (Array.getElem?_eq_some_iff.1 hl).1
      have hy := run_yield (P := P) (args := encs x) hl (by rw [hrec]; exact hps x)
      rw [hrec] at hy
      refine ⟨fn, _, assign, body, hy, roundIn_of_wpIn hfn (hassign _ x W _ ⟨_, run_beginRound hl (by rw [hrec]), ?_⟩)⟩
      obtain ⟨W2, hW2⟩ : ∃ W2, W.putObj (w.heap.size + 1) (.loop { rec .ready none with state := .busy }) = W2 := ⟨_, rfl⟩
      have hl2 : W2.heap[w.heap.size + 1]? = some (.loop { rec .ready none with state := .busy }) := by rw [← hW2]; exact World.putObj_heap_same hlt
      have hk2 : W2.heap[w.heap.size]? = some (.deferred (some [])) := by rw [← hW2]; exact (World.putObj_heap_other (by omega)).trans hk
      have hi2 : I pre W2 := by rw [← hW2]; exact hIl pre W _ _ _ (by omega) hl rfl hi
      have hp2 : Px pre x W2 := by rw [← hW2]; exact hPx pre x W _ _ _ (by omega) hl rfl hpx
      have hlt2 : w.heap.size + 1 < W2.heap.size := (Array.getElem?_eq_some_iff.1 hl2).1
      rw [hW2]
      refine wpIn_mono (hbody _ pre x _ hi2 hp2 hk2 ⟨_, hl2⟩) ?_
      have fin : ∀ (jump : Option Code) (W3 : World), (W3.heap[w.heap.size]? = W2.heap[w.heap.size]? ∧ W3.heap[w.heap.size + 1]? = W2.heap[w.heap.size + 1]?) →
          (Instr.endRound (w.heap.size + 1) jump).run P W3 = .ok (.bool jump.isNone) (W3.putObj (w.heap.size + 1) (.loop (rec (if jump.isNone then .ready else .done) jump))) ∧
          W3.heap[w.heap.size + 1]? = some (.loop { rec .ready none with state := .busy }) ∧
          (W3.putObj (w.heap.size + 1) (.loop (rec (if jump.isNone then .ready else .done) jump))).heap[w.heap.size + 1]? = some (.loop (rec (if jump.isNone then .ready else .done) jump)) ∧
          (W3.putObj (w.heap.size + 1) (.loop (rec (if jump.isNone then .ready else .done) jump))).heap[w.heap.size]? = some (.deferred (some [])) := fun jump W3 hk3 => by
        have hl3 := hk3.2.trans hl2
        have := run_endRound (P := P) jump hl3
        rw [hrec] at this ⊢
        exact ⟨this, by rw [hrec] at hl3; exact hl3, World.putObj_heap_same (Array.getElem?_eq_some_iff.1 hl3).1, (World.putObj_heap_other (by omega)).trans (hk3.1.trans hk2)⟩
      rintro e a3 W3 hp
      cases e with
      | normal =>
        obtain ⟨hk3, hi3⟩ := hp
        obtain ⟨hr, hl3, hl4, hk4⟩ := fin none W3 hk3
        exact ⟨_, _, hr, .inl ⟨rfl, hIl _ _ _ _ _ (by omega) hl3 rfl hi3, hl4, hk4⟩⟩
      | ret =>
        obtain ⟨hk3, hi3⟩ := hp
        obtain ⟨hr, hl3, hl4, hk4⟩ := fin (some .ret) W3 hk3
        exact ⟨_, _, hr, .inr ⟨rfl, .ret, hIxl _ _ _ _ _ _ (by omega) hl3 rfl hi3, hl4, hk4⟩⟩
      | exit id =>
        obtain ⟨hk3, hi3⟩ := hp
        obtain ⟨hr, hl3, hl4, hk4⟩ := fin (some (.exit id)) W3 hk3
        exact ⟨_, _, hr, .inr ⟨rfl, .exit id, hIxl _ _ _ _ _ _ (by omega) hl3 rfl hi3, hl4, hk4⟩⟩
      | goto t =>
        obtain ⟨hk3, hi3⟩ := hp
        obtain ⟨hr, hl3, hl4, hk4⟩ := fin (some (.goto t)) W3 hk3
        exact ⟨_, _, hr, .inr ⟨rfl, .goto t, hIxl _ _ _ _ _ _ (by omega) hl3 rfl hi3, hl4, hk4⟩⟩
      | panic ch => exact hp.elim
      | outgrown => exact hp.elim
    · rintro e W2 ⟨⟨v, rfl⟩, (⟨xs, hSx, hi, hl, hk⟩ | ⟨pre, c, hi, hl, hk⟩)⟩
      · exact ⟨none, _, by have := run_endLoop (P := P) hl (by rw [hrec]; simp); rw [hrec] at this; exact this, hdone xs _ (hS _ _ _ _ _ (by omega) hl rfl hSx) (hIl _ _ _ _ _ (by omega) hl rfl hi) ((World.putObj_heap_other (by omega)).trans hk)⟩
      · exact ⟨some c, _, by have := run_endLoop (P := P) hl (by rw [hrec]; simp); rw [hrec] at this; exact this, hstop c pre _ (hIxl _ _ _ _ _ _ (by omega) hl rfl hi) ((World.putObj_heap_other (by omega)).trans hk)⟩
end Go.Proofs.YtgahfpflhhfhfaaGreat

/- The first bytes of what stands behind a member's head, as an iterator: the walk. -/
namespace Go.Proofs.YtgahfpflhhfhfaaGreat
open Go.RowKit Rng Win Lz Box
set_option linter.unusedVariables false
set_option linter.unusedSimpArgs false
attribute [local go_sem] Oper.semAt_some
/-- What is handed over in one round: a first byte, an error. -/
structure Fb where
  b : Nat
  e : Nat
def fbEnc (x : Fb) : Array Value := #[.int .u8 (x.b : Int), .int .i64 (x.e : Int)]
/-- What the iterator wants of the world between two rounds. -/
def FbK (w0 : World) (rb fb B0 un : Nat) (pre : List Fb) (W : World) : Prop :=
  W.cell? ⟨rb, 0, none⟩ = some (.pointer (some ⟨fb, 0, none⟩)) ∧ (∃ A n c used bs, SrcAt W fb A n c used ∧ n ≤ c ∧ BRow W B0 A bs ∧ n = bs.length ∧ n + pre.length ≤ un) ∧ Below B0 w0 W
/-- What it tells. -/
def FbP (fb B0 : Nat) (pre : List Fb) (x : Fb) (W : World) : Prop :=
  ∃ A n c used bs, SrcAt W fb A n c used ∧ BRow W B0 A bs ∧ n = bs.length ∧ ((x.e = 0 ∧ 1 ≤ n ∧ x.b = (bs.getD 0 0).toNat) ∨ (x.e = 10 ∧ n = 0))
def FbS (xs : List Fb) (W : World) : Prop := ∃ pre x, xs = pre ++ [x] ∧ (x.e ≠ 0 ∨ x.b = 0)
set_option maxRecDepth 8000 in
set_option maxHeartbeats 2000000 in
theorem first_seq (n rb fb B0 un : Nat) (w0 : World) (hn1 : 2 ≤ n) : SeqK Fence.wide n Tryz.prog 30 #[.pointer (some ⟨rb, 0, none⟩)] fbEnc (FbP fb B0) FbS (FbK w0 rb fb B0 un) := by
  intro l J Jx W hK hY h0
  have HK := Lib.hid hK
  have HY := Lib.hid hY
  have H0 := Lib.hid h0
  clear hK hY h0
  refine callsIn_of_wp Tryz.func30 rfl trivial ?_ rfl
  simp only [Tryz.ntmps30, List.size_toArray, List.length_cons, List.length_nil, Nat.reduceAdd, Nat.reduceSub, Array.replicate_succ, Array.replicate_zero, List.push_toArray, List.append_toArray, List.nil_append, List.cons_append]
  gi_wp2
  gi_loopg [4] (un + 1) (fun gf tv wr => ∃ pre : List Fb, J pre wr ∧ pre.length + gf = un + 1)
  case atStart => exact ⟨[], H0.out, by simp⟩
  case round =>
    obtain ⟨pre, hj, hlen⟩ := hrel
    obtain ⟨hc0, ⟨A, m, c, used, bs, hs, hmc, hr, hm, hmp⟩, hbe⟩ := HK.out pre wr hj
    obtain ⟨g, rfl⟩ : ∃ g, gk = g + 1 := ⟨gk - 1, by omega⟩
    have HP := Lib.hid (peek_p fb A m c used 1 wr hs hmc)
    have HJ := Lib.hid hj
    have HH := Lib.hid (And.intro hs (And.intro hr (And.intro hbe (And.intro hm hlen))))
    have h1n : 1 ≤ n := by omega
    clear hj hs hr hbe hlen
    by_cases h0 : m = 0
    · obtain ⟨fn, tmps, assign, body, hy, hR⟩ := HY.out pre ⟨0, 10⟩ wr HJ.out ⟨A, m, c, used, bs, HH.out.1, HH.out.2.1, HH.out.2.2.2.1, .inr ⟨rfl, h0⟩⟩
      replace hy : (Instr.yield l #[.int .u8 0, .int .i64 10]).run Tryz.prog wr = .ok (.round l fn tmps assign body) wr := hy
      rw [if_neg (by omega)] at HP
      clear hm hmp hmc h0
      gi_wp2_with (refine ⟨trivial, ?_⟩; gi_at_call 34; refine (callsIn_wide.2 HP.out).mono ?_; rintro e w2 ⟨rfl, hw⟩; subst hw)
      refine hR.mono ?_
      rintro e W' (⟨rfl, hJ'⟩ | ⟨rfl, hJx'⟩)
      · gi_wp2
        refine bodyPost_ret (results_none rfl _ _ _) rfl ?_
        exact ⟨⟨_, rfl⟩, .inl ⟨_, ⟨pre, _, rfl, .inl (by decide)⟩, hJ'⟩⟩
      · gi_wp2
        refine bodyPost_ret (results_none rfl _ _ _) rfl ?_
        exact ⟨⟨_, rfl⟩, .inr ⟨_, hJx'⟩⟩
    · obtain ⟨ab, ao, rfl, hab, hcell⟩ := HH.out.2.1 (by omega)
      obtain ⟨c0, hc0'⟩ : ∃ c, (bs.getD 0 0).toNat = c := ⟨_, rfl⟩
      have b0 : wr.cell? ⟨ab, ao, none⟩ = some (.int .u8 (c0 : Int)) := by rw [← hc0']; exact hcell 0 (by omega)
      obtain ⟨fn, tmps, assign, body, hy, hR⟩ := HY.out pre ⟨c0, 0⟩ wr HJ.out ⟨_, m, c, used, bs, HH.out.1, HH.out.2.1, HH.out.2.2.2.1, .inl ⟨rfl, by omega, hc0'.symm⟩⟩
      replace hy : (Instr.yield l #[.int .u8 (c0 : Int), .int .i64 0]).run Tryz.prog wr = .ok (.round l fn tmps assign body) wr := hy
      rw [if_pos (by omega)] at HP
      clear hm hmp hmc h0 hc0' hcell
      gi_wp2_with (refine ⟨trivial, ?_⟩; gi_at_call 34; refine (callsIn_wide.2 HP.out).mono ?_; rintro e w2 ⟨rfl, hw⟩; subst hw)
      refine hR.mono ?_
      rintro e W' (⟨rfl, hJ'⟩ | ⟨rfl, hJx'⟩)
      · have hK' := HK.out _ W' hJ'
        have b1 : W'.cell? ⟨ab, ao, none⟩ = some (.int .u8 (c0 : Int)) := ((hK'.2.2.cell (p := ⟨ab, ao, none⟩) hab).trans (HH.out.2.2.1.cell (p := ⟨ab, ao, none⟩) hab).symm).trans b0
        have HJ' := Lib.hid hJ'
        clear hJ' hK' b0
        by_cases hz : c0 = 0
        · subst hz
          gi_wp2
          refine bodyPost_ret (results_none rfl _ _ _) rfl ?_
          exact ⟨⟨_, rfl⟩, .inl ⟨_, ⟨pre, _, rfl, .inr rfl⟩, HJ'.out⟩⟩
        · have qz : ((c0 : Int) == 0) = false := beq_eq_false_iff_ne.2 (by omega)
          clear hz
          gi_wp2
          gi_roundg g
          case rel => exact ⟨_, HJ'.out, by rw [List.length_append]; have := HH.out.2.2.2.2; simp; omega⟩
          case measure => omega
      · gi_wp2
        refine bodyPost_ret (results_none rfl _ _ _) rfl ?_
        exact ⟨⟨_, rfl⟩, .inr ⟨_, hJx'⟩⟩
end Go.Proofs.YtgahfpflhhfhfaaGreat

/- A member that is read: the loop's invariant, the walk of Run. -/
namespace Go.Proofs.YtgahfpflhhfhfaaGreat
open Go.RowKit Rng Win Lz Box
set_option linter.unusedVariables false
set_option linter.unusedSimpArgs false
attribute [local go_sem] Oper.semAt_some
theorem xBlock_len {bud : Nat} {kind : Int} {told : Nat} {src o rest : List UInt8} {r : Nat × Nat} (h : xBlock bud kind told src = .ok o r rest) : told + o.length ≤ 16777216 ∨ o = [] := by
  unfold xBlock at h
  by_cases h0 : src.length < hdLen src
  · rw [if_pos h0] at h; cases h
  · rw [if_neg h0] at h
    unfold xBody at h
    split at h
    · cases h
    · split at h
      · cases h
      · obtain ⟨S, hS⟩ : ∃ S, max (blockOf (src.take (hdLen src))).1.toNat 4096 = S := ⟨_, rfl⟩
        rw [hS] at h
        have hl := d2P_len S (16777216 - told) (src.drop (hdLen src))
        cases hd : d2P S (16777216 - told) (src.drop (hdLen src)) with
        | mk T R =>
          rw [hd] at h hl
          cases R with
          | inl e => cases h
          | inr rr =>
            have hx := xTail_front h
            rw [hx.1]
            have hl : T.length ≤ 16777216 - told := hl
            by_cases ht : told ≤ 16777216
            · left; omega
            · right; exact List.eq_nil_of_length_eq_zero (by omega)
theorem xNums_z {e : Nat} : ∀ (l : List Nat) {s : List UInt8}, xNums l s = .inl e → e ≠ 0
  | [], s, h => by cases h
  | n :: l, s, h => by
    rw [xNums_cons] at h
    cases hx : xNum n s with
    | inl z => rw [hx] at h; injection h with h; exact h ▸ xNum_z hx
    | inr r => rw [hx] at h; exact xNums_z l h
theorem xIndex_z {recs : List (Nat × Nat)} {s : List UInt8} {e : Nat} (h : xIndex recs s = .inl e) : e ≠ 0 := by
  unfold xIndex at h
  cases hx : xNums (recN recs) (s.drop 1) with
  | inl z => rw [hx] at h; injection h with h; exact h ▸ xNums_z _ hx
  | inr r =>
    rw [hx] at h
    simp only at h
    split at h
    · injection h with h; omega
    · split at h
      · injection h with h; omega
      · cases h
theorem xIndex_size {recs : List (Nat × Nat)} {s r : List UInt8} {size : Nat} (h : xIndex recs s = .inr (size, r)) : size ≤ s.length + 8 := by
  unfold xIndex at h
  cases hx : xNums (recN recs) (s.drop 1) with
  | inl z => rw [hx] at h; cases h
  | inr r =>
    rw [hx] at h
    simp only at h
    split at h
    · cases h
    · split at h
      · cases h
      · injection h with h
        injection h with h1 h2
        have : padOf (s.length - r.length) < 4 := by unfold padOf; omega
        omega
theorem footOf_nat (bs : List UInt8) : ∃ k n e : Nat, footOf bs = ((k : Int), n, (e : Int)) := by
  unfold footOf
  repeat' split
  · exact ⟨0, 0, 10, rfl⟩
  · exact ⟨0, 0, 11, rfl⟩
  · exact ⟨0, 0, 12, rfl⟩
  · exact ⟨_, _, 0, rfl⟩
section
variable (w : World) (rb fb eb cb bud un B0 N0 : Nat) (put hold : Value) (kind : Int) (M0 : Nat → Prop) (J : (Nat → Prop) → List UInt8 → World → Prop) (XE : List UInt8 × (Nat ⊕ (List (Nat × Nat) × List UInt8)))
/-- Between two blocks. -/
structure RnI (recs : List (Nat × Nat)) (out src : List UInt8) (lv : Value) (M : Nat → Prop) (W : World) : Prop where
  r : RxAt W rb fb bud put hold kind out.length lv
  o : OwnPr W 100 B0 lv recs
  v : ∀ q, lv.ownBlock = some q → ¬ M q ∧ w.heap.size ≤ q
  s : ∃ A n c used, SrcAt W fb A n c used ∧ used + n = un ∧ BRow W B0 A src ∧ n = src.length ∧ n ≤ c ∧ c ≤ maxLen
  j : J M out W
  m : ∀ q, M q → (M0 q ∨ w.heap.size ≤ q) ∧ q ≠ rb ∧ q ≠ fb ∧ q ≠ eb ∧ q ≠ cb
  e : Pts W eb #[.int .i64 0] 24
  c : Pts W cb #[.pointer (some ⟨rb, 0, none⟩)] 60
  f : Frm (fun q => M0 q ∨ q = fb) w W
  x : ∃ f, src.length < f ∧ XE = xBlocks bud kind f recs out src
  l : out.length ≤ 16777216 ∧ recs.length + src.length ≤ N0
  b : Below B0 w W
def RnL (pre : List Fb) (W : World) : Prop :=
  ∃ recs out src lv M, RnI w rb fb eb cb bud un B0 N0 put hold kind M0 J XE recs out src lv M W ∧ src.length + pre.length ≤ un ∧ ∀ x ∈ pre, x.e = 0 ∧ x.b ≠ 0
/-- How the loop is left: an error, or at the index. -/
def RnX (cd : Code) (pre : List Fb) (W : World) : Prop :=
  (cd = .ret ∧ ∃ out M z, z ≠ 0 ∧ XE = (out, .inl z) ∧ J M out W ∧ (∀ q, M q → (M0 q ∨ w.heap.size ≤ q) ∧ q ≠ eb) ∧ Pts W eb #[.int .i64 (z : Int)] 24 ∧ Frm (fun q => M0 q ∨ q = fb) w W) ∨
  (cd = .exit 0 ∧ ∃ recs out src lv M, RnI w rb fb eb cb bud un B0 N0 put hold kind M0 J XE recs out src lv M W ∧ 1 ≤ src.length ∧ src.getD 0 0 = 0)
end
section
variable {w W W' : World} {rb fb eb cb bud un B0 N0 fput most : Nat} {lb : Array Value} {put hold : Value} {kind : Int} {M0 M : Nat → Prop} {J : (Nat → Prop) → List UInt8 → World → Prop} {XE : List UInt8 × (Nat ⊕ (List (Nat × Nat) × List UInt8))} {recs : List (Nat × Nat)} {out src : List UInt8} {lv : Value} {pre : List Fb}
theorem OwnPr.cellsX {T base : Nat} {v : Value} {l : List (Nat × Nat)} (h : OwnPr W T base v l) {q : Nat} (hq : v.ownBlock = some q) : ∃ c t f, W.heap[q]? = some (.cells c t f) := by
  rcases h.2 with ⟨h3, _⟩ | ⟨g, cap, cur, h3, _, hh, _⟩
  · rw [h3] at hq; cases hq
  · rw [h3] at hq
    injection hq with hq
    subst hq
    exact ⟨_, _, _, hh⟩
/-- Whatever changes no cells of its own. -/
theorem RnI.keepF {S : Nat → Prop} (hp : PutOk Tryz.prog fput lb B0 most J) (h : RnI w rb fb eb cb bud un B0 N0 put hold kind M0 J XE recs out src lv M W) (hf : Frm S W W') (hS : ∀ q, S q → w.heap.size ≤ q ∧ ∀ c t f, W.heap[q]? ≠ some (.cells c t f)) (hB0 : B0 ≤ w.heap.size) : RnI w rb fb eb cb bud un B0 N0 put hold kind M0 J XE recs out src lv M W' := by
  have hn : ∀ {q : Nat} {c : Array Value} {t : TypeId}, Pts W q c t → ¬ S q := fun hq hs => (hS _ hs).2 _ _ _ hq
  obtain ⟨A, n, c, used, hs, h1, h2, h3⟩ := h.s
  have hBW : Below B0 W W' := hf.below (Nat.le_trans hB0 h.f.size) (fun q hq => Nat.le_trans hB0 (hS q hq).1)
  exact ⟨Pts.frm h.r hf (hn h.r), h.o.frm hf (fun q hq hs => by obtain ⟨c, t, f, hc⟩ := h.o.cellsX hq; exact (hS q hs).2 _ _ _ hc), h.v, ⟨A, n, c, used, Pts.frm hs hf (hn hs), h1, h2.below hBW, h3⟩,
    hp.keep M _ W W' h.j (hf.mono fun q _ hq hm => by obtain ⟨_, c, t, f, hc⟩ := hp.own M _ W h.j q hm; exact (hS q hq).2 _ _ _ hc), h.m, h.e.frm hf (hn h.e), h.c.frm hf (hn h.c), h.f.transW hf (fun q hq hlt => by have := (hS q hq).1; omega), h.x, h.l, h.b.trans hBW⟩
theorem frm_put {l : Nat} {o o' : Obj} (ho : W.heap[l]? = some o) (hc : o.isCells = false) (hl : w.heap.size ≤ l) : Frm (fun q => q = l) W (W.putObj l o') ∧ ∀ q, q = l → w.heap.size ≤ q ∧ ∀ c t f, W.heap[q]? ≠ some (.cells c t f) := by
  refine ⟨(Frm.refl _ W).putObj (S := fun q => q = l) rfl o', fun q hq => ⟨by omega, fun c t f h => ?_⟩⟩
  subst hq
  rw [ho] at h
  injection h with h
  rw [h] at hc
  cases hc
theorem RnL.upd (hp : PutOk Tryz.prog fput lb B0 most J) (h : RnL w rb fb eb cb bud un B0 N0 put hold kind M0 J XE pre W) {l : Nat} {o o' : Obj} (hl : w.heap.size ≤ l) (ho : W.heap[l]? = some o) (hc : o.isCells = false) (hB0 : B0 ≤ w.heap.size) : RnL w rb fb eb cb bud un B0 N0 put hold kind M0 J XE pre (W.putObj l o') := by
  obtain ⟨recs, out, src, lv, M, h1, h2, h3⟩ := h
  obtain ⟨k1, k2⟩ := frm_put (w := w) (o' := o') ho hc hl
  exact ⟨recs, out, src, lv, M, h1.keepF hp k1 k2 hB0, h2, h3⟩
theorem RnL.alloc (hp : PutOk Tryz.prog fput lb B0 most J) (h : RnL w rb fb eb cb bud un B0 N0 put hold kind M0 J XE pre W) (o : Obj) (hB0 : B0 ≤ w.heap.size) : RnL w rb fb eb cb bud un B0 N0 put hold kind M0 J XE pre (W.alloc o) := by
  obtain ⟨recs, out, src, lv, M, h1, h2, h3⟩ := h
  exact ⟨recs, out, src, lv, M, h1.keepF (S := fun _ => False) hp ((Frm.refl _ W).alloc o) (fun _ h => h.elim) hB0, h2, h3⟩
theorem RnX.upd (hp : PutOk Tryz.prog fput lb B0 most J) {cd : Code} (h : RnX w rb fb eb cb bud un B0 N0 put hold kind M0 J XE cd pre W) {l : Nat} {o o' : Obj} (hl : w.heap.size ≤ l) (ho : W.heap[l]? = some o) (hc : o.isCells = false) (hB0 : B0 ≤ w.heap.size) : RnX w rb fb eb cb bud un B0 N0 put hold kind M0 J XE cd pre (W.putObj l o') := by
  obtain ⟨k1, k2⟩ := frm_put (w := w) (o' := o') ho hc hl
  rcases h with ⟨e, out, M, z, h1, h2, h3, h4, h5, h6⟩ | ⟨e, recs, out, src, lv, M, h1, h2⟩
  · refine .inl ⟨e, out, M, z, h1, h2, hp.keep M _ W _ h3 (k1.mono fun q _ hq hm => ?_), h4, h5.frm k1 (fun e => (k2 _ e).2 _ _ _ h5), h6.transW k1 (fun q hq hlt => by have := (k2 q hq).1; omega)⟩
    obtain ⟨_, c, t, f, hcc⟩ := hp.own M _ W h3 q hm
    exact (k2 q hq).2 _ _ _ hcc
  · exact .inr ⟨e, recs, out, src, lv, M, h1.keepF hp k1 k2 hB0, h2⟩
theorem RnL.k (h : RnL w rb fb eb cb bud un B0 N0 put hold kind M0 J XE pre W) : FbK w rb fb B0 un pre W := by
  obtain ⟨recs, out, src, lv, M, h1, h2, h3⟩ := h
  obtain ⟨A, n, c, used, hs, k1, k2, k3, k4, k5⟩ := h1.s
  exact ⟨h1.r.cells.1, ⟨A, n, c, used, src, hs, k4, k2, k3, by omega⟩, h1.b⟩
/-- A block is read. -/
theorem RnI.next (hp : PutOk Tryz.prog fput lb B0 most J) (h : RnI w rb fb eb cb bud un B0 N0 put hold kind M0 J XE recs out src lv M W) {e : Ending} (hB : BlkXEnd rb fb un B0 bud put hold kind J M lv recs out (xBlock bud kind out.length src) W e W') (hb : src.getD 0 0 ≠ 0) (h1 : 1 ≤ src.length) (hB0 : B0 ≤ w.heap.size) (hrb : w.heap.size ≤ rb) (hfbB : B0 ≤ fb) :
    (∀ q, q < W.heap.size → (∀ c t f, W.heap[q]? ≠ some (.cells c t f)) → W'.heap[q]? = W.heap[q]?) ∧
    ((∃ z : Nat, z ≠ 0 ∧ e = .returned (.int .i64 (z : Int)) ∧ Pts W' eb #[.int .i64 0] 24 ∧ ∃ out' M', XE = (out', .inl z) ∧ J M' out' W' ∧ (∀ q, M' q → (M0 q ∨ w.heap.size ≤ q) ∧ q ≠ eb) ∧ Frm (fun q => M0 q ∨ q = fb) w W') ∨
     (e = .returned (.int .i64 0) ∧ ∃ recs' out' src' lv' M', RnI w rb fb eb cb bud un B0 N0 put hold kind M0 J XE recs' out' src' lv' M' W' ∧ src'.length + 1 ≤ src.length)) := by
  obtain ⟨hf, M', hM', hE⟩ := hB
  obtain ⟨A, n, c, used, hs, k1, k2, k3, k4, k5⟩ := h.s
  have hcells : ∀ q, (M q ∨ q = fb ∨ q = rb ∨ lv.ownBlock = some q) → ∃ c t f, W.heap[q]? = some (.cells c t f) := fun q hq => by
    rcases hq with e | e | e | e
    · exact (hp.own M _ W h.j q e).2
    · subst e; exact ⟨_, _, _, hs⟩
    · subst e; exact ⟨_, _, _, h.r⟩
    · exact h.o.cellsX e
  have hty : ∀ {q : Nat} {c : Array Value} {T' : TypeId}, lv.ownBlock = some q → Pts W q c T' → (100 : Nat) = T' := fun {q c T'} hq hpp => by
    rcases h.o.2 with ⟨h3, _⟩ | ⟨g, cap, cur, h3, _, hh, _⟩
    · rw [h3] at hq; cases hq
    · rw [h3] at hq
      injection hq with hq
      subst hq
      have h9 : W.heap[g]? = some (.cells cur 100 (0, 0)) := hh
      unfold Pts at hpp
      rw [h9] at hpp
      injection hpp with hpp
      injection hpp
  have hne : ¬ (M eb ∨ eb = fb ∨ eb = rb ∨ lv.ownBlock = some eb) := by
    rintro (e | e | e | e)
    · exact (h.m _ e).2.2.2.1 rfl
    · exact h.e.ne_of hs (by decide) e
    · exact h.e.ne_of h.r (by decide) e
    · exact absurd (hty e h.e) (by decide)
  have hnc : ¬ (M cb ∨ cb = fb ∨ cb = rb ∨ lv.ownBlock = some cb) := by
    rintro (e | e | e | e)
    · exact (h.m _ e).2.2.2.2 rfl
    · exact h.c.ne_of hs (by decide) e
    · exact h.c.ne_of h.r (by decide) e
    · exact absurd (hty e h.c) (by decide)
  have he' := h.e.frm hf hne
  have hc' := h.c.frm hf hnc
  have hel := h.e.lt
  have hcl := h.c.lt
  have hrl := Pts.lt h.r
  have hfl := Pts.lt hs
  have hw := h.f.size
  have hM2 : ∀ q, M' q → (M0 q ∨ w.heap.size ≤ q) ∧ q ≠ rb ∧ q ≠ fb ∧ q ≠ eb ∧ q ≠ cb := fun q hq => by
    rcases hM' q hq with e | e
    · exact h.m q e
    · exact ⟨.inr (by omega), by omega, by omega, by omega, by omega⟩
  have hfw : Frm (fun q => M0 q ∨ q = fb) w W' := h.f.transW hf (fun q hq hlt => by
    rcases hq with e | e | e | e
    · rcases (h.m q e).1 with e2 | e2
      · exact .inl e2
      · omega
    · exact .inr e
    · omega
    · have := (h.v q e).2; omega)
  have hBW : Below B0 W W' := hf.below (Nat.le_trans hB0 hw) (fun q hq => by
    rcases hq with e | e | e | e
    · exact (hp.own M _ W h.j q e).1
    · omega
    · omega
    · exact (h.o.lt e).1)
  refine ⟨fun q hq hnq => hf.block q hq (fun hS => by obtain ⟨c, t, f, hc⟩ := hcells q hS; exact hnq _ _ _ hc), ?_⟩
  obtain ⟨f, hlf, hXE⟩ := h.x
  obtain ⟨f', rfl⟩ : ∃ f', f = f' + 1 := ⟨f - 1, by omega⟩
  have hXE2 : XE = match xBlock bud kind out.length src with
      | .err e o => (out ++ o, .inl e)
      | .ok o r rest => xBlocks bud kind f' (recs ++ [r]) (out ++ o) rest := by
    rw [hXE]
    conv => lhs; unfold xBlocks
    rw [if_neg (by omega), if_neg hb]
    cases xBlock bud kind out.length src <;> rfl
  cases hx : xBlock bud kind out.length src with
  | err z o =>
    rw [hx] at hE hXE2
    obtain ⟨hz, rfl, hj⟩ := hE
    exact .inl ⟨z, hz, rfl, he', out ++ o, M', hXE2, hj, fun q hq => ⟨(hM2 q hq).1, (hM2 q hq).2.2.2.1⟩, hfw⟩
  | ok o r rest =>
    rw [hx] at hE hXE2
    obtain ⟨rfl, hj, lv', hr', ho', hv', A', n', c', used', hs', g1, g2, g3, g4, g5⟩ := hE
    obtain ⟨m, hm1, hm2, hrest, _⟩ := xBlock_front hx
    have hrl2 : rest.length = src.length - m := by rw [hrest, List.length_drop]
    have hol := xBlock_len hx
    refine .inr ⟨rfl, recs ++ [r], out ++ o, rest, lv', M', ⟨hr', ho', fun q hq => ⟨(hv' q hq).1, ?_⟩, ⟨A', n', c', used', hs', g1, g2, g3, g4, g5⟩, hj, hM2, he', hc', hfw, ⟨f', by omega, hXE2⟩, ⟨?_, ?_⟩, h.b.trans hBW⟩, by omega⟩
    · rcases (hv' q hq).2 with e | e
      · exact (h.v q e).2
      · omega
    · have := h.l.1
      rw [List.length_append]
      rcases hol with e | e
      · exact e
      · rw [e]; simp; omega
    · have := h.l.2
      rw [List.length_append]
      simp only [List.length_cons, List.length_nil]
      omega
end
end Go.Proofs.YtgahfpflhhfhfaaGreat

/- A member that is read: the walk of Run. -/
namespace Go.Proofs.YtgahfpflhhfhfaaGreat
open Go.RowKit Rng Win Lz Box
set_option linter.unusedVariables false
set_option linter.unusedSimpArgs false
attribute [local go_sem] Oper.semAt_some
/-- How Run ends. -/
def XRunEnd (fb un : Nat) (M0 : Nat → Prop) (J : (Nat → Prop) → List UInt8 → World → Prop) (R : List UInt8 × (Nat ⊕ List UInt8)) (w : World) (e : Ending) (w' : World) : Prop :=
  (∃ M', J M' R.1 w' ∧ ∀ q, M' q → M0 q ∨ w.heap.size ≤ q) ∧ Frm (fun q => M0 q ∨ q = fb) w w' ∧ match R.2 with
    | .inl z => z ≠ 0 ∧ e = .returned (.int .i64 (z : Int))
    | .inr r => e = .returned (.int .i64 0) ∧ ∃ A n c used, SrcAt w' fb A n c used ∧ used + n = un ∧ n = r.length
theorem xrun_fin {fb un z B0 fput most D : Nat} {lb : Array Value} {M0 M : Nat → Prop} {J : (Nat → Prop) → List UInt8 → World → Prop} {R : List UInt8 × (Nat ⊕ List UInt8)} {out : List UInt8} {w W : World} {o o' : Obj} (hp : PutOk Tryz.prog fput lb B0 most J) (hR : R = (out, .inl z)) (hz : z ≠ 0) (hj : J M out W) (hM : ∀ q, M q → M0 q ∨ w.heap.size ≤ q) (hf : Frm (fun q => M0 q ∨ q = fb) w W) (ho : W.heap[D]? = some o) (hc : o.isCells = false) (hD : w.heap.size ≤ D) :
    XRunEnd fb un M0 J R w (.returned (.int .i64 (z : Int))) (W.putObj D o') := by
  subst hR
  obtain ⟨k1, k2⟩ := frm_put (w := w) (o' := o') ho hc hD
  exact ⟨⟨M, hp.keep M _ W _ hj (k1.mono fun q _ hq hm => by obtain ⟨_, c, t, f, hcc⟩ := hp.own M _ W hj q hm; exact (k2 q hq).2 _ _ _ hcc), hM⟩, hf.transW k1 (fun q hq hlt => by have := (k2 q hq).1; omega), hz, rfl⟩
theorem put_cell {W : World} {eb D : Nat} {v : Value} {T : TypeId} {o o' : Obj} (he : Pts W eb #[v] T) (ho : W.heap[D]? = some o) (hc : o.isCells = false) : (W.putObj D o').cell? ⟨eb, 0, none⟩ = some v := by
  have h : Pts (W.putObj D o') eb #[v] T := (World.putObj_heap_other (cells_ne he ho hc)).trans he
  rw [h.cell]
  rfl
/-- Behind the index. -/
structure RnT (w : World) (rb fb eb cb bud D : Nat) (put hold : Value) (kind : Int) (told : Nat) (lv : Value) (M0 M : Nat → Prop) (J : (Nat → Prop) → List UInt8 → World → Prop) (out : List UInt8) (W : World) : Prop where
  e : Pts W eb #[.int .i64 0] 24
  c : Pts W cb #[.pointer (some ⟨rb, 0, none⟩)] 60
  r : RxAt W rb fb bud put hold kind told lv
  j : J M out W
  m : ∀ q, M q → (M0 q ∨ w.heap.size ≤ q) ∧ q ≠ fb ∧ q ≠ eb
  f : Frm (fun q => M0 q ∨ q = fb) w W
  d : W.heap[D]? = some (.deferred (some []))
section
variable {w W W' : World} {rb fb eb cb bud D un B0 fput most told : Nat} {lb : Array Value} {put hold lv : Value} {kind : Int} {M0 M : Nat → Prop} {J : (Nat → Prop) → List UInt8 → World → Prop} {out : List UInt8}
theorem RnT.cells (h : RnT w rb fb eb cb bud D put hold kind told lv M0 M J out W) : W.cell? ⟨eb, 0, none⟩ = some (.int .i64 0) ∧ W.frozen? ⟨eb, 0, none⟩ = false ∧ W.cell? ⟨cb, 0, none⟩ = some (.pointer (some ⟨rb, 0, none⟩)) ∧ W.cell? ⟨rb, 4, none⟩ = some (.int .i64 kind) :=
  ⟨by rw [h.e.cell]; rfl, h.e.frozen 0, by rw [h.c.cell]; rfl, h.r.cells.2.2.2.2.1⟩
theorem RnT.takes (hp : PutOk Tryz.prog fput lb B0 most J) (h : RnT w rb fb eb cb bud D put hold kind told lv M0 M J out W) {A : Option Addr} {n c used : Nat} (hs : SrcAt W fb A n c used) (hf : Frm (· = fb) W W') : RnT w rb fb eb cb bud D put hold kind told lv M0 M J out W' :=
  ⟨h.e.frm hf (h.e.ne_of hs (by decide)), h.c.frm hf (h.c.ne_of hs (by decide)), Pts.frm h.r hf (Pts.ne_of h.r hs (by decide)), hp.keep M _ W W' h.j (hf.mono fun q _ e hm => (h.m q hm).2.1 e), h.m, h.f.trans (hf.mono fun q _ e => .inr e),
    (hf.block _ (Array.getElem?_eq_some_iff.1 h.d).1 (fun e => by have h2 := hs; rw [← e] at h2; exact absurd (h.d.symm.trans h2) (by simp))).trans h.d⟩
theorem RnT.still (hp : PutOk Tryz.prog fput lb B0 most J) (h : RnT w rb fb eb cb bud D put hold kind told lv M0 M J out W) (hb : Below W.heap.size W W') : RnT w rb fb eb cb bud D put hold kind told lv M0 M J out W' :=
  ⟨h.e.below hb h.e.lt, h.c.below hb h.c.lt, Pts.below h.r hb (Pts.lt h.r), hp.keep M _ W W' h.j (Frm.of_below hb), h.m, h.f.trans (Frm.of_below hb), (hb.block _ (Array.getElem?_eq_some_iff.1 h.d).1).trans h.d⟩
theorem RnT.fin (hp : PutOk Tryz.prog fput lb B0 most J) (h : RnT w rb fb eb cb bud D put hold kind told lv M0 M J out W) {R : List UInt8 × (Nat ⊕ List UInt8)} {z : Nat} (hR : R = (out, .inl z)) (hz : z ≠ 0) (heb : w.heap.size ≤ eb) (hD : w.heap.size ≤ D) :
    (W.setCell ⟨eb, 0, none⟩ (.int .i64 (z : Int))).heap[D]? = some (.deferred (some [])) ∧ ((W.setCell ⟨eb, 0, none⟩ (.int .i64 (z : Int))).putObj D (.deferred none)).cell? ⟨eb, 0, none⟩ = some (.int .i64 (z : Int)) ∧ XRunEnd fb un M0 J R w (.returned (.int .i64 (z : Int))) ((W.setCell ⟨eb, 0, none⟩ (.int .i64 (z : Int))).putObj D (.deferred none)) := by
  have hne : D ≠ eb := fun e => by
    have h2 := h.e
    rw [← e] at h2
    exact absurd (h.d.symm.trans h2) (by simp)
  have hd : (W.setCell ⟨eb, 0, none⟩ (.int .i64 (z : Int))).heap[D]? = some (.deferred (some [])) := (Below.heap_setCell _ _ _ _ hne).trans h.d
  exact ⟨hd, put_cell (h.e.set 0 (.int .i64 (z : Int))) hd rfl, xrun_fin hp hR hz (hp.keep M _ W _ h.j ((Frm.refl _ W).setCell (p := ⟨eb, 0, none⟩) (fun hm => (h.m _ hm).2.2 rfl) _)) (fun q hq => (h.m q hq).1) (h.f.transW ((Frm.refl (fun q => q = eb) W).setCell (p := ⟨eb, 0, none⟩) rfl _) (fun q hq hlt => by omega)) hd rfl hD⟩
theorem RnT.ok (hp : PutOk Tryz.prog fput lb B0 most J) (h : RnT w rb fb eb cb bud D put hold kind told lv M0 M J out W) {R : List UInt8 × (Nat ⊕ List UInt8)} {s : List UInt8} {A : Option Addr} {n c used : Nat} (hR : R = (out, .inr s)) (hs : SrcAt W fb A n c used) (hun : used + n = un) (hn : n = s.length) (heb : w.heap.size ≤ eb) (hD : w.heap.size ≤ D) :
    (W.setCell ⟨eb, 0, none⟩ (.int .i64 0)).heap[D]? = some (.deferred (some [])) ∧ ((W.setCell ⟨eb, 0, none⟩ (.int .i64 0)).putObj D (.deferred none)).cell? ⟨eb, 0, none⟩ = some (.int .i64 0) ∧ XRunEnd fb un M0 J R w (.returned (.int .i64 0)) ((W.setCell ⟨eb, 0, none⟩ (.int .i64 0)).putObj D (.deferred none)) := by
  have hne : D ≠ eb := fun e => by
    have h2 := h.e
    rw [← e] at h2
    exact absurd (h.d.symm.trans h2) (by simp)
  have hd : (W.setCell ⟨eb, 0, none⟩ (.int .i64 0)).heap[D]? = some (.deferred (some [])) := (Below.heap_setCell _ _ _ _ hne).trans h.d
  have hfin : Frm (fun q => q = eb ∨ q = D) W ((W.setCell ⟨eb, 0, none⟩ (.int .i64 0)).putObj D (.deferred none)) := ((Frm.refl (fun q => q = eb ∨ q = D) W).setCell (p := ⟨eb, 0, none⟩) (.inl rfl) _).putObj (.inr rfl) _
  subst hR
  refine ⟨hd, put_cell (h.e.set 0 (.int .i64 0)) hd rfl, ⟨M, hp.keep M _ W _ h.j (hfin.mono fun q _ hq hm => ?_), fun q hq => (h.m q hq).1⟩, h.f.transW hfin (fun q hq hlt => by omega), rfl, A, n, c, used, Pts.frm hs hfin ?_, hun, hn⟩
  · rcases hq with e | e
    · exact (h.m q hm).2.2 e
    · obtain ⟨_, c, t, f, hcc⟩ := hp.own M _ W h.j q hm
      rw [e, h.d] at hcc
      cases hcc
  · rintro (e | e)
    · exact hs.ne_of h.e (by decide) e
    · have h2 := hs
      rw [e] at h2
      exact absurd (h.d.symm.trans h2) (by simp)
end
/-- A member's padding is dropped. -/
def xFin (X : List UInt8 × (Nat ⊕ List UInt8)) : List UInt8 × (Nat ⊕ List UInt8) :=
  match X with
  | (out, .inl e) => (out, .inl e)
  | (out, .inr r) => (out, .inr (dropPad r.length r))
/-- Behind the blocks. -/
def xMid (kind : Int) (X : List UInt8 × (Nat ⊕ (List (Nat × Nat) × List UInt8))) : List UInt8 × (Nat ⊕ List UInt8) :=
  match X with
  | (out, .inl e) => (out, .inl e)
  | (out, .inr (recs, s)) => xEnd kind out recs s
theorem xMem_mid {bud : Nat} {bs : List UInt8} (h : ¬ bs.length < 12) : xMem bud bs = if (headOf (bs.take 12)).2 ≠ 0 then ([], .inl (headOf (bs.take 12)).2.toNat) else xMid (headOf (bs.take 12)).1 (xBlocks bud (headOf (bs.take 12)).1 (bs.length + 1) [] [] (bs.drop 12)) := by
  unfold xMem
  rw [if_neg h]
  rfl
def budOf (b : Int) : Nat := (min (max b 0) 16777216).toNat
theorem xrun_err {fb un z eb B0 fput most : Nat} {lb : Array Value} {M0 M : Nat → Prop} {J : (Nat → Prop) → List UInt8 → World → Prop} {R : List UInt8 × (Nat ⊕ List UInt8)} {out : List UInt8} {w W : World} {v : Value} {S : Nat → Prop} (hp : PutOk Tryz.prog fput lb B0 most J) (hR : R = (out, .inl z)) (hz : z ≠ 0) (hj : J M out W) (hM : ∀ q, M q → (M0 q ∨ w.heap.size ≤ q) ∧ q ≠ eb) (hf : Frm S w W) (hS : ∀ q, S q → q < w.heap.size → M0 q ∨ q = fb) (heb : w.heap.size ≤ eb) :
    XRunEnd fb un M0 J R w (.returned (.int .i64 (z : Int))) (W.setCell ⟨eb, 0, none⟩ v) := by
  subst hR
  exact ⟨⟨M, hp.keep M _ W _ hj ((Frm.refl _ W).setCell (p := ⟨eb, 0, none⟩) (fun hm => (hM _ hm).2 rfl) v), fun q hq => (hM q hq).1⟩, (hf.mono fun q hlt hq => hS q hq hlt).transW ((Frm.refl (fun q => q = eb) W).setCell (p := ⟨eb, 0, none⟩) rfl v) (fun q hq hlt => by omega), hz, rfl⟩
set_option maxRecDepth 8000 in
set_option maxHeartbeats 8000000 in
theorem xrun_p (fb B0 fput : Nat) (lb : Array Value) (J : (Nat → Prop) → List UInt8 → World → Prop) (M0 : Nat → Prop) (budget : Int) (A : Option Addr) (n c used un : Nat) (bs : List UInt8) (w : World)
    (hp : PutOk Tryz.prog fput lb B0 16777216 J) (hj : J M0 [] w) (hfb : ¬ M0 fb) (hfb0 : B0 ≤ fb) (hs : SrcAt w fb A n c used) (hn : n = bs.length) (hr : BRow w B0 A bs) (hB0 : B0 ≤ w.heap.size) (hc : n ≤ c) (hcm : c ≤ maxLen) (hu : used + n = un) (hub : un ≤ 4611686018427387904) (hl : n ≤ 100000000) :
    Calls Tryz.prog 16 #[.pointer (some ⟨fb, 0, none⟩), .int .i64 budget, .func (.func fput) #[] lb, .func (.func 18) #[] #[]] w (XRunEnd fb un M0 J (xP (budOf budget) bs) w) := by
  obtain ⟨PUT, hPUT⟩ : ∃ P, Value.func (.func fput) #[] lb = P := ⟨_, rfl⟩
  have HPUT := Lib.hid hPUT
  have HP := Lib.hid hp
  have HJ := Lib.hid (And.intro hj (And.intro (hp.lt hj) hfb))
  have HS : Hid (SrcAt w fb A n c used ∧ n = bs.length ∧ BRow w B0 A bs ∧ B0 ≤ w.heap.size ∧ n ≤ c ∧ c ≤ maxLen ∧ used + n = un ∧ B0 ≤ fb ∧ un ≤ 4611686018427387904 ∧ n ≤ 100000000 ∧ fb < w.heap.size) := Lib.hid ⟨hs, hn, hr, hB0, hc, hcm, hu, hfb0, hub, hl, Pts.lt hs⟩
  obtain ⟨R, hR⟩ : ∃ R, xP (budOf budget) bs = R := ⟨_, rfl⟩
  rw [hR]
  have HR := Lib.hid hR
  obtain ⟨bud, hbud⟩ : ∃ bud, budOf budget = bud := ⟨_, rfl⟩
  have HBU := Lib.hid hbud
  have hbi : min (max budget 0) 16777216 = (bud : Int) := by rw [← hbud]; unfold budOf; omega
  have hbb : bud ≤ 16777216 := by rw [← hbud]; unfold budOf; omega
  obtain ⟨mx, hmx⟩ : ∃ mx, max budget 0 = mx := ⟨_, rfl⟩
  rw [hmx] at hbi
  have f1 := fun w => Fnd.max2_int (P := Tryz.prog) #[3, 3] 3 _ _ _ hmx w
  have f2 := fun w => Fnd.min2_int (P := Tryz.prog) #[3, 3] 3 _ _ _ hbi w
  clear hp hj hfb hs hn hr hB0 hc hcm hu hfb0 hub hl hR hPUT hbud hmx hbi
  obtain ⟨W1, hW1⟩ : ∃ W, ((w.alloc (.cells #[.int .i64 0] 24)).alloc (.cells #[.pointer (some ⟨fb, 0, none⟩), .int .i64 (bud : Int), .func (.func fput) #[] lb, .func (.func 18) #[] #[], .int .i64 0, .int .i64 0, .slice none 0 0] 62)).alloc (.cells #[.pointer (some ⟨w.heap.size + 1, 0, none⟩)] 60) = W := ⟨_, rfl⟩
  have hs1 : W1.heap.size = w.heap.size + 1 + 1 + 1 := by rw [← hW1]; simp only [World.size_alloc]
  have hB1 : Below w.heap.size w W1 := by rw [← hW1]; exact (((Below.refl _ w).alloc (Nat.le_refl _) _).alloc (by simp only [World.size_alloc]; omega) _).alloc (by simp only [World.size_alloc]; omega) _
  have pe1 : Pts W1 w.heap.size #[.int .i64 0] 24 := by rw [← hW1]; exact ((Pts.new w _ _).alloc _).alloc _
  have pr1 : RxAt W1 (w.heap.size + 1) fb bud PUT (.func (.func 18) #[] #[]) 0 0 (.slice none 0 0) := by
    rw [← hW1, ← HPUT.out]
    have h := (Pts.new (w.alloc (.cells #[.int .i64 0] 24)) #[.pointer (some ⟨fb, 0, none⟩), .int .i64 (bud : Int), .func (.func fput) #[] lb, .func (.func 18) #[] #[], .int .i64 0, .int .i64 0, .slice none 0 0] 62).alloc (.cells #[.pointer (some ⟨w.heap.size + 1, 0, none⟩)] 60)
    rw [World.size_alloc] at h
    exact h
  have pc1 : Pts W1 (w.heap.size + 1 + 1) #[.pointer (some ⟨w.heap.size + 1, 0, none⟩)] 60 := by
    rw [← hW1]
    have h := Pts.new ((w.alloc (.cells #[.int .i64 0] 24)).alloc (.cells #[.pointer (some ⟨fb, 0, none⟩), .int .i64 (bud : Int), .func (.func fput) #[] lb, .func (.func 18) #[] #[], .int .i64 0, .int .i64 0, .slice none 0 0] 62)) #[.pointer (some ⟨w.heap.size + 1, 0, none⟩)] 60
    rw [World.size_alloc, World.size_alloc] at h
    exact h
  have hsrc1 : SrcAt W1 fb A n c used := Pts.below HS.out.1 hB1 HS.out.2.2.2.2.2.2.2.2.2.2
  have hj1 := HP.out.keep M0 _ w W1 HJ.out.1 (Frm.of_below hB1)
  have hr1 := HS.out.2.2.1.below (hB1.mono HS.out.2.2.2.1)
  have cc1 : W1.cell? ⟨w.heap.size + 1 + 1, 0, none⟩ = some (.pointer (some ⟨w.heap.size + 1, 0, none⟩)) := by rw [pc1.cell]; rfl
  have ce1 : W1.cell? ⟨w.heap.size, 0, none⟩ = some (.int .i64 0) := by rw [pe1.cell]; rfl
  have ze1 := pe1.frozen 0
  have H1 : Hid (W1.heap.size = w.heap.size + 1 + 1 + 1 ∧ Below w.heap.size w W1 ∧ Pts W1 w.heap.size #[.int .i64 0] 24 ∧ RxAt W1 (w.heap.size + 1) fb bud PUT (.func (.func 18) #[] #[]) 0 0 (.slice none 0 0) ∧ Pts W1 (w.heap.size + 1 + 1) #[.pointer (some ⟨w.heap.size + 1, 0, none⟩)] 60 ∧ SrcAt W1 fb A n c used ∧ J M0 [] W1 ∧ BRow W1 B0 A bs) := Lib.hid ⟨hs1, hB1, pe1, pr1, pc1, hsrc1, hj1, hr1⟩
  clear hs1 hB1 pe1 pr1 pc1 hsrc1 hj1 hr1
  have hXP : R = xFin (xMem bud bs) := by rw [← HR.out, HBU.out]; rfl
  have HXP := Lib.hid hXP
  clear hXP HR
  refine (callsIn_wide (n := 6)).1 ?_
  refine callsIn_of_wp_marks Tryz.func16 rfl trivial ?_ rfl
  simp only [Tryz.ntmps16, List.size_toArray, List.length_cons, List.length_nil, Nat.reduceAdd, Nat.reduceSub, Array.replicate_succ, Array.replicate_zero, List.push_toArray, List.append_toArray, List.nil_append, List.cons_append]
  refine wpIn_wide.2 ?_
  by_cases hsh : n < 12
  · have HT := Lib.hid (rtake_no (w.heap.size + 1) fb bud PUT _ 0 0 _ A n c used 12 W1 H1.out.2.2.2.1 H1.out.2.2.2.2.2.1 hsh)
    have HRE : Hid (R = ([], .inl 10)) := Lib.hid (by rw [HXP.out]; unfold xMem; rw [if_pos (by have := HS.out.2.1; omega)]; rfl)
    clear hsh
    go_wp2
    go_step3
    go_wp2_with fail
    refine HT.out.mono ?_; rintro e w2 ⟨rfl, rfl⟩
    go_wp2
    have hce : (W1.setCell ⟨w.heap.size, 0, none⟩ (.int .i64 10)).cell? ⟨w.heap.size, 0, none⟩ = some (.int .i64 10) := by rw [(H1.out.2.2.1.set 0 (.int .i64 10)).cell]; rfl
    rw [Exit.noGoto_ret]
    refine ⟨.int .i64 10, by simp [results, Tryz.results16, go_sem, hce], ?_⟩
    exact xrun_err HP.out HRE.out (by decide) H1.out.2.2.2.2.2.2.1 (fun q hq => ⟨.inl hq, by have := HJ.out.2.1 q hq; omega⟩) (Frm.of_below (S := fun _ => False) H1.out.2.1) (fun _ h => h.elim) (Nat.le_refl _)
  · have HT := Lib.hid (rtake_p (w.heap.size + 1) fb bud PUT _ 0 0 _ A n c used 12 W1 H1.out.2.2.2.1 H1.out.2.2.2.2.2.1 HS.out.2.2.2.2.1 (by omega) (by have := HS.out.2.2.2.2.2.2.1; have := HS.out.2.2.2.2.2.2.2.2.1; omega))
    have hXQ := HXP.out
    rw [xMem_mid (by have := HS.out.2.1; omega)] at hXQ
    obtain ⟨kind, he, hk, hhd⟩ : ∃ (kind he : Nat), (he ≠ 0 ∨ kind = kind) ∧ headOf (bs.take 12) = ((kind : Int), (he : Int)) := by
      unfold headOf
      repeat' split
      · exact ⟨0, 10, .inr rfl, rfl⟩
      · exact ⟨0, 11, .inr rfl, rfl⟩
      · exact ⟨0, 12, .inr rfl, rfl⟩
      · exact ⟨_, 0, .inr rfl, rfl⟩
    rw [hhd] at hXQ
    have hl12 : (bs.take 12).length = 12 := by rw [List.length_take]; have := HS.out.2.1; omega
    obtain ⟨hd, hhd2⟩ : ∃ hd, bs.take 12 = hd := ⟨_, rfl⟩
    obtain ⟨sr, hsr⟩ : ∃ sr, bs.drop 12 = sr := ⟨_, rfl⟩
    have hsl : sr.length + 12 = bs.length := by rw [← hsr, List.length_drop]; have := HS.out.2.1; omega
    rw [hhd2] at hl12 hhd
    rw [hsr] at hXQ
    have HXQ := Lib.hid hXQ
    have HHD := Lib.hid (And.intro hhd2 (And.intro hsr (And.intro hsl (And.intro hl12 hhd))))
    have HSH := Lib.hid hsh
    clear hXQ hk hhd2 hsr hsl hl12 hhd hsh HXP
    go_wp2
    go_step3
    go_wp2_with fail
    rw [HPUT.out]
    refine HT.out.mono ?_; rintro e w2 ⟨rfl, hs2, hf2⟩
    have hebn : w.heap.size ≠ fb := by have := HS.out.2.2.2.2.2.2.2.2.2.2; omega
    have hcbn : w.heap.size + 1 + 1 ≠ fb := by have := HS.out.2.2.2.2.2.2.2.2.2.2; omega
    have pe2 := H1.out.2.2.1.frm hf2 hebn
    have pc2 := H1.out.2.2.2.2.1.frm hf2 hcbn
    have pr2 : RxAt w2 (w.heap.size + 1) fb bud PUT (.func (.func 18) #[] #[]) 0 0 (.slice none 0 0) := Pts.frm H1.out.2.2.2.1 hf2 (by have := HS.out.2.2.2.2.2.2.2.2.2.2; omega)
    have hj2 := HP.out.keep M0 _ W1 w2 H1.out.2.2.2.2.2.2.1 (hf2.mono fun q _ e hm => HJ.out.2.2 (e ▸ hm))
    have hz2 : w.heap.size + 3 ≤ w2.heap.size := by have := hf2.size; have := H1.out.1; omega
    have hb2 : Below B0 W1 w2 := hf2.below (by have := HS.out.2.2.2.1; have := H1.out.1; omega) (fun q hq => by have := HS.out.2.2.2.2.2.2.2.1; omega)
    have hr2 : BRow w2 B0 A bs := H1.out.2.2.2.2.2.2.2.below hb2
    have hrd : BRow w2 B0 (takeA A c 12) sr := by
      have h := hr2.drop (k := 12) (cap := c) (by have := HS.out.2.1; have := HS.out.2.2.2.2.1; omega)
      rw [HHD.out.2.1] at h
      exact h
    have hrt : BRow w2 B0 A hd := by rw [← HHD.out.1]; exact hr2.take 12
    have hFw : Frm (fun q => M0 q ∨ q = fb) w w2 := (Frm.of_below H1.out.2.1).trans (hf2.mono fun q _ e => .inr e)
    have hBw : Below B0 w w2 := (H1.out.2.1.mono HS.out.2.2.2.1).trans hb2
    have hHD := fun W3 (hb : Below w2.heap.size w2 W3) => head_p A hd 12 12 W3 HHD.out.2.2.2.1.symm (Nat.le_refl _) (by have := HS.out.2.2.2.2.1; have := HS.out.2.2.2.2.2.1; have := HSH.out; omega) ((hrt.below (hb.mono (by have := HS.out.2.2.2.1; omega))).more (by have := hb.size; have := HS.out.2.2.2.1; omega)) (by rw [HHD.out.2.2.2.1]; decide)
    rw [HHD.out.2.2.2.2] at hHD
    unfold checkV at hHD
    have cc2 : w2.cell? ⟨w.heap.size + 1 + 1, 0, none⟩ = some (.pointer (some ⟨w.heap.size + 1, 0, none⟩)) := by rw [pc2.cell]; rfl
    have H2 : Hid (Pts w2 w.heap.size #[.int .i64 0] 24 ∧ Pts w2 (w.heap.size + 1 + 1) #[.pointer (some ⟨w.heap.size + 1, 0, none⟩)] 60 ∧ RxAt w2 (w.heap.size + 1) fb bud PUT (.func (.func 18) #[] #[]) 0 0 (.slice none 0 0) ∧ J M0 [] w2 ∧ w.heap.size + 3 ≤ w2.heap.size ∧ BRow w2 B0 (takeA A c 12) sr ∧ Frm (fun q => M0 q ∨ q = fb) w w2 ∧ Below B0 w w2 ∧ SrcAt w2 fb (takeA A c 12) (n - 12) (c - 12) (used + 12)) := Lib.hid ⟨pe2, pc2, pr2, hj2, hz2, hrd, hFw, hBw, hs2⟩
    have HHE := Lib.hid hHD
    clear hs2 hf2 pe2 pc2 pr2 hj2 hz2 hb2 hr2 hrd hrt hFw hBw hHD cc1 ce1 ze1 HT
    go_wp2
    go_region_held3 (fun w' => w'.cell? ⟨w.heap.size + 1 + 1, 0, none⟩ = some (.pointer (some ⟨w.heap.size + 1, 0, none⟩))) (first | assumption | exact cc2 | exact cc3s _)
      (first
      | (go_at_call 21; refine (HHE.out w2.drew ((Below.refl _ w2).drew)).mono ?_; rintro e w3 ⟨rfl, hb3⟩; replace hb3 : Below w2.heap.size w2 w3 := ⟨hb3.os, hb3.tape, hb3.output, hb3.size, hb3.block⟩; have cc3 : w3.cell? ⟨w.heap.size + 1 + 1, 0, none⟩ = some (.pointer (some ⟨w.heap.size + 1, 0, none⟩)) := (hb3.cell (p := ⟨w.heap.size + 1 + 1, 0, none⟩) (show w.heap.size + 1 + 1 < w2.heap.size by have := H2.out.2.2.2.2.1; omega)).trans cc2; have z43 := Pts.frozen (Pts.below H2.out.2.2.1 hb3 (Pts.lt H2.out.2.2.1)) 4; have c43 : w3.cell? ⟨w.heap.size + 1, 4, none⟩ = some (.int .i64 0) := (show RxAt w3 _ _ _ _ _ _ _ _ from Pts.below H2.out.2.2.1 hb3 (Pts.lt H2.out.2.2.1)).cells.2.2.2.2.1; have cc3s : ∀ v, (w3.setCell ⟨w.heap.size + 1, 4, none⟩ v).cell? ⟨w.heap.size + 1 + 1, 0, none⟩ = some (.pointer (some ⟨w.heap.size + 1, 0, none⟩)) := fun v => by { rw [((Pts.below H2.out.2.1 hb3 (Pts.lt H2.out.2.1)).other (p := ⟨w.heap.size + 1, 4, none⟩) (by show w.heap.size + 1 + 1 ≠ w.heap.size + 1; omega) v).cell]; rfl }; have HB3 := Lib.hid hb3; clear hb3))
    obtain ⟨W3, hW3⟩ : ∃ W, w3.setCell ⟨w.heap.size + 1, 4, none⟩ (.int .i64 (kind : Int)) = W := ⟨_, rfl⟩
    rw [hW3]
    have hf3 : Frm (fun q => q = w.heap.size + 1) w2 W3 := by rw [← hW3]; exact (Frm.of_below (S := fun q => q = w.heap.size + 1) HB3.out).setCell (p := ⟨w.heap.size + 1, 4, none⟩) rfl _
    have hB03 : Below B0 w2 W3 := hf3.below (by have := H2.out.2.2.2.2.1; have := HS.out.2.2.2.1; omega) (fun q hq => by have := HS.out.2.2.2.1; omega)
    have hI3 : ∀ XE, (XE = xBlocks bud (kind : Int) (bs.length + 1) [] [] sr) → RnI w (w.heap.size + 1) fb w.heap.size (w.heap.size + 1 + 1) bud un B0 bs.length PUT (.func (.func 18) #[] #[]) (kind : Int) M0 J XE [] [] sr (.slice none 0 0) M0 W3 := fun XE hXE => by
      have hfl := HS.out.2.2.2.2.2.2.2.2.2.2
      have hsl := HHD.out.2.2.1
      refine ⟨?_, OwnPr.nil _ _ _, fun q hq => (by cases hq), ⟨_, _, _, _, Pts.frm H2.out.2.2.2.2.2.2.2.2 hf3 (by omega), by have := HS.out.2.2.2.2.2.2.1; have := HSH.out; omega, H2.out.2.2.2.2.2.1.below hB03, by have := HS.out.2.1; omega, by have := HS.out.2.2.2.2.1; omega, by have := HS.out.2.2.2.2.2.1; omega⟩,
        HP.out.keep M0 _ w2 W3 H2.out.2.2.2.1 (hf3.mono fun q _ e hm => by have := HJ.out.2.1 q hm; omega), fun q hq => ⟨.inl hq, by have := HJ.out.2.1 q hq; omega, fun e => HJ.out.2.2 (e ▸ hq), by have := HJ.out.2.1 q hq; omega, by have := HJ.out.2.1 q hq; omega⟩,
        H2.out.1.frm hf3 (by omega), H2.out.2.1.frm hf3 (by omega), H2.out.2.2.2.2.2.2.1.transW hf3 (fun q hq hlt => by omega), ⟨bs.length + 1, by omega, hXE⟩, ⟨by simp, by simp; omega⟩, H2.out.2.2.2.2.2.2.2.1.trans hB03⟩
      rw [← hW3]
      exact Pts.set (Pts.below H2.out.2.2.1 HB3.out (Pts.lt H2.out.2.2.1)) 4 _
    have hII := hI3 _ rfl
    have HI3 := Lib.hid hII
    have ce3 : W3.cell? ⟨w.heap.size, 0, none⟩ = some (.int .i64 0) := by rw [hII.e.cell]; rfl
    have ze3 := hII.e.frozen 0
    have cc3' : W3.cell? ⟨w.heap.size + 1 + 1, 0, none⟩ = some (.pointer (some ⟨w.heap.size + 1, 0, none⟩)) := by rw [hII.c.cell]; rfl
    clear hf3 hB03 hI3 hII hW3 cc3 cc3s z43 c43 cc2
    by_cases he0 : he = 0
    · subst he0
      have HXE : Hid (R = xFin (xMid (kind : Int) (xBlocks bud (kind : Int) (bs.length + 1) [] [] sr))) := Lib.hid (by rw [HXQ.out, if_neg (by simp)])
      rw [show ((0 : Nat) : Int) = 0 from rfl]
      go_wp2
      go_step3
      go_wp2
      obtain ⟨XE, hXE⟩ : ∃ XE, xBlocks bud (kind : Int) (bs.length + 1) [] [] sr = XE := ⟨_, rfl⟩
      rw [hXE] at HI3 HXE
      have hw3 : w.heap.size ≤ W3.heap.size := HI3.out.f.size
      have hw3' : w.heap.size + 1 ≤ W3.heap.size := by have := HI3.out.c.lt; omega
      have hB0 := HS.out.2.2.2.1
      have hL0 : RnL w (w.heap.size + 1) fb w.heap.size (w.heap.size + 1 + 1) bud un B0 bs.length PUT (.func (.func 18) #[] #[]) (kind : Int) M0 J XE [] W3 := ⟨[], [], sr, _, M0, HI3.out, by simp; have := HS.out.2.2.2.2.2.2.1; have := HS.out.2.1; have := HHD.out.2.2.1; omega, fun x hx => by cases hx⟩
      refine (wpIn_wide (n := 6)).1 ?_
      refine wpIn_rangeFunc_ownK (n := 6) rfl (by omega) (gf := 30) (bd := #[.pointer (some ⟨w.heap.size + 1, 0, none⟩)]) rfl trivial (enters_of Tryz.func30 (by kernel_rfl) rfl) (first_seq 5 (w.heap.size + 1) fb B0 un w (by omega)) (fun _ => rfl)
        (RnL w (w.heap.size + 1) fb w.heap.size (w.heap.size + 1 + 1) bud un B0 bs.length PUT (.func (.func 18) #[] #[]) (kind : Int) M0 J XE) (fun cd pre W => RnX w (w.heap.size + 1) fb w.heap.size (w.heap.size + 1 + 1) bud un B0 bs.length PUT (.func (.func 18) #[] #[]) (kind : Int) M0 J XE cd pre W)
        (fun pre W l o o' _ _ _ h => h) (fun pre W l o o' hl ho hc h => h.upd HP.out (Nat.le_trans hw3 hl) ho hc hB0) (fun c pre W l o o' hl ho hc h => h.upd HP.out (Nat.le_trans hw3 hl) ho hc hB0) (fun pre W h => h.k) ((hL0.alloc HP.out _ hB0).alloc HP.out _ hB0)
        (fun x => { tmps := #[.pointer (some ⟨fb, 0, none⟩), .int .i64 budget, PUT, .func (.func 18) #[] #[], undef, undef, undef, undef, .pointer (some ⟨w.heap.size, 0, none⟩), .pointer (some ⟨w.heap.size + 1 + 1, 0, none⟩), .slice A 12 12, .int .i64 0, .int .u8 (x.b : Int), .int .i64 (x.e : Int), undef, undef, undef, undef, undef, undef, .pointer (some ⟨fb, 0, none⟩), .int .i64 budget, .int .i64 mx, .int .i64 (bud : Int), PUT, .func (.func 18) #[] #[], .agg #[.pointer (some ⟨fb, 0, none⟩), .int .i64 (bud : Int), PUT, .func (.func 18) #[] #[], .int .i64 0, .int .i64 0, .slice none 0 0], .pointer (some ⟨w.heap.size + 1, 0, none⟩), .tuple #[.slice A 12 12, .int .i64 0], .pointer (some ⟨w.heap.size + 1, 0, none⟩), .tuple #[.slice A 12 12, .int .i64 0], .slice A 12 12, .int .i64 0, .int .i64 0, .bool false, undef, .tuple #[.int .i64 (kind : Int), .int .i64 0], .pointer (some ⟨w.heap.size + 1, 0, none⟩), .slice A 12 12, .tuple #[.int .i64 (kind : Int), .int .i64 0], .int .i64 (kind : Int), .int .i64 0, .pointer (some ⟨w.heap.size + 1, 0, none⟩), .pointer (some ⟨w.heap.size + 1, 4, none⟩), .int .i64 0, .bool false, undef, .pointer (some ⟨w.heap.size + 1, 0, none⟩), .func (.func 30) #[.pointer (some ⟨w.heap.size + 1, 0, none⟩)] #[], .int .u8 (x.b : Int), .int .i64 (x.e : Int), undef, undef, undef, undef, undef, undef, undef, undef, undef, undef, undef, undef, undef, undef, undef, undef, undef, undef, undef, undef, undef, undef, undef, undef, undef, undef, undef, undef, undef, undef, undef, undef, undef, undef, undef, undef, undef, undef, undef, undef, undef, undef, undef, undef, undef, undef, undef, undef, undef, undef, undef, undef, undef, undef, undef, undef, undef, undef, undef, undef, undef, undef, undef, undef, undef, undef, undef, undef, undef, undef], defers := [] })
        (fun pre x W l o o' hl ho hc h => by
          obtain ⟨A, n, c, used, bs, h1, h2, h3⟩ := h
          exact ⟨A, n, c, used, bs, (World.putObj_heap_other (cells_ne h1 ho hc)).trans h1, h2.putO ho hc o', h3⟩) ?assign ?body ?done ?stop
      case assign =>
        intro l x W K hK
        unfold fbEnc
        gi_wp2
        exact hK
      case body =>
        rintro l pre ⟨xb, xe⟩ W hI hPx hd1 ⟨rl, hd2⟩
        obtain ⟨recs, out, src, lv, M, h1, h2, h3⟩ := hI
        obtain ⟨A', n', c', used', bs', s1, s2, s3, s4⟩ := hPx
        obtain ⟨A1, n1, c1, used1, hs1, k1, k2, k3, k4, k5⟩ := h1.s
        have hcase : (xe = 0 ∧ 1 ≤ src.length ∧ xb = (src.getD 0 0).toNat) ∨ (xe = 10 ∧ src.length = 0) := by
          have h10 := s1.symm.trans hs1
          simp only [Option.some.injEq, Obj.cells.injEq, Array.mk.injEq, List.cons.injEq, Value.slice.injEq, Value.int.injEq, and_true, true_and] at h10
          obtain ⟨⟨rfl, rfl, rfl⟩, h11⟩ := h10
          rcases s4 with ⟨e1, e2, e3⟩ | ⟨e1, e2⟩
          · refine .inl ⟨e1, by omega, ?_⟩
            obtain ⟨b1, o1, hA1, _, hc1⟩ := s2 (by omega)
            obtain ⟨b2, o2, hA2, _, hc2⟩ := k2 (by omega)
            rw [hA1] at hA2
            injection hA2 with hA2
            injection hA2 with hA2 hA3
            subst hA2; subst hA3
            have h12 := (hc1 0 (by omega)).symm.trans (hc2 0 (by omega))
            simp only [Option.some.injEq, byteV, Value.int.injEq, true_and] at h12
            have e3 : xb = (bs'.getD 0 0).toNat := e3
            omega
          · exact .inr ⟨e1, by omega⟩
        have ec : W.cell? ⟨w.heap.size, 0, none⟩ = some (.int .i64 0) := by rw [h1.e.cell]; rfl
        have ez := h1.e.frozen 0
        have ecb : W.cell? ⟨w.heap.size + 1 + 1, 0, none⟩ = some (.pointer (some ⟨w.heap.size + 1, 0, none⟩)) := by rw [h1.c.cell]; rfl
        have H := Lib.hid h1
        have HD := Lib.hid (And.intro hd1 hd2)
        have HSR : Hid (SrcAt W fb A1 n1 c1 used1 ∧ used1 + n1 = un ∧ BRow W B0 A1 src ∧ n1 = src.length ∧ n1 ≤ c1 ∧ c1 ≤ maxLen) := Lib.hid ⟨hs1, k1, k2, k3, k4, k5⟩
        have HP3 := Lib.hid (And.intro h2 h3)
        have hn1 : ∀ q, (∃ o : Obj, W.heap[q]? = some o ∧ o.isCells = false) → q ≠ w.heap.size := fun q ⟨o, ho, hc⟩ e => by
          subst e
          have h9 := h1.e
          unfold Pts at h9
          rw [ho] at h9
          injection h9 with h9
          rw [h9] at hc
          cases hc
        have hD1 := hn1 W3.heap.size ⟨_, hd1, rfl⟩
        have hD2 := hn1 (W3.heap.size + 1) ⟨_, hd2, rfl⟩
        have hset : ∀ (v : Value) q, q ≠ w.heap.size → (W.setCell ⟨w.heap.size, 0, none⟩ v).heap[q]? = W.heap[q]? := fun v q hq => Below.heap_setCell _ _ _ _ hq
        clear h1 hd1 hd2 hs1 k1 k2 k3 k4 k5 h2 h3 s1 s2 s3 s4 hn1
        rcases hcase with ⟨rfl, hsl, hxb⟩ | ⟨rfl, hsl⟩
        · have hxb256 : xb < 256 := by rw [hxb]; exact (src.getD 0 0).toNat_lt
          by_cases hz : xb = 0
          · have HSZ : Hid (1 ≤ src.length ∧ src.getD 0 0 = 0) := Lib.hid ⟨hsl, by rw [← UInt8.ofNat_toNat (x := src.getD 0 0), ← hxb, hz]; rfl⟩
            subst hz
            clear hsl hxb hxb256
            gi_wp2
            exact ⟨⟨rfl, rfl⟩, .inr ⟨rfl, recs, out, src, lv, M, H.out, HSZ.out⟩⟩
          · have qz : ((xb : Int) == 0) = false := beq_eq_false_iff_ne.2 (by omega)
            have hne0 : src.getD 0 0 ≠ 0 := fun e => hz (by rw [hxb, e]; rfl)
            have hblk := xblock_p (w.heap.size + 1) fb bud un fput B0 lb (kind : Int) lv recs J M out src A1 n1 c1 used1 xb W HP.out (by rw [HPUT.out]; exact H.out.r) HSR.out.1 HSR.out.2.2.2.1 HSR.out.2.2.1 (Nat.le_trans HS.out.2.2.2.1 H.out.f.size) (by have := HS.out.2.2.2.1; omega) HS.out.2.2.2.2.2.2.2.1 HSR.out.2.2.2.2.1 HSR.out.2.2.2.2.2 HSR.out.2.1 HS.out.2.2.2.2.2.2.2.2.1 (by have := H.out.l.2; have := HS.out.2.1; have := HS.out.2.2.2.2.2.2.2.2.2.1; have := HSR.out.2.2.2.1; omega) (by have := HSR.out.2.2.2.1; omega) hxb H.out.o (by have := H.out.l.2; have := HS.out.2.1; have := HS.out.2.2.2.2.2.2.2.2.2.1; omega) H.out.j (fun q hq => ⟨(H.out.m q hq).2.1, (H.out.m q hq).2.2.1, fun e => (H.out.v q e).1 hq⟩) H.out.l.1 hbb
            rw [HPUT.out] at hblk
            have HBLK := Lib.hid hblk
            have HNE := Lib.hid (And.intro hne0 hsl)
            clear hblk hne0 hz hxb hsl
            gi_wp2_with fail
            refine ⟨trivial, ?_⟩
            refine (CallsIn.inRound l (callsIn_wide.2 HBLK.out)).mono ?_
            rintro e W' hB
            obtain ⟨hkeep, hnx⟩ := H.out.next HP.out hB HNE.out.1 HNE.out.2 HS.out.2.2.2.1 (by omega) HS.out.2.2.2.2.2.2.2.1
            have hk1 : W'.heap[W3.heap.size]? = W.heap[W3.heap.size]? := hkeep _ (Array.getElem?_eq_some_iff.1 HD.out.1).1 (fun c t f h => by rw [HD.out.1] at h; cases h)
            have hk2 : W'.heap[W3.heap.size + 1]? = W.heap[W3.heap.size + 1]? := hkeep _ (Array.getElem?_eq_some_iff.1 HD.out.2).1 (fun c t f h => by rw [HD.out.2] at h; cases h)
            have hset2 : ∀ (v : Value) q, q ≠ w.heap.size → (W'.setCell ⟨w.heap.size, 0, none⟩ v).heap[q]? = W'.heap[q]? := fun v q hq => Below.heap_setCell _ _ _ _ hq
            have HK := Lib.hid (And.intro hk1 hk2)
            clear hkeep hk1 hk2 hB hset
            rcases hnx with ⟨z, hz0, rfl, he', out', M', hXE', hj', hM', hf'⟩ | ⟨rfl, recs', out', src', lv', M', hI', hlen'⟩
            · have ec' : W'.cell? ⟨w.heap.size, 0, none⟩ = some (.int .i64 0) := by rw [he'.cell]; rfl
              have ez' := he'.frozen 0
              have qz2 : ((z : Int) != 0) = true := bne_iff_ne.2 (by omega)
              have HX := Lib.hid (And.intro hz0 (And.intro he' (And.intro hXE' (And.intro hj' (And.intro hM' hf')))))
              clear hz0 he' hXE' hj' hM' hf'
              gi_wp2
              refine ⟨⟨(hset2 _ _ hD1).trans HK.out.1, (hset2 _ _ hD2).trans HK.out.2⟩, .inl ⟨rfl, out', M', z, HX.out.1, HX.out.2.2.1, ?_, HX.out.2.2.2.2.1, HX.out.2.1.set 0 _, ?_⟩⟩
              · exact HP.out.keep M' _ W' _ HX.out.2.2.2.1 ((Frm.refl _ W').setCell (p := ⟨w.heap.size, 0, none⟩) (fun hm => (HX.out.2.2.2.2.1 _ hm).2 rfl) _)
              · exact HX.out.2.2.2.2.2.transW ((Frm.refl (fun q => q = w.heap.size) W').setCell (p := ⟨w.heap.size, 0, none⟩) rfl _) (fun q hq hlt => by omega)
            · have HX := Lib.hid (And.intro hI' hlen')
              clear hI' hlen'
              gi_wp2
              refine ⟨HK.out, recs', out', src', lv', M', HX.out.1, ?_, fun x hx => ?_⟩
              · rw [List.length_append]
                have := HX.out.2
                have := HP3.out.1
                simp only [List.length_cons, List.length_nil]
                omega
              · rcases List.mem_append.1 hx with h | h
                · exact HP3.out.2 x h
                · rw [List.mem_singleton.1 h]
                  exact ⟨rfl, fun e => by have e : xb = 0 := e; rw [e] at qz; cases qz⟩
        · have HSL := Lib.hid hsl
          clear hsl
          gi_wp2
          obtain ⟨f, hlf, hXE2⟩ := H.out.x
          refine ⟨⟨hset _ _ hD1, hset _ _ hD2⟩, .inl ⟨rfl, out, M, 10, by decide, ?_, ?_, fun q hq => ⟨(H.out.m q hq).1, (H.out.m q hq).2.2.2.1⟩, H.out.e.set 0 _, ?_⟩⟩
          · rw [hXE2]
            obtain ⟨f', rfl⟩ : ∃ f', f = f' + 1 := ⟨f - 1, by omega⟩
            unfold xBlocks
            rw [if_pos (by have := HSL.out; omega)]
          · exact HP.out.keep M _ W _ H.out.j ((Frm.refl _ W).setCell (p := ⟨w.heap.size, 0, none⟩) (fun hm => (H.out.m _ hm).2.2.2.1 rfl) _)
          · exact H.out.f.transW ((Frm.refl (fun q => q = w.heap.size) W).setCell (p := ⟨w.heap.size, 0, none⟩) rfl _) (fun q hq hlt => by omega)
      case done =>
        rintro xs W ⟨pre, x, rfl, hx⟩ hI hd
        obtain ⟨recs, out, src, lv, M, h1, h2, h3⟩ := hI
        have h4 := h3 x (by simp)
        rcases hx with e | e
        · exact absurd h4.1 e
        · exact absurd e h4.2
      case stop =>
        intro cd pre W hX hd
        have HDD := Lib.hid hd
        clear hd hXE hL0
        rcases hX with ⟨rfl, out, M, z, hz, hxe, hj, hM, he, hf⟩ | ⟨rfl, recs, out, src, lv, M, hI, hs1, hs0⟩
        · have HX := Lib.hid (And.intro hz (And.intro hxe (And.intro hj (And.intro hM (And.intro he hf)))))
          have hce : W.cell? ⟨w.heap.size, 0, none⟩ = some (.int .i64 (z : Int)) := by rw [he.cell]; rfl
          clear hz hxe hj hM he hf
          refine wpIn_wide.2 ?_
          go_wp2
          rw [Exit.noGoto_ret]
          refine ⟨by simp, .inl ⟨_, _, rfl, run_takeDeferred HDD.out, ?_⟩⟩
          have hce2 := put_cell (o' := .deferred none) HX.out.2.2.2.2.1 HDD.out rfl
          refine ⟨.int .i64 (z : Int), by simp [results, Tryz.results16, go_sem, hce2], ?_⟩
          exact xrun_fin HP.out (by rw [HXE.out, HX.out.2.1]; rfl) HX.out.1 HX.out.2.2.1 (fun q hq => (HX.out.2.2.2.1 q hq).1) HX.out.2.2.2.2.2 HDD.out rfl hw3
        · have hXR : R = xFin (xEnd (kind : Int) out recs src) := by
            obtain ⟨f, hlf, hXE2⟩ := hI.x
            obtain ⟨f', rfl⟩ : ∃ f', f = f' + 1 := ⟨f - 1, by omega⟩
            rw [HXE.out, hXE2]
            unfold xBlocks
            rw [if_neg (by omega), if_pos hs0]
            rfl
          obtain ⟨A1, n1, c1, used1, hsr, k1, k2, k3, k4, k5⟩ := hI.s
          have HI := Lib.hid hI
          have HXR := Lib.hid hXR
          have HSR : Hid (SrcAt W fb A1 n1 c1 used1 ∧ used1 + n1 = un ∧ BRow W B0 A1 src ∧ n1 = src.length ∧ n1 ≤ c1 ∧ c1 ≤ maxLen) := Lib.hid ⟨hsr, k1, k2, k3, k4, k5⟩
          have hl8 : recs.length + src.length ≤ 100000000 := by have := hI.l.2; have := HS.out.2.1; have := HS.out.2.2.2.2.2.2.2.2.2.1; omega
          have hIX := xindex_p (w.heap.size + 1) fb bud un B0 B0 PUT _ (kind : Int) out.length lv recs A1 n1 c1 used1 src W hI.r (by have := HS.out.2.2.2.2.2.2.2.2.2.2; omega) hsr k3 k2 ⟨Nat.le_trans hB0 hI.f.size, HS.out.2.2.2.2.2.2.2.1⟩ k4 k5 k1 HS.out.2.2.2.2.2.2.2.2.1 (by omega) (by omega) hI.o (by omega)
          have HIX := Lib.hid hIX
          have cc : W.cell? ⟨w.heap.size + 1 + 1, 0, none⟩ = some (.pointer (some ⟨w.heap.size + 1, 0, none⟩)) := by rw [hI.c.cell]; rfl
          have ce : W.cell? ⟨w.heap.size, 0, none⟩ = some (.int .i64 0) := by rw [hI.e.cell]; rfl
          have ze := hI.e.frozen 0
          have HL8 := Lib.hid hl8
          clear hI hXR hsr k1 k2 k3 k4 k5 hs1 hs0 hIX hl8
          refine wpIn_wide.2 ?_
          go_wp2_with fail
          refine HIX.out.mono ?_; rintro e w4 ⟨hf4, hix⟩
          obtain ⟨E, hE⟩ : ∃ E, xIndex recs src = E := ⟨_, rfl⟩
          rw [hE] at hix
          cases E with
          | inl z =>
            obtain rfl := hix
            have hz := xIndex_z hE
            have qz : ((z : Int) != 0) = true := bne_iff_ne.2 (by omega)
            have he4 := HI.out.e.frm hf4 hebn
            have ce4 : w4.cell? ⟨w.heap.size, 0, none⟩ = some (.int .i64 0) := by rw [he4.cell]; rfl
            have ze4 := he4.frozen 0
            have hj4 := HP.out.keep M _ W w4 HI.out.j (hf4.mono fun q _ e hm => (HI.out.m q hm).2.2.1 e)
            have hF4 : Frm (fun q => M0 q ∨ q = fb) w w4 := HI.out.f.trans (hf4.mono fun q _ e => .inr e)
            have hd4 : w4.heap[W3.heap.size]? = some (.deferred (some [])) := (hf4.block _ (Array.getElem?_eq_some_iff.1 HDD.out).1 (fun e => by have := HSR.out.1; rw [← e] at this; exact absurd (HDD.out.symm.trans this) (by simp))).trans HDD.out
            have HRE : Hid (R = (out, .inl z)) := Lib.hid (by rw [HXR.out]; unfold xEnd; rw [hE]; rfl)
            have H4 := Lib.hid (And.intro hz (And.intro he4 (And.intro hj4 (And.intro hF4 hd4))))
            clear hz he4 hj4 hF4 hd4 hE hf4 cc ce ze
            go_wp2
            rw [Exit.noGoto_ret]
            have hd5 : (w4.setCell ⟨w.heap.size, 0, none⟩ (.int .i64 (z : Int))).heap[W3.heap.size]? = some (.deferred (some [])) := (Below.heap_setCell _ _ _ _ (show W3.heap.size ≠ w.heap.size by omega)).trans H4.out.2.2.2.2
            refine ⟨by simp, .inl ⟨_, _, rfl, run_takeDeferred hd5, ?_⟩⟩
            have hce2 := put_cell (o' := .deferred none) (H4.out.2.1.set 0 (.int .i64 (z : Int))) hd5 rfl
            refine ⟨.int .i64 (z : Int), by simp [results, Tryz.results16, go_sem, hce2], ?_⟩
            exact xrun_fin HP.out HRE.out H4.out.1 (HP.out.keep M _ w4 _ H4.out.2.2.1 ((Frm.refl _ w4).setCell (p := ⟨w.heap.size, 0, none⟩) (fun hm => (HI.out.m _ hm).2.2.2.1 rfl) _)) (fun q hq => (HI.out.m q hq).1) (H4.out.2.2.2.1.transW ((Frm.refl (fun q => q = w.heap.size) w4).setCell (p := ⟨w.heap.size, 0, none⟩) rfl _) (fun q hq hlt => by omega)) hd5 rfl hw3
          | inr p =>
            obtain ⟨size, r⟩ := p
            obtain ⟨rfl, A5, n5, c5, used5, hs5, g1, g2, g3, g4, g5⟩ := hix
            have hT4 : RnT w (w.heap.size + 1) fb w.heap.size (w.heap.size + 1 + 1) bud W3.heap.size PUT (.func (.func 18) #[] #[]) (kind : Int) out.length lv M0 M J out w4 :=
              RnT.takes HP.out ⟨HI.out.e, HI.out.c, HI.out.r, HI.out.j, fun q hq => ⟨(HI.out.m q hq).1, (HI.out.m q hq).2.2.1, (HI.out.m q hq).2.2.2.1⟩, HI.out.f, HDD.out⟩ HSR.out.1 hf4
            have hXS : xEnd (kind : Int) out recs src = if r.length < 12 then (out, .inl 10) else if (footOf (r.take 12)).2.2 ≠ 0 then (out, .inl (footOf (r.take 12)).2.2.toNat) else if (footOf (r.take 12)).1 ≠ (kind : Int) ∨ (footOf (r.take 12)).2.1 ≠ size then (out, .inl 11) else (out, .inr (r.drop 12)) := by
              unfold xEnd
              rw [hE]
            rw [hXS] at HXR
            obtain ⟨d1, d2, d3, d4⟩ := hT4.cells
            have HT4 := Lib.hid hT4
            have HS5 : Hid (SrcAt w4 fb A5 n5 c5 used5 ∧ used5 + n5 = un ∧ BRow w4 B0 A5 r ∧ n5 = r.length ∧ n5 ≤ c5 ∧ c5 ≤ maxLen) := Lib.hid ⟨hs5, g1, g2, g3, g4, g5⟩
            have hszb := xIndex_size hE
            have hszw : IntKind.u64.wrap (size : Int) = (size : Int) := Go.IntWalk.u64_in _ (by have := HL8.out; omega)
            clear hT4 hXS hs5 g1 g2 g3 g4 g5 hf4 hE cc ce ze hszb
            by_cases hsh : n5 < 12
            · have HTN := Lib.hid (rtake_no (w.heap.size + 1) fb bud PUT _ (kind : Int) out.length lv A5 n5 c5 used5 12 w4 HT4.out.r HS5.out.1 hsh)
              have HRE : Hid (R = (out, .inl 10)) := Lib.hid (by rw [HXR.out, if_pos (by have := HS5.out.2.2.2.1; omega)]; rfl)
              clear hsh
              go_wp2_with fail
              refine HTN.out.mono ?_; rintro e w5 ⟨rfl, rfl⟩
              go_wp2
              rw [Exit.noGoto_ret]
              have hfin := RnT.fin (un := un) HP.out HT4.out HRE.out (by decide) (Nat.le_refl _) hw3
              refine ⟨by simp, .inl ⟨_, _, rfl, run_takeDeferred hfin.1, ?_⟩⟩
              have hce2 := hfin.2.1
              rw [show ((10 : Nat) : Int) = 10 from rfl] at hce2
              refine ⟨.int .i64 10, by simp [results, Tryz.results16, go_sem, hce2], ?_⟩
              exact hfin.2.2
            · have HTP := Lib.hid (rtake_p (w.heap.size + 1) fb bud PUT _ (kind : Int) out.length lv A5 n5 c5 used5 12 w4 HT4.out.r HS5.out.1 HS5.out.2.2.2.2.1 (by omega) (by have := HS5.out.2.1; have := HS.out.2.2.2.2.2.2.2.2.1; omega))
              obtain ⟨fk, fnn, fe, hft⟩ := footOf_nat (r.take 12)
              rw [if_neg (by have := HS5.out.2.2.2.1; omega), hft] at HXR
              have hl12 : (r.take 12).length = 12 := by rw [List.length_take]; have := HS5.out.2.2.2.1; omega
              obtain ⟨ft, hft2⟩ : ∃ ft, r.take 12 = ft := ⟨_, rfl⟩
              rw [hft2] at hl12 hft
              have HFT := Lib.hid (And.intro hft2 (And.intro hl12 hft))
              have HSH2 := Lib.hid hsh
              clear hsh hft2 hl12 hft
              go_wp2_with fail
              refine HTP.out.mono ?_; rintro e w5 ⟨rfl, hs5, hf5⟩
              have hT5 := HT4.out.takes HP.out HS5.out.1 hf5
              have hb05 : Below B0 w4 w5 := hf5.below (by have := HT4.out.f.size; omega) (fun q hq => by have := HS.out.2.2.2.2.2.2.2.1; omega)
              have hr5 : BRow w5 B0 A5 r := HS5.out.2.2.1.below hb05
              have hrt : BRow w5 B0 A5 ft := by rw [← HFT.out.1]; exact hr5.take 12
              have hrd : BRow w5 B0 (takeA A5 c5 12) (r.drop 12) := hr5.drop (by have := HS5.out.2.2.2.1; have := HS5.out.2.2.2.2.1; omega)
              have hFF := foot_p A5 ft 12 12 w5 HFT.out.2.1.symm (Nat.le_refl _) (by have := HS5.out.2.2.2.2.1; have := HS5.out.2.2.2.2.2; have := HSH2.out; omega) (hrt.more (by have := hT5.f.size; omega)) (by rw [HFT.out.2.1]; decide)
              rw [HFT.out.2.2] at hFF
              unfold footV at hFF
              have HFF := Lib.hid hFF
              have HT5 := Lib.hid hT5
              have HS6 : Hid (SrcAt w5 fb (takeA A5 c5 12) (n5 - 12) (c5 - 12) (used5 + 12) ∧ BRow w5 B0 (takeA A5 c5 12) (r.drop 12)) := Lib.hid ⟨hs5, hrd⟩
              clear hs5 hf5 hT5 hb05 hr5 hrt hrd hFF HTP d1 d2 d3 d4
              go_wp2_with fail
              refine HFF.out.mono ?_; rintro e w6 ⟨rfl, hb6⟩
              have hT6 := HT5.out.still HP.out hb6
              have hs6 := Pts.below HS6.out.1 hb6 (Pts.lt HS6.out.1)
              have hr6 := HS6.out.2.below (hb6.mono (by have := HT5.out.f.size; omega))
              obtain ⟨d1, d2, d3, d4⟩ := hT6.cells
              have HT6 := Lib.hid hT6
              have HS7 : Hid (SrcAt w6 fb (takeA A5 c5 12) (n5 - 12) (c5 - 12) (used5 + 12) ∧ BRow w6 B0 (takeA A5 c5 12) (r.drop 12)) := Lib.hid ⟨hs6, hr6⟩
              clear hT6 hs6 hr6 hb6 HFF
              by_cases hfe : fe = 0
              · subst hfe
                rw [if_neg (by simp)] at HXR
                have hz0 : ((0 : Nat) : Int) = 0 := rfl
                rw [hz0]
                by_cases hk1 : fk = kind
                · have q1 : ((fk : Int) != (kind : Int)) = false := by rw [hk1]; simp
                  by_cases hk2 : fnn = size
                  · have q2 : ((fnn : Int) != (size : Int)) = false := by rw [hk2]; simp
                    have HRE : Hid (R = (out, .inr (dropPad (r.drop 12).length (r.drop 12)))) := Lib.hid (by
                      rw [HXR.out, if_neg]
                      · rfl
                      · rintro (h | h)
                        · exact h (by rw [hk1])
                        · exact h hk2)
                    clear hk1 hk2 hz0
                    obtain ⟨A6, hA6⟩ : ∃ A6, takeA A5 c5 12 = A6 := ⟨_, rfl⟩
                    obtain ⟨n6, hn6⟩ : ∃ n6, n5 - 12 = n6 := ⟨_, rfl⟩
                    obtain ⟨c6, hc6⟩ : ∃ c6, c5 - 12 = c6 := ⟨_, rfl⟩
                    obtain ⟨u6, hu6⟩ : ∃ u6, used5 + 12 = u6 := ⟨_, rfl⟩
                    obtain ⟨s0, hs0⟩ : ∃ s0, r.drop 12 = s0 := ⟨_, rfl⟩
                    obtain ⟨FIN, hFIN⟩ : ∃ FIN, dropPad s0.length s0 = FIN := ⟨_, rfl⟩
                    rw [hA6, hn6, hc6, hu6, hs0] at HS7
                    rw [hs0, hFIN] at HRE
                    have hnl : n6 = s0.length := by rw [← hs0, List.length_drop]; have := HS5.out.2.2.2.1; omega
                    have HS8 : Hid (u6 + n6 = un ∧ n6 = s0.length ∧ n6 ≤ c6 ∧ c6 ≤ maxLen) := Lib.hid ⟨by have := HS5.out.2.1; have := HSH2.out; omega, hnl, by have := HS5.out.2.2.2.2.1; omega, by have := HS5.out.2.2.2.2.2; omega⟩
                    have HFIN := Lib.hid hFIN
                    have HPK := Lib.hid (peek_p fb A6 n6 c6 u6 4 w6 HS7.out.1 HS8.out.2.2.1)
                    clear hA6 hn6 hc6 hu6 hs0 hFIN hnl
                    have hPB : ∃ bv : Value, ∃ ok : Bool, (if 4 ≤ n6 then Value.tuple #[.slice A6 4 4, .bool true] else Value.tuple #[.slice none 0 0, .bool false]) = .tuple #[bv, .bool ok] ∧ ((ok = true ∧ 4 ≤ n6 ∧ bv = .slice A6 4 4) ∨ (ok = false ∧ n6 < 4)) := by
                      by_cases h4 : 4 ≤ n6
                      · exact ⟨_, true, if_pos h4, .inl ⟨rfl, h4, rfl⟩⟩
                      · exact ⟨_, false, if_neg h4, .inr ⟨rfl, by omega⟩⟩
                    obtain ⟨bv0, ok0, hpb, hok0⟩ := hPB
                    rw [hpb] at HPK
                    have HOK0 := Lib.hid hok0
                    clear hpb hok0
                    go_wp2_with fail
                    refine HPK.out.mono ?_; rintro e w7 ⟨rfl, rfl⟩
                    go_wp2
                    go_loopg [18, 19] (s0.length + 1) (fun f bv okv wr => ∃ (s : List UInt8) (A : Option Addr) (n c used g : Nat) (ok : Bool), okv = .bool ok ∧ SrcAt wr fb A n c used ∧ used + n = un ∧ BRow wr B0 A s ∧ n = s.length ∧ n ≤ c ∧ c ≤ maxLen ∧ RnT w (w.heap.size + 1) fb w.heap.size (w.heap.size + 1 + 1) bud W3.heap.size PUT (.func (.func 18) #[] #[]) (kind : Int) out.length lv M0 M J out wr ∧ s.length ≤ g ∧ dropPad g s = FIN ∧ s.length < f ∧ ((ok = true ∧ 4 ≤ n ∧ bv = .slice A 4 4) ∨ (ok = false ∧ n < 4)))
                    case atStart => exact ⟨s0, A6, n6, c6, u6, s0.length, ok0, rfl, HS7.out.1, HS8.out.1, HS7.out.2, HS8.out.2.1, HS8.out.2.2.1, HS8.out.2.2.2, HT6.out, Nat.le_refl _, HFIN.out, by omega, HOK0.out⟩
                    case round =>
                      obtain ⟨s, A8, n8, c8, u8, g, ok, rfl, hs8, hun8, hr8, hn8, hc8, hcm8, hT8, hg8, hfin8, hlf8, hok8⟩ := hrel
                      clear HPK HOK0 HS7 HS8 HT6 HFIN d1 d2 d3 d4
                      obtain ⟨d1, d2, d3, d4⟩ := hT8.cells
                      have HT8 := Lib.hid hT8
                      have HS8 : Hid (SrcAt wr fb A8 n8 c8 u8 ∧ u8 + n8 = un ∧ BRow wr B0 A8 s ∧ n8 = s.length ∧ n8 ≤ c8 ∧ c8 ≤ maxLen ∧ s.length ≤ g ∧ dropPad g s = FIN ∧ s.length < gk) := Lib.hid ⟨hs8, hun8, hr8, hn8, hc8, hcm8, hg8, hfin8, hlf8⟩
                      clear hT8 hs8 hun8 hr8 hn8 hc8 hcm8 hg8 hfin8 hlf8
                      have hstop : (n8 < 4 ∨ s.take 4 ≠ [0, 0, 0, 0]) → FIN = s := fun h => by
                        rw [← HS8.out.2.2.2.2.2.2.2.1]
                        cases g with
                        | zero => rfl
                        | succ g =>
                          unfold dropPad
                          rw [if_neg]
                          rintro ⟨h1, h2⟩
                          rcases h with h | h
                          · have := HS8.out.2.2.2.1; omega
                          · exact h h2
                      rcases hok8 with ⟨rfl, h4, rfl⟩ | ⟨rfl, h4⟩
                      · obtain ⟨Wz, hWz⟩ : ∃ W, wr.alloc (.cells (madeCells #[.int .u8 0] 4) 5) = W := ⟨_, rfl⟩
                        have hbz : Below wr.heap.size wr Wz := by rw [← hWz]; exact (Below.refl _ wr).alloc (Nat.le_refl _) _
                        have hzr : BRow Wz Wz.heap.size (some ⟨wr.heap.size, 0, none⟩) (List.replicate 4 0) := by rw [← hWz]; exact noughts_row 4 wr
                        have hmk : ∀ w, (Instr.makeSlice 22 (.int .i64 4) (.int .i64 4)).run Tryz.prog w = .ok (.slice (some ⟨w.heap.size, 0, none⟩) 4 4) (w.alloc (.cells (madeCells #[.int .u8 0] 4) 5)) := made_bytes 4 (by decide)
                        have hBr : B0 ≤ wr.heap.size := by have := HT8.out.f.size; omega
                        have hl4 : (s.take 4).length = 4 := by rw [List.length_take]; have := HS8.out.2.2.2.1; omega
                        have hrz : BRow Wz B0 A8 s := HS8.out.2.2.1.below (hbz.mono hBr)
                        have hEQ := equal_p A8 (some ⟨wr.heap.size, 0, none⟩) (s.take 4) (List.replicate 4 0) 4 4 4 4 Wz.heap.size Wz hl4.symm ((hrz.take 4).more (Nat.le_trans hBr hbz.size)) (by simp) hzr
                        obtain ⟨b1, hb1⟩ : ∃ b, (s.take 4 == List.replicate 4 0) = b := ⟨_, rfl⟩
                        rw [hb1] at hEQ
                        have HEQ := Lib.hid hEQ
                        have HB1 := Lib.hid hb1
                        have HTZ := Lib.hid (HT8.out.still HP.out hbz)
                        have HSZ : Hid (SrcAt Wz fb A8 n8 c8 u8 ∧ BRow Wz B0 A8 s ∧ B0 ≤ Wz.heap.size) := Lib.hid ⟨Pts.below HS8.out.1 hbz (Pts.lt HS8.out.1), hrz, Nat.le_trans hBr hbz.size⟩
                        obtain ⟨y1, y2, y3, y4⟩ := HTZ.out.cells
                        clear hbz hzr hBr hl4 hrz hEQ hb1
                        cases b1 with
                        | false =>
                          have HRF : Hid (R = (out, .inr s)) := Lib.hid (by rw [HRE.out, hstop (.inr (fun e => by have := HB1.out; rw [e] at this; exact absurd this (by decide)))])
                          clear hstop h4
                          go_wp2_with (go_at_call 35; refine HEQ.out.mono ?_; rintro e w9 ⟨rfl, rfl⟩)
                          rw [Exit.noGoto_ret]
                          have hfin := RnT.ok (un := un) HP.out HTZ.out HRF.out HSZ.out.1 HS8.out.2.1 HS8.out.2.2.2.1 (Nat.le_refl _) hw3
                          refine ⟨by simp, .inl ⟨_, _, rfl, run_takeDeferred hfin.1, ?_⟩⟩
                          have hce2 := hfin.2.1
                          refine ⟨.int .i64 0, by simp [results, Tryz.results16, go_sem, hce2], ?_⟩
                          exact hfin.2.2
                        | true =>
                          have hz4 : s.take 4 = [0, 0, 0, 0] := by have := HB1.out; rw [beq_iff_eq] at this; exact this
                          have hsl4 : 4 ≤ s.length := by have := HS8.out.2.2.2.1; omega
                          obtain ⟨g', rfl⟩ : ∃ g', g = g' + 1 := ⟨g - 1, by have := HS8.out.2.2.2.2.2.2.1; omega⟩
                          have hdp : dropPad g' (s.drop 4) = FIN := by
                            rw [← HS8.out.2.2.2.2.2.2.2.1]
                            conv => rhs; unfold dropPad
                            rw [if_pos ⟨hsl4, hz4⟩]
                          have HTK := Lib.hid (take_p fb A8 n8 c8 u8 4 Wz HSZ.out.1 HS8.out.2.2.2.2.1 h4 (by have := HS8.out.2.1; have := HS.out.2.2.2.2.2.2.2.2.1; omega))
                          obtain ⟨A9, hA9⟩ : ∃ A9, takeA A8 c8 4 = A9 := ⟨_, rfl⟩
                          obtain ⟨n9, hn9⟩ : ∃ n9, n8 - 4 = n9 := ⟨_, rfl⟩
                          obtain ⟨c9, hc9⟩ : ∃ c9, c8 - 4 = c9 := ⟨_, rfl⟩
                          obtain ⟨u9, hu9⟩ : ∃ u9, u8 + 4 = u9 := ⟨_, rfl⟩
                          have hrd9 := HSZ.out.2.1.drop (k := 4) (cap := c8) (by have := HS8.out.2.2.2.1; have := HS8.out.2.2.2.2.1; omega)
                          replace hrd9 : BRow Wz B0 (takeA A8 c8 4) (s.drop 4) := hrd9
                          rw [hA9] at hrd9
                          rw [hA9, hn9, hc9, hu9] at HTK
                          have H9 : Hid (BRow Wz B0 A9 (s.drop 4) ∧ u9 + n9 = un ∧ n9 = (s.drop 4).length ∧ n9 ≤ c9 ∧ c9 ≤ maxLen ∧ dropPad g' (s.drop 4) = FIN ∧ (s.drop 4).length ≤ g' ∧ (s.drop 4).length + 1 < gk) := Lib.hid (by
                            have k1 := HS8.out.2.1; have k2 := HS8.out.2.2.2.1; have k3 := HS8.out.2.2.2.2.1; have k4 := HS8.out.2.2.2.2.2.1; have k5 := HS8.out.2.2.2.2.2.2.1; have k6 := HS8.out.2.2.2.2.2.2.2.2
                            have k7 : (s.drop 4).length = s.length - 4 := List.length_drop
                            exact ⟨hrd9, by omega, by omega, by omega, by omega, hdp, by omega, by omega⟩)
                          have hPB : ∃ bv : Value, ∃ ok : Bool, (if 4 ≤ n9 then Value.tuple #[.slice A9 4 4, .bool true] else Value.tuple #[.slice none 0 0, .bool false]) = .tuple #[bv, .bool ok] ∧ ((ok = true ∧ 4 ≤ n9 ∧ bv = .slice A9 4 4) ∨ (ok = false ∧ n9 < 4)) := by
                            by_cases h4 : 4 ≤ n9
                            · exact ⟨_, true, if_pos h4, .inl ⟨rfl, h4, rfl⟩⟩
                            · exact ⟨_, false, if_neg h4, .inr ⟨rfl, by omega⟩⟩
                          obtain ⟨bv0, ok0, hpb, hok0⟩ := hPB
                          have HOK9 := Lib.hid hok0
                          have HPB := Lib.hid hpb
                          clear hA9 hn9 hc9 hu9 hrd9 hdp hz4 hsl4 hstop h4 hpb hok0
                          go_wp2_with (first | (go_at_call 35; refine HEQ.out.mono ?_; rintro e w9 ⟨rfl, rfl⟩) | (go_at_call 36; refine HTK.out.mono ?_; rintro e w10 ⟨rfl, hs10, hf10⟩; have HT10 := Lib.hid (HTZ.out.takes HP.out HSZ.out.1 hf10); have HS10 : Hid (SrcAt w10 fb A9 n9 c9 u9 ∧ BRow w10 B0 A9 (s.drop 4)) := Lib.hid ⟨hs10, H9.out.1.below (hf10.below HSZ.out.2.2 (fun q hq => by have := HS.out.2.2.2.2.2.2.2.1; omega))⟩; have hpk := peek_p fb A9 n9 c9 u9 4 w10 hs10 H9.out.2.2.2.1; rw [HPB.out] at hpk; have HPK9 := Lib.hid hpk; clear hs10 hf10 hpk) | (go_at_call 34; refine HPK9.out.mono ?_; rintro e w11 ⟨rfl, rfl⟩))
                          obtain ⟨gk', rfl⟩ : ∃ gk', gk = gk' + 1 := ⟨gk - 1, by have := H9.out.2.2.2.2.2.2.2; omega⟩
                          go_roundg gk'
                          case rel => exact ⟨s.drop 4, A9, n9, c9, u9, g', ok0, rfl, HS10.out.1, H9.out.2.1, HS10.out.2, H9.out.2.2.1, H9.out.2.2.2.1, H9.out.2.2.2.2.1, HT10.out, H9.out.2.2.2.2.2.2.1, H9.out.2.2.2.2.2.1, by have := H9.out.2.2.2.2.2.2.2; omega, HOK9.out⟩
                          case measure => omega
                      · have HRF : Hid (R = (out, .inr s)) := Lib.hid (by rw [HRE.out, hstop (.inl h4)])
                        clear hstop h4
                        go_wp2
                        rw [Exit.noGoto_ret]
                        have hfin := RnT.ok (un := un) HP.out HT8.out HRF.out HS8.out.1 HS8.out.2.1 HS8.out.2.2.2.1 (Nat.le_refl _) hw3
                        refine ⟨by simp, .inl ⟨_, _, rfl, run_takeDeferred hfin.1, ?_⟩⟩
                        have hce2 := hfin.2.1
                        refine ⟨.int .i64 0, by simp [results, Tryz.results16, go_sem, hce2], ?_⟩
                        exact hfin.2.2
                  · have q2 : ((fnn : Int) != (size : Int)) = true := bne_iff_ne.2 (by omega)
                    have HRE : Hid (R = (out, .inl 11)) := Lib.hid (by rw [HXR.out, if_pos (.inr hk2)]; rfl)
                    clear hk1 hk2 hz0
                    go_wp2
                    rw [Exit.noGoto_ret]
                    have hfin := RnT.fin (un := un) HP.out HT6.out HRE.out (by decide) (Nat.le_refl _) hw3
                    refine ⟨by simp, .inl ⟨_, _, rfl, run_takeDeferred hfin.1, ?_⟩⟩
                    have hce2 := hfin.2.1
                    rw [show ((11 : Nat) : Int) = 11 from rfl] at hce2
                    refine ⟨.int .i64 11, by simp [results, Tryz.results16, go_sem, hce2], ?_⟩
                    exact hfin.2.2
                · have q1 : ((fk : Int) != (kind : Int)) = true := bne_iff_ne.2 (by omega)
                  have HRE : Hid (R = (out, .inl 11)) := Lib.hid (by rw [HXR.out, if_pos (.inl (show ((fk : Nat) : Int) ≠ (kind : Int) by omega))]; rfl)
                  clear hk1 hz0
                  go_wp2
                  rw [Exit.noGoto_ret]
                  have hfin := RnT.fin (un := un) HP.out HT6.out HRE.out (by decide) (Nat.le_refl _) hw3
                  refine ⟨by simp, .inl ⟨_, _, rfl, run_takeDeferred hfin.1, ?_⟩⟩
                  have hce2 := hfin.2.1
                  rw [show ((11 : Nat) : Int) = 11 from rfl] at hce2
                  refine ⟨.int .i64 11, by simp [results, Tryz.results16, go_sem, hce2], ?_⟩
                  exact hfin.2.2
              · have qz : ((fe : Int) != 0) = true := bne_iff_ne.2 (by omega)
                have HRE : Hid (R = (out, .inl fe)) := Lib.hid (by rw [HXR.out, if_pos (show ((fe : Nat) : Int) ≠ 0 by omega)]; show (out, (Sum.inl ((fe : Int).toNat) : Nat ⊕ List UInt8)) = _; rw [Int.toNat_natCast])
                have HZ := Lib.hid hfe
                clear hfe
                go_wp2
                rw [Exit.noGoto_ret]
                have hfin := RnT.fin (un := un) HP.out HT6.out HRE.out HZ.out (Nat.le_refl _) hw3
                refine ⟨by simp, .inl ⟨_, _, rfl, run_takeDeferred hfin.1, ?_⟩⟩
                have hce2 := hfin.2.1
                refine ⟨.int .i64 (fe : Int), by simp [results, Tryz.results16, go_sem, hce2], ?_⟩
                exact hfin.2.2
    · have qz : ((he : Int) != 0) = true := bne_iff_ne.2 (by omega)
      have HRE : Hid (R = ([], .inl he)) := Lib.hid (by rw [HXQ.out, if_pos (show ((he : Nat) : Int) ≠ 0 by omega)]; show (([] : List UInt8), (Sum.inl ((he : Int).toNat) : Nat ⊕ List UInt8)) = _; rw [Int.toNat_natCast])
      have HZ := Lib.hid he0
      clear he0
      go_wp2
      have hce : (W3.setCell ⟨w.heap.size, 0, none⟩ (.int .i64 (he : Int))).cell? ⟨w.heap.size, 0, none⟩ = some (.int .i64 (he : Int)) := by rw [(HI3.out.e.set 0 (.int .i64 (he : Int))).cell]; rfl
      rw [Exit.noGoto_ret]
      refine ⟨.int .i64 (he : Int), by simp [results, Tryz.results16, go_sem, hce], ?_⟩
      exact xrun_err HP.out HRE.out HZ.out HI3.out.j (fun q hq => ⟨(HI3.out.m q hq).1, (HI3.out.m q hq).2.2.2.1⟩) HI3.out.f (fun _ h _ => h) (Nat.le_refl _)
end Go.Proofs.YtgahfpflhhfhfaaGreat

/- Member, Window: the walks. -/
namespace Go.Proofs.YtgahfpflhhfhfaaGreat
open Go.RowKit Rng Win Lz Box
set_option linter.unusedVariables false
set_option linter.unusedSimpArgs false
/-- How Member ends. -/
def MemEnd (bud : Nat) (bs : List UInt8) (w : World) (e : Ending) (w' : World) : Prop :=
  ∃ v, OwnB w' 5 w.heap.size v (xP bud bs).1 ∧ Below w.heap.size w w' ∧
    (match (xP bud bs).2 with
    | .inl z => z ≠ 0 ∧ e = .returned (.tuple #[v, .int .i64 0, .int .i64 ((z : Nat) : Int)])
    | .inr r => r.length ≤ bs.length ∧ e = .returned (.tuple #[v, .int .i64 ((bs.length - r.length : Nat) : Int), .int .i64 0]))
set_option maxHeartbeats 2000000 in
theorem member_p (A : Option Addr) (bs : List UInt8) (n c : Nat) (budget : Int) (w : World) (hn : n = bs.length) (hr : BRow w w.heap.size A bs) (hc : n ≤ c) (hcm : c ≤ maxLen) (hub : n ≤ 100000000) :
    Calls Tryz.prog 9 #[.slice A n c, .int .i64 budget] w (MemEnd (budOf budget) bs w) := by
  have HR := Lib.hid hr
  have HN := Lib.hid hn
  have HH : Hid (n ≤ c ∧ c ≤ maxLen ∧ n ≤ 100000000) := Lib.hid ⟨hc, hcm, hub⟩
  obtain ⟨R, hRR⟩ : ∃ R, xP (budOf budget) bs = R := ⟨_, rfl⟩
  have HRR := Lib.hid hRR
  clear hr hn hc hcm hub hRR
  go_enter Tryz.func9, Tryz.ntmps9
  go_wp2_with fail
  obtain ⟨W0, hW0⟩ : ∃ W, w.alloc (.cells #[.slice none 0 0] 22) = W := ⟨_, rfl⟩
  have hs0 : W0.heap.size = w.heap.size + 1 := by rw [← hW0]; simp only [World.size_alloc]
  have hP0 : Pts W0 w.heap.size #[.slice none 0 0] 22 := by rw [← hW0]; exact Pts.new w _ _
  have hB0 : Below w.heap.size w W0 := by rw [← hW0]; exact below_alloc _ _
  rw [hW0]
  clear hW0
  refine (whole_p A n c W0).mono ?_; rintro e w1 ⟨rfl, hs1, hb1⟩
  have hP1 := hP0.below hb1 hP0.lt
  have B1 := Lib.hid (hB0.trans (hb1.mono hB0.size))
  have hz1 := Pts.lt hs1
  rw [hs0] at hs1 hz1
  have HRun := xrun_p (w.heap.size + 1) w.heap.size 17 #[.pointer (some ⟨w.heap.size, 0, none⟩)] (OutX w.heap.size w.heap.size) (fun q => q = w.heap.size) budget A n c 0 n bs w1 (outx_ok w.heap.size w.heap.size w.heap.size 16777216 (Nat.le_refl _) (Nat.le_refl _) (Nat.le_refl _))
    ⟨.slice none 0 0, hP1, OwnB.nil _ _ _, fun q => ⟨fun h => .inl h, fun h => h.elim id (fun h => by cases h)⟩, B1.out.size⟩ (by omega) (by omega) hs1 HN.out (HR.out.below B1.out) B1.out.size HH.out.1 HH.out.2.1 (by omega) (by have := HH.out.2.2; omega) HH.out.2.2
  rw [HRR.out] at HRun
  have HRU := Lib.hid HRun
  rw [hs0]
  clear hP0 hB0 hb1 hP1 hs1 hs0 HRun
  go_wp2_with fail
  refine HRU.out.mono ?_; rintro e w2 ⟨⟨M, ⟨v, hv, ho, hMv, hbb⟩, hM⟩, hf, hend⟩
  have hBF : Below w.heap.size w w2 := B1.out.trans (hf.below B1.out.size (by rintro q (e | e) <;> omega))
  obtain ⟨T, RR⟩ := R
  have hv : Pts w2 w.heap.size #[v] 22 := hv
  have ho : OwnB w2 5 w.heap.size v T := ho
  obtain ⟨Av, kv, hve, -, -, -⟩ := ho.slice
  obtain ⟨Lv, hLv⟩ : ∃ L, T.length = L := ⟨_, rfl⟩
  rw [hLv] at hve
  subst hve
  have cv : w2.cell? ⟨w.heap.size, 0, none⟩ = some (.slice Av Lv kv) := by rw [hv.cell]; rfl
  have zv := hv.frozen 0
  have hso : (Value.slice Av Lv kv).ownBlock ≠ some w.heap.size := fun e => by
    rcases ho.form with ⟨h1, _⟩ | ⟨g, cap, cur, h1, _, hh, _⟩
    · rw [h1] at e; cases e
    · rw [h1] at e
      injection e with e
      subst e
      exact hh.ne_of hv (by decide) rfl
  have HO : Hid (OwnB (w2.setCell ⟨w.heap.size, 0, none⟩ (.slice Av Lv kv)) 5 w.heap.size (.slice Av Lv kv) T ∧ Below w.heap.size w (w2.setCell ⟨w.heap.size, 0, none⟩ (.slice Av Lv kv))) :=
    Lib.hid ⟨ho.other (p := ⟨w.heap.size, 0, none⟩) hso (.slice Av Lv kv), hBF.trans ((Frm.setCell (p := ⟨w.heap.size, 0, none⟩) (Frm.refl (fun q => q = w.heap.size) w2) rfl (.slice Av Lv kv)).below hBF.size (by intro q hq; omega))⟩
  have HVP := Lib.hid hv
  clear hBF ho hv hM hMv hbb hf hso HRU hLv
  cases RR with
  | inl z =>
    obtain ⟨hz, rfl⟩ := hend
    have qz : ((z : Int) != 0) = true := bne_iff_ne.2 (by omega)
    have HZ := Lib.hid hz
    clear hz
    go_wp2
    have hcv : (w2.setCell ⟨w.heap.size, 0, none⟩ (.slice Av Lv kv)).cell? ⟨w.heap.size, 0, none⟩ = some (.slice Av Lv kv) := World.cell?_setCell_same' _ _ _ (by rw [cv]; rfl)
    refine bodyPost_ret (v := .tuple #[.slice Av Lv kv, .int .i64 0, .int .i64 (z : Int)]) (by simp [results, Tryz.f9, go_sem, hcv]) rfl ?_
    unfold MemEnd
    rw [HRR.out]
    exact ⟨_, HO.out.1, HO.out.2, HZ.out, rfl⟩
  | inr r =>
    obtain ⟨rfl, A2, n2, c2, used, hs2, hu, hn2⟩ := hend
    have HS2 := Lib.hid hs2
    have HU := Lib.hid (And.intro hu hn2)
    clear hs2 hu hn2
    have hne : w.heap.size + 1 ≠ w.heap.size := by omega
    have SA : Hid (SrcAt w2.drew (w.heap.size + 1) A2 n2 c2 used) := Lib.hid HS2.out
    have SB : Hid (SrcAt (w2.drew.setCell ⟨w.heap.size, 0, none⟩ (.slice Av Lv kv)) (w.heap.size + 1) A2 n2 c2 used) := Lib.hid (Pts.other SA.out (p := ⟨w.heap.size, 0, none⟩) hne _)
    go_upto_region 5 with fail
    go_region_with (go_at_call 19; (first | refine (used_p _ A2 n2 c2 used _ SA.out).mono ?_ | refine (used_p _ A2 n2 c2 used _ SB.out).mono ?_); rintro e w3 ⟨rfl, rfl⟩)
    all_goals
      have hcv : (w2.setCell ⟨w.heap.size, 0, none⟩ (.slice Av Lv kv)).cell? ⟨w.heap.size, 0, none⟩ = some (.slice Av Lv kv) := World.cell?_setCell_same' _ _ _ (by rw [cv]; rfl)
      have hO2 : OwnB (w2.setCell ⟨w.heap.size, 0, none⟩ (.slice Av Lv kv)).drew 5 w.heap.size (.slice Av Lv kv) T := HO.out.1
      have hB2 : Below w.heap.size w (w2.setCell ⟨w.heap.size, 0, none⟩ (.slice Av Lv kv)).drew := ⟨HO.out.2.os, HO.out.2.tape, HO.out.2.output, HO.out.2.size, HO.out.2.block⟩
      have O2 := Lib.hid (And.intro hO2 hB2)
      clear hO2 hB2
      go_wp2
      refine bodyPost_ret (v := .tuple #[.slice Av Lv kv, .int .i64 (used : Int), .int .i64 0]) (by simp [results, Tryz.f9, go_sem, hcv]) rfl ?_
      unfold MemEnd
      rw [HRR.out]
      have h1 := HU.out.1
      have h2 := HU.out.2
      have h3 := HN.out
      refine ⟨_, O2.out.1, O2.out.2, by omega, ?_⟩
      rw [show bs.length - r.length = used by omega]
/-- What Window tells. -/
def winX (bs : List UInt8) : Int × Int :=
  if (headOf bs).2 ≠ 0 then (0, (headOf bs).2) else if bs.length = 12 then (0, 10) else if bs.getD 12 0 = 0 then (0, 0) else ((blockOf (bs.drop 12)).1, (blockOf (bs.drop 12)).2.2.2.2)
theorem headOf_ok {bs : List UInt8} (h : ¬ (headOf bs).2 ≠ 0) : 12 ≤ bs.length := by
  unfold headOf at h
  by_cases h1 : bs.length < 12
  · rw [if_pos h1] at h; exact absurd (by decide) h
  · omega
theorem headOf_nat (bs : List UInt8) : ∃ k e : Nat, headOf bs = ((k : Int), (e : Int)) := by
  unfold headOf
  repeat' split
  · exact ⟨0, 10, rfl⟩
  · exact ⟨0, 11, rfl⟩
  · exact ⟨0, 12, rfl⟩
  · exact ⟨_, 0, rfl⟩
set_option maxHeartbeats 1000000 in
theorem window_x (A : Option Addr) (bs : List UInt8) (n c : Nat) (w : World) (hn : n = bs.length) (hr : BRow w w.heap.size A bs) (hc : n ≤ c) (hcm : c ≤ maxLen) :
    Calls Tryz.prog 11 #[.slice A n c] w fun e w' => e = .returned (.tuple #[.int .i64 (winX bs).1, .int .i64 (winX bs).2]) ∧ Below w.heap.size w w' := by
  have hHD := head_p A bs n c w hn hc hcm hr (by omega)
  obtain ⟨k, he, hhd⟩ := headOf_nat bs
  rw [hhd] at hHD
  unfold checkV at hHD
  obtain ⟨R, hR⟩ : ∃ R, winX bs = R := ⟨_, rfl⟩
  rw [hR]
  have hRU := hR
  unfold winX at hRU
  rw [hhd] at hRU
  have HH := Lib.hid hHD
  have HRU := Lib.hid hRU
  have HR := Lib.hid hr
  have HC : Hid (n = bs.length ∧ n ≤ c ∧ c ≤ maxLen) := Lib.hid ⟨hn, hc, hcm⟩
  have hok := fun h => headOf_ok (bs := bs) h
  rw [hhd] at hok
  have HOK := Lib.hid hok
  clear hHD hRU hr hn hc hcm hhd hR hok
  by_cases he0 : he = 0
  · subst he0
    have h12 := HOK.out (by simp)
    have hR1 := HRU.out
    rw [if_neg (by simp)] at hR1
    rw [show ((0 : Nat) : Int) = 0 from rfl] at HH
    by_cases hl : bs.length = 12
    · rw [if_pos hl] at hR1
      subst hR1
      have q1 : ((n : Int) == 12) = true := beq_iff_eq.2 (by have := HC.out.1; omega)
      clear hl h12
      go_enter Tryz.func11, Tryz.ntmps11
      go_wp2_with fail
      refine HH.out.mono ?_; rintro e w1 ⟨rfl, hb1⟩
      have HB1 := Lib.hid hb1
      clear hb1
      go_wp2
      go_ret2
      exact ⟨rfl, HB1.out⟩
    · rw [if_neg hl] at hR1
      have q1 : ((n : Int) == 12) = false := beq_eq_false_iff_ne.2 (by have := HC.out.1; omega)
      obtain ⟨ab, ao, rfl, hab, hcell⟩ := HR.out (by omega)
      obtain ⟨b0, hb0⟩ : ∃ b, (bs.getD 12 0).toNat = b := ⟨_, rfl⟩
      have c12 : w.cell? ⟨ab, ao + 12, none⟩ = some (.int .u8 (b0 : Int)) := by rw [← hb0]; exact hcell 12 (by omega)
      have h12n : (12 : Int) < (n : Int) := by have := HC.out.1; omega
      by_cases hz : bs.getD 12 0 = 0
      · rw [if_pos hz] at hR1
        subst hR1
        have hbz : b0 = 0 := by rw [← hb0, hz]; rfl
        subst hbz
        clear hl h12 hz hb0 hcell
        go_enter Tryz.func11, Tryz.ntmps11
        go_wp2_with fail
        refine HH.out.mono ?_; rintro e w1 ⟨rfl, hb1⟩
        have HB1 := Lib.hid hb1
        have c13 : w1.cell? ⟨ab, ao + 12, none⟩ = some (.int .u8 0) := (hb1.cell (p := ⟨ab, ao + 12, none⟩) hab).trans c12
        clear hb1
        go_wp2
        go_ret2
        exact ⟨rfl, HB1.out⟩
      · rw [if_neg hz] at hR1
        obtain ⟨s, n', p, q, er, hblk⟩ := blockOf_in (bs.drop 12)
        rw [hblk] at hR1
        subst hR1
        have hbz : ((b0 : Int) == 0) = false := beq_eq_false_iff_ne.2 (by
          intro e
          have e2 : b0 = 0 := by omega
          rw [e2] at hb0
          exact hz (by rw [← UInt8.ofNat_toNat (x := bs.getD 12 0), hb0]; rfl))
        have hsl := fun w => slice_fromX (some ⟨ab, ao, none⟩) n c 12 (by have := HC.out.1; omega) HC.out.2.1 w
        rw [if_neg (by have := HC.out.1; have := HC.out.2.1; omega)] at hsl
        obtain ⟨A2, hA2⟩ : ∃ A2, (some (⟨ab, ao, none⟩ : Addr)).map (·.add 12) = A2 := ⟨_, rfl⟩
        rw [hA2] at hsl
        have hrd := HR.out.drop (k := 12) (cap := c) (by have := HC.out.1; have := HC.out.2.1; omega)
        rw [if_neg (by have := HC.out.1; have := HC.out.2.1; omega), hA2] at hrd
        have HRD := Lib.hid hrd
        have HBL := Lib.hid hblk
        obtain ⟨n2, hn2⟩ : ∃ n2, n - 12 = n2 := ⟨_, rfl⟩
        obtain ⟨c2, hc2⟩ : ∃ c2, c - 12 = c2 := ⟨_, rfl⟩
        rw [hn2, hc2] at hsl
        replace hsl : ∀ w, (Instr.sliceAt 22 (.slice (some ⟨ab, ao, none⟩) n c) (some (.int .i64 12)) none none).run Tryz.prog w = .ok (.slice A2 n2 c2) w := hsl
        have HN2 : Hid (n2 = (bs.drop 12).length ∧ n2 ≤ c2 ∧ c2 ≤ maxLen) := Lib.hid ⟨by rw [List.length_drop]; have := HC.out.1; omega, by have := HC.out.2.1; omega, by have := HC.out.2.2; omega⟩
        clear hl h12 hz hb0 hcell hA2 hrd hblk hn2 hc2
        go_enter Tryz.func11, Tryz.ntmps11
        go_wp2_with fail
        refine HH.out.mono ?_; rintro e w1 ⟨rfl, hb1⟩
        have HB1 := Lib.hid hb1
        have c13 : w1.cell? ⟨ab, ao + 12, none⟩ = some (.int .u8 (b0 : Int)) := (hb1.cell (p := ⟨ab, ao + 12, none⟩) hab).trans c12
        have hbk := block_p A2 (bs.drop 12) n2 c2 w1 HN2.out.1 HN2.out.2.1 HN2.out.2.2 ((HRD.out.below hb1).more hb1.size)
        rw [HBL.out] at hbk
        have HBK := Lib.hid hbk
        clear hb1 hbk
        go_wp2_with fail
        refine HBK.out.mono ?_; rintro e w2 ⟨rfl, hb2⟩
        have HB2 := Lib.hid (HB1.out.trans (hb2.mono HB1.out.size))
        unfold blkV
        simp only
        clear hb2
        go_wp2
        go_ret2
        exact ⟨rfl, HB2.out⟩
  · have qz : ((he : Int) != 0) = true := bne_iff_ne.2 (by omega)
    have hR1 := HRU.out
    rw [if_pos (show ((he : Nat) : Int) ≠ 0 by omega)] at hR1
    subst hR1
    clear he0
    go_enter Tryz.func11, Tryz.ntmps11
    go_wp2_with fail
    refine HH.out.mono ?_; rintro e w1 ⟨rfl, hb1⟩
    have HB1 := Lib.hid hb1
    clear hb1
    go_wp2
    go_ret2
    exact ⟨rfl, HB1.out⟩
end Go.Proofs.YtgahfpflhhfhfaaGreat

/- An xz member that is taken takes its own bytes alone; cut, it is truncated, and tells a beginning: plain. -/
namespace Go.Proofs.YtgahfpflhhfhfaaGreat
open Go.RowKit Rng Win Lz Box
set_option linter.unusedVariables false
set_option linter.unusedSimpArgs false
theorem number_take {bs : List UInt8} (h : (number bs).2.2 = 0) : number (bs.take (number bs).2.1) = number bs := by
  obtain ⟨h1, h2, h3, h4⟩ := number_back (bs := bs) (y := (number bs).1) (m := (number bs).2.1) (by rw [← h])
  have h5 := number_put h1 []
  rw [List.append_nil, h4, List.length_take, show min (number bs).2.1 bs.length = (number bs).2.1 by omega] at h5
  rw [h5, ← h]
theorem xNum_exact {want : Nat} {src r : List UInt8} (h : xNum want src = .inr r) : ∃ m, 1 ≤ m ∧ m ≤ src.length ∧ r = src.drop m ∧ xNum want (src.take m) = .inr [] := by
  unfold xNum at h
  split at h
  · cases h
  · rename_i h0
    split at h
    · cases h
    · rename_i h1
      injection h with h
      obtain ⟨u1, u2⟩ := number_used (bs := src) (by omega)
      have hn := number_take (bs := src) (by omega)
      refine ⟨_, u1, u2, h.symm, ?_⟩
      unfold xNum
      rw [hn, if_neg h0, if_neg h1, List.drop_of_length_le (by rw [List.length_take]; omega)]
theorem xNums_exact : ∀ (l : List Nat) {src r : List UInt8}, xNums l src = .inr r → ∃ m, m ≤ src.length ∧ r = src.drop m ∧ xNums l (src.take m) = .inr []
  | [], src, r, h => by
    unfold xNums at h
    injection h with h
    exact ⟨0, Nat.zero_le _, h.symm, rfl⟩
  | n :: l, src, r, h => by
    unfold xNums at h
    cases hd : xNum n src with
    | inl e => rw [hd] at h; cases h
    | inr t =>
      rw [hd] at h
      obtain ⟨u, u1, u2, u3, u4⟩ := xNum_exact hd
      obtain ⟨v, v1, v2, v3⟩ := xNums_exact l h
      rw [u3, List.length_drop] at v1
      refine ⟨u + v, by omega, by rw [v2, u3, List.drop_drop], ?_⟩
      have ht : src.take (u + v) = src.take u ++ t.take v := by rw [u3, List.take_add]
      unfold xNums
      rw [ht, xNum_more _ _ _ (by rw [u4]; exact fun e => e), u4]
      simp only [Sum.map_inr, List.nil_append]
      exact v3
theorem xIndex_exact {recs : List (Nat × Nat)} {src r : List UInt8} {size : Nat} (h1 : 1 ≤ src.length) (h : xIndex recs src = .inr (size, r)) : ∃ m, 1 ≤ m ∧ m ≤ src.length ∧ r = src.drop m ∧ size = m ∧ xIndex recs (src.take m) = .inr (size, []) := by
  unfold xIndex at h
  cases hd : xNums (recN recs) (src.drop 1) with
  | inl e => rw [hd] at h; cases h
  | inr t =>
    rw [hd] at h
    obtain ⟨u, u1, u2, u3⟩ := xNums_exact _ hd
    rw [List.length_drop] at u1
    have htl : t.length = src.length - (1 + u) := by rw [u2, List.drop_drop, List.length_drop]
    obtain ⟨n, hn⟩ : ∃ n, src.length - t.length = n := ⟨_, rfl⟩
    have hn1 : n = 1 + u := by omega
    simp only [hn] at h
    by_cases h2 : t.length < padOf n + 4
    · rw [if_pos h2] at h; cases h
    rw [if_neg h2] at h
    by_cases h3 : t.take (padOf n) ≠ List.replicate (padOf n) 0 ∨ sealB (src.take (n + padOf n)) ≠ (t.drop (padOf n)).take 4
    · rw [if_pos h3] at h; cases h
    rw [if_neg h3] at h
    injection h with h
    injection h with h4 h5
    refine ⟨n + padOf n + 4, by omega, by omega, ?_, h4.symm, ?_⟩
    · rw [← h5, u2, List.drop_drop, List.drop_drop]
      congr 1
      omega
    · have ht : (src.take (n + padOf n + 4)).drop 1 = (src.drop 1).take u ++ t.take (padOf n + 4) := by
        rw [List.drop_take, u2, ← List.take_add]
        congr 1
        omega
      have hl : (src.take (n + padOf n + 4)).length = n + padOf n + 4 := by rw [List.length_take]; omega
      have htl2 : (t.take (padOf n + 4)).length = padOf n + 4 := by rw [List.length_take]; omega
      unfold xIndex
      rw [ht, xNums_more _ _ _ (by rw [u3]; exact fun e => e), u3]
      simp only [Sum.map_inr, List.nil_append]
      rw [hl, htl2, show n + padOf n + 4 - (padOf n + 4) = n by omega, if_neg (by omega), List.take_take, List.drop_take, List.take_take, List.take_take, show min (padOf n) (padOf n + 4) = padOf n by omega, show min 4 (padOf n + 4 - padOf n) = 4 by omega, show min (n + padOf n) (n + padOf n + 4) = n + padOf n by omega, if_neg h3]
      rw [h4, List.drop_of_length_le (by omega)]
theorem xEnd_exact {kind : Int} {out o : List UInt8} {recs : List (Nat × Nat)} {src r : List UInt8} (h1 : 1 ≤ src.length) (h : xEnd kind out recs src = (o, .inr r)) : o = out ∧ ∃ m, 1 ≤ m ∧ m ≤ src.length ∧ r = src.drop m ∧ xEnd kind out recs (src.take m) = (o, .inr []) := by
  unfold xEnd at h
  cases hd : xIndex recs src with
  | inl e => rw [hd] at h; simp at h
  | inr p =>
    obtain ⟨size, t⟩ := p
    rw [hd] at h
    simp only at h
    obtain ⟨u, u1, u2, u3, u4, u5⟩ := xIndex_exact h1 hd
    have htl : t.length = src.length - u := by rw [u3, List.length_drop]
    by_cases h2 : t.length < 12
    · rw [if_pos h2] at h; simp at h
    rw [if_neg h2] at h
    by_cases h3 : (footOf (t.take 12)).2.2 ≠ 0
    · rw [if_pos h3] at h; simp at h
    rw [if_neg h3] at h
    by_cases h4 : (footOf (t.take 12)).1 ≠ kind ∨ (footOf (t.take 12)).2.1 ≠ size
    · rw [if_pos h4] at h; simp at h
    rw [if_neg h4] at h
    simp only [Prod.mk.injEq, Sum.inr.injEq] at h
    obtain ⟨e1, e2⟩ := h
    refine ⟨e1.symm, u + 12, by omega, by omega, by rw [← e2, u3, List.drop_drop], ?_⟩
    have ht : src.take (u + 12) = src.take u ++ t.take 12 := by rw [u3, List.take_add]
    have hl : (t.take 12).length = 12 := by rw [List.length_take]; omega
    unfold xEnd
    rw [ht, xIndex_more _ _ _ (by rw [List.length_take]; omega) (by rw [u5]; exact fun e => e), u5]
    simp only [Sum.map_inr, List.nil_append]
    rw [if_neg (by omega), List.take_take, Nat.min_self, if_neg h3, if_neg h4, e1, List.drop_of_length_le (by omega)]
theorem xBlocks_exact {budget : Nat} {kind : Int} : ∀ (f g : Nat) {recs recs' : List (Nat × Nat)} {out out' src s : List UInt8} (t : List UInt8), src.length < f → 1 ≤ t.length → t.getD 0 0 = 0 → (src.length - s.length) + t.length < g → xBlocks budget kind f recs out src = (out', .inr (recs', s)) →
    xBlocks budget kind g recs out (src.take (src.length - s.length) ++ t) = (out', .inr (recs', t))
  | 0, _, _, _, _, _, _, _, _, h, _, _, _, _ => absurd h (by omega)
  | _, 0, _, _, _, _, _, _, _, _, _, _, h, _ => absurd h (by omega)
  | f + 1, g + 1, recs, recs', out, out', src, s, t, hf, ht1, ht2, hg, h => by
    have hb := xBlocks_src _ h
    unfold xBlocks at h
    by_cases h1 : src.length < 1
    · rw [if_pos h1] at h; simp at h
    rw [if_neg h1] at h
    by_cases h2 : src.getD 0 0 = 0
    · rw [if_pos h2] at h
      simp only [Prod.mk.injEq, Sum.inr.injEq] at h
      obtain ⟨e1, e2, e3⟩ := h
      subst e3; subst e1; subst e2
      rw [Nat.sub_self, List.take_zero, List.nil_append]
      unfold xBlocks
      rw [if_neg (by omega), if_pos ht2]
    rw [if_neg h2] at h
    cases hd : xBlock budget kind out.length src with
    | err e o => rw [hd] at h; simp at h
    | ok o r rest =>
      rw [hd] at h
      simp only at h
      obtain ⟨m, m1, m2, m3, m4⟩ := xBlock_front hd
      have hrl : rest.length = src.length - m := by rw [m3, List.length_drop]
      obtain ⟨k1, k2, n, n1, n2⟩ := xBlocks_src _ h
      have hsl : s.length = rest.length - n := by rw [n2, List.length_drop]
      have ih := xBlocks_exact f g t (by omega) ht1 ht2 (by omega) h
      have hcut : src.take (src.length - s.length) ++ t = src.take m ++ (rest.take (rest.length - s.length) ++ t) := by
        rw [← List.append_assoc, m3, ← List.take_add]
        congr 2
        rw [List.length_drop]
        omega
      rw [hcut]
      unfold xBlocks
      rw [if_neg (by rw [List.length_append, List.length_take]; omega), getD_app (by rw [List.length_take]; omega), getD_takeU src (by omega), if_neg h2, xBlock_more _ _ _ _ _ (by rw [m4]; exact fun e => e), m4]
      simp only [BlkE.more, List.nil_append]
      exact ih
end Go.Proofs.YtgahfpflhhfhfaaGreat

/- An xz member that is taken, cut anywhere, is truncated and tells a beginning; with something behind it is the same: plain. -/
namespace Go.Proofs.YtgahfpflhhfhfaaGreat
open Go.RowKit Rng Win Lz Box
set_option linter.unusedVariables false
set_option linter.unusedSimpArgs false
theorem xMem_exact {budget : Nat} {src T r : List UInt8} (h : xMem budget src = (T, .inr r)) : ∃ m, 32 ≤ m + 20 ∧ m ≤ src.length ∧ r = src.drop m ∧ xMem budget (src.take m) = (T, .inr []) := by
  unfold xMem at h
  by_cases h1 : src.length < 12
  · rw [if_pos h1] at h; simp at h
  rw [if_neg h1] at h
  by_cases h2 : (headOf (src.take 12)).2 ≠ 0
  · rw [if_pos h2] at h; simp at h
  rw [if_neg h2] at h
  cases hd : xBlocks budget (headOf (src.take 12)).1 (src.length + 1) [] [] (src.drop 12) with
  | mk out R =>
    rw [hd] at h
    cases R with
    | inl e => simp at h
    | inr p =>
      obtain ⟨recs, s⟩ := p
      simp only at h
      obtain ⟨k1, k2, n, n1, n2⟩ := xBlocks_src _ hd
      rw [List.length_drop] at n1
      have hsl : s.length = src.length - 12 - n := by rw [n2, List.length_drop, List.length_drop]
      obtain ⟨e1, m, m1, m2, m3, m4⟩ := xEnd_exact k1 h
      subst e1
      refine ⟨12 + n + m, by omega, by omega, by rw [m3, n2, List.drop_drop, List.drop_drop]; congr 1; omega, ?_⟩
      have hl : (src.take (12 + n + m)).length = 12 + n + m := by rw [List.length_take]; omega
      have hb := xBlocks_exact (src.length + 1) (12 + n + m + 1) (s.take m) (by rw [List.length_drop]; omega) (by rw [List.length_take]; omega) (by rw [getD_takeU s (by omega)]; exact k2) (by rw [List.length_drop, List.length_take]; omega) hd
      rw [List.length_drop, hsl, show src.length - 12 - (src.length - 12 - n) = n by omega] at hb
      have hd2 : (src.take (12 + n + m)).drop 12 = (src.drop 12).take n ++ s.take m := by
        rw [List.drop_take, n2, ← List.take_add]
        congr 1
        omega
      unfold xMem
      rw [hl, if_neg (by omega), List.take_take, show min 12 (12 + n + m) = 12 by omega, if_neg h2, hd2, hb]
      exact m4
/-- What is told of a beginning is a beginning. -/
theorem d2Go_pre (S most : Nat) : ∀ (f : Nat) (x : DS) (out src : List UInt8), out <+: (d2Go S most f x out src).1
  | 0, x, out, src => List.prefix_refl _
  | f + 1, x, out, src => by
    unfold d2Go
    cases one S x src with
    | err z => exact List.prefix_refl _
    | fin rest => exact List.prefix_refl _
    | told b y rest =>
      simp only
      split
      · exact List.prefix_refl _
      · exact (List.prefix_append _ _).trans (d2Go_pre S most f _ _ _)
theorem d2Go_mono (S most : Nat) (q : List UInt8) : ∀ (f g : Nat) (x : DS) (out src : List UInt8), src.length < f → src.length < g → (d2Go S most f x out src).1 <+: (d2Go S most g x out (src ++ q)).1
  | 0, _, _, _, _, h, _ => absurd h (by omega)
  | _, 0, _, _, _, _, h => absurd h (by omega)
  | f + 1, g + 1, x, out, src, hf, hg => by
    by_cases h10 : one S x src = .err 10
    · have e : (d2Go S most (f + 1) x out src).1 = out := by unfold d2Go; rw [h10]
      rw [e]
      exact d2Go_pre S most (g + 1) x out (src ++ q)
    · have hm := one_more S x src q h10
      unfold d2Go
      rw [hm]
      cases ho : one S x src with
      | err z => exact List.prefix_refl _
      | fin rest => exact List.prefix_refl _
      | told b y rest =>
        simp only [OneR.more]
        split
        · exact List.prefix_refl _
        · obtain ⟨m, hm1, hm2, hr⟩ := (one_front S x src).1 b y rest ho
          exact d2Go_mono S most q f g _ _ rest (by rw [hr, List.length_drop]; omega) (by rw [hr, List.length_drop]; omega)
theorem d2P_mono (S most : Nat) (src q : List UInt8) : (d2P S most src).1 <+: (d2P S most (src ++ q)).1 := d2Go_mono S most q _ _ _ _ _ (by omega) (by rw [List.length_append]; omega)
theorem xBody_mono (budget : Nat) (kind : Int) (told : Nat) (R : BlkR) (hl : Nat) (src q : List UInt8) : (xBody budget kind told R hl src).out <+: (xBody budget kind told R hl (src ++ q)).out := by
  have h := d2P_mono (max R.1.toNat 4096) (16777216 - told) src q
  unfold xBody
  split
  · exact List.prefix_refl _
  · split
    · exact List.prefix_refl _
    · cases hd : d2P (max R.1.toNat 4096) (16777216 - told) src with
      | mk T Rr =>
        cases he : d2P (max R.1.toNat 4096) (16777216 - told) (src ++ q) with
        | mk U Ur =>
          rw [hd, he] at h
          cases Rr with
          | inl e =>
            cases Ur with
            | inl e2 => exact h
            | inr r2 =>
              show T <+: (xTail _ _ _ _ U r2).out
              rw [xTail_out]
              exact h
          | inr r =>
            cases Ur with
            | inl e2 =>
              show (xTail _ _ _ _ T r).out <+: U
              rw [xTail_out]
              exact h
            | inr r2 =>
              show (xTail _ _ _ _ T r).out <+: (xTail _ _ _ _ U r2).out
              rw [xTail_out, xTail_out]
              exact h
theorem xBlock_mono (budget : Nat) (kind : Int) (told : Nat) (src q : List UInt8) : (xBlock budget kind told src).out <+: (xBlock budget kind told (src ++ q)).out := by
  unfold xBlock
  by_cases h1 : src.length < hdLen src
  · rw [if_pos h1]; exact List.nil_prefix
  · have h4 := hdLen_pos src
    rw [if_neg h1, hdLen_app (by omega), if_neg (by rw [List.length_append]; omega), List.take_append_of_le_length (by omega), List.drop_append_of_le_length (by omega)]
    exact xBody_mono _ _ _ _ _ _ _
theorem xBlocks_pre (budget : Nat) (kind : Int) : ∀ (f : Nat) (recs : List (Nat × Nat)) (out src : List UInt8), out <+: (xBlocks budget kind f recs out src).1
  | 0, _, _, _ => List.prefix_refl _
  | f + 1, recs, out, src => by
    unfold xBlocks
    split
    · exact List.prefix_refl _
    · split
      · exact List.prefix_refl _
      · cases xBlock budget kind out.length src with
        | err e o => exact List.prefix_append _ _
        | ok o r rest => exact (List.prefix_append _ _).trans (xBlocks_pre budget kind f _ _ _)
theorem xBlocks_mono (budget : Nat) (kind : Int) (q : List UInt8) : ∀ (f g : Nat) (recs : List (Nat × Nat)) (out src : List UInt8), src.length < f → src.length < g → (xBlocks budget kind f recs out src).1 <+: (xBlocks budget kind g recs out (src ++ q)).1
  | 0, _, _, _, _, h, _ => absurd h (by omega)
  | _, 0, _, _, _, _, h => absurd h (by omega)
  | f + 1, g + 1, recs, out, src, hf, hg => by
    by_cases h1 : src.length < 1
    · have e : (xBlocks budget kind (f + 1) recs out src).1 = out := by unfold xBlocks; rw [if_pos h1]
      rw [e]
      exact xBlocks_pre _ _ _ _ _ _
    have hmo := xBlock_mono budget kind out.length src q
    have hmm := xBlock_more budget kind out.length src q
    unfold xBlocks
    rw [if_neg h1, if_neg (show ¬ (src ++ q).length < 1 by rw [List.length_append]; omega), getD_app (by omega)]
    by_cases h2 : src.getD 0 0 = 0
    · rw [if_pos h2, if_pos h2]; exact List.prefix_refl _
    rw [if_neg h2, if_neg h2]
    cases hd : xBlock budget kind out.length src with
    | err e o =>
      rw [hd] at hmo
      simp only [BlkE.out] at hmo
      cases he : xBlock budget kind out.length (src ++ q) with
      | err e2 o2 =>
        rw [he] at hmo
        exact (List.prefix_append_right_inj _).2 hmo
      | ok o2 r2 rest2 =>
        rw [he] at hmo
        exact ((List.prefix_append_right_inj _).2 hmo).trans (xBlocks_pre _ _ _ _ _ _)
    | ok o r rest =>
      rw [hd] at hmm
      rw [hmm (fun e => e)]
      simp only [BlkE.more]
      obtain ⟨m, m1, m2, m3, -⟩ := xBlock_front hd
      exact xBlocks_mono budget kind q f g _ _ rest (by rw [m3, List.length_drop]; omega) (by rw [m3, List.length_drop]; omega)
theorem xEnd_out (kind : Int) (out : List UInt8) (recs : List (Nat × Nat)) (src : List UInt8) : (xEnd kind out recs src).1 = out := by
  unfold xEnd
  cases xIndex recs src with
  | inl e => rfl
  | inr p =>
    simp only
    repeat' split
    all_goals rfl
theorem xMem_mono (budget : Nat) (src q : List UInt8) : (xMem budget src).1 <+: (xMem budget (src ++ q)).1 := by
  unfold xMem
  by_cases h1 : src.length < 12
  · rw [if_pos h1]; exact List.nil_prefix
  rw [if_neg h1, if_neg (show ¬ (src ++ q).length < 12 by rw [List.length_append]; omega), List.take_append_of_le_length (by omega), List.drop_append_of_le_length (by omega)]
  by_cases h2 : (headOf (src.take 12)).2 ≠ 0
  · rw [if_pos h2, if_pos h2]; exact List.prefix_refl _
  rw [if_neg h2, if_neg h2]
  have hm := xBlocks_mono budget (headOf (src.take 12)).1 q (src.length + 1) ((src ++ q).length + 1) [] [] (src.drop 12) (by rw [List.length_drop]; omega) (by rw [List.length_drop, List.length_append]; omega)
  cases hd : xBlocks budget (headOf (src.take 12)).1 (src.length + 1) [] [] (src.drop 12) with
  | mk T Rr =>
    cases he : xBlocks budget (headOf (src.take 12)).1 ((src ++ q).length + 1) [] [] (src.drop 12 ++ q) with
    | mk U Ur =>
      rw [hd, he] at hm
      cases Rr with
      | inl e =>
        cases Ur with
        | inl e2 => exact hm
        | inr r2 =>
          show T <+: (xEnd _ U r2.1 r2.2).1
          rw [xEnd_out]
          exact hm
      | inr r =>
        cases Ur with
        | inl e2 =>
          show (xEnd _ T r.1 r.2).1 <+: U
          rw [xEnd_out]
          exact hm
        | inr r2 =>
          show (xEnd _ T r.1 r.2).1 <+: (xEnd _ U r2.1 r2.2).1
          rw [xEnd_out, xEnd_out]
          exact hm
/-- Cut anywhere. -/
theorem xMem_cut {budget : Nat} {src T r : List UInt8} (h : xMem budget src = (T, .inr r)) : ∃ m, 12 ≤ m ∧ m ≤ src.length ∧ r = src.drop m ∧ (∀ k, k < m → ∃ T' more, xMem budget (src.take k) = (T', .inl 10) ∧ T = T' ++ more) ∧ ∀ q, xMem budget (src.take m ++ q) = (T, .inr q) := by
  obtain ⟨m, m1, m2, m3, m4⟩ := xMem_exact h
  refine ⟨m, by omega, m2, m3, fun k hk => ?_, fun q => ?_⟩
  · have hs : src.take m = src.take k ++ (src.drop k).take (m - k) := by
      rw [← List.take_add]
      congr 1
      omega
    have hmono := xMem_mono budget (src.take k) ((src.drop k).take (m - k))
    rw [← hs, m4] at hmono
    obtain ⟨more, hmore⟩ := hmono
    by_cases hc : cutN (xMem budget (src.take k)).2
    · cases hx : xMem budget (src.take k) with
      | mk T' R =>
        rw [hx] at hc hmore
        cases R with
        | inl e =>
          have hc : e = 10 := hc
          subst hc
          exact ⟨T', more, rfl, hmore.symm⟩
        | inr r => exact hc.elim
    · have hm := xMem_more budget (src.take k) ((src.drop k).take (m - k)) hc
      rw [← hs, m4] at hm
      exfalso
      cases hx : xMem budget (src.take k) with
      | mk T' R =>
        rw [hx] at hm
        cases R with
        | inl e => simp [sumMore] at hm
        | inr r =>
          simp only [sumMore, Prod.mk.injEq, Sum.inr.injEq] at hm
          have := congrArg List.length hm.2
          rw [List.length_append, List.length_take, List.length_drop, List.length_nil] at this
          omega
  · rw [xMem_more _ _ _ (by rw [m4]; exact fun e => e), m4]
    rfl
end Go.Proofs.YtgahfpflhhfhfaaGreat

/- An xz member's padding; its last byte: plain. -/
namespace Go.Proofs.YtgahfpflhhfhfaaGreat
open Go.RowKit Rng Win Lz Box
set_option linter.unusedVariables false
set_option linter.unusedSimpArgs false
/-- Four noughts are ahead. -/
def nil4 (s : List UInt8) : Prop := 4 ≤ s.length ∧ s.take 4 = [0, 0, 0, 0]
instance (s : List UInt8) : Decidable (nil4 s) := by unfold nil4; exact inferInstance
theorem dropPad_step {f : Nat} {s : List UInt8} : dropPad (f + 1) s = if nil4 s then dropPad f (s.drop 4) else s := rfl
theorem dropPad_spec : ∀ (f : Nat) (s : List UInt8), s.length ≤ f → ∃ j, s = List.replicate (4 * j) 0 ++ dropPad f s ∧ ¬ nil4 (dropPad f s)
  | 0, s, h => by
    have : s = [] := List.eq_nil_of_length_eq_zero (by omega)
    subst this
    exact ⟨0, rfl, fun h => by have := h.1; simp [dropPad] at this⟩
  | f + 1, s, h => by
    rw [dropPad_step]
    by_cases h4 : nil4 s
    · rw [if_pos h4]
      obtain ⟨j, j1, j2⟩ := dropPad_spec f (s.drop 4) (by rw [List.length_drop]; have := h4.1; omega)
      refine ⟨j + 1, ?_, j2⟩
      rw [show 4 * (j + 1) = 4 + 4 * j by omega, ← List.replicate_append_replicate, List.append_assoc, ← j1]
      have e : (List.replicate 4 0 : List UInt8) = s.take 4 := h4.2.symm
      rw [e, List.take_append_drop]
    · rw [if_neg h4]
      exact ⟨0, rfl, h4⟩
theorem dropPad_zeros {q : List UInt8} (hq : ¬ nil4 q) : ∀ (j f : Nat), 4 * j + q.length ≤ f → dropPad f (List.replicate (4 * j) 0 ++ q) = q
  | 0, f, h => by
    cases f with
    | zero => rfl
    | succ f =>
      rw [dropPad_step]
      show (if nil4 q then _ else q) = q
      rw [if_neg hq]
  | j + 1, f, h => by
    cases f with
    | zero => omega
    | succ f =>
      have e : (List.replicate (4 * (j + 1)) 0 : List UInt8) ++ q = [0, 0, 0, 0] ++ (List.replicate (4 * j) 0 ++ q) := by
        rw [show 4 * (j + 1) = 4 + 4 * j by omega, ← List.replicate_append_replicate, List.append_assoc]
        rfl
      rw [e, dropPad_step, if_pos ⟨by simp, rfl⟩]
      exact dropPad_zeros hq j f (by omega)
/-- A member with its padding: what it takes; cut ahead of its padding; with something behind. -/
theorem xP_cut {budget : Nat} {src T r : List UInt8} (h : xP budget src = (T, .inr r)) : ∃ m j, 12 ≤ m ∧ m + 4 * j ≤ src.length ∧ r = src.drop (m + 4 * j) ∧ src.take (m + 4 * j) = src.take m ++ List.replicate (4 * j) 0 ∧ (∃ r', xMem budget src = (T, .inr r') ∧ r' = src.drop m) ∧
    (∀ k, k < m → ∃ T' more, xP budget (src.take k) = (T', .inl 10) ∧ T = T' ++ more) ∧ ∀ q, ¬ nil4 q → xP budget (src.take (m + 4 * j) ++ q) = (T, .inr q) := by
  unfold xP at h
  cases hm : xMem budget src with
  | mk T0 R =>
    rw [hm] at h
    cases R with
    | inl e => simp at h
    | inr s =>
      simp only [Prod.mk.injEq, Sum.inr.injEq] at h
      obtain ⟨e1, e2⟩ := h
      subst e1
      obtain ⟨m, m1, m2, m3, m4, m5⟩ := xMem_cut hm
      obtain ⟨j, j1, j2⟩ := dropPad_spec s.length s (Nat.le_refl _)
      rw [e2] at j1 j2
      have hsl : s.length = src.length - m := by rw [m3, List.length_drop]
      have hl := congrArg List.length j1
      rw [List.length_append, List.length_replicate] at hl
      have ht : src.take (m + 4 * j) = src.take m ++ List.replicate (4 * j) 0 := by
        have h1 : s.take (4 * j) = List.replicate (4 * j) 0 := by
          rw [j1, List.take_append_of_le_length (by simp)]
          exact List.take_of_length_le (by simp)
        rw [List.take_add, ← m3, h1]
      refine ⟨m, j, m1, by omega, ?_, ht, ⟨s, rfl, m3⟩, fun k hk => ?_, fun q hq => ?_⟩
      · rw [← List.drop_drop, ← m3]
        have h1 : (List.replicate (4 * j) 0 : List UInt8).drop (4 * j) = [] := List.drop_of_length_le (by simp)
        rw [j1, List.drop_append_of_le_length (by simp), h1, List.nil_append]
      · obtain ⟨T', more, t1, t2⟩ := m4 k hk
        exact ⟨T', more, by unfold xP; rw [t1], t2⟩
      · rw [ht, List.append_assoc]
        unfold xP
        rw [m5]
        simp only
        rw [dropPad_zeros hq j _ (by rw [List.length_append, List.length_replicate]; omega)]
end Go.Proofs.YtgahfpflhhfhfaaGreat

/- A member that is made of plain blocks is read as these: plain. -/
namespace Go.Proofs.YtgahfpflhhfhfaaGreat
open Go.RowKit Rng Win Lz Box
set_option linter.unusedVariables false
set_option linter.unusedSimpArgs false
theorem two_numX {m : Nat} (h : m < 65536) : (UInt8.ofNat (m / 256)).toNat * 256 + (UInt8.ofNat m).toNat = m := by
  rw [UInt8.toNat_ofNat', UInt8.toNat_ofNat']
  omega
/-- Plain chunks of few bytes, and the end. -/
def bodyB (b : List UInt8) : List UInt8 := if b.length = 0 then [0] else 1 :: UInt8.ofNat ((b.length - 1) / 256) :: UInt8.ofNat (b.length - 1) :: (b ++ [0])
set_option maxRecDepth 8000 in
theorem bodyB_read (S most : Nat) (b r : List UInt8) (hb : b.length ≤ 65536) (hm : b.length ≤ most) : d2P S most (bodyB b ++ r) = (b, .inr r) := by
  unfold bodyB
  by_cases h0 : b.length = 0
  · rw [if_pos h0]
    have : b = [] := List.eq_nil_of_length_eq_zero h0
    subst this
    have e : one S newDS ([0] ++ r) = .fin r := by
      unfold one
      rw [if_neg (by simp)]
      rfl
    unfold d2P d2Go
    rw [e]
  · rw [if_neg h0]
    have hl : b.length - 1 < 65536 := by omega
    have htw := two_numX hl
    have e1 : ∃ y, one S newDS (1 :: UInt8.ofNat ((b.length - 1) / 256) :: UInt8.ofNat (b.length - 1) :: (b ++ [0]) ++ r) = .told b y ([0] ++ r) := by
      have e0 : (1 :: UInt8.ofNat ((b.length - 1) / 256) :: UInt8.ofNat (b.length - 1) :: (b ++ [0]) ++ r).getD 0 0 = 1 := rfl
      have hh : headN (1 : UInt8).toNat = 3 := by decide
      have hbad : ¬ badHead newDS (1 : UInt8).toNat := by
        unfold badHead
        rintro (e | e)
        · exact e.2.1 rfl
        · exact absurd e.1 (by decide)
      have e2 : twoB ((1 :: UInt8.ofNat ((b.length - 1) / 256) :: UInt8.ofNat (b.length - 1) :: (b ++ [0]) ++ r).take 3) 1 + 1 = b.length := by
        show (UInt8.ofNat ((b.length - 1) / 256)).toNat * 256 + (UInt8.ofNat (b.length - 1)).toNat + 1 = _
        omega
      have e3 : (1 :: UInt8.ofNat ((b.length - 1) / 256) :: UInt8.ofNat (b.length - 1) :: (b ++ [0]) ++ r).drop 3 = b ++ ([0] ++ r) := by
        show (b ++ [0]) ++ r = _
        rw [List.append_assoc]
      apply Exists.intro
      unfold one
      rw [e0, hh, if_neg (by simp), if_neg (by omega), if_neg (by simp), if_neg (by omega), if_neg hbad]
      unfold oneBody
      rw [if_pos (by decide), e2, e3, if_neg (by rw [List.length_append]; omega), List.take_append_of_le_length (Nat.le_refl _), List.take_length, List.drop_append_of_le_length (Nat.le_refl _), List.drop_length, List.nil_append]
    obtain ⟨y, hy⟩ := e1
    have e4 : ∀ x : DS, one S x ([0] ++ r) = .fin r := by
      intro x
      unfold one
      rw [if_neg (by simp)]
      rfl
    unfold d2P d2Go
    rw [hy]
    simp only
    rw [if_neg (by simp only [List.length_nil]; omega)]
    cases hf : (1 :: UInt8.ofNat ((b.length - 1) / 256) :: UInt8.ofNat (b.length - 1) :: (b ++ [0]) ++ r).length with
    | zero => simp at hf
    | succ f =>
      unfold d2Go
      rw [e4]
      rfl
/-- A block's head, but for its length and its seal. -/
def hdRaw (numbers : Bool) (b : List UInt8) (code : UInt8) : List UInt8 := (if numbers then 192 :: (put (bodyB b).length ++ put b.length) else [0]) ++ [33, 1, code]
def zs (n : Nat) : List UInt8 := List.replicate (padOf n) 0
def hdPad (numbers : Bool) (b : List UInt8) (code : UInt8) : List UInt8 := hdRaw numbers b code ++ zs (1 + (hdRaw numbers b code).length)
def hdB (numbers : Bool) (b : List UInt8) (code : UInt8) : List UInt8 := sealOn (UInt8.ofNat ((1 + (hdPad numbers b code).length) / 4) :: hdPad numbers b code)
theorem padOf_lt (n : Nat) : padOf n < 4 := by unfold padOf; omega
theorem padOf_mod (n : Nat) : (n + padOf n) % 4 = 0 := by unfold padOf; omega
theorem zs_len (n : Nat) : (zs n).length = padOf n := by unfold zs; simp
theorem hdRaw_len (numbers : Bool) (b : List UInt8) (code : UInt8) : (hdRaw numbers b code).length ≤ 22 := by
  have h1 := (put_len (bodyB b).length).2
  have h2 := (put_len b.length).2
  unfold hdRaw
  cases numbers
  · simp
  · simp only [if_true, List.length_append, List.length_cons, List.length_nil]
    omega
theorem hdPad_len (numbers : Bool) (b : List UInt8) (code : UInt8) : (1 + (hdPad numbers b code).length) % 4 = 0 ∧ (hdPad numbers b code).length ≤ 25 ∧ 3 ≤ (hdPad numbers b code).length := by
  have h1 := hdRaw_len numbers b code
  have h2 := padOf_mod (1 + (hdRaw numbers b code).length)
  have h3 := padOf_lt (1 + (hdRaw numbers b code).length)
  have h4 : 4 ≤ (hdRaw numbers b code).length := by unfold hdRaw; simp only [List.length_append, List.length_cons, List.length_nil]; split <;> simp
  unfold hdPad
  rw [List.length_append, zs_len]
  omega
theorem hdB_len (numbers : Bool) (b : List UInt8) (code : UInt8) : (hdB numbers b code).length = (hdPad numbers b code).length + 5 := by
  unfold hdB sealOn
  rw [List.length_append, sealB_len, List.length_cons]
theorem hdLen_hdB (numbers : Bool) (b r : List UInt8) (code : UInt8) : hdLen (hdB numbers b code ++ r) = (hdB numbers b code).length := by
  have h := hdPad_len numbers b code
  rw [hdB_len]
  unfold hdLen
  have e : (hdB numbers b code ++ r).getD 0 0 = UInt8.ofNat ((1 + (hdPad numbers b code).length) / 4) := rfl
  rw [e, UInt8.toNat_ofNat']
  omega
theorem bkFilter_code {code : UInt8} (h : code.toNat ≤ 40) (z p w : Nat) : bkFilter (code :: List.replicate z 0) p w = .ok (winOf code.toNat, p, w) := by
  unfold bkFilter
  simp only
  rw [if_neg (by omega), if_neg (by omega), if_neg (by intro h2; exact h2 (fun x hx => (List.mem_replicate.1 hx).2))]
theorem number_one (r : List UInt8) : number (1 :: r) = (1, 1, 0) := number_put (n := 1) (by decide) r
theorem number_33 (r : List UInt8) : number (33 :: r) = (33, 1, 0) := number_put (n := 33) (by decide) r
theorem bkKind_code {code : UInt8} (h : code.toNat ≤ 40) (z p w : Nat) : bkKind ([33, 1, code] ++ List.replicate z 0) p w = .ok (winOf code.toNat, p, w) := by
  unfold bkKind
  rw [show ([33, 1, code] ++ List.replicate z 0 : List UInt8) = 33 :: 1 :: code :: List.replicate z 0 from rfl, number_33]
  rw [if_neg (by simp), if_neg (by simp)]
  unfold bkSet
  rw [show (33 :: 1 :: code :: List.replicate z 0 : List UInt8).drop 1 = 1 :: code :: List.replicate z 0 from rfl, number_one]
  rw [if_neg (by simp), if_neg (by simp)]
  exact bkFilter_code h z p w
theorem bkBody_hd (numbers : Bool) (b : List UInt8) {code : UInt8} (h : code.toNat ≤ 40) (hb : b.length ≤ 65536) :
    bkBody (hdPad numbers b code) = .ok (winOf code.toNat, if numbers then (bodyB b).length else M64', if numbers then b.length else M64') := by
  have hbl : 1 ≤ (bodyB b).length ∧ (bodyB b).length ≤ 65540 := by
    unfold bodyB
    split
    · simp
    · simp only [List.length_cons, List.length_append, List.length_nil]; omega
  unfold hdPad zs
  generalize padOf (1 + (hdRaw numbers b code).length) = z
  unfold hdRaw
  cases numbers with
  | false =>
    show bkBody (0 :: ([33, 1, code] ++ List.replicate z 0)) = _
    unfold bkBody
    simp only
    rw [if_neg (by simp)]
    unfold bkPacked
    rw [if_neg (by simp)]
    unfold bkWhole
    rw [if_neg (by simp)]
    exact bkKind_code h z _ _
  | true =>
    have e : ((if true = true then 192 :: (put (bodyB b).length ++ put b.length) else [0]) ++ [33, 1, code]) ++ List.replicate z 0 = 192 :: (put (bodyB b).length ++ (put b.length ++ ([33, 1, code] ++ List.replicate z 0))) := by
      simp
    rw [e]
    have n1 := number_put (n := (bodyB b).length) (by omega) (put b.length ++ ([33, 1, code] ++ List.replicate z 0))
    have n2 := number_put (n := b.length) (by omega) ([33, 1, code] ++ List.replicate z 0)
    unfold bkBody
    simp only
    rw [if_neg (by decide)]
    unfold bkPacked
    rw [if_pos (by decide), n1]
    rw [if_neg (by simp), if_neg (by simp only; omega)]
    unfold bkWhole
    simp only
    rw [List.drop_append_of_le_length (Nat.le_refl _), List.drop_length, List.nil_append, if_pos (by decide), n2, if_neg (by simp)]
    simp only
    rw [List.drop_append_of_le_length (Nat.le_refl _), List.drop_length, List.nil_append]
    exact bkKind_code h z _ _
theorem blockOf_hd (numbers : Bool) (b : List UInt8) {code : UInt8} (h : code.toNat ≤ 40) (hb : b.length ≤ 65536) :
    blockOf (hdB numbers b code) = (winOf code.toNat, (hdB numbers b code).length, if numbers then (bodyB b).length else M64', if numbers then b.length else M64', 0) := by
  have hp := hdPad_len numbers b code
  have hl := hdB_len numbers b code
  obtain ⟨L, hL⟩ : ∃ L, UInt8.ofNat ((1 + (hdPad numbers b code).length) / 4) = L := ⟨_, rfl⟩
  have hLn : (L.toNat + 1) * 4 = (hdB numbers b code).length := by
    rw [← hL, UInt8.toNat_ofNat', hl]
    omega
  have hc : hdB numbers b code = L :: (hdPad numbers b code ++ sealB (L :: hdPad numbers b code)) := by
    unfold hdB sealOn
    rw [hL]
    rfl
  have hlen : (L :: (hdPad numbers b code ++ sealB (L :: hdPad numbers b code))).length = (hdB numbers b code).length := by rw [← hc]
  have hs := sealed_seal (L :: hdPad numbers b code)
  have hs2 : sealedB (hdB numbers b code) = true := by unfold hdB; rw [hL]; exact hs
  rw [hc] at hs2
  conv => lhs; rw [hc]
  unfold blockOf
  simp only
  rw [hlen, hLn, if_neg (by omega)]
  have hL0 : ¬ L = 0 := by
    intro e
    rw [e] at hLn
    have : (0 : UInt8).toNat = 0 := rfl
    omega
  have ht : (L :: (hdPad numbers b code ++ sealB (L :: hdPad numbers b code))).take (hdB numbers b code).length = L :: (hdPad numbers b code ++ sealB (L :: hdPad numbers b code)) := List.take_of_length_le (by omega)
  rw [if_neg hL0, ht, if_neg (by rw [hs2]; simp)]
  have hd : ((L :: (hdPad numbers b code ++ sealB (L :: hdPad numbers b code))).drop 1).take ((hdB numbers b code).length - 5) = hdPad numbers b code := by
    show (hdPad numbers b code ++ sealB (L :: hdPad numbers b code)).take _ = _
    rw [hl, Nat.add_sub_cancel, List.take_append_of_le_length (Nat.le_refl _), List.take_length]
  rw [hd, bkBody_hd numbers b h hb]
  rfl
end Go.Proofs.YtgahfpflhhfhfaaGreat

/- A member that is made of plain blocks is read as these: plain. -/
namespace Go.Proofs.YtgahfpflhhfhfaaGreat
open Go.RowKit Rng Win Lz Box
set_option linter.unusedVariables false
set_option linter.unusedSimpArgs false
/-- A block. -/
def blockB (kind : Int) (numbers : Bool) (b : List UInt8) (code : UInt8) : List UInt8 := hdB numbers b code ++ (bodyB b ++ (zs ((hdB numbers b code).length + (bodyB b).length) ++ chkB kind b))
def recB (kind : Int) (numbers : Bool) (b : List UInt8) (code : UInt8) : Nat × Nat := ((hdB numbers b code).length + (bodyB b).length + chkLen kind, b.length)
theorem bodyB_len {b : List UInt8} (hb : b.length ≤ 65536) : 1 ≤ (bodyB b).length ∧ (bodyB b).length ≤ 65540 := by
  unfold bodyB
  split
  · simp
  · simp only [List.length_cons, List.length_append, List.length_nil]; omega
theorem zs_take (n : Nat) (r : List UInt8) : (zs n ++ r).take (padOf n) = List.replicate (padOf n) 0 := by
  rw [List.take_append_of_le_length (by rw [zs_len]; omega)]
  exact List.take_of_length_le (by rw [zs_len]; omega)
theorem zs_drop (n : Nat) (r : List UInt8) : (zs n ++ r).drop (padOf n) = r := by
  have h : (zs n).drop (padOf n) = [] := List.drop_of_length_le (by rw [zs_len]; omega)
  rw [List.drop_append_of_le_length (by rw [zs_len]; omega), h, List.nil_append]
theorem xTail_made (kind : Int) (numbers : Bool) {code : UInt8} (h : code.toNat ≤ 40) {b : List UInt8} (hb : b.length ≤ 65536) (r : List UInt8) :
    xTail (blockOf (hdB numbers b code)) kind (hdB numbers b code).length (bodyB b).length b (zs ((hdB numbers b code).length + (bodyB b).length) ++ (chkB kind b ++ r)) = .ok b (recB kind numbers b code) r := by
  rw [blockOf_hd numbers b h hb]
  have hl := bodyB_len hb
  have hc := chkB_len kind b
  unfold xTail
  rw [if_neg (by
    simp only
    cases numbers <;> simp [M64'])]
  unfold recB
  generalize (hdB numbers b code).length = H
  generalize hn : H + (bodyB b).length = n
  rw [if_neg (by rw [List.length_append, List.length_append, zs_len]; omega), zs_take, zs_drop, List.take_append_of_le_length (by omega), List.take_of_length_le (by omega), if_neg (by simp)]
  have e : (zs n ++ (chkB kind b ++ r)).drop (padOf n + chkLen kind) = r := by
    rw [← List.drop_drop, zs_drop, List.drop_append_of_le_length (by omega), List.drop_of_length_le (by omega), List.nil_append]
  rw [e]
theorem xBlock_made (budget : Nat) (kind : Int) (told : Nat) (numbers : Bool) {code : UInt8} (h : code.toNat ≤ 40) {b : List UInt8} (hb : b.length ≤ 65536) (hw : winOf code.toNat ≤ budget) (ht : told + b.length ≤ 16777216) (r : List UInt8) :
    xBlock budget kind told (blockB kind numbers b code ++ r) = .ok b (recB kind numbers b code) r := by
  have hc : blockB kind numbers b code ++ r = hdB numbers b code ++ (bodyB b ++ (zs ((hdB numbers b code).length + (bodyB b).length) ++ (chkB kind b ++ r))) := by
    unfold blockB
    simp only [List.append_assoc]
  rw [hc]
  unfold xBlock
  rw [hdLen_hdB, if_neg (by rw [List.length_append]; omega), List.take_append_of_le_length (Nat.le_refl _), List.take_length, List.drop_append_of_le_length (Nat.le_refl _), List.drop_length, List.nil_append]
  have hm := xTail_made kind numbers h hb r
  have hbo := blockOf_hd numbers b h hb
  unfold xBody
  rw [show (blockOf (hdB numbers b code)).2.2.2.2 = 0 by rw [hbo], show (blockOf (hdB numbers b code)).1 = winOf code.toNat by rw [hbo], if_neg (by simp), if_neg (by omega), bodyB_read _ _ b _ hb (by omega)]
  simp only
  rw [show (bodyB b ++ (zs ((hdB numbers b code).length + (bodyB b).length) ++ (chkB kind b ++ r))).length - (zs ((hdB numbers b code).length + (bodyB b).length) ++ (chkB kind b ++ r)).length = (bodyB b).length by rw [List.length_append]; omega]
  exact hm
theorem xBlock_over (budget : Nat) (kind : Int) (told : Nat) (numbers : Bool) {code : UInt8} (h : code.toNat ≤ 40) {b : List UInt8} (hb : b.length ≤ 65536) (hw : (budget : Int) < winOf code.toNat) (r : List UInt8) :
    xBlock budget kind told (blockB kind numbers b code ++ r) = .err 40 [] := by
  have hc : blockB kind numbers b code ++ r = hdB numbers b code ++ (bodyB b ++ (zs ((hdB numbers b code).length + (bodyB b).length) ++ (chkB kind b ++ r))) := by
    unfold blockB
    simp only [List.append_assoc]
  rw [hc]
  unfold xBlock
  rw [hdLen_hdB, if_neg (by rw [List.length_append]; omega), List.take_append_of_le_length (Nat.le_refl _), List.take_length]
  have hbo := blockOf_hd numbers b h hb
  unfold xBody
  rw [show (blockOf (hdB numbers b code)).2.2.2.2 = 0 by rw [hbo], show (blockOf (hdB numbers b code)).1 = winOf code.toNat by rw [hbo], if_neg (by simp), if_pos hw]
/-- All blocks. -/
def blocksB (kind : Int) (numbers : Bool) (code : UInt8) (l : List (List UInt8)) : List UInt8 := l.flatMap fun b => blockB kind numbers b code
def recsX (kind : Int) (numbers : Bool) (code : UInt8) (l : List (List UInt8)) : List (Nat × Nat) := l.map fun b => recB kind numbers b code
theorem blockB_head (kind : Int) (numbers : Bool) (b r : List UInt8) (code : UInt8) : (blockB kind numbers b code ++ r).getD 0 0 ≠ 0 ∧ 1 ≤ (blockB kind numbers b code).length := by
  have hp := hdPad_len numbers b code
  have e : (blockB kind numbers b code ++ r).getD 0 0 = UInt8.ofNat ((1 + (hdPad numbers b code).length) / 4) := rfl
  refine ⟨?_, ?_⟩
  · rw [e]
    intro h
    have := congrArg UInt8.toNat h
    rw [UInt8.toNat_ofNat'] at this
    have h0 : (0 : UInt8).toNat = 0 := rfl
    omega
  · unfold blockB
    rw [List.length_append, hdB_len]
    omega
theorem xBlocks_made (budget : Nat) (kind : Int) (numbers : Bool) {code : UInt8} (h : code.toNat ≤ 40) (hw : winOf code.toNat ≤ budget) (s : List UInt8) (hs : 1 ≤ s.length) (hs0 : s.getD 0 0 = 0) : ∀ (l : List (List UInt8)) (f : Nat) (recs : List (Nat × Nat)) (out : List UInt8), (∀ b ∈ l, b.length ≤ 65536) → out.length + l.flatten.length ≤ 16777216 → (blocksB kind numbers code l ++ s).length < f →
    xBlocks budget kind f recs out (blocksB kind numbers code l ++ s) = (out ++ l.flatten, .inr (recs ++ recsX kind numbers code l, s))
  | [], 0, _, _, _, _, hf => absurd hf (by omega)
  | [], f + 1, recs, out, _, _, hf => by
    show xBlocks budget kind (f + 1) recs out s = _
    unfold xBlocks
    rw [if_neg (by omega), if_pos hs0]
    simp [recsX]
  | b :: l, 0, _, _, _, _, hf => absurd hf (by omega)
  | b :: l, f + 1, recs, out, hl, ho, hf => by
    have hb := hl b (by simp)
    have hc : blocksB kind numbers code (b :: l) ++ s = blockB kind numbers b code ++ (blocksB kind numbers code l ++ s) := by
      unfold blocksB
      rw [List.flatMap_cons, List.append_assoc]
    rw [hc] at hf ⊢
    obtain ⟨h1, h2⟩ := blockB_head kind numbers b (blocksB kind numbers code l ++ s) code
    rw [List.flatten_cons, List.length_append] at ho
    unfold xBlocks
    rw [if_neg (by rw [List.length_append]; omega), if_neg h1, xBlock_made budget kind out.length numbers h hb hw (by omega)]
    simp only
    rw [xBlocks_made budget kind numbers h hw s hs hs0 l f _ _ (fun c hc => hl c (List.mem_cons_of_mem _ hc)) (by rw [List.length_append]; omega) (by rw [List.length_append] at hf; omega)]
    simp [recsX]
end Go.Proofs.YtgahfpflhhfhfaaGreat
