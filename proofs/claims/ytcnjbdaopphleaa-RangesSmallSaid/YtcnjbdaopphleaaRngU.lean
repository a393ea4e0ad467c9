/- The walk of RangesSmall. -/
import Derived.Test.YtcnjbdaopphleaaRngT
namespace Go.Proofs.Ytcnjbdaopphleaa
open Go.RowKit Rng
set_option linter.unusedVariables false
set_option linter.unusedSimpArgs false
theorem modS (x : Int) : ∃ Z : Nat, (wrap64 (x.tmod 32768 + 32768)).tmod 32768 = (Z : Int) ∧ Z < 32768 := by
  have a1 := Int.tmod_lt_of_pos x (show (0 : Int) < 32768 by decide)
  have a2 := Int.lt_tmod_of_pos x (show (0 : Int) < 32768 by decide)
  have e1 : wrap64 (x.tmod 32768 + 32768) = x.tmod 32768 + 32768 := by unfold wrap64; omega
  rw [e1]
  generalize x.tmod 32768 = r at *
  have b1 := Int.tmod_lt_of_pos (r + 32768) (show (0 : Int) < 32768 by decide)
  have b2 := Int.tmod_nonneg (a := r + 32768) 32768 (by omega)
  exact ⟨((r + 32768).tmod 32768).toNat, by omega, by omega⟩
theorem small_len (one : Bool) (n : Nat) : ((erun one n).close.out.length : Int) ≤ (n : Int) / 32 + 16 := by
  have h1 := close_cnt (erun one n)
  have h2 := erun_cnt one n
  unfold Enc.cnt at h1
  have h3 : (erun one n).out.length + (erun one n).more = (erun one n).cnt := rfl
  omega
structure SmallAt (w0 w : World) (b pb i : Nat) (one : Bool) (v : Value) : Prop where
  e : EncAt w 66 0 b w0.heap.size v (erun one i)
  p : Pts w pb #[.int .u16 (srun one i).p] 40
  q : Below w0.heap.size w0 w
  n : pb ≠ b
  m : w0.heap.size ≤ pb ∧ w0.heap.size ≤ b
theorem small_step (w0 w : World) (b pb i : Nat) (one : Bool) (v : Value) (bit : Int) (h : SmallAt w0 w b pb i one v) (hi : i < 32768) (hone : one = decide (bit ≠ 0)) :
    Calls Try.prog 22 #[.pointer (some ⟨b, 0, none⟩), .pointer (some ⟨pb, 0, none⟩), .int .i64 bit] w fun r w' => r = .returned (.tuple #[]) ∧ ∃ v', SmallAt w0 w' b pb (i + 1) one v' := by
  have hc : w.cell? ⟨pb, 0, none⟩ = some (.int .u16 (srun one i).p) := by rw [h.p.cell]; rfl
  have a1 := ownb_ne h.e.o h.p (by decide)
  have h2 := erun_cnt one i
  have hn := h.n
  have hm := h.m
  refine (ebit_p b w0.heap.size pb 0 (srun one i).p bit one v _ w h.e h.q.size (by omega) (erun_run one i).1 (erun_run one i).2 hc (h.p.frozen 0) hn a1 (srun_p one i) hone).mono ?_
  rintro r w' ⟨v', rfl, hE, hF, hM⟩
  have hF0 : Frm (fun x => x = pb) w (w.setCell ⟨pb, 0, none⟩ (.int .u16 (learn (fair (srun one i).p) one))) := (Frm.refl _ w).setCell (p := ⟨pb, 0, none⟩) (by rfl) _
  refine ⟨rfl, v', hE, ?_, ?_, hn, hm⟩
  · have h3 := (h.p.set 0 (.int .u16 (learn (fair (srun one i).p) one))).frm hF (by
      rintro (e | e)
      · exact hn e
      · exact a1 e)
    rw [srun_next] at h3
    exact h3
  · have h4 := h.q.trans (hF0.below h.q.size (fun k e => by omega))
    refine h4.trans (hF.below h4.size ?_)
    rintro k (e | e)
    · omega
    · exact (h.e.o.lt e).1
set_option maxRecDepth 100000 in
set_option maxHeartbeats 4000000 in
theorem lawSmall10 (n : Int) (one : Bool) (w : World) (_i0 : -9223372036854775808 ≤ n ∧ n ≤ 9223372036854775807) :
    Calls Try.prog 6 #[.int .i64 n, .bool one] w fun e w' => e = .returned (.bool true) ∧ Below w.heap.size w w' := by
  clear _i0
  obtain ⟨N, hN, hN2⟩ := modS n
  have HL := fun k => small_len one k
  have HLH := Lib.hid HL
  clear HL
  cases one
  · go_enter Try.func6, Try.ntmps6
    go_wp2_with fail
    refine (enew_p _).mono ?_; rintro r w1 ⟨rfl, hE1, hB1⟩
    have hl1 := hE1.p.lt
    have hs1 := hB1.size
    have hf1 : Frm (fun _ => False) w1 (w1.alloc (.cells #[.int .u16 1024] 40)) := (Frm.refl _ w1).alloc _
    have E1 := Lib.hid (hE1.frm hf1 (fun h => h) (fun _ _ h => h))
    have P1 := Lib.hid (Pts.new w1 #[.int .u16 1024] 40)
    have B1 := Lib.hid (hB1.alloc hs1 (.cells #[.int .u16 1024] 40))
    clear hE1 hB1 hf1
    go_wp2
    obtain ⟨pb, hpb⟩ : ∃ x, w1.heap.size = x := ⟨_, rfl⟩
    simp only [hpb]
    rw [hpb] at P1 hl1 hs1
    clear hpb
    generalize w1.alloc (.cells #[.int .u16 1024] 40) = w2 at *
    go_loopw [8] (fun iv wr => ∃ (i : Nat) (v : Value), iv = .int .i64 i ∧ i ≤ N ∧ SmallAt w wr w.heap.size pb i false v) (fun iv _ => N - (intOf iv).toNat)
    case atStart => exact ⟨0, _, rfl, by omega, E1.out, P1.out, B1.out, by omega, by omega, Nat.le_refl _⟩
    case round =>
      obtain ⟨i, v, rfl, hi, hs⟩ := hrel
      have SA := Lib.hid hs
      clear hs E1 P1 B1
      by_cases hlt : i < N
      · go_wp2_with fail
        refine (small_step w _ _ pb i _ v _ SA.out (by omega) (by decide)).mono ?_; rintro r w6 ⟨rfl, v6, h6⟩
        have S6 := Lib.hid h6
        clear h6
        go_wp2
        exact ⟨⟨i + 1, v6, by go_num, by omega, S6.out⟩, by simp [intOf]; omega⟩
      · obtain rfl : i = N := by omega
        have hlen := HLH.out i
        obtain ⟨G, hG⟩ : ∃ G, (erun false i).close = G := ⟨_, rfl⟩
        rw [hG] at hlen
        obtain ⟨Q, hQ⟩ : ∃ Q, (i : Int) / 32 = Q := ⟨_, rfl⟩
        have hQ2 : 0 ≤ Q ∧ Q ≤ 1024 := by omega
        have hQ3 : (i : Int).tdiv 32 = Q := by rw [Int.tdiv_eq_ediv_of_nonneg (by omega)]; exact hQ
        rw [hQ] at hlen
        have HG := Lib.hid hG
        clear hG
        go_wp2_with fail
        refine (eclose_p w.heap.size w.heap.size _ (erun false i) _ SA.out.e SA.out.q.size (by have := erun_cnt false i; omega)).mono ?_; rintro r w8 ⟨v8, rv8, rfl, hE8, hF8, hM8, ho8, hne8⟩
        rw [HG.out] at ho8
        obtain ⟨A8, k8, rfl, hc8, hm8, hr8⟩ := ho8.slice
        have B8 := Lib.hid (SA.out.q.trans (hF8.below SA.out.q.size (by
          rintro k (rfl | hk)
          · exact Nat.le_refl _
          · exact (SA.out.e.o.lt hk).1)))
        clear hE8 hF8 hM8 ho8 hne8 hr8 SA
        go_wp2_with fail
        refine (wakes10 _).mono ?_; rintro r w9 ⟨rfl, h9⟩
        have B9 := Lib.hid (B8.out.trans (h9.mono B8.out.size))
        clear h9
        go_wp2
        go_ret
        exact ⟨rfl, B9.out⟩
  · go_enter Try.func6, Try.ntmps6
    go_wp2_with fail
    refine (enew_p _).mono ?_; rintro r w1 ⟨rfl, hE1, hB1⟩
    have hl1 := hE1.p.lt
    have hs1 := hB1.size
    have hf1 : Frm (fun _ => False) w1 (w1.alloc (.cells #[.int .u16 1024] 40)) := (Frm.refl _ w1).alloc _
    have E1 := Lib.hid (hE1.frm hf1 (fun h => h) (fun _ _ h => h))
    have P1 := Lib.hid (Pts.new w1 #[.int .u16 1024] 40)
    have B1 := Lib.hid (hB1.alloc hs1 (.cells #[.int .u16 1024] 40))
    clear hE1 hB1 hf1
    go_wp2
    obtain ⟨pb, hpb⟩ : ∃ x, w1.heap.size = x := ⟨_, rfl⟩
    simp only [hpb]
    rw [hpb] at P1 hl1 hs1
    clear hpb
    generalize w1.alloc (.cells #[.int .u16 1024] 40) = w2 at *
    go_loopw [8] (fun iv wr => ∃ (i : Nat) (v : Value), iv = .int .i64 i ∧ i ≤ N ∧ SmallAt w wr w.heap.size pb i true v) (fun iv _ => N - (intOf iv).toNat)
    case atStart => exact ⟨0, _, rfl, by omega, E1.out, P1.out, B1.out, by omega, by omega, Nat.le_refl _⟩
    case round =>
      obtain ⟨i, v, rfl, hi, hs⟩ := hrel
      have SA := Lib.hid hs
      clear hs E1 P1 B1
      by_cases hlt : i < N
      · go_wp2_with fail
        refine (small_step w _ _ pb i _ v _ SA.out (by omega) (by decide)).mono ?_; rintro r w6 ⟨rfl, v6, h6⟩
        have S6 := Lib.hid h6
        clear h6
        go_wp2
        exact ⟨⟨i + 1, v6, by go_num, by omega, S6.out⟩, by simp [intOf]; omega⟩
      · obtain rfl : i = N := by omega
        have hlen := HLH.out i
        obtain ⟨G, hG⟩ : ∃ G, (erun true i).close = G := ⟨_, rfl⟩
        rw [hG] at hlen
        obtain ⟨Q, hQ⟩ : ∃ Q, (i : Int) / 32 = Q := ⟨_, rfl⟩
        have hQ2 : 0 ≤ Q ∧ Q ≤ 1024 := by omega
        have hQ3 : (i : Int).tdiv 32 = Q := by rw [Int.tdiv_eq_ediv_of_nonneg (by omega)]; exact hQ
        rw [hQ] at hlen
        have HG := Lib.hid hG
        clear hG
        go_wp2_with fail
        refine (eclose_p w.heap.size w.heap.size _ (erun true i) _ SA.out.e SA.out.q.size (by have := erun_cnt true i; omega)).mono ?_; rintro r w8 ⟨v8, rv8, rfl, hE8, hF8, hM8, ho8, hne8⟩
        rw [HG.out] at ho8
        obtain ⟨A8, k8, rfl, hc8, hm8, hr8⟩ := ho8.slice
        have B8 := Lib.hid (SA.out.q.trans (hF8.below SA.out.q.size (by
          rintro k (rfl | hk)
          · exact Nat.le_refl _
          · exact (SA.out.e.o.lt hk).1)))
        clear hE8 hF8 hM8 ho8 hne8 hr8 SA
        go_wp2_with fail
        refine (wakes10 _).mono ?_; rintro r w9 ⟨rfl, h9⟩
        have B9 := Lib.hid (B8.out.trans (h9.mono B8.out.size))
        clear h9
        go_wp2
        go_ret
        exact ⟨rfl, B9.out⟩
end Go.Proofs.Ytcnjbdaopphleaa
