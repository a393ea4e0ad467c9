/- What the document says of numbers, a head, an index, a foot: the law's own check. -/
import Derived.Test.YtjhmebkkdgpneaaBoxZ
namespace Go.Proofs.Ytjhmebkkdgpneaa
open Go.RowKit Box
set_option linter.unusedVariables false
set_option linter.unusedSimpArgs false
theorem BRow.of_cells (w : World) (T : TypeId) (bs : List UInt8) : BRow (w.alloc (.cells (bs.map byteV).toArray T (0, 0))) (w.alloc (.cells (bs.map byteV).toArray T (0, 0))).heap.size (some ⟨w.heap.size, 0, none⟩) bs := by
  intro _
  refine ⟨w.heap.size, 0, rfl, by simp, fun k hk => ?_⟩
  rw [(Pts.new _ _ _).cell]
  simp [List.getD, hk]
set_option maxRecDepth 100000 in
theorem wk_num : number [172, 2] = (300, 2, 0) := by kernel_rfl
set_option maxRecDepth 100000 in
theorem wk_head : headOf [253, 55, 122, 88, 90, 0, 0, 1, 105, 34, 222, 54] = (1, 0) := by kernel_rfl
set_option maxRecDepth 100000 in
theorem wk_index : indexOf [0, 0, 0, 0, 28, 223, 68, 33] = ([], 8, 0) := by kernel_rfl
set_option maxRecDepth 100000 in
theorem wk_foot : footOf [144, 66, 153, 13, 1, 0, 0, 0, 0, 1, 89, 90] = (1, 8, 0) := by kernel_rfl
set_option maxRecDepth 100000 in
set_option maxHeartbeats 1000000 in
theorem wakes_p (w : World) : Calls Try.prog 12 #[] w fun e w' => e = .returned (.bool true) ∧ Below w.heap.size w w' := by
  have HN : ∀ (w : World), Calls Try.prog 13 #[.slice (some ⟨w.heap.size, 0, none⟩) 2 2] (w.alloc (.cells #[.int .u8 172, .int .u8 2] 5)) fun e w' => e = .returned (.tuple #[.int .u64 300, .int .i64 2, .int .i64 0]) ∧ (w.alloc (.cells #[.int .u8 172, .int .u8 2] 5)) = w' := fun w => by
    have h := number_p (some ⟨w.heap.size, 0, none⟩) [172, 2] 2 2 _ _ rfl (BRow.of_cells w 5 [172, 2]) (by decide)
    rw [wk_num] at h
    exact h
  have HH : ∀ (w : World), Calls Try.prog 8 #[.slice (some ⟨w.heap.size, 0, none⟩) 12 12] (w.alloc (.cells #[.int .u8 253, .int .u8 55, .int .u8 122, .int .u8 88, .int .u8 90, .int .u8 0, .int .u8 0, .int .u8 1, .int .u8 105, .int .u8 34, .int .u8 222, .int .u8 54] 5)) fun e w' =>
      e = .returned (.tuple #[.int .i64 1, .int .i64 0]) ∧ Below (w.alloc (.cells #[.int .u8 253, .int .u8 55, .int .u8 122, .int .u8 88, .int .u8 90, .int .u8 0, .int .u8 0, .int .u8 1, .int .u8 105, .int .u8 34, .int .u8 222, .int .u8 54] 5)).heap.size (w.alloc (.cells #[.int .u8 253, .int .u8 55, .int .u8 122, .int .u8 88, .int .u8 90, .int .u8 0, .int .u8 0, .int .u8 1, .int .u8 105, .int .u8 34, .int .u8 222, .int .u8 54] 5)) w' := fun w => by
    have h := head_p (some ⟨w.heap.size, 0, none⟩) [253, 55, 122, 88, 90, 0, 0, 1, 105, 34, 222, 54] 12 12 _ rfl (by decide) (by decide) (BRow.of_cells w 5 [253, 55, 122, 88, 90, 0, 0, 1, 105, 34, 222, 54]) (by decide)
    rw [wk_head] at h
    exact h
  have HI : ∀ (w : World), Calls Try.prog 18 #[.slice (some ⟨w.heap.size, 0, none⟩) 8 8] (w.alloc (.cells #[.int .u8 0, .int .u8 0, .int .u8 0, .int .u8 0, .int .u8 28, .int .u8 223, .int .u8 68, .int .u8 33] 5)) fun e w' =>
      ∃ A k, e = .returned (.tuple #[.slice A 0 k, .int .i64 8, .int .i64 0]) ∧ Below (w.alloc (.cells #[.int .u8 0, .int .u8 0, .int .u8 0, .int .u8 0, .int .u8 28, .int .u8 223, .int .u8 68, .int .u8 33] 5)).heap.size (w.alloc (.cells #[.int .u8 0, .int .u8 0, .int .u8 0, .int .u8 0, .int .u8 28, .int .u8 223, .int .u8 68, .int .u8 33] 5)) w' := fun w => by
    have h := index_p (some ⟨w.heap.size, 0, none⟩) [0, 0, 0, 0, 28, 223, 68, 33] 8 8 _ rfl (by decide) (by decide) (BRow.of_cells w 5 [0, 0, 0, 0, 28, 223, 68, 33]) (by decide)
    rw [wk_index] at h
    refine h.mono ?_
    rintro e w' ⟨v, rfl, ho, hb⟩
    obtain ⟨A, k, rfl, _⟩ := ho.slice
    exact ⟨A, k, rfl, hb⟩
  have HF : ∀ (w : World), Calls Try.prog 10 #[.slice (some ⟨w.heap.size, 0, none⟩) 12 12] (w.alloc (.cells #[.int .u8 144, .int .u8 66, .int .u8 153, .int .u8 13, .int .u8 1, .int .u8 0, .int .u8 0, .int .u8 0, .int .u8 0, .int .u8 1, .int .u8 89, .int .u8 90] 5)) fun e w' =>
      e = .returned (.tuple #[.int .i64 1, .int .u64 8, .int .i64 0]) ∧ Below (w.alloc (.cells #[.int .u8 144, .int .u8 66, .int .u8 153, .int .u8 13, .int .u8 1, .int .u8 0, .int .u8 0, .int .u8 0, .int .u8 0, .int .u8 1, .int .u8 89, .int .u8 90] 5)).heap.size (w.alloc (.cells #[.int .u8 144, .int .u8 66, .int .u8 153, .int .u8 13, .int .u8 1, .int .u8 0, .int .u8 0, .int .u8 0, .int .u8 0, .int .u8 1, .int .u8 89, .int .u8 90] 5)) w' := fun w => by
    have h := foot_p (some ⟨w.heap.size, 0, none⟩) [144, 66, 153, 13, 1, 0, 0, 0, 0, 1, 89, 90] 12 12 _ rfl (by decide) (by decide) (BRow.of_cells w 5 [144, 66, 153, 13, 1, 0, 0, 0, 0, 1, 89, 90]) (by decide)
    rw [wk_foot] at h
    exact h
  have HN := Lib.hid HN
  have HH := Lib.hid HH
  have HI := Lib.hid HI
  have HF := Lib.hid HF
  go_enter Try.func12, Try.ntmps12
  go_wp2_with fail
  refine (HN.out w).mono ?_; rintro r w1 ⟨rfl, rfl⟩
  obtain ⟨w1, hw1⟩ : ∃ w1, w.alloc (.cells #[.int .u8 172, .int .u8 2] 5) = w1 := ⟨_, rfl⟩
  have B1 := Lib.hid (show Below w.heap.size w w1 from hw1 ▸ (Below.refl _ w).alloc (Nat.le_refl _) _)
  rw [hw1]
  clear hw1
  go_wp2_with fail
  refine (HH.out w1).mono ?_; rintro r w2 ⟨rfl, hb2⟩
  have B2 := Lib.hid (show Below w.heap.size w w2 from (B1.out.alloc B1.out.size _).trans (hb2.mono (B1.out.alloc B1.out.size _).size))
  clear hb2
  go_wp2_with fail
  refine (HI.out w2).mono ?_; rintro r w3 ⟨A3, k3, rfl, hb3⟩
  have B3 := Lib.hid (show Below w.heap.size w w3 from (B2.out.alloc B2.out.size _).trans (hb3.mono (B2.out.alloc B2.out.size _).size))
  clear hb3
  go_wp2_with fail
  refine (HF.out w3).mono ?_; rintro r w4 ⟨rfl, hb4⟩
  have B4 := Lib.hid (show Below w.heap.size w w4 from (B3.out.alloc B3.out.size _).trans (hb4.mono (B3.out.alloc B3.out.size _).size))
  clear hb4
  go_wp2
  go_ret
  exact ⟨rfl, B4.out⟩
end Go.Proofs.Ytjhmebkkdgpneaa
