/- No coder; and what the document says of three bits. -/
import Derived.Test.YtcnjbdaopphleaaRngK
import Derived.Test.YtcnjbdaopphleaaRngE
namespace Go.Proofs.Ytcnjbdaopphleaa
open Go.RowKit Rng
set_option linter.unusedVariables false
set_option linter.unusedSimpArgs false
theorem ebit_nil (pv : Value) (bit : Int) (w : World) : Calls Try.prog 22 #[.pointer none, pv, .int .i64 bit] w fun r w' => r = .returned (.tuple #[]) ∧ w = w' := by
  go_enter Try.func22, Try.ntmps22
  go_wp2
  refine bodyPost_ret (results_none rfl _ _ _) rfl ?_
  exact ⟨rfl, rfl⟩
theorem ebit_none (b : Nat) (bit : Int) (w : World) : Calls Try.prog 22 #[.pointer (some ⟨b, 0, none⟩), .pointer none, .int .i64 bit] w fun r w' => r = .returned (.tuple #[]) ∧ w = w' := by
  go_enter Try.func22, Try.ntmps22
  go_wp2
  refine bodyPost_ret (results_none rfl _ _ _) rfl ?_
  exact ⟨rfl, rfl⟩
theorem edirect_nil (x n : Int) (w : World) : Calls Try.prog 20 #[.pointer none, .int .u32 x, .int .i64 n] w fun r w' => r = .returned (.tuple #[]) ∧ w = w' := by
  go_enter Try.func20, Try.ntmps20
  go_wp2
  refine bodyPost_ret (results_none rfl _ _ _) rfl ?_
  exact ⟨rfl, rfl⟩
theorem eclose_nil (w : World) : Calls Try.prog 24 #[.pointer none] w fun r w' => r = .returned (.slice none 0 0) ∧ w = w' := by
  go_enter Try.func24, Try.ntmps24
  go_wp2
  go_ret
  exact ⟨rfl, rfl⟩
theorem dbit_nil (pv : Value) (w : World) : Calls Try.prog 14 #[.pointer none, pv] w fun r w' => r = .returned (.int .i64 0) ∧ w = w' := by
  go_enter Try.func14, Try.ntmps14
  go_wp2
  go_ret
  exact ⟨rfl, rfl⟩
theorem ddirect_nil (n : Int) (w : World) : Calls Try.prog 12 #[.pointer none, .int .i64 n] w fun r w' => r = .returned (.int .u32 0) ∧ w = w' := by
  go_enter Try.func12, Try.ntmps12
  go_wp2
  go_ret
  exact ⟨rfl, rfl⟩
theorem dend_nil (w : World) : Calls Try.prog 16 #[.pointer none] w fun r w' => r = .returned (.tuple #[.int .i64 0, .int .i64 1]) ∧ w = w' := by
  go_enter Try.func16, Try.ntmps16
  go_wp2
  go_ret2
  exact ⟨rfl, rfl⟩
def wkB : List UInt8 := [0, 159, 255, 255, 254]
theorem wk_out : (Enc.direct 5 3 newEnc).close.out = wkB := by decide
theorem wk_dir : ((newDec wkB).direct 3 0).1 = 5 := by decide
theorem wk_fin : ((newDec wkB).direct 3 0).2.fin = (0, 0) := by decide
theorem wk_none : newEnc.close.out = [0, 0, 0, 0, 0] := by decide
theorem wk_bit : ((newDec [0, 0, 0, 0, 0]).bit (fair 1024)).1 = false := by decide
theorem wk_learn : learn (fair 1024) false = 1056 := by decide
theorem count3 : count 3 = 3 := by decide
theorem make_fullR (n : Nat) (hn : n ≤ 16777216) (w : World) :
    (Instr.makeSlice 22 (.int .i64 (n : Int)) (.int .i64 (n : Int))).run Try.prog w = .ok (.slice (some ⟨w.heap.size, 0, none⟩) n n) (w.alloc (.cells (madeCells #[.int .u8 0] n) 5)) := by
  obtain ⟨i, hi, hz⟩ := Option.map_eq_some_iff.1 Try.info_u8
  simp only [Prod.mk.injEq] at hz
  have h := run_make (P := Try.prog) w 22 5 i (.int .u8 0) Try.underlying22 hi hz.1 .i64 .i64 n n (by omega) (by omega) (by rw [hz.2.2]; omega) (by omega)
  rw [hz.2.1] at h
  simp only [Int.toNat_natCast, Nat.mul_one] at h
  exact h
theorem zeros_row (w : World) : BRow (w.alloc (.cells (madeCells #[.int .u8 0] 5) 5)) (w.alloc (.cells (madeCells #[.int .u8 0] 5) 5)).heap.size (some ⟨w.heap.size, 0, none⟩) [0, 0, 0, 0, 0] := by
  intro _
  refine ⟨w.heap.size, 0, rfl, by simp, fun k hk => ?_⟩
  rw [Nat.zero_add, (Pts.new w (madeCells #[.int .u8 0] 5) 5).cell]
  have hk5 : k < 5 := hk
  have h1 : (madeCells #[Value.int .u8 0] 5)[k]? = some (.int .u8 0) := by simp [madeCells, hk5, Nat.mod_one]
  rw [h1]
  match k, hk5 with
  | 0, _ => rfl
  | 1, _ => rfl
  | 2, _ => rfl
  | 3, _ => rfl
  | 4, _ => rfl
set_option maxRecDepth 100000 in
set_option maxHeartbeats 2000000 in
theorem wakes10 (w : World) : Calls Try.prog 8 #[] w fun e w' => e = .returned (.bool true) ∧ Below w.heap.size w w' := by
  go_enter Try.func8, Try.ntmps8
  go_wp2_with fail
  refine (enew_p _).mono ?_; rintro r w1 ⟨rfl, hE1, hB1⟩
  go_wp2_with fail
  refine (edirect_p w.heap.size w.heap.size 5 3 _ newEnc w1 hE1 hB1.size (by decide) newEnc_run rfl (by omega)).mono ?_; rintro r w2 ⟨v2, rfl, hE2, hF2, hM2⟩
  rw [count3] at hE2
  have hB2 := hB1.trans (hF2.below (B := w.heap.size) hB1.size (by rintro k (rfl | hk); exact Nat.le_refl _; cases hk))
  go_wp2_with fail
  refine (eclose_p w.heap.size w.heap.size v2 _ w2 hE2 hB2.size (by decide)).mono ?_; rintro r w3 ⟨v3, rv, rfl, hE3, hF3, hM3, ho3, hne3⟩
  have hB3 := hB2.trans (hF3.below (B := w.heap.size) hB2.size (by
    rintro k (rfl | hk)
    · exact Nat.le_refl _
    · exact (hE2.o.lt hk).1))
  rw [wk_out] at ho3
  obtain ⟨A3, k3, rfl, hc3, hm3, hr3⟩ := ho3.slice
  have B3 := Lib.hid hB3
  clear hE1 hB1 hE2 hF2 hM2 hB2 hE3 hF3 hM3 ho3 hne3 hB3
  go_wp2_with fail
  refine (dnew_p A3 wkB _ k3 w3 rfl hr3 hc3 hm3 (by decide) (by decide)).mono ?_; rintro r w4 ⟨db, rb, rfl, hd4, hdb, hrb, hB4⟩
  have B4 := Lib.hid (B3.out.trans (hB4.mono B3.out.size))
  have D4 := Lib.hid hd4
  have hw3 := B3.out.size
  clear hr3 hc3 hm3 hd4 hB4
  go_wp2_with fail
  refine (ddirect_p db rb 3 _ _ D4.out).mono ?_; rintro r w5 ⟨rfl, hd5, hF5⟩
  rw [count3] at hd5 ⊢
  rw [wk_dir]
  have D5 := Lib.hid hd5
  have B5 := Lib.hid (B4.out.trans (hF5.below B4.out.size (fun k hk => by omega)))
  clear hd5 hF5
  go_wp2_with fail
  refine (dend_p db rb _ _ D5.out).mono ?_; rintro r w6 ⟨rfl, hd6, hF6⟩
  rw [wk_fin]
  have B6 := Lib.hid (B5.out.trans (hF6.below B5.out.size (fun k hk => by omega)))
  have hz6 := B6.out.size
  clear hd6 hF6
  go_wp2_with fail
  refine (enew_p _).mono ?_; rintro r w7 ⟨rfl, hE7, hB7⟩
  have B7 := Lib.hid (B6.out.trans (hB7.mono hz6))
  have E7 := Lib.hid hE7
  have hz7 := hB7.size
  clear hE7 hB7
  go_wp2_with fail
  refine (eclose_p w6.heap.size w6.heap.size _ _ w7 E7.out hz7 (by decide)).mono ?_; rintro r w8 ⟨v8, rv8, rfl, hE8, hF8, hM8, ho8, hne8⟩
  rw [wk_none] at ho8
  obtain ⟨A8, k8, rfl, hc8, hm8, hr8⟩ := ho8.slice
  have B8 := Lib.hid (B7.out.trans (hF8.below B7.out.size (by
    rintro k (rfl | hk)
    · exact hz6
    · have := (E7.out.o.lt hk).1; omega)))
  have R8 := Lib.hid hr8
  have hz8 := B8.out.size
  have hsm : ([0, 0, 0, 0, 0] : List UInt8).length = 5 := rfl
  rw [hsm] at hc8 ⊢
  have hmk : ∀ w, (Instr.makeSlice 22 (.int .i64 5) (.int .i64 5)).run Try.prog w = .ok (.slice (some ⟨w.heap.size, 0, none⟩) 5 5) (w.alloc (.cells (madeCells #[.int .u8 0] 5) 5)) := fun w => make_fullR 5 (by omega) w
  clear hE8 hF8 hM8 ho8 hne8 hr8 hsm
  go_wp2_with fail
  have P9 := (Pts.new w8 #[.int .u16 1024] 40).alloc (.cells (madeCells #[.int .u8 0] 5) 5)
  have B9 := Lib.hid ((B8.out.alloc hz8 (.cells #[.int .u16 1024] 40)).alloc (by simp; omega) (.cells (madeCells #[.int .u8 0] 5) 5))
  have R9 := (R8.out.below ((Below.refl _ w8).alloc (Nat.le_refl _) (.cells #[.int .u16 1024] 40))).below (((Below.refl w8.heap.size (w8.alloc (.cells #[.int .u16 1024] 40))).alloc (by simp) (.cells (madeCells #[.int .u8 0] 5) 5)))
  have Z9 := zeros_row (w8.alloc (.cells #[.int .u16 1024] 40))
  have hz9 : ((w8.alloc (.cells #[.int .u16 1024] 40)).alloc (.cells (madeCells #[.int .u8 0] 5) 5)).heap.size = w8.heap.size + 2 := by simp
  have hw8 : (w8.alloc (.cells #[.int .u16 1024] 40)).heap.size = w8.heap.size + 1 := by simp
  rw [hw8] at Z9
  have F9 := P9.frozen 0
  have C9 : ((w8.alloc (.cells #[.int .u16 1024] 40)).alloc (.cells (madeCells #[.int .u8 0] 5) 5)).cell? ⟨w8.heap.size, 0, none⟩ = some (.int .u16 1024) := by rw [P9.cell]; rfl
  generalize (w8.alloc (.cells #[.int .u16 1024] 40)).alloc (.cells (madeCells #[.int .u8 0] 5) 5) = w9 at *
  clear P9
  refine (dnew_p (some ⟨w8.heap.size + 1, 0, none⟩) [0, 0, 0, 0, 0] _ 5 w9 rfl Z9 (Nat.le_refl _) (by unfold maxLen; omega) (by decide) (by decide)).mono ?_; rintro r w10 ⟨d10, rb10, rfl, hd10, hdb10, hrb10, hB10⟩
  have R10 := R9.below (hB10.mono (by omega))
  have p10 : w10.cell? ⟨w8.heap.size, 0, none⟩ = some (.int .u16 ((1024 : Nat) : Int)) := by rw [hB10.cell (by show w8.heap.size < _; omega)]; exact C9
  have f10 : w10.frozen? ⟨w8.heap.size, 0, none⟩ = false := by rw [hB10.frozen (by show w8.heap.size < _; omega)]; exact F9
  have k1 := run_conv_bytes (P := Try.prog) w10 22 9 5 Try.underlying22 Try.underlying5 Try.underlying9 A8 _ k8 _ ([0, 0, 0, 0, 0] : List UInt8) rfl R10
  have hsm : ([0, 0, 0, 0, 0] : List UInt8).length = 5 := rfl
  rw [hsm] at k1
  have D10 := Lib.hid hd10
  have B10 := Lib.hid (B9.out.trans (hB10.mono (by omega)))
  clear Z9 R9 R10 hd10 hB10 C9 F9
  go_wp2_with fail
  refine (dbit_p d10 rb10 w8.heap.size 0 1024 _ _ D10.out p10 f10 (by omega) (by omega)).mono ?_; rintro r w11 ⟨rfl, hd11, hF11⟩
  have e1 : ((newDec [0, 0, 0, 0, 0]).bit (fair 1024)).1 = false := wk_bit
  rw [e1] at hF11 ⊢
  rw [wk_learn] at hF11
  have hb0 : bitV false = 0 := rfl
  rw [hb0]
  have p11 : w11.cell? ⟨w8.heap.size, 0, none⟩ = some (.int .u16 1056) := by
    rw [World.cell?_of_block (hF11.block w8.heap.size (by have := World.block_lt_of_cell? _ _ p10; simp; omega) (by omega))]
    exact World.cell?_setCell_same _ _ _ p10
  have B11 := Lib.hid ((B10.out.setCell (p := ⟨w8.heap.size, 0, none⟩) hz8 (.int .u16 ((1056 : Nat) : Int))).trans (hF11.below (by have := B10.out.size; simp; omega) (fun k hk => by omega)))
  clear hd11 hF11 p10 f10 k1 e1 hb0
  go_wp2
  go_ret
  exact ⟨rfl, B11.out⟩
end Go.Proofs.Ytcnjbdaopphleaa
