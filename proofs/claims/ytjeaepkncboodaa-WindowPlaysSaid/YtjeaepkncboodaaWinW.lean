/- What the document says of a window of 4; and WindowNil. -/
import Derived.Test.YtjeaepkncboodaaWinG
import Derived.Lib.SlBytesConst
namespace Go.Proofs.Ytjeaepkncboodaa
open Go.RowKit Win
set_option linter.unusedVariables false
set_option linter.unusedSimpArgs false

/-- A literal's row: its cells are the bytes (one place behind them bears a mark). -/
def LitAt (w : World) (b : Nat) (bs : List UInt8) : Prop := ∃ T fr, w.heap[b]? = some (.cells (bs.map byteV).toArray T fr)
theorem LitAt.lt {w : World} {b : Nat} {bs : List UInt8} (h : LitAt w b bs) : b < w.heap.size := by
  obtain ⟨T, fr, h⟩ := h
  exact (Array.getElem?_eq_some_iff.1 h).1
theorem LitAt.row {w : World} {b : Nat} {bs : List UInt8} (h : LitAt w b bs) : BRow w w.heap.size (some ⟨b, 0, none⟩) bs := by
  intro _
  refine ⟨b, 0, rfl, h.lt, fun k hk => ?_⟩
  obtain ⟨T, fr, h⟩ := h
  simp [World.cell?, h, List.getD, hk]
theorem LitAt.new (w : World) (bs : List UInt8) (T : TypeId) (fr : Nat × Nat) : LitAt (w.alloc (.cells (bs.map byteV).toArray T fr)) w.heap.size bs := ⟨T, fr, by show (w.heap.push _)[w.heap.size]? = _; simp⟩
theorem own_ne {w : World} {T T' base g : Nat} {v : Value} {bs : List UInt8} {c : Array Value} (h : OwnB w T base v bs) (hp : Pts w g c T') (hT : T' ≠ T) : v.ownBlock ≠ some g := by
  intro hq
  rcases h.form with ⟨e, _⟩ | ⟨g', cap, cur, e, _, hp', _⟩
  · rw [e] at hq; cases hq
  · rw [e] at hq
    injection hq with hq
    subst hq
    have e2 := hp'.symm.trans hp
    simp at e2
    exact hT e2.2.symm
theorem WinAt.later {w w' : World} {base b k S : Nat} {v : Value} {R : List UInt8} {a : Nat} (h : WinAt w base b k S v R a) (hb : Below w.heap.size w w') : WinAt w' base b k S v R a := by
  have hf : Frm (fun _ => False) w w' := Frm.of_below hb
  exact ⟨h.p.frm hf (by simp), h.o.frm hf (by simp), h.n, h.lt, h.z⟩
theorem WinAt.led {w : World} {base b k S : Nat} {v : Value} {R : List UInt8} {a : Nat} {B n m : Int} (h : WinAt w base b k S v R a) (hl : Led w k B n m) : ¬ (k = b ∨ v.ownBlock = some k) := by
  rintro (rfl | e)
  · have e := h.p.symm.trans hl
    simp [ledCells] at e
  · exact own_ne h.o hl (by decide) e

set_option maxRecDepth 100000 in
set_option maxHeartbeats 1000000 in
theorem wakes06 (w : World) : Calls Try.prog 8 #[] w fun e w' => e = .returned (.bool true) ∧ Below w.heap.size w w' := by
  have hcv := fun (w : World) (C : Array Value) (n c : Nat) => Lib.run_convert_bytes_const (P := Try.prog) w 31 5 C n c Try.underlying31 Try.underlying5
  go_enter Try.func8, Try.ntmps8
  go_wp2_with fail
  refine (new_led 10 _).mono ?_; rintro e w1 ⟨rfl, hL1, b1⟩
  have e10 : bud 10 = 10 := by decide
  rw [e10] at hL1
  have L1 := Lib.hid hL1
  have B1 := Lib.hid b1
  clear hL1 b1 e10
  go_wp2_with fail
  refine (new_win w.heap.size 4 10 0 0 w1 L1.out (by decide) (by decide) (by decide) (by decide) (by decide) (by decide)).mono ?_; rintro e w2 ⟨b, rfl, hW2, hb, hL2, hF2⟩
  have e1 : chN 10 0 (4 : Nat) = 4 := by decide
  have e2 : chM 10 0 0 (4 : Nat) = 4 := by decide
  rw [e1, e2] at hL2
  have W2 := Lib.hid hW2
  have L2 := Lib.hid hL2
  have B2 := Lib.hid (B1.out.trans (hF2.below B1.out.size (by intro k hk; omega)))
  have S2 := Lib.hid hF2.size
  clear hW2 hL2 hF2 e1 e2
  obtain ⟨w3, hw3⟩ : ∃ w3, w2.alloc (.cells #[.int .u8 97, .int .u8 98, .int .u8 99] 5 (3, 4)) = w3 := ⟨_, rfl⟩
  have h3 : LitAt w3 w2.heap.size ([97, 98, 99] : List UInt8) := by rw [← hw3]; exact LitAt.new _ ([97, 98, 99] : List UInt8) _ _
  have b3 : Below w2.heap.size w2 w3 := by rw [← hw3]; exact (Below.refl _ _).alloc (Nat.le_refl _) _
  have H3 := Lib.hid h3
  have W3 := Lib.hid (W2.out.later b3)
  have L3 := Lib.hid (Pts.below L2.out b3 (Pts.lt L2.out))
  have B3 := Lib.hid (B2.out.trans (b3.mono B2.out.size))
  have S3 := Lib.hid (Nat.le_trans S2.out b3.size)
  have hblt : b < w2.heap.size := W2.out.p.lt
  clear h3 b3
  go_wp2_with fail
  clear hw3
  refine (put_any w1.heap.size b w.heap.size 4 0 _ w3.heap.size _ (.slice none 0 0) [] _ ([97, 98, 99] : List UInt8) w3 W3.out rfl H3.out.row (by
    intro _ ad e hk
    injection e with e
    subst e
    rcases hk with hk | hk
    · simp only at hk; omega
    · cases hk) (by decide) (by decide) (by decide) S3.out (by decide) (Nat.le_refl _)).mono ?_; rintro e w4 ⟨v4, R4, a4, rfl, hW4, hc4, hF4, hn4⟩
  have hL4 := Pts.frm L3.out hF4 (W3.out.led L3.out)
  rw [content_zero, List.nil_append] at hc4
  have e4 : lastN 4 ([97, 98, 99] : List UInt8) = [97, 98, 99] := by decide
  rw [e4] at hc4
  have hR4 : R4.length = 3 := by rw [← content_length R4 a4, hc4]; rfl
  have W4 := Lib.hid hW4
  have L4 := Lib.hid hL4
  have B4 := Lib.hid (B3.out.trans (hF4.below B3.out.size (by rintro k (rfl | hk); have := B1.out.size; omega; cases hk)))
  have S4 := Lib.hid (Nat.le_trans S3.out hF4.size)
  have O4 := Lib.hid hn4
  clear hW4 hL4 hF4 hn4 e4
  go_wp2_with fail
  refine (copy_any w1.heap.size b w.heap.size 4 a4 2 5 v4 R4 w4 W4.out S4.out (by decide) (by decide) (by decide) (by omega)).mono ?_; rintro e w5 ⟨ov, v5, R5, a5, rfl, hW5, hc5, ho5, hF5, hn5⟩
  rw [hc4] at hc5 ho5
  have e5 : cyc ([97, 98, 99] : List UInt8) 2 5 = [98, 99, 98, 99, 98] := by decide
  rw [e5] at hc5 ho5
  have hR5 : R5.length = 4 := by rw [← content_length R5 a5, hc5]; decide
  have hL5 := Pts.frm L4.out hF5 (W4.out.led L4.out)
  obtain ⟨A5, c5, rfl, hd5, hm5, hr5⟩ := ho5.slice
  have W5 := Lib.hid hW5
  have L5 := Lib.hid hL5
  have R5' := Lib.hid hr5
  have hmn : ∀ q, (q = b ∨ v4.ownBlock = some q) → w.heap.size ≤ q := by
    rintro q (rfl | hk)
    · have := B1.out.size; omega
    · have h1 := (W4.out.o.lt hk).1
      have h2 := B1.out.size
      omega
  have B5 := Lib.hid (B4.out.trans (hF5.below B4.out.size hmn))
  have hov : BOff (fun x => x = b ∨ x = w.heap.size) A5 ([98, 99, 98, 99, 98] : List UInt8) := by
    intro _ ad e hk
    have h5 := (ho5.lt (k := ad.block) (by rw [e]; rfl)).1
    rcases hk with hk | hk
    · have := W4.out.p.lt; omega
    · have := Pts.lt L4.out; omega
  have OV := Lib.hid hov
  clear hW5 hL5 hr5 ho5 hF5 hn5 e5 hmn hc5 hc4 hov
  go_wp2_with fail
  refine (copy_bad w1.heap.size b w.heap.size 4 a5 5 1 v5 R5 w5 W5.out (by decide) (by right; rw [hR5]; decide)).mono ?_; rintro e w6 ⟨rfl, rfl⟩
  go_wp2_with fail
  refine (held_led _ 10 4 4 w5 L5.out).mono ?_; rintro e w6 ⟨rfl, d6, rfl⟩
  have W6 := Lib.hid (W5.out.drewN d6)
  have L6 := Lib.hid (Pts.drewN L5.out d6)
  have R6 := Lib.hid (BRow.drewN R5'.out d6)
  have B6 := Lib.hid (below_drewN B5.out d6)
  generalize w5.drewN d6 = w6 at *
  go_wp2_with fail
  refine (drop_win w1.heap.size b w.heap.size 4 a5 v5 R5 10 4 4 w6 W6.out L6.out (by decide) (by decide)).mono ?_; rintro e w7 ⟨rfl, hp7, hL7, hF7⟩
  have e7 : reN 4 (4 : Nat) = 0 := by decide
  rw [e7] at hL7
  have P7 := Lib.hid hp7
  have L7 := Lib.hid hL7
  have B7 := Lib.hid (B6.out.trans (hF7.below B6.out.size (by rintro q (rfl | rfl); have := B1.out.size; omega; exact Nat.le_refl _)))
  have F7 := Lib.hid hF7
  clear hp7 hL7 hF7 e7
  go_wp2_with fail
  refine (held_led _ 10 0 4 w7 L7.out).mono ?_; rintro e w8 ⟨rfl, d8, rfl⟩
  have P8 := Lib.hid (P7.out.drewN d8)
  have F8 := Lib.hid (F7.out.drewN d8)
  have B8 := Lib.hid (below_drewN B7.out d8)
  generalize w7.drewN d8 = w8 at *
  go_wp2_with fail
  refine (copy_gone b 1 1 _ _ _ w8 P8.out).mono ?_; rintro e w9 ⟨rfl, rfl⟩
  have R8 := BRow.offN R6.out OV.out F8.out
  have k1 := run_conv_bytes (P := Try.prog) w8 31 9 5 Try.underlying31 Try.underlying5 Try.underlying9 A5 _ c5 _ ([98, 99, 98, 99, 98] : List UInt8) rfl R8
  have hl5 : ([98, 99, 98, 99, 98] : List UInt8).length = 5 := rfl
  rw [hl5] at k1
  clear R8
  go_wp2_with fail
  refine (held_gone b _ _ _ w8 P8.out).mono ?_; rintro e w9 ⟨rfl, rfl⟩
  go_wp2
  go_ret
  exact ⟨rfl, B8.out⟩

set_option maxRecDepth 100000 in
theorem lawNil06 (A : Option Addr) (n c : Nat) (f : Nat → Int) (back m : Int) (w : World) (_h1 : n ≤ c) (_h2 : c ≤ maxLen) (_h3 : Opn.RowAt w w.heap.size A n fun i => .int .u8 (f i)) (_h4 : ∀ i, i < n → 0 ≤ f i ∧ f i ≤ 255)
    (_i1 : -9223372036854775808 ≤ back ∧ back ≤ 9223372036854775807) (_i2 : -9223372036854775808 ≤ m ∧ m ≤ 9223372036854775807) :
    Calls Try.prog 6 #[.slice A n c, .int .i64 back, .int .i64 m] w fun e w' => e = .returned (.bool true) ∧ Below w.heap.size w w' := by
  clear _h1 _h2 _h3 _h4 _i1 _i2
  go_enter Try.func6, Try.ntmps6
  go_wp2_with fail
  refine (put_nil _ _ _ _).mono ?_; rintro e w1 ⟨rfl, rfl⟩
  go_wp2_with fail
  refine (clear_nil _).mono ?_; rintro e w1 ⟨rfl, rfl⟩
  go_wp2_with fail
  refine (drop_nil _).mono ?_; rintro e w1 ⟨rfl, rfl⟩
  go_wp2_with fail
  refine (copy_nil _ _ _).mono ?_; rintro e w1 ⟨rfl, rfl⟩
  go_wp2_with fail
  refine (at_nil _ _).mono ?_; rintro e w1 ⟨rfl, rfl⟩
  go_wp2_with fail
  refine (new_nil 5 _ (by decide) (by decide)).mono ?_; rintro e w1 ⟨rfl, rfl⟩
  go_wp2_with fail
  refine (held_nil_w _).mono ?_; rintro e w1 ⟨rfl, rfl⟩
  go_wp2_with fail
  refine (wakes06 _).mono ?_; rintro e w1 ⟨rfl, h1⟩
  go_wp2
  go_ret
  exact ⟨rfl, h1⟩
end Go.Proofs.Ytjeaepkncboodaa
