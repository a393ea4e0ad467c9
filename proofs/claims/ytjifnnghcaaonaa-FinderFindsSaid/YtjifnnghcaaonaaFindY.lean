/- What the document says of abcabcabc holds. -/
import Derived.Test.YtjifnnghcaaonaaFindX
namespace Go.Proofs.Ytjifnnghcaaonaa
open Go.RowKit Fnd
set_option linter.unusedVariables false
set_option linter.unusedSimpArgs false

/-- A literal's row: its cells are the bytes (one place behind them bears a mark). -/
def LitAt (w : World) (b : Nat) (bs : List UInt8) : Prop := ∃ T fr, w.heap[b]? = some (.cells (bs.map byteV).toArray T fr)
theorem LitAt.lt {w : World} {b : Nat} {bs : List UInt8} (h : LitAt w b bs) : b < w.heap.size := by
  obtain ⟨T, fr, h⟩ := h
  exact (Array.getElem?_eq_some_iff.1 h).1
theorem LitAt.row {w : World} {b : Nat} {bs : List UInt8} (h : LitAt w b bs) : BRow w w.heap.size (some ⟨b, 0, none⟩) bs := by
  intro _
  refine ⟨b, 0, rfl, h.lt, fun k hk => ?_⟩
  obtain ⟨T, fr, h⟩ := h
  simp [World.cell?, h, List.getD, hk]
theorem LitAt.new (w : World) (bs : List UInt8) (T : TypeId) (fr : Nat × Nat) : LitAt (w.alloc (.cells (bs.map byteV).toArray T fr)) w.heap.size bs := ⟨T, fr, by show (w.heap.push _)[w.heap.size]? = _; simp⟩
theorem LitAt.below {B : Nat} {w w' : World} {b : Nat} {bs : List UInt8} (h : LitAt w b bs) (hb : Below B w w') (hB : b < B) : LitAt w' b bs := by
  obtain ⟨T, fr, h⟩ := h
  exact ⟨T, fr, (hb.block b hB).trans h⟩

theorem back_num (A : Option Addr) (bs : List UInt8) (n c : Nat) (fr : Int) (B : Option Addr) (l : List Sq) (m d : Nat) (t : Tale) (w : World) (ht : back bs fr l = t) (hn : n = bs.length) (hc : bs.length ≤ c) (hcm : c ≤ maxLen) (hr : BRow w w.heap.size A bs) (hlen : bs.length ≤ 1048576)
    (hm : m = l.length) (hmd : l.length ≤ d) (hl : SqRow w w.heap.size B l) (hml : l.length ≤ 140737488355328) (hfit : ∀ s ∈ l, s.fits) :
    Calls Try.prog 9 #[.slice A n c, .int .i64 fr, .slice B m d] w fun e w' => ∃ v en, e = .returned (.tuple #[v, .int .i64 en]) ∧ TaleBy w w' v en t ∧ Below w.heap.size w w' := by
  subst ht
  exact back_any A bs n c fr B l m d w hn hc hcm hr hlen hm hmd hl hml hfit

theorem tale1 : back ([97, 98, 99] : List UInt8) 0 [⟨3, 6, 3⟩] = .ok [97, 98, 99, 97, 98, 99, 97, 98, 99] := by simp [back, backGo, Bad1, Bad2, maxC, copyBack]
theorem tale2 : back ([97, 98, 99] : List UInt8) 0 [⟨1, 1, 2⟩] = .malformed := by simp [back, backGo, Bad1, Bad2, maxC, copyBack]
theorem fits1 : ∀ s ∈ ([⟨3, 6, 3⟩] : List Sq), s.fits := by intro s hs; simp at hs; subst hs; unfold Sq.fits; simp
theorem fits2 : ∀ s ∈ ([⟨1, 1, 2⟩] : List Sq), s.fits := by intro s hs; simp at hs; subst hs; unfold Sq.fits; simp
def nine : List UInt8 := [97, 98, 99, 97, 98, 99, 97, 98, 99]

set_option maxRecDepth 100000 in
set_option maxHeartbeats 1000000 in
theorem wakes08 (w : World) : Calls Try.prog 8 #[] w fun e w' => e = .returned (.bool true) ∧ Below w.heap.size w w' := by
  have hcv := fun (w : World) (C : Array Value) (n c : Nat) => Lib.run_convert_bytes_const (P := Try.prog) w 22 5 C n c Try.underlying22 Try.underlying5
  obtain ⟨w1, hw1⟩ : ∃ w1, w.alloc (.cells #[.int .u8 97, .int .u8 98, .int .u8 99, .int .u8 97, .int .u8 98, .int .u8 99, .int .u8 97, .int .u8 98, .int .u8 99] 5 (9, 10)) = w1 := ⟨_, rfl⟩
  have h1 : LitAt w1 w.heap.size nine := by rw [← hw1]; exact LitAt.new _ nine _ _
  have b1 : Below w.heap.size w w1 := by rw [← hw1]; exact (Below.refl _ _).alloc (Nat.le_refl _) _
  have H1 := Lib.hid h1
  have B1 := Lib.hid b1
  clear h1 b1
  go_enter Try.func8, Try.ntmps8
  go_wp2_with fail
  clear hw1
  refine (parse_any _ nine _ _ 0 1 100 3 100 0 1 100 3 100 w1 rfl (by decide) (by decide) H1.out.row (by decide) (by decide) (by decide) (by decide) (by decide) (by decide)).mono ?_; rintro e w2 ⟨v, l, rfl, ho, hR, -, -, -, hll, b2⟩
  obtain ⟨A2, c2, rfl, hc2, hm2, hs2⟩ := ho.slice
  have R2 := Lib.hid hR
  have S2 := Lib.hid hs2
  have H2 := Lib.hid (H1.out.below b2 H1.out.lt)
  have B2 := Lib.hid (B1.out.trans (b2.mono B1.out.size))
  clear b2 hR hs2 ho hm2
  go_wp2_with fail
  refine (right_any _ nine _ _ 0 100 3 100 _ l _ _ w2 rfl (by decide) (by decide) H2.out.row (by decide) rfl S2.out (by omega) (by decide) (by decide) (by decide) (by decide) R2.out).mono ?_; rintro e w3 ⟨rfl, b3⟩
  have S3 := Lib.hid ((S2.out.below b3).more b3.size)
  have H3 := Lib.hid (H2.out.below b3 H2.out.lt)
  have B3 := Lib.hid (B2.out.trans (b3.mono B2.out.size))
  clear b3
  go_wp2_with fail
  refine (lits_any _ nine _ _ 0 100 3 100 _ l _ _ w3 rfl (by decide) (by decide) H3.out.row (by decide) rfl S3.out (by omega) R2.out).mono ?_; rintro e w4 ⟨v4, rfl, ho4, b4⟩
  have hlg := litsGo_le R2.out
  have hol : (nine.take 0 ++ litsGo nine l 0).length ≤ 9 := by rw [List.length_append]; simp at hlg ⊢; exact hlg
  obtain ⟨A4, c4, rfl, hc4, hm4, hr4⟩ := ho4.slice
  have S4 := Lib.hid ((S3.out.below b4).more b4.size)
  have H4 := Lib.hid (H3.out.below b4 H3.out.lt)
  have O4 := Lib.hid hr4
  have B4 := Lib.hid (B3.out.trans (b4.mono B3.out.size))
  have TB := Lib.hid (again_back (by decide) R2.out)
  have FT := Lib.hid (R2.out.fits (by decide) (by decide) (by decide))
  clear b4 ho4 hr4 hlg
  generalize nine.take 0 ++ litsGo nine l 0 = o4 at *
  go_wp2_with fail
  refine (back_num _ o4 _ _ 0 _ l _ _ _ w4 TB.out rfl hc4 hm4 O4.out (by omega) rfl hc2 S4.out (by omega) FT.out).mono ?_; rintro e w5 ⟨v5, en5, rfl, ⟨ho5, rfl⟩, b5⟩
  obtain ⟨A5, c5, rfl, hc5, hm5, hr5⟩ := ho5.slice
  have O5 := Lib.hid hr5
  have B5 := Lib.hid (B4.out.trans (b5.mono B4.out.size))
  have H5 := Lib.hid (H4.out.below b5 H4.out.lt)
  clear ho5 hr5 hc5 hm5 b5
  obtain ⟨w6, hw6⟩ : ∃ w6, w5.alloc (.cells #[.int .u8 97, .int .u8 98, .int .u8 99] 5 (3, 4)) = w6 := ⟨_, rfl⟩
  have h6 : LitAt w6 w5.heap.size ([97, 98, 99] : List UInt8) := by rw [← hw6]; exact LitAt.new _ ([97, 98, 99] : List UInt8) _ _
  have b6 : Below w5.heap.size w5 w6 := by rw [← hw6]; exact (Below.refl _ _).alloc (Nat.le_refl _) _
  obtain ⟨w7, hw7⟩ : ∃ w7, w6.alloc (.cells #[.int .i64 3, .int .i64 6, .int .i64 3] 25) = w7 := ⟨_, rfl⟩
  have b7 : Below w6.heap.size w6 w7 := by rw [← hw7]; exact (Below.refl _ _).alloc (Nat.le_refl _) _
  have s7 : SqRow w7 w7.heap.size (some ⟨w6.heap.size, 0, none⟩) [⟨3, 6, 3⟩] := by rw [← hw7]; exact (sqrow_one w6 25 ⟨3, 6, 3⟩).more (by simp)
  have O7 := Lib.hid ((O5.out.below (b6.trans (b7.mono b6.size))).more (b6.trans (b7.mono b6.size)).size)
  have H7 := Lib.hid (H5.out.below (b6.trans (b7.mono b6.size)) H5.out.lt)
  have B7 := Lib.hid (B5.out.trans ((b6.trans (b7.mono b6.size)).mono B5.out.size))
  have L7 := Lib.hid (h6.below b7 h6.lt)
  have S7 := Lib.hid s7
  clear h6 b6 b7 s7
  have z6 : w5.heap.size + 1 = w6.heap.size := by rw [← hw6]; simp
  go_wp2_with fail
  clear hw6 hw7
  refine (back_num _ [97, 98, 99] _ _ 0 _ [⟨3, 6, 3⟩] _ _ (.ok nine) w7 tale1 rfl (by decide) (by decide) (L7.out.row) (by decide) rfl (by decide) S7.out (by decide) fits1).mono ?_; rintro e w8 ⟨v8, en8, rfl, ⟨ho8, rfl⟩, b8⟩
  obtain ⟨A8, c8, rfl, hc8, hm8, hr8⟩ := ho8.slice
  have O8 := Lib.hid hr8
  have B8 := Lib.hid (B7.out.trans (b8.mono B7.out.size))
  have H8 := Lib.hid (H7.out.below b8 H7.out.lt)
  have N8 := Lib.hid ((O7.out.below b8).more b8.size)
  clear ho8 hr8 hc8 hm8 b8 z6
  obtain ⟨w9, hw9⟩ : ∃ w9, w8.alloc (.cells #[.int .u8 97, .int .u8 98, .int .u8 99] 5 (3, 4)) = w9 := ⟨_, rfl⟩
  have h9 : LitAt w9 w8.heap.size ([97, 98, 99] : List UInt8) := by rw [← hw9]; exact LitAt.new _ ([97, 98, 99] : List UInt8) _ _
  have b9 : Below w8.heap.size w8 w9 := by rw [← hw9]; exact (Below.refl _ _).alloc (Nat.le_refl _) _
  obtain ⟨wa, hwa⟩ : ∃ wa, w9.alloc (.cells #[.int .i64 1, .int .i64 1, .int .i64 2] 25) = wa := ⟨_, rfl⟩
  have ba : Below w9.heap.size w9 wa := by rw [← hwa]; exact (Below.refl _ _).alloc (Nat.le_refl _) _
  have sa : SqRow wa wa.heap.size (some ⟨w9.heap.size, 0, none⟩) [⟨1, 1, 2⟩] := by rw [← hwa]; exact (sqrow_one w9 25 ⟨1, 1, 2⟩).more (by simp)
  have Oa := Lib.hid ((O8.out.below (b9.trans (ba.mono b9.size))).more (b9.trans (ba.mono b9.size)).size)
  have Na := Lib.hid ((N8.out.below (b9.trans (ba.mono b9.size))).more (b9.trans (ba.mono b9.size)).size)
  have Ha := Lib.hid (H8.out.below (b9.trans (ba.mono b9.size)) H8.out.lt)
  have Ba := Lib.hid (B8.out.trans ((b9.trans (ba.mono b9.size)).mono B8.out.size))
  have La := Lib.hid (h9.below ba h9.lt)
  have Sa := Lib.hid sa
  clear h9 b9 ba sa
  have z9 : w8.heap.size + 1 = w9.heap.size := by rw [← hw9]; simp
  go_wp2_with fail
  clear hw9 hwa z9
  refine (back_num _ [97, 98, 99] _ _ 0 _ [⟨1, 1, 2⟩] _ _ .malformed wa tale2 rfl (by decide) (by decide) (La.out.row) (by decide) rfl (by decide) Sa.out (by decide) fits2).mono ?_; rintro e wb ⟨vb, enb, rfl, ⟨rfl, rfl⟩, bb⟩
  have Ob := Lib.hid (Oa.out.below bb)
  have Nb := Lib.hid (Na.out.below bb)
  have Hb := Lib.hid (Ha.out.below bb Ha.out.lt)
  have Bb := Lib.hid (Ba.out.trans (bb.mono Ba.out.size))
  clear bb
  have c1 := run_conv_bytes (P := Try.prog) wb 22 9 5 Try.underlying22 Try.underlying5 Try.underlying9 A5 _ c5 _ nine rfl (Nb.out)
  have c2 := run_conv_bytes (P := Try.prog) wb 22 9 5 Try.underlying22 Try.underlying5 Try.underlying9 (some ⟨w.heap.size, 0, none⟩) _ 9 _ nine rfl (Hb.out.row)
  have c3 := run_conv_bytes (P := Try.prog) wb 22 9 5 Try.underlying22 Try.underlying5 Try.underlying9 A8 _ c8 _ nine rfl (Ob.out)
  have hlen : nine.length = 9 := rfl
  rw [hlen] at c1 c2 c3
  go_wp2
  go_ret
  exact ⟨rfl, Bb.out⟩
end Go.Proofs.Ytjifnnghcaaonaa
