/- What the document says of a few bytes. -/
import Derived.Test.YtmijkndokcibpaaSumsE
import Derived.Lib.SlBytesConst
namespace Go.Proofs.Ytmijkndokcibpaa
open Go.RowKit

/-- A literal's row: its cells are the bytes (one place behind them bears a mark). -/
def LitAt (w : World) (b : Nat) (bs : List UInt8) : Prop := ∃ T fr, w.heap[b]? = some (.cells (bs.map byteV).toArray T fr)
theorem LitAt.lt {w : World} {b : Nat} {bs : List UInt8} (h : LitAt w b bs) : b < w.heap.size := by
  obtain ⟨T, fr, h⟩ := h
  exact (Array.getElem?_eq_some_iff.1 h).1
theorem LitAt.row {w : World} {b : Nat} {bs : List UInt8} (h : LitAt w b bs) : BRow w w.heap.size (some ⟨b, 0, none⟩) bs := by
  intro _
  refine ⟨b, 0, rfl, h.lt, fun k hk => ?_⟩
  obtain ⟨T, fr, h⟩ := h
  simp [World.cell?, h, List.getD, hk]
theorem LitAt.new (w : World) (bs : List UInt8) (T : TypeId) (fr : Nat × Nat) : LitAt (w.alloc (.cells (bs.map byteV).toArray T fr)) w.heap.size bs := ⟨T, fr, by show (w.heap.push _)[w.heap.size]? = _; simp⟩
theorem LitAt.below {B : Nat} {w w' : World} {b : Nat} {bs : List UInt8} (h : LitAt w b bs) (hb : Below B w w') (hB : b < B) : LitAt w' b bs := by
  obtain ⟨T, fr, h⟩ := h
  exact ⟨T, fr, (hb.block b hB).trans h⟩

theorem crc32_num (A : Option Addr) (bs : List UInt8) (n c : Nat) (v : Int) (w : World) (hv : (crc32 bs : Int) = v) (hn : n = bs.length) (hr : BRow w w.heap.size A bs) (hlen : bs.length ≤ 140737488355328) :
    Calls Try.prog 10 #[.slice A n c] w fun e w' => e = .returned (.int .u32 v) ∧ Below w.heap.size w w' := by
  subst hv; exact crc32_any A bs n c w hn hr hlen
theorem crc64_num (A : Option Addr) (bs : List UInt8) (n c : Nat) (v : Int) (w : World) (hv : (crc64 bs : Int) = v) (hn : n = bs.length) (hr : BRow w w.heap.size A bs) (hlen : bs.length ≤ 140737488355328) :
    Calls Try.prog 12 #[.slice A n c] w fun e w' => e = .returned (.int .u64 v) ∧ Below w.heap.size w w' := by
  subst hv; exact crc64_any A bs n c w hn hr hlen
theorem xxh64_num (A : Option Addr) (bs : List UInt8) (n c : Nat) (v : Int) (w : World) (hv : Xxh.xxh64 bs = v) (hn : n = bs.length) (hr : BRow w w.heap.size A bs) (hlen : bs.length ≤ 140737488355328) :
    Calls Try.prog 14 #[.slice A n c] w fun e w' => e = .returned (.int .u64 v) ∧ Below w.heap.size w w' := by
  subst hv; exact xxh64_any A bs n c w hn hr hlen

def nine : List UInt8 := [49, 50, 51, 52, 53, 54, 55, 56, 57]
theorem nine32 : (crc32 nine : Int) = 3421780262 := by decide +kernel
theorem nine64 : (crc64 nine : Int) = 11051210869376104954 := by decide +kernel
theorem xxh_none : Xxh.xxh64 [] = 17241709254077376921 := by decide +kernel
theorem xxh_abc : Xxh.xxh64 [97, 98, 99] = 4952883123889572249 := by decide +kernel
theorem xxh_a : Xxh.xxh64 [97] = 15154266338359012955 := by decide +kernel

set_option maxHeartbeats 1000000 in
theorem wakes02 (w : World) : Calls Try.prog 9 #[] w fun e w' => e = .returned (.bool true) ∧ Below w.heap.size w w' := by
  have hcv := fun (w : World) (C : Array Value) (n c : Nat) => Lib.run_convert_bytes_const (P := Try.prog) w 22 5 C n c Try.underlying22 Try.underlying5
  obtain ⟨w1, hw1⟩ : ∃ w1, w.alloc (.cells #[.int .u8 49, .int .u8 50, .int .u8 51, .int .u8 52, .int .u8 53, .int .u8 54, .int .u8 55, .int .u8 56, .int .u8 57] 5 (9, 10)) = w1 := ⟨_, rfl⟩
  have h1 : LitAt w1 w.heap.size nine := by rw [← hw1]; exact LitAt.new _ nine _ _
  have b1 : Below w.heap.size w w1 := by rw [← hw1]; exact (Below.refl _ _).alloc (Nat.le_refl _) _
  have H1 := Lib.hid h1
  have B1 := Lib.hid b1
  clear h1 b1
  go_enter Try.func9, Try.ntmps9
  go_wp2_with fail
  clear hw1
  refine (crc32_num _ nine _ _ _ _ nine32 rfl (LitAt.row H1.out) (by decide)).mono ?_; rintro e w2 ⟨rfl, b2⟩
  have H2 := Lib.hid (H1.out.below b2 H1.out.lt)
  have B2 := Lib.hid (B1.out.trans (b2.mono B1.out.size))
  clear b2
  go_wp2_with fail
  refine (crc64_num _ nine _ _ _ _ nine64 rfl (LitAt.row H2.out) (by decide)).mono ?_; rintro e w3 ⟨rfl, b3⟩
  have B3 := Lib.hid (B2.out.trans (b3.mono B2.out.size))
  clear b3
  go_wp2_with fail
  refine (xxh64_num _ [] _ _ _ _ xxh_none rfl (BRow.nil _ _ _) (by decide)).mono ?_; rintro e w4 ⟨rfl, b4⟩
  have B4 := Lib.hid (B3.out.trans (b4.mono B3.out.size))
  clear b4
  obtain ⟨w5, hw5⟩ : ∃ w5, w4.alloc (.cells #[.int .u8 97, .int .u8 98, .int .u8 99] 5 (3, 4)) = w5 := ⟨_, rfl⟩
  have h5 : LitAt w5 w4.heap.size ([97, 98, 99] : List UInt8) := by rw [← hw5]; exact LitAt.new _ ([97, 98, 99] : List UInt8) _ _
  have b5 : Below w4.heap.size w4 w5 := by rw [← hw5]; exact (Below.refl _ _).alloc (Nat.le_refl _) _
  have H5 := Lib.hid h5
  have B5 := Lib.hid (B4.out.trans (b5.mono B4.out.size))
  clear h5 b5
  go_wp2_with fail
  clear hw5
  refine (xxh64_num _ [97, 98, 99] _ _ _ _ xxh_abc rfl (LitAt.row H5.out) (by decide)).mono ?_; rintro e w6 ⟨rfl, b6⟩
  have B6 := Lib.hid (B5.out.trans (b6.mono B5.out.size))
  clear b6
  obtain ⟨w7, hw7⟩ : ∃ w7, w6.alloc (.cells #[.int .u8 97] 5 (1, 2)) = w7 := ⟨_, rfl⟩
  have h7 : LitAt w7 w6.heap.size ([97] : List UInt8) := by rw [← hw7]; exact LitAt.new _ ([97] : List UInt8) _ _
  have b7 : Below w6.heap.size w6 w7 := by rw [← hw7]; exact (Below.refl _ _).alloc (Nat.le_refl _) _
  have H7 := Lib.hid h7
  have B7 := Lib.hid (B6.out.trans (b7.mono B6.out.size))
  clear h7 b7
  go_wp2_with fail
  clear hw7
  refine (xxh64_num _ [97] _ _ _ _ xxh_a rfl (LitAt.row H7.out) (by decide)).mono ?_; rintro e w8 ⟨rfl, b8⟩
  have B8 := Lib.hid (B7.out.trans (b8.mono B7.out.size))
  clear b8
  go_wp2
  go_ret
  exact ⟨rfl, B8.out⟩

theorem lawNil02 (A : Option Addr) (n c : Nat) (f : Nat → Int) (w : World) (_h1 : n ≤ c) (_h2 : c ≤ maxLen) (_h3 : Opn.RowAt w w.heap.size A n fun i => .int .u8 (f i)) (_h4 : ∀ i, i < n → 0 ≤ f i ∧ f i ≤ 255) :
    Calls Try.prog 8 #[.slice A n c] w fun e w' => e = .returned (.bool true) ∧ Below w.heap.size w w' := by
  clear _h1 _h2 _h3 _h4
  go_enter Try.func8, Try.ntmps8
  go_wp2_with fail
  refine (add_nil _ _ _ _).mono ?_; rintro e w1 ⟨rfl, rfl⟩
  go_wp2_with fail
  refine (value_nil _).mono ?_; rintro e w1 ⟨rfl, rfl⟩
  go_wp2_with fail
  refine (wakes02 _).mono ?_; rintro e w1 ⟨rfl, h1⟩
  go_wp2
  go_ret
  exact ⟨rfl, h1⟩
end Go.Proofs.Ytmijkndokcibpaa
