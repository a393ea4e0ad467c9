/- Seals: four bytes of a CRC. -/
import Derived.Test.YtjhmebkkdgpneaaBoxW
import Derived.Test.YtjhmebkkdgpneaaSumsE
namespace Go.Proofs.Ytjhmebkkdgpneaa
open Go.RowKit Box
set_option linter.unusedVariables false
set_option linter.unusedSimpArgs false
theorem OwnB.of_cells (w : World) (T base : Nat) (bs : List UInt8) (hb : base ≤ w.heap.size) (hm : bs.length ≤ maxLen) : OwnB (w.alloc (.cells (bs.map byteV).toArray T)) T base (.slice (some ⟨w.heap.size, 0, none⟩) bs.length bs.length) bs :=
  ⟨by simp, .inr ⟨w.heap.size, bs.length, (bs.map byteV).toArray, rfl, hb, Pts.new w _ T, Nat.le_refl _, hm, by simp, by simp [List.take_of_length_le]⟩⟩
/-- The four bytes of a number. -/
def four (x : Nat) : List UInt8 := [UInt8.ofNat x, UInt8.ofNat (x / 256), UInt8.ofNat (x / 65536), UInt8.ofNat (x / 16777216)]
def sealB (bs : List UInt8) : List UInt8 := four (crc32 bs)
theorem byte_of (x : Nat) : IntKind.u8.wrap (x : Int) = ((UInt8.ofNat x).toNat : Int) := by rw [IntKind.wrap_u8', UInt8.toNat_ofNat']; omega
theorem byte_div (x k : Nat) : IntKind.u8.wrap ((x : Int) / k) = ((UInt8.ofNat (x / k)).toNat : Int) := by
  rw [show ((x : Int) / k) = ((x / k : Nat) : Int) by simp]; exact byte_of _
set_option maxRecDepth 100000 in
theorem seal_p (A : Option Addr) (bs : List UInt8) (n c : Nat) (w : World) (hn : n = bs.length) (hr : BRow w w.heap.size A bs) (hlen : bs.length ≤ 140737488355328) :
    Calls Try.prog 29 #[.slice A n c] w fun e w' => ∃ v, e = .returned v ∧ OwnB w' 5 w.heap.size v (sealB bs) ∧ Below w.heap.size w w' := by
  have HR := Lib.hid hr
  have HN := Lib.hid hn
  have HL := Lib.hid hlen
  have hc := crc32_any A bs n c w hn hr hlen
  obtain ⟨x, hx⟩ : ∃ x, crc32 bs = x := ⟨_, rfl⟩
  rw [hx] at hc
  have hs : sealB bs = four x := by unfold sealB; rw [hx]
  rw [hs]
  have HC := Lib.hid hc
  clear hr hn hlen hc hs hx
  go_enter Try.func29, Try.ntmps29
  go_wp2_with fail
  refine HC.out.mono ?_; rintro r w1 ⟨rfl, hb1⟩
  have O1 : ∀ T, OwnB (w1.alloc (.cells ((four x).map byteV).toArray T)) T w.heap.size (.slice (some ⟨w1.heap.size, 0, none⟩) 4 4) (four x) := fun T => OwnB.of_cells w1 T _ (four x) hb1.size (by unfold maxLen four; simp)
  have B1 := Lib.hid hb1
  have OO := Lib.hid O1
  have g0 := byte_of x
  have g1 : IntKind.u8.wrap ((x : Int) / 256) = _ := byte_div x 256
  have g2 : IntKind.u8.wrap ((x : Int) / 65536) = _ := byte_div x 65536
  have g3 : IntKind.u8.wrap ((x : Int) / 16777216) = _ := byte_div x 16777216
  clear O1 hb1
  go_wp2
  go_ret
  exact ⟨_, rfl, OO.out _, B1.out.alloc B1.out.size _⟩
set_option maxRecDepth 100000 in
theorem rseal_p (A : Option Addr) (bs : List UInt8) (n c : Nat) (w : World) (hn : n = bs.length) (hr : BRow w w.heap.size A bs) (hlen : bs.length ≤ 140737488355328) :
    Calls Try.prog 31 #[.slice A n c] w fun e w' => ∃ v, e = .returned v ∧ OwnB w' 5 w.heap.size v (sealB bs) ∧ Below w.heap.size w w' := by
  have HR := Lib.hid hr
  have HN := Lib.hid hn
  have HL := Lib.hid hlen
  have hc := rcrc32_any' A bs n c _ w hn hr hlen
  obtain ⟨x, hx⟩ : ∃ x, crc32 bs = x := ⟨_, rfl⟩
  rw [hx] at hc
  have hs : sealB bs = four x := by unfold sealB; rw [hx]
  rw [hs]
  have HC := Lib.hid hc
  clear hr hn hlen hc hs hx
  go_enter Try.func31, Try.ntmps31
  go_wp2_with fail
  refine HC.out.mono ?_; rintro r w1 ⟨rfl, rfl⟩
  have O1 : ∀ T, OwnB (w.alloc (.cells ((four x).map byteV).toArray T)) T w.heap.size (.slice (some ⟨w.heap.size, 0, none⟩) 4 4) (four x) := fun T => OwnB.of_cells w T _ (four x) (Nat.le_refl _) (by unfold maxLen four; simp)
  have OO := Lib.hid O1
  have g0 := byte_of x
  have g1 : IntKind.u8.wrap ((x : Int) / 256) = _ := byte_div x 256
  have g2 : IntKind.u8.wrap ((x : Int) / 65536) = _ := byte_div x 65536
  have g3 : IntKind.u8.wrap ((x : Int) / 16777216) = _ := byte_div x 16777216
  clear O1
  go_wp2
  go_ret
  exact ⟨_, rfl, OO.out _, (Below.refl _ _).alloc (Nat.le_refl _) _⟩
theorem equal_p (A A' : Option Addr) (xs bs : List UInt8) (n c n' c' B : Nat) (w : World) (hn : n = xs.length) (hr : BRow w B A xs) (hn' : n' = bs.length) (hr' : BRow w B A' bs) :
    Calls Try.prog 28 #[.slice A n c, .slice A' n' c'] w fun e w' => e = .returned (.bool (xs == bs)) ∧ w = w' := by
  have k1 := run_conv_bytes (P := Try.prog) w 22 9 5 Try.underlying22 Try.underlying5 Try.underlying9 A n c _ xs hn hr
  have k2 := run_conv_bytes (P := Try.prog) w 22 9 5 Try.underlying22 Try.underlying5 Try.underlying9 A' n' c' _ bs hn' hr'
  clear hr hr' hn hn'
  go_enter Try.func28, Try.ntmps28
  go_wp2
  go_ret
  exact ⟨rfl, rfl⟩
end Go.Proofs.Ytjhmebkkdgpneaa
