/- New; the sums of bytes at one stroke; the reference's number of a kind; what the document says of a few bytes. -/
import Derived.Test.YtjhmebkkdgpneaaSumsD
namespace Go.Proofs.Ytjhmebkkdgpneaa
open Go.RowKit

theorem new_any (kind : Int) (w : World) :
    Calls Try.prog 44 #[.int .i64 kind] w fun e w' => ∃ s own, e = .returned (.pointer (some ⟨s, 0, none⟩)) ∧ SumAt w' s own kind [] ∧ (∀ k, own k → w.heap.size ≤ k) ∧ Below w.heap.size w w' := by
  by_cases h1 : kind = 1
  · subst h1
    go_enter Try.func44, Try.ntmps44
    go_wp2_with (go_at_call 47; refine (newCRC_any _ _ P32 (by rfl) P32_lt _).mono ?_; rintro e w1 ⟨rfl, h1, h2⟩)
    go_ret
    have hc : w.heap.size < w1.heap.size := h1.lt
    refine ⟨w1.heap.size, fun k => k = w1.heap.size ∨ k = w.heap.size, rfl, .crc32 w.heap.size rfl (Pts.new _ _ _) (Pts.alloc h1 _) (fun _ => Iff.rfl) (by omega), ?_, h2.alloc h2.size _⟩
    rintro k (rfl | rfl)
    · omega
    · omega
  by_cases h2 : kind = 2
  · subst h2
    go_enter Try.func44, Try.ntmps44
    go_wp2_with (go_at_call 47; refine (newCRC_any _ _ P64 (by rfl) P64_lt _).mono ?_; rintro e w1 ⟨rfl, h1, h2⟩)
    go_ret
    have hc : w.heap.size < w1.heap.size := h1.lt
    refine ⟨w1.heap.size, fun k => k = w1.heap.size ∨ k = w.heap.size, rfl, .crc64 w.heap.size rfl (Pts.new _ _ _) (Pts.alloc h1 _) (fun _ => Iff.rfl) (by omega), ?_, h2.alloc h2.size _⟩
    rintro k (rfl | rfl)
    · omega
    · omega
  by_cases h3 : kind = 3
  · subst h3
    go_enter Try.func44, Try.ntmps44
    go_wp2_with (go_at_call 48; refine (newXXH_any _).mono ?_; rintro e w1 ⟨rfl, h1, h2⟩)
    go_ret
    have hc : w.heap.size < w1.heap.size := h1.1.lt
    refine ⟨w1.heap.size, fun k => k = w1.heap.size ∨ k = w.heap.size ∨ (Value.slice none 0 0).ownBlock = some k, rfl, .xxh64 w.heap.size (.slice none 0 0) rfl (Pts.new _ _ _) ⟨Pts.alloc h1.1 _, OwnB.nil _ _ _⟩ (fun _ => Iff.rfl) ⟨by omega, by simp [Value.ownBlock]⟩, ?_, h2.alloc h2.size _⟩
    rintro k (rfl | rfl | h)
    · omega
    · omega
    · simp [Value.ownBlock] at h
  · have e1 : (kind == 1) = false := by simpa using h1
    have e2 : (kind == 2) = false := by simpa using h2
    have e3 : (kind == 3) = false := by simpa using h3
    have HK := Lib.hid (show kind ≠ 1 ∧ kind ≠ 2 ∧ kind ≠ 3 from ⟨h1, h2, h3⟩)
    clear h1 h2 h3
    go_enter Try.func44, Try.ntmps44
    go_wp2
    go_ret
    exact ⟨w.heap.size, fun k => k = w.heap.size, rfl, .none HK.out (Pts.new _ _ _) (fun _ => Iff.rfl), fun k hk => by omega, (Below.refl _ _).alloc (Nat.le_refl _) _⟩

theorem of_any (kind : Int) (A : Option Addr) (bs : List UInt8) (n c : Nat) (w : World) (hn : n = bs.length) (hr : BRow w w.heap.size A bs) (hlen : bs.length ≤ 140737488355328) :
    Calls Try.prog 43 #[.int .i64 kind, .slice A n c] w fun e w' => e = .returned (.int .u64 (sumOf kind bs)) ∧ Below w.heap.size w w' := by
  subst hn
  have HR := Lib.hid hr
  clear hr
  go_enter Try.func43, Try.ntmps43
  go_wp2_with fail
  refine (new_any _ _).mono ?_; rintro e w1 ⟨s, own, rfl, h1, h2, h3⟩
  go_wp2_with fail
  refine (add_any s own kind [] A bs bs.length c w.heap.size _ h1 rfl (HR.out.below h3) h2 (by simpa using hlen)).mono ?_; rintro e w2 ⟨rfl, own', h4, h5, h6⟩
  have h7 := h6.below (B := w.heap.size) h3.size h2
  go_wp2_with fail
  refine (value_any s own' kind ([] ++ bs) _ h4 (by simpa using hlen)).mono ?_; rintro e w3 ⟨rfl, d, rfl⟩
  go_wp2
  go_ret
  exact ⟨rfl, below_drewN (h3.trans h7) d⟩

theorem c32_lt32 (bs : List UInt8) : crc32 bs < Num.M32 := Num.xor_lt32 (Crc.add_lt32 P32_lt32 bs _ (by decide)) (by decide)
theorem c64_lt64 (bs : List UInt8) : crc64 bs < Num.M64 := Num.xor_lt64 (c64_lt bs) (by decide)

theorem crc32_any (A : Option Addr) (bs : List UInt8) (n c : Nat) (w : World) (hn : n = bs.length) (hr : BRow w w.heap.size A bs) (hlen : bs.length ≤ 140737488355328) :
    Calls Try.prog 39 #[.slice A n c] w fun e w' => e = .returned (.int .u32 (crc32 bs : Int)) ∧ Below w.heap.size w w' := by
  have h32 : IntKind.u32.wrap (sumOf 1 bs) = (crc32 bs : Int) := by
    rw [show sumOf 1 bs = (crc32 bs : Int) from sumOf_1 bs, Num.wrap32, Nat.mod_eq_of_lt (c32_lt32 bs)]
  have H32 := Lib.hid h32
  subst hn
  have HR := Lib.hid hr
  clear hr h32
  go_enter Try.func39, Try.ntmps39
  go_wp2_with fail
  refine (of_any _ A bs bs.length c _ rfl HR.out hlen).mono ?_; rintro e w2 ⟨rfl, h4⟩
  go_wp2
  go_ret
  exact ⟨ret_int H32.out, h4⟩
theorem rcrc32_any' (A : Option Addr) (bs : List UInt8) (n c B : Nat) (w : World) (hn : n = bs.length) (hr : BRow w B A bs) (hlen : bs.length ≤ 140737488355328) :
    Calls Try.prog 30 #[.slice A n c] w fun e w' => e = .returned (.int .u32 (crc32 bs : Int)) ∧ w = w' := rcrc32_any A bs c n B w hn hr hlen
end Go.Proofs.Ytjhmebkkdgpneaa
