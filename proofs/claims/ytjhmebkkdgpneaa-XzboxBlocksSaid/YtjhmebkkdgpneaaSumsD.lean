/- The sum of a kind: New, Add, Value. -/
import Derived.Test.YtjhmebkkdgpneaaSumsR
import Derived.Test.YtjhmebkkdgpneaaSumsC
namespace Go.Proofs.Ytjhmebkkdgpneaa
open Go.RowKit

def P32 : Nat := 3988292384
def P64 : Nat := 14514072000185962306
def crc32 (bs : List UInt8) : Nat := Crc.add P32 (Num.M32 - 1) bs ^^^ (Num.M32 - 1)
def crc64 (bs : List UInt8) : Nat := Crc.add P64 (Num.M64 - 1) bs ^^^ (Num.M64 - 1)
/-- The number of a kind. -/
def sumOf (kind : Int) (bs : List UInt8) : Int := if kind = 1 then (crc32 bs : Int) else if kind = 2 then (crc64 bs : Int) else if kind = 3 then Xxh.xxh64 bs else 0

theorem sumOf_1 (bs : List UInt8) : sumOf 1 bs = ((Crc.add P32 (Num.M32 - 1) bs ^^^ (Num.M32 - 1) : Nat) : Int) := by unfold sumOf; rw [if_pos rfl]; unfold crc32; exact Eq.refl _
theorem sumOf_2 (bs : List UInt8) : sumOf 2 bs = ((Crc.add P64 (Num.M64 - 1) bs ^^^ (Num.M64 - 1) : Nat) : Int) := by unfold sumOf; rw [if_neg (by decide), if_pos rfl]; unfold crc64; exact Eq.refl _
theorem sumOf_3 (bs : List UInt8) : sumOf 3 bs = Xxh.xxh64 bs := by unfold sumOf; rw [if_neg (by decide), if_neg (by decide), if_pos rfl]

def sumCells (T : TypeId) (c : Nat) : Array Value := #[.iface T (.pointer (some ⟨c, 0, none⟩))]
/-- A sum of a kind in memory, behind the bytes 'all'; own: the blocks that are its own. -/
inductive SumAt (w : World) (s : Nat) (own : Nat → Prop) (kind : Int) (all : List UInt8) : Prop
  | crc32 (c : Nat) (hk : kind = 1) (hs : Pts w s (sumCells 72 c) 77) (hc : CrcAt w c P32 (Crc.add P32 (Num.M32 - 1) all) ((Num.M32 - 1 : Nat) : Int)) (ho : ∀ k, own k ↔ (k = s ∨ k = c)) (hne : s ≠ c)
  | crc64 (c : Nat) (hk : kind = 2) (hs : Pts w s (sumCells 72 c) 77) (hc : CrcAt w c P64 (Crc.add P64 (Num.M64 - 1) all) ((Num.M64 - 1 : Nat) : Int)) (ho : ∀ k, own k ↔ (k = s ∨ k = c)) (hne : s ≠ c)
  | xxh64 (c : Nat) (v : Value) (hk : kind = 3) (hs : Pts w s (sumCells 78 c) 77) (hc : XxhAt w c v all) (ho : ∀ k, own k ↔ (k = s ∨ k = c ∨ v.ownBlock = some k)) (hne : s ≠ c ∧ v.ownBlock ≠ some s)
  | none (hk : kind ≠ 1 ∧ kind ≠ 2 ∧ kind ≠ 3) (hs : Pts w s #[.nilIface] 77) (ho : ∀ k, own k ↔ k = s)

theorem meth_cv (a : Addr) (w : World) : (method 206 72 (.pointer (some a)) "baler/sums.value").run Try.prog w = .ok (66, .pointer (some a)) w := by kernel_rfl
theorem meth_xv (a : Addr) (w : World) : (method 206 78 (.pointer (some a)) "baler/sums.value").run Try.prog w = .ok (68, .pointer (some a)) w := by kernel_rfl
theorem meth_ca (a : Addr) (w : World) : (method 206 72 (.pointer (some a)) "baler/sums.add").run Try.prog w = .ok (65, .pointer (some a)) w := by kernel_rfl
theorem meth_xa (a : Addr) (w : World) : (method 206 78 (.pointer (some a)) "baler/sums.add").run Try.prog w = .ok (67, .pointer (some a)) w := by kernel_rfl
theorem eql_c (x : Value) (w : World) : (binOp .eql 75 (.iface 72 x) .nilIface).run Try.prog w = .ok (.bool false) w := by kernel_rfl
theorem eql_x (x : Value) (w : World) : (binOp .eql 75 (.iface 78 x) .nilIface).run Try.prog w = .ok (.bool false) w := by kernel_rfl
theorem eql_n (w : World) : (binOp .eql 75 .nilIface .nilIface).run Try.prog w = .ok (.bool true) w := by kernel_rfl
theorem neq_c (x : Value) (w : World) : (binOp .neq 75 (.iface 72 x) .nilIface).run Try.prog w = .ok (.bool true) w := by kernel_rfl
theorem neq_x (x : Value) (w : World) : (binOp .neq 75 (.iface 78 x) .nilIface).run Try.prog w = .ok (.bool true) w := by kernel_rfl
theorem neq_n (w : World) : (binOp .neq 75 .nilIface .nilIface).run Try.prog w = .ok (.bool false) w := by kernel_rfl

theorem P32_lt : P32 < Num.M64 := by decide
theorem P32_lt32 : P32 < Num.M32 := by decide
theorem P64_lt : P64 < Num.M64 := by decide
theorem c32_lt (bs : List UInt8) : Crc.add P32 (Num.M32 - 1) bs < Num.M64 := Nat.lt_of_lt_of_le (Crc.add_lt32 P32_lt32 bs _ (by decide)) (by decide)
theorem c64_lt (bs : List UInt8) : Crc.add P64 (Num.M64 - 1) bs < Num.M64 := Crc.add_lt P64_lt bs _ (by decide)

theorem value_any (s : Nat) (own : Nat → Prop) (kind : Int) (all : List UInt8) (w : World) (h : SumAt w s own kind all) (hlen : all.length ≤ 140737488355328) :
    Calls Try.prog 46 #[.pointer (some ⟨s, 0, none⟩)] w fun e w' => e = .returned (.int .u64 (sumOf kind all)) ∧ ∃ d, w' = w.drewN d := by
  have q1 := eql_c
  have q2 := eql_x
  have q3 := eql_n
  cases h with
  | crc32 c hk hs hc ho hne =>
    have h0 : w.cell? ⟨s, 0, none⟩ = some (.iface 72 (.pointer (some ⟨c, 0, none⟩))) := by rw [hs.cell]; rfl
    have hm := meth_cv
    have HC := Lib.hid hc
    have HK := Lib.hid hk
    clear hk hs hc ho hne
    go_enter Try.func46, Try.ntmps46
    go_wp2_with (go_at_call 66; refine (crcValue_any _ _ _ _ _ HC.out (c32_lt all) (by decide)).mono ?_; rintro e w' ⟨rfl, d, rfl⟩)
    go_ret
    exact ⟨ret_int (by rw [HK.out, sumOf_1]), _, rfl⟩
  | crc64 c hk hs hc ho hne =>
    have h0 : w.cell? ⟨s, 0, none⟩ = some (.iface 72 (.pointer (some ⟨c, 0, none⟩))) := by rw [hs.cell]; rfl
    have hm := meth_cv
    have HC := Lib.hid hc
    have HK := Lib.hid hk
    clear hk hs hc ho hne
    go_enter Try.func46, Try.ntmps46
    go_wp2_with (go_at_call 66; refine (crcValue_any _ _ _ _ _ HC.out (c64_lt all) (by decide)).mono ?_; rintro e w' ⟨rfl, d, rfl⟩)
    go_ret
    exact ⟨ret_int (by rw [HK.out, sumOf_2]), _, rfl⟩
  | xxh64 c v hk hs hc ho hne =>
    have h0 : w.cell? ⟨s, 0, none⟩ = some (.iface 78 (.pointer (some ⟨c, 0, none⟩))) := by rw [hs.cell]; rfl
    have hm := meth_xv
    have HC := Lib.hid hc
    have HK := Lib.hid hk
    clear hk hs hc ho hne
    go_enter Try.func46, Try.ntmps46
    go_wp2_with (go_at_call 68; refine (xxhValue_any _ _ _ _ HC.out hlen).mono ?_; rintro e w' ⟨rfl, d, rfl⟩)
    go_ret
    exact ⟨ret_int (by rw [HK.out, sumOf_3]), _, rfl⟩
  | none hk hs ho =>
    have h0 : w.cell? ⟨s, 0, none⟩ = some .nilIface := by rw [hs.cell]; rfl
    have HK := Lib.hid hk
    clear hk hs ho
    go_enter Try.func46, Try.ntmps46
    go_wp2
    go_ret
    exact ⟨ret_int (by obtain ⟨a, b, c⟩ := HK.out; unfold sumOf; rw [if_neg a, if_neg b, if_neg c]), 0, rfl⟩

theorem value_nil (w : World) :
    Calls Try.prog 46 #[.pointer none] w fun e w' => e = .returned (.int .u64 0) ∧ w = w' := by
  go_enter Try.func46, Try.ntmps46
  go_wp2
  go_ret
  exact ⟨rfl, rfl⟩
theorem add_nil (A : Option Addr) (n c : Nat) (w : World) :
    Calls Try.prog 45 #[.pointer none, .slice A n c] w fun e w' => e = .returned (.tuple #[]) ∧ w = w' := by
  go_enter Try.func45, Try.ntmps45
  go_wp2
  go_end0
  exact ⟨rfl, rfl⟩

theorem add_off (s : Nat) (own : Nat → Prop) (kind : Int) (all : List UInt8) (A : Option Addr) (bs : List UInt8) (n c B : Nat) (w : World) (h : SumAt w s own kind all) (hn : n = bs.length) (hr : BRow w B A bs) (hoff : BOff own A bs) (hlen : all.length + bs.length ≤ 140737488355328) :
    Calls Try.prog 45 #[.pointer (some ⟨s, 0, none⟩), .slice A n c] w fun e w' => e = .returned (.tuple #[]) ∧ ∃ own', SumAt w' s own' kind (all ++ bs) ∧ (∀ k, own' k → own k ∨ w.heap.size ≤ k) ∧ Frm own w w' := by
  subst hn
  have q1 := neq_c
  have q2 := neq_x
  have q3 := neq_n
  have HB := Lib.hid hoff
  have HR := Lib.hid hr
  clear hoff hr
  cases h with
  | crc32 b hk hs hc ho hne =>
    have h0 : w.cell? ⟨s, 0, none⟩ = some (.iface 72 (.pointer (some ⟨b, 0, none⟩))) := by rw [hs.cell]; rfl
    have hm := meth_ca
    have HC := Lib.hid hc
    have HK := Lib.hid hk
    have HO := Lib.hid ho
    have HS := Lib.hid hs
    have HN := Lib.hid hne
    clear hk hs hc ho hne
    go_enter Try.func45, Try.ntmps45
    go_wp2_with (go_at_call 65; refine (crcAdd_off _ _ _ _ B _ _ bs _ HC.out P32_lt (c32_lt all) HR.out (fun h0 ad e e2 => HB.out h0 ad e ((HO.out _).2 (.inr e2))) (by omega)).mono ?_; rintro e w' ⟨rfl, h1, h2⟩)
    go_end0
    refine ⟨rfl, own, .crc32 b HK.out (Pts.frm HS.out h2 HN.out) (by rw [Crc.add_append]; exact h1) HO.out HN.out, fun k hk => .inl hk, h2.mono fun k _ hk => (HO.out k).2 (.inr hk)⟩
  | crc64 b hk hs hc ho hne =>
    have h0 : w.cell? ⟨s, 0, none⟩ = some (.iface 72 (.pointer (some ⟨b, 0, none⟩))) := by rw [hs.cell]; rfl
    have hm := meth_ca
    have HC := Lib.hid hc
    have HK := Lib.hid hk
    have HO := Lib.hid ho
    have HS := Lib.hid hs
    have HN := Lib.hid hne
    clear hk hs hc ho hne
    go_enter Try.func45, Try.ntmps45
    go_wp2_with (go_at_call 65; refine (crcAdd_off _ _ _ _ B _ _ bs _ HC.out P64_lt (c64_lt all) HR.out (fun h0 ad e e2 => HB.out h0 ad e ((HO.out _).2 (.inr e2))) (by omega)).mono ?_; rintro e w' ⟨rfl, h1, h2⟩)
    go_end0
    refine ⟨rfl, own, .crc64 b HK.out (Pts.frm HS.out h2 HN.out) (by rw [Crc.add_append]; exact h1) HO.out HN.out, fun k hk => .inl hk, h2.mono fun k _ hk => (HO.out k).2 (.inr hk)⟩
  | xxh64 b v hk hs hc ho hne =>
    have h0 : w.cell? ⟨s, 0, none⟩ = some (.iface 78 (.pointer (some ⟨b, 0, none⟩))) := by rw [hs.cell]; rfl
    have hm := meth_xa
    have HC := Lib.hid hc
    have HK := Lib.hid hk
    have HO := Lib.hid ho
    have HS := Lib.hid hs
    have HN := Lib.hid hne
    clear hk hs hc ho hne
    go_enter Try.func45, Try.ntmps45
    go_wp2_with (go_at_call 67; refine (xxhAdd_off _ _ all _ bs _ B _ HC.out HR.out (fun h0 ad e e2 => HB.out h0 ad e ((HO.out _).2 (.inr (.inl e2)))) hlen).mono ?_; rintro e w' ⟨rfl, v', h1, h2, h3⟩)
    go_end0
    refine ⟨rfl, fun k => k = s ∨ k = b ∨ v'.ownBlock = some k, .xxh64 b v' HK.out (Pts.frm HS.out h3 (by rintro (e | e); exact HN.out.1 e; exact HN.out.2 e)) h1 (fun _ => Iff.rfl) ⟨HN.out.1, fun e => ?_⟩, fun k hk => ?_, h3.mono fun k _ hk => (HO.out k).2 (.inr hk)⟩
    · rcases h2 s e with h | h
      · exact HN.out.2 h
      · have := HS.out.lt; omega
    · rcases hk with e | e | e
      · exact .inl ((HO.out k).2 (.inl e))
      · exact .inl ((HO.out k).2 (.inr (.inl e)))
      · rcases h2 k e with h | h
        · exact .inl ((HO.out k).2 (.inr (.inr h)))
        · exact .inr h
  | none hk hs ho =>
    have h0 : w.cell? ⟨s, 0, none⟩ = some .nilIface := by rw [hs.cell]; rfl
    have HK := Lib.hid hk
    have HO := Lib.hid ho
    have HS := Lib.hid hs
    clear hk hs ho
    go_enter Try.func45, Try.ntmps45
    go_wp2
    go_end0
    exact ⟨rfl, own, .none HK.out HS.out HO.out, fun k hk => .inl hk, Frm.refl _ _⟩
theorem add_any (s : Nat) (own : Nat → Prop) (kind : Int) (all : List UInt8) (A : Option Addr) (bs : List UInt8) (n c B : Nat) (w : World) (h : SumAt w s own kind all) (hn : n = bs.length) (hr : BRow w B A bs) (hB : ∀ k, own k → B ≤ k) (hlen : all.length + bs.length ≤ 140737488355328) :
    Calls Try.prog 45 #[.pointer (some ⟨s, 0, none⟩), .slice A n c] w fun e w' => e = .returned (.tuple #[]) ∧ ∃ own', SumAt w' s own' kind (all ++ bs) ∧ (∀ k, own' k → own k ∨ w.heap.size ≤ k) ∧ Frm own w w' :=
  add_off s own kind all A bs n c B w h hn hr (BOff.of_row hr hB) hlen
end Go.Proofs.Ytjhmebkkdgpneaa
