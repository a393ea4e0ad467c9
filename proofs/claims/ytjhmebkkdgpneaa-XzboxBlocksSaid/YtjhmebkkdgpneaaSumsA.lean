/- The contracts of the CRC's functions. -/
import Derived.Test.YtjhmebkkdgpneaaChecked
import Derived.Test.YtjhmebkkdgpneaaFrm
import Derived.Test.YtjhmebkkdgpneaaOpen
import Derived.Test.YtjhmebkkdgpneaaLaws
import Derived.Test.YtjhmebkkdgpneaaBytes
import Derived.Test.YtjhmebkkdgpneaaCrcN
import Derived.WalkKit
import Derived.Lib.Hide
import Derived.BigQuiet
import Derived.Deep.QuietTactic
import Derived.RegionTactic
import Derived.StillTailTactics
namespace Go.Proofs.Ytjhmebkkdgpneaa
open Go.RowKit

theorem ret_int {k : IntKind} {a b : Int} (h : a = b) : Ending.returned (.int k a) = .returned (.int k b) := by rw [h]

/-- A CRC in memory: the sum so far, what is taken with it at the end, the table. -/
def crcCells (n all : Int) (tab : Nat → Int) : Array Value := (Value.int .u64 n :: Value.int .u64 all :: (List.range 256).map fun i => Value.int .u64 (tab i)).toArray
theorem crcCells_0 (n all : Int) (tab : Nat → Int) : (crcCells n all tab)[0]? = some (.int .u64 n) := by simp [crcCells]
theorem crcCells_1 (n all : Int) (tab : Nat → Int) : (crcCells n all tab)[1]? = some (.int .u64 all) := by simp [crcCells]
theorem crcCells_2 (n all : Int) (tab : Nat → Int) (i : Nat) (hi : i < 256) : (crcCells n all tab)[2 + i]? = some (.int .u64 (tab i)) := by
  simp [crcCells, Nat.add_comm 2 i, hi]
theorem crcCells_set0 (n m all : Int) (tab : Nat → Int) : (crcCells n all tab).setIfInBounds 0 (.int .u64 m) = crcCells m all tab := by simp [crcCells]
theorem crcCells_set2 (n all v : Int) (tab : Nat → Int) (i : Nat) (_hi : i < 256) : (crcCells n all tab).setIfInBounds (2 + i) (.int .u64 v) = crcCells n all (fun j => if j = i then v else tab j) := by
  apply Array.ext_getElem?
  intro k
  rw [Array.getElem?_setIfInBounds]
  have hsz : ∀ t, (crcCells n all t).size = 258 := fun t => by simp [crcCells]
  rcases Nat.lt_or_ge k 258 with hk | hk
  · match k with
    | 0 => rw [if_neg (by omega), crcCells_0, crcCells_0]
    | 1 => rw [if_neg (by omega), crcCells_1, crcCells_1]
    | k + 2 =>
      rw [show k + 2 = 2 + k by omega, crcCells_2 _ _ _ k (by omega), crcCells_2 _ _ _ k (by omega), hsz]
      by_cases h : k = i
      · subst h; simp; omega
      · rw [if_neg (by omega), if_neg h]
  · rw [Array.getElem?_eq_none (by rw [hsz]; omega), Array.getElem?_eq_none (by rw [hsz]; omega)]
    split
    · split
      · rename_i h1 h2; rw [hsz] at h2; omega
      · rfl
    · rfl

theorem Try.build_crc (a b : Int) (w : World) : (Instr.build 82 #[(0, .int .u64 a), (1, .int .u64 b)]).run Try.prog w = .ok (.agg (crcCells a b fun _ => 0)) w := by kernel_rfl

/-- The step of a bit, as the code's own operations have it. -/
theorem bit_raw1 {P x : Nat} (hx : x < Num.M64) (hP : P < Num.M64) (h : (bits .and .u64 (x : Int) 1 == 1) = true) : bits .xor .u64 ((x : Int) / 2) (P : Int) = ((Crc.bit P x : Nat) : Int) := by
  rw [Num.and64_1 hx] at h
  have h1 : x % 2 = 1 := by simp at h; omega
  rw [show (x : Int) / 2 = ((x / 2 : Nat) : Int) by omega, Num.xor64 (by omega) hP]
  simp [Crc.bit, h1]
theorem bit_raw0 {P x : Nat} (hx : x < Num.M64) (h : (bits .and .u64 (x : Int) 1 == 1) = false) : (x : Int) / 2 = ((Crc.bit P x : Nat) : Int) := by
  rw [Num.and64_1 hx] at h
  have h1 : ¬ x % 2 = 1 := by simp at h; omega
  simp [Crc.bit, h1]

/-- The table of a polynomial. -/
def tabOf (P : Nat) (i : Nat) : Int := ((Crc.bitsN P 8 i : Nat) : Int)
/-- A CRC in memory. -/
def CrcAt (w : World) (b P n : Nat) (all : Int) : Prop := Pts w b (crcCells n all (tabOf P)) 82

theorem crcCells_congr {n all : Int} {t t' : Nat → Int} (h : ∀ i, i < 256 → t i = t' i) : crcCells n all t = crcCells n all t' := by
  unfold crcCells
  congr 3
  apply List.map_congr_left
  intro i hi
  rw [h i (by simpa using hi)]

set_option maxRecDepth 1000000 in
theorem newCRC_any (poly all : Int) (P : Nat) (hpoly : poly = P) (hP : P < Num.M64) (w : World) :
    Calls Try.prog 47 #[.int .u64 poly, .int .u64 all] w fun e w' => e = .returned (.pointer (some ⟨w.heap.size, 0, none⟩)) ∧ Pts w' w.heap.size (crcCells all all (tabOf P)) 82 ∧ Below w.heap.size w w' := by
  subst hpoly
  have HPL := Lib.hid hP
  clear hP
  go_enter Try.func47, Try.ntmps47
  go_wp2_with (refine wpList_build 82 _ rfl rfl (.agg (crcCells all all fun _ => 0)) #[(0, .int .u64 all), (1, .int .u64 all)] (by simp [Act.eval]) (Try.build_crc all all _) ?_)
  go_loopw [13] (fun i wr => ∃ (k : Nat) (tab : Nat → Int), k ≤ 256 ∧ i = .int .i64 k ∧ (∀ j, j < k → tab j = tabOf P j) ∧ Pts wr w.heap.size (crcCells all all tab) 82 ∧ Below w.heap.size w wr) (fun i _ => 256 - (intOf i).toNat)
  case atStart => exact ⟨0, fun _ => 0, by omega, rfl, fun j hj => absurd hj (by omega), Pts.new _ _ _, (Below.refl _ _).alloc (Nat.le_refl _) _⟩
  case round =>
    obtain ⟨k, tab, hk, rfl, htab, hp, hb⟩ := hrel
    have HT := Lib.hid htab
    have HP := Lib.hid hp
    have HB := Lib.hid hb
    clear htab hp hb
    by_cases hlt : k < 256
    · have f2 := Pts.frozen HP.out (2 + k)
      have c2 := HP.out.cell (2 + k)
      rw [crcCells_2 _ _ _ k hlt] at c2
      go_wp2
      obtain ⟨wo, rfl⟩ : ∃ wo : World, wo = wr := ⟨_, rfl⟩
      go_loop [18, 7] (fun j x => ∃ n : Nat, n ≤ 8 ∧ j = .int .i64 n ∧ x = .int .u64 ((Crc.bitsN P n k : Nat) : Int)) (fun j _ => 8 - (intOf j).toNat)
      case atStart => exact ⟨0, by omega, rfl, rfl⟩
      case round =>
        obtain ⟨n, hn, rfl, rfl⟩ := hrel
        have hs : Crc.bitsN P (n + 1) k = Crc.bit P (Crc.bitsN P n k) := rfl
        have HS := Lib.hid hs
        have HX := Lib.hid (Crc.bitsN_lt HPL.out (Nat.lt_of_lt_of_le hlt (by unfold Num.M64; omega)) n)
        clear hs
        by_cases hnt : n < 8
        · generalize Crc.bitsN P n k = x at *
          go_wp2
          · have h : (bits .and .u64 (x : Int) 1 == 1) = true := by assumption
            exact ⟨⟨n + 1, by omega, by go_num, by rw [HS.out, bit_raw1 HX.out HPL.out h]⟩, by simp [intOf]; omega⟩
          · have h : (bits .and .u64 (x : Int) 1 == 1) = false := by assumption
            exact ⟨⟨n + 1, by omega, by go_num, by rw [HS.out, bit_raw0 HX.out h]⟩, by simp [intOf]; omega⟩
        · have hn8 : n = 8 := by omega
          subst hn8
          go_wp2
          refine ⟨⟨k + 1, fun j => if j = k then tabOf P k else tab j, by omega, by go_num, fun j hj => ?_, ?_, HB.out.setCell (Nat.le_refl _) _⟩, by simp [intOf]; omega⟩
          · by_cases hjk : j = k
            · simp [hjk]
            · simp only [hjk, if_false]; exact HT.out j (by omega)
          · rw [← crcCells_set2 all all (tabOf P k) tab k hlt]
            exact Pts.set HP.out (2 + k) _
    · have hk256 : k = 256 := by omega
      subst hk256
      go_wp2
      go_ret
      exact ⟨rfl, by rw [← crcCells_congr (HT.out)]; exact HP.out, HB.out⟩

theorem crcValue_any (b P n all : Nat) (w : World) (h : CrcAt w b P n all) (hn : n < Num.M64) (ha : all < Num.M64) :
    Calls Try.prog 66 #[.pointer (some ⟨b, 0, none⟩)] w fun e w' => e = .returned (.int .u64 ((n ^^^ all : Nat) : Int)) ∧ ∃ d, w' = w.drewN d := by
  have h0 : w.cell? ⟨b, 0, none⟩ = some (.int .u64 n) := by rw [Pts.cell h, crcCells_0]
  have h1 : w.cell? ⟨b, 1, none⟩ = some (.int .u64 all) := by rw [Pts.cell h, crcCells_1]
  have hx := Lib.hid (Num.xor64 hn ha)
  clear h hn ha
  go_enter Try.func66, Try.ntmps66
  go_wp2
  go_quiet (fail)
  go_wp2
  go_ret
  exact ⟨ret_int hx.out, _, rfl⟩

set_option maxRecDepth 100000 in
set_option maxHeartbeats 1000000 in
theorem crcAdd_off (b P n c B : Nat) (all : Int) (A : Option Addr) (bs : List UInt8) (w : World) (h : CrcAt w b P n all) (hP : P < Num.M64) (hn : n < Num.M64) (hr : BRow w B A bs) (hoff : BOff (· = b) A bs) (hlen : bs.length ≤ 140737488355328) :
    Calls Try.prog 65 #[.pointer (some ⟨b, 0, none⟩), .slice A bs.length c] w fun e w' => e = .returned (.tuple #[]) ∧ CrcAt w' b P (Crc.add P n bs) all ∧ Frm (· = b) w w' := by
  have HPL := Lib.hid hP
  have HN := Lib.hid hn
  have HR := Lib.hid hr
  have HOFF := Lib.hid hoff
  have HC := Lib.hid h
  clear hP hn hr h hoff
  go_enter Try.func65, Try.ntmps65
  go_wp2
  go_loopw [8] (fun i wr => ∃ k : Nat, k ≤ bs.length ∧ i = .int .i64 k ∧ CrcAt wr b P (Crc.add P n (bs.take k)) all ∧ Frm (· = b) w wr) (fun i _ => bs.length - (intOf i).toNat)
  case atStart => exact ⟨0, by omega, rfl, by simpa [Crc.add] using HC.out, Frm.refl _ _⟩
  case round =>
    obtain ⟨k, hk, rfl, hc, hf⟩ := hrel
    by_cases hlt : k < bs.length
    · obtain ⟨ab, aoff, hA, _, hcell⟩ := HR.out (by omega)
      have hab : ab ≠ b := HOFF.out (by omega) _ hA
      subst hA
      have hx : wr.cell? ⟨ab, aoff + k, none⟩ = some (byteV (bs.getD k 0)) := by
        rw [World.cell?_of_block (hf.block ab (World.block_lt_of_cell? w ⟨ab, aoff + k, none⟩ (hcell k hlt)) (by show ¬ _ = _; omega))]
        exact hcell k hlt
      unfold byteV at hx
      have hstep : Crc.add P n (bs.take (k + 1)) = Crc.byByte P (Crc.add P n (bs.take k)) (bs.getD k 0) := by
        unfold Crc.add
        rw [List.take_succ_eq_append_getElem hlt, List.foldl_append]
        simp [List.getD, hlt]
      have HS := Lib.hid hstep
      have HM := Lib.hid (Crc.add_lt HPL.out (bs.take k) n HN.out)
      clear hstep hcell
      generalize Crc.add P n (bs.take k) = m at *
      generalize bs.getD k 0 = u at *
      have hu := u.toNat_lt
      have hj := Num.xor8 (Nat.mod_lt m (show 256 > 0 by omega)) hu
      have hjl := Num.xor_lt8 (Nat.mod_lt m (show 256 > 0 by omega)) hu
      have hw8 : IntKind.u8.wrap (m : Int) = (m : Int) % 256 := by rw [Num.wrap8]; omega
      rw [show ((m % 256 : Nat) : Int) = (m : Int) % 256 by omega] at hj
      obtain ⟨j, hjj⟩ : ∃ j, m % 256 ^^^ u.toNat = j := ⟨_, rfl⟩
      rw [hjj] at hj hjl
      have c0 : wr.cell? ⟨b, 0, none⟩ = some (.int .u64 m) := by rw [Pts.cell hc, crcCells_0]
      have c2 : wr.cell? ⟨b, 2 + j, none⟩ = some (.int .u64 ((Crc.bitsN P 8 j : Nat) : Int)) := by rw [Pts.cell hc, crcCells_2 _ _ _ j hjl]; rfl
      have f0 := Pts.frozen hc 0
      have ht := Crc.bitsN_lt HPL.out (Nat.lt_of_lt_of_le hjl (by unfold Num.M64; omega) : j < Num.M64) 8
      have hxx := Num.xor64 (a := m / 256) (b := Crc.bitsN P 8 j) (by have := HM.out; omega) ht
      rw [show ((m / 256 : Nat) : Int) = (m : Int) / 256 by omega, show (m / 256) ^^^ Crc.bitsN P 8 j = Crc.byByte P m u by unfold Crc.byByte; rw [hjj]] at hxx
      generalize hvv : Crc.byByte P m u = v at *
      have HCC := Lib.hid hc
      have HF := Lib.hid hf
      clear hc hf ht hjj hvv
      generalize Crc.bitsN P 8 j = t at *
      go_wp2
      have hji : (j : Int) < 256 := by omega
      have hji0 : 0 ≤ (j : Int) := by omega
      go_still_tail 21, (by kernel_rfl)
      change wpList _ _ _ _ _ wr.drew
      go_wp2
      refine ⟨⟨k + 1, by omega, by go_num, ?_, HF.out.drew.setCell (by rfl) _⟩, by simp [intOf]; omega⟩
      rw [HS.out]
      have h := Pts.set (Pts.drew HCC.out) 0 (.int .u64 (v : Int))
      rw [crcCells_set0] at h
      exact h
    · have hkk : k = bs.length := by omega
      subst hkk
      go_wp2
      go_end0
      exact ⟨rfl, by simpa using hc, hf⟩
theorem crcAdd_any (b P n c : Nat) (all : Int) (A : Option Addr) (bs : List UInt8) (w : World) (h : CrcAt w b P n all) (hP : P < Num.M64) (hn : n < Num.M64) (hr : BRow w b A bs) (hlen : bs.length ≤ 140737488355328) :
    Calls Try.prog 65 #[.pointer (some ⟨b, 0, none⟩), .slice A bs.length c] w fun e w' => e = .returned (.tuple #[]) ∧ CrcAt w' b P (Crc.add P n bs) all ∧ Frm (· = b) w w' :=
  crcAdd_off b P n c b all A bs w h hP hn hr (BOff.of_row hr fun k hk => Nat.le_of_eq hk.symm) hlen

end Go.Proofs.Ytjhmebkkdgpneaa
