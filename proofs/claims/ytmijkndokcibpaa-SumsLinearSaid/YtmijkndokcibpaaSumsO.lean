/- The walk of SumsOne. -/
import Derived.Test.YtmijkndokcibpaaSumsK
namespace Go.Proofs.Ytmijkndokcibpaa
open Go.RowKit

theorem mod_idx (x : Int) (L : Nat) (h0 : 0 < L) (hL : L ≤ 16384) : ∃ (r : Int) (k : Nat), x.tmod (L : Int) = r ∧ -16385 ≤ r ∧ 0 ≤ r + L ∧ r ≤ 16385 ∧ (r + (L : Int)) % (L : Int) = k ∧ k < L := by
  have a1 := Int.tmod_lt_of_pos x (show (0 : Int) < (L : Int) by omega)
  have a2 := Int.lt_tmod_of_pos x (show (0 : Int) < (L : Int) by omega)
  have h := Int.emod_nonneg (x.tmod (L : Int) + (L : Int)) (show (L : Int) ≠ 0 by omega)
  have h2 := Int.emod_lt_of_pos (x.tmod (L : Int) + (L : Int)) (show (0 : Int) < (L : Int) by omega)
  exact ⟨_, ((x.tmod (L : Int) + (L : Int)) % (L : Int)).toNat, rfl, by omega, by omega, by omega, by omega, by omega⟩

theorem P32_B : P32 < 2 ^ (31 + 1) := by decide
theorem P32_T : P32.testBit 31 = true := by decide
theorem P64_B : P64 < 2 ^ (63 + 1) := by decide
theorem P64_T : P64.testBit 63 = true := by decide
theorem crc32_set (bs : List UInt8) (k : Nat) (hk : k < bs.length) (y : UInt8) (hy : y ≠ bs.getD k 0) : crc32 bs ≠ crc32 (bs.set k y) := fun h =>
  Crc.add_set (by decide) P32_B P32_T (by decide) bs k hk y hy (Crc.xor_cancel h)
theorem crc64_set (bs : List UInt8) (k : Nat) (hk : k < bs.length) (y : UInt8) (hy : y ≠ bs.getD k 0) : crc64 bs ≠ crc64 (bs.set k y) := fun h =>
  Crc.add_set (by decide) P64_B P64_T (by decide) bs k hk y hy (Crc.xor_cancel h)

set_option maxHeartbeats 2000000 in
theorem lawOne02 (A : Option Addr) (n c : Nat) (f : Nat → Int) (at_ b : Int) (w : World)
    (h1 : n ≤ c) (h2 : c ≤ maxLen) (h3 : Opn.RowAt w w.heap.size A n fun i => .int .u8 (f i)) (h4 : ∀ i, i < n → 0 ≤ f i ∧ f i ≤ 255)
    (_ha : -9223372036854775808 ≤ at_ ∧ at_ ≤ 9223372036854775807) (hb : 0 ≤ b ∧ b ≤ 255) :
    Calls Try.prog 7 #[.slice A n c, .int .i64 at_, .int .u8 b] w fun e w' => e = .returned (.bool true) ∧ Below w.heap.size w w' := by
  obtain ⟨bs, rfl, hr⟩ := BRow.of_row h3 h4
  obtain ⟨hb0, hb1⟩ := hb
  have HR := Lib.hid hr
  clear h3 h4 hr h2 _ha
  by_cases g0 : bs.length = 0
  · have hg0 : ((bs.length : Int) == 0) = true := beq_iff_eq.2 (by omega)
    go_enter Try.func7, Try.ntmps7
    go_wp2_with fail
    refine (wakes02 _).mono ?_; rintro e w1 ⟨rfl, h1⟩
    go_wp2
    go_ret
    exact ⟨rfl, h1⟩
  have hg0 : ((bs.length : Int) == 0) = false := beq_eq_false_iff_ne.2 (by omega)
  by_cases g1 : 16384 < bs.length
  · go_enter Try.func7, Try.ntmps7
    go_wp2_with fail
    refine (wakes02 _).mono ?_; rintro e w1 ⟨rfl, h1⟩
    go_wp2
    go_ret
    exact ⟨rfl, h1⟩
  by_cases g2 : b = 0
  · subst g2
    go_enter Try.func7, Try.ntmps7
    go_wp2_with fail
    refine (wakes02 _).mono ?_; rintro e w1 ⟨rfl, h1⟩
    go_wp2
    go_ret
    exact ⟨rfl, h1⟩
  have hg2 : (b == 0) = false := by simp; exact g2
  obtain ⟨u, rfl⟩ : ∃ u : UInt8, b = (u.toNat : Int) := ⟨UInt8.ofNat b.toNat, by rw [UInt8.toNat_ofNat']; omega⟩
  have hu : u ≠ 0 := fun h => g2 (by rw [h]; rfl)
  have HU := Lib.hid hu
  have hlen : 0 < bs.length ∧ bs.length ≤ 16384 := ⟨by omega, by omega⟩
  obtain ⟨hl0, hl1⟩ := hlen
  obtain ⟨r, k, hr, hr0, hr1, hr2, hk, hkl⟩ := mod_idx at_ bs.length hl0 hl1
  clear g0 g1 g2 hu hb0
  go_enter Try.func7, Try.ntmps7
  go_wp2_with (at_builtin; refine wpList_append_bytes _ rfl (.tmp 21) (.tmp 22) 22 rfl 5 w.heap.size Try.underlying22 Try.info_u8 (.slice (some ⟨w.heap.size, 0, none⟩) 0 0) [] rfl ?own A bs.length c w.heap.size bs rfl rfl ?row ?len ?base ?k)
  case own => exact OwnB.made _ _ _ (Nat.le_refl _)
  case row => exact HR.out.below ((Below.refl _ _).alloc (Nat.le_refl _) _)
  case len => simp; omega
  case base => simp
  case k =>
    intro v w1 hown hfrm hnew
    have hown' : OwnB w1 5 w.heap.size v bs := hown
    rcases hown'.form with ⟨_, he⟩ | ⟨g, cap, cur, rfl, hgb, hgp, hcap, hcapm, hcs, hcells⟩
    · rw [he] at hl0; simp at hl0
    have hb1' : Below w.heap.size w w1 := ((Below.refl _ _).alloc (Nat.le_refl _) _).trans (hfrm.below (by simp) (by intro k hk; simp [Value.ownBlock] at hk; omega))
    have hx : w1.cell? ⟨g, k, none⟩ = some (.int .u8 ((bs.getD k 0).toNat : Int)) := by rw [hgp.cell]; exact hcells k hkl
    have hfz := hgp.frozen k
    have hxx : bits .xor .u8 ((bs.getD k 0).toNat : Int) (u.toNat : Int) = ((bs.getD k 0 ^^^ u).toNat : Int) := by
      rw [Num.xor8 (bs.getD k 0).toNat_lt u.toNat_lt, UInt8.toNat_xor]
    have hset := hown'.set k hkl (bs.getD k 0 ^^^ u)
    have hne : bs.getD k 0 ^^^ u ≠ bs.getD k 0 := by
      intro h
      have h2 := congrArg UInt8.toNat h
      rw [UInt8.toNat_xor] at h2
      have h3 : u.toNat ^^^ (bs.getD k 0).toNat = 0 ^^^ (bs.getD k 0).toNat := by rw [Nat.zero_xor, Nat.xor_comm]; exact h2
      exact HU.out (UInt8.toNat_inj.1 (Crc.xor_cancel h3))
    have hq32 : ((crc32 bs : Int) != (crc32 (bs.set k (bs.getD k 0 ^^^ u)) : Int)) = true := by
      have := crc32_set bs k hkl _ hne
      rw [bne_iff_ne]; omega
    have hq64 : ((crc64 bs : Int) != (crc64 (bs.set k (bs.getD k 0 ^^^ u)) : Int)) = true := by
      have := crc64_set bs k hkl _ hne
      rw [bne_iff_ne]; omega
    have hrow := (OwnB.slice hset)
    have hl2 : (bs.set k (bs.getD k 0 ^^^ u)).length = bs.length := List.length_set
    generalize hbs2 : bs.set k (bs.getD k 0 ^^^ u) = bs2 at *
    generalize (bs.getD k 0 ^^^ u) = y at *
    generalize bs.getD k 0 = x at *
    have HSET := Lib.hid hset
    have HB1 := Lib.hid hb1'
    have HL2 := Lib.hid hl2
    have HGB := Lib.hid hgb
    clear hown hown' hfrm hnew hgp hcells hset hb1' hne hrow hl2 hbs2 hcs hgb
    go_wp2_with fail
    have hw2 : Below w.heap.size w (w1.setCell ⟨g, k, none⟩ (.int .u8 (y.toNat : Int))) := HB1.out.setCell HGB.out _
    have HSET2 : Hid (OwnB (w1.setCell ⟨g, k, none⟩ (.int .u8 (y.toNat : Int))) 5 w.heap.size (.slice (some ⟨g, 0, none⟩) bs.length cap) bs2) := HSET
    generalize w1.setCell ⟨g, k, none⟩ (.int .u8 (y.toNat : Int)) = w2 at *
    have HB2 := Lib.hid hw2
    have hrow2 : BRow w2 w2.heap.size (some ⟨g, 0, none⟩) bs2 := by
      obtain ⟨A2, c2, e, _, _, hr2⟩ := HSET2.out.slice
      injection e with e1 e2 e3
      rw [e1]; exact hr2
    have HR2 := Lib.hid hrow2
    clear hw2 hrow2 HSET
    refine (crc32_any _ bs _ _ _ rfl ((HR.out.below HB2.out).more HB2.out.size) (by omega)).mono ?_; rintro e w3 ⟨rfl, b3⟩
    have B3 := Lib.hid (HB2.out.trans (b3.mono HB2.out.size))
    have R3 := Lib.hid ((HR2.out.below b3).more b3.size)
    clear b3
    go_wp2_with fail
    refine (crc32_any _ bs2 _ _ _ HL2.out.symm R3.out (by rw [HL2.out]; omega)).mono ?_; rintro e w4 ⟨rfl, b4⟩
    have B4 := Lib.hid (B3.out.trans (b4.mono B3.out.size))
    have R4 := Lib.hid ((R3.out.below b4).more b4.size)
    clear b4
    go_wp2_with fail
    refine (crc64_any _ bs _ _ _ rfl ((HR.out.below B4.out).more B4.out.size) (by omega)).mono ?_; rintro e w5 ⟨rfl, b5⟩
    have B5 := Lib.hid (B4.out.trans (b5.mono B4.out.size))
    have R5 := Lib.hid ((R4.out.below b5).more b5.size)
    clear b5
    go_wp2_with fail
    refine (crc64_any _ bs2 _ _ _ HL2.out.symm R5.out (by rw [HL2.out]; omega)).mono ?_; rintro e w6 ⟨rfl, b6⟩
    have B6 := Lib.hid (B5.out.trans (b6.mono B5.out.size))
    clear b6
    go_wp2_with fail
    refine (wakes02 _).mono ?_; rintro e w7 ⟨rfl, b7⟩
    go_wp2
    go_ret
    exact ⟨rfl, B6.out.trans (b7.mono B6.out.size)⟩
end Go.Proofs.Ytmijkndokcibpaa
