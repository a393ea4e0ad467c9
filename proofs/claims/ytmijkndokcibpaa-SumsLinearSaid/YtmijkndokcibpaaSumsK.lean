/- The walk of SumsCut. -/
import Derived.Test.YtmijkndokcibpaaSumsT
namespace Go.Proofs.Ytmijkndokcibpaa
open Go.RowKit

theorem cut_idx (x : Int) (L : Nat) (hL : L ≤ 16384) : ∃ (r : Int) (k : Nat), x.tmod ((L : Int) + 1) = r ∧ -16385 ≤ r ∧ 0 ≤ r + L ∧ r ≤ 16385 ∧ (r + (L : Int) + 1) % ((L : Int) + 1) = k ∧ k ≤ L := by
  have a1 := Int.tmod_lt_of_pos x (show (0 : Int) < (L : Int) + 1 by omega)
  have a2 := Int.lt_tmod_of_pos x (show (0 : Int) < (L : Int) + 1 by omega)
  refine ⟨_, ((x.tmod ((L : Int) + 1) + (L : Int) + 1) % ((L : Int) + 1)).toNat, rfl, by omega, by omega, by omega, ?_, ?_⟩
  · have h := Int.emod_nonneg (x.tmod ((L : Int) + 1) + (L : Int) + 1) (show ((L : Int) + 1) ≠ 0 by omega)
    omega
  · have h := Int.emod_nonneg (x.tmod ((L : Int) + 1) + (L : Int) + 1) (show ((L : Int) + 1) ≠ 0 by omega)
    have h2 := Int.emod_lt_of_pos (x.tmod ((L : Int) + 1) + (L : Int) + 1) (show (0 : Int) < (L : Int) + 1 by omega)
    omega

set_option maxHeartbeats 2000000 in
theorem cut_any (kind : Int) (A D : Option Addr) (bs : List UInt8) (c m cd : Nat) (f : Nat → Int) (w : World) (hc : bs.length ≤ c) (hcm : c ≤ maxLen) (hr : BRow w w.heap.size A bs) (hl : bs.length ≤ 16384)
    (hd : Opn.RowAt w w.heap.size D m fun i => .int .i64 (f i)) (hm : m ≤ 200) :
    Calls Try.prog 20 #[.int .i64 kind, .slice A bs.length c, .slice D m cd] w fun e w' => e = .returned (.int .u64 (sumOf kind bs)) ∧ Below w.heap.size w w' := by
  have HR := Lib.hid hr
  have HD := Lib.hid hd
  unfold maxLen at hcm
  clear hr hd
  go_enter Try.func20, Try.ntmps20
  go_wp2_with fail
  refine (new_any _ _).mono ?_; rintro e w1 ⟨s, own, rfl, h1, h2, h3⟩
  have H1 := Lib.hid h1
  have H2 := Lib.hid h2
  have H3 := Lib.hid h3
  clear h1 h2 h3
  go_wp2_with fail
  go_loopw [1, 8] (fun lv iv wr => ∃ (i cq : Nat) (Aq : Option Addr) (q dn : List UInt8) (own : Nat → Prop), i ≤ m ∧ iv = .int .i64 i ∧ lv = .slice Aq q.length cq ∧ dn ++ q = bs ∧ q.length ≤ cq ∧ cq ≤ 9223372036854775807 ∧ BRow w w.heap.size Aq q ∧ SumAt wr s own kind dn ∧ (∀ k, own k → w.heap.size ≤ k) ∧ Below w.heap.size w wr)
    (fun _ iv _ => m - (intOf iv).toNat)
  case atStart => exact ⟨0, c, A, bs, [], own, by omega, rfl, rfl, rfl, hc, by omega, HR.out, H1.out, H2.out, H3.out⟩
  case round =>
    obtain ⟨i, cq, Aq, q, dn, ow, hi, rfl, rfl, hq, hqc, hcq, hrq, hsum, how, hbel⟩ := hrel
    have hql : q.length ≤ 16384 := by have := congrArg List.length hq; rw [List.length_append] at this; omega
    have hdl : dn.length + q.length ≤ 16384 := by have := congrArg List.length hq; rw [List.length_append] at this; omega
    have HQ := Lib.hid hq
    have HRQ := Lib.hid hrq
    have HS := Lib.hid hsum
    have HO := Lib.hid how
    have HB := Lib.hid hbel
    clear hq hrq hsum how hbel
    by_cases him : i < m
    · obtain ⟨db, doff, hD, hdb, hcell⟩ := HD.out (by omega)
      subst hD
      have hx : wr.cell? ⟨db, doff + i, none⟩ = some (.int .i64 (f i)) := (HB.out.cell (p := ⟨db, doff + i, none⟩) hdb).trans (hcell i him)
      clear hcell
      generalize f i = x at *
      obtain ⟨r, k, hr, hr0, hr1, hr2, hk, hkl⟩ := cut_idx x q.length hql
      have hqk : (q.drop k).length = q.length - k := List.length_drop
      have hqt : (q.take k).length = k := by rw [List.length_take]; omega
      have hdq : (dn ++ q.take k) ++ q.drop k = bs := by rw [List.append_assoc, List.take_append_drop]; exact HQ.out
      have HQK := Lib.hid hqk
      have HQT := Lib.hid hqt
      have HDQ := Lib.hid hdq
      have HRD := Lib.hid (HRQ.out.drop (k := k) (cap := cq) hqc)
      clear hqk hqt hdq
      by_cases hck : cq = k
      · subst hck
        go_wp2_with fail
        refine (add_any s ow kind dn Aq (q.take cq) _ _ w.heap.size _ HS.out HQT.out.symm ((HRQ.out.take cq).below HB.out) HO.out (by rw [HQT.out]; omega)).mono ?_; rintro e w2 ⟨rfl, ow2, s2, o2, f2⟩
        have b2 := f2.below (B := w.heap.size) HB.out.size HO.out
        have S2 := Lib.hid s2
        have O2 := Lib.hid (show ∀ k, ow2 k → w.heap.size ≤ k from fun k hk => (o2 k hk).elim (HO.out k) (fun h => Nat.le_trans HB.out.size h))
        have B2 := Lib.hid (HB.out.trans b2)
        clear s2 o2 f2 b2
        go_wp2
        exact ⟨⟨i + 1, 0, Aq, q.drop cq, dn ++ q.take cq, ow2, by omega, by go_num, by rw [HQK.out, show q.length - cq = 0 by omega], HDQ.out, by rw [HQK.out]; omega, by omega, by simpa using HRD.out, S2.out, O2.out, B2.out⟩, by simp [intOf]; omega⟩
      · go_wp2_with fail
        refine (add_any s ow kind dn Aq (q.take k) _ _ w.heap.size _ HS.out HQT.out.symm ((HRQ.out.take k).below HB.out) HO.out (by rw [HQT.out]; omega)).mono ?_; rintro e w2 ⟨rfl, ow2, s2, o2, f2⟩
        have b2 := f2.below (B := w.heap.size) HB.out.size HO.out
        have S2 := Lib.hid s2
        have O2 := Lib.hid (show ∀ k, ow2 k → w.heap.size ≤ k from fun k hk => (o2 k hk).elim (HO.out k) (fun h => Nat.le_trans HB.out.size h))
        have B2 := Lib.hid (HB.out.trans b2)
        clear s2 o2 f2 b2
        go_wp2
        exact ⟨⟨i + 1, cq - k, Aq.map (·.add k), q.drop k, dn ++ q.take k, ow2, by omega, by go_num, by rw [HQK.out], HDQ.out, by rw [HQK.out]; omega, by omega, by simpa [hck] using HRD.out, S2.out, O2.out, B2.out⟩, by simp [intOf]; omega⟩
    · go_wp2_with fail
      refine (add_any s ow kind dn Aq q _ _ w.heap.size _ HS.out rfl (HRQ.out.below HB.out) HO.out (by omega)).mono ?_; rintro e w2 ⟨rfl, ow2, s2, o2, f2⟩
      have b2 := f2.below (B := w.heap.size) HB.out.size HO.out
      have B2 := Lib.hid (HB.out.trans b2)
      clear o2 f2 b2
      go_wp2_with fail
      refine (value_any s ow2 kind (dn ++ q) _ s2 (by rw [List.length_append]; omega)).mono ?_; rintro e w3 ⟨rfl, d, rfl⟩
      go_wp2
      go_ret
      exact ⟨ret_int (by rw [HQ.out]), below_drewN B2.out d⟩

theorem rowAt_more {w : World} {B B' n : Nat} {A : Option Addr} {f : Nat → Value} (h : Opn.RowAt w B A n f) (hB : B ≤ B') : Opn.RowAt w B' A n f := by
  intro hn
  obtain ⟨b, off, rfl, hlt, hc⟩ := h hn
  exact ⟨b, off, rfl, by omega, hc⟩

set_option maxHeartbeats 4000000 in
theorem lawCut02 (A : Option Addr) (n c : Nat) (f : Nat → Int) (X : Option Addr) (nx cx : Nat) (fx : Nat → Int) (Y : Option Addr) (ny cy : Nat) (fy : Nat → Int) (w : World)
    (h1 : n ≤ c) (h2 : c ≤ maxLen) (h3 : Opn.RowAt w w.heap.size A n fun i => .int .u8 (f i)) (h4 : ∀ i, i < n → 0 ≤ f i ∧ f i ≤ 255)
    (_x1 : nx ≤ cx) (_x2 : cx ≤ maxLen) (x3 : Opn.RowAt w w.heap.size X nx fun i => .int .i64 (fx i)) (_x4 : ∀ i, i < nx → -9223372036854775808 ≤ fx i ∧ fx i ≤ 9223372036854775807)
    (_y1 : ny ≤ cy) (_y2 : cy ≤ maxLen) (y3 : Opn.RowAt w w.heap.size Y ny fun i => .int .i64 (fy i)) (_y4 : ∀ i, i < ny → -9223372036854775808 ≤ fy i ∧ fy i ≤ 9223372036854775807) :
    Calls Try.prog 5 #[.slice A n c, .slice X nx cx, .slice Y ny cy] w fun e w' => e = .returned (.bool true) ∧ Below w.heap.size w w' := by
  obtain ⟨bs, rfl, hr⟩ := BRow.of_row h3 h4
  have HR := Lib.hid hr
  have HM := Lib.hid h2
  have HX := Lib.hid x3
  have HY := Lib.hid y3
  unfold maxLen at _x2 _y2
  clear h3 h4 hr h2 _x4 _y4 x3 y3
  by_cases hg : 16384 < bs.length ∨ 200 < nx ∨ 200 < ny
  · by_cases g1 : 16384 < bs.length
    · go_enter Try.func5, Try.ntmps5
      go_wp2_with fail
      refine (wakes02 _).mono ?_; rintro e w1 ⟨rfl, h1⟩
      go_wp2
      go_ret
      exact ⟨rfl, h1⟩
    · by_cases g2 : 200 < nx
      · go_enter Try.func5, Try.ntmps5
        go_wp2_with fail
        refine (wakes02 _).mono ?_; rintro e w1 ⟨rfl, h1⟩
        go_wp2
        go_ret
        exact ⟨rfl, h1⟩
      · have g3 : 200 < ny := by omega
        go_enter Try.func5, Try.ntmps5
        go_wp2_with fail
        refine (wakes02 _).mono ?_; rintro e w1 ⟨rfl, h1⟩
        go_wp2
        go_ret
        exact ⟨rfl, h1⟩
  · have g1 : bs.length ≤ 16384 := by omega
    have g2 : nx ≤ 200 := by omega
    have g3 : ny ≤ 200 := by omega
    clear hg
    go_enter Try.func5, Try.ntmps5
    go_wp2_with fail
    go_loopw [7] (fun kv wr => ∃ k : Nat, k ≤ 5 ∧ kv = .int .i64 k ∧ Below w.heap.size w wr) (fun kv _ => 5 - (intOf kv).toNat)
    case atStart => exact ⟨0, by omega, rfl, Below.refl _ _⟩
    case round =>
      obtain ⟨k, hk, rfl, hb⟩ := hrel
      have HB := Lib.hid hb
      clear hb
      by_cases hk5 : k < 5
      · go_wp2_with fail
        refine (cut_any _ _ X bs _ _ _ fx _ h1 HM.out ((HR.out.below HB.out).more HB.out.size) g1 (rowAt_more (HX.out.below HB.out) HB.out.size) g2).mono ?_; rintro e w1 ⟨rfl, b1⟩
        have B1 := Lib.hid (HB.out.trans (b1.mono HB.out.size))
        clear b1
        go_wp2_with fail
        refine (cut_any _ _ Y bs _ _ _ fy _ h1 HM.out ((HR.out.below B1.out).more B1.out.size) g1 (rowAt_more (HY.out.below B1.out) B1.out.size) g3).mono ?_; rintro e w2 ⟨rfl, b2⟩
        have B2 := Lib.hid (B1.out.trans (b2.mono B1.out.size))
        clear b2
        rcases (show k = 0 ∨ k = 1 ∨ k = 2 ∨ k = 3 ∨ k = 4 by omega) with rfl | rfl | rfl | rfl | rfl
        · rw [show ((0 : Nat) : Int) = 0 from rfl, show sumOf 0 bs = 0 by rfl]
          go_wp2
          exact ⟨⟨1, by omega, by go_num, B2.out⟩, by simp [intOf]⟩
        · have hcm := c32_lt32 bs
          have hce : IntKind.u64.wrap (crc32 bs : Int) = (crc32 bs : Int) := by rw [Num.wrap64u, Nat.mod_eq_of_lt (Nat.lt_of_lt_of_le hcm (by decide))]
          rw [show ((1 : Nat) : Int) = 1 from rfl, show sumOf 1 bs = (crc32 bs : Int) from sumOf_1 bs]
          clear hcm
          go_wp2_with fail
          refine (crc32_any _ bs _ _ _ rfl ((HR.out.below B2.out).more B2.out.size) (by omega)).mono ?_; rintro e w3 ⟨rfl, b3⟩
          have B3 := Lib.hid (B2.out.trans (b3.mono B2.out.size))
          clear b3
          go_wp2
          exact ⟨⟨2, by omega, by go_num, B3.out⟩, by simp [intOf]⟩
        · rw [show ((2 : Nat) : Int) = 2 from rfl, show sumOf 2 bs = (crc64 bs : Int) from sumOf_2 bs]
          go_wp2_with fail
          refine (crc64_any _ bs _ _ _ rfl ((HR.out.below B2.out).more B2.out.size) (by omega)).mono ?_; rintro e w3 ⟨rfl, b3⟩
          have B3 := Lib.hid (B2.out.trans (b3.mono B2.out.size))
          clear b3
          go_wp2
          exact ⟨⟨3, by omega, by go_num, B3.out⟩, by simp [intOf]⟩
        · rw [show ((3 : Nat) : Int) = 3 from rfl, sumOf_3 bs]
          go_wp2_with fail
          refine (xxh64_any _ bs _ _ _ rfl ((HR.out.below B2.out).more B2.out.size) (by omega)).mono ?_; rintro e w3 ⟨rfl, b3⟩
          have B3 := Lib.hid (B2.out.trans (b3.mono B2.out.size))
          clear b3
          go_wp2
          exact ⟨⟨4, by omega, by go_num, B3.out⟩, by simp [intOf]⟩
        · rw [show ((4 : Nat) : Int) = 4 from rfl, show sumOf 4 bs = 0 by rfl]
          go_wp2
          exact ⟨⟨5, by omega, by go_num, B2.out⟩, by simp [intOf]⟩
      · go_wp2_with fail
        refine (wakes02 _).mono ?_; rintro e w1 ⟨rfl, b1⟩
        go_wp2
        go_ret
        exact ⟨rfl, HB.out.trans (b1.mono HB.out.size)⟩
end Go.Proofs.Ytmijkndokcibpaa
