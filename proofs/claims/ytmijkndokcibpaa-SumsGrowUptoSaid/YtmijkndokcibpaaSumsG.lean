/- The walk of SumsGrow. -/
import Derived.Test.YtmijkndokcibpaaSumsW
import Derived.Test.YtmijkndokcibpaaRowsOpen
namespace Go.Proofs.Ytmijkndokcibpaa
open Go.RowKit

/-- The bytes of the first k rows, and how many they are. -/
def rowsCat (R : Nat → ByteRow) : Nat → List UInt8
  | 0 => []
  | k + 1 => rowsCat R k ++ (R k).bs
theorem rowsCat_succ (R : Nat → ByteRow) (k : Nat) : rowsCat R (k + 1) = rowsCat R k ++ (R k).bs := rfl
theorem rowsCat_len_succ (R : Nat → ByteRow) (k : Nat) : (rowsCat R (k + 1)).length = (rowsCat R k).length + (R k).bs.length := by rw [rowsCat_succ, List.length_append]
theorem rowsCat_mono (R : Nat → ByteRow) {k m : Nat} (h : k ≤ m) : (rowsCat R k).length ≤ (rowsCat R m).length := by
  induction m with
  | zero => obtain rfl : k = 0 := by omega
            exact Nat.le_refl _
  | succ m ih =>
    by_cases hk : k ≤ m
    · have := ih hk; rw [rowsCat_len_succ]; omega
    · obtain rfl : k = m + 1 := by omega
      exact Nat.le_refl _

theorem SumAt.frm {w w' : World} {s : Nat} {own : Nat → Prop} {kind : Int} {all : List UInt8} {S : Nat → Prop} (h : SumAt w s own kind all) (hf : Frm S w w') (hn : ∀ k, own k → ¬ S k) : SumAt w' s own kind all := by
  cases h with
  | crc32 c hk hs hc ho hne => exact .crc32 c hk (hs.frm hf (hn _ ((ho _).2 (.inl rfl)))) (Pts.frm hc hf (hn _ ((ho _).2 (.inr rfl)))) ho hne
  | crc64 c hk hs hc ho hne => exact .crc64 c hk (hs.frm hf (hn _ ((ho _).2 (.inl rfl)))) (Pts.frm hc hf (hn _ ((ho _).2 (.inr rfl)))) ho hne
  | xxh64 c v hk hs hc ho hne =>
    exact .xxh64 c v hk (hs.frm hf (hn _ ((ho _).2 (.inl rfl)))) ⟨hc.1.frm hf (hn _ ((ho _).2 (.inr (.inl rfl)))), hc.2.frm hf fun k hk => hn _ ((ho _).2 (.inr (.inr hk)))⟩ ho hne
  | none hk hs ho => exact .none hk (hs.frm hf (hn _ ((ho _).2 rfl))) ho
theorem SumAt.lt {w : World} {s : Nat} {own : Nat → Prop} {kind : Int} {all : List UInt8} (h : SumAt w s own kind all) : ∀ k, own k → k < w.heap.size := by
  intro k hk
  cases h with
  | crc32 c _ hs hc ho hne => rcases (ho k).1 hk with rfl | rfl; exact hs.lt; exact Pts.lt hc
  | crc64 c _ hs hc ho hne => rcases (ho k).1 hk with rfl | rfl; exact hs.lt; exact Pts.lt hc
  | xxh64 c v _ hs hc ho hne =>
    rcases (ho k).1 hk with rfl | rfl | h1
    · exact hs.lt
    · exact hc.1.lt
    · exact (hc.2.lt h1).2
  | none _ hs ho => rw [(ho k).1 hk]; exact hs.lt

set_option maxHeartbeats 4000000 in
theorem lawGrow02 (kind : Int) (A : Option Addr) (n c : Nat) (R : Nat → ByteRow) (w : World) (_hk : -9223372036854775808 ≤ kind ∧ kind ≤ 9223372036854775807) (h1 : n ≤ c) (h2 : c ≤ maxLen) (h3 : Opn.RowAt w w.heap.size A n fun i => (R i).v)
    (h4 : ∀ i, i < n → (R i).bs.length ≤ (R i).cap ∧ (R i).cap ≤ maxLen ∧ BRow w w.heap.size (R i).A (R i).bs) (h5 : ∀ i, i < n → (R i).bs.length ≤ 1048576) :
    Calls Try.prog 4 #[.int .i64 kind, .slice A n c] w fun e w' => e = .returned (.bool true) ∧ Below w.heap.size w w' := by
  have HR := Lib.hid h3
  have H4 := Lib.hid h4
  have H5 := Lib.hid h5
  unfold maxLen at h2
  clear h3 h4 h5 _hk
  go_enter Try.func4, Try.ntmps4
  go_wp2_with fail
  go_loopw [5, 6] (fun nv iv wr => ∃ k : Nat, k ≤ n ∧ k ≤ 61 ∧ nv = .int .i64 ((rowsCat R k).length : Nat) ∧ iv = .int .i64 k ∧ (rowsCat R k).length ≤ k * 1048576 ∧ w = wr) (fun _ iv _ => 61 - (intOf iv).toNat)
  case atStart => exact ⟨0, by omega, by omega, rfl, rfl, by simp [rowsCat], rfl⟩
  case round =>
    obtain ⟨k, hk, hk2, rfl, rfl, hle, rfl⟩ := hrel
    by_cases hgo : k < n ∧ k ≤ 60
    · obtain ⟨hkn, hk60⟩ := hgo
      obtain ⟨b, off, hA, hb, hc⟩ := HR.out (by omega)
      subst hA
      have hx : w.cell? ⟨b, off + k, none⟩ = some (.slice (R k).A (R k).bs.length (R k).cap) := hc k hkn
      clear hc
      have h5 := H5.out k hkn
      have HS := Lib.hid (rowsCat_len_succ R k)
      generalize (rowsCat R k).length = m at *
      generalize R k = r at *
      have hm : m ≤ 63963136 := by omega
      go_wp2
      exact ⟨⟨k + 1, by omega, by omega, by rw [HS.out]; go_num, by go_num, by rw [HS.out]; omega, by first | rfl | trivial⟩, by simp [intOf]; omega⟩
    · by_cases hn60 : 60 < n
      · have hkk : ¬ k ≤ 60 := by omega
        by_cases hkn : k < n
        · go_wp2_with fail
          refine (wakes02 _).mono ?_; rintro e w1 ⟨rfl, h1⟩
          go_wp2
          go_ret
          exact ⟨rfl, h1⟩
        · go_wp2_with fail
          refine (wakes02 _).mono ?_; rintro e w1 ⟨rfl, h1⟩
          go_wp2
          go_ret
          exact ⟨rfl, h1⟩
      · have hkk : k = n := by omega
        subst hkk
        by_cases htot : 16384 < (rowsCat R k).length
        · go_wp2_with fail
          refine (wakes02 _).mono ?_; rintro e w1 ⟨rfl, h1⟩
          go_wp2
          go_ret
          exact ⟨rfl, h1⟩
        · have HT := Lib.hid htot
          clear hle
          go_wp2_with fail
          refine (new_any _ _).mono ?_; rintro e w1 ⟨s, own, rfl, h1, h2, h3⟩
          have H1 := Lib.hid h1
          have H2 := Lib.hid h2
          have H3 := Lib.hid h3
          clear h1 h2 h3 htot
          go_wp2_with fail
          go_loopw [8, 9] (fun av iv wr => ∃ (j : Nat) (own : Nat → Prop), j ≤ k ∧ iv = .int .i64 j ∧ OwnB wr 5 w.heap.size av (rowsCat R j) ∧ SumAt wr s own kind (rowsCat R j) ∧ (∀ q, own q → w.heap.size ≤ q) ∧ (∀ q, av.ownBlock = some q → ¬ own q) ∧ Below w.heap.size w wr)
            (fun _ iv _ => k - (intOf iv).toNat)
          case atStart => exact ⟨0, own, by omega, rfl, OwnB.nil _ _ _, H1.out, H2.out, (fun q hq => by simp [Value.ownBlock] at hq), H3.out⟩
          case round =>
            obtain ⟨j, ow, hj, rfl, hown, hsum, how, hdis, hbel⟩ := hrel
            obtain ⟨Aa, ca, rfl, hca, hcm, hra⟩ := hown.slice
            have hlen : (rowsCat R j).length ≤ 16384 := Nat.le_trans (rowsCat_mono R hj) (by have := HT.out; omega)
            have HW := Lib.hid hown
            have HS := Lib.hid hsum
            have HO := Lib.hid how
            have HD := Lib.hid hdis
            have HB := Lib.hid hbel
            have HRA := Lib.hid hra
            have HCA := Lib.hid hca
            have HCM := Lib.hid hcm
            clear hown hsum how hdis hbel hra hca hcm
            by_cases hjk : j < k
            · obtain ⟨b, off, hA, hb, hc⟩ := HR.out (by omega)
              subst hA
              obtain ⟨h6, h7, h8⟩ := H4.out j hjk
              have hsl := Nat.le_trans (rowsCat_mono R (show j + 1 ≤ k from hjk)) (show (rowsCat R k).length ≤ 16384 by have := HT.out; omega)
              rw [rowsCat_len_succ] at hsl
              have HN := Lib.hid (rowsCat_succ R j)
              have hxw : w.cell? ⟨b, off + j, none⟩ = some (.slice (R j).A (R j).bs.length (R j).cap) := hc j hjk
              have HX := Lib.hid hxw
              have H8 := Lib.hid h8
              clear hc hxw h8
              generalize R j = r at *
              generalize rowsCat R j = all at *
              go_wp2_with fail
              refine (value_any s ow kind _ _ HS.out (by omega)).mono ?_; rintro e w3 ⟨rfl, d, rfl⟩
              go_wp2_with fail
              refine (rof_any kind Aa all _ ca _ rfl HCA.out HCM.out (HRA.out.drewN d) (by omega)).mono ?_; rintro e w3 ⟨rfl, b3⟩
              have b3' := (below_drewN (Below.refl wr.heap.size wr) d).trans b3
              have B3 := Lib.hid (HB.out.trans (b3'.mono HB.out.size))
              have F3 := Lib.hid b3'
              clear b3 b3'
              have hx3 : (w3.alloc (.cells #[] 5)).cell? ⟨b, off + j, none⟩ = some (.slice r.A r.bs.length r.cap) := (((B3.out.alloc B3.out.size _).cell (p := ⟨b, off + j, none⟩) hb)).trans HX.out
              have LT := Lib.hid (HS.out.lt)
              have Z3 := Lib.hid F3.out.size
              have hw4 := OwnB.made w3 5 w3.heap.size (Nat.le_refl _)
              have HM4 := Lib.hid hw4
              clear hw4
              go_wp2_with (at_builtin; refine wpList_append_bytes _ rfl (.tmp 51) (.tmp 55) 22 rfl 5 w3.heap.size Try.underlying22 Try.info_u8 (.slice (some ⟨w3.heap.size, 0, none⟩) 0 0) [] rfl ?own4 r.A r.bs.length r.cap w.heap.size r.bs rfl rfl ?row4 ?len4 ?base4 ?next4)
              case own4 => exact HM4.out
              case row4 => exact H8.out.below (B3.out.alloc B3.out.size _)
              case len4 => simp; omega
              case base4 => simp
              case next4 =>
                intro v4 w4 hown4 hfrm4 hnew4
                obtain ⟨A4, c4, rfl, hc4, hm4, hr4⟩ := hown4.slice
                have f4 : Frm (fun q => q = w3.heap.size) w3 w4 := ((Frm.refl _ _).alloc _).trans (hfrm4.mono (by intro k _ hk; simp [Value.ownBlock] at hk; exact hk.symm))
                have g4 : ∀ q, (Value.slice A4 r.bs.length c4).ownBlock = some q → w3.heap.size ≤ q ∧ q < w4.heap.size := fun q hq => hown4.lt hq
                have F4 := Lib.hid f4
                have G4 := Lib.hid g4
                have W4 := Lib.hid hown4
                have R4 := Lib.hid hr4
                have C4 := Lib.hid hc4
                have M4 := Lib.hid hm4
                have S4 := Lib.hid (HS.out.frm ((Frm.of_below F3.out).trans f4) (S := fun q => q = w3.heap.size) (fun q hq e => by have := LT.out q hq; have := Z3.out; omega))
                have A4' := Lib.hid (HW.out.frm ((Frm.of_below F3.out).trans f4) (S := fun q => q = w3.heap.size) (fun q hq e => by have := (HW.out.lt hq).2; have := Z3.out; omega))
                have B4 := Lib.hid (B3.out.trans (f4.below (B := w.heap.size) B3.out.size (by intro q hq; have := B3.out.size; omega)))
                clear hown4 hfrm4 hnew4 hr4 hc4 hm4 f4 g4
                go_wp2_with fail
                refine (add_off s ow kind all A4 r.bs _ _ w4.heap.size _ S4.out rfl R4.out (fun _ ad e hq => by have h1 := (G4.out ad.block (by rw [e]; rfl)).1; have := LT.out _ hq; have := Z3.out; omega) (by omega)).mono ?_; rintro e w5 ⟨rfl, ow5, s5, o5, f5⟩
                have S5 := Lib.hid s5
                have O5 := Lib.hid o5
                have F5 := Lib.hid f5
                have W5 := Lib.hid (W4.out.frm f5 (fun q hq e => by have h1 := (G4.out q hq).1; have := LT.out _ e; have := Z3.out; omega))
                have A5 := Lib.hid (A4'.out.frm f5 (fun q hq e => HD.out q hq e))
                have B5 := Lib.hid (B4.out.trans (f5.below (B := w.heap.size) B4.out.size (fun q hq => HO.out q hq)))
                have L5 := Lib.hid (show ∀ q, ow5 q → ow q ∨ w4.heap.size ≤ q from o5)
                clear s5 o5 f5
                go_wp2
                go_loopw [11] (fun iv wr => ∃ (t : Nat) (ms : List UInt8), t ≤ r.bs.length ∧ iv = .int .i64 t ∧ ms.length = r.bs.length ∧ OwnB wr 5 w3.heap.size (.slice A4 r.bs.length c4) ms ∧ Frm (fun q => (Value.slice A4 r.bs.length c4).ownBlock = some q) w5 wr)
                  (fun iv _ => r.bs.length - (intOf iv).toNat)
                case atStart => exact ⟨0, r.bs, by omega, rfl, rfl, W5.out, Frm.refl _ _⟩
                case round =>
                  obtain ⟨t, ms, ht, rfl, hms, hmo, hmf⟩ := hrel
                  by_cases htl : t < r.bs.length
                  · rcases hmo.form with ⟨_, hnil⟩ | ⟨g, cap, cur, hv, hbg, hp, hn1, hn2, hcs, hcc⟩
                    · rw [hnil] at hms
                      have h0 : r.bs.length = 0 := hms.symm
                      omega
                    · injection hv with e1 e2 e3
                      subst e1; subst e3
                      have kg : wr.cell? ⟨g, t, none⟩ = some (.int .u8 ((ms.getD t 0).toNat : Int)) := by rw [hp.cell, hcc t (by omega)]; rfl
                      have fg := hp.frozen t
                      have hmo' := hmo.set t (by omega) (255 ^^^ ms.getD t 0)
                      have hu := (ms.getD t 0).toNat_lt
                      have hmf' : Frm (fun q => (Value.slice (some ⟨g, 0, none⟩) r.bs.length c4).ownBlock = some q) w5 (wr.setCell ⟨g, t, none⟩ (byteV (255 ^^^ ms.getD t 0))) := hmf.setCell (by rfl) _
                      have hby : byteV (255 ^^^ ms.getD t 0) = .int .u8 (bits .xor .u8 (if IntKind.u8.signed = true then -1 else IntKind.u8.max) ((ms.getD t 0).toNat : Int)) := by
                        have h := Num.xor8 (a := 255) (b := (ms.getD t 0).toNat) (by omega) hu
                        unfold byteV
                        rw [UInt8.toNat_xor]
                        congr 1
                        exact h.symm
                      rw [hby] at hmo' hmf'
                      have HMO := Lib.hid hmo'
                      have HMF := Lib.hid hmf'
                      have HMS := Lib.hid hms
                      clear hmo' hmf' hby hcc hmo hmf e2 hms hn1 hcs
                      generalize (ms.getD t 0).toNat = y at *
                      go_wp2
                      exact ⟨⟨t + 1, _, htl, by go_num, by rw [List.length_set]; exact HMS.out, HMO.out, HMF.out⟩, by simp [intOf]; omega⟩
                  · have htt : t = r.bs.length := by omega
                    have hx6 : wr.cell? ⟨b, off + j, none⟩ = some (.slice r.A r.bs.length r.cap) := by
                      have e1 := (B5.out.cell (p := ⟨b, off + j, none⟩) hb).trans HX.out
                      exact (World.cell?_of_block (hmf.block b (Nat.lt_of_lt_of_le hb B5.out.size) (fun e => by have := (G4.out b e).1; have := B3.out.size; omega))).trans e1
                    have A6 := Lib.hid (A5.out.frm hmf (fun q hq e => by have := (G4.out q e).1; have := (HW.out.lt hq).2; have := Z3.out; omega))
                    have S6 := Lib.hid (S5.out.frm hmf (fun q hq e => by have h1 := G4.out q e; rcases L5.out q hq with h | h; (have := LT.out q h; have := Z3.out; omega); omega))
                    have B6 := Lib.hid (B5.out.trans (hmf.below (B := w.heap.size) B5.out.size (fun q hq => by have := (G4.out q hq).1; have := B3.out.size; omega)))
                    have Z6 := Lib.hid hmf.size
                    clear hmo hmf
                    go_wp2_with (at_builtin; refine wpList_append_bytes _ rfl (.tmp 74) (.tmp 78) 22 rfl 5 w.heap.size Try.underlying22 Try.info_u8 (.slice Aa all.length ca) all rfl ?own6 r.A r.bs.length r.cap w.heap.size r.bs rfl rfl ?row6 ?len6 ?base6 ?next6)
                    case own6 => exact A6.out
                    case row6 => exact H8.out.below B6.out
                    case len6 => omega
                    case base6 => exact B6.out.size
                    case next6 =>
                      intro v7 w7 hown7 hfrm7 hnew7
                      have H7 := Lib.hid hown7
                      have F7 := Lib.hid hfrm7
                      have N7 := Lib.hid hnew7
                      clear hown7 hfrm7 hnew7
                      go_wp2
                      refine ⟨⟨j + 1, ow5, hjk, by go_num, by rw [HN.out]; exact H7.out, ?_, fun q hq => ?_, fun q hq hq2 => ?_, B6.out.trans (F7.out.below (B := w.heap.size) B6.out.size fun q hq => (HW.out.lt hq).1)⟩, by simp [intOf]; omega⟩
                      · rw [HN.out]
                        refine S6.out.frm F7.out (fun q hq e => ?_)
                        rcases L5.out q hq with h | h
                        · exact HD.out q e h
                        · have := (A4'.out.lt e).2
                          omega
                      · rcases L5.out q hq with h | h
                        · exact HO.out q h
                        · have := B4.out.size
                          omega
                      · rcases N7.out with h | h
                        · rw [h] at hq
                          rcases L5.out q hq2 with h | h
                          · exact HD.out q hq h
                          · have := (A4'.out.lt hq).2
                            omega
                        · rw [h] at hq
                          injection hq with hq
                          have := S6.out.lt q hq2
                          omega
            · have hjj : j = k := by omega
              subst hjj
              go_wp2_with fail
              have hgo2 : (rowsCat R j).length ≤ 140737488355328 := by omega
              generalize rowsCat R j = all at *
              refine (value_any s ow kind _ _ HS.out hgo2).mono ?_; rintro e w3 ⟨rfl, d, rfl⟩
              go_wp2_with fail
              refine (rof_any kind Aa all _ ca _ rfl HCA.out HCM.out (HRA.out.drewN d) hgo2).mono ?_; rintro e w4 ⟨rfl, b4⟩
              have b4' := (below_drewN (Below.refl wr.heap.size wr) d).trans b4
              have B4 := Lib.hid (HB.out.trans (b4'.mono HB.out.size))
              have F4 := Lib.hid b4'
              have S4 := Lib.hid (HS.out.frm (Frm.of_below b4' (S := fun _ => False)) (fun _ _ e => e))
              have A4 := Lib.hid (HW.out.frm (Frm.of_below b4' (S := fun _ => False)) (fun _ _ e => e))
              clear b4 b4'
              have hr4 : BRow w4 w4.heap.size Aa all := (HRA.out.below F4.out).more F4.out.size
              have R4 := Lib.hid hr4
              clear hr4
              go_wp2_with fail
              refine (value_any s ow kind _ _ S4.out hgo2).mono ?_; rintro e w5 ⟨rfl, d5, rfl⟩
              go_wp2_with fail
              refine (rof_any kind Aa all _ ca _ rfl HCA.out HCM.out (R4.out.drewN d5) hgo2).mono ?_; rintro e w6 ⟨rfl, b6⟩
              have b6' := (below_drewN B4.out d5).trans (b6.mono B4.out.size)
              have B6 := Lib.hid b6'
              clear b6 b6'
              go_wp2_with fail
              refine (wakes02 _).mono ?_; rintro e w7 ⟨rfl, b7⟩
              go_wp2
              go_ret
              exact ⟨rfl, B6.out.trans (b7.mono B6.out.size)⟩
end Go.Proofs.Ytmijkndokcibpaa
