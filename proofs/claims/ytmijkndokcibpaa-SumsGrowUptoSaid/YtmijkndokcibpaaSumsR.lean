/- The reference's XXH64. -/
import Derived.Test.YtmijkndokcibpaaSumsV
namespace Go.Proofs.Ytmijkndokcibpaa
open Go.RowKit

def lCells (L : Xxh.L4) : Array Value := #[.int .u64 L.a, .int .u64 L.b, .int .u64 L.c, .int .u64 L.d]
theorem lCells_set (L : Xxh.L4) (i : Nat) (x : Int) (hi : i < 4) : (lCells L).setIfInBounds i (.int .u64 x) = lCells (L.set i x) := by
  match i, hi with
  | 0, _ => rfl
  | 1, _ => rfl
  | 2, _ => rfl
  | 3, _ => rfl
theorem lCells_get (L : Xxh.L4) (i : Nat) (hi : i < 4) : (lCells L)[i]? = some (.int .u64 (L.get i)) := by
  match i, hi with
  | 0, _ => rfl
  | 1, _ => rfl
  | 2, _ => rfl
  | 3, _ => rfl

set_option maxRecDepth 100000 in
set_option maxHeartbeats 8000000 in
theorem rxxh_core (A : Option Addr) (all : List UInt8) (c0 n g : Nat) (w : World) (hg : w.heap.size = g) (hn : n = all.length) (hc0 : all.length ≤ c0) (hm0 : c0 ≤ maxLen) (hr : BRow w g A all) (hlen : all.length ≤ 140737488355328) :
    Calls Try.prog 15 #[.slice A n c0] w fun e w' => e = .returned (.int .u64 (Xxh.xxh64 all)) ∧ Below g w w' := by
  subst hn
  unfold maxLen at hm0
  have HR0 := Lib.hid hr
  clear hr
  by_cases h32 : 32 ≤ all.length
  · have hd32 : decide (32 ≤ (all.length : Int)) = true := by simp; omega
    go_enter Try.func15, Try.ntmps15
    go_wp2
    have hp0 : Pts (w.alloc (.cells #[.int .u64 (IntKind.u64.wrap 25430182151971714518), .int .u64 14029467366897019727, .int .u64 0, .int .u64 (IntKind.u64.wrap (-11400714785074694791))] 26)) g (lCells Xxh.start) 26 := by rw [← hg]; exact Pts.new _ _ _
    have hb0 := (Below.refl g w).alloc (by omega) (.cells #[.int .u64 (IntKind.u64.wrap 25430182151971714518), .int .u64 14029467366897019727, .int .u64 0, .int .u64 (IntKind.u64.wrap (-11400714785074694791))] 26)
    generalize hw0 : w.alloc _ = w0 at *
    have HP0 := Lib.hid hp0
    have HB0 := Lib.hid hb0
    clear hp0 hb0 hw0
    go_loopw [0] (fun lv wr => ∃ (k ck : Nat) (Ak : Option Addr) (q : List UInt8), q = all.drop (32 * k) ∧ 32 * k ≤ all.length ∧ lv = .slice Ak q.length ck ∧ q.length ≤ ck ∧ ck ≤ 9223372036854775807 ∧ BRow w g Ak q ∧ Pts wr g (lCells (Xxh.eat k all Xxh.start)) 26 ∧ Below g w wr)
      (fun lv _ => match lv with | .slice _ n _ => n | _ => 0)
    case atStart => exact ⟨0, c0, A, all, rfl, by omega, rfl, hc0, by omega, HR0.out, HP0.out, HB0.out⟩
    case round =>
      obtain ⟨k, ck, Ak, q, hq, hk, rfl, hlc, hck, hrow, hpk, hbk⟩ := hrel
      have HQ := Lib.hid hq
      have HROW := Lib.hid hrow
      have HPK := Lib.hid hpk
      have HBK := Lib.hid hbk
      clear hq hrow hpk hbk
      by_cases hq32 : 32 ≤ q.length
      · have hdq : decide (32 ≤ (q.length : Int)) = true := by simp; omega
        obtain ⟨ab, aoff, hA, hab, hcell⟩ := HROW.out (by omega)
        subst hA
        clear hcell
        go_wp2
        obtain ⟨wo, rfl⟩ : ∃ wo : World, wo = wr := ⟨_, rfl⟩
        go_loopw [7] (fun iv wr => ∃ i : Nat, i ≤ 4 ∧ iv = .int .i64 i ∧ Pts wr g (lCells (Xxh.upd q i (Xxh.eat k all Xxh.start))) 26 ∧ Below g w wr) (fun iv _ => 4 - (intOf iv).toNat)
        case atStart => exact ⟨0, by omega, rfl, HPK.out, HBK.out⟩
        case round =>
          obtain ⟨i, hi, rfl, hpi, hbi⟩ := hrel
          by_cases hi4 : i < 4
          · have hu : Xxh.upd q (i + 1) (Xxh.eat k all Xxh.start) = (Xxh.upd q i (Xxh.eat k all Xxh.start)).set i (Xxh.round ((Xxh.upd q i (Xxh.eat k all Xxh.start)).get i) (Xxh.le ((q.drop (8 * i)).take 8))) := rfl
            have HU := Lib.hid hu
            clear hu
            generalize Xxh.upd q i (Xxh.eat k all Xxh.start) = M at *
            have ci : wr.cell? ⟨g, i, none⟩ = some (.int .u64 (M.get i)) := by rw [hpi.cell, lCells_get _ _ hi4]
            have fi := hpi.frozen i
            have hrow8 : BRow wr g (some ⟨ab, aoff + 8 * i, none⟩) (q.drop (8 * i)) := by
              have h := (HROW.out.below hbi).drop (k := 8 * i) (cap := ck) hlc
              rw [if_neg (by omega)] at h
              simpa [Opn.add_at] using h
            have hl8 : (q.drop (8 * i)).length = q.length - 8 * i := List.length_drop
            have hlit : ∀ n, Calls Try.prog 23 #[.slice (some ⟨ab, aoff + 8 * i, none⟩) (q.length - 8 * i) (ck - 8 * i), .int .i64 8] (wr.drewN n) fun e w' => e = .returned (.int .u64 (Xxh.le ((q.drop (8 * i)).take 8) : Int)) ∧ ∃ d, w' = (wr.drewN n).drewN d := fun n =>
              rread_any _ (q.drop (8 * i)) g _ 8 _ _ _ (hrow8.drewN n) hl8.symm rfl (by omega) (by omega) (by omega)
            have HLIT := Lib.hid hlit
            have HPI := Lib.hid hpi
            have HBI := Lib.hid hbi
            clear hrow8 hl8 hlit hpi hbi
            have hii : (i : Int) < 4 := by omega
            have hi0 : 0 ≤ (i : Int) := by omega
            have a1 : IntKind.i64.wrap (8 * (i : Int)) = 8 * (i : Int) := IntWalk.i64_in _ (by omega)
            have a3 : (8 * (i : Int)).toNat = 8 * i := by omega
            have a5 : 0 ≤ 8 * (i : Int) := by omega
            have a8 : 8 * (i : Int) ≤ (q.length : Int) := by omega
            have a9 : ¬ ck = 8 * i := by omega
            go_wp2
            refine QTail.wp_region_qtail_lit 13 (by kernel_rfl) (by kernel_rfl) ?_
            simp only [List.take_succ_cons, List.take_zero, List.drop_succ_cons, List.drop_zero]
            repeat (go_big_quiet_step (first | (go_at_call 23; exact Calls.quiet_of (HLIT.out _)) | (go_at_call 22; exact Calls.quiet_of (rround_any _ _ _))))
            refine wpQuiet_nil ?_
            rintro w' ⟨nq, rfl⟩
            go_wp2
            refine ⟨⟨i + 1, by omega, by go_num, ?_, (below_drewN HBI.out nq).setCell (Nat.le_refl _) _⟩, by simp [intOf]; omega⟩
            rw [HU.out, ← lCells_set _ _ _ hi4]
            exact Pts.set (HPI.out.drewN nq) i _
          · have hi44 : i = 4 := by omega
            subst hi44
            have HPI := Lib.hid hpi
            have HBI := Lib.hid hbi
            clear hpi hbi HPK HBK
            have hrow' : BRow w g (if ck = 32 then (some ⟨ab, aoff, none⟩) else some ⟨ab, aoff + 32, none⟩) (q.drop 32) := by
              have h := HROW.out.drop (k := 32) (cap := ck) hlc
              rw [Option.map_some, Opn.add_at] at h
              exact h
            have HLD := Lib.hid (List.length_drop : (q.drop 32).length = q.length - 32)
            have HROW' := Lib.hid hrow'
            have hq32' : 32 * (k + 1) ≤ all.length := by
              have h := congrArg List.length HQ.out
              rw [List.length_drop] at h
              omega
            have HQQ := Lib.hid (show q.drop 32 = all.drop (32 * (k + 1)) by rw [HQ.out, List.drop_drop, show 32 * k + 32 = 32 * (k + 1) by omega])
            have HEAT := Lib.hid (show Xxh.upd q 4 (Xxh.eat k all Xxh.start) = Xxh.eat (k + 1) all Xxh.start by rw [Xxh.eat_succ, ← HQ.out])
            clear hrow'
            by_cases hck32 : ck = 32
            · subst hck32
              go_wp2
              exact ⟨⟨k + 1, 0, some ⟨ab, aoff, none⟩, q.drop 32, HQQ.out, hq32', by rw [show (q.drop 32).length = 0 by rw [HLD.out]; omega], by rw [HLD.out]; omega, by omega, by simpa using HROW'.out, by rw [← HEAT.out]; exact HPI.out, HBI.out⟩, by simp; omega⟩
            · go_wp2
              exact ⟨⟨k + 1, ck - 32, some ⟨ab, aoff + 32, none⟩, q.drop 32, HQQ.out, hq32', by rw [HLD.out], by rw [HLD.out]; omega, by omega, by simpa [hck32] using HROW'.out, by rw [← HEAT.out]; exact HPI.out, HBI.out⟩, by simp; omega⟩
      · have hdq : decide (32 ≤ (q.length : Int)) = false := by simp; omega
        have hkk : k = all.length / 32 := by
          have h := congrArg List.length HQ.out
          rw [List.length_drop] at h
          omega
        have hqr : q = Xxh.rest all := by rw [HQ.out, hkk]; rfl
        have hla : Xxh.eat k all Xxh.start = Xxh.lanes all := by rw [hkk]; rfl
        have hpl := HPK.out
        rw [hla] at hpl
        subst hqr
        have k0 : wr.cell? ⟨g, 0, none⟩ = some (.int .u64 (Xxh.lanes all).a) := by rw [hpl.cell]; rfl
        have k1 : wr.cell? ⟨g, 1, none⟩ = some (.int .u64 (Xxh.lanes all).b) := by rw [hpl.cell]; rfl
        have k2 : wr.cell? ⟨g, 2, none⟩ = some (.int .u64 (Xxh.lanes all).c) := by rw [hpl.cell]; rfl
        have k3 : wr.cell? ⟨g, 3, none⟩ = some (.int .u64 (Xxh.lanes all).d) := by rw [hpl.cell]; rfl
        have HR := Lib.hid (HROW.out.below HBK.out)
        have HBT := HBK
        clear hkk hla hpl HPK HBK HQ HROW
        generalize wr = wt at *
        have hh := Xxh.head_ge h32
        rw [Xxh.jsum_4] at hh
        have HJ := Lib.hid hh
        clear hh
        go_wp2
        go_quiet ((go_at_call 24; exact Calls.quiet_of (rturn_any _ _ _ (by omega))))
        go_wp2
        have hj1 : Xxh.join1 (Xxh.lanes all) = IntKind.u64.wrap (IntKind.u64.wrap (IntKind.u64.wrap (Xxh.turn (Xxh.lanes all).a 1 + Xxh.turn (Xxh.lanes all).b 7) + Xxh.turn (Xxh.lanes all).c 12) + Xxh.turn (Xxh.lanes all).d 18) := rfl
        rw [← hj1]
        clear hj1
        generalize Xxh.join1 (Xxh.lanes all) = y0 at *
        go_loopw [4, 8] (fun x i wr => ∃ (k d : Nat), k ≤ 4 ∧ i = .int .i64 k ∧ x = .int .u64 (Xxh.jlan (Xxh.lanes all) y0 k) ∧ wr = wt.drewN d) (fun _ i _ => 4 - (intOf i).toNat)
        case atStart => exact ⟨0, _, by omega, rfl, rfl, rfl⟩
        case round =>
          obtain ⟨k, d, hk, rfl, rfl, rfl⟩ := hrel
          by_cases hk4 : k < 4
          · have HS := Lib.hid (show Xxh.jlan (Xxh.lanes all) y0 (k + 1) = Xxh.join2 (Xxh.jlan (Xxh.lanes all) y0 k) ((Xxh.lanes all).get k) from rfl)
            generalize Xxh.jlan (Xxh.lanes all) y0 k = y at *
            rcases (show k = 0 ∨ k = 1 ∨ k = 2 ∨ k = 3 by omega) with rfl | rfl | rfl | rfl
            · go_wp2_with (go_at_call 22; refine (rround_any _ _ _).mono ?_; rintro e w' ⟨rfl, d', rfl⟩)
              exact ⟨⟨1, _, by omega, by go_num, by rw [HS.out]; rfl, rfl⟩, by simp [intOf]⟩
            · go_wp2_with (go_at_call 22; refine (rround_any _ _ _).mono ?_; rintro e w' ⟨rfl, d', rfl⟩)
              exact ⟨⟨2, _, by omega, by go_num, by rw [HS.out]; rfl, rfl⟩, by simp [intOf]⟩
            · go_wp2_with (go_at_call 22; refine (rround_any _ _ _).mono ?_; rintro e w' ⟨rfl, d', rfl⟩)
              exact ⟨⟨3, _, by omega, by go_num, by rw [HS.out]; rfl, rfl⟩, by simp [intOf]⟩
            · go_wp2_with (go_at_call 22; refine (rround_any _ _ _).mono ?_; rintro e w' ⟨rfl, d', rfl⟩)
              exact ⟨⟨4, _, by omega, by go_num, by rw [HS.out]; rfl, rfl⟩, by simp [intOf]⟩
          · have hk44 : k = 4 := by omega
            subst hk44
            rw [← HJ.out]
            have hmR := hck
            have hcR := hlc
            have hqq := hq32
            clear hq32
            generalize hT : Xxh.tail (Xxh.addU (Xxh.head all) all.length) (Xxh.rest all) = T at *
            have HT := Lib.hid hT
            have hxx : Xxh.xxh64 all = T := hT
            have HXX := Lib.hid hxx
            clear hT hxx
            have HX0 := Lib.hid (rfl : Xxh.addU (Xxh.head all) all.length = IntKind.u64.wrap (Xxh.head all + (all.length : Int)))
            go_wp2
            go_loopw [4, 0] (fun x lv wr => ∃ (d cm : Nat) (Am : Option Addr) (q : List UInt8) (y : Int), Xxh.tail y q = T ∧ lv = .slice Am q.length cm ∧ q.length ≤ cm ∧ cm ≤ 9223372036854775807 ∧ BRow wt g Am q ∧ x = .int .u64 y ∧ wr = wt.drewN d)
              (fun _ lv _ => match lv with | .slice _ n _ => n | _ => 0)
            case atStart => exact ⟨_, ck, Ak, Xxh.rest all, _, by rw [← HT.out]; rfl, rfl, hcR, hmR, HR.out, rfl, rfl⟩
            case round =>
              obtain ⟨d, cm, Am, q, y, hty, rfl, hqc, hck, hrow, rfl, rfl⟩ := hrel
              have HTY := Lib.hid hty
              have HROW := Lib.hid hrow
              clear hty hrow HR
              by_cases h8 : 8 ≤ q.length
              · have hd8 : decide (8 ≤ (q.length : Int)) = true := by simp; omega
                obtain ⟨ab, aoff, hA, hab, hcell⟩ := HROW.out (by omega)
                subst hA
                clear hcell
                have h8r := HROW.out.take 8
                have hl8 : (q.take 8).length = 8 := by rw [List.length_take]; omega
                have HL8 := Lib.hid hl8
                have H8R := Lib.hid h8r
                have hrow' : BRow wt g (if cm = 8 then (some ⟨ab, aoff, none⟩) else some ⟨ab, aoff + 8, none⟩) (q.drop 8) := by
                  have h := HROW.out.drop (k := 8) (cap := cm) hqc
                  rw [Option.map_some, Opn.add_at] at h
                  exact h
                have HROW' := Lib.hid hrow'
                have HLD := Lib.hid (List.length_drop : (q.drop 8).length = q.length - 8)
                have hE := Xxh.tail_eight (x := y) h8
                rw [HTY.out] at hE
                have HE := Lib.hid hE.symm
                clear hE hrow' h8r hl8
                by_cases hck8 : cm = 8
                · subst hck8
                  go_wp2_with (first | (go_at_call 23; refine (rread_any _ q g _ 8 _ _ _ (HROW.out.drewN _) rfl rfl (by omega) (by omega) (by omega)).mono ?_; rintro e w' ⟨rfl, d0, rfl⟩) | (go_at_call 22; refine (rround_any _ _ _).mono ?_; rintro e w' ⟨rfl, d', rfl⟩) | (go_at_call 24; refine (rturn_any _ _ _ (by omega)).mono ?_; rintro e w' ⟨rfl, d'', rfl⟩))
                  exact ⟨⟨_, 0, some ⟨ab, aoff, none⟩, q.drop 8, _, HE.out, by rw [show (q.drop 8).length = 0 by rw [HLD.out]; omega], by rw [HLD.out]; omega, by omega, by simpa using HROW'.out, rfl, rfl⟩, by simp; omega⟩
                · go_wp2_with (first | (go_at_call 23; refine (rread_any _ q g _ 8 _ _ _ (HROW.out.drewN _) rfl rfl (by omega) (by omega) (by omega)).mono ?_; rintro e w' ⟨rfl, d0, rfl⟩) | (go_at_call 22; refine (rround_any _ _ _).mono ?_; rintro e w' ⟨rfl, d', rfl⟩) | (go_at_call 24; refine (rturn_any _ _ _ (by omega)).mono ?_; rintro e w' ⟨rfl, d'', rfl⟩))
                  exact ⟨⟨_, cm - 8, some ⟨ab, aoff + 8, none⟩, q.drop 8, _, HE.out, by rw [HLD.out], by rw [HLD.out]; omega, by omega, by simpa [hck8] using HROW'.out, rfl, rfl⟩, by simp; omega⟩
              · have hd8 : decide (8 ≤ (q.length : Int)) = false := by simp; omega
                by_cases h4 : 4 ≤ q.length
                · have hd4 : decide (4 ≤ (q.length : Int)) = true := by simp; omega
                  obtain ⟨ab, aoff, hA, hab, hcell⟩ := HROW.out (by omega)
                  subst hA
                  clear hcell
                  have h4r := HROW.out.take 4
                  have hl4 : (q.take 4).length = 4 := by rw [List.length_take]; omega
                  have HL4 := Lib.hid hl4
                  have H4R := Lib.hid h4r
                  have hrow' : BRow wt g (if cm = 4 then (some ⟨ab, aoff, none⟩) else some ⟨ab, aoff + 4, none⟩) (q.drop 4) := by
                    have h := HROW.out.drop (k := 4) (cap := cm) hqc
                    rw [Option.map_some, Opn.add_at] at h
                    exact h
                  have HROW' := Lib.hid hrow'
                  have HLD := Lib.hid (List.length_drop : (q.drop 4).length = q.length - 4)
                  have hE := Xxh.tail_four (x := y) (l := q) (by omega) h4
                  rw [HTY.out] at hE
                  have HE := Lib.hid hE.symm
                  clear hE hrow' h4r hl4
                  by_cases hck4 : cm = 4
                  · subst hck4
                    have hr0 : q.drop 4 = [] := List.eq_nil_of_length_eq_zero (by rw [HLD.out]; omega)
                    have hq4 : q.length = 4 := by omega
                    have HQ4 := Lib.hid hq4
                    have HR0 := Lib.hid hr0
                    clear hr0 hq4
                    go_wp2_with (first | (go_at_call 23; refine (rread_any _ q g _ 4 _ _ _ (HROW.out.drewN _) rfl rfl (by omega) (by omega) (by omega)).mono ?_; rintro e w' ⟨rfl, d0, rfl⟩) | (go_at_call 24; refine (rturn_any _ _ _ (by omega)).mono ?_; rintro e w' ⟨rfl, d'', rfl⟩))
                    refine wp_loop_once ?_
                    go_wp2
                    go_ret
                    exact ⟨ret_int (by rw [HXX.out, ← HE.out, HR0.out]; rfl), below_drewN HBT.out _⟩
                  · go_wp2_with (first | (go_at_call 23; refine (rread_any _ q g _ 4 _ _ _ (HROW.out.drewN _) rfl rfl (by omega) (by omega) (by omega)).mono ?_; rintro e w' ⟨rfl, d0, rfl⟩) | (go_at_call 24; refine (rturn_any _ _ _ (by omega)).mono ?_; rintro e w' ⟨rfl, d'', rfl⟩))
                    have hrow2 : BRow wt g (some ⟨ab, aoff + 4, none⟩) (q.drop 4) := by simpa [hck4] using HROW'.out
                    have HROW2 := Lib.hid hrow2
                    have hfour : Xxh.four y q = Xxh.addU (Xxh.mulU (Xxh.turn (Xxh.xr y (Xxh.mulU (Xxh.le (q.take 4)) 11400714785074694791)) 23) 14029467366897019727) 1609587929392839161 := rfl
                    have HFO := Lib.hid hfour
                    clear hrow2 hfour HROW'
                    obtain ⟨O, hO⟩ : ∃ O, Xxh.ones (Xxh.four y q) (q.drop 4) = O := ⟨_, rfl⟩
                    rw [hO] at HE
                    have HO := Lib.hid hO
                    clear hO
                    go_loopw [4, 9] (fun x iv wr => ∃ (i d : Nat) (z : Int), i ≤ q.length - 4 ∧ iv = .int .i64 i ∧ x = .int .u64 z ∧ Xxh.ones z ((q.drop 4).drop i) = O ∧ wr = wt.drewN d) (fun _ iv _ => (q.length - 4) - (intOf iv).toNat)
                    case atStart => exact ⟨0, _, _, by omega, rfl, rfl, by rw [← HO.out]; rfl, rfl⟩
                    case round =>
                      obtain ⟨i, d, z, hi, rfl, rfl, hz, rfl⟩ := hrel
                      have HZ := Lib.hid hz
                      clear hz
                      by_cases hil : i < q.length - 4
                      · have hx := (HROW2.out.drewN d).addr (k := i) (by rw [HLD.out]; exact hil)
                        unfold byteV at hx
                        have hs := Xxh.ones_step (x := z) (l := q.drop 4) (i := i) (by rw [HLD.out]; exact hil)
                        have HS := Lib.hid hs
                        clear hs
                        generalize (q.drop 4).getD i 0 = u at *
                        have huu := u.toNat_lt
                        have hu0 : (u.toNat : Int) ≤ 255 := by omega
                        clear huu
                        go_wp2_with (go_at_call 24; refine (rturn_any _ _ _ (by omega)).mono ?_; rintro e w' ⟨rfl, d'', rfl⟩)
                        exact ⟨⟨i + 1, _, _, by omega, by go_num, rfl, by rw [← HZ.out, HS.out]; rfl, rfl⟩, by simp [intOf]; omega⟩
                      · have hz2 : O = z := by
                          have h := HZ.out
                          rw [List.drop_of_length_le (by rw [HLD.out]; omega)] at h
                          exact h.symm
                        have HZ2 := Lib.hid hz2
                        clear hz2
                        go_wp2
                        go_ret
                        exact ⟨ret_int (by rw [HXX.out, ← HE.out, HZ2.out]; rfl), below_drewN HBT.out _⟩
                · have hd4 : decide (4 ≤ (q.length : Int)) = false := by simp; omega
                  have hE := Xxh.tail_ones (x := y) (l := q) (by omega)
                  rw [HTY.out] at hE
                  have HE := Lib.hid hE.symm
                  clear hE
                  obtain ⟨O, hO⟩ : ∃ O, Xxh.ones y q = O := ⟨_, rfl⟩
                  rw [hO] at HE
                  have HO := Lib.hid hO
                  clear hO
                  go_wp2
                  go_loopw [4, 9] (fun x iv wr => ∃ (i d : Nat) (z : Int), i ≤ q.length ∧ iv = .int .i64 i ∧ x = .int .u64 z ∧ Xxh.ones z (q.drop i) = O ∧ wr = wt.drewN d) (fun _ iv _ => q.length - (intOf iv).toNat)
                  case atStart => exact ⟨0, _, _, by omega, rfl, rfl, by rw [← HO.out]; rfl, rfl⟩
                  case round =>
                    obtain ⟨i, d, z, hi, rfl, rfl, hz, rfl⟩ := hrel
                    have HZ := Lib.hid hz
                    clear hz
                    by_cases hil : i < q.length
                    · obtain ⟨ab, aoff, hA, hab, hcell⟩ := HROW.out (by omega)
                      subst hA
                      have hx := (HROW.out.drewN d).addr (k := i) hil
                      unfold byteV at hx
                      have hs := Xxh.ones_step (x := z) (l := q) (i := i) hil
                      have HS := Lib.hid hs
                      clear hs hcell
                      generalize q.getD i 0 = u at *
                      have huu := u.toNat_lt
                      have hu0 : (u.toNat : Int) ≤ 255 := by omega
                      clear huu
                      go_wp2_with (go_at_call 24; refine (rturn_any _ _ _ (by omega)).mono ?_; rintro e w' ⟨rfl, d'', rfl⟩)
                      exact ⟨⟨i + 1, _, _, by omega, by go_num, rfl, by rw [← HZ.out, HS.out]; rfl, rfl⟩, by simp [intOf]; omega⟩
                    · have hz2 : O = z := by
                        have h := HZ.out
                        rw [List.drop_of_length_le (by omega)] at h
                        exact h.symm
                      have HZ2 := Lib.hid hz2
                      clear hz2
                      go_wp2
                      go_ret
                      exact ⟨ret_int (by rw [HXX.out, ← HE.out, HZ2.out]; rfl), below_drewN HBT.out _⟩
  · have hd32 : decide (32 ≤ (all.length : Int)) = false := by simp; omega
    have HJ := Lib.hid (Xxh.head_lt h32)
    have hrest : Xxh.rest all = all := by unfold Xxh.rest; rw [show all.length / 32 = 0 by omega]; rfl
    go_enter Try.func15, Try.ntmps15
    have HBT := Lib.hid (Below.refl g w)
    have HR : Hid (BRow w g A (Xxh.rest all)) := by rw [hrest]; exact HR0
    have hcR : (Xxh.rest all).length ≤ c0 := by rw [hrest]; exact hc0
    have hmR : c0 ≤ 9223372036854775807 := by omega
    have HRE := Lib.hid hrest
    clear hrest
    generalize hT : Xxh.tail (Xxh.addU (Xxh.head all) all.length) (Xxh.rest all) = T at *
    have HT := Lib.hid hT
    have hxx : Xxh.xxh64 all = T := hT
    have HXX := Lib.hid hxx
    clear hT hxx
    have HX0 := Lib.hid (rfl : Xxh.addU (Xxh.head all) all.length = IntKind.u64.wrap (Xxh.head all + (all.length : Int)))
    go_wp2
    go_loopw [4, 0] (fun x lv wr => ∃ (d ck : Nat) (Ak : Option Addr) (q : List UInt8) (y : Int), Xxh.tail y q = T ∧ lv = .slice Ak q.length ck ∧ q.length ≤ ck ∧ ck ≤ 9223372036854775807 ∧ BRow w g Ak q ∧ x = .int .u64 y ∧ wr = w.drewN d)
      (fun _ lv _ => match lv with | .slice _ n _ => n | _ => 0)
    case atStart => exact ⟨0, c0, A, Xxh.rest all, _, by rw [← HT.out, HJ.out, Xxh.add_p5 _ hlen], by rw [HRE.out], hcR, hmR, HR.out, rfl, rfl⟩
    case round =>
      obtain ⟨d, ck, Ak, q, y, hty, rfl, hqc, hck, hrow, rfl, rfl⟩ := hrel
      have HTY := Lib.hid hty
      have HROW := Lib.hid hrow
      clear hty hrow HR
      by_cases h8 : 8 ≤ q.length
      · have hd8 : decide (8 ≤ (q.length : Int)) = true := by simp; omega
        obtain ⟨ab, aoff, hA, hab, hcell⟩ := HROW.out (by omega)
        subst hA
        clear hcell
        have h8r := HROW.out.take 8
        have hl8 : (q.take 8).length = 8 := by rw [List.length_take]; omega
        have HL8 := Lib.hid hl8
        have H8R := Lib.hid h8r
        have hrow' : BRow w g (if ck = 8 then (some ⟨ab, aoff, none⟩) else some ⟨ab, aoff + 8, none⟩) (q.drop 8) := by
          have h := HROW.out.drop (k := 8) (cap := ck) hqc
          rw [Option.map_some, Opn.add_at] at h
          exact h
        have HROW' := Lib.hid hrow'
        have HLD := Lib.hid (List.length_drop : (q.drop 8).length = q.length - 8)
        have hE := Xxh.tail_eight (x := y) h8
        rw [HTY.out] at hE
        have HE := Lib.hid hE.symm
        clear hE hrow' h8r hl8
        by_cases hck8 : ck = 8
        · subst hck8
          go_wp2_with (first | (go_at_call 23; refine (rread_any _ q g _ 8 _ _ _ (HROW.out.drewN _) rfl rfl (by omega) (by omega) (by omega)).mono ?_; rintro e w' ⟨rfl, d0, rfl⟩) | (go_at_call 22; refine (rround_any _ _ _).mono ?_; rintro e w' ⟨rfl, d', rfl⟩) | (go_at_call 24; refine (rturn_any _ _ _ (by omega)).mono ?_; rintro e w' ⟨rfl, d'', rfl⟩))
          exact ⟨⟨_, 0, some ⟨ab, aoff, none⟩, q.drop 8, _, HE.out, by rw [show (q.drop 8).length = 0 by rw [HLD.out]; omega], by rw [HLD.out]; omega, by omega, by simpa using HROW'.out, rfl, rfl⟩, by simp; omega⟩
        · go_wp2_with (first | (go_at_call 23; refine (rread_any _ q g _ 8 _ _ _ (HROW.out.drewN _) rfl rfl (by omega) (by omega) (by omega)).mono ?_; rintro e w' ⟨rfl, d0, rfl⟩) | (go_at_call 22; refine (rround_any _ _ _).mono ?_; rintro e w' ⟨rfl, d', rfl⟩) | (go_at_call 24; refine (rturn_any _ _ _ (by omega)).mono ?_; rintro e w' ⟨rfl, d'', rfl⟩))
          exact ⟨⟨_, ck - 8, some ⟨ab, aoff + 8, none⟩, q.drop 8, _, HE.out, by rw [HLD.out], by rw [HLD.out]; omega, by omega, by simpa [hck8] using HROW'.out, rfl, rfl⟩, by simp; omega⟩
      · have hd8 : decide (8 ≤ (q.length : Int)) = false := by simp; omega
        by_cases h4 : 4 ≤ q.length
        · have hd4 : decide (4 ≤ (q.length : Int)) = true := by simp; omega
          obtain ⟨ab, aoff, hA, hab, hcell⟩ := HROW.out (by omega)
          subst hA
          clear hcell
          have h4r := HROW.out.take 4
          have hl4 : (q.take 4).length = 4 := by rw [List.length_take]; omega
          have HL4 := Lib.hid hl4
          have H4R := Lib.hid h4r
          have hrow' : BRow w g (if ck = 4 then (some ⟨ab, aoff, none⟩) else some ⟨ab, aoff + 4, none⟩) (q.drop 4) := by
            have h := HROW.out.drop (k := 4) (cap := ck) hqc
            rw [Option.map_some, Opn.add_at] at h
            exact h
          have HROW' := Lib.hid hrow'
          have HLD := Lib.hid (List.length_drop : (q.drop 4).length = q.length - 4)
          have hE := Xxh.tail_four (x := y) (l := q) (by omega) h4
          rw [HTY.out] at hE
          have HE := Lib.hid hE.symm
          clear hE hrow' h4r hl4
          by_cases hck4 : ck = 4
          · subst hck4
            have hr0 : q.drop 4 = [] := List.eq_nil_of_length_eq_zero (by rw [HLD.out]; omega)
            have hq4 : q.length = 4 := by omega
            have HQ4 := Lib.hid hq4
            have HR0 := Lib.hid hr0
            clear hr0 hq4
            go_wp2_with (first | (go_at_call 23; refine (rread_any _ q g _ 4 _ _ _ (HROW.out.drewN _) rfl rfl (by omega) (by omega) (by omega)).mono ?_; rintro e w' ⟨rfl, d0, rfl⟩) | (go_at_call 24; refine (rturn_any _ _ _ (by omega)).mono ?_; rintro e w' ⟨rfl, d'', rfl⟩))
            refine wp_loop_once ?_
            go_wp2
            go_ret
            exact ⟨ret_int (by rw [HXX.out, ← HE.out, HR0.out]; rfl), below_drewN HBT.out _⟩
          · go_wp2_with (first | (go_at_call 23; refine (rread_any _ q g _ 4 _ _ _ (HROW.out.drewN _) rfl rfl (by omega) (by omega) (by omega)).mono ?_; rintro e w' ⟨rfl, d0, rfl⟩) | (go_at_call 24; refine (rturn_any _ _ _ (by omega)).mono ?_; rintro e w' ⟨rfl, d'', rfl⟩))
            have hrow2 : BRow w g (some ⟨ab, aoff + 4, none⟩) (q.drop 4) := by simpa [hck4] using HROW'.out
            have HROW2 := Lib.hid hrow2
            have hfour : Xxh.four y q = Xxh.addU (Xxh.mulU (Xxh.turn (Xxh.xr y (Xxh.mulU (Xxh.le (q.take 4)) 11400714785074694791)) 23) 14029467366897019727) 1609587929392839161 := rfl
            have HFO := Lib.hid hfour
            clear hrow2 hfour HROW'
            obtain ⟨O, hO⟩ : ∃ O, Xxh.ones (Xxh.four y q) (q.drop 4) = O := ⟨_, rfl⟩
            rw [hO] at HE
            have HO := Lib.hid hO
            clear hO
            go_loopw [4, 9] (fun x iv wr => ∃ (i d : Nat) (z : Int), i ≤ q.length - 4 ∧ iv = .int .i64 i ∧ x = .int .u64 z ∧ Xxh.ones z ((q.drop 4).drop i) = O ∧ wr = w.drewN d) (fun _ iv _ => (q.length - 4) - (intOf iv).toNat)
            case atStart => exact ⟨0, _, _, by omega, rfl, rfl, by rw [← HO.out]; rfl, rfl⟩
            case round =>
              obtain ⟨i, d, z, hi, rfl, rfl, hz, rfl⟩ := hrel
              have HZ := Lib.hid hz
              clear hz
              by_cases hil : i < q.length - 4
              · have hx := (HROW2.out.drewN d).addr (k := i) (by rw [HLD.out]; exact hil)
                unfold byteV at hx
                have hs := Xxh.ones_step (x := z) (l := q.drop 4) (i := i) (by rw [HLD.out]; exact hil)
                have HS := Lib.hid hs
                clear hs
                generalize (q.drop 4).getD i 0 = u at *
                have huu := u.toNat_lt
                have hu0 : (u.toNat : Int) ≤ 255 := by omega
                clear huu
                go_wp2_with (go_at_call 24; refine (rturn_any _ _ _ (by omega)).mono ?_; rintro e w' ⟨rfl, d'', rfl⟩)
                exact ⟨⟨i + 1, _, _, by omega, by go_num, rfl, by rw [← HZ.out, HS.out]; rfl, rfl⟩, by simp [intOf]; omega⟩
              · have hz2 : O = z := by
                  have h := HZ.out
                  rw [List.drop_of_length_le (by rw [HLD.out]; omega)] at h
                  exact h.symm
                have HZ2 := Lib.hid hz2
                clear hz2
                go_wp2
                go_ret
                exact ⟨ret_int (by rw [HXX.out, ← HE.out, HZ2.out]; rfl), below_drewN HBT.out _⟩
        · have hd4 : decide (4 ≤ (q.length : Int)) = false := by simp; omega
          have hE := Xxh.tail_ones (x := y) (l := q) (by omega)
          rw [HTY.out] at hE
          have HE := Lib.hid hE.symm
          clear hE
          obtain ⟨O, hO⟩ : ∃ O, Xxh.ones y q = O := ⟨_, rfl⟩
          rw [hO] at HE
          have HO := Lib.hid hO
          clear hO
          go_wp2
          go_loopw [4, 9] (fun x iv wr => ∃ (i d : Nat) (z : Int), i ≤ q.length ∧ iv = .int .i64 i ∧ x = .int .u64 z ∧ Xxh.ones z (q.drop i) = O ∧ wr = w.drewN d) (fun _ iv _ => q.length - (intOf iv).toNat)
          case atStart => exact ⟨0, _, _, by omega, rfl, rfl, by rw [← HO.out]; rfl, rfl⟩
          case round =>
            obtain ⟨i, d, z, hi, rfl, rfl, hz, rfl⟩ := hrel
            have HZ := Lib.hid hz
            clear hz
            by_cases hil : i < q.length
            · obtain ⟨ab, aoff, hA, hab, hcell⟩ := HROW.out (by omega)
              subst hA
              have hx := (HROW.out.drewN d).addr (k := i) hil
              unfold byteV at hx
              have hs := Xxh.ones_step (x := z) (l := q) (i := i) hil
              have HS := Lib.hid hs
              clear hs hcell
              generalize q.getD i 0 = u at *
              have huu := u.toNat_lt
              have hu0 : (u.toNat : Int) ≤ 255 := by omega
              clear huu
              go_wp2_with (go_at_call 24; refine (rturn_any _ _ _ (by omega)).mono ?_; rintro e w' ⟨rfl, d'', rfl⟩)
              exact ⟨⟨i + 1, _, _, by omega, by go_num, rfl, by rw [← HZ.out, HS.out]; rfl, rfl⟩, by simp [intOf]; omega⟩
            · have hz2 : O = z := by
                have h := HZ.out
                rw [List.drop_of_length_le (by omega)] at h
                exact h.symm
              have HZ2 := Lib.hid hz2
              clear hz2
              go_wp2
              go_ret
              exact ⟨ret_int (by rw [HXX.out, ← HE.out, HZ2.out]; rfl), below_drewN HBT.out _⟩

theorem rxxh_any (A : Option Addr) (all : List UInt8) (c0 n : Nat) (w : World) (hn : n = all.length) (hc0 : all.length ≤ c0) (hm0 : c0 ≤ maxLen) (hr : BRow w w.heap.size A all) (hlen : all.length ≤ 140737488355328) :
    Calls Try.prog 15 #[.slice A n c0] w fun e w' => e = .returned (.int .u64 (Xxh.xxh64 all)) ∧ Below w.heap.size w w' :=
  rxxh_core A all c0 n _ w rfl hn hc0 hm0 hr hlen
end Go.Proofs.Ytmijkndokcibpaa
