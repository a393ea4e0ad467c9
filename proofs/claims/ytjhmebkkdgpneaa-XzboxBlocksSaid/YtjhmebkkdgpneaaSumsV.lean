/- XXH64's sum tells the number of all that it got. -/
import Derived.Test.YtjhmebkkdgpneaaSumsX
namespace Go.Proofs.Ytjhmebkkdgpneaa
open Go.RowKit

set_option maxRecDepth 100000 in
set_option maxHeartbeats 4000000 in
theorem xxhValue_any (b : Nat) (v : Value) (all : List UInt8) (w : World) (h : XxhAt w b v all) (hlen : all.length ≤ 140737488355328) :
    Calls Try.prog 68 #[.pointer (some ⟨b, 0, none⟩)] w fun e w' => e = .returned (.int .u64 (Xxh.xxh64 all)) ∧ ∃ d, w' = w.drewN d := by
  obtain ⟨hp, ho⟩ := h
  obtain ⟨A0, c0, rfl, hc0, hm0, hr0⟩ := ho.slice
  have HP := Lib.hid hp
  have k0 : w.cell? ⟨b, 0, none⟩ = some (.int .u64 (Xxh.lanes all).a) := by rw [hp.cell]; rfl
  have k1 : w.cell? ⟨b, 1, none⟩ = some (.int .u64 (Xxh.lanes all).b) := by rw [hp.cell]; rfl
  have k2 : w.cell? ⟨b, 2, none⟩ = some (.int .u64 (Xxh.lanes all).c) := by rw [hp.cell]; rfl
  have k3 : w.cell? ⟨b, 3, none⟩ = some (.int .u64 (Xxh.lanes all).d) := by rw [hp.cell]; rfl
  have k4 : w.cell? ⟨b, 4, none⟩ = some (.slice A0 (Xxh.rest all).length c0) := by rw [hp.cell]; rfl
  have k5 : w.cell? ⟨b, 5, none⟩ = some (.int .u64 (all.length : Int)) := by rw [hp.cell]; rfl
  have HR := Lib.hid hr0
  clear hp ho hr0
  by_cases h32 : 32 ≤ all.length
  · have hd32 : decide (32 ≤ (all.length : Int)) = true := by simp; omega
    go_enter Try.func68, Try.ntmps68
    go_wp2
    go_loopw [3, 17] (fun x i wr => ∃ (k d : Nat), k ≤ 4 ∧ i = .int .i64 k ∧ x = .int .u64 (Xxh.jsum (Xxh.lanes all) k) ∧ wr = w.drewN d) (fun _ i _ => 4 - (intOf i).toNat)
    case atStart => exact ⟨0, 0, by omega, rfl, rfl, rfl⟩
    case round =>
      obtain ⟨k, d, hk, rfl, rfl, rfl⟩ := hrel
      by_cases hk4 : k < 4
      · have hs : Xxh.jsum (Xxh.lanes all) (k + 1) = Xxh.addU (Xxh.jsum (Xxh.lanes all) k) (Xxh.turn ((Xxh.lanes all).get k) (Xxh.jn k)) := rfl
        have HS := Lib.hid hs
        clear hs
        generalize Xxh.jsum (Xxh.lanes all) k = y at *
        match k, hk4 with
        | 0, _ =>
          rw [show ((0 : Nat) : Int) = 0 from rfl]
          have hix : ∀ w, (Instr.index 103 (.agg #[.int .i64 1, .int .i64 7, .int .i64 12, .int .i64 18]) (.int .i64 0)).run Try.prog w = .ok (.int .i64 1) w := fun _ => by kernel_rfl
          go_wp2_with (go_at_call 71; refine (turn_any _ _ _ (by omega)).mono ?_; rintro e w' ⟨rfl, d', rfl⟩)
          exact ⟨⟨1, _, by omega, by go_num, by rw [HS.out]; rfl, rfl⟩, by simp [intOf]⟩
        | 1, _ =>
          rw [show ((1 : Nat) : Int) = 1 from rfl]
          have hix : ∀ w, (Instr.index 103 (.agg #[.int .i64 1, .int .i64 7, .int .i64 12, .int .i64 18]) (.int .i64 1)).run Try.prog w = .ok (.int .i64 7) w := fun _ => by kernel_rfl
          go_wp2_with (go_at_call 71; refine (turn_any _ _ _ (by omega)).mono ?_; rintro e w' ⟨rfl, d', rfl⟩)
          exact ⟨⟨2, _, by omega, by go_num, by rw [HS.out]; rfl, rfl⟩, by simp [intOf]⟩
        | 2, _ =>
          rw [show ((2 : Nat) : Int) = 2 from rfl]
          have hix : ∀ w, (Instr.index 103 (.agg #[.int .i64 1, .int .i64 7, .int .i64 12, .int .i64 18]) (.int .i64 2)).run Try.prog w = .ok (.int .i64 12) w := fun _ => by kernel_rfl
          go_wp2_with (go_at_call 71; refine (turn_any _ _ _ (by omega)).mono ?_; rintro e w' ⟨rfl, d', rfl⟩)
          exact ⟨⟨3, _, by omega, by go_num, by rw [HS.out]; rfl, rfl⟩, by simp [intOf]⟩
        | 3, _ =>
          rw [show ((3 : Nat) : Int) = 3 from rfl]
          have hix : ∀ w, (Instr.index 103 (.agg #[.int .i64 1, .int .i64 7, .int .i64 12, .int .i64 18]) (.int .i64 3)).run Try.prog w = .ok (.int .i64 18) w := fun _ => by kernel_rfl
          go_wp2_with (go_at_call 71; refine (turn_any _ _ _ (by omega)).mono ?_; rintro e w' ⟨rfl, d', rfl⟩)
          exact ⟨⟨4, _, by omega, by go_num, by rw [HS.out]; rfl, rfl⟩, by simp [intOf]⟩
      · have hk44 : k = 4 := by omega
        subst hk44
        rw [show ((4 : Nat) : Int) = 4 from rfl]
        go_wp2
        have HJ := Lib.hid (Xxh.head_ge h32)
        generalize Xxh.jsum (Xxh.lanes all) 4 = y0 at *
        go_loopw [3, 36] (fun x i wr => ∃ (k d : Nat), k ≤ 4 ∧ i = .int .i64 k ∧ x = .int .u64 (Xxh.jlan (Xxh.lanes all) y0 k) ∧ wr = w.drewN d) (fun _ i _ => 4 - (intOf i).toNat)
        case atStart => exact ⟨0, _, by omega, rfl, rfl, rfl⟩
        case round =>
          obtain ⟨k, d, hk, rfl, rfl, rfl⟩ := hrel
          by_cases hk4 : k < 4
          · have hs : Xxh.jlan (Xxh.lanes all) y0 (k + 1) = Xxh.join2 (Xxh.jlan (Xxh.lanes all) y0 k) ((Xxh.lanes all).get k) := rfl
            have HS := Lib.hid hs
            clear hs
            generalize Xxh.jlan (Xxh.lanes all) y0 k = y at *
            rcases (show k = 0 ∨ k = 1 ∨ k = 2 ∨ k = 3 by omega) with rfl | rfl | rfl | rfl
            · rw [show ((0 : Nat) : Int) = 0 from rfl]
              have hix : ∀ w, (Instr.index 83 (.agg #[.int .u64 (Xxh.lanes all).a, .int .u64 (Xxh.lanes all).b, .int .u64 (Xxh.lanes all).c, .int .u64 (Xxh.lanes all).d]) (.int .i64 0)).run Try.prog w = .ok (.int .u64 (Xxh.lanes all).a) w := fun _ => by kernel_rfl
              go_wp2_with (go_at_call 69; refine (round_any _ _ _).mono ?_; rintro e w' ⟨rfl, d', rfl⟩)
              exact ⟨⟨1, _, by omega, by go_num, by rw [HS.out]; rfl, rfl⟩, by simp [intOf]⟩
            · rw [show ((1 : Nat) : Int) = 1 from rfl]
              have hix : ∀ w, (Instr.index 83 (.agg #[.int .u64 (Xxh.lanes all).a, .int .u64 (Xxh.lanes all).b, .int .u64 (Xxh.lanes all).c, .int .u64 (Xxh.lanes all).d]) (.int .i64 1)).run Try.prog w = .ok (.int .u64 (Xxh.lanes all).b) w := fun _ => by kernel_rfl
              go_wp2_with (go_at_call 69; refine (round_any _ _ _).mono ?_; rintro e w' ⟨rfl, d', rfl⟩)
              exact ⟨⟨2, _, by omega, by go_num, by rw [HS.out]; rfl, rfl⟩, by simp [intOf]⟩
            · rw [show ((2 : Nat) : Int) = 2 from rfl]
              have hix : ∀ w, (Instr.index 83 (.agg #[.int .u64 (Xxh.lanes all).a, .int .u64 (Xxh.lanes all).b, .int .u64 (Xxh.lanes all).c, .int .u64 (Xxh.lanes all).d]) (.int .i64 2)).run Try.prog w = .ok (.int .u64 (Xxh.lanes all).c) w := fun _ => by kernel_rfl
              go_wp2_with (go_at_call 69; refine (round_any _ _ _).mono ?_; rintro e w' ⟨rfl, d', rfl⟩)
              exact ⟨⟨3, _, by omega, by go_num, by rw [HS.out]; rfl, rfl⟩, by simp [intOf]⟩
            · rw [show ((3 : Nat) : Int) = 3 from rfl]
              have hix : ∀ w, (Instr.index 83 (.agg #[.int .u64 (Xxh.lanes all).a, .int .u64 (Xxh.lanes all).b, .int .u64 (Xxh.lanes all).c, .int .u64 (Xxh.lanes all).d]) (.int .i64 3)).run Try.prog w = .ok (.int .u64 (Xxh.lanes all).d) w := fun _ => by kernel_rfl
              go_wp2_with (go_at_call 69; refine (round_any _ _ _).mono ?_; rintro e w' ⟨rfl, d', rfl⟩)
              exact ⟨⟨4, _, by omega, by go_num, by rw [HS.out]; rfl, rfl⟩, by simp [intOf]⟩
          · have hk44 : k = 4 := by omega
            subst hk44
            rw [show ((4 : Nat) : Int) = 4 from rfl, ← HJ.out]
            generalize hT : Xxh.tail (Xxh.addU (Xxh.head all) all.length) (Xxh.rest all) = T at *
            have HT := Lib.hid hT
            have hxx : Xxh.xxh64 all = T := hT
            have HXX := Lib.hid hxx
            clear hT hxx
            have HX0 := Lib.hid (rfl : Xxh.addU (Xxh.head all) all.length = IntKind.u64.wrap (Xxh.head all + (all.length : Int)))
            go_wp2
            go_loopw [3, 8] (fun x lv wr => ∃ (d ck : Nat) (Ak : Option Addr) (q : List UInt8) (y : Int), Xxh.tail y q = T ∧ lv = .slice Ak q.length ck ∧ q.length ≤ ck ∧ ck ≤ 9223372036854775807 ∧ BRow w w.heap.size Ak q ∧ x = .int .u64 y ∧ wr = w.drewN d)
              (fun _ lv _ => match lv with | .slice _ n _ => n | _ => 0)
            case atStart => exact ⟨_, c0, A0, Xxh.rest all, _, by rw [← HT.out]; rfl, rfl, hc0, hm0, HR.out, rfl, rfl⟩
            case round =>
              obtain ⟨d, ck, Ak, q, y, hty, rfl, hqc, hck, hrow, rfl, rfl⟩ := hrel
              have HTY := Lib.hid hty
              have HROW := Lib.hid hrow
              clear hty hrow HR
              by_cases h8 : 8 ≤ q.length
              · have hd8 : decide (8 ≤ (q.length : Int)) = true := by simp; omega
                obtain ⟨ab, aoff, hA, hab, hcell⟩ := HROW.out (by omega)
                subst hA
                clear hcell
                have h8r := HROW.out.take 8
                have hl8 : (q.take 8).length = 8 := by rw [List.length_take]; omega
                have HL8 := Lib.hid hl8
                have H8R := Lib.hid h8r
                have hrow' : BRow w w.heap.size (if ck = 8 then (some ⟨ab, aoff, none⟩) else some ⟨ab, aoff + 8, none⟩) (q.drop 8) := by
                  have h := HROW.out.drop (k := 8) (cap := ck) hqc
                  rw [Option.map_some, Opn.add_at] at h
                  exact h
                have HROW' := Lib.hid hrow'
                have HLD := Lib.hid (List.length_drop : (q.drop 8).length = q.length - 8)
                have hE := Xxh.tail_eight (x := y) h8
                rw [HTY.out] at hE
                have HE := Lib.hid hE.symm
                clear hE hrow' h8r hl8
                by_cases hck8 : ck = 8
                · subst hck8
                  go_wp2_with (first | (go_at_call 70; refine (little_any _ (q.take 8) w.heap.size _ _ _ (H8R.out.drewN _) (by rw [HL8.out]) (by rw [HL8.out]; omega)).mono ?_; rintro e w' ⟨rfl, rfl⟩) | (go_at_call 69; refine (round_any _ _ _).mono ?_; rintro e w' ⟨rfl, d', rfl⟩) | (go_at_call 71; refine (turn_any _ _ _ (by omega)).mono ?_; rintro e w' ⟨rfl, d'', rfl⟩))
                  exact ⟨⟨_, 0, some ⟨ab, aoff, none⟩, q.drop 8, _, HE.out, by rw [show (q.drop 8).length = 0 by rw [HLD.out]; omega], by rw [HLD.out]; omega, by omega, by simpa using HROW'.out, rfl, rfl⟩, by simp; omega⟩
                · go_wp2_with (first | (go_at_call 70; refine (little_any _ (q.take 8) w.heap.size _ _ _ (H8R.out.drewN _) (by rw [HL8.out]) (by rw [HL8.out]; omega)).mono ?_; rintro e w' ⟨rfl, rfl⟩) | (go_at_call 69; refine (round_any _ _ _).mono ?_; rintro e w' ⟨rfl, d', rfl⟩) | (go_at_call 71; refine (turn_any _ _ _ (by omega)).mono ?_; rintro e w' ⟨rfl, d'', rfl⟩))
                  exact ⟨⟨_, ck - 8, some ⟨ab, aoff + 8, none⟩, q.drop 8, _, HE.out, by rw [HLD.out], by rw [HLD.out]; omega, by omega, by simpa [hck8] using HROW'.out, rfl, rfl⟩, by simp; omega⟩
              · have hd8 : decide (8 ≤ (q.length : Int)) = false := by simp; omega
                by_cases h4 : 4 ≤ q.length
                · have hd4 : decide (4 ≤ (q.length : Int)) = true := by simp; omega
                  obtain ⟨ab, aoff, hA, hab, hcell⟩ := HROW.out (by omega)
                  subst hA
                  clear hcell
                  have h4r := HROW.out.take 4
                  have hl4 : (q.take 4).length = 4 := by rw [List.length_take]; omega
                  have HL4 := Lib.hid hl4
                  have H4R := Lib.hid h4r
                  have hrow' : BRow w w.heap.size (if ck = 4 then (some ⟨ab, aoff, none⟩) else some ⟨ab, aoff + 4, none⟩) (q.drop 4) := by
                    have h := HROW.out.drop (k := 4) (cap := ck) hqc
                    rw [Option.map_some, Opn.add_at] at h
                    exact h
                  have HROW' := Lib.hid hrow'
                  have HLD := Lib.hid (List.length_drop : (q.drop 4).length = q.length - 4)
                  have hE := Xxh.tail_four (x := y) (l := q) (by omega) h4
                  rw [HTY.out] at hE
                  have HE := Lib.hid hE.symm
                  clear hE hrow' h4r hl4
                  by_cases hck4 : ck = 4
                  · subst hck4
                    have hr0 : q.drop 4 = [] := List.eq_nil_of_length_eq_zero (by rw [HLD.out]; omega)
                    have hq4 : q.length = 4 := by omega
                    have HQ4 := Lib.hid hq4
                    have HR0 := Lib.hid hr0
                    clear hr0 hq4
                    go_wp2_with (first | (go_at_call 70; refine (little_any _ (q.take 4) w.heap.size _ _ _ (H4R.out.drewN _) (by rw [HL4.out]) (by rw [HL4.out]; omega)).mono ?_; rintro e w' ⟨rfl, rfl⟩) | (go_at_call 71; refine (turn_any _ _ _ (by omega)).mono ?_; rintro e w' ⟨rfl, d'', rfl⟩))
                    refine wp_loop_once ?_
                    go_wp2
                    go_ret
                    exact ⟨ret_int (by rw [HXX.out, ← HE.out, HR0.out]; rfl), _, rfl⟩
                  · go_wp2_with (first | (go_at_call 70; refine (little_any _ (q.take 4) w.heap.size _ _ _ (H4R.out.drewN _) (by rw [HL4.out]) (by rw [HL4.out]; omega)).mono ?_; rintro e w' ⟨rfl, rfl⟩) | (go_at_call 71; refine (turn_any _ _ _ (by omega)).mono ?_; rintro e w' ⟨rfl, d'', rfl⟩))
                    have hrow2 : BRow w w.heap.size (some ⟨ab, aoff + 4, none⟩) (q.drop 4) := by simpa [hck4] using HROW'.out
                    have HROW2 := Lib.hid hrow2
                    have hfour : Xxh.four y q = Xxh.addU (Xxh.mulU (Xxh.turn (Xxh.xr y (Xxh.mulU (Xxh.le (q.take 4)) 11400714785074694791)) 23) 14029467366897019727) 1609587929392839161 := rfl
                    have HFO := Lib.hid hfour
                    clear hrow2 hfour HROW'
                    obtain ⟨O, hO⟩ : ∃ O, Xxh.ones (Xxh.four y q) (q.drop 4) = O := ⟨_, rfl⟩
                    rw [hO] at HE
                    have HO := Lib.hid hO
                    clear hO
                    go_loopw [3, 86] (fun x iv wr => ∃ (i d : Nat) (z : Int), i ≤ q.length - 4 ∧ iv = .int .i64 i ∧ x = .int .u64 z ∧ Xxh.ones z ((q.drop 4).drop i) = O ∧ wr = w.drewN d) (fun _ iv _ => (q.length - 4) - (intOf iv).toNat)
                    case atStart => exact ⟨0, _, _, by omega, rfl, rfl, by rw [← HO.out]; rfl, rfl⟩
                    case round =>
                      obtain ⟨i, d, z, hi, rfl, rfl, hz, rfl⟩ := hrel
                      have HZ := Lib.hid hz
                      clear hz
                      by_cases hil : i < q.length - 4
                      · have hx := (HROW2.out.drewN d).addr (k := i) (by rw [HLD.out]; exact hil)
                        unfold byteV at hx
                        have hs := Xxh.ones_step (x := z) (l := q.drop 4) (i := i) (by rw [HLD.out]; exact hil)
                        have HS := Lib.hid hs
                        clear hs
                        generalize (q.drop 4).getD i 0 = u at *
                        have huu := u.toNat_lt
                        have hu0 : (u.toNat : Int) ≤ 255 := by omega
                        clear huu
                        go_wp2_with (go_at_call 71; refine (turn_any _ _ _ (by omega)).mono ?_; rintro e w' ⟨rfl, d'', rfl⟩)
                        exact ⟨⟨i + 1, _, _, by omega, by go_num, rfl, by rw [← HZ.out, HS.out]; rfl, rfl⟩, by simp [intOf]; omega⟩
                      · have hz2 : O = z := by
                          have h := HZ.out
                          rw [List.drop_of_length_le (by rw [HLD.out]; omega)] at h
                          exact h.symm
                        have HZ2 := Lib.hid hz2
                        clear hz2
                        go_wp2
                        go_ret
                        exact ⟨ret_int (by rw [HXX.out, ← HE.out, HZ2.out]; rfl), _, rfl⟩
                · have hd4 : decide (4 ≤ (q.length : Int)) = false := by simp; omega
                  have hE := Xxh.tail_ones (x := y) (l := q) (by omega)
                  rw [HTY.out] at hE
                  have HE := Lib.hid hE.symm
                  clear hE
                  obtain ⟨O, hO⟩ : ∃ O, Xxh.ones y q = O := ⟨_, rfl⟩
                  rw [hO] at HE
                  have HO := Lib.hid hO
                  clear hO
                  go_wp2
                  go_loopw [3, 86] (fun x iv wr => ∃ (i d : Nat) (z : Int), i ≤ q.length ∧ iv = .int .i64 i ∧ x = .int .u64 z ∧ Xxh.ones z (q.drop i) = O ∧ wr = w.drewN d) (fun _ iv _ => q.length - (intOf iv).toNat)
                  case atStart => exact ⟨0, _, _, by omega, rfl, rfl, by rw [← HO.out]; rfl, rfl⟩
                  case round =>
                    obtain ⟨i, d, z, hi, rfl, rfl, hz, rfl⟩ := hrel
                    have HZ := Lib.hid hz
                    clear hz
                    by_cases hil : i < q.length
                    · obtain ⟨ab, aoff, hA, hab, hcell⟩ := HROW.out (by omega)
                      subst hA
                      have hx := (HROW.out.drewN d).addr (k := i) hil
                      unfold byteV at hx
                      have hs := Xxh.ones_step (x := z) (l := q) (i := i) hil
                      have HS := Lib.hid hs
                      clear hs hcell
                      generalize q.getD i 0 = u at *
                      have huu := u.toNat_lt
                      have hu0 : (u.toNat : Int) ≤ 255 := by omega
                      clear huu
                      go_wp2_with (go_at_call 71; refine (turn_any _ _ _ (by omega)).mono ?_; rintro e w' ⟨rfl, d'', rfl⟩)
                      exact ⟨⟨i + 1, _, _, by omega, by go_num, rfl, by rw [← HZ.out, HS.out]; rfl, rfl⟩, by simp [intOf]; omega⟩
                    · have hz2 : O = z := by
                        have h := HZ.out
                        rw [List.drop_of_length_le (by omega)] at h
                        exact h.symm
                      have HZ2 := Lib.hid hz2
                      clear hz2
                      go_wp2
                      go_ret
                      exact ⟨ret_int (by rw [HXX.out, ← HE.out, HZ2.out]; rfl), _, rfl⟩
  · have hd32 : decide (32 ≤ (all.length : Int)) = false := by simp; omega
    have HJ := Lib.hid (Xxh.head_lt h32)
    go_enter Try.func68, Try.ntmps68
    generalize hT : Xxh.tail (Xxh.addU (Xxh.head all) all.length) (Xxh.rest all) = T at *
    have HT := Lib.hid hT
    have hxx : Xxh.xxh64 all = T := hT
    have HXX := Lib.hid hxx
    clear hT hxx
    have HX0 := Lib.hid (rfl : Xxh.addU (Xxh.head all) all.length = IntKind.u64.wrap (Xxh.head all + (all.length : Int)))
    go_wp2
    go_loopw [3, 8] (fun x lv wr => ∃ (d ck : Nat) (Ak : Option Addr) (q : List UInt8) (y : Int), Xxh.tail y q = T ∧ lv = .slice Ak q.length ck ∧ q.length ≤ ck ∧ ck ≤ 9223372036854775807 ∧ BRow w w.heap.size Ak q ∧ x = .int .u64 y ∧ wr = w.drewN d)
      (fun _ lv _ => match lv with | .slice _ n _ => n | _ => 0)
    case atStart => exact ⟨0, c0, A0, Xxh.rest all, _, by rw [← HT.out, HJ.out, Xxh.add_p5 _ hlen], rfl, hc0, hm0, HR.out, rfl, rfl⟩
    case round =>
      obtain ⟨d, ck, Ak, q, y, hty, rfl, hqc, hck, hrow, rfl, rfl⟩ := hrel
      have HTY := Lib.hid hty
      have HROW := Lib.hid hrow
      clear hty hrow HR
      by_cases h8 : 8 ≤ q.length
      · have hd8 : decide (8 ≤ (q.length : Int)) = true := by simp; omega
        obtain ⟨ab, aoff, hA, hab, hcell⟩ := HROW.out (by omega)
        subst hA
        clear hcell
        have h8r := HROW.out.take 8
        have hl8 : (q.take 8).length = 8 := by rw [List.length_take]; omega
        have HL8 := Lib.hid hl8
        have H8R := Lib.hid h8r
        have hrow' : BRow w w.heap.size (if ck = 8 then (some ⟨ab, aoff, none⟩) else some ⟨ab, aoff + 8, none⟩) (q.drop 8) := by
          have h := HROW.out.drop (k := 8) (cap := ck) hqc
          rw [Option.map_some, Opn.add_at] at h
          exact h
        have HROW' := Lib.hid hrow'
        have HLD := Lib.hid (List.length_drop : (q.drop 8).length = q.length - 8)
        have hE := Xxh.tail_eight (x := y) h8
        rw [HTY.out] at hE
        have HE := Lib.hid hE.symm
        clear hE hrow' h8r hl8
        by_cases hck8 : ck = 8
        · subst hck8
          go_wp2_with (first | (go_at_call 70; refine (little_any _ (q.take 8) w.heap.size _ _ _ (H8R.out.drewN _) (by rw [HL8.out]) (by rw [HL8.out]; omega)).mono ?_; rintro e w' ⟨rfl, rfl⟩) | (go_at_call 69; refine (round_any _ _ _).mono ?_; rintro e w' ⟨rfl, d', rfl⟩) | (go_at_call 71; refine (turn_any _ _ _ (by omega)).mono ?_; rintro e w' ⟨rfl, d'', rfl⟩))
          exact ⟨⟨_, 0, some ⟨ab, aoff, none⟩, q.drop 8, _, HE.out, by rw [show (q.drop 8).length = 0 by rw [HLD.out]; omega], by rw [HLD.out]; omega, by omega, by simpa using HROW'.out, rfl, rfl⟩, by simp; omega⟩
        · go_wp2_with (first | (go_at_call 70; refine (little_any _ (q.take 8) w.heap.size _ _ _ (H8R.out.drewN _) (by rw [HL8.out]) (by rw [HL8.out]; omega)).mono ?_; rintro e w' ⟨rfl, rfl⟩) | (go_at_call 69; refine (round_any _ _ _).mono ?_; rintro e w' ⟨rfl, d', rfl⟩) | (go_at_call 71; refine (turn_any _ _ _ (by omega)).mono ?_; rintro e w' ⟨rfl, d'', rfl⟩))
          exact ⟨⟨_, ck - 8, some ⟨ab, aoff + 8, none⟩, q.drop 8, _, HE.out, by rw [HLD.out], by rw [HLD.out]; omega, by omega, by simpa [hck8] using HROW'.out, rfl, rfl⟩, by simp; omega⟩
      · have hd8 : decide (8 ≤ (q.length : Int)) = false := by simp; omega
        by_cases h4 : 4 ≤ q.length
        · have hd4 : decide (4 ≤ (q.length : Int)) = true := by simp; omega
          obtain ⟨ab, aoff, hA, hab, hcell⟩ := HROW.out (by omega)
          subst hA
          clear hcell
          have h4r := HROW.out.take 4
          have hl4 : (q.take 4).length = 4 := by rw [List.length_take]; omega
          have HL4 := Lib.hid hl4
          have H4R := Lib.hid h4r
          have hrow' : BRow w w.heap.size (if ck = 4 then (some ⟨ab, aoff, none⟩) else some ⟨ab, aoff + 4, none⟩) (q.drop 4) := by
            have h := HROW.out.drop (k := 4) (cap := ck) hqc
            rw [Option.map_some, Opn.add_at] at h
            exact h
          have HROW' := Lib.hid hrow'
          have HLD := Lib.hid (List.length_drop : (q.drop 4).length = q.length - 4)
          have hE := Xxh.tail_four (x := y) (l := q) (by omega) h4
          rw [HTY.out] at hE
          have HE := Lib.hid hE.symm
          clear hE hrow' h4r hl4
          by_cases hck4 : ck = 4
          · subst hck4
            have hr0 : q.drop 4 = [] := List.eq_nil_of_length_eq_zero (by rw [HLD.out]; omega)
            have hq4 : q.length = 4 := by omega
            have HQ4 := Lib.hid hq4
            have HR0 := Lib.hid hr0
            clear hr0 hq4
            go_wp2_with (first | (go_at_call 70; refine (little_any _ (q.take 4) w.heap.size _ _ _ (H4R.out.drewN _) (by rw [HL4.out]) (by rw [HL4.out]; omega)).mono ?_; rintro e w' ⟨rfl, rfl⟩) | (go_at_call 71; refine (turn_any _ _ _ (by omega)).mono ?_; rintro e w' ⟨rfl, d'', rfl⟩))
            refine wp_loop_once ?_
            go_wp2
            go_ret
            exact ⟨ret_int (by rw [HXX.out, ← HE.out, HR0.out]; rfl), _, rfl⟩
          · go_wp2_with (first | (go_at_call 70; refine (little_any _ (q.take 4) w.heap.size _ _ _ (H4R.out.drewN _) (by rw [HL4.out]) (by rw [HL4.out]; omega)).mono ?_; rintro e w' ⟨rfl, rfl⟩) | (go_at_call 71; refine (turn_any _ _ _ (by omega)).mono ?_; rintro e w' ⟨rfl, d'', rfl⟩))
            have hrow2 : BRow w w.heap.size (some ⟨ab, aoff + 4, none⟩) (q.drop 4) := by simpa [hck4] using HROW'.out
            have HROW2 := Lib.hid hrow2
            have hfour : Xxh.four y q = Xxh.addU (Xxh.mulU (Xxh.turn (Xxh.xr y (Xxh.mulU (Xxh.le (q.take 4)) 11400714785074694791)) 23) 14029467366897019727) 1609587929392839161 := rfl
            have HFO := Lib.hid hfour
            clear hrow2 hfour HROW'
            obtain ⟨O, hO⟩ : ∃ O, Xxh.ones (Xxh.four y q) (q.drop 4) = O := ⟨_, rfl⟩
            rw [hO] at HE
            have HO := Lib.hid hO
            clear hO
            go_loopw [3, 86] (fun x iv wr => ∃ (i d : Nat) (z : Int), i ≤ q.length - 4 ∧ iv = .int .i64 i ∧ x = .int .u64 z ∧ Xxh.ones z ((q.drop 4).drop i) = O ∧ wr = w.drewN d) (fun _ iv _ => (q.length - 4) - (intOf iv).toNat)
            case atStart => exact ⟨0, _, _, by omega, rfl, rfl, by rw [← HO.out]; rfl, rfl⟩
            case round =>
              obtain ⟨i, d, z, hi, rfl, rfl, hz, rfl⟩ := hrel
              have HZ := Lib.hid hz
              clear hz
              by_cases hil : i < q.length - 4
              · have hx := (HROW2.out.drewN d).addr (k := i) (by rw [HLD.out]; exact hil)
                unfold byteV at hx
                have hs := Xxh.ones_step (x := z) (l := q.drop 4) (i := i) (by rw [HLD.out]; exact hil)
                have HS := Lib.hid hs
                clear hs
                generalize (q.drop 4).getD i 0 = u at *
                have huu := u.toNat_lt
                have hu0 : (u.toNat : Int) ≤ 255 := by omega
                clear huu
                go_wp2_with (go_at_call 71; refine (turn_any _ _ _ (by omega)).mono ?_; rintro e w' ⟨rfl, d'', rfl⟩)
                exact ⟨⟨i + 1, _, _, by omega, by go_num, rfl, by rw [← HZ.out, HS.out]; rfl, rfl⟩, by simp [intOf]; omega⟩
              · have hz2 : O = z := by
                  have h := HZ.out
                  rw [List.drop_of_length_le (by rw [HLD.out]; omega)] at h
                  exact h.symm
                have HZ2 := Lib.hid hz2
                clear hz2
                go_wp2
                go_ret
                exact ⟨ret_int (by rw [HXX.out, ← HE.out, HZ2.out]; rfl), _, rfl⟩
        · have hd4 : decide (4 ≤ (q.length : Int)) = false := by simp; omega
          have hE := Xxh.tail_ones (x := y) (l := q) (by omega)
          rw [HTY.out] at hE
          have HE := Lib.hid hE.symm
          clear hE
          obtain ⟨O, hO⟩ : ∃ O, Xxh.ones y q = O := ⟨_, rfl⟩
          rw [hO] at HE
          have HO := Lib.hid hO
          clear hO
          go_wp2
          go_loopw [3, 86] (fun x iv wr => ∃ (i d : Nat) (z : Int), i ≤ q.length ∧ iv = .int .i64 i ∧ x = .int .u64 z ∧ Xxh.ones z (q.drop i) = O ∧ wr = w.drewN d) (fun _ iv _ => q.length - (intOf iv).toNat)
          case atStart => exact ⟨0, _, _, by omega, rfl, rfl, by rw [← HO.out]; rfl, rfl⟩
          case round =>
            obtain ⟨i, d, z, hi, rfl, rfl, hz, rfl⟩ := hrel
            have HZ := Lib.hid hz
            clear hz
            by_cases hil : i < q.length
            · obtain ⟨ab, aoff, hA, hab, hcell⟩ := HROW.out (by omega)
              subst hA
              have hx := (HROW.out.drewN d).addr (k := i) hil
              unfold byteV at hx
              have hs := Xxh.ones_step (x := z) (l := q) (i := i) hil
              have HS := Lib.hid hs
              clear hs hcell
              generalize q.getD i 0 = u at *
              have huu := u.toNat_lt
              have hu0 : (u.toNat : Int) ≤ 255 := by omega
              clear huu
              go_wp2_with (go_at_call 71; refine (turn_any _ _ _ (by omega)).mono ?_; rintro e w' ⟨rfl, d'', rfl⟩)
              exact ⟨⟨i + 1, _, _, by omega, by go_num, rfl, by rw [← HZ.out, HS.out]; rfl, rfl⟩, by simp [intOf]; omega⟩
            · have hz2 : O = z := by
                have h := HZ.out
                rw [List.drop_of_length_le (by omega)] at h
                exact h.symm
              have HZ2 := Lib.hid hz2
              clear hz2
              go_wp2
              go_ret
              exact ⟨ret_int (by rw [HXX.out, ← HE.out, HZ2.out]; rfl), _, rfl⟩
end Go.Proofs.Ytjhmebkkdgpneaa
