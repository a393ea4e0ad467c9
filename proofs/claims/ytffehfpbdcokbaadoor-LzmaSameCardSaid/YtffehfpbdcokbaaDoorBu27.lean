/- Texts of this proof, put together: LsB. -/
import Derived.Test.YtffehfpbdcokbaaDoorBu26
set_option linter.unusedVariables false
set_option linter.unusedSimpArgs false
/- LzmaSame: the walk. -/
namespace Go.Proofs.YtffehfpbdcokbaaDoor
open Go.RowKit Rng Lz Win
set_option linter.unusedVariables false
set_option linter.unusedSimpArgs false
set_option maxRecDepth 100000 in
set_option maxHeartbeats 8000000 in
theorem lawSame12 (A : Option Addr) (n1 c1 : Nat) (f : Nat → Int) (N : Int) (B : Option Addr) (n2 c2 : Nat) (g : Nat → Int) (KK TT : Int) (w : World) (hl1 : n1 ≤ c1) (hm1 : c1 ≤ maxLen) (hr1 : Opn.RowAt w w.heap.size A n1 (fun i => .int .u8 (f i))) (hf1 : ∀ i, i < n1 → 0 ≤ f i ∧ f i ≤ 255) (hs1 : n1 = 0 ∨ c1 ≤ 140737488351232)
    (hN : -9223372036854775808 ≤ N ∧ N ≤ 9223372036854775807) (hl2 : n2 ≤ c2) (hm2 : c2 ≤ maxLen) (hr2 : Opn.RowAt w w.heap.size B n2 (fun i => .int .u8 (g i))) (hf2 : ∀ i, i < n2 → 0 ≤ g i ∧ g i ≤ 255) (hs2 : n2 = 0 ∨ c2 ≤ 140737488351232)
    (hK : -9223372036854775808 ≤ KK ∧ KK ≤ 9223372036854775807) (hT : -9223372036854775808 ≤ TT ∧ TT ≤ 9223372036854775807) :
    Calls Tryd.prog 3 #[.slice A n1 c1, .int .i64 N, .slice B n2 c2, .int .i64 KK, .int .i64 TT] w fun e w' => e = .returned (.bool true) ∧ Below w.heap.size w w' := by
  obtain ⟨xs, has, hra⟩ := BRow.of_row hr1 hf1
  obtain ⟨bs, hbs, hrb⟩ := BRow.of_row hr2 hf2
  have HA : Hid (n1 = xs.length ∧ BRow w w.heap.size A xs ∧ xs.length ≤ c1 ∧ c1 ≤ maxLen) := Lib.hid ⟨has.symm, hra, by omega, hm1⟩
  have HB : Hid (n2 = bs.length ∧ BRow w w.heap.size B bs ∧ bs.length ≤ c2 ∧ c2 ≤ maxLen) := Lib.hid ⟨hbs.symm, hrb, by omega, hm2⟩
  obtain ⟨SM, hSM⟩ : ∃ s, n1 + n2 = s := ⟨_, rfl⟩
  have hsm : SM ≤ 281474976710656 := by omega
  have y1 : (n1 : Int) + (n2 : Int) = (SM : Int) := by omega
  have y2 : IntKind.i64.wrap (SM : Int) = (SM : Int) := Go.IntWalk.i64_in _ (by omega)
  have HW := Lib.hid wakes12
  have HSM := Lib.hid hSM
  have HT := Lib.hid hT
  clear hr1 hf1 hr2 hf2 hra hrb has hbs hl1 hl2 hm1 hm2 hs1 hs2 hSM hN hK hT
  by_cases hb1 : 16384 < SM
  · have q1 : (16384 : Int) < (SM : Int) := by omega
    clear hb1 hsm
    go_enter Tryd.func3, Tryd.ntmps3
    go_wp2_with fail
    refine (HW.out w).mono ?_; rintro e w2 ⟨rfl, hb2⟩
    have B2 := Lib.hid hb2
    clear hb2
    go_wp2
    go_ret
    exact ⟨rfl, B2.out⟩
  · have q1 : (SM : Int) ≤ 16384 := by omega
    have HSB := Lib.hid hb1
    clear hb1 hsm
    by_cases hb2 : 16384 < N
    · go_enter Tryd.func3, Tryd.ntmps3
      go_wp2_with fail
      refine (HW.out w).mono ?_; rintro e w2 ⟨rfl, hb2⟩
      have B2 := Lib.hid hb2
      clear hb2
      go_wp2
      go_ret
      exact ⟨rfl, B2.out⟩
    · have q2 : N ≤ 16384 := by omega
      clear hb2
      by_cases hb3 : 16384 < KK
      · go_enter Tryd.func3, Tryd.ntmps3
        go_wp2_with fail
        refine (HW.out w).mono ?_; rintro e w2 ⟨rfl, hb2⟩
        have B2 := Lib.hid hb2
        clear hb2
        go_wp2
        go_ret
        exact ⟨rfl, B2.out⟩
      · have q3 : KK ≤ 16384 := by omega
        clear hb3
        have hla : xs.length ≤ 140737488355328 := by have := HA.out.1; have := HSM.out; have := HSB.out; omega
        have hlb : bs.length ≤ 140737488355328 := by have := HB.out.1; have := HSM.out; have := HSB.out; omega
        obtain ⟨T1, z1, st1, rep1, pr1, C1, hz1, htl1, hst1, hrep1, h1⟩ := same_chunk 0 N 0 (fun _ => 0) (fun _ => 1024) 4096 [] xs (by omega) (fun _ => by omega) (by omega) (by omega) hla
        obtain ⟨T2, z2, st2, rep2, pr2, C2, hz2, htl2, hst2, hrep2, h2⟩ := same_chunk TT KK st1 rep1 pr1 4096 C1 bs hst1 hrep1 (by omega) HT.out.2 hlb
        obtain ⟨T3, z3, st3, rep3, pr3, C3, hz3, htl3, hst3, hrep3, h3⟩ := same_chunk TT KK 0 (fun _ => 0) (fun _ => 1024) 9 [] bs (by omega) (fun _ => by omega) (by omega) HT.out.2 hlb
        have H1 := Lib.hid h1
        have H2 := Lib.hid h2
        have H3 := Lib.hid h3
        have HE := Lib.hid (fun w => errno_p z2 hz2 w)
        have hsz := errS_size z2
        have hts : T2.toArray.size = T2.length := by simp
        have hadd : ¬ 9223372036854775807 < (errS z2).size + T2.toArray.size := by omega
        obtain ⟨ES, hES⟩ : ∃ s, errS z2 = s := ⟨_, rfl⟩
        rw [hES] at HE hadd
        have HADD := Lib.hid hadd
        obtain ⟨LT1, hLT1⟩ : ∃ l, T1.length = l := ⟨_, rfl⟩
        obtain ⟨LT2, hLT2⟩ : ∃ l, T2.length = l := ⟨_, rfl⟩
        have HL := Lib.hid (And.intro hLT1 hLT2)
        clear hadd hts hsz htl1 htl2 htl3 h1 h2 h3 hla hlb hst1 hrep1 hst2 hrep2 hz2 hst3 hrep3 hz3 hES hLT1 hLT2
        go_enter Tryd.func3, Tryd.ntmps3
        go_wp2
        go_loopw [11, 12] (fun v iv wr => ∃ i : Nat, iv = .int .i64 (i : Int) ∧ i ≤ 2 ∧ Hid (OwnS wr w.heap.size ((⟨ES⟩ : ByteArray) ++ ⟨T2.toArray⟩) v i ∧ Below w.heap.size w wr)) (fun _ iv _ => 2 - (intOf iv).toNat)
        case atStart => exact ⟨0, rfl, by omega, Lib.hid ⟨World.ownsRow_nil w _ _ _, Below.refl _ _⟩⟩
        case round =>
          obtain ⟨i, rfl, hi, HR⟩ := hrel
          obtain ⟨Av, cv, rfl, hcells⟩ := HR.out.1.slice
          have HCE := Lib.hid hcells
          clear hcells
          by_cases hlt : i < 2
          · have p1 : (i : Int) < 2 := by omega
            have p2 : IntKind.i64.wrap ((i : Int) + 1) = ((i + 1 : Nat) : Int) := by rw [Go.IntWalk.i64_in _ (by omega)]; rfl
            have HI := Lib.hid hlt
            clear hlt hi
            go_wp2_with fail
            refine (lnew_st _).mono ?_; rintro e w1 ⟨sb, lb, rfl, g1, g2, hs1, hb1⟩
            have S1 := Lib.hid (And.intro hs1 (And.intro g1 g2))
            have B1 := Lib.hid hb1
            clear hs1 hb1 g1 g2
            go_wp2_with fail
            refine (room_p 4096 _ (by omega) (by omega)).mono ?_; rintro e w2 ⟨wb, kb, rfl, g3, hw2, hb2⟩
            have S2 := Lib.hid (And.intro (S1.out.1.later hb2) (And.intro hw2 g3))
            have B2 := Lib.hid (B1.out.trans (hb2.mono B1.out.size))
            have Z2 := Lib.hid hb2.size
            clear hw2 hb2 g3
            go_wp2_with fail
            refine (H1.out sb lb w1.heap.size wb kb (.slice none 0 0) A n1 c1 w2 S2.out.1 S2.out.2.1 Z2.out HA.out.1 (((HA.out.2.1.below HR.out.2).below (B2.out.mono HR.out.2.size)).more (Nat.le_trans HR.out.2.size B2.out.size)) HA.out.2.2.1 HA.out.2.2.2).mono ?_
            rintro e w3 ⟨hf3, ⟨At, ct, rfl, hr3⟩, ha3⟩
            rw [HL.out.1]
            have B3 := Lib.hid (B2.out.trans (hf3.below B2.out.size (by
              have ga := S1.out.2.1; have gb := S1.out.2.2; have gc := S2.out.2.2; have gd := B1.out.size
              rintro q (e | e | e | e)
              · omega
              · omega
              · omega
              · cases e)))
            have F3 := Lib.hid ha3
            have B3Z : Hid (w2.heap.size ≤ w3.heap.size) := Lib.hid hf3.size
            clear hf3 hr3 ha3
            rcases hz1 with rfl | rfl | rfl
            · obtain ⟨wv3, hs3, hw3, hm3⟩ := F3.out (by decide)
              have W3 := Lib.hid (And.intro hs3 (And.intro hw3 hm3))
              clear hs3 hw3 hm3
              go_wp2_with fail
              refine (lnew_st _).mono ?_; rintro e w4 ⟨sb2, lb2, rfl, g4, g5, hs4, hb4⟩
              have S4 := Lib.hid (And.intro hs4 (And.intro g4 g5))
              have B4 := Lib.hid hb4
              clear hs4 hb4 g4 g5
              go_wp2_with fail
              refine (room_p 9 _ (by omega) (by omega)).mono ?_; rintro e w5 ⟨wb2, kb2, rfl, g6, hw5, hb5⟩
              have S5 := Lib.hid (And.intro (S4.out.1.later hb5) (And.intro hw5 g6))
              have B5 := Lib.hid (B4.out.trans (hb5.mono B4.out.size))
              have Z5 := Lib.hid hb5.size
              have BB5 : Hid (Below w.heap.size w w5) := Lib.hid (HR.out.2.trans ((B3.out.trans (B5.out.mono B3.out.size)).mono HR.out.2.size))
              clear hw5 hb5 g6
              go_wp2_with fail
              refine (H3.out sb2 lb2 w4.heap.size wb2 kb2 (.slice none 0 0) B n2 c2 w5 S5.out.1 S5.out.2.1 Z5.out HB.out.1 ((HB.out.2.1.below BB5.out).more BB5.out.size) HB.out.2.2.1 HB.out.2.2.2).mono ?_
              rintro e w6 ⟨hf6, ⟨At6, ct6, rfl, hr6⟩, ha6⟩
              have B6 := Lib.hid (B5.out.trans (hf6.below B5.out.size (by
                have ga := S4.out.2.1; have gb := S4.out.2.2; have gc := S5.out.2.2; have gd := B4.out.size
                rintro q (e | e | e | e)
                · omega
                · omega
                · omega
                · cases e)))
              have BB6 : Hid (Below w.heap.size w w6) := Lib.hid (HR.out.2.trans ((B3.out.trans (B6.out.mono B3.out.size)).mono HR.out.2.size))
              clear hf6 hr6 ha6
              go_wp2_with fail
              refine (H2.out sb lb w1.heap.size wb kb wv3 B n2 c2 w6 (W3.out.1.later B6.out) (W3.out.2.1.later B6.out) (Nat.le_trans Z2.out (Nat.le_trans B3Z.out B6.out.size)) HB.out.1 ((HB.out.2.1.below BB6.out).more BB6.out.size) HB.out.2.2.1 HB.out.2.2.2).mono ?_
              rintro e w7 ⟨hf7, ⟨At7, ct7, rfl, hr7⟩, ha7⟩
              rw [HL.out.2]
              have B7 : Hid (Below wr.heap.size wr w7) := Lib.hid ((B3.out.trans (B6.out.mono B3.out.size)).trans (hf7.below (Nat.le_trans B3.out.size B6.out.size) (by
                have ga := S1.out.2.1; have gb := S1.out.2.2; have gc := S2.out.2.2; have gd := B1.out.size; have ge := B2.out.size
                rintro q (e | e | e | e)
                · omega
                · omega
                · omega
                · rcases W3.out.2.2 q e with e2 | e2
                  · cases e2
                  · omega)))
              have R7 := Lib.hid hr7
              have O7 : Hid (OwnS w7 w.heap.size ((⟨ES⟩ : ByteArray) ++ ⟨T2.toArray⟩) (.slice Av i cv) i) := Lib.hid (HR.out.1.frm (S := fun _ => False) (Frm.of_below B7.out) (fun _ _ h => h))
              have k1 := fun (w' : World) (hb : Below w7.heap.size w7 w') => run_conv_bytes (P := Tryd.prog) w' 22 9 5 Tryd.underlying22 Tryd.underlying5 Tryd.underlying9 At7 LT2 ct7 _ T2 HL.out.2.symm (R7.out.below hb)
              obtain ⟨TA, hTA⟩ : ∃ t, T2.toArray = t := ⟨_, rfl⟩
              have hadd := HADD.out
              rw [hTA] at k1 O7 hadd
              have HTA := Lib.hid hTA
              clear hf7 hr7 ha7 hTA
              have K1 := Lib.hid k1
              have hS4 := K1.out w7.drew (Below.refl _ _).drew
              clear k1
              go_upto_region 14 with fail
              refine wp_region_noPanic ?_
              refine wp_region_headH 7 (fun w' => (Go.convert 22 9 (.slice At7 LT2 ct7)).run Tryd.prog w' = .ok (.string ⟨TA⟩) w') (by kernel_rfl) (by kernel_rfl) ?_
              simp only [List.drop_succ_cons, List.drop_zero]
              refine wpAnyH_take (i := 0) rfl (by kernel_rfl) (by kernel_rfl) (by kernel_rfl) (fun _ _ _ h => h) (Or.inl ⟨by rfl, by (intro w hSw; (try dsimp only at hSw); go_simp; try with_reducible rfl)⟩) hS4 ?_
              try simp only [Act.put, List.setIfInBounds_toArray, List.set_cons_zero, List.set_cons_succ]
              refine wpAnyH_take (i := 1) rfl (by kernel_rfl) (by kernel_rfl) (by kernel_rfl) (fun _ _ _ h => h) (Or.inl ⟨by rfl, by (intro w hSw; (try dsimp only at hSw); go_simp; try with_reducible rfl)⟩) hS4 ?_
              try simp only [Act.put, List.setIfInBounds_toArray, List.set_cons_zero, List.set_cons_succ]
              refine wpAnyH_take (i := 3) rfl (by kernel_rfl) (by kernel_rfl) (by kernel_rfl) (fun _ _ _ h => h) (Or.inl ⟨by rfl, by (intro w hSw; (try dsimp only at hSw); go_simp; try with_reducible rfl)⟩) hS4 ?_
              try simp only [Act.put, List.setIfInBounds_toArray, List.set_cons_zero, List.set_cons_succ]
              refine wpAnyH_take (i := 4) rfl (by kernel_rfl) (by kernel_rfl) (by kernel_rfl) (fun _ _ _ h => h) (Or.inl ⟨by rfl, by (intro w hSw; (try dsimp only at hSw); go_simp; try with_reducible rfl)⟩) hS4 ?_
              try simp only [Act.put, List.setIfInBounds_toArray, List.set_cons_zero, List.set_cons_succ]
              refine wpAnyH_ready (rs := [2]) (by kernel_rfl) (by simp) ?_
              refine AllReadyH.cons rfl (fun K2 hK2 => ?_) AllReadyH.nil
              go_simp
              refine (HE.out _).mono ?_; rintro e w' ⟨rfl, rfl⟩
              refine hK2.out _ _ hS4 (fun _ => ?_)
              clear hK2 K2
              try simp only [Act.put, List.setIfInBounds_toArray, List.set_cons_zero, List.set_cons_succ]
              refine wpAnyH_take (i := 5) rfl (by kernel_rfl) (by kernel_rfl) (by kernel_rfl) (fun _ _ _ h => h) (Or.inl ⟨by rfl, by (intro w hSw; (try dsimp only at hSw); go_simp; try with_reducible rfl)⟩) hS4 ?_
              try simp only [Act.put, List.setIfInBounds_toArray, List.set_cons_zero, List.set_cons_succ]
              refine wpAnyH_ready (rs := [6]) (by kernel_rfl) (by simp) ?_
              refine AllReadyH.cons rfl (fun K6 hK6 => ?_) AllReadyH.nil
              go_simp
              refine hK6.out _ _ (K1.out _ (below_alloc w7 _).drew) (fun _ => ?_)
              clear hK6 K6
              try simp only [Act.put, List.setIfInBounds_toArray, List.set_cons_zero, List.set_cons_succ]
              refine wpAnyH_done (by kernel_rfl) ?_ _
              change wpList _ _ _ _ _ _
              go_wp2_with (at_builtin; refine wpList_append_str _ rfl (.tmp 70) (.tmp 76) 24 rfl w.heap.size Tryd.underlying24 (.slice Av i cv) i ((⟨ES⟩ : ByteArray) ++ ⟨TA⟩) rfl ?owna w7.heap.size 1 rfl ?newsa ?lena ?basea ?nexta)
              case owna => exact (O7.out.frm (S := fun _ => False) ((Frm.refl _ w7).drewN 1) (fun _ _ h => h)).frm (S := fun _ => False) ((Frm.refl _ _).alloc _) (fun _ _ h => h)
              case newsa => exact Pts.new (w7.drewN 1) _ _
              case lena => have := HI.out; omega
              case basea => have h1 := HR.out.2.size; have h2 := B7.out.size; show w.heap.size ≤ (w7.alloc _).heap.size; rw [World.size_alloc]; omega
              case nexta =>
                intro v8 w8 hown8 hfrm8 hnew8
                have h1 : Below w.heap.size w (w7.drewN 1) := below_drewN (HR.out.2.trans (B7.out.mono HR.out.2.size)) 1
                have hb8 : Below w.heap.size w w8 := by
                  refine (h1.trans ((below_alloc (w7.drewN 1) _).mono h1.size)).trans (hfrm8.below ?_ (fun q hq => (HR.out.1.lt hq).1))
                  show w.heap.size ≤ (w7.alloc _).heap.size
                  rw [World.size_alloc]
                  have : w.heap.size ≤ w7.heap.size := h1.size
                  omega
                have HN : Hid (OwnS w8 w.heap.size ((⟨ES⟩ : ByteArray) ++ ⟨T2.toArray⟩) v8 (i + 1) ∧ Below w.heap.size w w8) := Lib.hid ⟨by rw [HTA.out]; exact hown8, hb8⟩
                clear hown8 hfrm8 hnew8 hb8 h1 hS4
                go_wp2
                refine NoPanic.normal ?_
                go_wp2
                exact ⟨⟨i + 1, rfl, HI.out, HN⟩, by show 2 - (i + 1) < 2 - i; have := HI.out; omega⟩
            · obtain ⟨wv3, hs3, hw3, hm3⟩ := F3.out (by decide)
              have W3 := Lib.hid (And.intro hs3 (And.intro hw3 hm3))
              clear hs3 hw3 hm3
              go_wp2_with fail
              refine (lnew_st _).mono ?_; rintro e w4 ⟨sb2, lb2, rfl, g4, g5, hs4, hb4⟩
              have S4 := Lib.hid (And.intro hs4 (And.intro g4 g5))
              have B4 := Lib.hid hb4
              clear hs4 hb4 g4 g5
              go_wp2_with fail
              refine (room_p 9 _ (by omega) (by omega)).mono ?_; rintro e w5 ⟨wb2, kb2, rfl, g6, hw5, hb5⟩
              have S5 := Lib.hid (And.intro (S4.out.1.later hb5) (And.intro hw5 g6))
              have B5 := Lib.hid (B4.out.trans (hb5.mono B4.out.size))
              have Z5 := Lib.hid hb5.size
              have BB5 : Hid (Below w.heap.size w w5) := Lib.hid (HR.out.2.trans ((B3.out.trans (B5.out.mono B3.out.size)).mono HR.out.2.size))
              clear hw5 hb5 g6
              go_wp2_with fail
              refine (H3.out sb2 lb2 w4.heap.size wb2 kb2 (.slice none 0 0) B n2 c2 w5 S5.out.1 S5.out.2.1 Z5.out HB.out.1 ((HB.out.2.1.below BB5.out).more BB5.out.size) HB.out.2.2.1 HB.out.2.2.2).mono ?_
              rintro e w6 ⟨hf6, ⟨At6, ct6, rfl, hr6⟩, ha6⟩
              have B6 := Lib.hid (B5.out.trans (hf6.below B5.out.size (by
                have ga := S4.out.2.1; have gb := S4.out.2.2; have gc := S5.out.2.2; have gd := B4.out.size
                rintro q (e | e | e | e)
                · omega
                · omega
                · omega
                · cases e)))
              have BB6 : Hid (Below w.heap.size w w6) := Lib.hid (HR.out.2.trans ((B3.out.trans (B6.out.mono B3.out.size)).mono HR.out.2.size))
              clear hf6 hr6 ha6
              go_wp2_with fail
              refine (H2.out sb lb w1.heap.size wb kb wv3 B n2 c2 w6 (W3.out.1.later B6.out) (W3.out.2.1.later B6.out) (Nat.le_trans Z2.out (Nat.le_trans B3Z.out B6.out.size)) HB.out.1 ((HB.out.2.1.below BB6.out).more BB6.out.size) HB.out.2.2.1 HB.out.2.2.2).mono ?_
              rintro e w7 ⟨hf7, ⟨At7, ct7, rfl, hr7⟩, ha7⟩
              rw [HL.out.2]
              have B7 : Hid (Below wr.heap.size wr w7) := Lib.hid ((B3.out.trans (B6.out.mono B3.out.size)).trans (hf7.below (Nat.le_trans B3.out.size B6.out.size) (by
                have ga := S1.out.2.1; have gb := S1.out.2.2; have gc := S2.out.2.2; have gd := B1.out.size; have ge := B2.out.size
                rintro q (e | e | e | e)
                · omega
                · omega
                · omega
                · rcases W3.out.2.2 q e with e2 | e2
                  · cases e2
                  · omega)))
              have R7 := Lib.hid hr7
              have O7 : Hid (OwnS w7 w.heap.size ((⟨ES⟩ : ByteArray) ++ ⟨T2.toArray⟩) (.slice Av i cv) i) := Lib.hid (HR.out.1.frm (S := fun _ => False) (Frm.of_below B7.out) (fun _ _ h => h))
              have k1 := fun (w' : World) (hb : Below w7.heap.size w7 w') => run_conv_bytes (P := Tryd.prog) w' 22 9 5 Tryd.underlying22 Tryd.underlying5 Tryd.underlying9 At7 LT2 ct7 _ T2 HL.out.2.symm (R7.out.below hb)
              obtain ⟨TA, hTA⟩ : ∃ t, T2.toArray = t := ⟨_, rfl⟩
              have hadd := HADD.out
              rw [hTA] at k1 O7 hadd
              have HTA := Lib.hid hTA
              clear hf7 hr7 ha7 hTA
              have K1 := Lib.hid k1
              have hS4 := K1.out w7.drew (Below.refl _ _).drew
              clear k1
              go_upto_region 14 with fail
              refine wp_region_noPanic ?_
              refine wp_region_headH 7 (fun w' => (Go.convert 22 9 (.slice At7 LT2 ct7)).run Tryd.prog w' = .ok (.string ⟨TA⟩) w') (by kernel_rfl) (by kernel_rfl) ?_
              simp only [List.drop_succ_cons, List.drop_zero]
              refine wpAnyH_take (i := 0) rfl (by kernel_rfl) (by kernel_rfl) (by kernel_rfl) (fun _ _ _ h => h) (Or.inl ⟨by rfl, by (intro w hSw; (try dsimp only at hSw); go_simp; try with_reducible rfl)⟩) hS4 ?_
              try simp only [Act.put, List.setIfInBounds_toArray, List.set_cons_zero, List.set_cons_succ]
              refine wpAnyH_take (i := 1) rfl (by kernel_rfl) (by kernel_rfl) (by kernel_rfl) (fun _ _ _ h => h) (Or.inl ⟨by rfl, by (intro w hSw; (try dsimp only at hSw); go_simp; try with_reducible rfl)⟩) hS4 ?_
              try simp only [Act.put, List.setIfInBounds_toArray, List.set_cons_zero, List.set_cons_succ]
              refine wpAnyH_take (i := 3) rfl (by kernel_rfl) (by kernel_rfl) (by kernel_rfl) (fun _ _ _ h => h) (Or.inl ⟨by rfl, by (intro w hSw; (try dsimp only at hSw); go_simp; try with_reducible rfl)⟩) hS4 ?_
              try simp only [Act.put, List.setIfInBounds_toArray, List.set_cons_zero, List.set_cons_succ]
              refine wpAnyH_take (i := 4) rfl (by kernel_rfl) (by kernel_rfl) (by kernel_rfl) (fun _ _ _ h => h) (Or.inl ⟨by rfl, by (intro w hSw; (try dsimp only at hSw); go_simp; try with_reducible rfl)⟩) hS4 ?_
              try simp only [Act.put, List.setIfInBounds_toArray, List.set_cons_zero, List.set_cons_succ]
              refine wpAnyH_ready (rs := [2]) (by kernel_rfl) (by simp) ?_
              refine AllReadyH.cons rfl (fun K2 hK2 => ?_) AllReadyH.nil
              go_simp
              refine (HE.out _).mono ?_; rintro e w' ⟨rfl, rfl⟩
              refine hK2.out _ _ hS4 (fun _ => ?_)
              clear hK2 K2
              try simp only [Act.put, List.setIfInBounds_toArray, List.set_cons_zero, List.set_cons_succ]
              refine wpAnyH_take (i := 5) rfl (by kernel_rfl) (by kernel_rfl) (by kernel_rfl) (fun _ _ _ h => h) (Or.inl ⟨by rfl, by (intro w hSw; (try dsimp only at hSw); go_simp; try with_reducible rfl)⟩) hS4 ?_
              try simp only [Act.put, List.setIfInBounds_toArray, List.set_cons_zero, List.set_cons_succ]
              refine wpAnyH_ready (rs := [6]) (by kernel_rfl) (by simp) ?_
              refine AllReadyH.cons rfl (fun K6 hK6 => ?_) AllReadyH.nil
              go_simp
              refine hK6.out _ _ (K1.out _ (below_alloc w7 _).drew) (fun _ => ?_)
              clear hK6 K6
              try simp only [Act.put, List.setIfInBounds_toArray, List.set_cons_zero, List.set_cons_succ]
              refine wpAnyH_done (by kernel_rfl) ?_ _
              change wpList _ _ _ _ _ _
              go_wp2_with (at_builtin; refine wpList_append_str _ rfl (.tmp 70) (.tmp 76) 24 rfl w.heap.size Tryd.underlying24 (.slice Av i cv) i ((⟨ES⟩ : ByteArray) ++ ⟨TA⟩) rfl ?ownb w7.heap.size 1 rfl ?newsb ?lenb ?baseb ?nextb)
              case ownb => exact (O7.out.frm (S := fun _ => False) ((Frm.refl _ w7).drewN 1) (fun _ _ h => h)).frm (S := fun _ => False) ((Frm.refl _ _).alloc _) (fun _ _ h => h)
              case newsb => exact Pts.new (w7.drewN 1) _ _
              case lenb => have := HI.out; omega
              case baseb => have h1 := HR.out.2.size; have h2 := B7.out.size; show w.heap.size ≤ (w7.alloc _).heap.size; rw [World.size_alloc]; omega
              case nextb =>
                intro v8 w8 hown8 hfrm8 hnew8
                have h1 : Below w.heap.size w (w7.drewN 1) := below_drewN (HR.out.2.trans (B7.out.mono HR.out.2.size)) 1
                have hb8 : Below w.heap.size w w8 := by
                  refine (h1.trans ((below_alloc (w7.drewN 1) _).mono h1.size)).trans (hfrm8.below ?_ (fun q hq => (HR.out.1.lt hq).1))
                  show w.heap.size ≤ (w7.alloc _).heap.size
                  rw [World.size_alloc]
                  have : w.heap.size ≤ w7.heap.size := h1.size
                  omega
                have HN : Hid (OwnS w8 w.heap.size ((⟨ES⟩ : ByteArray) ++ ⟨T2.toArray⟩) v8 (i + 1) ∧ Below w.heap.size w w8) := Lib.hid ⟨by rw [HTA.out]; exact hown8, hb8⟩
                clear hown8 hfrm8 hnew8 hb8 h1 hS4
                go_wp2
                refine NoPanic.normal ?_
                go_wp2
                exact ⟨⟨i + 1, rfl, HI.out, HN⟩, by show 2 - (i + 1) < 2 - i; have := HI.out; omega⟩
            · go_wp2_with fail
              refine (HW.out _).mono ?_; rintro e w4 ⟨rfl, hb4⟩
              have B4 := Lib.hid (HR.out.2.trans ((B3.out.trans (hb4.mono B3.out.size)).mono HR.out.2.size))
              clear hb4
              go_wp2
              go_ret
              exact ⟨rfl, B4.out⟩
          · obtain rfl : i = 2 := by omega
            obtain ⟨gq, rfl, hcc⟩ := HCE.out (by omega)
            have e0 := hcc 0 (by omega)
            have e1 := hcc 1 (by omega)
            clear hcc hlt hi
            go_wp2
            refine QTail.wp_region_qtail_lit 8 (by kernel_rfl) (by kernel_rfl) ?_
            simp only [List.take_succ_cons, List.take_zero, List.drop_succ_cons, List.drop_zero]
            repeat (go_big_quiet_step (fail))
            refine wpQuiet_nil ?_
            rintro w' ⟨nq, rfl⟩
            go_wp2_with fail
            refine (HW.out _).mono ?_; rintro e w4 ⟨rfl, hb4⟩
            have B4 := Lib.hid ((below_drewN HR.out.2 nq).trans (hb4.mono (below_drewN HR.out.2 nq).size))
            clear hb4
            go_wp2
            go_ret
            exact ⟨rfl, B4.out⟩
end Go.Proofs.YtffehfpbdcokbaaDoor
