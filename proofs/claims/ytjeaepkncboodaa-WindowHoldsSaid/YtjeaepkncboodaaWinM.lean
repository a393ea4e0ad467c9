/- The walk of WindowHolds. -/
import Derived.Test.YtjeaepkncboodaaWinL
namespace Go.Proofs.Ytjeaepkncboodaa
open Go.RowKit Win
set_option linter.unusedVariables false
set_option linter.unusedSimpArgs false

theorem modN (y : Int) (N : Nat) (hN : 0 < N) (hN2 : N ≤ 1000) : ∃ (t s : Int) (J : Nat), y.tmod N = t ∧ (-(N : Int) < t ∧ t < N) ∧ t + (N : Int) = s ∧ (0 < s ∧ s < 2 * (N : Int)) ∧ s.tmod N = J ∧ s % N = J ∧ J < N := by
  have a1 := Int.tmod_lt_of_pos y (b := (N : Int)) (by omega)
  have a2 := Int.lt_tmod_of_pos y (b := (N : Int)) (by omega)
  generalize y.tmod N = t at *
  have b1 := Int.emod_lt_of_pos (t + N) (b := (N : Int)) (by omega)
  have b2 := Int.emod_nonneg (t + N) (b := (N : Int)) (by omega)
  refine ⟨t, t + N, ((t + N) % N).toNat, rfl, ⟨a2, a1⟩, rfl, by omega, ?_, by omega, by omega⟩
  rw [Int.tmod_eq_emod_of_nonneg (by omega)]
  omega

set_option maxRecDepth 100000 in
set_option maxHeartbeats 2000000 in
theorem lawHolds06 (budget : Int) (X : Option Addr) (nx cx : Nat) (fx : Nat → Int) (Y : Option Addr) (ny cy : Nat) (fy : Nat → Int) (w : World) (_ib : -9223372036854775808 ≤ budget ∧ budget ≤ 9223372036854775807)
    (_x1 : nx ≤ cx) (_x2 : cx ≤ maxLen) (x3 : Opn.RowAt w w.heap.size X nx fun i => .int .i64 (fx i)) (_x4 : ∀ i, i < nx → -9223372036854775808 ≤ fx i ∧ fx i ≤ 9223372036854775807)
    (_y1 : ny ≤ cy) (_y2 : cy ≤ maxLen) (y3 : Opn.RowAt w w.heap.size Y ny fun i => .int .i64 (fy i)) (_y4 : ∀ i, i < ny → -9223372036854775808 ≤ fy i ∧ fy i ≤ 9223372036854775807) :
    Calls Try.prog 4 #[.int .i64 budget, .slice X nx cx, .slice Y ny cy] w fun e w' => e = .returned (.bool true) ∧ Below w.heap.size w w' := by
  have HX := Lib.hid x3
  have HY := Lib.hid y3
  have X4 := Lib.hid _x4
  have Y4 := Lib.hid _y4
  clear x3 y3 _x4 _y4 _ib
  by_cases hmain : nx ≤ 30 ∧ ny ≤ 60
  · obtain ⟨g1, g2⟩ := hmain
    obtain ⟨hB0, hB1⟩ := bud_bd budget
    go_enter Try.func4, Try.ntmps4
    go_wp2_with fail
    refine (new_led budget _).mono ?_; rintro e w1 ⟨rfl, hL1, b1⟩
    generalize bud budget = B at *
    have L1 := Lib.hid hL1
    have B1 := Lib.hid b1
    clear hL1 b1
    go_wp2
    go_loopw [8, 9, 10] (fun ov sv iv wr => ∃ (i : Nat) (ws : List Wn) (m : Int), iv = .int .i64 i ∧ sv = .int .i64 ((sumW ws : Nat) : Int) ∧ i ≤ nx ∧ ws.length ≤ i ∧ OwnP wr 25 w.heap.size ov (ws.map Wn.b) ∧ WsAt wr w.heap.size w.heap.size B ws m ∧ Below w.heap.size w wr) (fun _ _ iv _ => nx - (intOf iv).toNat)
    case atStart => exact ⟨0, [], 0, rfl, rfl, by omega, by simp, OwnP.nil _ _ _, ⟨L1.out, by simpa [sumW] using hB0, ⟨by simp [sumW], hB0⟩, fun j h => absurd h (by simp), fun i j h => absurd h (by simp)⟩, B1.out⟩
    case round =>
      obtain ⟨i, ws, m, rfl, rfl, hi, hwl, hown, hws, hbe⟩ := hrel
      have OW := Lib.hid hown
      have WS := Lib.hid hws
      have BE := Lib.hid hbe
      clear hown hws hbe L1 B1
      by_cases hlt : i < nx
      · obtain ⟨b, off, rfl, hb, hcell⟩ := HX.out (by omega)
        obtain ⟨z, hzz⟩ : ∃ z, fx i = z := ⟨_, rfl⟩
        have x0 : wr.cell? ⟨b, off + i, none⟩ = some (.int .i64 z) := by rw [← hzz]; exact (BE.out.cell (p := ⟨b, off + i, none⟩) hb).trans (hcell i hlt)
        clear hcell hzz
        by_cases hz : z < 1 ∨ 16777216 < z
        · have HZ := Lib.hid hz
          clear hz
          go_wp2_with (go_at_call 9; refine (new_size z _ _ HZ.out).mono ?_; rintro e w2 ⟨rfl, rfl⟩)
          exact ⟨⟨i + 1, ws, m, by go_num, rfl, by omega, by omega, OW.out, WS.out, BE.out⟩, by simp [intOf]; omega⟩
        · have hz2 : 1 ≤ z ∧ z ≤ 16777216 := by omega
          clear hz
          obtain ⟨S, rfl⟩ : ∃ S : Nat, z = S := ⟨z.toNat, by omega⟩
          have hS1 : 1 ≤ S := by omega
          have hS2 : S ≤ 16777216 := by omega
          clear hz2
          have hn := WS.out.n
          have hm := WS.out.m
          have NE := Lib.hid (OW.out.neLed WS.out.l)
          by_cases hfit : B - (sumW ws : Int) < S
          · have HF := Lib.hid hfit
            clear hfit
            go_wp2_with (go_at_call 9; refine (new_over w.heap.size S B (sumW ws : Int) m _ WS.out.l (by omega) (by omega) hm hS1 hS2 HF.out).mono ?_; rintro e w2 ⟨rfl, hl2, hf2⟩)
            exact ⟨⟨i + 1, ws, m, by go_num, rfl, by omega, by omega, OW.out.frm hf2 NE.out, WS.out.same hl2 hf2, BE.out.trans (hf2.below BE.out.size (fun k hk => by omega))⟩, by simp [intOf]; omega⟩
          · have HF := Lib.hid hfit
            clear hfit
            have hE : chE B (sumW ws) S = 0 := by unfold chE; rw [if_neg (by omega), if_neg (by have := HF.out; omega)]
            have hN : chN B (sumW ws) S = (sumW ws : Int) + S := by unfold chN; rw [if_neg (by omega), if_neg (by have := HF.out; omega)]
            have hM : chM B (sumW ws) m S = max m ((sumW ws : Int) + S) := by unfold chM; rw [if_neg (by omega), if_neg (by have := HF.out; omega)]
            have HE := Lib.hid hE
            have HN := Lib.hid hN
            have HM := Lib.hid hM
            clear hE hN hM
            go_wp2_with fail
            refine (new_win w.heap.size S B (sumW ws : Int) m _ WS.out.l (by omega) (by omega) hm hS1 hS2 HE.out).mono ?_
            rintro e w2 ⟨q, rfl, hp2, hq2, hl2, hf2⟩
            rw [HN.out, HM.out] at hl2
            have hsum : sumW (ws ++ [⟨q, S, true⟩]) = sumW ws + S := by rw [sumW_snoc]; rfl
            have hW2 : WsAt w2 w.heap.size w.heap.size B (ws ++ [⟨q, S, true⟩]) (max m ((sumW ws : Int) + S)) := WS.out.snoc ⟨hS1, hS2⟩ (by have := HF.out; omega) hq2 BE.out.size hp2.p hl2 hf2
            have hB2 : Below w.heap.size w w2 := BE.out.trans (hf2.below BE.out.size (fun k hk => by omega))
            have B3 := Lib.hid (hB2.alloc hB2.size (.cells #[ptrV q] 25 (0, 0)))
            have x3 := (B3.out.cell (p := ⟨b, off + i, none⟩) hb).trans ((BE.out.cell (p := ⟨b, off + i, none⟩) hb).symm.trans x0)
            have W3 := Lib.hid (hW2.later (w' := w2.alloc (.cells #[ptrV q] 25 (0, 0))) (((Frm.refl (fun _ => False) w2).alloc _).below (Nat.le_refl _) (fun _ h => h.elim)))
            have O3 := Lib.hid ((OW.out.frm hf2 NE.out).alloc (.cells #[ptrV q] 25 (0, 0)))
            have P3 := Lib.hid (Pts.new w2 #[ptrV q] 25)
            clear hp2 hl2 hf2 hW2 hB2
            obtain ⟨A8, k8, rfl, hc8, hm8⟩ := O3.out.slice
            simp only [List.length_map] at O3 hc8
            go_wp2_with (at_builtin; refine wpList_append_ptr _ rfl (.tmp 48) (.tmp 50) 39 rfl 25 w.heap.size Try.underlying39 Try.info_ptr _ (ws.map Wn.b) rfl ?own4 w2.heap.size 1 q rfl ?news4 ?len4 ?base4 ?next4)
            case own4 => exact O3.out
            case news4 => exact P3.out
            case len4 => simp; omega
            case base4 => exact B3.out.size
            case next4 =>
              intro v4 w4 hown4 hfrm4 hnew4
              have x4 := (hfrm4.below (B := w.heap.size) B3.out.size (fun k hk => (O3.out.lt hk).1)).cell (p := ⟨b, off + i, none⟩) hb |>.trans x3
              have B4 := Lib.hid (B3.out.trans (hfrm4.below (B := w.heap.size) B3.out.size (fun k hk => (O3.out.lt hk).1)))
              have W4 := Lib.hid (W3.out.frmP O3.out hfrm4)
              have O4 := Lib.hid hown4
              clear hown4 hfrm4 hnew4
              have hle : (sumW ws : Int) + S ≤ B := by have := HF.out; omega
              go_wp2
              exact ⟨⟨i + 1, ws ++ [⟨q, S, true⟩], _, by go_num, by rw [hsum]; rfl, by omega, by simp; omega, by rw [List.map_append]; exact O4.out, W4.out, B4.out⟩, by simp [intOf]; omega⟩
      · obtain rfl : i = nx := by omega
        clear hlt hi
        have hn30 : ws.length ≤ 30 := by omega
        obtain ⟨A8, k8, e8, hc8, hm8⟩ := OW.out.slice
        rw [List.length_map] at e8 hc8
        subst e8
        go_wp2
        go_loopw [9, 13] (fun sv iv wq => ∃ (i' : Nat) (ws' : List Wn), iv = .int .i64 i' ∧ sv = .int .i64 ((sumW ws' : Nat) : Int) ∧ i' ≤ ny ∧ ws'.length = ws.length ∧ ws'.map Wn.b = ws.map Wn.b ∧ OwnP wq 25 w.heap.size (.slice A8 ws.length k8) (ws.map Wn.b) ∧ WsAt wq w.heap.size w.heap.size B ws' m ∧ Below w.heap.size w wq) (fun _ iv _ => ny - (intOf iv).toNat)
        case atStart => exact ⟨0, ws, rfl, rfl, by omega, rfl, rfl, OW.out, WS.out, BE.out⟩
        case round =>
          obtain ⟨i', ws', rfl, rfl, hi', hwl', hmap, hown', hws', hbe'⟩ := hrel
          clear OW WS BE
          have OW := Lib.hid hown'
          have WS := Lib.hid hws'
          have BE := Lib.hid hbe'
          have MP := Lib.hid hmap
          have WL := Lib.hid hwl'
          clear hown' hws' hbe' hmap hwl'
          have hgo : (i' < ny ∧ 0 < ws.length) ∨ (i' < ny ∧ ws.length = 0) ∨ (i' = ny) := by omega
          rcases hgo with ⟨hlt, hne⟩ | hgo
          · skip
            · obtain ⟨b, off, rfl, hb, hcell⟩ := HY.out (by omega)
              obtain ⟨y, hyy⟩ : ∃ y, fy i' = y := ⟨_, rfl⟩
              have x0 : wr.cell? ⟨b, off + i', none⟩ = some (.int .i64 y) := by rw [← hyy]; exact (BE.out.cell (p := ⟨b, off + i', none⟩) hb).trans (hcell i' hlt)
              have hy := Y4.out i' hlt
              rw [hyy] at hy
              clear hcell hyy
              obtain ⟨t, s, J, ht, hts, hs, hss, hJ1, hJ2, hJ⟩ := modN y ws.length hne (by omega)
              obtain ⟨g, hA, hcellp⟩ : ∃ g, A8 = some ⟨g, 0, none⟩ ∧ ∀ k, k < ws.length → wr.cell? ⟨g, k, none⟩ = some (ptrV ((ws.map Wn.b).getD k 0)) := by
                rcases OW.out.form with ⟨e, e2⟩ | ⟨g, cap, cur, e, hg, hp, h1, h2, h3⟩
                · exfalso; have := congrArg List.length e2; simp at this; rw [this] at hne; simp at hne
                · rw [List.length_map] at e; injection e with e1 e3 e4; exact ⟨g, e1, fun k hk => h3 k (by simpa using hk)⟩
              subst hA
              have hJ' : J < ws'.length := by rw [WL.out]; exact hJ
              obtain ⟨⟨wb, S, on⟩, hx⟩ : ∃ x, ws'.getD J default = x := ⟨_, rfl⟩
              have x1 : wr.cell? ⟨g, J, none⟩ = some (.pointer (some ⟨wb, 0, none⟩)) := by rw [hcellp J hJ, ← MP.out, getD_map_b _ _ hJ', hx]; rfl
              obtain ⟨H, hH⟩ : ∃ H : Nat, (if on then S else 0) = H := ⟨_, rfl⟩
              have hset : sumW (ws'.set J ⟨wb, S, false⟩) + H = sumW ws' := by have h9 := sumW_set ws' J hJ'; rw [hx] at h9; rw [← hH]; exact h9
              have hmset : (ws'.set J ⟨wb, S, false⟩).map Wn.b = ws'.map Wn.b := by have h9 := map_set_off ws' J hJ'; rw [hx] at h9; exact h9
              have hneW : ∀ q, (Value.slice (some ⟨g, 0, none⟩) ws.length k8).ownBlock = some q → ¬ (q = wb ∨ q = w.heap.size) := by have h9 := OW.out.neWs WS.out hJ'; rw [hx] at h9; exact h9
              have hwb : w.heap.size ≤ wb := by have h9 := (WS.out.w J hJ').2.2.2; rw [hx] at h9; exact h9
              have hse : (sumW ws' : Int) - H = (sumW (ws'.set J ⟨wb, S, false⟩) : Int) := by omega
              have hnn := WS.out.n
              have HH := Lib.hid hH
              have HX2 := Lib.hid hx
              have HMS := Lib.hid hmset
              have HNW := Lib.hid hneW
              have hgJ : ((ws'.set J ⟨wb, S, false⟩).getD J default) = ⟨wb, S, false⟩ := by rw [getD_set _ _ _ _ hJ', if_pos rfl]
              have HGJ := Lib.hid hgJ
              obtain ⟨N2, hN2⟩ : ∃ N2 : Nat, sumW (ws'.set J ⟨wb, S, false⟩) = N2 := ⟨_, rfl⟩
              rw [hN2] at hse
              clear hH hx hmset hneW hset hcellp hgJ
              have HN2 := Lib.hid hN2
              clear hN2
              go_wp2_with fail
              refine (held_wx H WS.out hJ' HX2.out HH.out).mono ?_; rintro e w2 ⟨rfl, rfl⟩
              go_wp2_with fail
              refine (drop_wx WS.out hJ' HX2.out ⟨hB0, hB1⟩).mono ?_; rintro e w2 ⟨rfl, hws2, hf2⟩
              have W2 := Lib.hid hws2
              have O2 := Lib.hid (OW.out.frm hf2 (fun k hk => HNW.out k hk))
              have B2 := Lib.hid (BE.out.trans (hf2.below BE.out.size (fun k hk => by
                rcases hk with e | e
                · omega
                · omega)))
              clear hws2 hf2 x1
              go_wp2_with fail
              have hl2 := W2.out.l
              rw [HN2.out] at hl2
              refine (held_led _ B _ m _ hl2).mono ?_; rintro e w3 ⟨rfl, d, rfl⟩
              have W3 := Lib.hid (W2.out.later (below_drewN (Below.refl _ _) d))
              have O3 := Lib.hid (O2.out.frm ((Frm.refl (fun _ => False) _).drewN d) (fun _ _ h => h))
              have B3 := Lib.hid (below_drewN B2.out d)
              go_wp2_with fail
              refine (held_wx 0 W3.out (by rw [List.length_set]; exact hJ') HGJ.out rfl).mono ?_; rintro e w4 ⟨rfl, rfl⟩
              go_wp2
              exact ⟨⟨i' + 1, ws'.set J ⟨wb, S, false⟩, by go_num, by rw [HN2.out], by omega, by rw [List.length_set]; exact WL.out, HMS.out.trans MP.out, O3.out, W3.out, B3.out⟩, by simp [intOf]; omega⟩
          · rcases hgo with ⟨hlt, hn0⟩ | rfl
            all_goals
              go_wp2
              go_loopw [17] (fun iv wz => ∃ (i2 : Nat) (wt : List Wn), iv = .int .i64 i2 ∧ i2 ≤ ws.length ∧ wt.length = ws.length ∧ wt.map Wn.b = ws.map Wn.b ∧ OwnP wz 25 w.heap.size (.slice A8 ws.length k8) (ws.map Wn.b) ∧ WsAt wz w.heap.size w.heap.size B wt m ∧ Off i2 wt ∧ Below w.heap.size w wz) (fun iv _ => ws.length - (intOf iv).toNat)
              case atStart => exact ⟨0, ws', rfl, by omega, WL.out, MP.out, OW.out, WS.out, fun j hj => absurd hj (by omega), BE.out⟩
              case round =>
                obtain ⟨i2, wt, rfl, hi2, hwl2, hmap2, hown2, hws2, hoff, hbe2⟩ := hrel
                clear OW WS BE MP WL
                have OW := Lib.hid hown2
                have WS := Lib.hid hws2
                have BE := Lib.hid hbe2
                have MP := Lib.hid hmap2
                have WL := Lib.hid hwl2
                have OF := Lib.hid hoff
                clear hown2 hws2 hbe2 hmap2 hwl2 hoff
                by_cases hl2 : i2 < ws.length
                · first
                  | (exfalso; omega)
                  | (
                      obtain ⟨g, hA, hcellp⟩ : ∃ g, A8 = some ⟨g, 0, none⟩ ∧ ∀ k, k < ws.length → wr.cell? ⟨g, k, none⟩ = some (ptrV ((ws.map Wn.b).getD k 0)) := by
                        rcases OW.out.form with ⟨e, e2⟩ | ⟨g, cap, cur, e, hg, hp, h1, h2, h3⟩
                        · exfalso; have := congrArg List.length e2; simp at this; rw [this] at hl2; simp at hl2
                        · rw [List.length_map] at e; injection e with e1 e3 e4; exact ⟨g, e1, fun k hk => h3 k (by simpa using hk)⟩
                      subst hA
                      have hJ' : i2 < wt.length := by rw [WL.out]; exact hl2
                      obtain ⟨⟨wb, S, on⟩, hx⟩ : ∃ x, wt.getD i2 default = x := ⟨_, rfl⟩
                      have x1 : wr.cell? ⟨g, i2, none⟩ = some (.pointer (some ⟨wb, 0, none⟩)) := by rw [hcellp i2 hl2, ← MP.out, getD_map_b _ _ hJ', hx]; rfl
                      have hmset : (wt.set i2 ⟨wb, S, false⟩).map Wn.b = wt.map Wn.b := by have h9 := map_set_off wt i2 hJ'; rw [hx] at h9; exact h9
                      have hneW : ∀ q, (Value.slice (some ⟨g, 0, none⟩) ws.length k8).ownBlock = some q → ¬ (q = wb ∨ q = w.heap.size) := by have h9 := OW.out.neWs WS.out hJ'; rw [hx] at h9; exact h9
                      have hwb : w.heap.size ≤ wb := by have h9 := (WS.out.w i2 hJ').2.2.2; rw [hx] at h9; exact h9
                      have hof2 : Off (i2 + 1) (wt.set i2 ⟨wb, S, false⟩) := by have h9 := OF.out.set hJ'; rw [hx] at h9; exact h9
                      have HX2 := Lib.hid hx
                      have HMS := Lib.hid hmset
                      have HNW := Lib.hid hneW
                      have HO2 := Lib.hid hof2
                      clear hx hmset hneW hcellp hof2
                      go_wp2_with fail
                      refine (drop_wx WS.out hJ' HX2.out ⟨hB0, hB1⟩).mono ?_; rintro e w2 ⟨rfl, hws2, hf2⟩
                      have W2 := Lib.hid hws2
                      have O2 := Lib.hid (OW.out.frm hf2 (fun k hk => HNW.out k hk))
                      have B2 := Lib.hid (BE.out.trans (hf2.below BE.out.size (fun k hk => by
                        rcases hk with e | e
                        · omega
                        · omega)))
                      clear hws2 hf2 x1
                      go_wp2
                      exact ⟨⟨i2 + 1, wt.set i2 ⟨wb, S, false⟩, by go_num, by omega, by rw [List.length_set]; exact WL.out, HMS.out.trans MP.out, O2.out, W2.out, HO2.out, B2.out⟩, by simp [intOf]; omega⟩)
                · obtain rfl : i2 = ws.length := by omega
                  have hz : sumW wt = 0 := Off.all (by rw [WL.out]; exact OF.out)
                  go_wp2_with fail
                  have hl3 := WS.out.l
                  rw [hz] at hl3
                  refine (held_led _ B _ m _ hl3).mono ?_; rintro e w3 ⟨rfl, d, rfl⟩
                  have B3 := Lib.hid (below_drewN BE.out d)
                  go_wp2_with fail
                  refine (wakes06 _).mono ?_; rintro e w4 ⟨rfl, h4⟩
                  have B4 := Lib.hid (B3.out.trans (h4.mono B3.out.size))
                  clear h4
                  go_wp2
                  go_ret
                  exact ⟨rfl, B4.out⟩
  · have h5 : 30 < nx ∨ (nx ≤ 30 ∧ 60 < ny) := by omega
    clear hmain
    rcases h5 with h1 | ⟨h1, h2⟩
    all_goals
      go_enter Try.func4, Try.ntmps4
      go_wp2_with fail
      refine (wakes06 _).mono ?_; rintro e w1 ⟨rfl, h1⟩
      go_wp2
      go_ret
      exact ⟨rfl, h1⟩
end Go.Proofs.Ytjeaepkncboodaa
