/- The walk of WindowWhole. -/
import Derived.Test.YtjeaepkncboodaaWinO
namespace Go.Proofs.Ytjeaepkncboodaa
open Go.RowKit Win
set_option linter.unusedVariables false
set_option linter.unusedSimpArgs false

set_option maxRecDepth 100000 in
set_option maxHeartbeats 2000000 in
theorem lawWhole06 (size : Int) (A : Option Addr) (l : List WAct) (ln c : Nat) (w : World) (_is : -9223372036854775808 ≤ size ∧ size ≤ 9223372036854775807)
    (hln : ln = l.length) (hc : l.length ≤ c) (hcm : c ≤ maxLen) (hr : ActRow w w.heap.size A l) (hf : ∀ s ∈ l, s.Fits w w.heap.size ∧ s.bs.length ≤ 140737488355328) :
    Calls Try.prog 3 #[.int .i64 size, .slice A ln c] w fun e w' => e = .returned (.bool true) ∧ Below w.heap.size w w' := by
  subst hln
  have HR := Lib.hid hr
  have HF := Lib.hid hf
  clear hr hf
  go_enter Try.func3, Try.ntmps3
  go_wp2_with fail
  refine (great_any A l l.length c w.heap.size w rfl HR.out HF.out hc hcm).mono ?_; rintro e w1 ⟨⟨g, rfl, hg⟩, rfl⟩
  cases g
  · obtain ⟨hL, hM⟩ := hg rfl
    clear hg
    go_wp2_with fail
    refine (new_led 16777216 _).mono ?_; rintro e w1 ⟨rfl, hL1, b1⟩
    rw [show bud 16777216 = 16777216 by decide] at hL1
    have L1 := Lib.hid hL1
    have B1 := Lib.hid b1
    clear hL1 b1
    by_cases hs : size < 1 ∨ 16777216 < size
    · have HS := Lib.hid hs
      rcases hs with hs | hs
      · go_wp2_with (go_at_call 9; refine (new_size size _ _ HS.out).mono ?_; rintro e w2 ⟨rfl, rfl⟩)
        refine (wakes06 _).mono ?_; rintro e w2 ⟨rfl, h2⟩
        go_wp2
        go_ret
        exact ⟨rfl, B1.out.trans (h2.mono B1.out.size)⟩
      · go_wp2_with (go_at_call 9; refine (new_size size _ _ HS.out).mono ?_; rintro e w2 ⟨rfl, rfl⟩)
        refine (wakes06 _).mono ?_; rintro e w2 ⟨rfl, h2⟩
        go_wp2
        go_ret
        exact ⟨rfl, B1.out.trans (h2.mono B1.out.size)⟩
    · obtain ⟨S, rfl⟩ : ∃ S : Nat, size = S := ⟨size.toNat, by omega⟩
      have hS1 : 1 ≤ S := by omega
      have hS2 : S ≤ 16777216 := by omega
      clear hs _is
      go_wp2_with fail
      refine (new_win w.heap.size S 16777216 0 0 _ L1.out (by omega) (by omega) (by omega) hS1 hS2 (by unfold chE; rw [if_neg (by omega), if_neg (by omega)])).mono ?_
      rintro e w2 ⟨b, rfl, hw2, hb2, hl2, hf2⟩
      clear hl2
      have B2 := Lib.hid (B1.out.trans (hf2.below B1.out.size (fun k hk => by omega)))
      have W2 := Lib.hid hw2
      have hbw : w1.heap.size ≤ b := hb2
      have hw1 : w.heap.size ≤ w1.heap.size := B1.out.size
      have hw2s : w1.heap.size ≤ w2.heap.size := hf2.size
      obtain ⟨base, hbase⟩ : ∃ x, w1.heap.size = x := ⟨_, rfl⟩
      rw [hbase] at W2 hbw hw1 hw2s
      clear hbase hb2 hw2 hf2 L1 B1
      go_wp2
      go_loopw [7, 8] (fun av iv wr => ∃ (i a : Nat) (all R : List UInt8) (wv : Value), iv = .int .i64 i ∧ i ≤ l.length ∧ OwnB wr 5 base av all ∧ WinAt wr base b w.heap.size S wv R a ∧ content R a = lastN S all ∧ all.length ≤ muchs (l.take i) ∧ (∀ q, av.ownBlock = some q → wv.ownBlock ≠ some q) ∧ base ≤ wr.heap.size ∧ Below w.heap.size w wr) (fun _ iv _ => l.length - (intOf iv).toNat)
      case atStart => exact ⟨0, 0, [], [], .slice none 0 0, rfl, by omega, OwnB.nil _ _ _, W2.out, by simp [content, lastN], by simp, fun q h => (by cases h), hw2s, B2.out⟩
      case round =>
        obtain ⟨i, a, all, R, wv, rfl, hi, hown, hwin, hcon, hall, hne, hbs, hbe⟩ := hrel
        clear W2 B2
        obtain ⟨Ao, co, rfl, hco, hmo, _⟩ := hown.slice
        have hbp := hwin.p.lt
        have hnb := own_ne hown hwin.p (by decide)
        have OW := Lib.hid hown
        have WI := Lib.hid hwin
        have NB := Lib.hid hnb
        clear hnb
        have CN := Lib.hid hcon
        have NE := Lib.hid hne
        have BE := Lib.hid hbe
        clear hown hwin hcon hne hbe
        by_cases hlt : i < l.length
        · obtain ⟨b0, off, rfl, hb, hcell⟩ := HR.out (by omega)
          obtain ⟨c0, c1, c2, c3⟩ := hcell i hlt
          have hx : l.getD i default ∈ l := by rw [List.getD, List.getElem?_eq_getElem hlt]; exact List.getElem_mem hlt
          have hmu := muchs_take hlt
          have hmle := muchs_le l (i + 1)
          obtain ⟨hfit, hlen⟩ := HF.out _ hx
          obtain ⟨⟨d, A1, bs, cap, back, n⟩, hxx⟩ : ∃ x, l.getD i default = x := ⟨_, rfl⟩
          rw [hxx] at c0 c1 c2 c3 hfit hmu hlen
          obtain ⟨d1, d2⟩ := hfit.d
          obtain ⟨d3, d4⟩ := hfit.c
          obtain ⟨d5, d6⟩ := hfit.n
          obtain ⟨d7, d8⟩ := hfit.b
          have hrow : BRow w w.heap.size A1 bs := hfit.r
          simp only at c0 c1 c2 c3 d1 d2 d3 d4 d5 d6 d7 d8 hlen
          simp only [WAct.much] at hmu
          have x0 := (BE.out.cell (p := ⟨b0, off + i * 4, none⟩) hb).trans c0
          have x1 := (BE.out.cell (p := ⟨b0, off + i * 4 + 1, none⟩) hb).trans c1
          have x2 := (BE.out.cell (p := ⟨b0, off + i * 4 + 2, none⟩) hb).trans c2
          have x3 := (BE.out.cell (p := ⟨b0, off + i * 4 + 3, none⟩) hb).trans c3
          have ROW := Lib.hid hrow
          clear hcell hfit hxx hx c0 c1 c2 c3 hrow
          by_cases hd : d = 0
          · subst hd
            go_wp2_with fail
            obtain ⟨X, hX⟩ : ∃ X, Obj.cells #[.int .i64 0, .slice A1 bs.length cap, .int .i64 back, .int .i64 n] 33 = X := ⟨_, rfl⟩
            have bel : Below wr.heap.size wr (wr.alloc X) := ((Frm.refl (fun _ => False) wr).alloc X).below (Nat.le_refl _) (fun _ h => h.elim)
            have P0 : Pts (wr.alloc X) wr.heap.size #[.int .i64 0, .slice A1 bs.length cap, .int .i64 back, .int .i64 n] 33 := by subst hX; exact Pts.new wr _ _
            have BE1 := Lib.hid (BE.out.alloc (by omega : w.heap.size ≤ wr.heap.size) X)
            have hsz : (wr.alloc X).heap.size = wr.heap.size + 1 := by simp
            rw [hX]
            refine (put_any base b w.heap.size S a cap w.heap.size bs.length wv R A1 bs _ (WI.out.later bel) rfl (ROW.out.below BE1.out) (BOff.of_row ROW.out (by
              rintro k (rfl | hk)
              · omega
              · have := (WI.out.o.lt hk).1; omega)) d3 d4 (by omega) (by omega) hS2 (by omega)).mono ?_
            rintro e w3 ⟨v3, R3, a3, rfl, hw3, hc3, hf3, ho3⟩
            have O3 := Lib.hid ((OW.out.alloc X).frm hf3 (fun q hq => by
              rintro (rfl | hk)
              · exact NB.out hq
              · exact NE.out q hq hk))
            have P3 := Lib.hid (P0.frm hf3 (by
              rintro (e | hk)
              · omega
              · have := (WI.out.o.lt hk).2; omega))
            have B3 := Lib.hid (BE1.out.trans (hf3.below BE1.out.size (by
              rintro k (rfl | hk)
              · omega
              · have := (WI.out.o.lt hk).1; omega)))
            have hs3 := hf3.size
            have W3 := Lib.hid hw3
            have NE3 : ∀ q, (Value.slice Ao all.length co).ownBlock = some q → v3.ownBlock ≠ some q := by
              intro q hq e
              rcases ho3 with h | h
              · exact NE.out q hq (h ▸ e)
              · rw [h] at e; injection e with e; have := (OW.out.lt hq).2; omega
            have N3 := Lib.hid NE3
            have CN3 : content R3 a3 = lastN S (all ++ bs) := by rw [hc3, CN.out, lastN_lastN]
            have C3 := Lib.hid CN3
            have x13 := P3.out.cell 1
            clear hw3 hc3 hf3 ho3 NE3 CN3 P0 bel hX
            simp at x13
            go_wp2_with (at_builtin; refine wpList_append_bytes _ rfl (.tmp 51) (.tmp 53) 31 rfl 5 base Try.underlying31 Try.info_u8 (.slice Ao all.length co) all rfl ?own4 A1 bs.length cap w.heap.size bs rfl rfl ?row4 ?len4 ?base4 ?next4)
            case own4 => exact O3.out
            case row4 => exact ROW.out.below B3.out
            case len4 => omega
            case base4 => omega
            case next4 =>
              intro v4 w4 hown4 hfrm4 hnew4
              have W4 := Lib.hid (W3.out.frm hfrm4 (fun hq => own_ne O3.out W3.out.p (by decide) hq) (fun q hq hq2 => N3.out q hq2 hq))
              have B4 := Lib.hid (B3.out.trans (hfrm4.below B3.out.size (fun k hk => by have := (O3.out.lt hk).1; omega)))
              have hs4 := hfrm4.size
              have O4 := Lib.hid hown4
              have N4 : ∀ q, v4.ownBlock = some q → v3.ownBlock ≠ some q := by
                intro q hq e
                rcases hnew4 with h | h
                · exact N3.out q (h ▸ hq) e
                · rw [h] at hq; injection hq with hq; have := (W3.out.o.lt e).2; omega
              have N4 := Lib.hid N4
              clear hown4 hfrm4 hnew4
              go_wp2
              exact ⟨⟨i + 1, a3, all ++ bs, R3, v3, by go_num, by omega, O4.out, W4.out, C3.out, by rw [List.length_append]; omega, N4.out, by omega, B4.out⟩, by simp [intOf]; omega⟩
          · obtain ⟨X, hX⟩ : ∃ X, Obj.cells #[.int .i64 d, .slice A1 bs.length cap, .int .i64 back, .int .i64 n] 33 = X := ⟨_, rfl⟩
            have bel : Below wr.heap.size wr (wr.alloc X) := ((Frm.refl (fun _ => False) wr).alloc X).below (Nat.le_refl _) (fun _ h => h.elim)
            have P0 : Pts (wr.alloc X) wr.heap.size #[.int .i64 d, .slice A1 bs.length cap, .int .i64 back, .int .i64 n] 33 := by subst hX; exact Pts.new wr _ _
            have W0 := Lib.hid (WI.out.later bel)
            have BE1 := Lib.hid (BE.out.alloc (by omega : w.heap.size ≤ wr.heap.size) X)
            have hsz : (wr.alloc X).heap.size = wr.heap.size + 1 := by simp
            have O0 := Lib.hid (OW.out.alloc X)
            have hRl := back_may CN.out (a := a) (back := back.toNat)
            have HX := Lib.hid hX
            by_cases hok : (0 ≤ n ∧ n ≤ 16777216) ∧ (1 ≤ back ∧ back ≤ S ∧ back ≤ all.length)
            · obtain ⟨N, rfl⟩ : ∃ N : Nat, n = N := ⟨n.toNat, by omega⟩
              obtain ⟨K, rfl⟩ : ∃ K : Nat, back = K := ⟨back.toNat, by omega⟩
              have hK1 : 1 ≤ K := by omega
              have hKa : K ≤ all.length := by omega
              have hKR : K ≤ R.length := by rw [Int.toNat_natCast] at hRl; exact hRl.2 (by omega)
              have hN2 : N ≤ 16777216 := by omega
              have hmu2 : muchs (List.take (i + 1) l) = muchs (List.take i l) + (bs.length + N) := by
                rw [hmu]
                by_cases h0 : 0 < N
                · rw [if_pos (by omega)]; omega
                · rw [if_neg (by omega)]; omega
              have hcy : cyc (content R a) K N = cyc all K N := by rw [CN.out]; exact cyc_last hK1 (by omega) hKa
              have HCP := Lib.hid (copy_any base b w.heap.size S a K N wv R _ W0.out (by omega) hS2 hN2 hK1 hKR)
              rw [hcy] at HCP
              have hcyl : (cyc all K N).length = N := cyc_length _ _ _
              have hstep : ∀ k, k < N → (all ++ (cyc all K N).take k).getD (all.length + k - K) 0 = (cyc all K N).getD k 0 := fun k hk => copy_step hK1 hKa hk
              obtain ⟨cy, hcyd⟩ : ∃ cy, cyc all K N = cy := ⟨_, rfl⟩
              rw [hcyd] at HCP hcyl hstep
              have HST := Lib.hid hstep
              have hb1 : (1 : Int) ≤ K := by omega
              have hb2 : (K : Int) ≤ S := by omega
              have hb3 : (K : Int) ≤ all.length := by omega
              clear hstep hcyd hcy hmu hok hRl bel
              obtain ⟨wo, rfl⟩ : ∃ wo : World, wo = wr := ⟨_, rfl⟩
              have PP := Lib.hid P0
              clear P0 hX
              go_wp2_with fail
              rw [HX.out]
              refine HCP.out.mono ?_
              rintro e w3 ⟨ov, v3, R3, a3, rfl, hw3, hc3, hov, hf3, ho3⟩
              have O3 := Lib.hid (O0.out.frm hf3 (fun q hq => by
                rintro (rfl | hk)
                · exact NB.out hq
                · exact NE.out q hq hk))
              have P3 := Lib.hid (PP.out.frm hf3 (by
                rintro (e | hk)
                · omega
                · have := (WI.out.o.lt hk).2; omega))
              have B3 := Lib.hid (BE1.out.trans (hf3.below BE1.out.size (by
                rintro k (rfl | hk)
                · omega
                · have := (WI.out.o.lt hk).1; omega)))
              have hs3 := hf3.size
              have W3 := Lib.hid hw3
              have NE3 : ∀ q, (Value.slice Ao all.length co).ownBlock = some q → v3.ownBlock ≠ some q := by
                intro q hq e
                rcases ho3 with h | ⟨g, h, hg, _⟩
                · exact NE.out q hq (h ▸ e)
                · rw [h] at e; injection e with e; have := (OW.out.lt hq).2; omega
              have NV3 : ∀ q, (Value.slice Ao all.length co).ownBlock = some q → ov.ownBlock ≠ some q := by
                intro q hq e
                have h1 := (hov.lt e).1
                have h2 := (OW.out.lt hq).2
                omega
              have C3 : content R3 a3 = lastN S (all ++ cy) := by rw [hc3, CN.out, lastN_lastN]
              have C3 := Lib.hid C3
              have N3 := Lib.hid NE3
              have M3 := Lib.hid NV3
              have V3 := Lib.hid hov
              clear hw3 hc3 hov hf3 ho3 NE3 NV3 PP
              have y2 : w3.cell? ⟨wo.heap.size, 2, none⟩ = some (.int .i64 K) := by rw [P3.out.cell]; rfl
              have y3 : w3.cell? ⟨wo.heap.size, 3, none⟩ = some (.int .i64 N) := by rw [P3.out.cell]; rfl
              obtain ⟨Av, cv, e8, hcv, hmv, _⟩ := V3.out.slice
              rw [hcyl] at e8 hcv
              subst e8
              clear W0 BE1 O0 HCP HX
              go_wp2
              go_loopw [7, 13] (fun av kv wz => ∃ (k : Nat) (cur : List UInt8), kv = .int .i64 k ∧ k ≤ N ∧ cur = all ++ cy.take k ∧ OwnB wz 5 base av cur ∧ WinAt wz base b w.heap.size S v3 R3 a3 ∧ OwnB wz 5 (wo.alloc X).heap.size (.slice Av N cv) cy ∧
                  Pts wz wo.heap.size #[.int .i64 d, .slice A1 bs.length cap, .int .i64 K, .int .i64 N] 33 ∧ (∀ q, av.ownBlock = some q → v3.ownBlock ≠ some q) ∧ (∀ q, av.ownBlock = some q → (Value.slice Av N cv).ownBlock ≠ some q) ∧ w3.heap.size ≤ wz.heap.size ∧ Below w.heap.size w wz) (fun _ kv _ => N - (intOf kv).toNat)
              case atStart => exact ⟨0, all, rfl, by omega, by simp, O3.out, W3.out, V3.out, P3.out, N3.out, M3.out, Nat.le_refl _, B3.out⟩
              case round =>
                obtain ⟨k, cur, rfl, hk, hcur, hown, hwin, hov, hpt, hn1, hn2, hsz2, hbe2⟩ := hrel
                clear O3 P3 B3 W3 N3 M3 V3 y2 y3
                have hcl : cur.length = all.length + k := by rw [hcur, List.length_append, List.length_take]; omega
                obtain ⟨Aq, cq, rfl, hcq, hmq, hrq⟩ := hown.slice
                have O5 := Lib.hid hown
                have W5 := Lib.hid hwin
                have V5 := Lib.hid hov
                have P5 := Lib.hid hpt
                have N5 := Lib.hid hn1
                have M5 := Lib.hid hn2
                have B5 := Lib.hid hbe2
                have CU := Lib.hid hcur
                clear hown hwin hov hpt hn1 hn2 hbe2 hcur
                by_cases hkn : k < N
                · have hst := HST.out k hkn
                  rw [← CU.out, ← hcl] at hst
                  obtain ⟨vb, voff, rfl, _, hvc⟩ := V5.out.slice_row (by omega)
                  have z1 := hvc k (by omega)
                  obtain ⟨qb, qoff, rfl, _, hqc⟩ := hrq (by omega)
                  have z2 := hqc (cur.length - K) (by omega)
                  rw [hst] at z2
                  obtain ⟨u, hu⟩ : ∃ u, cy.getD k 0 = u := ⟨_, rfl⟩
                  rw [hu] at z1 z2 hst
                  have z1' : wr.cell? ⟨vb, voff + k, none⟩ = some (.int .u8 (u.toNat : Int)) := z1
                  have z2' : wr.cell? ⟨qb, qoff + (cur.length - K), none⟩ = some (.int .u8 (u.toNat : Int)) := z2
                  have hkc : K ≤ cur.length := by omega
                  have hwr : IntKind.i64.wrap ((cur.length : Int) - K) = ((cur.length - K : Nat) : Int) := by
                    rw [Go.IntWalk.i64_in _ (by omega)]; omega
                  have hkc2 : cur.length - K < cur.length := by omega
                  have hcl2 : cur.length ≤ 1048576 := by omega
                  have HCL := Lib.hid hcl
                  clear hvc hqc hrq hst hcl z1 z2
                  have y2 : wr.cell? ⟨wo.heap.size, 2, none⟩ = some (.int .i64 K) := by rw [P5.out.cell]; rfl
                  go_wp2
                  go_quiet (fail)
                  go_wp2_with (at_builtin; refine wpList_append_bytes _ rfl (.tmp 133) (.tmp 138) 31 rfl 5 base Try.underlying31 Try.info_u8 (.slice (some ⟨qb, qoff, none⟩) cur.length cq) cur rfl ?own6 (some ⟨wr.heap.size, 0, none⟩) 1 1 (wr.heap.size + 1) [u] rfl rfl ?row6 ?len6 ?base6 ?next6)
                  case own6 => exact (O5.out.drewN nq).alloc _
                  case row6 => intro _; exact ⟨wr.heap.size, 0, rfl, Nat.lt_succ_self _, fun j hj => by
                      obtain rfl : j = 0 := by simpa using hj
                      exact ((Pts.new (wr.drewN nq) #[.int .u8 (u.toNat : Int)] 5).cell 0).trans rfl⟩
                  case len6 => simp only [List.length_cons, List.length_nil]; omega
                  case base6 => show base ≤ (wr.heap.push _).size; rw [Array.size_push]; omega
                  case next6 =>
                    intro v7 w7 hown7 hfrm7 hnew7
                    obtain ⟨Y, hY⟩ : ∃ Y, Obj.cells #[.int .u8 (u.toNat : Int)] 5 = Y := ⟨_, rfl⟩
                    rw [hY] at hfrm7
                    have belY : Below wr.heap.size wr ((wr.drewN nq).alloc Y) := (((Frm.refl (fun _ => False) wr).drewN nq).alloc Y).below (Nat.le_refl _) (fun _ h => h.elim)
                    have hsY : ((wr.drewN nq).alloc Y).heap.size = wr.heap.size + 1 := by show (wr.heap.push _).size = _; rw [Array.size_push]
                    have hs7 := hfrm7.size
                    have W7 := Lib.hid ((W5.out.later belY).frm hfrm7 (fun hq => own_ne O5.out W5.out.p (by decide) hq) (fun q hq hq2 => N5.out q hq2 hq))
                    have V7 := Lib.hid (((V5.out.drewN nq).alloc Y).frm hfrm7 (fun q hq hq2 => M5.out q hq2 hq))
                    have P7 := Lib.hid (((P5.out.drewN nq).alloc Y).frm hfrm7 (fun hq => own_ne O5.out P5.out (by decide) hq))
                    have B7 := Lib.hid (((below_drewN B5.out nq).alloc B5.out.size Y).trans (hfrm7.below (by rw [hsY]; have := B5.out.size; omega) (fun q hq => by have := (O5.out.lt hq).1; omega)))
                    have N7 : ∀ q, v7.ownBlock = some q → v3.ownBlock ≠ some q := by
                      intro q hq e
                      rcases hnew7 with h | h
                      · exact N5.out q (h ▸ hq) e
                      · rw [h] at hq; injection hq with hq; have := (W5.out.o.lt e).2; omega
                    have M7 : ∀ q, v7.ownBlock = some q → (Value.slice (some ⟨vb, voff, none⟩) N cv).ownBlock ≠ some q := by
                      intro q hq e
                      rcases hnew7 with h | h
                      · exact M5.out q (h ▸ hq) e
                      · rw [h] at hq; injection hq with hq; have := (V5.out.lt e).2; omega
                    have hc7 : cur ++ [u] = all ++ cy.take (k + 1) := by rw [CU.out, List.append_assoc, ← hu, take_snoc (by omega)]
                    have N7 := Lib.hid N7
                    have M7 := Lib.hid M7
                    have O7 := Lib.hid hown7
                    clear hown7 hfrm7 hnew7 belY hY
                    go_wp2
                    exact ⟨⟨k + 1, cur ++ [u], by go_num, by omega, hc7, O7.out, W7.out, V7.out, P7.out, N7.out, M7.out, by omega, B7.out⟩, by simp [intOf]; omega⟩
                · obtain rfl : k = N := by omega
                  have hfin : cur = all ++ cy := by rw [CU.out, ← hcyl, List.take_length]
                  subst hfin
                  go_wp2
                  exact ⟨⟨i + 1, a3, all ++ cy, R3, v3, by go_num, by omega, O5.out, W5.out, C3.out, by rw [hcl]; omega, N5.out, by omega, B5.out⟩, by simp [intOf]; omega⟩
            · have hcopy : Calls Try.prog 12 #[.pointer (some ⟨b, 0, none⟩), .int .i64 back, .int .i64 n] (wr.alloc X) fun e w' => ∃ en : Int, e = .returned (.tuple #[.slice none 0 0, .int .i64 en]) ∧ (en = 2 ∨ en = 11) ∧ wr.alloc X = w' := by
                by_cases hn : n < 0 ∨ 16777216 < n
                · exact (copy_arg base b w.heap.size S a back n wv R _ W0.out hn).mono (by rintro e w' ⟨rfl, rfl⟩; exact ⟨2, rfl, .inl rfl, rfl⟩)
                · exact (copy_bad base b w.heap.size S a back n wv R _ W0.out (by omega) (by omega)).mono (by rintro e w' ⟨rfl, rfl⟩; exact ⟨11, rfl, .inr rfl, rfl⟩)
              have HC := Lib.hid hcopy
              have hbad : n < 0 ∨ (0 ≤ n ∧ 16777216 < n) ∨ ((0 ≤ n ∧ n ≤ 16777216) ∧ back < 1) ∨ ((0 ≤ n ∧ n ≤ 16777216) ∧ 1 ≤ back ∧ (S : Int) < back) ∨ ((0 ≤ n ∧ n ≤ 16777216) ∧ 1 ≤ back ∧ back ≤ S ∧ (all.length : Int) < back) := by omega
              clear hcopy hok hRl bel
              have y2 : (wr.alloc X).cell? ⟨wr.heap.size, 2, none⟩ = some (.int .i64 back) := by rw [P0.cell]; rfl
              have y3 : (wr.alloc X).cell? ⟨wr.heap.size, 3, none⟩ = some (.int .i64 n) := by rw [P0.cell]; rfl
              clear P0 hX
              rcases hbad with h1 | ⟨h1, h2⟩ | ⟨⟨h1, h2⟩, h3⟩ | ⟨⟨h1, h2⟩, h3, h4⟩ | ⟨⟨h1, h2⟩, h3, h4, h5⟩
              all_goals
                go_wp2_with fail
                rw [HX.out]
                refine HC.out.mono ?_
                rintro e w3 ⟨en, rfl, hen, rfl⟩
                have hen0 : en ≠ 0 := by omega
                have hen1 : (en == 0) = false := by simpa using hen0
                go_wp2
                go_loopw [7, 13] (fun av kv wz => av = .slice Ao all.length co ∧ kv = .int .i64 0 ∧ wz = wr.alloc X) (fun _ _ _ => 0)
                case atStart => exact ⟨rfl, rfl, rfl⟩
                case round =>
                  obtain ⟨rfl, rfl, rfl⟩ := hrel
                  go_wp2
                  exact ⟨⟨i + 1, a, all, R, wv, by go_num, by omega, O0.out, W0.out, CN.out, by omega, NE.out, by omega, BE1.out⟩, by simp [intOf]; omega⟩
        · obtain rfl : i = l.length := by omega
          go_wp2_with fail
          refine (wakes06 _).mono ?_; rintro e w4 ⟨rfl, h4⟩
          go_wp2
          go_ret
          exact ⟨rfl, BE.out.trans (h4.mono BE.out.size)⟩
  · clear hg
    go_wp2_with fail
    refine (wakes06 _).mono ?_; rintro e w1 ⟨rfl, h1⟩
    go_wp2
    go_ret
    exact ⟨rfl, h1⟩
end Go.Proofs.Ytjeaepkncboodaa
