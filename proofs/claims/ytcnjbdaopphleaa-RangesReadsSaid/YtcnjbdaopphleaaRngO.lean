/- The walk of RangesReads. -/
import Derived.Test.YtcnjbdaopphleaaRngN
import Derived.Test.YtcnjbdaopphleaaRActs
namespace Go.Proofs.Ytcnjbdaopphleaa
open Go.RowKit Rng
set_option linter.unusedVariables false
set_option linter.unusedSimpArgs false
set_option maxRecDepth 100000 in
set_option maxHeartbeats 100000000 in
theorem lawReads10 (A : Option Addr) (n c : Nat) (f : Nat → Int) (A1 : Option Addr) (n1 c1 : Nat) (f1 : Nat → Int) (A2 : Option Addr) (l : List RAct) (n2 c2 : Nat) (w : World)
    (h1 : n ≤ c) (h2 : c ≤ maxLen) (h3 : Opn.RowAt w w.heap.size A n fun i => .int .u8 (f i)) (h4 : ∀ i, i < n → 0 ≤ f i ∧ f i ≤ 255)
    (j1 : n1 ≤ c1) (j2 : c1 ≤ maxLen) (j3 : Opn.RowAt w w.heap.size A1 n1 fun i => .int .u16 (f1 i)) (j4 : ∀ i, i < n1 → 0 ≤ f1 i ∧ f1 i ≤ 65535)
    (k1 : n2 = l.length) (k2 : l.length ≤ c2) (k3 : c2 ≤ maxLen) (k4 : RActRow w w.heap.size A2 l) (k5 : ∀ s ∈ l, s.Fits) :
    Calls Try.prog 3 #[.slice A n c, .slice A1 n1 c1, .slice A2 n2 c2] w fun e w' => e = .returned (.bool true) ∧ Below w.heap.size w w' := by
  obtain ⟨bs, rfl, hr⟩ := BRow.of_row h3 h4
  obtain ⟨cl, rfl, hq, hcb⟩ := HRow.of_row j3 j4
  subst k1
  have HR := Lib.hid hr
  have HQ := Lib.hid hq
  have HCB := Lib.hid hcb
  have HA := Lib.hid k4
  have HF := Lib.hid k5
  clear h3 h4 j3 j4 hr hq hcb k4 k5
  by_cases hmain : bs.length ≤ 16384 ∧ cl.length ≤ 200 ∧ l.length ≤ 2000
  · obtain ⟨m1, m2, m3⟩ := hmain
    by_cases hne : newErr bs = 0
    · have HNE := Lib.hid hne
      have h5 : 5 ≤ bs.length := by
        unfold newErr at hne
        by_cases h5 : bs.length < 5
        · rw [if_pos h5] at hne; cases hne
        · omega
      clear hne
      go_enter Try.func3, Try.ntmps3
      go_wp2_with (at_builtin; refine wpList_append_bytes _ rfl (.tmp 34) (.tmp 35) 22 rfl 5 w.heap.size Try.underlying22 Try.info_u8 (.slice (some ⟨w.heap.size, 0, none⟩) 0 0) [] rfl ?own2 A bs.length c w.heap.size bs rfl rfl ?row2 ?len2 ?base2 ?next2)
      case own2 => exact OwnB.made _ _ _ (Nat.le_refl _)
      case row2 => exact HR.out.below ((Below.refl _ _).alloc (Nat.le_refl _) _)
      case len2 => simp; omega
      case base2 => simp
      case next2 =>
        intro v1 w1 hown1 hfrm1 hnew1
        have hb1 : Below w.heap.size w w1 := ((Below.refl w.heap.size w).alloc (Nat.le_refl _) _).trans (hfrm1.below (B := w.heap.size) (by simp) (fun q hq => by have h' : w.heap.size = q := Option.some.inj hq; omega))
        rcases hown1.form with ⟨_, e0⟩ | ⟨g0, c3, cur, rfl, hg0, hpg, hc3, hm3, _, _⟩
        · rw [e0] at h5; simp at h5
        have hr3 : BRow w1 w1.heap.size (some ⟨g0, 0, none⟩) bs := by
          obtain ⟨A', c', e, _, _, hr⟩ := hown1.slice
          injection e with e1 e2 e3
          rw [← e1] at hr
          exact hr
        have hg1 := hpg.lt
        have B1 := Lib.hid hb1
        have R3 := Lib.hid hr3
        have O1 := Lib.hid hown1
        clear hown1 hfrm1 hnew1 hb1 hr3 hpg
        go_wp2_with fail
        refine (dnew_p (some ⟨g0, 0, none⟩) bs _ c3 w1 rfl R3.out hc3 hm3 (by omega) HNE.out).mono ?_; rintro e w2 ⟨db, rb, rfl, hd2, hdb, hrb, hB2⟩
        have D2 := Lib.hid hd2
        have B2 := Lib.hid (B1.out.trans (hB2.mono B1.out.size))
        have O2 := Lib.hid (O1.out.frm (Frm.of_below hB2) (fun _ _ h => h))
        have hs1 := B1.out.size
        have hs2 := hB2.size
        clear hd2 hB2
        go_wp2_with fail
        refine (dnew_r A bs _ c w2 rfl ((HR.out.below B2.out).more (by omega)) h1 h2 HNE.out).mono ?_; rintro e w3 ⟨db2, ab, aoff, rfl, rfl, hd3, hdb2, hB3⟩
        obtain ⟨ab', aoff', e9, hab, _⟩ := HR.out (by omega)
        injection e9 with e9
        injection e9 with e9 e10
        subst e9; subst e10
        have hD3 := D2.out.frm (Frm.of_below (S := fun _ => False) hB3) (fun h => h) (fun h => h)
        obtain ⟨rb', hD3', hrg, hrl⟩ : ∃ rb', DecAt w3 56 db rb' (newDec bs) ∧ rb' ≠ g0 ∧ rb' < w2.heap.size := by
          by_cases h0 : 0 < (newDec bs).rest.length
          · exact ⟨rb, hD3, by omega, D2.out.rlt h0⟩
          · exact ⟨ab, hD3.rebase h0 (by omega), by omega, by omega⟩
        have hdl := D2.out.lt
        have hdl3 := hd3.lt
        have P3 := Lib.hid hD3'
        have Q3 := Lib.hid hd3
        have B3 := Lib.hid (B2.out.trans (hB3.mono (by omega)))
        have O3 := Lib.hid (O2.out.frm (Frm.of_below (S := fun _ => False) hB3) (fun _ _ h => h))
        have hs3 := hB3.size
        have HRO := Lib.hid (And.intro (Nat.ne_of_gt (Nat.lt_of_lt_of_le hab hg0)) (And.intro hrg hrl))
        clear hd3 hB3 hD3 hD3' hrg D2 O2 R3 O1
        go_wp2
        obtain ⟨N1, hN1⟩ : ∃ N1, bs.length = N1 := ⟨_, rfl⟩
        obtain ⟨nd, hnd⟩ : ∃ nd, newDec bs = nd := ⟨_, rfl⟩
        rw [hnd] at P3 Q3
        go_loopw [12] (fun iv wr => ∃ (i : Nat) (bs' : List UInt8), iv = .int .i64 i ∧ i ≤ bs.length ∧ bs'.length = bs.length ∧ OwnB wr 5 w.heap.size (.slice (some ⟨g0, 0, none⟩) bs.length c3) bs' ∧ DecAt wr 56 db rb' nd ∧ DecAt wr 59 db2 ab nd ∧
          w3.heap.size ≤ wr.heap.size ∧ Below w.heap.size w wr) (fun iv _ => bs.length - (intOf iv).toNat)
        case atStart => exact ⟨0, bs, rfl, by omega, rfl, O3.out, P3.out, Q3.out, Nat.le_refl _, B3.out⟩
        case round =>
          obtain ⟨i, bs', rfl, hi, hbl, hob, hdp, hdq, hsz, hbe⟩ := hrel
          have OB := Lib.hid hob
          have DP := Lib.hid hdp
          have DQ := Lib.hid hdq
          have BE := Lib.hid hbe
          have HBL := Lib.hid hbl
          clear hob hdp hdq hbe hbl P3 Q3 B3 O3
          by_cases hlt : i < bs.length
          · obtain ⟨x0, f0⟩ := ownb_at OB.out (k := i) (by rw [HBL.out]; exact hlt)
            obtain ⟨x, hx⟩ : ∃ x, bs'.getD i 0 = x := ⟨_, rfl⟩
            rw [hx] at x0
            have hx8 := x.toNat_lt
            have x0' : wr.cell? ⟨g0, i, none⟩ = some (.int .u8 (x.toNat : Int)) := x0
            obtain ⟨y, hy⟩ := not_byte x
            clear hx x0
            go_wp2
            have F4 := (Frm.refl (· = g0) wr).setCell (p := ⟨g0, i, none⟩) (by rfl) (.int .u8 (y.toNat : Int))
            have hne1 := HRO.out.1
            have hne2 := HRO.out.2.1
            exact ⟨⟨i + 1, bs'.set i y, by go_num, by omega, by rw [List.length_set]; exact HBL.out, OB.out.set i (by rw [HBL.out]; exact hlt) y, DP.out.frm F4 (fun e => by omega) hne2, DQ.out.frm F4 (fun e => by omega) (fun e => hne1 e.symm), Nat.le_trans hsz F4.size, BE.out.setCell (p := ⟨g0, i, none⟩) hg0 _⟩, by simp [intOf]; omega⟩
          · obtain rfl : i = bs.length := by omega
            clear OB
            go_wp2_with fail
            refine (chances_any A1 cl _ c1 wr rfl (HRow.more (HQ.out.below BE.out) BE.out.size) m2).mono ?_; rintro e w4 ⟨v4, rfl, ho4, hb4⟩
            obtain ⟨g, cg, curg, rfl, hgb, hgp, hgc, hgm, _⟩ := ho4.block (by simp)
            have DP4 := Lib.hid (DP.out.frm (Frm.of_below (S := fun _ => False) hb4) (fun h => h) (fun h => h))
            have DQ4 := Lib.hid (DQ.out.frm (Frm.of_below (S := fun _ => False) hb4) (fun h => h) (fun h => h))
            have BE4 := Lib.hid (BE.out.trans (hb4.mono BE.out.size))
            have OH4 := Lib.hid ho4
            have hgl := hgp.lt
            have hs4 := hb4.size
            clear ho4 hb4 hgp
            go_wp2_with fail
            refine (chances_any A1 cl _ c1 w4 rfl (HRow.more (HQ.out.below BE4.out) BE4.out.size) m2).mono ?_; rintro e w5 ⟨v5, rfl, ho5, hb5⟩
            obtain ⟨h, ch, curh, rfl, hhb, hhp, hhc, hhm, _⟩ := ho5.block (by simp)
            have hlen1 : (cl ++ [1024]).length = cl.length + 1 := by simp
            have hbnd : ∀ x ∈ cl ++ [1024], x < 65536 := by
              intro x hx
              rcases List.mem_append.1 hx with hx | hx
              · exact HCB.out x hx
              · simp at hx; omega
            have hdpl := DP.out.lt
            have PL := Lib.hid (show Play w w5 ⟨db, rb', db2, ab, g, cg, h, ch⟩ none nd nd (cl ++ [1024]) (cl ++ [1024]) from
              ⟨DP4.out.frm (Frm.of_below (S := fun _ => False) hb5) (fun h => h) (fun h => h), DQ4.out.frm (Frm.of_below (S := fun _ => False) hb5) (fun h => h) (fun h => h),
                (OH4.out.base (by have := BE.out.size; omega)).frm (Frm.of_below (S := fun _ => False) hb5) (fun _ _ h => h), ho5.base (by have := BE4.out.size; omega), hbnd, hbnd,
                ⟨by simp only; omega, by simp only; omega, by simp only; omega, by simp only; omega, by simp only; omega, by simp only; omega, by simp only; omega⟩, (fun b c e => by cases e), BE4.out.trans (hb5.mono BE4.out.size)⟩)
            clear ho5 hb5 hhp DP4 DQ4 OH4 DP DQ
            go_wp2
            obtain ⟨N, hN⟩ : ∃ N, cl.length + 1 = N := ⟨_, rfl⟩
            have hN2 : 0 < N ∧ N ≤ 201 := by omega
            simp only [hN]
            rw [hN] at hlen1
            have HN := Lib.hid hN
            clear hN
            go_loopw [15] (fun iv wr => ∃ (i : Nat) (d : Dec) (pl : List Nat), iv = .int .i64 i ∧ i ≤ l.length ∧ pl.length = N ∧ Play w wr ⟨db, rb', db2, ab, g, cg, h, ch⟩ none d d pl pl) (fun iv _ => l.length - (intOf iv).toNat)
            case atStart => exact ⟨0, nd, cl ++ [1024], rfl, by omega, hlen1, PL.out⟩
            case round =>
              obtain ⟨i, d, pl, rfl, hi2, hpl, hplay⟩ := hrel
              clear PL BE4 BE
              by_cases hlt2 : i < l.length
              · obtain ⟨b0, off, rfl, hb0, hcell⟩ := HA.out (by omega)
                obtain ⟨c0, c1', c2'⟩ := hcell i hlt2
                have hx : l.getD i default ∈ l := by rw [List.getD, List.getElem?_eq_getElem hlt2]; exact List.getElem_mem hlt2
                have hfit := HF.out _ hx
                obtain ⟨⟨ax, nx, mx⟩, hxx⟩ : ∃ x, l.getD i default = x := ⟨_, rfl⟩
                rw [hxx] at c0 c1' c2' hfit
                simp only at c0 c1' c2'
                have hm := hfit.m
                have ha := hfit.a
                simp only at hm ha
                have x0 := (hplay.b.cell (p := ⟨b0, off + i * 3, none⟩) hb0).trans c0
                have x1 := (hplay.b.cell (p := ⟨b0, off + i * 3 + 1, none⟩) hb0).trans c1'
                have x2 := (hplay.b.cell (p := ⟨b0, off + i * 3 + 2, none⟩) hb0).trans c2'
                have PLX := Lib.hid (hplay.act #[.int .i64 ax, .int .u32 nx, .int .i64 mx])
                clear hcell hfit hxx hx c0 c1' c2' hplay
                by_cases hmany : 0 < mx
                · go_wp2
                  obtain ⟨xb, hxb⟩ : ∃ xb, wr.heap.size = xb := ⟨_, rfl⟩
                  rw [hxb] at PLX
                  generalize wr.alloc (.cells #[.int .i64 ax, .int .u32 nx, .int .i64 mx] 36) = wx at *
                  have y2 : wx.cell? ⟨xb, 2, none⟩ = some (.int .i64 mx) := by rw [(PLX.out.x _ _ rfl).1.cell]; rfl
                  simp only [hxb]
                  obtain ⟨RX, hRX⟩ : ∃ x : Int, ((d.direct (count mx) 0).1 : Int) = x := ⟨_, rfl⟩
                  obtain ⟨RD, hRD⟩ : ∃ x : Dec, (d.direct (count mx) 0).2 = x := ⟨_, rfl⟩
                  have HRX := Lib.hid hRX
                  have HRD := Lib.hid hRD
                  clear x0 x1 x2 hRX hRD
                  go_region_with (first
                    | (go_at_call 12; refine Calls.mono (play_dirq_p (w0 := w) (k := ⟨db, rb', db2, ab, g, cg, h, ch⟩) (xo := some (xb, #[.int .i64 ax, .int .u32 nx, .int .i64 mx])) (d1 := d) (d2 := d) (pl := pl) (ql := pl) mx _ RX RD (by first | exact PLX.out.drew | exact PLX.out) HRX.out HRD.out) ?_; rintro e w' ⟨rfl, hPP⟩; have y3 : w'.cell? ⟨xb, 2, none⟩ = some (.int .i64 mx) := by rw [(hPP.x _ _ rfl).1.cell]; rfl)
                    | (go_at_call 13; refine Calls.mono (play_dirq_r (w0 := w) (k := ⟨db, rb', db2, ab, g, cg, h, ch⟩) (xo := some (xb, #[.int .i64 ax, .int .u32 nx, .int .i64 mx])) (d1 := RD) (d2 := d) (pl := pl) (ql := pl) mx _ RX RD hPP HRX.out HRD.out) ?_; rintro e w'' ⟨rfl, hQQ⟩))
                  all_goals
                    have QQ := Lib.hid hQQ
                    clear hQQ hPP
                    go_wp2
                    exact ⟨⟨i + 1, _, pl, by go_num, by omega, hpl, QQ.out.free⟩, by simp [intOf]; omega⟩
                · obtain ⟨t, s, J, ht, hts, hs, hss, hJ1, hJ2, hJ⟩ := modR ax N (by omega) (by omega)
                  go_wp2
                  obtain ⟨xb, hxb⟩ : ∃ xb, wr.heap.size = xb := ⟨_, rfl⟩
                  rw [hxb] at PLX
                  generalize wr.alloc (.cells #[.int .i64 ax, .int .u32 nx, .int .i64 mx] 36) = wx at *
                  simp only [hxb]
                  have hJp : J < pl.length := by rw [hpl]; exact hJ
                  obtain ⟨L, hL⟩ : ∃ L, learn (fair (pl.getD J 0)) (d.bit (fair (pl.getD J 0))).1 = L := ⟨_, rfl⟩
                  obtain ⟨RX, hRX⟩ : ∃ x : Int, bitV (d.bit (fair (pl.getD J 0))).1 = x := ⟨_, rfl⟩
                  obtain ⟨RD, hRD⟩ : ∃ x : Dec, (d.bit (fair (pl.getD J 0))).2 = x := ⟨_, rfl⟩
                  have HL := Lib.hid hL
                  have HRX := Lib.hid hRX
                  have HRD := Lib.hid hRD
                  have hJi : (J : Int) < (N : Int) := by omega
                  have hJ0 : 0 ≤ (J : Int) := by omega
                  have HJP := Lib.hid hJp
                  clear x0 x1 x2 hL hRX hRD hJp
                  go_region_with (first
                    | (go_at_call 14; refine Calls.mono (play_bitq_p (w0 := w) (k := ⟨db, rb', db2, ab, g, cg, h, ch⟩) (xo := some (xb, #[.int .i64 ax, .int .u32 nx, .int .i64 mx])) (d1 := d) (d2 := d) (pl := pl) (ql := pl) J _ RX RD L (by first | exact PLX.out.drew | exact PLX.out) HJP.out HRX.out HRD.out HL.out) ?_; rintro e w' ⟨rfl, hPP⟩)
                    | (go_at_call 15; refine Calls.mono (play_bitq_r (w0 := w) (k := ⟨db, rb', db2, ab, g, cg, h, ch⟩) (xo := some (xb, #[.int .i64 ax, .int .u32 nx, .int .i64 mx])) (d1 := RD) (d2 := d) (pl := pl.set J L) (ql := pl) J _ RX RD L hPP HJP.out HRX.out HRD.out HL.out) ?_; rintro e w'' ⟨rfl, hQQ⟩; have z1 : w''.cell? ⟨g, J, none⟩ = some (.int .u16 L) := (hQQ.cell_p (j := J) (by rw [List.length_set]; exact HJP.out)).trans (by rw [getD_set_self HJP.out]); have z2 : w''.cell? ⟨h, J, none⟩ = some (.int .u16 L) := (hQQ.cell_q (j := J) (by rw [List.length_set]; exact HJP.out)).trans (by rw [getD_set_self HJP.out])))
                  all_goals
                    have QQ := Lib.hid hQQ
                    clear hQQ hPP z1 z2
                    go_wp2
                    exact ⟨⟨i + 1, _, pl.set J L, by go_num, by omega, by rw [List.length_set]; exact hpl, QQ.out.free⟩, by simp [intOf]; omega⟩
              · obtain rfl : i = l.length := by omega
                have PL := Lib.hid hplay
                clear hplay
                go_wp2_with fail
                refine (play_end_p _ PL.out).mono ?_; rintro e w7 ⟨rfl, hpl7⟩
                go_wp2_with fail
                refine (play_end_r _ hpl7).mono ?_; rintro e w8 ⟨rfl, hpl8⟩
                have B8 := Lib.hid hpl8.b
                clear hpl7 hpl8
                go_wp2_with fail
                refine (wakes10 _).mono ?_; rintro e w9 ⟨rfl, h9⟩
                have B9 := Lib.hid (B8.out.trans (h9.mono B8.out.size))
                clear h9
                go_wp2
                go_ret
                exact ⟨rfl, B9.out⟩
    · have hne2 : ((newErr bs) == 0) = false := beq_eq_false_iff_ne.2 hne
      have HNE := Lib.hid hne
      clear hne
      go_enter Try.func3, Try.ntmps3
      go_wp2_with (at_builtin; refine wpList_append_bytes _ rfl (.tmp 34) (.tmp 35) 22 rfl 5 w.heap.size Try.underlying22 Try.info_u8 (.slice (some ⟨w.heap.size, 0, none⟩) 0 0) [] rfl ?own1 A bs.length c w.heap.size bs rfl rfl ?row1 ?len1 ?base1 ?next1)
      case own1 => exact OwnB.made _ _ _ (Nat.le_refl _)
      case row1 => exact HR.out.below ((Below.refl _ _).alloc (Nat.le_refl _) _)
      case len1 => simp; omega
      case base1 => simp
      case next1 =>
        intro v1 w1 hown1 hfrm1 hnew1
        have hb1 : Below w.heap.size w w1 := ((Below.refl w.heap.size w).alloc (Nat.le_refl _) _).trans (hfrm1.below (B := w.heap.size) (by simp) (fun q hq => by have h' : w.heap.size = q := Option.some.inj hq; omega))
        obtain ⟨A3, c3, rfl, hc3, hm3, hr3⟩ := hown1.slice
        have B1 := Lib.hid hb1
        have R3 := Lib.hid hr3
        clear hown1 hfrm1 hnew1 hb1 hr3
        go_wp2_with fail
        have hp := dnew_bad_p A3 bs _ c3 w1.heap.size w1 rfl R3.out hc3 hm3 HNE.out
        have hq := dnew_bad_r A bs _ c w.heap.size w1 rfl (HR.out.below B1.out) h1 h2 HNE.out
        have hne0 := HNE.out
        clear HNE
        generalize newErr bs = E at *
        have hne3 : (E != 0) = true := by simpa using hne0
        have HQ2 := Lib.hid hq
        clear hq
        refine hp.mono ?_; rintro e w2 ⟨rfl, rfl⟩
        clear hp
        go_wp2_with fail
        refine HQ2.out.mono ?_; rintro e w2 ⟨rfl, rfl⟩
        clear HQ2
        go_wp2_with fail
        refine (wakes10 _).mono ?_; rintro e w4 ⟨rfl, h4⟩
        have B4 := Lib.hid (B1.out.trans (h4.mono B1.out.size))
        clear h4
        go_wp2
        go_ret
        exact ⟨rfl, B4.out⟩
  · have h5 : 16384 < bs.length ∨ (bs.length ≤ 16384 ∧ 200 < cl.length) ∨ (bs.length ≤ 16384 ∧ cl.length ≤ 200 ∧ 2000 < l.length) := by omega
    clear hmain
    rcases h5 with h1 | ⟨h1, h2⟩ | ⟨h1, h2, h3⟩
    all_goals
      go_enter Try.func3, Try.ntmps3
      go_wp2_with fail
      refine (wakes10 _).mono ?_; rintro e w1 ⟨rfl, h1⟩
      go_wp2
      go_ret
      exact ⟨rfl, h1⟩
end Go.Proofs.Ytcnjbdaopphleaa
