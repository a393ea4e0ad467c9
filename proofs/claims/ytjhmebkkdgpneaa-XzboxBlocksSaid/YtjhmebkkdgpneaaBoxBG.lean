/- A block's head, by the document: the walk. -/
import Derived.Test.YtjhmebkkdgpneaaBoxBF
namespace Go.Proofs.Ytjhmebkkdgpneaa
open Go.RowKit Box
set_option linter.unusedVariables false
set_option linter.unusedSimpArgs false
namespace Box
/-- What is to come, and the error that stands. -/
def Goes (R K : BkR) (e : Int) : Prop := (e = 0 → K = R) ∧ (¬ e = 0 → R = .error e)
theorem goes_num {R K : BkR} {r : List UInt8} {e : Int} {F : Nat → List UInt8 → BkR} (h : Goes R K e) (hK : K = if ¬ (number r).2.2 = 0 then .error 11 else F (number r).1 (r.drop (number r).2.1)) :
    Goes R (F (bxNum r e).1 (bxNum r e).2.1) (bxNum r e).2.2 := by
  by_cases he : e = 0
  · have h1 := h.1 he
    by_cases hn : (number r).2.2 = 0
    · have hb : bxNum r e = ((number r).1, r.drop (number r).2.1, 0) := by unfold bxNum; rw [if_neg (fun k => k he), if_neg (fun k => k hn)]
      rw [hb]
      rw [if_neg (fun k => k hn)] at hK
      exact ⟨fun _ => by rw [← h1, hK], fun k => absurd rfl k⟩
    · have hb : bxNum r e = (0, r, 11) := by unfold bxNum; rw [if_neg (fun k => k he), if_pos hn]
      rw [hb]
      rw [if_pos hn] at hK
      exact ⟨fun k => absurd (show (11 : Int) = 0 from k) (by decide), fun _ => by rw [← h1, hK]⟩
  · have hb : bxNum r e = (0, r, e) := by unfold bxNum; rw [if_pos he]
    rw [hb]
    exact ⟨fun k => absurd k he, h.2⟩
theorem goes_must {R K K' : BkR} {e x : Int} {β : Bool} {c : Prop} [Decidable c] (h : Goes R K e) (hx : ¬ x = 0) (hβ : β = true ↔ c) (hK : K = if ¬ c then .error x else K') : Goes R K' (bxMust e β x) := by
  by_cases he : e = 0
  · have h1 := h.1 he
    subst he
    cases β with
    | true =>
      rw [bxMust_yes]
      rw [if_neg (fun k => k (hβ.1 rfl))] at hK
      exact ⟨fun _ => by rw [← h1, hK], fun k => absurd rfl k⟩
    | false =>
      rw [bxMust_no]
      rw [if_pos (fun k => nomatch hβ.2 k)] at hK
      exact ⟨fun k => absurd k hx, fun _ => by rw [← h1, hK]⟩
  · rw [bxMust_err he]
    exact ⟨fun k => absurd k he, h.2⟩
theorem bxNum_len (r : List UInt8) (e : Int) : (bxNum r e).2.1.length ≤ r.length := by
  unfold bxNum
  split
  · exact Nat.le_refl _
  · split
    · exact Nat.le_refl _
    · show (r.drop _).length ≤ _
      rw [List.length_drop]; omega
theorem blk_body {bs : List UInt8} {N : Nat} (h : 8 ≤ N) (hl : N ≤ bs.length) : ((bs.take N).drop 1).take (N - 5) = bs.getD 1 0 :: (bs.drop 2).take (N - 6) := by
  match bs, hl with
  | [], hl => exact absurd hl (by simp; omega)
  | [_], hl => exact absurd hl (by simp; omega)
  | a :: b :: t, hl =>
    obtain ⟨M, rfl⟩ : ∃ M, N = M + 8 := ⟨N - 8, by omega⟩
    show ((a :: b :: t.take (M + 6)).drop 1).take (M + 2 + 1) = b :: (t.take (M + 2))
    rw [List.drop_succ_cons, List.drop_zero, List.take_succ_cons, List.take_take]
    congr 2
    omega
end Box
theorem rnum_g (xb B : Nat) (r : List UInt8) (e : Int) (R K : BkR) (w0 w : World) (h : BoxW w0 w xb B r e) (hlen : r.length ≤ 1000000) (hg : Goes R K e) :
    Calls Try.prog 36 #[.pointer (some ⟨xb, 0, none⟩)] w fun o w' => ∃ (y : Nat) (r' : List UInt8) (e' : Int), o = .returned (.int .u64 (y : Int)) ∧ BoxW w0 w' xb B r' e' ∧ r'.length ≤ 1000000 ∧
      ∀ F : Nat → List UInt8 → BkR, (K = if ¬ (number r).2.2 = 0 then .error 11 else F (number r).1 (r.drop (number r).2.1)) → Goes R (F y r') e' := by
  refine (rnum_p xb B r e w0 w h hlen).mono ?_
  rintro o w' ⟨rfl, h1⟩
  exact ⟨_, _, _, rfl, h1, Nat.le_trans (bxNum_len r e) hlen, fun F hK => goes_num hg hK⟩
theorem rmust_g (xb B : Nat) (r : List UInt8) (e x : Int) (β : Bool) (R K : BkR) (w0 w : World) (h : BoxW w0 w xb B r e) (hg : Goes R K e) (hx : ¬ x = 0) :
    Calls Try.prog 37 #[.pointer (some ⟨xb, 0, none⟩), .bool β, .int .i64 x] w fun o w' => ∃ e', o = .returned (.tuple #[]) ∧ BoxW w0 w' xb B r e' ∧
      ∀ (K' : BkR) (c : Prop) [Decidable c], (β = true ↔ c) → (K = if ¬ c then .error x else K') → Goes R K' e' := by
  refine (rmust_p xb B r e x β w0 w h).mono ?_
  rintro o w' ⟨rfl, h1⟩
  exact ⟨_, rfl, h1, fun K' c _ hβ hK => goes_must hg hx hβ hK⟩
theorem rfilter_p (xb B n p q : Nat) (r : List UInt8) (e : Int) (R : BkR) (w0 w : World) (h : BoxW w0 w xb B r e) (hlen : r.length ≤ 1000000) (hg : Goes R (bkFilter r p q) e) :
    Calls Try.prog 38 #[.pointer (some ⟨xb, 0, none⟩), .int .i64 (n : Int), .int .u64 (p : Int), .int .u64 (q : Int)] w fun o w' => o = .returned (blkV (blkOf R n)) ∧ Below B w0 w' := by
  by_cases he : e = 0
  · subst he
    rw [← hg.1 rfl]
    cases r with
    | nil => exact rfilter_nil xb B n p q w0 w h
    | cons c t => exact rfilter_cons xb B n p q c t w0 w h hlen
  · rw [hg.2 he]
    exact rfilter_bad xb B n p q r e w0 w h he
theorem BoxW.fresh {w : World} {A : Option Addr} {r : List UInt8} {n c : Nat} (hn : n = r.length) (hc : n ≤ c) (hm : c ≤ maxLen) (hr : BRow w w.heap.size A r) :
    BoxW w (w.alloc (.cells #[.slice A n c, .int .i64 0] 63)) w.heap.size w.heap.size r 0 := by
  subst hn
  have hb := (Below.refl w.heap.size w).alloc (Nat.le_refl _) (.cells #[.slice A r.length c, .int .i64 0] 63)
  exact ⟨⟨A, c, Pts.new w _ _, hc, hm, hr.below hb⟩, Nat.le_refl _, hb⟩
set_option maxRecDepth 100000 in
set_option maxHeartbeats 2000000 in
theorem rblock_p (A : Option Addr) (bs : List UInt8) (n c : Nat) (w : World) (hn : n = bs.length) (hc : n ≤ c) (hcm : c ≤ maxLen) (hr : BRow w w.heap.size A bs) :
    Calls Try.prog 20 #[.slice A n c] w (BlkPost (blockOf bs) w) := by
  subst hn
  have CAP := Lib.hid hc
  have ROW := Lib.hid hr
  clear hr
  obtain ⟨R, hR⟩ : ∃ R, blockOf bs = R := ⟨_, rfl⟩
  rw [hR]
  cases bs with
  | nil =>
    have hR : (0, 0, 0, 0, 10) = R := hR
    subst hR
    clear hc
    simp only [List.length_nil]
    go_enter Try.func20, Try.ntmps20
    go_wp2
    refine bodyPost_ret (results_tmp5' rfl _ _ _) rfl ?_
    exact ⟨rfl, Below.refl _ _⟩
  | cons b r0 =>
    have hRb := hR
    unfold blockOf at hRb
    simp only at hRb
    obtain ⟨bs, hbs⟩ : ∃ bs, b :: r0 = bs := ⟨_, rfl⟩
    have hb0 : bs.getD 0 0 = b := by rw [← hbs]; rfl
    have hl1 : 1 ≤ bs.length := by rw [← hbs]; simp
    rw [hbs] at hRb CAP ROW hc ⊢
    obtain ⟨b0, off, rfl, hbl, hcell⟩ := ROW.out (by omega)
    have HBL := Lib.hid hbl
    have k0 : w.cell? ⟨b0, off, none⟩ = some (.int .u8 (b.toNat : Int)) := by
      have := hcell 0 (by omega)
      rw [hb0] at this
      exact this
    have hbn := b.toNat_lt
    obtain ⟨N, hN⟩ : ∃ N, (b.toNat + 1) * 4 = N := ⟨_, rfl⟩
    rw [hN] at hRb
    have hbz : b = 0 ↔ b.toNat = 0 := ⟨fun e => by rw [e]; rfl, fun e => by rw [← UInt8.ofNat_toNat (x := b), e]; rfl⟩
    obtain ⟨bn, hbb⟩ : ∃ bn, b.toNat = bn := ⟨_, rfl⟩
    rw [hbb] at k0 hbn hN hbz
    have hNi : ((bn : Int) + 1) * 4 = (N : Int) := by omega
    have hNb : 4 ≤ N ∧ N ≤ 1024 := by omega
    have HRB := Lib.hid hRb
    have HBZ := Lib.hid hbz
    have HN4 := Lib.hid hN
    have HCELL := Lib.hid hcell
    have hl1i : (bs.length == 0) = false := by rw [beq_eq_false_iff_ne]; omega
    have hl1j : ((bs.length : Int) == 0) = false := by rw [beq_eq_false_iff_ne]; omega
    clear hR hRb hbz hcell hbs hb0 hbb hc hN hbl
    by_cases hsh : bs.length < N
    · have hR := HRB.out
      rw [if_pos hsh] at hR
      subst hR
      have hshi : (bs.length : Int) < (N : Int) := by omega
      clear HRB
      go_enter Try.func20, Try.ntmps20
      go_wp2
      refine bodyPost_ret (results_tmp5' rfl _ _ _) rfl ?_
      exact ⟨rfl, Below.refl _ _⟩
    · have hR := HRB.out
      rw [if_neg hsh] at hR
      have HSH := Lib.hid hsh
      clear HRB
      have lH : N = (bs.take N).length := by rw [List.length_take]; omega
      have hrs := rsealed_p (some ⟨b0, off, none⟩) (bs.take N) N c w.heap.size w lH (by omega) (by have := CAP.out; omega) (ROW.out.take N) (by rw [← lH]; omega)
      have hts : ∀ w, (Instr.sliceAt 22 (.slice (some ⟨b0, off, none⟩) bs.length c) none (some (.int .i64 (N : Int))) none).run Try.prog w = .ok (.slice (some ⟨b0, off, none⟩) N c) w := fun w => slice_toX _ bs.length c N (by omega) CAP.out w
      clear lH
      by_cases hz : b = 0
      · rw [if_pos hz] at hR
        subst hR
        obtain rfl : bn = 0 := HBZ.out.1 hz
        clear hz hrs
        go_enter Try.func20, Try.ntmps20
        go_wp2
        refine bodyPost_ret (results_tmp5' rfl _ _ _) rfl ?_
        exact ⟨rfl, Below.refl _ _⟩
      · rw [if_neg hz] at hR
        have hbn0 : ¬ bn = 0 := fun e => hz (HBZ.out.2 e)
        have hbq : ((bn : Int) == 0) = false := by rw [beq_eq_false_iff_ne]; omega
        have hN8 : 8 ≤ N := by have := HN4.out; omega
        clear hz hbn0
        by_cases hse : sealedB (bs.take N) = true
        · rw [if_neg (fun h => h hse), blk_body hN8 (by omega)] at hR
          rw [hse] at hrs
          clear hse
          have HRS := Lib.hid hrs
          obtain ⟨f, hf⟩ : ∃ f, bs.getD 1 0 = f := ⟨_, rfl⟩
          have k1 : w.cell? ⟨b0, off + 1, none⟩ = some (.int .u8 (f.toNat : Int)) := by
            have := HCELL.out 1 (by omega)
            rw [hf] at this
            exact this
          rw [hf] at hR
          clear hf hrs
          have hF := f.toNat_lt
          unfold bkBody at hR
          simp only at hR
          obtain ⟨F, hFF⟩ : ∃ F, f.toNat = F := ⟨_, rfl⟩
          rw [hFF] at hR hF k1
          clear hFF
          obtain ⟨f63, f64, f128, _, _⟩ := and_facts hF
          have F64 := Lib.hid f64
          have F128 := Lib.hid f128
          clear f64 f128
          by_cases h63 : F % 64 = 0
          · rw [if_neg (fun h => h h63)] at hR
            have g63 : ((F : Int) % 64 != 0) = false := by have : (F : Int) % 64 = 0 := by omega
                                                           rw [this]; rfl
            have g63b : (bits .and .u8 (F : Int) 63 != 0) = false := by rw [bne, f63, decide_eq_true h63]; rfl
            clear h63 f63
            obtain ⟨r, hrr⟩ : ∃ r, (bs.drop 2).take (N - 6) = r := ⟨_, rfl⟩
            rw [hrr] at hR
            have hrm := ROW.out.mid (f := 2) (t := N - 6) (c := c) CAP.out (by have := CAP.out; omega)
            rw [hrr] at hrm
            have lr : N - 6 = r.length := by rw [← hrr, List.length_take, List.length_drop]; omega
            obtain ⟨A9, hA9⟩ : ∃ A9, (some (⟨b0, off, none⟩ : Addr)).map (·.add 2) = A9 := ⟨_, rfl⟩
            rw [hA9] at hrm
            obtain ⟨N4, hN4⟩ : ∃ N4, N - 4 = N4 := ⟨_, rfl⟩
            have hN4i : (N : Int) - 4 = (N4 : Int) := by omega
            have hwN4 : IntKind.i64.wrap (N4 : Int) = (N4 : Int) := Go.IntWalk.i64_in _ (by omega)
            obtain ⟨N6, hN6⟩ : ∃ N6, N - 6 = N6 := ⟨_, rfl⟩
            have hN66 : N4 - 2 = N6 := by omega
            rw [hN6] at lr
            obtain ⟨c9, hc9⟩ : ∃ c9, c - 2 = c9 := ⟨_, rfl⟩
            have hs9 : ∀ w, (Instr.sliceAt 22 (.slice (some ⟨b0, off, none⟩) bs.length c) (some (.int .i64 2)) (some (.int .i64 (N4 : Int))) none).run Try.prog w = .ok (.slice A9 N6 c9) w := fun w => by
              have := slice_midX (some ⟨b0, off, none⟩) bs.length c 2 N4 (by omega) (by omega) CAP.out (by have := CAP.out; omega) w
              rw [hA9, hN66, hc9] at this
              exact this
            have hBox := BoxW.fresh (c := c9) lr (by have := CAP.out; omega) (by omega) hrm
            obtain ⟨w1, hw1⟩ : ∃ w1, w.alloc (.cells #[.slice A9 N6 c9, .int .i64 0] 63) = w1 := ⟨_, rfl⟩
            rw [hw1] at hBox
            have LR := Lib.hid (show r.length ≤ 1000000 by omega)
            have BX := Lib.hid hBox
            obtain ⟨K, hK⟩ : ∃ K, bkPacked F r = K := ⟨_, rfl⟩
            rw [hK] at hR
            have HK := Lib.hid hK
            clear hBox hrr hrm lr hA9 hN4 hN6 hN66 hc9 hK
            have k1' : w1.cell? ⟨b0, off + 1, none⟩ = some (.int .u8 (F : Int)) := (BX.out.f.cell (p := ⟨b0, off + 1, none⟩) HBL.out).trans k1
            subst hR
            go_enter Try.func20, Try.ntmps20
            go_wp2_with fail
            refine HRS.out.mono ?_; rintro o wz ⟨rfl, rfl⟩
            go_upto_if 55 with fail
            go_cut [4] from 11 (fun s4 wx => ∃ (p : Nat) (r1 : List UInt8) (e1 : Int), s4 = .int .u64 p ∧ BoxW w wx w.heap.size w.heap.size r1 e1 ∧ r1.length ≤ 1000000 ∧ Goes K (bkWhole F r1 p) e1)
            case first =>
              by_cases h64 : F / 64 % 2 = 1
              · have f64 := F64.out.trans (decide_eq_true h64)
                have HK2 := HK.out
                unfold bkPacked at HK2
                rw [if_pos h64] at HK2
                have HNUM := Lib.hid (rnum_g w.heap.size w.heap.size r 0 K _ w w1 BX.out LR.out ⟨fun _ => HK2, fun k => absurd rfl k⟩)
                clear h64
                go_wp2_with fail
                refine HNUM.out.mono ?_; rintro o w2 ⟨y, r1, e1, rfl, h1, l1, hg⟩
                have hg := hg (fun y r' => if y = 0 then .error 11 else bkWhole F r' y) rfl
                have HG := Lib.hid hg
                have H1 := Lib.hid h1
                have L1 := Lib.hid l1
                clear h1 l1 hg HNUM HK2
                go_wp2_with fail
                refine (rmust_g w.heap.size w.heap.size r1 e1 11 _ K _ w w2 H1.out HG.out (by decide)).mono ?_; rintro o w3 ⟨e2, rfl, h2, hg⟩
                have hg := hg (bkWhole F r1 y) (¬ y = 0) (by simp <;> omega) (by by_cases hy : y = 0 <;> simp [hy])
                have HG2 := Lib.hid hg
                have H2 := Lib.hid h2
                clear h2 hg
                go_wp2
                go_meet
                case rel => exact ⟨y, r1, e2, rfl, H2.out, L1.out, HG2.out⟩
              · have f64 := F64.out.trans (decide_eq_false h64)
                have HK2 := HK.out
                unfold bkPacked at HK2
                rw [if_neg h64] at HK2
                have HG2 := Lib.hid HK2
                clear h64 HK2
                go_wp2
                go_meet
                case rel => exact ⟨M64', r, 0, rfl, BX.out, LR.out, ⟨fun _ => HG2.out, fun k => absurd rfl k⟩⟩
            case rest =>
              obtain ⟨p, r1, e1, rfl, h1, l1, hg⟩ := hcut
              have H1 := Lib.hid h1
              have L1 := Lib.hid l1
              have HG := Lib.hid hg
              have k2 := (h1.f.cell (p := ⟨b0, off + 1, none⟩) HBL.out).trans k1
              clear h1 l1 hg
              go_upto_if 66 with fail
              go_cut [5] from 11 (fun s5 wy => ∃ (q : Nat) (r2 : List UInt8) (e2 : Int), s5 = .int .u64 q ∧ BoxW w wy w.heap.size w.heap.size r2 e2 ∧ r2.length ≤ 1000000 ∧ Goes K (bkKind r2 p q) e2)
              case first =>
                by_cases h128 : 128 ≤ F
                · have f128 := F128.out.trans (decide_eq_true h128)
                  have HG2 := HG.out
                  unfold bkWhole at HG2
                  rw [if_pos h128] at HG2
                  have HNUM := Lib.hid (rnum_g w.heap.size w.heap.size r1 e1 K _ w _ H1.out L1.out HG2)
                  clear h128 HG2
                  go_wp2_with fail
                  refine HNUM.out.mono ?_; rintro o w2 ⟨y, r2, e2, rfl, h2, l2, hg⟩
                  have hg := hg (fun y r' => bkKind r' p y) rfl
                  have HG3 := Lib.hid hg
                  have H2 := Lib.hid h2
                  have L2 := Lib.hid l2
                  clear h2 l2 hg HNUM
                  go_wp2
                  go_meet
                  case rel => exact ⟨y, r2, e2, rfl, H2.out, L2.out, HG3.out⟩
                · have f128 := F128.out.trans (decide_eq_false h128)
                  have HG2 := HG.out
                  unfold bkWhole at HG2
                  rw [if_neg h128] at HG2
                  have HG3 := Lib.hid HG2
                  clear h128 HG2
                  go_wp2
                  go_meet
                  case rel => exact ⟨M64', r1, e1, rfl, H1.out, L1.out, HG3.out⟩
              case rest =>
                obtain ⟨q, r2, e2, rfl, h2, l2, hg⟩ := hcut
                unfold bkKind at hg
                have HN3 := Lib.hid (rnum_g w.heap.size w.heap.size r2 e2 K _ w _ h2 l2 hg)
                clear h2 l2 hg HG H1 L1
                go_wp2_with fail
                refine HN3.out.mono ?_; rintro o w3 ⟨y, r3, e3, rfl, h3, l3, hg⟩
                have HG3 := Lib.hid (hg (fun y r' => if ¬ y = 33 then .error 12 else bkSet r' p q) rfl)
                have H3 := Lib.hid h3
                have L3 := Lib.hid l3
                clear h3 l3 hg HN3
                go_wp2_with fail
                refine (rmust_g w.heap.size w.heap.size r3 e3 12 _ K _ w w3 H3.out HG3.out (by decide)).mono ?_; rintro o w4 ⟨e4, rfl, h4, hg⟩
                have hg := hg (bkSet r3 p q) (y = 33) (by simp <;> omega) rfl
                unfold bkSet at hg
                have HN4 := Lib.hid (rnum_g w.heap.size w.heap.size r3 e4 K _ w w4 h4 L3.out hg)
                clear h4 hg HG3 H3 L3
                go_wp2_with fail
                refine HN4.out.mono ?_; rintro o w5 ⟨z, r5, e5, rfl, h5, l5, hg⟩
                have HG5 := Lib.hid (hg (fun y r' => if ¬ y = 1 then .error 11 else bkFilter r' p q) rfl)
                have H5 := Lib.hid h5
                have L5 := Lib.hid l5
                clear h5 l5 hg HN4
                go_wp2_with fail
                refine (rmust_g w.heap.size w.heap.size r5 e5 11 _ K _ w w5 H5.out HG5.out (by decide)).mono ?_; rintro o w6 ⟨e6, rfl, h6, hg⟩
                have hg := hg (bkFilter r5 p q) (z = 1) (by simp <;> omega) rfl
                have HF := Lib.hid (rfilter_p w.heap.size w.heap.size N p q r5 e6 K w w6 h6 L5.out hg)
                clear h6 hg HG5 H5 L5
                go_wp2_with fail
                refine HF.out.mono ?_; rintro o w7 ⟨rfl, hb⟩
                have HB := Lib.hid hb
                clear hb
                unfold blkV
                go_wp2
                refine bodyPost_ret (results_tmp5' rfl _ _ _) rfl ?_
                exact ⟨rfl, HB.out⟩
          · rw [if_pos h63] at hR
            subst hR
            have g63 : ((F : Int) % 64 != 0) = true := by rw [bne_iff_ne]; omega
            have g63b : (bits .and .u8 (F : Int) 63 != 0) = true := by rw [bne, f63, decide_eq_false h63]; rfl
            clear h63 f63
            go_enter Try.func20, Try.ntmps20
            go_wp2_with fail
            refine HRS.out.mono ?_; rintro o wz ⟨rfl, rfl⟩
            go_wp2
            refine bodyPost_ret (results_tmp5' rfl _ _ _) rfl ?_
            exact ⟨rfl, Below.refl _ _⟩
        · rw [if_pos hse] at hR
          subst hR
          have hse : sealedB (bs.take N) = false := by simpa using hse
          rw [hse] at hrs
          have HRS := Lib.hid hrs
          clear hse hrs
          go_enter Try.func20, Try.ntmps20
          go_wp2_with fail
          refine HRS.out.mono ?_; rintro o wz ⟨rfl, rfl⟩
          go_wp2
          refine bodyPost_ret (results_tmp5' rfl _ _ _) rfl ?_
          exact ⟨rfl, Below.refl _ _⟩
end Go.Proofs.Ytjhmebkkdgpneaa
