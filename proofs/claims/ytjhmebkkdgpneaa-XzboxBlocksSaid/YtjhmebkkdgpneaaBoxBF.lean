/- A block's head, by the document: its filter. -/
import Derived.Test.YtjhmebkkdgpneaaBoxBE
namespace Go.Proofs.Ytjhmebkkdgpneaa
open Go.RowKit Box
set_option linter.unusedVariables false
set_option linter.unusedSimpArgs false
namespace Box
def stick (e : Int) (t : List UInt8) : Int := if e = 0 ∧ ¬ (∀ x ∈ t, x = 0) then 11 else e
theorem stick_nil (e : Int) : stick e [] = e := by unfold stick; simp
theorem stick_yes {e : Int} {t : List UInt8} (h : ∀ x ∈ t, x = 0) : stick e t = e := by unfold stick; rw [if_neg (fun k => k.2 h)]
theorem stick_no {t : List UInt8} (h : ¬ ∀ x ∈ t, x = 0) : stick 0 t = 11 := by unfold stick; rw [if_pos ⟨rfl, h⟩]
theorem stick_err {e : Int} {t : List UInt8} (h : ¬ e = 0) : stick e t = e := by unfold stick; rw [if_neg (fun k => h k.1)]
theorem bxMust_err {e x : Int} {β : Bool} (h : ¬ e = 0) : bxMust e β x = e := by unfold bxMust; rw [if_neg (fun k => h k.1)]
theorem bxMust_yes {e x : Int} : bxMust e true x = e := by unfold bxMust; rw [if_neg (fun k => nomatch k.2)]
theorem bxMust_no {x : Int} : bxMust 0 false x = x := by unfold bxMust; rw [if_pos ⟨rfl, rfl⟩]
theorem stick_snoc (e : Int) (t : List UInt8) (x : UInt8) (γ : Bool) (h : γ = true ↔ x = 0) : bxMust (stick e t) γ 11 = stick e (t ++ [x]) := by
  by_cases he : e = 0
  · subst he
    by_cases ht : ∀ x ∈ t, x = 0
    · rw [stick_yes ht]
      cases γ with
      | true =>
        have hx := h.1 rfl
        rw [bxMust_yes, stick_yes (fun y hy => by rcases List.mem_append.1 hy with k | k; exact ht y k; rw [List.mem_singleton.1 k]; exact hx)]
      | false =>
        have hx : ¬ x = 0 := fun k => nomatch h.2 k
        rw [bxMust_no, stick_no (fun k => hx (k x (by simp)))]
    · rw [stick_no ht, bxMust_err (by decide), stick_no (fun k => ht fun y hy => k y (by simp [hy]))]
  · rw [stick_err he, stick_err he, bxMust_err he]
theorem stick_zero {e : Int} {t : List UInt8} (h : stick e t = 0) : e = 0 ∧ ∀ x ∈ t, x = 0 := by
  unfold stick at h
  split at h
  · cases h
  · rename_i hn
    refine ⟨h, ?_⟩
    have := not_and.1 hn h
    simpa using this
/-- What the document's filter tells. -/
def rfil (e3 : Int) (F : Nat) (t : List UInt8) (n p q : Nat) : BlkR := if stick e3 t = 0 then (winOf F, n, p, q, 0) else (0, 0, 0, 0, stick e3 t)
theorem rfil_ok (c : UInt8) (t : List UInt8) (n p q : Nat) (β2 β3 : Bool) (h2 : decide (c.toNat < 64) = β2) (h3 : decide (c.toNat ≤ 40) = β3) : rfil (bxMust (bxMust 0 β2 12) β3 11) c.toNat t n p q = blkOf (bkFilter (c :: t) p q) n := by
  unfold rfil bkFilter
  simp only
  cases β2 with
  | true =>
    have h2 := of_decide_eq_true h2
    rw [bxMust_yes, if_neg (show ¬ ¬ c.toNat < 64 from fun k => k h2)]
    cases β3 with
    | true =>
      have h3 := of_decide_eq_true h3
      rw [bxMust_yes, if_neg (show ¬ 40 < c.toNat by omega)]
      by_cases ht : ∀ x ∈ t, x = 0
      · rw [stick_yes ht, if_pos rfl, if_neg (show ¬ ¬ (∀ x ∈ t, x = 0) from fun k => k ht)]; rfl
      · rw [stick_no ht, if_neg (by decide), if_pos ht]; rfl
    | false =>
      have h3 := of_decide_eq_false h3
      rw [bxMust_no, if_pos (show 40 < c.toNat by omega), stick_err (by decide), if_neg (by decide)]; rfl
  | false =>
    have h2 := of_decide_eq_false h2
    rw [bxMust_no, bxMust_err (by decide), if_pos (show ¬ c.toNat < 64 from h2), stick_err (by decide), if_neg (by decide)]; rfl
end Box
theorem results_tmp5' {fn : Func} {t u v x y : Tmp} (h : fn.results = #[.tmp t, .tmp u, .tmp v, .tmp x, .tmp y]) (tmps : Array Value) (P : Program) (w : World) :
    (results fn tmps).run P w = .ok (.tuple #[tmps.getD t undef, tmps.getD u undef, tmps.getD v undef, tmps.getD x undef, tmps.getD y undef]) w := by
  simp [results, h]
set_option maxRecDepth 100000 in
theorem rfilter_bad (xb B n p q : Nat) (r : List UInt8) (e : Int) (w0 w : World) (h : BoxW w0 w xb B r e) (he : ¬ e = 0) :
    Calls Try.prog 38 #[.pointer (some ⟨xb, 0, none⟩), .int .i64 (n : Int), .int .u64 (p : Int), .int .u64 (q : Int)] w fun o w' => o = .returned (blkV (0, 0, 0, 0, e)) ∧ Below B w0 w' := by
  have c1 := h.cell1
  have H := Lib.hid h
  obtain ⟨A, c, hp, _⟩ := h.p
  have c0 := hp.cell 0
  have hm : ∀ β, bxMust e β 11 = e := by intro β; unfold bxMust; simp [he]
  have HM := Lib.hid hm
  have hq : (e != 0) = true := by simp [he]
  obtain ⟨L, hL⟩ : ∃ L, r.length = L := ⟨_, rfl⟩
  rw [hL] at c0
  clear h hp hm he hL
  go_enter Try.func38, Try.ntmps38
  go_wp2_with fail
  refine (rmust_p xb B r e 11 _ w0 w H.out).mono ?_; rintro o w1 ⟨rfl, h1⟩
  rw [HM.out] at h1
  have c1 := h1.cell1
  have H1 := Lib.hid h1
  clear h1
  go_wp2
  go_quiet (fail)
  go_wp2
  refine bodyPost_ret (results_tmp5' rfl _ _ _) rfl ?_
  exact ⟨rfl, by first | exact H1.out.f | exact below_drewN H1.out.f _⟩
set_option maxRecDepth 100000 in
theorem rfilter_nil (xb B n p q : Nat) (w0 w : World) (h : BoxW w0 w xb B [] 0) :
    Calls Try.prog 38 #[.pointer (some ⟨xb, 0, none⟩), .int .i64 (n : Int), .int .u64 (p : Int), .int .u64 (q : Int)] w fun o w' => o = .returned (blkV (0, 0, 0, 0, 11)) ∧ Below B w0 w' := by
  have c1 := h.cell1
  have H := Lib.hid h
  obtain ⟨A, c, hp, _⟩ := h.p
  have c0 : w.cell? ⟨xb, 0, none⟩ = some (.slice A 0 c) := hp.cell 0
  clear h hp
  go_enter Try.func38, Try.ntmps38
  go_wp2_with fail
  refine (rmust_p xb B [] 0 11 false w0 w H.out).mono ?_; rintro o w1 ⟨rfl, h1⟩
  rw [show bxMust 0 false 11 = 11 from rfl] at h1
  have c1 := h1.cell1
  have H1 := Lib.hid h1
  clear h1
  go_wp2
  go_quiet (fail)
  go_wp2
  refine bodyPost_ret (results_tmp5' rfl _ _ _) rfl ?_
  exact ⟨rfl, by first | exact H1.out.f | exact below_drewN H1.out.f _⟩
set_option maxRecDepth 100000 in
set_option maxHeartbeats 1000000 in
theorem rfilter_cons (xb B n p q : Nat) (c : UInt8) (t : List UInt8) (w0 w : World) (h : BoxW w0 w xb B (c :: t) 0) (hlen : (c :: t).length ≤ 1000000) :
    Calls Try.prog 38 #[.pointer (some ⟨xb, 0, none⟩), .int .i64 (n : Int), .int .u64 (p : Int), .int .u64 (q : Int)] w fun o w' => o = .returned (blkV (blkOf (bkFilter (c :: t) p q) n)) ∧ Below B w0 w' := by
  obtain ⟨β2, h2⟩ : ∃ β, decide (c.toNat < 64) = β := ⟨_, rfl⟩
  obtain ⟨β3, h3⟩ : ∃ β, decide (c.toNat ≤ 40) = β := ⟨_, rfl⟩
  rw [← rfil_ok c t n p q β2 β3 h2 h3]
  have hcl := c.toNat_lt
  have H3 := Lib.hid h3
  have hz : stick (bxMust (bxMust 0 β2 12) β3 11) t = 0 → c.toNat ≤ 40 := by
    intro hs
    have := (stick_zero hs).1
    unfold bxMust at this
    cases β3 with
    | true => exact of_decide_eq_true h3
    | false => exfalso; revert this; cases β2 <;> simp
  obtain ⟨F, hF⟩ : ∃ F, c.toNat = F := ⟨_, rfl⟩
  obtain ⟨e3, he3⟩ : ∃ e, bxMust (bxMust 0 β2 12) β3 11 = e := ⟨_, rfl⟩
  rw [hF] at h2 h3 hcl
  have h3i : decide ((F : Int) ≤ 40) = β3 := by rw [← h3]; exact decide_eq_decide.2 (by omega)
  have f192 : (bits .and .u8 (F : Int) 192 == 0) = β2 := (and_facts hcl).2.2.2.1.trans h2
  have HZ := Lib.hid hz
  obtain ⟨rest, hrest⟩ : ∃ l, c :: t = l := ⟨_, rfl⟩
  have hl1 : 1 ≤ rest.length := by rw [← hrest]; simp
  have hl0 : decide (0 < rest.length) = true := decide_eq_true (by omega)
  have ht : t = rest.drop 1 := by rw [← hrest]; rfl
  have hc0 : rest.getD 0 0 = c := by rw [← hrest]; rfl
  rw [hrest] at h hlen
  have HT := Lib.hid ht
  have HC0 := Lib.hid hc0
  have HE3 := Lib.hid he3
  have HF := Lib.hid hF
  have c1 := h.cell1
  obtain ⟨A, k, hp, _⟩ := h.p
  have c0 : w.cell? ⟨xb, 0, none⟩ = some (.slice A rest.length k) := hp.cell 0
  have H := Lib.hid h
  clear h hp hz hrest ht hc0 h2 he3 hF
  rw [HE3.out, HF.out]
  go_enter Try.func38, Try.ntmps38
  go_wp2_with fail
  refine (rmust_p xb B rest 0 11 true w0 w H.out).mono ?_; rintro o w1 ⟨rfl, g1⟩
  rw [show bxMust 0 true 11 = 0 from rfl] at g1
  have c1 := g1.cell1
  obtain ⟨A1, k1, hp1, _, _, hr1⟩ := g1.p
  have c0 : w1.cell? ⟨xb, 0, none⟩ = some (.slice A1 rest.length k1) := hp1.cell 0
  obtain ⟨b0, off, rfl, _, hcell⟩ := hr1 (by omega)
  have cc : w1.cell? ⟨b0, off, none⟩ = some (.int .u8 (F : Int)) := by have := hcell 0 (by omega); rw [HC0.out] at this; rw [← HF.out]; exact this
  have H1 := Lib.hid g1
  clear g1 hp1 hr1 hcell
  go_wp2_with fail
  refine (rmust_p xb B rest 0 12 β2 w0 w1 H1.out).mono ?_; rintro o w2 ⟨rfl, g2⟩
  have H2 := Lib.hid g2
  clear g2
  go_wp2_with fail
  refine (rmust_p xb B rest _ 11 β3 w0 w2 H2.out).mono ?_; rintro o w3 ⟨rfl, g3⟩
  rw [HE3.out] at g3
  have H3 := Lib.hid g3
  clear g3
  go_wp2
  go_loopw [14] (fun iv wr => ∃ (i : Nat), iv = .int .i64 i ∧ 1 ≤ i ∧ i ≤ rest.length ∧ BoxW w0 wr xb B rest (stick e3 ((rest.take i).drop 1))) (fun iv _ => rest.length - (intOf iv).toNat)
  case atStart =>
    refine ⟨1, rfl, by omega, by omega, ?_⟩
    rw [show (rest.take 1).drop 1 = [] by rw [List.drop_eq_nil_iff, List.length_take]; omega, stick_nil]
    exact H3.out
  case round =>
    obtain ⟨i, rfl, hi1, hi, hbx⟩ := hrel
    obtain ⟨A2, k2, hp2, _, _, hr2⟩ := hbx.p
    have d0 : wr.cell? ⟨xb, 0, none⟩ = some (.slice A2 rest.length k2) := hp2.cell 0
    have d1 := hbx.cell1
    have BX := Lib.hid hbx
    by_cases hlt : i < rest.length
    · obtain ⟨b2, off2, rfl, _, hcell⟩ := hr2 (by omega)
      obtain ⟨x, hx⟩ : ∃ x, rest.getD i 0 = x := ⟨_, rfl⟩
      have cx : wr.cell? ⟨b2, off2 + i, none⟩ = some (.int .u8 (x.toNat : Int)) := by have := hcell i hlt; rw [hx] at this; exact this
      obtain ⟨γ, hγ⟩ : ∃ γ, ((x.toNat : Int) == 0) = γ := ⟨_, rfl⟩
      have hγx : γ = true ↔ x = 0 := by rw [← hγ]; simp [UInt8.toNat_inj, ← UInt8.toNat_inj]
      have hst : bxMust (stick e3 ((rest.take i).drop 1)) γ 11 = stick e3 ((rest.take (i + 1)).drop 1) := by
        rw [stick_snoc e3 _ x γ hγx]
        congr 1
        rw [List.take_succ_eq_append_getElem hlt, List.drop_append_of_le_length (by rw [List.length_take]; omega)]
        congr 2
        rw [← hx]; simp [List.getD, List.getElem?_eq_getElem hlt]
      have HST := Lib.hid hst
      clear hst hγx hbx hp2 hr2 hcell hx
      obtain ⟨ei, hei⟩ : ∃ ei, stick e3 ((rest.take i).drop 1) = ei := ⟨_, rfl⟩
      rw [hei] at d1 BX HST
      clear hei
      go_wp2_with fail
      refine (rmust_p xb B rest ei 11 γ w0 wr BX.out).mono ?_; rintro o w4 ⟨rfl, g4⟩
      rw [HST.out] at g4
      have H4 := Lib.hid g4
      clear g4
      go_wp2
      exact ⟨⟨i + 1, by go_num, by omega, by omega, H4.out⟩, by simp [intOf]; omega⟩
    · obtain rfl : i = rest.length := by omega
      have htt : (rest.take rest.length).drop 1 = t := by rw [List.take_length, ← HT.out]
      rw [htt] at d1 BX
      clear htt hbx hp2 hr2
      by_cases hs : stick e3 t = 0
      · rw [hs] at d1 BX
        have hF40 : F ≤ 40 := by have := HZ.out (by rw [HE3.out]; exact hs); rw [HF.out] at this; exact this
        have hR : rfil e3 F t n p q = (winOf F, n, p, q, 0) := by unfold rfil; rw [if_pos hs]
        have HR := Lib.hid hR
        have HW := Lib.hid (window_p F wr hF40)
        clear hs hR hF40
        go_wp2_with fail
        refine HW.out.mono ?_; rintro o w4 ⟨rfl, rfl⟩
        go_wp2
        refine bodyPost_ret (results_tmp5' rfl _ _ _) rfl ?_
        exact ⟨by rw [HR.out]; rfl, BX.out.f⟩
      · have hR : rfil e3 F t n p q = (0, 0, 0, 0, stick e3 t) := by unfold rfil; rw [if_neg hs]
        have HR := Lib.hid hR
        obtain ⟨e4, he4⟩ : ∃ e, stick e3 t = e := ⟨_, rfl⟩
        rw [he4] at d1 BX hs HR
        have hq : (e4 != 0) = true := by simp [hs]
        clear hs he4 hR
        go_wp2
        go_quiet (fail)
        go_wp2
        refine bodyPost_ret (results_tmp5' rfl _ _ _) rfl ?_
        exact ⟨by rw [HR.out]; rfl, by first | exact BX.out.f | exact below_drewN BX.out.f _⟩
end Go.Proofs.Ytjhmebkkdgpneaa
