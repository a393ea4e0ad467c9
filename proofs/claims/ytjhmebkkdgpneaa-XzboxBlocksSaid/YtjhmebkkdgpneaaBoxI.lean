/- A stream's head: the walk. -/
import Derived.Test.YtjhmebkkdgpneaaBoxH
namespace Go.Proofs.Ytjhmebkkdgpneaa
open Go.RowKit Box
set_option linter.unusedVariables false
set_option linter.unusedSimpArgs false
def magic : List UInt8 := [253, 55, 122, 88, 90, 0]
/-- What a head tells: its check, the error. -/
def headOf (bs : List UInt8) : Int × Int :=
  if bs.length < 12 then (0, 10)
  else if ¬ ((bs.take 6 == magic) = true ∧ sealedB ((bs.take 12).drop 6) = true) then (0, 11)
  else if ¬ flagsOk (bs.getD 6 0) (bs.getD 7 0) then (0, 12)
  else (((bs.getD 7 0).toNat : Int), 0)
def checkV (p : Int × Int) : Value := .tuple #[.int .i64 p.1, .int .i64 p.2]
/-- A new cursor. -/
theorem CurAt.fresh {w : World} {B : Nat} {A : Option Addr} {bs : List UInt8} {c : Nat} (w0 : World) (hc : bs.length ≤ c) (hm : c ≤ maxLen) (hr : BRow w0 B A bs) (hb : Below B w0 w) (hB : B ≤ w.heap.size) :
    CurAt (w.alloc (.cells #[.slice A bs.length c, .int .i64 0] 49)) w.heap.size B bs 0 :=
  ⟨A, c, Pts.new w _ _, (hr.below hb).below ((Below.refl B w).alloc hB _), hc, hm, hB⟩
theorem slice_midX (A : Option Addr) (n c f t : Nat) (h1 : f ≤ t) (h2 : t ≤ n) (hn : n ≤ c) (hf : f < c) (w : World) :
    (Instr.sliceAt 22 (.slice A n c) (some (.int .i64 (f : Int))) (some (.int .i64 (t : Int))) none).run Try.prog w = .ok (.slice (A.map (·.add f)) (t - f) (c - f)) w := by
  have hcf : ¬ c = f := by omega
  simp [go_sem, hcf]
  rw [if_pos (by omega), if_pos h1]
theorem mid_two {l : List UInt8} {f : Nat} (h : f + 2 ≤ l.length) : (l.drop f).take 2 = [l.getD f 0, l.getD (f + 1) 0] := by
  rw [List.drop_eq_getElem_cons (by omega), List.drop_eq_getElem_cons (by omega)]
  have e1 : l.getD f 0 = l[f] := by simp [List.getD, List.getElem?_eq_getElem (show f < l.length by omega)]
  have e2 : l.getD (f + 1) 0 = l[f + 1] := by simp [List.getD, List.getElem?_eq_getElem (show f + 1 < l.length by omega)]
  rw [e1, e2]; rfl
theorem BRow.mid {w : World} {B c f t : Nat} {A : Option Addr} {bs : List UInt8} (h : BRow w B A bs) (hc : bs.length ≤ c) (hf : f < c) : BRow w B (A.map (·.add f)) ((bs.drop f).take t) := by
  have := (h.drop (k := f) (cap := c) hc).take t
  rw [if_neg (by omega)] at this
  exact this
set_option maxRecDepth 100000 in
set_option maxHeartbeats 1000000 in
theorem head_p (A : Option Addr) (bs : List UInt8) (n c : Nat) (w : World) (hn : n = bs.length) (hc : n ≤ c) (hcm : c ≤ maxLen) (hr : BRow w w.heap.size A bs) (hlen : bs.length ≤ maxLen) :
    Calls Try.prog 8 #[.slice A n c] w fun e w' => e = .returned (checkV (headOf bs)) ∧ Below w.heap.size w w' := by
  subst hn
  have P0 : Pts (w.alloc (.cells #[.int .i64 0] 23)) w.heap.size #[.int .i64 0] 23 := Pts.new w _ _
  have hcur := CurAt.fresh (w := w.alloc (.cells #[.int .i64 0] 23)) w hc hcm hr ((Below.refl _ w).alloc (Nat.le_refl _) _) (by simp)
  have P1 := P0.alloc (.cells #[.slice A bs.length c, .int .i64 0] 49)
  have hsz : (w.alloc (.cells #[.int .i64 0] 23)).heap.size = w.heap.size + 1 := by show (w.heap.push _).size = _; rw [Array.size_push]
  have F1 : Below w.heap.size w ((w.alloc (.cells #[.int .i64 0] 23)).alloc (.cells #[.slice A bs.length c, .int .i64 0] 49)) := ((Below.refl _ w).alloc (Nat.le_refl _) _).alloc (by rw [hsz]; omega) _
  rw [hsz] at hcur
  obtain ⟨w1, hw1⟩ : ∃ w1, (w.alloc (.cells #[.int .i64 0] 23)).alloc (.cells #[.slice A bs.length c, .int .i64 0] 49) = w1 := ⟨_, rfl⟩
  rw [hw1] at P1 hcur F1
  have PP1 := Lib.hid P1
  have CC := Lib.hid hcur
  have FF1 := Lib.hid F1
  clear P0 P1 hcur F1 hr
  by_cases h12 : bs.length < 12
  · have HH := Lib.hid h12
    have hh : headOf bs = (0, 10) := by unfold headOf; rw [if_pos h12]
    rw [hh]
    clear h12 hh
    go_enter_defers Try.func8, Try.ntmps8
    go_wp2_with fail
    refine (take_bad (w.heap.size + 1) w.heap.size 12 0 10 bs w1 CC.out HH.out).mono ?_; rintro r w2 ⟨rfl, rfl⟩
    go_wp2
    refine leaves_cons (f := 21) (args := #[.pointer (some ⟨w.heap.size, 0, none⟩)]) (by simp) (by simp [go_sem]) ?_
    refine (catch_panicking w.heap.size 10 0 _ _ PP1.out).mono ?_
    rintro e u' w'' ⟨rfl, rfl, hp, hf⟩
    have c0 := hp.cell 0
    have hbel : Below w.heap.size w w'' := (FF1.out).trans (hf.below (FF1.out).size (fun k hk => by omega))
    simp [Leaves, settle, results, Try.results8, go_sem, c0, checkV, hbel]
  · have hge : 12 ≤ bs.length := by omega
    have HGE := Lib.hid hge
    have lH : (bs.take 12).length = 12 := by rw [List.length_take]; omega
    obtain ⟨H, hH⟩ : ∃ H, bs.take 12 = H := ⟨_, rfl⟩
    have e6 : bs.take 6 = H.take 6 := by rw [← hH, List.take_take]; rfl
    have hg : ∀ k, k < 12 → bs.getD k 0 = H.getD k 0 := fun k hk => by rw [← hH]; simp only [List.getD, List.getElem?_take]; rw [if_pos hk]
    have hh0 : headOf bs = (if ¬ ((H.take 6 == magic) = true ∧ sealedB (H.drop 6) = true) then (0, 11) else if ¬ flagsOk (H.getD 6 0) (H.getD 7 0) then (0, 12) else (((H.getD 7 0).toNat : Int), 0) : Int × Int) := by
      unfold headOf; rw [if_neg h12, e6, hH, hg 6 (by decide), hg 7 (by decide)]
    rw [hH] at lH
    have hS1 : ∀ (A : Option Addr) (c2 : Nat), 12 ≤ c2 → ∀ w, (Instr.sliceAt 22 (.slice A 12 c2) none (some (.int .i64 6)) none).run Try.prog w = .ok (.slice A 6 c2) w := fun A c2 h w => slice_toX A 12 c2 6 (by decide) h w
    have hS2 : ∀ (A : Option Addr) (c2 : Nat), 12 ≤ c2 → ∀ w, (Instr.sliceAt 22 (.slice A 12 c2) (some (.int .i64 6)) none none).run Try.prog w = .ok (.slice (A.map (·.add 6)) 6 (c2 - 6)) w := fun A c2 h w => by
      have := slice_fromX A 12 c2 6 (by decide) h w
      rw [if_neg (by omega)] at this
      exact this
    have hS3 : ∀ (A : Option Addr) (c2 : Nat), 12 ≤ c2 → ∀ w, (Instr.sliceAt 22 (.slice A 12 c2) (some (.int .i64 6)) (some (.int .i64 8)) none).run Try.prog w = .ok (.slice (A.map (·.add 6)) 2 (c2 - 6)) w := fun A c2 h w => slice_midX A 12 c2 6 8 (by decide) (by decide) h (by omega) w
    have lT : 6 = (H.take 6).length := by rw [List.length_take]; omega
    have lD : 6 = (H.drop 6).length := by rw [List.length_drop]; omega
    have hmt : (H.drop 6).take 2 = [H.getD 6 0, H.getD 7 0] := mid_two (by omega)
    have LT := Lib.hid lT
    have LD := Lib.hid lD
    have LH := Lib.hid lH
    have HH := Lib.hid hH
    have HMT := Lib.hid hmt
    have hD140 : (H.drop 6).length ≤ 140737488355328 := by omega
    have H140 := Lib.hid hD140
    have hcb := hcm
    clear lT lD hH h12 e6 hg hge hlen lH hmt hD140
    rw [hh0]
    clear hh0
    by_cases hmag : H.take 6 = magic
    · have hmt2 : (H.take 6 == magic) = true := beq_iff_eq.2 hmag
      have HMAG := Lib.hid hmag
      by_cases hse : sealedB (H.drop 6) = true
      · rw [if_neg (fun h => h ⟨hmt2, hse⟩)]
        by_cases hfl : flagsOk (H.getD 6 0) (H.getD 7 0)
        · rw [if_neg (fun h => h hfl)]
          have HFL := Lib.hid hfl
          obtain ⟨ck, hck⟩ : ∃ ck, H.getD 7 0 = ck := ⟨_, rfl⟩
          obtain ⟨ck6, hck6⟩ : ∃ ck, H.getD 6 0 = ck := ⟨_, rfl⟩
          rw [hck, hck6] at HMT HFL
          rw [hck]
          clear hmt2 hmag hfl hck hck6
          go_enter_defers Try.func8, Try.ntmps8
          go_wp2_with fail
          refine (take_ok (w.heap.size + 1) w.heap.size 12 0 10 bs w1 CC.out HGE.out (by decide)).mono ?_; rintro r w2 ⟨A2, c2, rfl, hr2, hc2, hm2, hcur2, hf2⟩
          rw [HH.out] at hr2
          have P2 := Lib.hid (PP1.out.frm hf2 (by omega))
          have B2 := Lib.hid (FF1.out.trans (hf2.below FF1.out.size (fun k hk => by omega)))
          have hs1 := hS1 A2 c2 hc2
          have hs2 := hS2 A2 c2 hc2
          have hs3 := hS3 A2 c2 hc2
          have k1 := run_conv_bytes (P := Try.prog) w2 22 9 5 Try.underlying22 Try.underlying5 Try.underlying9 A2 6 c2 _ (H.take 6) LT.out (hr2.take 6)
          rw [HMAG.out] at k1
          have hrd := hr2.drop (k := 6) (cap := c2) (by rw [LH.out]; exact hc2)
          rw [if_neg (by omega)] at hrd
          have RD := Lib.hid hrd
          have RM := Lib.hid (hr2.mid (f := 6) (t := 2) (by rw [LH.out]; exact hc2) (by omega))
          have hc6 : 6 ≤ c2 - 6 := by omega
          have HC6 := Lib.hid hc6
          clear hr2 hc2 hm2 hcur2 hS1 hS2 hS3 hf2 hrd hc6
          go_wp2_with fail
          refine (sealed_p _ (H.drop 6) 6 _ w2 LD.out (by decide) HC6.out (RD.out.more B2.out.size) H140.out).mono ?_; rintro r w3 ⟨rfl, hb3⟩
          rw [hse]
          have P3 := Lib.hid (P2.out.below hb3 P2.out.lt)
          have B3 := Lib.hid (B2.out.trans (hb3.mono B2.out.size))
          have RF := Lib.hid (HMT.out ▸ (RM.out.below (hb3.mono B2.out.size)))
          clear hb3
          go_wp2_with fail
          refine (must_ok _ _ _).mono ?_; rintro r w4 ⟨rfl, rfl⟩
          go_wp2_with fail
          refine (flags_ok _ ck6 ck 2 _ w.heap.size _ w3 rfl RF.out HFL.out).mono ?_; rintro r w4 ⟨rfl, rfl⟩
          have c30 := P3.out.cell 0
          have z30 := P3.out.frozen 0
          have c31 := (P3.out.set 0 (.int .i64 0)).cell 0
          have hbel := B3.out.setCell (p := ⟨w.heap.size, 0, none⟩) (Nat.le_refl _) (.int .i64 0)
          have HC31 := Lib.hid c31
          have HBEL := Lib.hid hbel
          clear c31 hbel
          go_wp2
          refine leaves_cons (f := 21) (args := #[.pointer (some ⟨w.heap.size, 0, none⟩)]) (by simp) (by simp [go_sem]) ?_
          refine (catch_idle _ _).mono ?_
          rintro e u' w'' ⟨rfl, rfl, rfl⟩
          have c31 := HC31.out
          have hbel := HBEL.out
          simp [Leaves, settle, results, Try.results8, go_sem, checkV, c30]
          exact hbel
        · rw [if_pos hfl]
          have HFL := Lib.hid hfl
          obtain ⟨ck, hck⟩ : ∃ ck, H.getD 7 0 = ck := ⟨_, rfl⟩
          obtain ⟨ck6, hck6⟩ : ∃ ck, H.getD 6 0 = ck := ⟨_, rfl⟩
          rw [hck, hck6] at HMT HFL
          clear hmt2 hmag hfl hck hck6
          go_enter_defers Try.func8, Try.ntmps8
          go_wp2_with fail
          refine (take_ok (w.heap.size + 1) w.heap.size 12 0 10 bs w1 CC.out HGE.out (by decide)).mono ?_; rintro r w2 ⟨A2, c2, rfl, hr2, hc2, hm2, hcur2, hf2⟩
          rw [HH.out] at hr2
          have P2 := Lib.hid (PP1.out.frm hf2 (by omega))
          have B2 := Lib.hid (FF1.out.trans (hf2.below FF1.out.size (fun k hk => by omega)))
          have hs1 := hS1 A2 c2 hc2
          have hs2 := hS2 A2 c2 hc2
          have hs3 := hS3 A2 c2 hc2
          have k1 := run_conv_bytes (P := Try.prog) w2 22 9 5 Try.underlying22 Try.underlying5 Try.underlying9 A2 6 c2 _ (H.take 6) LT.out (hr2.take 6)
          rw [HMAG.out] at k1
          have hrd := hr2.drop (k := 6) (cap := c2) (by rw [LH.out]; exact hc2)
          rw [if_neg (by omega)] at hrd
          have RD := Lib.hid hrd
          have RM := Lib.hid (hr2.mid (f := 6) (t := 2) (by rw [LH.out]; exact hc2) (by omega))
          have hc6 : 6 ≤ c2 - 6 := by omega
          have HC6 := Lib.hid hc6
          clear hr2 hc2 hm2 hcur2 hS1 hS2 hS3 hf2 hrd hc6
          go_wp2_with fail
          refine (sealed_p _ (H.drop 6) 6 _ w2 LD.out (by decide) HC6.out (RD.out.more B2.out.size) H140.out).mono ?_; rintro r w3 ⟨rfl, hb3⟩
          rw [hse]
          have P3 := Lib.hid (P2.out.below hb3 P2.out.lt)
          have B3 := Lib.hid (B2.out.trans (hb3.mono B2.out.size))
          have RF := Lib.hid (HMT.out ▸ (RM.out.below (hb3.mono B2.out.size)))
          clear hb3
          go_wp2_with fail
          refine (must_ok _ _ _).mono ?_; rintro r w4 ⟨rfl, rfl⟩
          go_wp2_with fail
          refine (flags_bad _ ck6 ck 2 _ w.heap.size _ w3 rfl RF.out HFL.out).mono ?_; rintro r w4 ⟨rfl, rfl⟩
          go_wp2
          refine leaves_cons (f := 21) (args := #[.pointer (some ⟨w.heap.size, 0, none⟩)]) (by simp) (by simp [go_sem]) ?_
          refine (catch_panicking w.heap.size 12 0 _ _ P3.out).mono ?_
          rintro e u' w'' ⟨rfl, rfl, hp, hf⟩
          have c0 := hp.cell 0
          have hbel : Below w.heap.size w w'' := (B3.out).trans (hf.below (B3.out).size (fun k hk => by omega))
          simp [Leaves, settle, results, Try.results8, go_sem, c0, checkV, hbel]
      · have hse : sealedB (H.drop 6) = false := by simpa using hse
        rw [if_pos (fun h => by rw [hse] at h; cases h.2)]
        clear hmt2 hmag
        go_enter_defers Try.func8, Try.ntmps8
        go_wp2_with fail
        refine (take_ok (w.heap.size + 1) w.heap.size 12 0 10 bs w1 CC.out HGE.out (by decide)).mono ?_; rintro r w2 ⟨A2, c2, rfl, hr2, hc2, hm2, hcur2, hf2⟩
        rw [HH.out] at hr2
        have P2 := Lib.hid (PP1.out.frm hf2 (by omega))
        have B2 := Lib.hid (FF1.out.trans (hf2.below FF1.out.size (fun k hk => by omega)))
        have hs1 := hS1 A2 c2 hc2
        have hs2 := hS2 A2 c2 hc2
        have hs3 := hS3 A2 c2 hc2
        have k1 := run_conv_bytes (P := Try.prog) w2 22 9 5 Try.underlying22 Try.underlying5 Try.underlying9 A2 6 c2 _ (H.take 6) LT.out (hr2.take 6)
        rw [HMAG.out] at k1
        have hrd := hr2.drop (k := 6) (cap := c2) (by rw [LH.out]; exact hc2)
        rw [if_neg (by omega)] at hrd
        have RD := Lib.hid hrd
        have RM := Lib.hid (hr2.mid (f := 6) (t := 2) (by rw [LH.out]; exact hc2) (by omega))
        have hc6 : 6 ≤ c2 - 6 := by omega
        have HC6 := Lib.hid hc6
        clear hr2 hc2 hm2 hcur2 hS1 hS2 hS3 hf2 hrd hc6
        go_wp2_with fail
        refine (sealed_p _ (H.drop 6) 6 _ w2 LD.out (by decide) HC6.out (RD.out.more B2.out.size) H140.out).mono ?_; rintro r w3 ⟨rfl, hb3⟩
        rw [hse]
        have P3 := Lib.hid (P2.out.below hb3 P2.out.lt)
        have B3 := Lib.hid (B2.out.trans (hb3.mono B2.out.size))
        have RF := Lib.hid (HMT.out ▸ (RM.out.below (hb3.mono B2.out.size)))
        clear hb3
        go_wp2_with fail
        refine (must_bad _ _ _).mono ?_; rintro r w4 ⟨rfl, rfl⟩
        go_wp2
        refine leaves_cons (f := 21) (args := #[.pointer (some ⟨w.heap.size, 0, none⟩)]) (by simp) (by simp [go_sem]) ?_
        refine (catch_panicking w.heap.size 11 0 _ _ P3.out).mono ?_
        rintro e u' w'' ⟨rfl, rfl, hp, hf⟩
        have c0 := hp.cell 0
        have hbel : Below w.heap.size w w'' := (B3.out).trans (hf.below (B3.out).size (fun k hk => by omega))
        simp [Leaves, settle, results, Try.results8, go_sem, c0, checkV, hbel]
    · rw [if_pos (fun h => hmag (beq_iff_eq.1 h.1))]
      have hmq : (H.take 6 == ([253, 55, 122, 88, 90, 0] : List UInt8)) = false := beq_eq_false_iff_ne.2 hmag
      clear hmag hS2 hS3
      go_enter_defers Try.func8, Try.ntmps8
      go_wp2_with fail
      refine (take_ok (w.heap.size + 1) w.heap.size 12 0 10 bs w1 CC.out HGE.out (by decide)).mono ?_; rintro r w2 ⟨A2, c2, rfl, hr2, hc2, hm2, hcur2, hf2⟩
      rw [HH.out] at hr2
      have P2 := Lib.hid (PP1.out.frm hf2 (by omega))
      have B2 := Lib.hid (FF1.out.trans (hf2.below FF1.out.size (fun k hk => by omega)))
      have hs1 := hS1 A2 c2 hc2
      have k1 := run_conv_bytes (P := Try.prog) w2 22 9 5 Try.underlying22 Try.underlying5 Try.underlying9 A2 6 c2 _ (H.take 6) LT.out (hr2.take 6)
      clear hr2 hc2 hm2 hcur2 hS1 hf2
      go_wp2_with fail
      refine (must_bad _ _ _).mono ?_; rintro r w4 ⟨rfl, rfl⟩
      go_wp2
      refine leaves_cons (f := 21) (args := #[.pointer (some ⟨w.heap.size, 0, none⟩)]) (by simp) (by simp [go_sem]) ?_
      refine (catch_panicking w.heap.size 11 0 _ _ P2.out).mono ?_
      rintro e u' w'' ⟨rfl, rfl, hp, hf⟩
      have c0 := hp.cell 0
      have hbel : Below w.heap.size w w'' := (B2.out).trans (hf.below (B2.out).size (fun k hk => by omega))
      simp [Leaves, settle, results, Try.results8, go_sem, c0, checkV, hbel]
end Go.Proofs.Ytjhmebkkdgpneaa
