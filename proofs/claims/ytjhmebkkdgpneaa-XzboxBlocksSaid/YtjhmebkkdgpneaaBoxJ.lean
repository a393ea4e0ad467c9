/- A stream's head: the document's walk. -/
import Derived.Test.YtjhmebkkdgpneaaBoxI
namespace Go.Proofs.Ytjhmebkkdgpneaa
open Go.RowKit Box
set_option linter.unusedVariables false
set_option linter.unusedSimpArgs false
def knownB (b : UInt8) : Bool := decide (b = 0 ∨ b = 1 ∨ b = 4)
theorem known_p (b : UInt8) (w : World) : Calls Try.prog 27 #[.int .u8 (b.toNat : Int)] w fun e w' => e = .returned (.bool (knownB b)) ∧ w = w' := by
  by_cases h0 : b = 0
  · have hk : knownB b = true := by unfold knownB; simp [h0]
    rw [hk]
    subst h0
    show Calls _ _ #[.int .u8 0] w _
    go_enter Try.func27, Try.ntmps27
    go_wp2
    go_ret
    exact ⟨rfl, rfl⟩
  · by_cases h1 : b = 1
    · have hk : knownB b = true := by unfold knownB; simp [h1]
      rw [hk]
      subst h1
      show Calls _ _ #[.int .u8 1] w _
      go_enter Try.func27, Try.ntmps27
      go_wp2
      go_ret
      exact ⟨rfl, rfl⟩
    · by_cases h4 : b = 4
      · have hk : knownB b = true := by unfold knownB; simp [h4]
        rw [hk]
        subst h4
        show Calls _ _ #[.int .u8 4] w _
        go_enter Try.func27, Try.ntmps27
        go_wp2
        go_ret
        exact ⟨rfl, rfl⟩
      · have hk : knownB b = false := by unfold knownB; simp [h0, h1, h4]
        rw [hk]
        have p0 : ((b.toNat : Int) == 0) = false := nat_ne (k := 0) (by decide) h0
        have p1 : ((b.toNat : Int) == 1) = false := nat_ne (k := 1) (by decide) h1
        have p4 : ((b.toNat : Int) == 4) = false := nat_ne (k := 4) (by decide) h4
        generalize b.toNat = x at *
        clear h0 h1 h4 hk
        go_enter Try.func27, Try.ntmps27
        go_wp2
        go_ret
        exact ⟨rfl, rfl⟩
theorem byte_neq {a b : UInt8} (h : ¬ a = b) : ((a.toNat : Int) != (b.toNat : Int)) = true := by rw [bne, byte_ne h]; rfl
theorem flags_iff (a b : UInt8) : flagsOk a b ↔ a = 0 ∧ knownB b = true := by unfold flagsOk knownB; simp
theorem take_snoc {l m : List UInt8} {i : Nat} (h : l.take i = m.take i) (hl : i < l.length) (hm : i < m.length) (e : l[i] = m[i]) : l.take (i + 1) = m.take (i + 1) := by
  rw [List.take_succ_eq_append_getElem hl, List.take_succ_eq_append_getElem hm, h, e]
theorem take_off {l m : List UInt8} {i k : Nat} (hk : i < k) (hl : i < l.length) (hm : i < m.length) (e : ¬ l[i] = m[i]) : ¬ l.take k = m.take k := by
  intro h
  apply e
  have h1 := congrArg (fun l => l[i]?) h
  simp only [List.getElem?_take, hk, if_true] at h1
  rw [List.getElem?_eq_getElem hl, List.getElem?_eq_getElem hm] at h1
  exact Option.some.inj h1
set_option maxRecDepth 100000 in
set_option maxHeartbeats 1000000 in
theorem rhead_p (A : Option Addr) (bs : List UInt8) (n c : Nat) (w : World) (hn : n = bs.length) (hc : n ≤ c) (hr : BRow w w.heap.size A bs) (hlen : bs.length ≤ maxLen) :
    Calls Try.prog 9 #[.slice A n c] w fun e w' => e = .returned (checkV (headOf bs)) ∧ Below w.heap.size w w' := by
  subst hn
  obtain ⟨R, hR⟩ : ∃ R, headOf bs = R := ⟨_, rfl⟩
  have hRR := hR
  unfold headOf at hRR
  by_cases h12 : bs.length < 12
  · rw [if_pos h12] at hRR
    rw [hR, ← hRR]
    clear hR hRR
    go_enter Try.func9, Try.ntmps9
    go_wp2
    refine bodyPost_ret (results_tmp2 rfl _ _ _) rfl ?_
    exact ⟨rfl, Below.refl _ _⟩
  · rw [if_neg h12] at hRR
    rw [hR]
    obtain ⟨b0, off, rfl, hb0, hcell⟩ := hr (by omega)
    have hr0 := Lib.hid hr
    have CELL := Lib.hid hcell
    have h6 : w.cell? ⟨b0, off + 6, none⟩ = some (.int .u8 ((bs.getD 6 0).toNat : Int)) := hcell 6 (by omega)
    have h7 : w.cell? ⟨b0, off + 7, none⟩ = some (.int .u8 ((bs.getD 7 0).toNat : Int)) := hcell 7 (by omega)
    obtain ⟨F0, hF0⟩ : ∃ F, bs.getD 6 0 = F := ⟨_, rfl⟩
    obtain ⟨F1, hF1⟩ : ∃ F, bs.getD 7 0 = F := ⟨_, rfl⟩
    rw [hF0] at h6 hRR
    rw [hF1] at h7 hRR
    have hs3 : ∀ w, (Instr.sliceAt 22 (.slice (some ⟨b0, off, none⟩) bs.length c) (some (.int .i64 6)) (some (.int .i64 12)) none).run Try.prog w = .ok (.slice ((some ⟨b0, off, none⟩ : Option Addr).map (·.add 6)) 6 (c - 6)) w := fun w => slice_midX _ bs.length c 6 12 (by decide) (by omega) hc (by omega) w
    obtain ⟨A6, hA6⟩ : ∃ A6, (some (⟨b0, off, none⟩ : Addr)).map (·.add 6) = A6 := ⟨_, rfl⟩
    rw [hA6] at hs3
    have hmid := hr.mid (f := 6) (t := 6) (c := c) hc (by omega)
    have hdt : (bs.take 12).drop 6 = (bs.drop 6).take 6 := by rw [List.drop_take]
    rw [hA6, ← hdt] at hmid
    clear hdt
    have RM := Lib.hid hmid
    have lM : 6 = ((bs.take 12).drop 6).length := by rw [List.length_drop, List.length_take]; omega
    have LM := Lib.hid lM
    have hge : 12 ≤ bs.length := by omega
    have HGE := Lib.hid hge
    have RR := Lib.hid hRR
    have CAP := Lib.hid hc
    obtain ⟨w1, hw1⟩ : ∃ w1, w.alloc (.cells #[.int .u8 253, .int .u8 55, .int .u8 122, .int .u8 88, .int .u8 90, .int .u8 0] 5) = w1 := ⟨_, rfl⟩
    have hb1 : Below w.heap.size w w1 := hw1 ▸ (Below.refl _ w).alloc (Nat.le_refl _) _
    have PM : Pts w1 w.heap.size #[.int .u8 253, .int .u8 55, .int .u8 122, .int .u8 88, .int .u8 90, .int .u8 0] 5 := hw1 ▸ Pts.new w _ _
    have B1 := Lib.hid hb1
    have PM1 := Lib.hid PM
    have H6 := Lib.hid h6
    have H7 := Lib.hid h7
    clear hr hcell hF0 hF1 hmid lM hge hRR hc hb1 PM h6 h7 hR h12 hA6
    go_enter Try.func9, Try.ntmps9
    have hl12 : ¬ (bs.length : Int) < 12 := by have := HGE.out; omega
    go_wp2
    go_loopw [5] (fun iv wr => Below w.heap.size w wr ∧ Pts wr w.heap.size #[.int .u8 253, .int .u8 55, .int .u8 122, .int .u8 88, .int .u8 90, .int .u8 0] 5 ∧ ∃ i : Nat, iv = .int .i64 i ∧ i ≤ 6 ∧ bs.take i = magic.take i) (fun iv _ => 6 - (intOf iv).toNat)
    case atStart => exact ⟨B1.out, PM1.out, 0, rfl, by omega, rfl⟩
    case round =>
      obtain ⟨hbw, hpw, i, rfl, hi, ht⟩ := hrel
      have BW := Lib.hid hbw
      have PW := Lib.hid hpw
      have h6' : wr.cell? ⟨b0, off + 6, none⟩ = some (.int .u8 (F0.toNat : Int)) := (hbw.cell (p := ⟨b0, off + 6, none⟩) hb0).trans H6.out
      have h7' : wr.cell? ⟨b0, off + 7, none⟩ = some (.int .u8 (F1.toNat : Int)) := (hbw.cell (p := ⟨b0, off + 7, none⟩) hb0).trans H7.out
      have hF1l := F1.toNat_lt
      clear hbw hpw
      by_cases hlt : i < 6
      · have hib : i < bs.length := by have := HGE.out; omega
        have him : i < magic.length := hlt
        have c1 : wr.cell? ⟨b0, off + i, none⟩ = some (.int .u8 (bs[i].toNat : Int)) := by
          rw [BW.out.cell (p := ⟨b0, off + i, none⟩) hb0, CELL.out i hib]; simp [byteV, List.getD, List.getElem?_eq_getElem hib]
        have c2 : wr.cell? ⟨w.heap.size, i, none⟩ = some (.int .u8 (magic[i].toNat : Int)) := by
          rw [PW.out.cell]
          match i, hlt with
          | 0, _ => rfl
          | 1, _ => rfl
          | 2, _ => rfl
          | 3, _ => rfl
          | 4, _ => rfl
          | 5, _ => rfl
        obtain ⟨x, hx⟩ : ∃ x, bs[i] = x := ⟨_, rfl⟩
        obtain ⟨y, hy⟩ : ∃ y, magic[i] = y := ⟨_, rfl⟩
        rw [hx] at c1
        rw [hy] at c2
        by_cases hxy : x = y
        · have hq : ((x.toNat : Int) != (y.toNat : Int)) = false := by rw [hxy]; simp
          have HT := Lib.hid (take_snoc ht hib him (by rw [hx, hy, hxy]))
          clear hx hy ht him hxy
          go_wp2
          go_quiet (fail)
          go_wp2
          exact ⟨⟨below_drewN BW.out _, PW.out.drewN _, i + 1, by go_num, by omega, HT.out⟩, by simp [intOf]; omega⟩
        · have hq := byte_neq hxy
          have hne := take_off hlt hib him (by rw [hx, hy]; exact hxy)
          have hRR := RR.out
          rw [if_pos (fun h => hne (beq_iff_eq.1 h.1))] at hRR
          subst hRR
          clear hx hy ht him hxy hne RR
          go_wp2
          go_quiet (fail)
          go_wp2
          refine bodyPost_ret (results_tmp2 rfl _ _ _) rfl ?_
          exact ⟨rfl, by first | exact BW.out | exact below_drewN BW.out _⟩
      · obtain rfl : i = 6 := by omega
        have hm : (bs.take 6 == magic) = true := beq_iff_eq.2 ht
        have hrs := rsealed_p A6 ((bs.take 12).drop 6) 6 (c - 6) w.heap.size wr LM.out (by decide) (by have := CAP.out; have := HGE.out; omega) (RM.out.below BW.out) (by rw [← LM.out]; decide)
        have hRR := RR.out
        by_cases hse : sealedB ((bs.take 12).drop 6) = true
        · rw [if_neg (fun h => h ⟨hm, hse⟩)] at hRR
          rw [hse] at hrs
          have HRS := Lib.hid hrs
          clear RR hm hse hrs ht
          by_cases hF : F0 = 0
          · subst hF
            have h6' : wr.cell? ⟨b0, off + 6, none⟩ = some (.int .u8 0) := h6'
            have HK := Lib.hid (known_p F1 wr)
            by_cases hk : knownB F1 = true
            · rw [if_neg (fun h => h ((flags_iff _ _).2 ⟨rfl, hk⟩))] at hRR
              subst hRR
              rw [hk] at HK
              clear hk
              go_wp2_with fail
              refine HRS.out.mono ?_; rintro r w2 ⟨rfl, rfl⟩
              go_wp2_with fail
              refine HK.out.mono ?_; rintro r w2 ⟨rfl, rfl⟩
              go_wp2
              refine bodyPost_ret (results_tmp2 rfl _ _ _) rfl ?_
              exact ⟨rfl, by first | exact BW.out | exact below_drewN BW.out _⟩
            · rw [if_pos (fun h => hk ((flags_iff _ _).1 h).2)] at hRR
              subst hRR
              have hk : knownB F1 = false := by simpa using hk
              rw [hk] at HK
              clear hk
              go_wp2_with fail
              refine HRS.out.mono ?_; rintro r w2 ⟨rfl, rfl⟩
              go_wp2_with fail
              refine HK.out.mono ?_; rintro r w2 ⟨rfl, rfl⟩
              go_wp2
              refine bodyPost_ret (results_tmp2 rfl _ _ _) rfl ?_
              exact ⟨rfl, by first | exact BW.out | exact below_drewN BW.out _⟩
          · rw [if_pos (fun h => hF h.1)] at hRR
            subst hRR
            have hq : ((F0.toNat : Int) != 0) = true := byte_neq (b := 0) hF
            clear hF
            go_wp2_with fail
            refine HRS.out.mono ?_; rintro r w2 ⟨rfl, rfl⟩
            go_wp2
            refine bodyPost_ret (results_tmp2 rfl _ _ _) rfl ?_
            exact ⟨rfl, by first | exact BW.out | exact below_drewN BW.out _⟩
        · rw [if_pos (fun h => hse h.2)] at hRR
          subst hRR
          have hse : sealedB ((bs.take 12).drop 6) = false := by simpa using hse
          rw [hse] at hrs
          have HRS := Lib.hid hrs
          clear RR hm hse hrs ht
          go_wp2_with fail
          refine HRS.out.mono ?_; rintro r w2 ⟨rfl, rfl⟩
          go_wp2
          refine bodyPost_ret (results_tmp2 rfl _ _ _) rfl ?_
          exact ⟨rfl, by first | exact BW.out | exact below_drewN BW.out _⟩
end Go.Proofs.Ytjhmebkkdgpneaa
