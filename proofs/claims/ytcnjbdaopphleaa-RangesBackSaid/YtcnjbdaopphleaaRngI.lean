/- The encoder's Bit. -/
import Derived.Test.YtcnjbdaopphleaaRngH
namespace Go.Proofs.Ytcnjbdaopphleaa
open Go.RowKit Rng
set_option linter.unusedVariables false
set_option linter.unusedSimpArgs false
theorem u64_add {a b : Nat} (h : a + b < 18446744073709551616) : IntKind.u64.wrap ((a : Int) + b) = ((a + b : Nat) : Int) := by rw [Go.IntWalk.u64_in _ (by omega)]; omega
set_option maxRecDepth 100000 in
set_option maxHeartbeats 2000000 in
theorem ebit_p (b base pb po pv : Nat) (bit : Int) (one : Bool) (v : Value) (e : Enc) (w : World) (h : EncAt w 66 0 b base v e) (hbase : base ≤ w.heap.size) (hlen : e.cnt < 1000000) (hs : e.Run) (hcl : e.closed = false)
    (hp : w.cell? ⟨pb, po, none⟩ = some (.int .u16 pv)) (hfz : w.frozen? ⟨pb, po, none⟩ = false) (hne : pb ≠ b) (hnv : v.ownBlock ≠ some pb) (hpv : pv < 65536) (hone : one = decide (bit ≠ 0)) :
    Calls Try.prog 22 #[.pointer (some ⟨b, 0, none⟩), .pointer (some ⟨pb, po, none⟩), .int .i64 bit] w fun r w' => ∃ v' : Value, r = .returned (.tuple #[]) ∧ EncAt w' 66 0 b base v' (e.bit (fair pv) one) ∧
      Frm (fun x => x = b ∨ v.ownBlock = some x) (w.setCell ⟨pb, po, none⟩ (.int .u16 (learn (fair pv) one))) w' ∧ Moved w v v' := by
  have hfb := fair_bd pv
  obtain ⟨c, hcd⟩ : ∃ c, fair pv = c := ⟨_, rfl⟩
  rw [hcd] at hfb
  obtain ⟨hc31, hc17⟩ := hfb
  have hpre := hs.cut hc31 hc17 one
  have hcc : (e.cut c one).cnt < 1000000 := by rw [Enc.cut_cnt]; exact hlen
  rw [hcd, Enc.bit_cut]
  have hb := bound_bd hs.s.1 hc31 hc17
  have hs2 := hs.s.2
  have hlow := hs.l
  have HPV := Lib.hid hpv
  have HC := Lib.hid hcd
  have HPRE := Lib.hid hpre
  have HCC := Lib.hid hcc
  have HE := Lib.hid h
  have hpt := h.p
  have hlt := World.block_lt_of_cell? w ⟨pb, po, none⟩ hp
  have hnb := h.nb (by decide)
  obtain ⟨q, hq⟩ : ∃ q : Nat, e.size / 2048 = q := ⟨_, rfl⟩
  obtain ⟨bd, hbd⟩ : ∃ bd : Nat, q * c = bd := ⟨_, rfl⟩
  rw [hq, hbd] at hb
  have hcut : e.cut c one = if one then ⟨e.low + bd, e.size - bd, e.first, e.more, e.out, e.closed⟩ else ⟨e.low, bd, e.first, e.more, e.out, e.closed⟩ := by unfold Enc.cut; rw [hq, hbd]
  obtain ⟨s, hse⟩ : ∃ s, e.size = s := ⟨_, rfl⟩
  obtain ⟨lo, hlo⟩ : ∃ lo, e.low = lo := ⟨_, rfl⟩
  rw [hse] at hq hb hcut hs2
  rw [hlo, hse] at hlow
  rw [hlo] at hcut
  have hq1 : (s : Int) / 2048 = (q : Int) := by omega
  have hm1 : IntKind.u32.wrap ((q : Int) * (c : Int)) = (bd : Int) := by
    have e : (q : Int) * (c : Int) = (bd : Int) := by rw [← hbd]; simp
    rw [e, Go.IntWalk.u32_in _ (by omega)]
  have hwc : IntKind.u32.wrap (c : Int) = (c : Int) := by rw [Go.IntWalk.u32_in _ (by omega)]
  have hwq : IntKind.u32.wrap (q : Int) = (q : Int) := by rw [Go.IntWalk.u32_in _ (by omega)]
  have hm2 : IntKind.u32.wrap ((s : Int) - bd) = ((s - bd : Nat) : Int) := by rw [Go.IntWalk.u32_in _ (by omega)]; omega
  have hm3 : IntKind.u64.wrap ((lo : Int) + bd) = ((lo + bd : Nat) : Int) := u64_add (by omega)
  have hm4 : IntKind.u64.wrap (bd : Int) = (bd : Int) := by rw [Go.IntWalk.u64_in _ (by omega)]
  obtain ⟨s3, hs3⟩ : ∃ s3 : Nat, s - bd = s3 := ⟨_, rfl⟩
  obtain ⟨lo3, hlo3⟩ : ∃ lo3 : Nat, lo + bd = lo3 := ⟨_, rfl⟩
  rw [hs3] at hm2 hcut
  rw [hlo3] at hm3 hcut
  have d0 : w.cell? ⟨b, 0, none⟩ = some (.int .u64 lo) := by rw [hpt.cell, ← hlo]; rfl
  have d1 : w.cell? ⟨b, 1, none⟩ = some (.int .u32 s) := by rw [hpt.cell, ← hse]; rfl
  have d5 : w.cell? ⟨b, 5, none⟩ = some (.bool false) := by rw [hpt.cell, ← hcl]; rfl
  have g0 := hpt.frozen 0
  have g1 := hpt.frozen 1
  have HCUT := Lib.hid hcut
  have HPT := Lib.hid hpt
  have HNB := Lib.hid hnb
  have HNV := Lib.hid hnv
  have HLT := Lib.hid hlt
  have HSE := Lib.hid hse
  have HLO := Lib.hid hlo
  have HS3 := Lib.hid hs3
  have HLO3 := Lib.hid hlo3
  clear hpv hcd hpre hcc h hs hlen hb hs2 hlow hq hbd hcut hs3 hlo3 hlo hse hpt hnb hnv hlt hcl
  by_cases hbit : bit = 0
  · subst hbit
    obtain rfl : one = false := by rw [hone]; rfl
    clear hone
    go_enter Try.func22, Try.ntmps22
    go_wp2_with fail
    refine (fair_p pv _ HPV.out).mono ?_; rintro r w1 ⟨rfl, rfl⟩
    rw [HC.out]
    go_wp2_with fail
    refine (learn_p c 0 false _ hc17 rfl).mono ?_; rintro r w2 ⟨rfl, rfl⟩
    go_wp2_with fail
    have hE2 : EncAt ((w.setCell ⟨b, 1, none⟩ (.int .u32 bd)).setCell ⟨pb, po, none⟩ (.int .u16 (learn c false))) 66 0 b base v (e.cut c false) := by
      have hk := HPRE.out.ok
      rw [HCUT.out] at hk ⊢
      exact ⟨by have h9 := (HPT.out.set 1 (.int .u32 bd)).other (p := ⟨pb, po, none⟩) (fun e => hne e.symm) (.int .u16 (learn c false)); rw [HLO.out] at h9; exact h9, (HE.out.o.other (p := ⟨b, 1, none⟩) HNB.out _).other (p := ⟨pb, po, none⟩) HNV.out _, hk⟩
    have hF2 := ((Frm.refl (fun x => x = b ∨ v.ownBlock = some x) w).setCell (p := ⟨b, 1, none⟩) (.inl rfl) (.int .u32 bd)).setBoth (p := ⟨pb, po, none⟩) (fun h => h.elim hne HNV.out) HLT.out (.int .u16 (learn c false))
    have hsz : ((w.setCell ⟨b, 1, none⟩ (.int .u32 bd)).setCell ⟨pb, po, none⟩ (.int .u16 (learn c false))).heap.size = w.heap.size := by simp
    refine (eorder_p b base v _ _ hE2 (by rw [hsz]; exact hbase) HCC.out HPRE.out).mono ?_
    rintro r w3 ⟨v3, rfl, hE3, hF3, hM3⟩
    have E3 := Lib.hid hE3
    have F3 := Lib.hid (hF2.trans hF3)
    have M3 := Lib.hid ((Moved.refl w v).trans hM3 (Nat.le_of_eq hsz.symm))
    clear hE2 hF2 hE3 hF3 hM3 hsz
    go_wp2
    go_end0
    first
      | exact ⟨_, rfl, E3.out, F3.out, M3.out⟩
      | exact ⟨rfl, _, E3.out, F3.out, M3.out⟩
  · have hbz : (bit == 0) = false := beq_eq_false_iff_ne.2 hbit
    obtain rfl : one = true := by rw [hone]; exact decide_eq_true hbit
    have HBIT := Lib.hid hbit
    clear hone hbit
    go_enter Try.func22, Try.ntmps22
    go_wp2_with fail
    refine (fair_p pv _ HPV.out).mono ?_; rintro r w1 ⟨rfl, rfl⟩
    rw [HC.out]
    go_wp2_with fail
    refine (learn_p c bit true _ hc17 (decide_eq_true HBIT.out).symm).mono ?_; rintro r w2 ⟨rfl, rfl⟩
    go_wp2_with fail
    have hE2 : EncAt (((w.setCell ⟨b, 0, none⟩ (.int .u64 lo3)).setCell ⟨b, 1, none⟩ (.int .u32 s3)).setCell ⟨pb, po, none⟩ (.int .u16 (learn c true))) 66 0 b base v (e.cut c true) := by
      have hk := HPRE.out.ok
      rw [HCUT.out] at hk ⊢
      exact ⟨((HPT.out.set 0 (.int .u64 lo3)).set 1 (.int .u32 s3)).other (p := ⟨pb, po, none⟩) (fun e => hne e.symm) _, ((HE.out.o.other (p := ⟨b, 0, none⟩) HNB.out _).other (p := ⟨b, 1, none⟩) HNB.out _).other (p := ⟨pb, po, none⟩) HNV.out _, hk⟩
    have hF2 := (((Frm.refl (fun x => x = b ∨ v.ownBlock = some x) w).setCell (p := ⟨b, 0, none⟩) (.inl rfl) (.int .u64 lo3)).setCell (p := ⟨b, 1, none⟩) (.inl rfl) (.int .u32 s3)).setBoth (p := ⟨pb, po, none⟩) (fun h => h.elim hne HNV.out) HLT.out (.int .u16 (learn c true))
    have hsz : (((w.setCell ⟨b, 0, none⟩ (.int .u64 lo3)).setCell ⟨b, 1, none⟩ (.int .u32 s3)).setCell ⟨pb, po, none⟩ (.int .u16 (learn c true))).heap.size = w.heap.size := by simp
    refine (eorder_p b base v _ _ hE2 (by rw [hsz]; exact hbase) HCC.out HPRE.out).mono ?_
    rintro r w3 ⟨v3, rfl, hE3, hF3, hM3⟩
    have E3 := Lib.hid hE3
    have F3 := Lib.hid (hF2.trans hF3)
    have M3 := Lib.hid ((Moved.refl w v).trans hM3 (Nat.le_of_eq hsz.symm))
    clear hE2 hF2 hE3 hF3 hM3 hsz
    go_wp2
    go_end0
    first
      | exact ⟨_, rfl, E3.out, F3.out, M3.out⟩
      | exact ⟨rfl, _, E3.out, F3.out, M3.out⟩
set_option maxRecDepth 100000 in
set_option maxHeartbeats 2000000 in
theorem ebit_r (b base pb po pv : Nat) (bit : Int) (one : Bool) (v : Value) (e : Enc) (w : World) (h : EncAt w 68 1 b base v e) (hbase : base ≤ w.heap.size) (hlen : e.cnt < 1000000) (hs : e.Run) (hcl : e.closed = false)
    (hp : w.cell? ⟨pb, po, none⟩ = some (.int .u16 pv)) (hfz : w.frozen? ⟨pb, po, none⟩ = false) (hne : pb ≠ b) (hnv : v.ownBlock ≠ some pb) (hpv : pv < 65536) (hone : one = decide (bit ≠ 0)) :
    Calls Try.prog 23 #[.pointer (some ⟨b, 0, none⟩), .pointer (some ⟨pb, po, none⟩), .int .i64 bit] w fun r w' => ∃ v' : Value, r = .returned (.tuple #[]) ∧ EncAt w' 68 1 b base v' (e.bit (fair pv) one) ∧
      Frm (fun x => x = b ∨ v.ownBlock = some x) (w.setCell ⟨pb, po, none⟩ (.int .u16 (learn (fair pv) one))) w' ∧ Moved w v v' := by
  have hfb := fair_bd pv
  obtain ⟨c, hcd⟩ : ∃ c, fair pv = c := ⟨_, rfl⟩
  rw [hcd] at hfb
  obtain ⟨hc31, hc17⟩ := hfb
  have hpre := hs.cut hc31 hc17 one
  have hcc : (e.cut c one).cnt < 1000000 := by rw [Enc.cut_cnt]; exact hlen
  rw [hcd, Enc.bit_cut]
  have hb := bound_bd hs.s.1 hc31 hc17
  have hs2 := hs.s.2
  have hlow := hs.l
  have HPV := Lib.hid hpv
  have HC := Lib.hid hcd
  have HPRE := Lib.hid hpre
  have HCC := Lib.hid hcc
  have HE := Lib.hid h
  have hpt := h.p
  have hlt := World.block_lt_of_cell? w ⟨pb, po, none⟩ hp
  have hnb := h.nb (by decide)
  obtain ⟨q, hq⟩ : ∃ q : Nat, e.size / 2048 = q := ⟨_, rfl⟩
  obtain ⟨bd, hbd⟩ : ∃ bd : Nat, q * c = bd := ⟨_, rfl⟩
  rw [hq, hbd] at hb
  have hcut : e.cut c one = if one then ⟨e.low + bd, e.size - bd, e.first, e.more, e.out, e.closed⟩ else ⟨e.low, bd, e.first, e.more, e.out, e.closed⟩ := by unfold Enc.cut; rw [hq, hbd]
  obtain ⟨s, hse⟩ : ∃ s, e.size = s := ⟨_, rfl⟩
  obtain ⟨lo, hlo⟩ : ∃ lo, e.low = lo := ⟨_, rfl⟩
  rw [hse] at hq hb hcut hs2
  rw [hlo, hse] at hlow
  rw [hlo] at hcut
  have hq1 : (s : Int) / 2048 = (q : Int) := by omega
  have hm1 : IntKind.u32.wrap ((q : Int) * (c : Int)) = (bd : Int) := by
    have e : (q : Int) * (c : Int) = (bd : Int) := by rw [← hbd]; simp
    rw [e, Go.IntWalk.u32_in _ (by omega)]
  have hwc : IntKind.u32.wrap (c : Int) = (c : Int) := by rw [Go.IntWalk.u32_in _ (by omega)]
  have hwq : IntKind.u32.wrap (q : Int) = (q : Int) := by rw [Go.IntWalk.u32_in _ (by omega)]
  have hm2 : IntKind.u32.wrap ((s : Int) - bd) = ((s - bd : Nat) : Int) := by rw [Go.IntWalk.u32_in _ (by omega)]; omega
  have hm3 : IntKind.u64.wrap ((lo : Int) + bd) = ((lo + bd : Nat) : Int) := u64_add (by omega)
  have hm4 : IntKind.u64.wrap (bd : Int) = (bd : Int) := by rw [Go.IntWalk.u64_in _ (by omega)]
  obtain ⟨s3, hs3⟩ : ∃ s3 : Nat, s - bd = s3 := ⟨_, rfl⟩
  obtain ⟨lo3, hlo3⟩ : ∃ lo3 : Nat, lo + bd = lo3 := ⟨_, rfl⟩
  rw [hs3] at hm2 hcut
  rw [hlo3] at hm3 hcut
  have d0 : w.cell? ⟨b, 0, none⟩ = some (.int .u64 lo) := by rw [hpt.cell, ← hlo]; rfl
  have d1 : w.cell? ⟨b, 1, none⟩ = some (.int .u32 s) := by rw [hpt.cell, ← hse]; rfl
  have d5 : w.cell? ⟨b, 5, none⟩ = some (.bool false) := by rw [hpt.cell, ← hcl]; rfl
  have g0 := hpt.frozen 0
  have g1 := hpt.frozen 1
  have HCUT := Lib.hid hcut
  have HPT := Lib.hid hpt
  have HNB := Lib.hid hnb
  have HNV := Lib.hid hnv
  have HLT := Lib.hid hlt
  have HSE := Lib.hid hse
  have HLO := Lib.hid hlo
  have HS3 := Lib.hid hs3
  have HLO3 := Lib.hid hlo3
  clear hpv hcd hpre hcc h hs hlen hb hs2 hlow hq hbd hcut hs3 hlo3 hlo hse hpt hnb hnv hlt hcl
  by_cases hbit : bit = 0
  · subst hbit
    obtain rfl : one = false := by rw [hone]; rfl
    clear hone
    go_enter Try.func23, Try.ntmps23
    go_wp2_with fail
    refine (fair_r pv _ HPV.out).mono ?_; rintro r w1 ⟨rfl, rfl⟩
    rw [HC.out]
    go_wp2_with fail
    refine (learn_r c 0 false _ hc17 rfl).mono ?_; rintro r w2 ⟨rfl, rfl⟩
    go_wp2_with fail
    have hE2 : EncAt ((w.setCell ⟨b, 1, none⟩ (.int .u32 bd)).setCell ⟨pb, po, none⟩ (.int .u16 (learn c false))) 68 1 b base v (e.cut c false) := by
      have hk := HPRE.out.ok
      rw [HCUT.out] at hk ⊢
      exact ⟨by have h9 := (HPT.out.set 1 (.int .u32 bd)).other (p := ⟨pb, po, none⟩) (fun e => hne e.symm) (.int .u16 (learn c false)); rw [HLO.out] at h9; exact h9, (HE.out.o.other (p := ⟨b, 1, none⟩) HNB.out _).other (p := ⟨pb, po, none⟩) HNV.out _, hk⟩
    have hF2 := ((Frm.refl (fun x => x = b ∨ v.ownBlock = some x) w).setCell (p := ⟨b, 1, none⟩) (.inl rfl) (.int .u32 bd)).setBoth (p := ⟨pb, po, none⟩) (fun h => h.elim hne HNV.out) HLT.out (.int .u16 (learn c false))
    have hsz : ((w.setCell ⟨b, 1, none⟩ (.int .u32 bd)).setCell ⟨pb, po, none⟩ (.int .u16 (learn c false))).heap.size = w.heap.size := by simp
    refine (eorder_r b base v _ _ hE2 (by rw [hsz]; exact hbase) HCC.out HPRE.out).mono ?_
    rintro r w3 ⟨v3, rfl, hE3, hF3, hM3⟩
    have E3 := Lib.hid hE3
    have F3 := Lib.hid (hF2.trans hF3)
    have M3 := Lib.hid ((Moved.refl w v).trans hM3 (Nat.le_of_eq hsz.symm))
    clear hE2 hF2 hE3 hF3 hM3 hsz
    go_wp2
    go_end0
    first
      | exact ⟨_, rfl, E3.out, F3.out, M3.out⟩
      | exact ⟨rfl, _, E3.out, F3.out, M3.out⟩
  · have hbz : (bit == 0) = false := beq_eq_false_iff_ne.2 hbit
    obtain rfl : one = true := by rw [hone]; exact decide_eq_true hbit
    have HBIT := Lib.hid hbit
    clear hone hbit
    go_enter Try.func23, Try.ntmps23
    go_wp2_with fail
    refine (fair_r pv _ HPV.out).mono ?_; rintro r w1 ⟨rfl, rfl⟩
    rw [HC.out]
    go_wp2_with fail
    refine (learn_r c bit true _ hc17 (decide_eq_true HBIT.out).symm).mono ?_; rintro r w2 ⟨rfl, rfl⟩
    go_wp2_with fail
    have hE2 : EncAt (((w.setCell ⟨b, 0, none⟩ (.int .u64 lo3)).setCell ⟨b, 1, none⟩ (.int .u32 s3)).setCell ⟨pb, po, none⟩ (.int .u16 (learn c true))) 68 1 b base v (e.cut c true) := by
      have hk := HPRE.out.ok
      rw [HCUT.out] at hk ⊢
      exact ⟨((HPT.out.set 0 (.int .u64 lo3)).set 1 (.int .u32 s3)).other (p := ⟨pb, po, none⟩) (fun e => hne e.symm) _, ((HE.out.o.other (p := ⟨b, 0, none⟩) HNB.out _).other (p := ⟨b, 1, none⟩) HNB.out _).other (p := ⟨pb, po, none⟩) HNV.out _, hk⟩
    have hF2 := (((Frm.refl (fun x => x = b ∨ v.ownBlock = some x) w).setCell (p := ⟨b, 0, none⟩) (.inl rfl) (.int .u64 lo3)).setCell (p := ⟨b, 1, none⟩) (.inl rfl) (.int .u32 s3)).setBoth (p := ⟨pb, po, none⟩) (fun h => h.elim hne HNV.out) HLT.out (.int .u16 (learn c true))
    have hsz : (((w.setCell ⟨b, 0, none⟩ (.int .u64 lo3)).setCell ⟨b, 1, none⟩ (.int .u32 s3)).setCell ⟨pb, po, none⟩ (.int .u16 (learn c true))).heap.size = w.heap.size := by simp
    refine (eorder_r b base v _ _ hE2 (by rw [hsz]; exact hbase) HCC.out HPRE.out).mono ?_
    rintro r w3 ⟨v3, rfl, hE3, hF3, hM3⟩
    have E3 := Lib.hid hE3
    have F3 := Lib.hid (hF2.trans hF3)
    have M3 := Lib.hid ((Moved.refl w v).trans hM3 (Nat.le_of_eq hsz.symm))
    clear hE2 hF2 hE3 hF3 hM3 hsz
    go_wp2
    go_end0
    first
      | exact ⟨_, rfl, E3.out, F3.out, M3.out⟩
      | exact ⟨rfl, _, E3.out, F3.out, M3.out⟩
end Go.Proofs.Ytcnjbdaopphleaa
