/- Numbers that a cursor takes. -/
import Derived.Test.YtjhmebkkdgpneaaBoxG
namespace Go.Proofs.Ytjhmebkkdgpneaa
open Go.RowKit Box
set_option linter.unusedVariables false
set_option linter.unusedSimpArgs false
set_option maxRecDepth 100000 in
theorem cnum_ok (cb B u y m : Nat) (bs : List UInt8) (w : World) (h : CurAt w cb B bs u) (hlen : bs.length ≤ 140737488355328) (hnum : number bs = (y, m, 0)) (hu : u + m < 4611686018427387904) :
    Calls Try.prog 33 #[.pointer (some ⟨cb, 0, none⟩)] w fun r w' => r = .returned (.int .u64 (y : Int)) ∧ CurAt w' cb B (bs.drop m) (u + m) ∧ Frm (· = cb) w w' := by
  obtain ⟨hy, h1, hm, _⟩ := number_back hnum
  have HT := Lib.hid (take_ok cb B m u 10 bs w h hm hu)
  obtain ⟨A, c, hp, hr, hc, hcm, hB⟩ := h
  have hn := number_p A bs bs.length c B w rfl hr (Nat.le_trans hlen (by decide))
  rw [hnum] at hn
  unfold errOf at hn
  have HN := Lib.hid hn
  have c0 : w.cell? ⟨cb, 0, none⟩ = some (.slice A bs.length c) := hp.cell 0
  clear hn hnum hp hr hcm hB hy h1 hm hu hlen hc
  go_enter Try.func33, Try.ntmps33
  go_wp2_with fail
  refine HN.out.mono ?_; rintro r w1 ⟨rfl, rfl⟩
  go_wp2_with fail
  refine (must_ok _ _ _).mono ?_; rintro r w1 ⟨rfl, rfl⟩
  go_wp2_with fail
  refine HT.out.mono ?_; rintro r w1 ⟨A2, c2, rfl, hr2, hc2, hm2, hcu, hf⟩
  have CU := Lib.hid hcu
  have FF := Lib.hid hf
  clear hr2 hc2 hm2 hcu hf
  go_wp2
  go_ret
  exact ⟨rfl, CU.out, FF.out⟩
set_option maxRecDepth 100000 in
theorem cnum_bad (cb B u : Nat) (e : Int) (bs : List UInt8) (w : World) (h : CurAt w cb B bs u) (hlen : bs.length ≤ 140737488355328) (hnum : number bs = (0, 0, e)) (he : ¬ e = 0) :
    Calls Try.prog 33 #[.pointer (some ⟨cb, 0, none⟩)] w fun r w' => r = .panicked [{ v := .iface 66 (.agg #[.int .i64 e]), recovered := false }] ∧ w = w' := by
  obtain ⟨A, c, hp, hr, hc, hcm, hB⟩ := h
  have hn := number_p A bs bs.length c B w rfl hr (Nat.le_trans hlen (by decide))
  rw [hnum] at hn
  unfold errOf at hn
  have HN := Lib.hid hn
  have c0 : w.cell? ⟨cb, 0, none⟩ = some (.slice A bs.length c) := hp.cell 0
  have he2 : (e == 0) = false := by rw [beq_eq_false_iff_ne]; exact he
  clear hn hnum hp hr hcm hB hlen he hc
  go_enter Try.func33, Try.ntmps33
  go_wp2_with fail
  refine HN.out.mono ?_; rintro r w1 ⟨rfl, rfl⟩
  go_wp2_with fail
  refine (must_bad _ _ _).mono ?_; rintro r w1 ⟨rfl, rfl⟩
  go_wp2
  exact ⟨rfl, rfl, rfl⟩
set_option maxRecDepth 100000 in
theorem cins_ok (cb B u y m : Nat) (bs : List UInt8) (w : World) (h : CurAt w cb B bs u) (hlen : bs.length ≤ 140737488355328) (hnum : number bs = (y, m, 0)) (hu : u + m < 4611686018427387904) :
    Calls Try.prog 40 #[.pointer (some ⟨cb, 0, none⟩)] w fun r w' => r = .returned (.int .u64 (y : Int)) ∧ CurAt w' cb B (bs.drop m) (u + m) ∧ Frm (· = cb) w w' := by
  obtain ⟨hy, h1, hm, _⟩ := number_back hnum
  have HT := Lib.hid (take_ok cb B m u 11 bs w h hm hu)
  obtain ⟨A, c, hp, hr, hc, hcm, hB⟩ := h
  have hn := number_p A bs bs.length c B w rfl hr (Nat.le_trans hlen (by decide))
  rw [hnum] at hn
  unfold errOf at hn
  have HN := Lib.hid hn
  have c0 : w.cell? ⟨cb, 0, none⟩ = some (.slice A bs.length c) := hp.cell 0
  clear hn hnum hp hr hcm hB hy h1 hm hu hlen hc
  go_enter Try.func40, Try.ntmps40
  go_wp2_with fail
  refine HN.out.mono ?_; rintro r w1 ⟨rfl, rfl⟩
  go_wp2_with fail
  refine (must_ok _ _ _).mono ?_; rintro r w1 ⟨rfl, rfl⟩
  go_wp2_with fail
  refine HT.out.mono ?_; rintro r w1 ⟨A2, c2, rfl, hr2, hc2, hm2, hcu, hf⟩
  have CU := Lib.hid hcu
  have FF := Lib.hid hf
  clear hr2 hc2 hm2 hcu hf
  go_wp2
  go_ret
  exact ⟨rfl, CU.out, FF.out⟩
set_option maxRecDepth 100000 in
theorem cins_bad (cb B u : Nat) (e : Int) (bs : List UInt8) (w : World) (h : CurAt w cb B bs u) (hlen : bs.length ≤ 140737488355328) (hnum : number bs = (0, 0, e)) (he : ¬ e = 0) :
    Calls Try.prog 40 #[.pointer (some ⟨cb, 0, none⟩)] w fun r w' => r = .panicked [{ v := .iface 66 (.agg #[.int .i64 11]), recovered := false }] ∧ w = w' := by
  obtain ⟨A, c, hp, hr, hc, hcm, hB⟩ := h
  have hn := number_p A bs bs.length c B w rfl hr (Nat.le_trans hlen (by decide))
  rw [hnum] at hn
  unfold errOf at hn
  have HN := Lib.hid hn
  have c0 : w.cell? ⟨cb, 0, none⟩ = some (.slice A bs.length c) := hp.cell 0
  have he2 : (e == 0) = false := by rw [beq_eq_false_iff_ne]; exact he
  clear hn hnum hp hr hcm hB hlen he hc
  go_enter Try.func40, Try.ntmps40
  go_wp2_with fail
  refine HN.out.mono ?_; rintro r w1 ⟨rfl, rfl⟩
  go_wp2_with fail
  refine (must_bad _ _ _).mono ?_; rintro r w1 ⟨rfl, rfl⟩
  go_wp2
  exact ⟨rfl, rfl, rfl⟩
end Go.Proofs.Ytjhmebkkdgpneaa
