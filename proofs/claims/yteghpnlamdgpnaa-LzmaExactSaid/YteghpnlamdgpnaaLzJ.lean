/- A set of lengths, and a model, as at first: the walks. -/
import Derived.Test.YteghpnlamdgpnaaLzI
namespace Go.Proofs.Yteghpnlamdgpnaa
open Go.RowKit Rng Lz
set_option linter.unusedVariables false
set_option linter.unusedSimpArgs false
def Mo (pr pr' : Pr) : Prop := ∀ j, pr j = 1024 → pr' j = 1024
def Ev (pr : Pr) (lo hi : Nat) : Prop := ∀ j, lo ≤ j → j < hi → pr j = 1024
theorem Mo.refl (pr : Pr) : Mo pr pr := fun _ h => h
theorem Mo.trans {a b c : Pr} (h : Mo a b) (k : Mo b c) : Mo a c := fun j hj => k j (h j hj)
theorem Mo.fill (pr : Pr) (off n : Nat) : Mo pr (fillS pr off n) := fun j h => by unfold fillS; split; rfl; exact h
theorem Ev.fill (pr : Pr) (off n : Nat) : Ev (fillS pr off n) off (off + n) := fun j h1 h2 => by unfold fillS; rw [if_pos ⟨h1, h2⟩]
theorem Ev.mo {pr pr' : Pr} {lo hi : Nat} (h : Ev pr lo hi) (k : Mo pr pr') : Ev pr' lo hi := fun j h1 h2 => k j (h j h1 h2)
theorem Ev.more {pr : Pr} {lo mid hi : Nat} (h : Ev pr lo mid) (k : Ev pr mid hi) : Ev pr lo hi := fun j h1 h2 => by
  by_cases hm : j < mid
  · exact h j h1 hm
  · exact k j (by omega) h2
theorem Ev.none (pr : Pr) {lo hi : Nat} (h : hi ≤ lo) : Ev pr lo hi := fun j h1 h2 => by omega
set_option maxRecDepth 100000 in
set_option maxHeartbeats 1000000 in
theorem lreset_any (b base lc lp pb st : Nat) (rep : Nat → Nat) (pr : Pr) (lv : Value) (T : TypeId) (w : World) (hp : Pts w b (qcells lc lp pb st rep pr lv) T) (hb : base = 840 ∨ base = 1354) :
    Calls Try.prog 25 #[.pointer (some ⟨b, base, none⟩)] w fun e w' => e = .returned (.tuple #[]) ∧ (∃ pr', Pts w' b (qcells lc lp pb st rep pr' lv) T ∧ Mo pr pr' ∧ Ev pr' base (base + 514)) ∧ Frm (· = b) w w' := by
  have HP := Lib.hid hp
  have HB := Lib.hid hb
  clear hp hb
  go_enter Try.func25, Try.ntmps25
  go_wp2_with fail
  refine (even_q b base 2 _ lc lp pb st rep pr lv T w HP.out (by have := HB.out; omega) (by have := HB.out; omega)).mono ?_; rintro e w1 ⟨rfl, h1, f1⟩
  have H1 := Lib.hid h1
  have F1 := Lib.hid f1
  clear h1 f1
  go_wp2
  go_loopw [8] (fun iv wr => ∃ (i : Nat) (pq : Pr), iv = .int .i64 i ∧ i ≤ 16 ∧ Pts wr b (qcells lc lp pb st rep pq lv) T ∧ Mo pr pq ∧ Ev pq base (base + 2 + i * 8) ∧ Ev pq (base + 130) (base + 130 + i * 8) ∧ Frm (· = b) w wr) (fun iv _ => 16 - (intOf iv).toNat)
  case atStart => exact ⟨0, _, rfl, by omega, H1.out, Mo.fill _ _ _, Ev.fill _ _ _, Ev.none _ (by omega), F1.out⟩
  case round =>
    obtain ⟨i, pq, rfl, hi, hq, hmo, he1, he2, hf⟩ := hrel
    have HQ := Lib.hid hq
    have MO := Lib.hid hmo
    have E1 := Lib.hid he1
    have E2 := Lib.hid he2
    have FR := Lib.hid hf
    clear hq hmo he1 he2 hf H1 F1
    by_cases hlt : i < 16
    · go_wp2_with fail
      refine (even_q b _ 8 _ lc lp pb st rep pq lv T _ HQ.out (by have := HB.out; omega) (by have := HB.out; omega)).mono ?_; rintro e w2 ⟨rfl, h2, f2⟩
      have H2 := Lib.hid h2
      have F2 := Lib.hid (FR.out.trans f2)
      clear h2 f2
      go_wp2_with fail
      refine (even_q b _ 8 _ lc lp pb st rep _ lv T _ H2.out (by have := HB.out; omega) (by have := HB.out; omega)).mono ?_; rintro e w3 ⟨rfl, h3, f3⟩
      have H3 := Lib.hid h3
      have F3 := Lib.hid (F2.out.trans f3)
      clear h3 f3
      go_wp2
      refine ⟨⟨i + 1, _, by go_num, by omega, H3.out, (MO.out.trans (Mo.fill _ _ _)).trans (Mo.fill _ _ _), ?_, ?_, F3.out⟩, by simp [intOf]; omega⟩
      · have e := ((E1.out.mo (Mo.fill pq (base + 2 + i * 8) 8)).more (Ev.fill pq (base + 2 + i * 8) 8)).mo (Mo.fill (fillS pq (base + 2 + i * 8) 8) (base + 130 + i * 8) 8)
        rw [show base + 2 + (i + 1) * 8 = base + 2 + i * 8 + 8 by omega]
        exact e
      · have e := ((E2.out.mo (Mo.fill pq (base + 2 + i * 8) 8)).mo (Mo.fill (fillS pq (base + 2 + i * 8) 8) (base + 130 + i * 8) 8)).more (Ev.fill (fillS pq (base + 2 + i * 8) 8) (base + 130 + i * 8) 8)
        rw [show base + 130 + (i + 1) * 8 = base + 130 + i * 8 + 8 by omega]
        exact e
    · obtain rfl : i = 16 := by omega
      go_wp2_with fail
      refine (even_q b _ 256 _ lc lp pb st rep pq lv T _ HQ.out (by have := HB.out; omega) (by have := HB.out; omega)).mono ?_; rintro e w2 ⟨rfl, h2, f2⟩
      have H2 := Lib.hid h2
      have F2 := Lib.hid (FR.out.trans f2)
      clear h2 f2
      go_wp2
      go_end0
      refine ⟨rfl, ⟨_, H2.out, MO.out.trans (Mo.fill _ _ _), ?_⟩, F2.out⟩
      have e := (((E1.out.more E2.out).mo (Mo.fill pq (base + 258) 256)).more (Ev.fill pq (base + 258) 256))
      exact e
end Go.Proofs.Yteghpnlamdgpnaa
