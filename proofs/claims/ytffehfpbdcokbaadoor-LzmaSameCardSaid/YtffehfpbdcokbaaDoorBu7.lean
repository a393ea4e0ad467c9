/- Texts of this proof, put together: LzI, LzJ. -/
import Derived.Test.YtffehfpbdcokbaaDoorBu6
set_option linter.unusedVariables false
set_option linter.unusedSimpArgs false
/- Chances made even: the walks. -/
namespace Go.Proofs.YtffehfpbdcokbaaDoor
open Go.RowKit Rng Lz
set_option linter.unusedVariables false
set_option linter.unusedSimpArgs false
/-- The state's cells, whatever its bytes' chances are. -/
def qcell (lc lp pb st : Nat) (rep : Nat → Nat) (pr : Pr) (lv : Value) (i : Nat) : Value :=
  if i = 0 then .int .i64 lc else if i = 1 then .int .i64 lp else if i = 2 then .int .i64 pb else if i = 3 then .int .i64 st else if i < 8 then .int .u32 (rep (i - 4))
  else if i < 1868 then .int .u16 (pr i) else lv
def qcells (lc lp pb st : Nat) (rep : Nat → Nat) (pr : Pr) (lv : Value) : Array Value := Array.ofFn (n := 1869) fun i => qcell lc lp pb st rep pr lv i.val
theorem qcells_m (k : LK) (st : Nat) (rep : Nat → Nat) (pr : Pr) : qcells k.lc k.lp k.pb st rep pr (.slice (some ⟨k.lb, 0, none⟩) k.L k.L) = mcells k st rep pr := rfl
theorem qcells_get (lc lp pb st : Nat) (rep : Nat → Nat) (pr : Pr) (lv : Value) {i : Nat} (h : i < 1869) : (qcells lc lp pb st rep pr lv)[i]? = some (qcell lc lp pb st rep pr lv i) := by
  unfold qcells
  rw [Array.getElem?_ofFn]
  simp [h]
theorem qcells_size (lc lp pb st : Nat) (rep : Nat → Nat) (pr : Pr) (lv : Value) : (qcells lc lp pb st rep pr lv).size = 1869 := by simp [qcells]
theorem qcells_eq {C : Array Value} {lc lp pb st : Nat} {rep : Nat → Nat} {pr : Pr} {lv : Value} (hs : C.size = 1869) (h : ∀ j, j < 1869 → C[j]? = some (qcell lc lp pb st rep pr lv j)) : C = qcells lc lp pb st rep pr lv := by
  apply Array.ext
  · rw [hs, qcells_size]
  · intro j h1 h2
    have hj : j < 1869 := by rw [hs] at h1; exact h1
    have e1 := h j hj
    have e2 := qcells_get lc lp pb st rep pr lv hj
    rw [Array.getElem?_eq_getElem h1] at e1
    rw [Array.getElem?_eq_getElem h2] at e2
    exact Option.some.inj (e1.trans e2.symm)
def fillS (pr : Pr) (off n : Nat) : Pr := fun j => if off ≤ j ∧ j < off + n then 1024 else pr j
/-- Cells made even, from off on, n of them. -/
def evenC (C C' : Array Value) (off n : Nat) : Prop := C'.size = C.size ∧ ∀ j, C'[j]? = if off ≤ j ∧ j < off + n then some (.int .u16 1024) else C[j]?
set_option maxRecDepth 100000 in
set_option maxHeartbeats 1000000 in
theorem even_any (b off n c : Nat) (C : Array Value) (T : TypeId) (w : World) (hp : Pts w b C T) (hfit : off + n ≤ C.size) (hn : n ≤ 1000000) :
    Calls Tryd.prog 30 #[.slice (some ⟨b, off, none⟩) n c] w fun e w' => e = .returned (.tuple #[]) ∧ (∃ C', Pts w' b C' T ∧ evenC C C' off n) ∧ Frm (· = b) w w' := by
  have HP := Lib.hid hp
  have HF := Lib.hid hfit
  clear hp hfit
  go_enter Tryd.func30, Tryd.ntmps30
  go_wp2
  go_loopw [5] (fun iv wr => ∃ (i : Nat) (D : Array Value), iv = .int .i64 i ∧ i ≤ n ∧ Pts wr b D T ∧ evenC C D off i ∧ Frm (· = b) w wr) (fun iv _ => n - (intOf iv).toNat)
  case atStart => exact ⟨0, C, rfl, by omega, HP.out, ⟨rfl, fun j => by rw [if_neg (by omega)]⟩, Frm.refl _ _⟩
  case round =>
    obtain ⟨i, D, rfl, hi, hd, he, hf⟩ := hrel
    have HD := Lib.hid hd
    have HE := Lib.hid he
    have HFR := Lib.hid hf
    by_cases hlt : i < n
    · have hlt2 : off + i < D.size := by rw [he.1]; have := HF.out; omega
      have hcell : _ = _ := hd.cell (off + i)
      rw [Array.getElem?_eq_getElem hlt2] at hcell
      have hfz := hd.frozen (off + i)
      have hset := hd.set (off + i) (.int .u16 1024)
      have hee : evenC C (D.setIfInBounds (off + i) (.int .u16 1024)) off (i + 1) := by
        refine ⟨by rw [Array.size_setIfInBounds]; exact he.1, fun j => ?_⟩
        by_cases e : j = off + i
        · subst e
          rw [Array.getElem?_setIfInBounds_self_of_lt hlt2, if_pos (by omega)]
        · rw [Array.getElem?_setIfInBounds_ne (fun h => e h.symm), he.2 j]
          by_cases h1 : off ≤ j ∧ j < off + i
          · rw [if_pos h1, if_pos (by omega)]
          · rw [if_neg h1, if_neg (by omega)]
      have HS := Lib.hid hset
      have HE2 := Lib.hid hee
      have HF2 := Lib.hid (hf.setCell (p := ⟨b, off + i, none⟩) rfl (.int .u16 1024))
      generalize D[off + i] = xv at hcell
      clear hd he hf hset hee
      go_wp2
      exact ⟨⟨i + 1, _, by go_num, by omega, HS.out, HE2.out, HF2.out⟩, by simp [intOf]; omega⟩
    · obtain rfl : i = n := by omega
      clear hd he hf
      go_wp2
      go_end0
      exact ⟨rfl, ⟨D, HD.out, HE.out⟩, HFR.out⟩
theorem evenC.q {C' : Array Value} {lc lp pb st : Nat} {rep : Nat → Nat} {pr : Pr} {lv : Value} {off n : Nat} (h : evenC (qcells lc lp pb st rep pr lv) C' off n) (h1 : 8 ≤ off) (h2 : off + n ≤ 1868) : C' = qcells lc lp pb st rep (fillS pr off n) lv := by
  refine qcells_eq (by rw [h.1, qcells_size]) fun j hj => ?_
  rw [h.2 j, qcells_get _ _ _ _ _ _ _ hj]
  unfold qcell fillS
  by_cases e : off ≤ j ∧ j < off + n
  · rw [if_pos e, if_neg (by omega), if_neg (by omega), if_neg (by omega), if_neg (by omega), if_neg (by omega), if_pos (by omega), if_pos e]
    rfl
  · simp only [if_neg e]
theorem even_q (b off n c lc lp pb st : Nat) (rep : Nat → Nat) (pr : Pr) (lv : Value) (T : TypeId) (w : World) (hp : Pts w b (qcells lc lp pb st rep pr lv) T) (h1 : 8 ≤ off) (h2 : off + n ≤ 1868) :
    Calls Tryd.prog 30 #[.slice (some ⟨b, off, none⟩) n c] w fun e w' => e = .returned (.tuple #[]) ∧ Pts w' b (qcells lc lp pb st rep (fillS pr off n) lv) T ∧ Frm (· = b) w w' := by
  refine (even_any b off n c _ T w hp (by rw [qcells_size]; omega) (by omega)).mono ?_
  rintro e w' ⟨rfl, ⟨C', h3, h4⟩, h5⟩
  rw [h4.q h1 h2] at h3
  exact ⟨rfl, h3, h5⟩
end Go.Proofs.YtffehfpbdcokbaaDoor

/- A set of lengths, and a model, as at first: the walks. -/
namespace Go.Proofs.YtffehfpbdcokbaaDoor
open Go.RowKit Rng Lz
set_option linter.unusedVariables false
set_option linter.unusedSimpArgs false
def Mo (pr pr' : Pr) : Prop := ∀ j, pr j = 1024 → pr' j = 1024
def Ev (pr : Pr) (lo hi : Nat) : Prop := ∀ j, lo ≤ j → j < hi → pr j = 1024
theorem Mo.refl (pr : Pr) : Mo pr pr := fun _ h => h
theorem Mo.trans {a b c : Pr} (h : Mo a b) (k : Mo b c) : Mo a c := fun j hj => k j (h j hj)
theorem Mo.fill (pr : Pr) (off n : Nat) : Mo pr (fillS pr off n) := fun j h => by unfold fillS; split; rfl; exact h
theorem Ev.fill (pr : Pr) (off n : Nat) : Ev (fillS pr off n) off (off + n) := fun j h1 h2 => by unfold fillS; rw [if_pos ⟨h1, h2⟩]
theorem Ev.mo {pr pr' : Pr} {lo hi : Nat} (h : Ev pr lo hi) (k : Mo pr pr') : Ev pr' lo hi := fun j h1 h2 => k j (h j h1 h2)
theorem Ev.more {pr : Pr} {lo mid hi : Nat} (h : Ev pr lo mid) (k : Ev pr mid hi) : Ev pr lo hi := fun j h1 h2 => by
  by_cases hm : j < mid
  · exact h j h1 hm
  · exact k j (by omega) h2
theorem Ev.none (pr : Pr) {lo hi : Nat} (h : hi ≤ lo) : Ev pr lo hi := fun j h1 h2 => by omega
set_option maxRecDepth 100000 in
set_option maxHeartbeats 1000000 in
theorem lreset_any (b base lc lp pb st : Nat) (rep : Nat → Nat) (pr : Pr) (lv : Value) (T : TypeId) (w : World) (hp : Pts w b (qcells lc lp pb st rep pr lv) T) (hb : base = 840 ∨ base = 1354) :
    Calls Tryd.prog 31 #[.pointer (some ⟨b, base, none⟩)] w fun e w' => e = .returned (.tuple #[]) ∧ (∃ pr', Pts w' b (qcells lc lp pb st rep pr' lv) T ∧ Mo pr pr' ∧ Ev pr' base (base + 514)) ∧ Frm (· = b) w w' := by
  have HP := Lib.hid hp
  have HB := Lib.hid hb
  clear hp hb
  go_enter Tryd.func31, Tryd.ntmps31
  go_wp2_with fail
  refine (even_q b base 2 _ lc lp pb st rep pr lv T w HP.out (by have := HB.out; omega) (by have := HB.out; omega)).mono ?_; rintro e w1 ⟨rfl, h1, f1⟩
  have H1 := Lib.hid h1
  have F1 := Lib.hid f1
  clear h1 f1
  go_wp2
  go_loopw [8] (fun iv wr => ∃ (i : Nat) (pq : Pr), iv = .int .i64 i ∧ i ≤ 16 ∧ Pts wr b (qcells lc lp pb st rep pq lv) T ∧ Mo pr pq ∧ Ev pq base (base + 2 + i * 8) ∧ Ev pq (base + 130) (base + 130 + i * 8) ∧ Frm (· = b) w wr) (fun iv _ => 16 - (intOf iv).toNat)
  case atStart => exact ⟨0, _, rfl, by omega, H1.out, Mo.fill _ _ _, Ev.fill _ _ _, Ev.none _ (by omega), F1.out⟩
  case round =>
    obtain ⟨i, pq, rfl, hi, hq, hmo, he1, he2, hf⟩ := hrel
    have HQ := Lib.hid hq
    have MO := Lib.hid hmo
    have E1 := Lib.hid he1
    have E2 := Lib.hid he2
    have FR := Lib.hid hf
    clear hq hmo he1 he2 hf H1 F1
    by_cases hlt : i < 16
    · go_wp2_with fail
      refine (even_q b _ 8 _ lc lp pb st rep pq lv T _ HQ.out (by have := HB.out; omega) (by have := HB.out; omega)).mono ?_; rintro e w2 ⟨rfl, h2, f2⟩
      have H2 := Lib.hid h2
      have F2 := Lib.hid (FR.out.trans f2)
      clear h2 f2
      go_wp2_with fail
      refine (even_q b _ 8 _ lc lp pb st rep _ lv T _ H2.out (by have := HB.out; omega) (by have := HB.out; omega)).mono ?_; rintro e w3 ⟨rfl, h3, f3⟩
      have H3 := Lib.hid h3
      have F3 := Lib.hid (F2.out.trans f3)
      clear h3 f3
      go_wp2
      refine ⟨⟨i + 1, _, by go_num, by omega, H3.out, (MO.out.trans (Mo.fill _ _ _)).trans (Mo.fill _ _ _), ?_, ?_, F3.out⟩, by simp [intOf]; omega⟩
      · have e := ((E1.out.mo (Mo.fill pq (base + 2 + i * 8) 8)).more (Ev.fill pq (base + 2 + i * 8) 8)).mo (Mo.fill (fillS pq (base + 2 + i * 8) 8) (base + 130 + i * 8) 8)
        rw [show base + 2 + (i + 1) * 8 = base + 2 + i * 8 + 8 by omega]
        exact e
      · have e := ((E2.out.mo (Mo.fill pq (base + 2 + i * 8) 8)).mo (Mo.fill (fillS pq (base + 2 + i * 8) 8) (base + 130 + i * 8) 8)).more (Ev.fill (fillS pq (base + 2 + i * 8) 8) (base + 130 + i * 8) 8)
        rw [show base + 130 + (i + 1) * 8 = base + 130 + i * 8 + 8 by omega]
        exact e
    · obtain rfl : i = 16 := by omega
      go_wp2_with fail
      refine (even_q b _ 256 _ lc lp pb st rep pq lv T _ HQ.out (by have := HB.out; omega) (by have := HB.out; omega)).mono ?_; rintro e w2 ⟨rfl, h2, f2⟩
      have H2 := Lib.hid h2
      have F2 := Lib.hid (FR.out.trans f2)
      clear h2 f2
      go_wp2
      go_end0
      refine ⟨rfl, ⟨_, H2.out, MO.out.trans (Mo.fill _ _ _), ?_⟩, F2.out⟩
      have e := (((E1.out.more E2.out).mo (Mo.fill pq (base + 258) 256)).more (Ev.fill pq (base + 258) 256))
      exact e
end Go.Proofs.YtffehfpbdcokbaaDoor
