/- Chances made even: the walks. -/
import Derived.Test.YteghpnlamdgpnaaLzH
namespace Go.Proofs.Yteghpnlamdgpnaa
open Go.RowKit Rng Lz
set_option linter.unusedVariables false
set_option linter.unusedSimpArgs false
/-- The state's cells, whatever its bytes' chances are. -/
def qcell (lc lp pb st : Nat) (rep : Nat → Nat) (pr : Pr) (lv : Value) (i : Nat) : Value :=
  if i = 0 then .int .i64 lc else if i = 1 then .int .i64 lp else if i = 2 then .int .i64 pb else if i = 3 then .int .i64 st else if i < 8 then .int .u32 (rep (i - 4))
  else if i < 1868 then .int .u16 (pr i) else lv
def qcells (lc lp pb st : Nat) (rep : Nat → Nat) (pr : Pr) (lv : Value) : Array Value := Array.ofFn (n := 1869) fun i => qcell lc lp pb st rep pr lv i.val
theorem qcells_m (k : LK) (st : Nat) (rep : Nat → Nat) (pr : Pr) : qcells k.lc k.lp k.pb st rep pr (.slice (some ⟨k.lb, 0, none⟩) k.L k.L) = mcells k st rep pr := rfl
theorem qcells_get (lc lp pb st : Nat) (rep : Nat → Nat) (pr : Pr) (lv : Value) {i : Nat} (h : i < 1869) : (qcells lc lp pb st rep pr lv)[i]? = some (qcell lc lp pb st rep pr lv i) := by
  unfold qcells
  rw [Array.getElem?_ofFn]
  simp [h]
theorem qcells_size (lc lp pb st : Nat) (rep : Nat → Nat) (pr : Pr) (lv : Value) : (qcells lc lp pb st rep pr lv).size = 1869 := by simp [qcells]
theorem qcells_eq {C : Array Value} {lc lp pb st : Nat} {rep : Nat → Nat} {pr : Pr} {lv : Value} (hs : C.size = 1869) (h : ∀ j, j < 1869 → C[j]? = some (qcell lc lp pb st rep pr lv j)) : C = qcells lc lp pb st rep pr lv := by
  apply Array.ext
  · rw [hs, qcells_size]
  · intro j h1 h2
    have hj : j < 1869 := by rw [hs] at h1; exact h1
    have e1 := h j hj
    have e2 := qcells_get lc lp pb st rep pr lv hj
    rw [Array.getElem?_eq_getElem h1] at e1
    rw [Array.getElem?_eq_getElem h2] at e2
    exact Option.some.inj (e1.trans e2.symm)
def fillS (pr : Pr) (off n : Nat) : Pr := fun j => if off ≤ j ∧ j < off + n then 1024 else pr j
/-- Cells made even, from off on, n of them. -/
def evenC (C C' : Array Value) (off n : Nat) : Prop := C'.size = C.size ∧ ∀ j, C'[j]? = if off ≤ j ∧ j < off + n then some (.int .u16 1024) else C[j]?
set_option maxRecDepth 100000 in
set_option maxHeartbeats 1000000 in
theorem even_any (b off n c : Nat) (C : Array Value) (T : TypeId) (w : World) (hp : Pts w b C T) (hfit : off + n ≤ C.size) (hn : n ≤ 1000000) :
    Calls Try.prog 24 #[.slice (some ⟨b, off, none⟩) n c] w fun e w' => e = .returned (.tuple #[]) ∧ (∃ C', Pts w' b C' T ∧ evenC C C' off n) ∧ Frm (· = b) w w' := by
  have HP := Lib.hid hp
  have HF := Lib.hid hfit
  clear hp hfit
  go_enter Try.func24, Try.ntmps24
  go_wp2
  go_loopw [5] (fun iv wr => ∃ (i : Nat) (D : Array Value), iv = .int .i64 i ∧ i ≤ n ∧ Pts wr b D T ∧ evenC C D off i ∧ Frm (· = b) w wr) (fun iv _ => n - (intOf iv).toNat)
  case atStart => exact ⟨0, C, rfl, by omega, HP.out, ⟨rfl, fun j => by rw [if_neg (by omega)]⟩, Frm.refl _ _⟩
  case round =>
    obtain ⟨i, D, rfl, hi, hd, he, hf⟩ := hrel
    have HD := Lib.hid hd
    have HE := Lib.hid he
    have HFR := Lib.hid hf
    by_cases hlt : i < n
    · have hlt2 : off + i < D.size := by rw [he.1]; have := HF.out; omega
      have hcell : _ = _ := hd.cell (off + i)
      rw [Array.getElem?_eq_getElem hlt2] at hcell
      have hfz := hd.frozen (off + i)
      have hset := hd.set (off + i) (.int .u16 1024)
      have hee : evenC C (D.setIfInBounds (off + i) (.int .u16 1024)) off (i + 1) := by
        refine ⟨by rw [Array.size_setIfInBounds]; exact he.1, fun j => ?_⟩
        by_cases e : j = off + i
        · subst e
          rw [Array.getElem?_setIfInBounds_self_of_lt hlt2, if_pos (by omega)]
        · rw [Array.getElem?_setIfInBounds_ne (fun h => e h.symm), he.2 j]
          by_cases h1 : off ≤ j ∧ j < off + i
          · rw [if_pos h1, if_pos (by omega)]
          · rw [if_neg h1, if_neg (by omega)]
      have HS := Lib.hid hset
      have HE2 := Lib.hid hee
      have HF2 := Lib.hid (hf.setCell (p := ⟨b, off + i, none⟩) rfl (.int .u16 1024))
      generalize D[off + i] = xv at hcell
      clear hd he hf hset hee
      go_wp2
      exact ⟨⟨i + 1, _, by go_num, by omega, HS.out, HE2.out, HF2.out⟩, by simp [intOf]; omega⟩
    · obtain rfl : i = n := by omega
      clear hd he hf
      go_wp2
      go_end0
      exact ⟨rfl, ⟨D, HD.out, HE.out⟩, HFR.out⟩
theorem evenC.q {C' : Array Value} {lc lp pb st : Nat} {rep : Nat → Nat} {pr : Pr} {lv : Value} {off n : Nat} (h : evenC (qcells lc lp pb st rep pr lv) C' off n) (h1 : 8 ≤ off) (h2 : off + n ≤ 1868) : C' = qcells lc lp pb st rep (fillS pr off n) lv := by
  refine qcells_eq (by rw [h.1, qcells_size]) fun j hj => ?_
  rw [h.2 j, qcells_get _ _ _ _ _ _ _ hj]
  unfold qcell fillS
  by_cases e : off ≤ j ∧ j < off + n
  · rw [if_pos e, if_neg (by omega), if_neg (by omega), if_neg (by omega), if_neg (by omega), if_neg (by omega), if_pos (by omega), if_pos e]
    rfl
  · simp only [if_neg e]
theorem even_q (b off n c lc lp pb st : Nat) (rep : Nat → Nat) (pr : Pr) (lv : Value) (T : TypeId) (w : World) (hp : Pts w b (qcells lc lp pb st rep pr lv) T) (h1 : 8 ≤ off) (h2 : off + n ≤ 1868) :
    Calls Try.prog 24 #[.slice (some ⟨b, off, none⟩) n c] w fun e w' => e = .returned (.tuple #[]) ∧ Pts w' b (qcells lc lp pb st rep (fillS pr off n) lv) T ∧ Frm (· = b) w w' := by
  refine (even_any b off n c _ T w hp (by rw [qcells_size]; omega) (by omega)).mono ?_
  rintro e w' ⟨rfl, ⟨C', h3, h4⟩, h5⟩
  rw [h4.q h1 h2] at h3
  exact ⟨rfl, h3, h5⟩
end Go.Proofs.Yteghpnlamdgpnaa
