/- Texts of this proof, put together: WinG, WinW, LzO. -/
import Derived.Lib.SlBytesConst
import Derived.Test.YtffehfpbdcokbaaDoorBu9
import Derived.Test.YtffehfpbdcokbaaDoorBu13
set_option linter.unusedVariables false
set_option linter.unusedSimpArgs false
/- The contracts of the window: what Copy refuses, Drop. -/
namespace Go.Proofs.YtffehfpbdcokbaaDoor
open Go.RowKit Win
set_option linter.unusedVariables false
set_option linter.unusedSimpArgs false

theorem copy_gone (b : Nat) (back n : Int) (rv av sv : Value) (w : World) (hp : Pts w b #[rv, av, sv, .pointer none] 77) : Calls Tryd.prog 27 #[.pointer (some ⟨b, 0, none⟩), .int .i64 back, .int .i64 n] w fun e w' => e = .returned (.tuple #[.slice none 0 0, .int .i64 5]) ∧ w = w' := by
  have HP := Lib.hid hp
  clear hp
  go_enter Tryd.func27, Tryd.ntmps27
  go_wp2_with (go_at_call 44; refine (dropped_yes _ _ _ _ _ HP.out).mono ?_; rintro e w1 ⟨rfl, rfl⟩)
  go_ret2
  exact ⟨rfl, rfl⟩
theorem copy_arg (base b k S a : Nat) (back n : Int) (v : Value) (R : List UInt8) (w : World) (hw : WinAt w base b k S v R a) (hn : n < 0 ∨ 16777216 < n) :
    Calls Tryd.prog 27 #[.pointer (some ⟨b, 0, none⟩), .int .i64 back, .int .i64 n] w fun e w' => e = .returned (.tuple #[.slice none 0 0, .int .i64 2]) ∧ w = w' := by
  have HW := Lib.hid hw
  clear hw
  have h3 : n < 0 ∨ (0 ≤ n ∧ 16777216 < n) := by omega
  clear hn
  rcases h3 with h | ⟨h, h4⟩
  all_goals
    go_enter Tryd.func27, Tryd.ntmps27
    go_wp2_with (go_at_call 44; refine (dropped_no _ _ _ _ _ _ HW.out.p).mono ?_; rintro e w1 ⟨rfl, rfl⟩)
    go_ret2
    exact ⟨rfl, rfl⟩
theorem copy_bad (base b k S a : Nat) (back n : Int) (v : Value) (R : List UInt8) (w : World) (hw : WinAt w base b k S v R a) (hn : 0 ≤ n ∧ n ≤ 16777216) (hb : back < 1 ∨ (R.length : Int) < back) :
    Calls Tryd.prog 27 #[.pointer (some ⟨b, 0, none⟩), .int .i64 back, .int .i64 n] w fun e w' => e = .returned (.tuple #[.slice none 0 0, .int .i64 11]) ∧ w = w' := by
  obtain ⟨A0, k0, rfl, hc0, hm0, hr0⟩ := hw.o.slice
  have c0 : w.cell? ⟨b, 0, none⟩ = some (.slice A0 R.length k0) := by rw [hw.p.cell]; rfl
  have HW := Lib.hid hw
  obtain ⟨n0, n1⟩ := hn
  clear hw hr0 hm0
  have h3 : back < 1 ∨ (1 ≤ back ∧ (R.length : Int) < back) := by omega
  clear hb
  rcases h3 with h | ⟨h, h4⟩
  all_goals
    go_enter Tryd.func27, Tryd.ntmps27
    go_wp2_with (go_at_call 44; refine (dropped_no _ _ _ _ _ _ HW.out.p).mono ?_; rintro e w1 ⟨rfl, rfl⟩)
    go_ret2
    exact ⟨rfl, rfl⟩
end Go.Proofs.YtffehfpbdcokbaaDoor

/- What the document says of a window of 4; and WindowNil. -/
namespace Go.Proofs.YtffehfpbdcokbaaDoor
open Go.RowKit Win
set_option linter.unusedVariables false
set_option linter.unusedSimpArgs false

/-- A literal's row: its cells are the bytes (one place behind them bears a mark). -/
def LitAt (w : World) (b : Nat) (bs : List UInt8) : Prop := ∃ T fr, w.heap[b]? = some (.cells (bs.map byteV).toArray T fr)
theorem LitAt.lt {w : World} {b : Nat} {bs : List UInt8} (h : LitAt w b bs) : b < w.heap.size := by
  obtain ⟨T, fr, h⟩ := h
  exact (Array.getElem?_eq_some_iff.1 h).1
theorem LitAt.row {w : World} {b : Nat} {bs : List UInt8} (h : LitAt w b bs) : BRow w w.heap.size (some ⟨b, 0, none⟩) bs := by
  intro _
  refine ⟨b, 0, rfl, h.lt, fun k hk => ?_⟩
  obtain ⟨T, fr, h⟩ := h
  simp [World.cell?, h, List.getD, hk]
theorem LitAt.new (w : World) (bs : List UInt8) (T : TypeId) (fr : Nat × Nat) : LitAt (w.alloc (.cells (bs.map byteV).toArray T fr)) w.heap.size bs := ⟨T, fr, by show (w.heap.push _)[w.heap.size]? = _; simp⟩
theorem own_ne {w : World} {T T' base g : Nat} {v : Value} {bs : List UInt8} {c : Array Value} (h : OwnB w T base v bs) (hp : Pts w g c T') (hT : T' ≠ T) : v.ownBlock ≠ some g := by
  intro hq
  rcases h.form with ⟨e, _⟩ | ⟨g', cap, cur, e, _, hp', _⟩
  · rw [e] at hq; cases hq
  · rw [e] at hq
    injection hq with hq
    subst hq
    have e2 := hp'.symm.trans hp
    simp at e2
    exact hT e2.2.symm
theorem WinAt.later {w w' : World} {base b k S : Nat} {v : Value} {R : List UInt8} {a : Nat} (h : WinAt w base b k S v R a) (hb : Below w.heap.size w w') : WinAt w' base b k S v R a := by
  have hf : Frm (fun _ => False) w w' := Frm.of_below hb
  exact ⟨h.p.frm hf (by simp), h.o.frm hf (by simp), h.n, h.lt, h.z⟩
theorem WinAt.led {w : World} {base b k S : Nat} {v : Value} {R : List UInt8} {a : Nat} {B n m : Int} (h : WinAt w base b k S v R a) (hl : Led w k B n m) : ¬ (k = b ∨ v.ownBlock = some k) := by
  rintro (rfl | e)
  · have e := h.p.symm.trans hl
    simp [ledCells] at e
  · exact own_ne h.o hl (by decide) e

end Go.Proofs.YtffehfpbdcokbaaDoor

/- A window by its content. -/
namespace Go.Proofs.YtffehfpbdcokbaaDoor
open Go.RowKit Rng Lz Win
set_option linter.unusedVariables false
set_option linter.unusedSimpArgs false
def WinC (w : World) (base wb kb S : Nat) (C : List UInt8) (v : Value) : Prop := ∃ R a, WinAt w base wb kb S v R a ∧ content R a = C
def Mv (w : World) (v v' : Value) : Prop := ∀ q, v'.ownBlock = some q → v.ownBlock = some q ∨ w.heap.size ≤ q
theorem Mv.same (w : World) (v : Value) : Mv w v v := fun q hq => .inl hq
section
variable {w w' : World} {base wb kb S : Nat} {C : List UInt8} {v : Value}
theorem WinC.pts (h : WinC w base wb kb S C v) : ∃ c, Pts w wb c 77 := by obtain ⟨R, a, hw, _⟩ := h; exact ⟨_, hw.p⟩
theorem WinC.own (h : WinC w base wb kb S C v) : ∃ l, OwnB w 5 base v l := by obtain ⟨R, a, hw, _⟩ := h; exact ⟨R, hw.o⟩
theorem WinC.frm {N : Nat → Prop} (h : WinC w base wb kb S C v) (hf : Frm N w w') (hb : ¬ N wb) (hv : ∀ q, v.ownBlock = some q → ¬ N q) : WinC w' base wb kb S C v := by
  obtain ⟨R, a, hw, hc⟩ := h
  exact ⟨R, a, ⟨hw.p.frm hf hb, hw.o.frm hf hv, hw.n, hw.lt, hw.z⟩, hc⟩
theorem WinC.len (h : WinC w base wb kb S C v) : C.length ≤ S := by obtain ⟨R, a, hw, hc⟩ := h; rw [← hc, content_length]; exact hw.n
end
/-- The byte that stands so far behind; 0 where there is none. -/
def atB (C : List UInt8) (back : Nat) : UInt8 := if 1 ≤ back ∧ back ≤ C.length then C.getD (C.length - back) 0 else 0
theorem at_c (base wb kb S back : Nat) (z : Int) (C : List UInt8) (v : Value) (w : World) (h : WinC w base wb kb S C v) (hS : S ≤ 16777216) (hz : z = (back : Int)) :
    Calls Tryd.prog 36 #[.pointer (some ⟨wb, 0, none⟩), .int .i64 z] w fun e w' => (∃ ok, e = .returned (.tuple #[.int .u8 ((atB C back).toNat : Int), .bool ok])) ∧ ∃ d, w' = w.drewN d := by
  subst hz
  obtain ⟨R, a, hw, hc⟩ := h
  have hl : C.length = R.length := by rw [← hc, content_length]
  by_cases hb : 1 ≤ back ∧ back ≤ R.length
  · have hp := hw.p
    have hlt := hw.lt
    have hn := hw.n
    have hz := hw.z
    obtain ⟨A0, k0, rfl, hc0, hm0, hr0⟩ := hw.o.slice
    refine (at_in wb kb a S k0 back A0 R w hp hr0 (by omega) (by omega) hb.1 hb.2).mono ?_
    rintro e w' ⟨rfl, d, rfl⟩
    refine ⟨⟨true, ?_⟩, d, rfl⟩
    have e1 : R.getD ((a + R.length - back) % R.length) 0 = atB C back := by
      unfold atB
      rw [if_pos (by omega), content_at (by by_cases hh : R.length < S; have := hz hh; omega; omega) hb.1 hb.2, hc, hl]
    rw [e1]
  · have hl2 := hw.p
    obtain ⟨A0, k0, rfl, hc0, hm0, hr0⟩ := hw.o.slice
    have hbad : (back : Int) < 1 ∨ (R.length : Int) < (back : Int) := by omega
    have e1 : atB C back = 0 := by unfold atB; rw [if_neg (by omega)]
    rw [e1]
    have c0 : w.cell? ⟨wb, 0, none⟩ = some (.slice A0 R.length k0) := by rw [hw.p.cell]; rfl
    have HW := Lib.hid hw
    clear hw hr0 hm0 hc hl hb hl2 e1
    have h3 : (back : Int) < 1 ∨ (1 ≤ (back : Int) ∧ (R.length : Int) < (back : Int)) := by omega
    clear hbad
    rcases h3 with h | ⟨h, h4⟩
    all_goals
      go_enter Tryd.func36, Tryd.ntmps36
      go_wp2_with (go_at_call 44; refine (dropped_no _ _ _ _ _ _ HW.out.p).mono ?_; rintro e w1 ⟨rfl, rfl⟩)
      go_ret2
      exact ⟨⟨false, rfl⟩, 0, rfl⟩
theorem put_c (base wb kb S c B n : Nat) (C : List UInt8) (v : Value) (A : Option Addr) (bs : List UInt8) (w : World) (h : WinC w base wb kb S C v) (hn : n = bs.length) (hr : BRow w B A bs) (hoff : BOff (fun x => x = wb ∨ v.ownBlock = some x) A bs) (hc : bs.length ≤ c) (hcm : c ≤ maxLen) (hlen : bs.length ≤ 16777216)
    (hbase : base ≤ w.heap.size) (hS2 : S ≤ 16777216) (hB : B ≤ w.heap.size) :
    Calls Tryd.prog 38 #[.pointer (some ⟨wb, 0, none⟩), .slice A n c] w fun e w' => e = .returned (.tuple #[]) ∧ ∃ v', WinC w' base wb kb S (lastN S (C ++ bs)) v' ∧ Frm (fun x => x = wb ∨ v.ownBlock = some x) w w' ∧ Mv w v v' := by
  obtain ⟨R, a, hw, hcn⟩ := h
  refine (put_any base wb kb S a c B n v R A bs w hw hn hr hoff hc hcm hlen hbase hS2 hB).mono ?_
  rintro e w' ⟨v', R', a', rfl, hw', hc', hf, hm⟩
  refine ⟨rfl, v', ⟨R', a', hw', by rw [hc', hcn]⟩, hf, fun q hq => ?_⟩
  rcases hm with e | e
  · exact .inl (e ▸ hq)
  · rw [e] at hq; injection hq with hq; exact .inr (by omega)
/-- What a copy makes of a content; none: refused. -/
theorem copy_c (base wb kb S back n : Nat) (z1 z2 : Int) (C : List UInt8) (v : Value) (w : World) (h : WinC w base wb kb S C v) (hbase : base ≤ w.heap.size) (hS2 : S ≤ 16777216) (hn : n ≤ 16777216) (hz1 : z1 = (back : Int)) (hz2 : z2 = (n : Int)) (h1 : 1 ≤ back) :
    Calls Tryd.prog 27 #[.pointer (some ⟨wb, 0, none⟩), .int .i64 z1, .int .i64 z2] w fun e w' =>
      (back ≤ C.length → ∃ ov v', e = .returned (.tuple #[ov, .int .i64 0]) ∧ WinC w' base wb kb S (lastN S (C ++ cyc C back n)) v' ∧ OwnB w' 5 w.heap.size ov (cyc C back n) ∧ Frm (fun x => x = wb ∨ v.ownBlock = some x) w w' ∧ Mv w v v' ∧ (∀ q, ov.ownBlock = some q → v'.ownBlock ≠ some q)) ∧
      (¬ back ≤ C.length → e = .returned (.tuple #[.slice none 0 0, .int .i64 11]) ∧ w = w') := by
  subst hz1; subst hz2
  obtain ⟨R, a, hw, hcn⟩ := h
  have hl : C.length = R.length := by rw [← hcn, content_length]
  by_cases hb : back ≤ C.length
  · refine (copy_any base wb kb S a back n v R w hw hbase hS2 hn h1 (by omega)).mono ?_
    rintro e w' ⟨ov, v', R', a', rfl, hw', hc', ho, hf, hm⟩
    rw [hcn] at hc' ho
    refine ⟨fun _ => ⟨ov, v', rfl, ⟨R', a', hw', hc'⟩, ho, hf, fun q hq => ?_, fun q hq e => ?_⟩, fun hn => absurd hb hn⟩
    · rcases hm with e | ⟨g, e, hg, _⟩
      · exact .inl (e ▸ hq)
      · rw [e] at hq; injection hq with hq; exact .inr (by omega)
    · rcases hm with e' | ⟨g, e', hg, hne⟩
      · have h2 := (ho.lt hq).1
        have h3 := (hw.o.lt (e' ▸ e)).2
        omega
      · rw [e'] at e; injection e with e; subst e; exact hne hq
  · refine (copy_bad base wb kb S a back n v R w hw (by omega) (.inr (by omega))).mono ?_
    rintro e w' ⟨rfl, rfl⟩
    exact ⟨fun h => absurd h hb, fun _ => ⟨rfl, rfl⟩⟩
end Go.Proofs.YtffehfpbdcokbaaDoor
