/- The document's window: At and Copy. -/
import Derived.Test.YtjeaepkncboodaaWinR
import Derived.Deep.RegionLaw
namespace Go.Proofs.Ytjeaepkncboodaa
open Go.RowKit Win
set_option linter.unusedVariables false
set_option linter.unusedSimpArgs false
theorem Frm.trans' {S T : Nat → Prop} {a b c : World} {n : Nat} (h : Frm S a b) (hn : n < a.heap.size) (k : Frm T b c) (hs : ∀ q, T q → q < a.heap.size → S q) : Frm S a c :=
  ⟨k.os.trans h.os, k.tape.trans h.tape, k.output.trans h.output, Nat.le_trans h.size k.size, fun q hq hS => (k.block q (Nat.lt_of_lt_of_le hq h.size) (fun ht => hS (hs q ht hq))).trans (h.block q hq hS)⟩
theorem rat_no (base b k S : Nat) (on : Bool) (back : Int) (v : Value) (all : List UInt8) (w : World) (hw : RWin w base b k S on v all)
    (h : on = false ∨ back < 1 ∨ (S : Int) < back ∨ (all.length : Int) < back) :
    Calls Try.prog 21 #[.pointer (some ⟨b, 0, none⟩), .int .i64 back] w fun e w' => e = .returned (.tuple #[.int .u8 0, .bool false]) ∧ w = w' := by
  obtain ⟨A0, k0, rfl, hc0, hm0, hr0⟩ := hw.o.slice
  have c0 : w.cell? ⟨b, 0, none⟩ = some (.slice A0 all.length k0) := by rw [hw.p.cell]; rfl
  have c1 : w.cell? ⟨b, 1, none⟩ = some (.int .i64 S) := by rw [hw.p.cell]; rfl
  have c2 : w.cell? ⟨b, 2, none⟩ = some (.bool (!on)) := by rw [hw.p.cell]; rfl
  have h3 : on = false ∨ (on = true ∧ back < 1) ∨ (on = true ∧ 1 ≤ back ∧ (S : Int) < back) ∨ (on = true ∧ 1 ≤ back ∧ back ≤ (S : Int) ∧ (all.length : Int) < back) := by
    cases on
    · exact .inl rfl
    · have h4 : back < 1 ∨ (S : Int) < back ∨ (all.length : Int) < back := by simpa using h
      refine .inr ?_
      by_cases a1 : back < 1
      · exact .inl ⟨rfl, a1⟩
      by_cases a2 : (S : Int) < back
      · exact .inr (.inl ⟨rfl, by omega, a2⟩)
      · exact .inr (.inr ⟨rfl, by omega, by omega, by omega⟩)
  clear hw hr0 h
  rcases h3 with rfl | ⟨rfl, h⟩ | ⟨rfl, h, h2⟩ | ⟨rfl, h, h2, h4⟩
  all_goals
    go_enter Try.func21, Try.ntmps21
    go_wp2
    go_ret2
    exact ⟨rfl, rfl⟩
theorem rat_yes (base b k S back : Nat) (v : Value) (all : List UInt8) (w : World) (hw : RWin w base b k S true v all) (h1 : 1 ≤ back) (h2 : back ≤ S) (h3 : back ≤ all.length) (hl : all.length ≤ 140737488355328) :
    Calls Try.prog 21 #[.pointer (some ⟨b, 0, none⟩), .int .i64 back] w fun e w' => e = .returned (.tuple #[.int .u8 ((all.getD (all.length - back) 0).toNat : Int), .bool true]) ∧ ∃ d, w' = w.drewN d := by
  obtain ⟨A0, k0, rfl, hc0, hm0, hr0⟩ := hw.o.slice
  have c0 : w.cell? ⟨b, 0, none⟩ = some (.slice A0 all.length k0) := by rw [hw.p.cell]; rfl
  have c1 : w.cell? ⟨b, 1, none⟩ = some (.int .i64 S) := by rw [hw.p.cell]; rfl
  have c2 : w.cell? ⟨b, 2, none⟩ = some (.bool false) := by rw [hw.p.cell]; rfl
  obtain ⟨g, off, rfl, hg, hc⟩ := hr0 (by omega)
  have e1 := hc (all.length - back) (by omega)
  unfold byteV at e1
  obtain ⟨q, hq⟩ : ∃ q, all.length - back = q := ⟨_, rfl⟩
  rw [hq] at e1 ⊢
  have hsub : (all.length : Int) - (back : Int) = (q : Int) := by omega
  have hwq : IntKind.i64.wrap (q : Int) = (q : Int) := Go.IntWalk.i64_in _ (by omega)
  have hlt : q < all.length := by omega
  have hq0 : decide (back < 1) = false := decide_eq_false (by omega)
  have hq1 : decide (S < back) = false := decide_eq_false (by omega)
  have hq2 : decide (all.length < back) = false := decide_eq_false (by omega)
  generalize all.getD q 0 = x at *
  clear hw hc hr0 hq
  go_enter Try.func21, Try.ntmps21
  go_wp2
  go_quiet (fail)
  go_wp2
  go_ret2
  exact ⟨rfl, _, rfl⟩
theorem rcopy_off (base b k S : Nat) (back n : Int) (v : Value) (all : List UInt8) (w : World) (hw : RWin w base b k S false v all) :
    Calls Try.prog 19 #[.pointer (some ⟨b, 0, none⟩), .int .i64 back, .int .i64 n] w fun e w' => e = .returned (.tuple #[.slice none 0 0, .int .i64 5]) ∧ w = w' := by
  have c2 : w.cell? ⟨b, 2, none⟩ = some (.bool true) := by rw [hw.p.cell]; rfl
  clear hw
  go_enter Try.func19, Try.ntmps19
  go_wp2
  go_ret2
  exact ⟨rfl, rfl⟩
theorem rcopy_arg (base b k S : Nat) (back n : Int) (v : Value) (all : List UInt8) (w : World) (hw : RWin w base b k S true v all) (hn : n < 0 ∨ 16777216 < n) :
    Calls Try.prog 19 #[.pointer (some ⟨b, 0, none⟩), .int .i64 back, .int .i64 n] w fun e w' => e = .returned (.tuple #[.slice none 0 0, .int .i64 2]) ∧ w = w' := by
  have c2 : w.cell? ⟨b, 2, none⟩ = some (.bool false) := by rw [hw.p.cell]; rfl
  have h3 : n < 0 ∨ (0 ≤ n ∧ 16777216 < n) := by omega
  clear hw hn
  rcases h3 with h | ⟨h, h4⟩
  all_goals
    go_enter Try.func19, Try.ntmps19
    go_wp2
    go_ret2
    exact ⟨rfl, rfl⟩
theorem rcopy_bad (base b k S : Nat) (back n : Int) (v : Value) (all : List UInt8) (w : World) (hw : RWin w base b k S true v all) (hn : 0 ≤ n ∧ n ≤ 16777216) (hb : back < 1 ∨ (S : Int) < back ∨ (all.length : Int) < back) :
    Calls Try.prog 19 #[.pointer (some ⟨b, 0, none⟩), .int .i64 back, .int .i64 n] w fun e w' => e = .returned (.tuple #[.slice none 0 0, .int .i64 11]) ∧ w = w' := by
  have c2 : w.cell? ⟨b, 2, none⟩ = some (.bool false) := by rw [hw.p.cell]; rfl
  have HA := Lib.hid (rat_no base b k S true back v all w hw (.inr hb))
  obtain ⟨n1, n2⟩ := hn
  clear hw hb
  go_enter Try.func19, Try.ntmps19
  go_wp2_with (go_at_call 21; refine HA.out.mono ?_; rintro e w2 ⟨rfl, rfl⟩)
  go_ret2
  exact ⟨rfl, rfl⟩
set_option maxRecDepth 100000 in
set_option maxHeartbeats 1000000 in
theorem rcopy_ok (base b k S back n : Nat) (v : Value) (all : List UInt8) (w : World) (hw : RWin w base b k S true v all) (hbase : base ≤ w.heap.size) (hl : all.length + n ≤ 1000000) (h1 : 1 ≤ back) (h2 : back ≤ S) (h3 : back ≤ all.length) :
    Calls Try.prog 19 #[.pointer (some ⟨b, 0, none⟩), .int .i64 back, .int .i64 n] w fun e w' => ∃ (A : Option Addr) (c : Nat) (v' : Value), e = .returned (.tuple #[.slice A n c, .int .i64 0]) ∧ BRow w' w'.heap.size A (cyc all back n) ∧
      RWin w' base b k S true v' (all ++ cyc all back n) ∧ Frm (fun x => x = b ∨ v.ownBlock = some x) w w' ∧ Mvd w v v' := by
  have c2 : w.cell? ⟨b, 2, none⟩ = some (.bool false) := by rw [hw.p.cell]; rfl
  have HA := Lib.hid (rat_yes base b k S back v all w hw h1 h2 h3 (by omega))
  obtain ⟨cy, hcy⟩ : ∃ cy, cyc all back n = cy := ⟨_, rfl⟩
  rw [hcy]
  have hcl : cy.length = n := by rw [← hcy, cyc_length]
  have HST : Hid (∀ i, i < n → (all ++ cy.take i).getD (all.length + i - back) 0 = cy.getD i 0) := Lib.hid (fun i hi => by rw [← hcy]; exact copy_step h1 h3 hi)
  have HW := Lib.hid hw
  have HBS := Lib.hid hbase
  have hcell0 : w.cell? ⟨b, 0, none⟩ = some v := by rw [hw.p.cell]; rfl
  obtain ⟨A0, k0, rfl, hc0, hm0, hr0⟩ := hw.o.slice
  have hbk := hw.p.lt
  clear hw hcy hr0 hc0 hm0 hbase
  go_enter Try.func19, Try.ntmps19
  have hqn : decide (16777216 < n) = false := decide_eq_false (by omega)
  go_wp2_with fail
  refine HA.out.mono ?_; rintro e w2 ⟨rfl, dd, rfl⟩
  have e0 : (w.drewN dd).cell? ⟨b, 0, none⟩ = some (.slice A0 all.length k0) := hcell0
  have W2 : Hid (RWin (w.drewN dd) base b k S true (.slice A0 all.length k0) all) := Lib.hid ⟨HW.out.p.drewN dd, HW.out.o.drewN dd⟩
  have F2 : Hid (Frm (fun x => x = b ∨ (Value.slice A0 all.length k0).ownBlock = some x) w (w.drewN dd)) := Lib.hid ((Frm.refl _ w).drewN dd)
  generalize w.drewN dd = wd at *
  clear HA c2
  go_wp2
  go_loopw [11] (fun iv wr => ∃ (i : Nat) (cv : Value), iv = .int .i64 i ∧ i ≤ n ∧ RWin wr base b k S true cv (all ++ cy.take i) ∧ Frm (fun x => x = b ∨ (Value.slice A0 all.length k0).ownBlock = some x) w wr ∧ Mvd w (.slice A0 all.length k0) cv) (fun iv _ => n - (intOf iv).toNat)
  case atStart => exact ⟨0, _, rfl, by omega, by rw [List.take_zero, List.append_nil]; exact W2.out, F2.out, .inl rfl⟩
  case round =>
    obtain ⟨i, cv, rfl, hi, hrw, hfr, hmv⟩ := hrel
    clear W2 F2 e0 hcell0
    have e0 : wr.cell? ⟨b, 0, none⟩ = some cv := by rw [hrw.p.cell]; rfl
    have f0 := hrw.p.frozen 0
    have hnb := hrw.nb
    obtain ⟨cur, hcu⟩ : ∃ cur, all ++ cy.take i = cur := ⟨_, rfl⟩
    rw [hcu] at hrw
    have hcul : cur.length = all.length + i := by rw [← hcu, List.length_append, List.length_take]; omega
    have hwr : base ≤ wr.heap.size := Nat.le_trans HBS.out hfr.size
    obtain ⟨A1, k1, rfl, hc1, hm1, hr1⟩ := hrw.o.slice
    have RW := Lib.hid hrw
    have FR := Lib.hid hfr
    have MV := Lib.hid hmv
    have NB := Lib.hid hnb
    have CU := Lib.hid hcu
    have CUL := Lib.hid hcul
    rw [hcul] at RW MV NB e0 hc1
    clear hrw hfr hmv hnb hcu
    by_cases hlt : i < n
    · obtain ⟨g, off, rfl, hg, hc⟩ := hr1 (by omega)
      have e1 := hc (cur.length - back) (by omega)
      have hx := HST.out i hlt
      rw [CU.out] at hx
      rw [hcul] at e1
      rw [hx] at e1
      obtain ⟨x, hxx⟩ : ∃ x, cy.getD i 0 = x := ⟨_, rfl⟩
      rw [hxx] at e1
      unfold byteV at e1
      obtain ⟨q, hq⟩ : ∃ q, all.length + i - back = q := ⟨_, rfl⟩
      rw [hq] at e1
      obtain ⟨L, hL⟩ : ∃ L, all.length + i = L := ⟨_, rfl⟩
      rw [hL] at RW MV NB e0 hc1 hq CUL
      have hsub : (L : Int) - (back : Int) = (q : Int) := by omega
      have hwq : IntKind.i64.wrap (q : Int) = (q : Int) := Go.IntWalk.i64_in _ (by omega)
      have hlq : q < L := by omega
      have HXX := Lib.hid hxx
      have HL := Lib.hid hL
      clear hx hxx hr1 hc hcul hL hq
      have PA := RW.out.p.alloc (.cells #[.int .u8 (x.toNat : Int)] 5)
      have e0' : (wr.alloc (.cells #[.int .u8 (x.toNat : Int)] 5)).cell? ⟨b, 0, none⟩ = some (.slice (some ⟨g, off, none⟩) L k1) := by rw [PA.cell]; rfl
      have f0' := PA.frozen 0
      clear PA
      have hll : cur.length + [x].length ≤ 140737488355328 := by have := CUL.out; have := HL.out; simp; omega
      have hb2 : base ≤ (wr.alloc (.cells #[.int .u8 (x.toNat : Int)] 5)).heap.size := by show base ≤ (wr.heap.push _).size; rw [Array.size_push]; omega
      have O1 : Hid (OwnB (wr.drew.alloc (.cells #[.int .u8 (x.toNat : Int)] 5)) 5 base (.slice (some ⟨g, off, none⟩) L k1) cur) := Lib.hid ((RW.out.o.drewN 1).alloc _)
      go_wp2
      go_region_law (refine step_append_bytes _ rfl (.tmp 44) (.tmp 58) 31 rfl 5 base Try.underlying31 Try.info_u8 (.slice (some ⟨g, off, none⟩) L k1) cur rfl O1.out (some ⟨wr.heap.size, 0, none⟩) 1 1 (wr.heap.size + 1) [x] rfl rfl (BRow.oneW (wr.drewN 1) _ x) hll hb2 ?_; intro v2 w2 hown2 hfrm2 hnew2; obtain ⟨A2, k2, rfl, hc2, hm2, hr2⟩ := hown2.slice; have hp2 := ((RW.out.p.drewN 1).alloc _).frm hfrm2 (fun e => NB.out e); have z4 : w2.cell? ⟨b, 0, none⟩ = some (.slice (some ⟨g, off, none⟩) L k1) := (hp2.cell 0).trans rfl; have y4 := hp2.frozen 0)
      all_goals
        rw [show (cur ++ [x]).length = cur.length + 1 by simp] at hown2 hnew2
        obtain ⟨L2, hL2⟩ : ∃ L2, cur.length + 1 = L2 := ⟨_, rfl⟩
        rw [hL2] at hown2 hnew2 ⊢
        have hnb2 : (Value.slice A2 L2 k2).ownBlock ≠ some b := own_ne hown2 hp2 (by decide)
        have hmv2 : Mvd w (.slice A0 all.length k0) (.slice A2 L2 k2) := by
          rcases hnew2 with h | h
          · rcases MV.out with h' | ⟨g', h', hg'⟩
            · exact .inl (h.trans h')
            · exact .inr ⟨g', h.trans h', hg'⟩
          · exact .inr ⟨_, h, by have h9 := FR.out.size; show _ ≤ (wr.heap.push _).size; rw [Array.size_push]; omega⟩
        have hf2 : Frm (fun q => q = b ∨ (Value.slice A0 all.length k0).ownBlock = some q) w w2 := by
          refine ((FR.out.drewN 1).alloc (.cells #[.int .u8 (x.toNat : Int)] 5)).trans' hbk hfrm2 (fun q hq hqw => ?_)
          rcases MV.out with h' | ⟨g', h', hg'⟩
          · exact .inr (h'.symm.trans hq)
          · rw [h'] at hq; injection hq with hq; omega
        have hp3 := hp2.set 0 (.slice A2 L2 k2)
        have ho3 := hown2.other (p := ⟨b, 0, none⟩) hnb2 (.slice A2 L2 k2)
        have hf3 := hf2.setCell (p := ⟨b, 0, none⟩) (.inl rfl) (.slice A2 L2 k2)
        have hcu3 : cur ++ [x] = all ++ cy.take (i + 1) := by rw [← CU.out, List.append_assoc, ← HXX.out, take_snoc (by omega)]
        rw [hcu3] at ho3
        have P3 := Lib.hid hp3
        have O3 := Lib.hid ho3
        have F3 := Lib.hid hf3
        have M3 := Lib.hid hmv2
        clear hp2 hp3 ho3 hf2 hf3 hmv2 hnb2 hown2 hfrm2 hnew2 hL2 hcu3 hr2 hc2 hm2
        go_wp2
        exact ⟨⟨i + 1, _, by go_num, by omega, ⟨P3.out, O3.out⟩, F3.out, M3.out⟩, by simp [intOf]; omega⟩
    · obtain rfl : i = n := by omega
      have hfin : cur = all ++ cy := by rw [← CU.out, ← hcl, List.take_length]
      have hsl := fun w => slice_from A1 (all.length + i) k1 all.length (by omega) hc1 w
      have hrow : BRow wr wr.heap.size (if k1 = all.length then A1 else A1.map (·.add all.length)) cy := by
        have h := hr1.drop (k := all.length) (cap := k1) (by omega)
        rw [hfin, List.drop_left] at h
        exact h
      rw [show all.length + i - all.length = i by omega] at hsl
      rw [hfin] at RW
      have HRO := Lib.hid hrow
      generalize (if k1 = all.length then A1 else A1.map (·.add all.length)) = A9 at *
      obtain ⟨L, hL⟩ : ∃ L, all.length + i = L := ⟨_, rfl⟩
      rw [hL] at RW MV NB e0 hc1 hsl
      clear hr1 hrow hL hcul
      go_wp2
      go_ret2
      exact ⟨A9, _, _, rfl, HRO.out, RW.out, FR.out, MV.out⟩
end Go.Proofs.Ytjeaepkncboodaa
