/- The document's window: its contracts. -/
import Derived.Test.YtjeaepkncboodaaWinO
import Derived.Test.YtjeaepkncboodaaLedgerRef
import Derived.Test.YtjeaepkncboodaaWinB
namespace Go.Proofs.Ytjeaepkncboodaa
open Go.RowKit Win
set_option linter.unusedVariables false
set_option linter.unusedSimpArgs false
/-- The document's window in memory: all that was put. -/
structure RWin (w : World) (base b k S : Nat) (on : Bool) (v : Value) (all : List UInt8) : Prop where
  p : Pts w b #[v, .int .i64 S, .bool (!on), .pointer (some ⟨k, 0, none⟩)] 67
  o : OwnB w 5 base v all
def Mvd (w : World) (v u : Value) : Prop := u.ownBlock = v.ownBlock ∨ ∃ g, u.ownBlock = some g ∧ w.heap.size ≤ g
theorem RWin.nb {w : World} {base b k S : Nat} {on : Bool} {v : Value} {all : List UInt8} (h : RWin w base b k S on v all) : v.ownBlock ≠ some b := own_ne h.o h.p (by decide)
theorem BRow.oneW (w : World) (T : TypeId) (x : UInt8) : BRow (w.alloc (.cells #[.int .u8 (x.toNat : Int)] T (0, 0))) (w.heap.size + 1) (some ⟨w.heap.size, 0, none⟩) [x] := by
  intro _
  refine ⟨w.heap.size, 0, rfl, Nat.lt_succ_self _, fun j hj => ?_⟩
  obtain rfl : j = 0 := by simpa using hj
  exact ((Pts.new w #[.int .u8 (x.toNat : Int)] T).cell 0).trans rfl
theorem rnew_size (S : Int) (lv : Value) (w : World) (h : S < 1 ∨ 16777216 < S) : Calls Try.prog 17 #[.int .i64 S, lv] w fun e w' => e = .returned (.tuple #[.pointer none, .int .i64 2]) ∧ w = w' := by
  have h3 : S < 1 ∨ (1 ≤ S ∧ 16777216 < S) := by omega
  clear h
  rcases h3 with h | ⟨h, h4⟩
  all_goals
    go_enter Try.func17, Try.ntmps17
    go_wp2
    go_ret2
    exact ⟨rfl, rfl⟩
theorem rnew_over (k S : Nat) (B n m : Int) (w : World) (hl : RLed w k B n m) (hB : 0 ≤ B ∧ B ≤ 16777216) (hn : 0 ≤ n ∧ n ≤ B) (hm : n ≤ m ∧ m ≤ B) (h1 : 1 ≤ S) (h2 : S ≤ 16777216) (hc : B - n < S) :
    Calls Try.prog 17 #[.int .i64 S, .pointer (some ⟨k, 0, none⟩)] w fun e w' => e = .returned (.tuple #[.pointer none, .int .i64 40]) ∧ Frm (· = k) w w' := by
  have HL := Lib.hid hl
  have HC := Lib.hid (ch_over (B := B) (n := n) m (k := (S : Int)) (by omega) hc)
  clear hl hc
  go_enter Try.func17, Try.ntmps17
  go_wp2_with (go_at_call 30; refine (rcharge_led _ B n m _ _ HL.out hB hn hm).mono ?_; rintro e w1 ⟨rfl, hL1, hF1⟩; rw [HC.out.1]; clear hL1)
  go_ret2
  exact ⟨rfl, hF1⟩
theorem rnew_win (k S : Nat) (B n m : Int) (w : World) (hl : RLed w k B n m) (hB : 0 ≤ B ∧ B ≤ 16777216) (hn : 0 ≤ n ∧ n ≤ B) (hm : n ≤ m ∧ m ≤ B) (h1 : 1 ≤ S) (h2 : S ≤ 16777216) (hc : chE B n S = 0) :
    Calls Try.prog 17 #[.int .i64 S, .pointer (some ⟨k, 0, none⟩)] w fun e w' => ∃ b, e = .returned (.tuple #[.pointer (some ⟨b, 0, none⟩), .int .i64 0]) ∧ RWin w' w.heap.size b k S true (.slice none 0 0) [] ∧ w.heap.size ≤ b ∧
      RLed w' k B (chN B n S) (chM B n m S) ∧ Frm (· = k) w w' := by
  have HL := Lib.hid hl
  have HC := Lib.hid hc
  have klt := Pts.lt hl
  clear hl hc
  go_enter Try.func17, Try.ntmps17
  go_wp2_with (go_at_call 30; refine (rcharge_led _ B n m _ _ HL.out hB hn hm).mono ?_; rintro e w1 ⟨rfl, hL1, hF1⟩; rw [HC.out])
  go_ret2
  have hp := Pts.new w1 #[.slice none 0 0, .int .i64 S, .bool (!true), .pointer (some ⟨k, 0, none⟩)] 67
  exact ⟨w1.heap.size, rfl, ⟨hp, OwnB.nil _ _ _⟩, hF1.size, Pts.alloc hL1 _, hF1.alloc _⟩
theorem rput_on (base b k S c B n : Nat) (v : Value) (all bs : List UInt8) (A : Option Addr) (w : World) (hw : RWin w base b k S true v all) (hn : n = bs.length) (hr : BRow w B A bs) (hlen : all.length + bs.length ≤ 140737488355328) (hbase : base ≤ w.heap.size) :
    Calls Try.prog 18 #[.pointer (some ⟨b, 0, none⟩), .slice A n c] w fun e w' => ∃ v' : Value, e = .returned (.tuple #[]) ∧ RWin w' base b k S true v' (all ++ bs) ∧ Frm (fun x => x = b ∨ v.ownBlock = some x) w w' ∧ Mvd w v v' := by
  have c0 : w.cell? ⟨b, 0, none⟩ = some v := by rw [hw.p.cell]; rfl
  have c2 : w.cell? ⟨b, 2, none⟩ = some (.bool false) := by rw [hw.p.cell]; rfl
  have hnb := hw.nb
  obtain ⟨A0, k0, rfl, hc0, hm0, hr0⟩ := hw.o.slice
  have HW := Lib.hid hw
  have HN := Lib.hid hn
  have HR := Lib.hid hr
  have NB := Lib.hid hnb
  clear hw hn hr hnb hr0
  go_enter Try.func18, Try.ntmps18
  go_wp2_with (at_builtin; refine wpList_append_bytes _ rfl (.tmp 13) (.tmp 14) 31 rfl 5 base Try.underlying31 Try.info_u8 (.slice A0 all.length k0) all rfl ?own1 A n c B bs rfl ?len0 ?row1 ?len1 ?base1 ?next1)
  case own1 => exact HW.out.o
  case len0 => exact HN.out
  case row1 => exact HR.out
  case len1 => exact hlen
  case base1 => exact hbase
  case next1 =>
    intro v1 w1 hown1 hfrm1 hnew1
    obtain ⟨A1, k1, rfl, -, -, -⟩ := hown1.slice
    obtain ⟨L1, hL1⟩ : ∃ L, (all ++ bs).length = L := ⟨_, rfl⟩
    rw [hL1] at hown1 hnew1 ⊢
    clear hL1
    obtain ⟨v1, hv1⟩ : ∃ v, v = Value.slice A1 L1 k1 := ⟨_, rfl⟩
    rw [← hv1] at hown1 hnew1
    have hp1 := HW.out.p.frm hfrm1 (fun e => NB.out e)
    have f0 := hp1.frozen 0
    have d0 : w1.cell? ⟨b, 0, none⟩ = some (.slice A0 all.length k0) := by rw [hp1.cell]; rfl
    have hb1 : v1.ownBlock ≠ some b := own_ne hown1 hp1 (by decide)
    have hm : Mvd w (.slice A0 all.length k0) v1 := by
      rcases hnew1 with h | h
      · exact .inl h
      · exact .inr ⟨_, h, Nat.le_refl _⟩
    have hp2 := hp1.set 0 v1
    have ho2 := hown1.other (p := ⟨b, 0, none⟩) hb1 v1
    have hf2 : Frm (fun x => x = b ∨ (Value.slice A0 all.length k0).ownBlock = some x) w (w1.setCell ⟨b, 0, none⟩ v1) := (hfrm1.mono (fun q _ hq => .inr hq)).setCell (p := ⟨b, 0, none⟩) (.inl rfl) _
    have P2 := Lib.hid hp2
    have O2 := Lib.hid ho2
    have F2 := Lib.hid hf2
    have M2 := Lib.hid hm
    clear hp1 hb1 hm hp2 ho2 hf2 hown1 hfrm1 hnew1 c0 c2
    subst hv1
    go_wp2
    go_end0
    exact ⟨_, rfl, ⟨P2.out, O2.out⟩, F2.out, M2.out⟩
theorem rput_off (base b k S c n : Nat) (v : Value) (all : List UInt8) (A : Option Addr) (w : World) (hw : RWin w base b k S false v all) :
    Calls Try.prog 18 #[.pointer (some ⟨b, 0, none⟩), .slice A n c] w fun e w' => e = .returned (.tuple #[]) ∧ w = w' := by
  have c2 : w.cell? ⟨b, 2, none⟩ = some (.bool true) := by rw [hw.p.cell]; rfl
  clear hw
  go_enter Try.func18, Try.ntmps18
  go_wp2
  go_end0
  exact ⟨rfl, rfl⟩
theorem rclear_any (base b k S : Nat) (on : Bool) (v : Value) (all : List UInt8) (w : World) (hw : RWin w base b k S on v all) :
    Calls Try.prog 23 #[.pointer (some ⟨b, 0, none⟩)] w fun e w' => e = .returned (.tuple #[]) ∧ RWin w' base b k S on (.slice none 0 0) [] ∧ Frm (fun x => x = b) w w' := by
  have c0 : w.cell? ⟨b, 0, none⟩ = some v := by rw [hw.p.cell]; rfl
  have f0 := hw.p.frozen 0
  obtain ⟨A0, k0, rfl, hc0, hm0, hr0⟩ := hw.o.slice
  have HW := Lib.hid hw
  clear hw hr0
  go_enter Try.func23, Try.ntmps23
  go_wp2
  go_end0
  exact ⟨rfl, ⟨HW.out.p.set 0 _, OwnB.nil _ _ _⟩, (Frm.refl _ w).setCell (by rfl) _⟩
theorem rheld_on (base b k S : Nat) (v : Value) (all : List UInt8) (w : World) (hw : RWin w base b k S true v all) :
    Calls Try.prog 25 #[.pointer (some ⟨b, 0, none⟩)] w fun e w' => e = .returned (.int .i64 S) ∧ w = w' := by
  have c1 : w.cell? ⟨b, 1, none⟩ = some (.int .i64 S) := by rw [hw.p.cell]; rfl
  have c2 : w.cell? ⟨b, 2, none⟩ = some (.bool false) := by rw [hw.p.cell]; rfl
  clear hw
  go_enter Try.func25, Try.ntmps25
  go_wp2
  go_ret
  exact ⟨rfl, rfl⟩
theorem rheld_off (base b k S : Nat) (v : Value) (all : List UInt8) (w : World) (hw : RWin w base b k S false v all) :
    Calls Try.prog 25 #[.pointer (some ⟨b, 0, none⟩)] w fun e w' => e = .returned (.int .i64 0) ∧ w = w' := by
  have c2 : w.cell? ⟨b, 2, none⟩ = some (.bool true) := by rw [hw.p.cell]; rfl
  clear hw
  go_enter Try.func25, Try.ntmps25
  go_wp2
  go_ret
  exact ⟨rfl, rfl⟩
theorem rdrop_off (base b k S : Nat) (v : Value) (all : List UInt8) (w : World) (hw : RWin w base b k S false v all) :
    Calls Try.prog 24 #[.pointer (some ⟨b, 0, none⟩)] w fun e w' => e = .returned (.tuple #[]) ∧ RWin w' base b k S false (.slice none 0 0) [] ∧ Frm (fun x => x = b) w w' := by
  have c0 : w.cell? ⟨b, 0, none⟩ = some v := by rw [hw.p.cell]; rfl
  have c2 : w.cell? ⟨b, 2, none⟩ = some (.bool true) := by rw [hw.p.cell]; rfl
  have f0 := hw.p.frozen 0
  have f2 := hw.p.frozen 2
  obtain ⟨A0, k0, rfl, hc0, hm0, hr0⟩ := hw.o.slice
  have HW := Lib.hid hw
  clear hw hr0
  go_enter Try.func24, Try.ntmps24
  go_wp2
  go_end0
  exact ⟨rfl, ⟨(HW.out.p.set 2 _).set 0 _, OwnB.nil _ _ _⟩, ((Frm.refl _ w).setCell (by rfl) _).setCell (by rfl) _⟩
theorem rdrop_on (base b k S : Nat) (v : Value) (all : List UInt8) (B n m : Int) (w : World) (hw : RWin w base b k S true v all) (hl : RLed w k B n m) (hB : 0 ≤ B ∧ B ≤ 16777216) (hn : 0 ≤ n ∧ n ≤ B) :
    Calls Try.prog 24 #[.pointer (some ⟨b, 0, none⟩)] w fun e w' => e = .returned (.tuple #[]) ∧ RWin w' base b k S false (.slice none 0 0) [] ∧ RLed w' k B (reN n S) m ∧ Frm (fun x => x = b ∨ x = k) w w' := by
  have hbk : b ≠ k := by
    rintro rfl
    have e := hw.p.symm.trans hl
    simp [ledCells] at e
  obtain ⟨A0, k0, rfl, hc0, hm0, hr0⟩ := hw.o.slice
  have c1 : w.cell? ⟨b, 1, none⟩ = some (.int .i64 S) := by rw [hw.p.cell]; rfl
  have c2 : w.cell? ⟨b, 2, none⟩ = some (.bool false) := by rw [hw.p.cell]; rfl
  have c3 : w.cell? ⟨b, 3, none⟩ = some (.pointer (some ⟨k, 0, none⟩)) := by rw [hw.p.cell]; rfl
  have HW := Lib.hid hw
  have HL := Lib.hid hl
  clear hw hl hr0
  go_enter Try.func24, Try.ntmps24
  go_wp2
  refine QTail.wp_region_qtail_lit 8 (by kernel_rfl) (by kernel_rfl) ?_
  simp only [List.take_succ_cons, List.take_zero, List.drop_succ_cons, List.drop_zero]
  repeat (go_big_quiet_step (fail))
  refine wpQuiet_nil ?_
  rintro w' ⟨nr, rfl⟩
  go_wp2_with fail
  refine (rrelease_led k B n m _ (w.drewN nr) (Pts.drewN HL.out nr) hB hn).mono ?_; rintro e w2 ⟨rfl, hL2, hF2⟩
  have hp2 := (HW.out.p.drewN nr).frm hF2 hbk
  have d0 : w2.cell? ⟨b, 0, none⟩ = some (.slice A0 all.length k0) := by rw [hp2.cell]; rfl
  have d2 : w2.cell? ⟨b, 2, none⟩ = some (.bool false) := by rw [hp2.cell]; rfl
  have z0 := hp2.frozen 0
  have z2 := hp2.frozen 2
  have P2 := Lib.hid hp2
  have L2 := Lib.hid hL2
  have F2 := Lib.hid hF2
  clear hp2 hL2 hF2 c1 c2 c3
  go_wp2
  go_end0
  have hp3 := (P2.out.set 2 (.bool true)).set 0 (.slice none 0 0)
  exact ⟨rfl, ⟨hp3, OwnB.nil _ _ _⟩, (Pts.other L2.out (p := ⟨b, 2, none⟩) (fun e => hbk e.symm) _).other (p := ⟨b, 0, none⟩) (fun e => hbk e.symm) _,
    ((((Frm.refl _ w).drewN nr).trans (F2.out.mono fun q _ hq => .inr hq)).setCell (p := ⟨b, 2, none⟩) (.inl rfl) _).setCell (p := ⟨b, 0, none⟩) (.inl rfl) _⟩
end Go.Proofs.Ytjeaepkncboodaa
