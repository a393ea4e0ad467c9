/- The contract of the window's Put. -/
import Derived.Test.YteghpnlamdgpnaaU8
import Derived.Test.YteghpnlamdgpnaaChecked
import Derived.Test.YteghpnlamdgpnaaWinA
import Derived.Test.YteghpnlamdgpnaaWinP
import Derived.Deep.RegionHeld3
import Derived.Deep.RegionLaw
import Derived.Laws.CopyOwn
namespace Go.Proofs.Yteghpnlamdgpnaa
open Go.RowKit Win
set_option linter.unusedVariables false
set_option linter.unusedSimpArgs false

structure WinAt (w : World) (base b k S : Nat) (v : Value) (R : List UInt8) (a : Nat) : Prop where
  p : Pts w b #[v, .int .i64 a, .int .i64 S, .pointer (some ⟨k, 0, none⟩)] 99
  o : OwnB w 5 base v R
  n : R.length ≤ S
  lt : a < S
  z : R.length < S → a = 0

theorem slice_zero (A : Option Addr) (n c : Nat) (w : World) : (Instr.sliceAt 22 (.slice A n c) none (some (.int .i64 0)) none).run Try.prog w = .ok (.slice A 0 c) w := by
  simp [go_sem]
theorem slice_from (A : Option Addr) (n c f : Nat) (hf : f ≤ n) (hn : n ≤ c) (w : World) :
    (Instr.sliceAt 22 (.slice A n c) (some (.int .i64 (f : Int))) none none).run Try.prog w = .ok (.slice (if c = f then A else A.map (·.add f)) (n - f) (c - f)) w := by
  by_cases hcf : c = f
  · simp [go_sem, hcf]
    intro h; omega
  · simp [go_sem, hcf]
    intro h; omega

theorem step_append_bytes {P : Program} (w : World) {ops : Array Oper} {o : Oper} {a : Act} {K : Act → World → Prop} {Q : Exit → Act → World → Prop} {E : Prop} (hg : o.guard = none) (s x : Operand) (t : TypeId)
    (ho : o.op = .call { callee := .builtin .append, args := #[s, x], argTypes := #[t, t] })
    (T base : Nat) (ht : P.underlying t = some (.slice T)) (hinfo : (P.info? T).map (fun i => (i.zero, i.size, i.bytes)) = some (some (.int .u8 0), 1, 1))
    (v : Value) (bs : List UInt8) (hs : a.eval s = v) (hown : OwnB w T base v bs) (A : Option Addr) (m c B : Nat) (news : List UInt8) (hx : a.eval x = .slice A m c) (hm : m = news.length) (hnews : BRow w B A news)
    (hlen : bs.length + news.length ≤ 140737488355328) (hbase : base ≤ w.heap.size)
    (h : ∀ v' w', OwnB w' T base v' (bs ++ news) → Frm (fun k => v.ownBlock = some k) w w' → (v'.ownBlock = v.ownBlock ∨ v'.ownBlock = some w.heap.size) → K (a.put o.dst v') w') :
    if Region.wanted o (yielded ops a.tmps) = true then Oper.wp P o a w K Q else E := by
  have hw : Region.wanted o (yielded ops a.tmps) = true := by simp [Region.wanted, hg]
  rw [if_pos hw]
  exact wp_append_bytes w s x t ho T base ht hinfo v bs hs hown A m c B news hx hm hnews hlen hbase h
def WS (b : Nat) (v : Value) (S : Nat) (w : World) : Prop := w.cell? ⟨b, 0, none⟩ = some v ∧ w.cell? ⟨b, 2, none⟩ = some (.int .i64 S)
theorem WS.frm {b S : Nat} {v u : Value} {w w' : World} (h : WS b v S w) (hf : Frm (fun k => u.ownBlock = some k) w w') (hn : ∀ q, u.ownBlock = some q → q ≠ b) : WS b v S w' := by
  have hb : w'.heap[b]? = w.heap[b]? := hf.block b (World.block_lt_of_cell? _ _ h.1) (fun e => hn b e rfl)
  exact ⟨(World.cell?_of_block (a := ⟨b, 0, none⟩) hb).trans h.1, (World.cell?_of_block (a := ⟨b, 2, none⟩) hb).trans h.2⟩
set_option maxRecDepth 100000 in
set_option maxHeartbeats 1000000 in
theorem put_big_any (base b k S a c B : Nat) (v : Value) (R : List UInt8) (A : Option Addr) (bs : List UInt8) (w : World) (hw : WinAt w base b k S v R a) (hr : BRow w B A bs) (hc : bs.length ≤ c) (hcm : c ≤ maxLen) (hlen : bs.length ≤ 16777216) (hbase : base ≤ w.heap.size)
    (hS : S ≤ bs.length) (hS1 : 1 ≤ S) (hB : B ≤ w.heap.size) :
    Calls Try.prog 44 #[.pointer (some ⟨b, 0, none⟩), .slice A bs.length c] w fun e w' => ∃ v' : Value, e = .returned (.tuple #[]) ∧ WinAt w' base b k S v' (bs.drop (bs.length - S)) 0 ∧
      Frm (fun x => x = b ∨ v.ownBlock = some x) w w' ∧ (v'.ownBlock = v.ownBlock ∨ v'.ownBlock = some w.heap.size) := by
  obtain ⟨A0, k0, rfl, hc0, hm0, hr0⟩ := hw.o.slice
  have c0 : w.cell? ⟨b, 0, none⟩ = some (.slice A0 R.length k0) := by rw [hw.p.cell]; rfl
  have c2 : w.cell? ⟨b, 2, none⟩ = some (.int .i64 S) := by rw [hw.p.cell]; rfl
  have HW := Lib.hid hw
  have hcut := hw.o.cut (k := 0) (Nat.zero_le _)
  rw [List.take_zero] at hcut
  have CUT := Lib.hid hcut
  have HR := Lib.hid (hr.drop (k := bs.length - S) (cap := c) hc)
  have hsf := fun w => slice_from A bs.length c (bs.length - S) (by omega) hc w
  have hsub : ((bs.length - S : Nat) : Int) = (bs.length : Int) - S := by omega
  rw [hsub, show bs.length - (bs.length - S) = S by omega] at hsf
  have hnl : S = (bs.drop (bs.length - S)).length := by rw [List.length_drop]; omega
  have NL := Lib.hid hnl
  have hsz := fun w => slice_zero A0 R.length k0 w
  generalize (if c = bs.length - S then A else A.map (·.add (bs.length - S))) = Ad at *
  generalize bs.drop (bs.length - S) = nw at *
  clear hw hr hcut hsub hnl hr0
  have hne : ∀ q, (Value.slice A0 R.length k0).ownBlock = some q → q ≠ b := by
    rintro q hq rfl
    rcases HW.out.o.form with ⟨e, _⟩ | ⟨g, cap, cur, e, _, hp, _⟩
    · rw [e] at hq; cases hq
    · rw [e] at hq
      injection hq with hq
      subst hq
      have e2 := hp.symm.trans HW.out.p
      simp at e2
  have NE := Lib.hid hne
  clear hne
  go_enter Try.func44, Try.ntmps44
  go_wp2_with (go_at_call 50; refine (dropped_no _ _ _ _ _ _ HW.out.p).mono ?_; rintro e w1 ⟨rfl, rfl⟩)
  have NE2 : Hid (∀ q, (Value.slice A0 0 k0).ownBlock = some q → q ≠ b) := Lib.hid (by intro q hq; apply NE.out q; cases A0 <;> exact hq)
  have a1 : IntKind.i64.wrap ((bs.length : Int) - S) = (bs.length : Int) - S := IntWalk.i64_in _ (by omega)
  have f0 := HW.out.p.frozen 0
  have hll : ([] : List UInt8).length + nw.length ≤ 140737488355328 := by rw [← NL.out]; simp; omega
  go_region_law (refine step_append_bytes _ rfl (.tmp 24) (.tmp 33) 22 rfl 5 base Try.underlying22 Try.info_u8 (.slice A0 0 k0) [] rfl (CUT.out.drewN 1) Ad S (c - (bs.length - S)) B nw rfl NL.out (HR.out.drewN 1) hll hbase ?_; intro v1 w1 hown1 hfrm1 hnew1; rw [List.nil_append] at hown1; obtain ⟨A1, c1, rfl, hc1, hm1, hr1⟩ := hown1.slice; have hp1 := HW.out.p.drew.frm (S := fun k => (Value.slice A0 0 k0).ownBlock = some k) hfrm1 (fun e => NE2.out b e rfl); have z0 : w1.cell? ⟨b, 0, none⟩ = some (.slice A0 R.length k0) := (hp1.cell 0).trans rfl; have z1 := hp1.frozen 0)
  all_goals
    have hp2 : Pts (w1.setCell ⟨b, 0, none⟩ (.slice A1 nw.length c1)) b #[.slice A1 nw.length c1, .int .i64 a, .int .i64 S, .pointer (some ⟨k, 0, none⟩)] 99 := hp1.set 0 _
    have y1 : (w1.setCell ⟨b, 0, none⟩ (.slice A1 nw.length c1)).cell? ⟨b, 1, none⟩ = some (.int .i64 a) := by rw [hp2.cell]; rfl
    have y2 := hp2.frozen 1
    have hp3 : Pts ((w1.setCell ⟨b, 0, none⟩ (.slice A1 nw.length c1)).setCell ⟨b, 1, none⟩ (.int .i64 0)) b #[.slice A1 nw.length c1, .int .i64 0, .int .i64 S, .pointer (some ⟨k, 0, none⟩)] 99 := hp2.set 1 _
    have hnb : ∀ q, (Value.slice A1 nw.length c1).ownBlock = some q → q ≠ b := by
      rintro q hq rfl
      rcases hown1.form with ⟨e, _⟩ | ⟨g, cp, cur, e, _, hp, _⟩
      · rw [e] at hq; cases hq
      · rw [e] at hq
        injection hq with hq
        subst hq
        have e2 := hp.symm.trans hp1
        simp at e2
    have ho3 : OwnB ((w1.setCell ⟨b, 0, none⟩ (.slice A1 nw.length c1)).setCell ⟨b, 1, none⟩ (.int .i64 0)) 5 base (.slice A1 nw.length c1) nw := by
      have h := (hown1.other (p := ⟨b, 0, none⟩) (fun e => hnb _ e rfl) (.slice A1 nw.length c1)).other (p := ⟨b, 1, none⟩) (fun e => hnb _ e rfl) (.int .i64 0)
      simpa using h
    have hf3 : Frm (fun x => x = b ∨ (Value.slice A0 R.length k0).ownBlock = some x) w ((w1.setCell ⟨b, 0, none⟩ (.slice A1 nw.length c1)).setCell ⟨b, 1, none⟩ (.int .i64 0)) :=
      ((((Frm.refl _ w).drew).trans (hfrm1.mono (fun q _ hq => .inr (by cases A0 <;> exact hq)))).setCell (by left; rfl) _).setCell (by left; rfl) _
    have P3 := Lib.hid hp3
    have O3 := Lib.hid ho3
    have F3 := Lib.hid hf3
    have N3 := Lib.hid hnew1
    clear hp1 hp2 hp3 hnb ho3 hf3 hnew1 hown1 hfrm1 z0 z1 hr1
    go_wp2
    refine bodyPost_ret (results_none rfl _ _ _) rfl ?_
    refine ⟨_, rfl, ⟨P3.out, O3.out, by rw [← NL.out]; exact Nat.le_refl _, by omega, fun h => rfl⟩, F3.out, ?_⟩
    rcases N3.out with h | h
    · left; rw [h]; cases A0 <;> rfl
    · right; exact h
end Go.Proofs.Yteghpnlamdgpnaa
