/- The decoder's bits. -/
import Derived.Test.YteghpnlamdgpnaaRngA
namespace Go.Proofs.Yteghpnlamdgpnaa
open Go.RowKit Rng
set_option linter.unusedVariables false
set_option linter.unusedSimpArgs false

theorem ret_num {k : IntKind} {x y : Int} (h : x = y) : Ending.returned (.int k x) = Ending.returned (.int k y) := by rw [h]
theorem min2_num {P : Program} (k : IntKind) (ts : Array TypeId) (t : TypeId) (x y n : Int) (h : min x y = n) (w : World) : (Builtin.min_ ts t #[.int k x, .int k y]).run P w = .ok (.int k n) w := by
  have e : (if y < x then y else x) = n := by split <;> omega
  rw [← e]
  simp [Builtin.min_, Builtin.min2]
theorem max2_num {P : Program} (k : IntKind) (ts : Array TypeId) (t : TypeId) (x y n : Int) (h : max x y = n) (w : World) : (Builtin.max_ ts t #[.int k x, .int k y]).run P w = .ok (.int k n) w := by
  have e : (if x < y then y else x) = n := by split <;> omega
  rw [← e]
  simp [Builtin.max_, Builtin.max2]
theorem BRow.setU16 {w : World} {B : Nat} {A : Option Addr} {bs : List UInt8} {p : Addr} {z : Int} (h : BRow w B A bs) (hp : w.cell? p = some (.int .u16 z)) (v : Value) : BRow (w.setCell p v) B A bs := by
  intro h0
  obtain ⟨b, off, rfl, hb, hc⟩ := h h0
  refine ⟨b, off, rfl, hb, fun k hk => ?_⟩
  rw [World.cell?_setCell_other]
  · exact hc k hk
  · intro e
    rw [e, hc k hk] at hp
    simp [byteV] at hp
theorem Frm.setBoth {N : Nat → Prop} {w w' : World} {p : Addr} (h : Frm N w w') (hp : ¬ N p.block) (hl : p.block < w.heap.size) (v : Value) : Frm N (w.setCell p v) (w'.setCell p v) := by
  refine ⟨h.os, h.tape, h.output, ?_, fun i hi hn => ?_⟩
  · show (w.heap.modify _ _).size ≤ (w'.heap.modify _ _).size
    simp only [Array.size_modify]; exact h.size
  · have hi' : i < w.heap.size := by
      have : (w.setCell p v).heap.size = w.heap.size := by show (w.heap.modify _ _).size = _; simp only [Array.size_modify]
      omega
    by_cases e : i = p.block
    · subst e
      show (w'.heap.modify _ _)[p.block]? = (w.heap.modify _ _)[p.block]?
      simp only [Array.getElem?_modify, if_true]
      rw [h.block _ hl hp]
    · show (w'.heap.modify _ _)[i]? = (w.heap.modify _ _)[i]?
      simp only [Array.getElem?_modify]
      rw [if_neg (fun h => e h.symm), if_neg (fun h => e h.symm), h.block i hi' hn]
theorem bit_lt {d : Dec} {c : Nat} (h : d.order.code < d.order.size / 2048 * c) : d.bit c = (false, ⟨d.order.rest, d.order.size / 2048 * c, d.order.code, d.order.want⟩) := by unfold Dec.bit; simp only; rw [if_pos h]
theorem bit_ge {d : Dec} {c : Nat} (h : ¬ d.order.code < d.order.size / 2048 * c) : d.bit c = (true, ⟨d.order.rest, d.order.size - d.order.size / 2048 * c, d.order.code - d.order.size / 2048 * c, d.order.want⟩) := by unfold Dec.bit; simp only; rw [if_neg h]
theorem DecAt.frm {N : Nat → Prop} {w w' : World} {T b rb : Nat} {d : Dec} (h : DecAt w T b rb d) (hf : Frm N w w') (hb : ¬ N b) (hr : ¬ N rb) : DecAt w' T b rb d := by
  obtain ⟨⟨A, c, hp, hrow, ho, hc, hm⟩, hfit, hn⟩ := h
  refine ⟨⟨A, c, hp.frm hf hb, ?_, ho, hc, hm⟩, hfit, hn⟩
  intro h0
  obtain ⟨ab, off, rfl, hab, hcell⟩ := hrow h0
  have hNab : ¬ N ab := by
    have h9 := ho h0 _ rfl
    have e : ab = rb := Decidable.byContradiction h9
    rw [e]; exact hr
  exact ⟨ab, off, rfl, Nat.lt_of_lt_of_le hab hf.size, fun k hk => (World.cell?_of_block (w := w) (hf.block ab hab hNab)).trans (hcell k hk)⟩
theorem DecAt.store {w w1 w2 : World} {T b rb pb po cp s k : Nat} {A : Option Addr} {rest : List UInt8} {wt : Bool} {z : Int} (hpt2 : Pts w2 b #[.slice A rest.length cp, .int .u32 s, .int .u32 k, .bool wt] T) (hf12 : Frm (· = b) w1 w2) (hf : Frm (· = b) w w1)
    (hrow : BRow w1 w1.heap.size A rest) (hoff0 : BOff (· ≠ rb) A rest) (hrb : rb ≠ b) (hp : w.cell? ⟨pb, po, none⟩ = some (.int .u16 z)) (hne : pb ≠ b) (hfit : Dec.Fits ⟨rest, s, k, wt⟩) (hcp : rest.length ≤ cp ∧ cp ≤ maxLen) (v : Value) :
    DecAt (w2.setCell ⟨pb, po, none⟩ v) T b rb ⟨rest, s, k, wt⟩ ∧ Frm (· = b) (w.setCell ⟨pb, po, none⟩ v) (w2.setCell ⟨pb, po, none⟩ v) := by
  have hoff := hoff0.of_ne hrb
  have hlt := World.block_lt_of_cell? w ⟨pb, po, none⟩ hp
  have hf2 := hf.trans hf12
  have hp2 : w2.cell? ⟨pb, po, none⟩ = some (.int .u16 z) := by rw [World.cell?_of_block (hf2.block pb hlt hne)]; exact hp
  have hsz : (w2.setCell ⟨pb, po, none⟩ v).heap.size = w2.heap.size := by show (w2.heap.modify _ _).size = _; simp only [Array.size_modify]
  refine ⟨⟨⟨A, cp, hpt2.other (fun e => hne e.symm) v, ?_, hoff0, hcp.1, hcp.2⟩, hfit, hrb⟩, hf2.setBoth hne hlt v⟩
  rw [hsz]
  exact ((hrow.off hoff hf12).more hf12.size).setU16 hp2 v
theorem fair_p (p : Nat) (w : World) (hp : p < 65536) : Calls Try.prog 56 #[.int .u16 p] w fun e w' => e = .returned (.int .u16 (fair p)) ∧ w = w' := by
  obtain ⟨x, hx⟩ : ∃ x : Nat, max p 31 = x := ⟨_, rfl⟩
  obtain ⟨y, hy⟩ : ∃ y : Nat, min x 2017 = y := ⟨_, rfl⟩
  have f1 := fun w => max2_num (P := Try.prog) .u16 #[38, 38] 38 p 31 x (by omega) w
  have f2 := fun w => min2_num (P := Try.prog) .u16 #[38, 38] 38 x 2017 y (by omega) w
  have hf : fair p = y := by unfold fair; omega
  rw [hf]
  clear hp hx hy hf
  go_enter Try.func56, Try.ntmps56
  go_wp2
  go_ret
  exact ⟨rfl, rfl⟩
theorem fair_r (p : Nat) (w : World) (hp : p < 65536) : Calls Try.prog 37 #[.int .u16 p] w fun e w' => e = .returned (.int .u16 (fair p)) ∧ w = w' := by
  obtain ⟨x, hx⟩ : ∃ x : Nat, min p 2017 = x := ⟨_, rfl⟩
  obtain ⟨y, hy⟩ : ∃ y : Nat, max 31 x = y := ⟨_, rfl⟩
  have f1 := fun w => min2_num (P := Try.prog) .u16 #[38, 38] 38 p 2017 x (by omega) w
  have f2 := fun w => max2_num (P := Try.prog) .u16 #[38, 38] 38 31 x y (by omega) w
  have hf : fair p = y := by unfold fair; omega
  rw [hf]
  clear hp hx hy hf
  go_enter Try.func37, Try.ntmps37
  go_wp2
  go_ret
  exact ⟨rfl, rfl⟩
theorem learn_p (c : Nat) (bit : Int) (one : Bool) (w : World) (hc : c ≤ 2017) (hb : one = decide (bit ≠ 0)) : Calls Try.prog 57 #[.int .u16 c, .int .i64 bit] w fun e w' => e = .returned (.int .u16 (learn c one)) ∧ w = w' := by
  have h1 : IntKind.u16.wrap (2048 - (c : Int)) = ((2048 - c : Nat) : Int) := by rw [Go.IntWalk.u16_in _ (by omega)]; omega
  have h2 : IntKind.u16.wrap ((c : Int) + ((2048 - c) / 32 : Nat)) = ((c + (2048 - c) / 32 : Nat) : Int) := by rw [Go.IntWalk.u16_in _ (by omega)]; omega
  have h3 : IntKind.u16.wrap ((c : Int) - (c / 32 : Nat)) = ((c - c / 32 : Nat) : Int) := by rw [Go.IntWalk.u16_in _ (by omega)]; omega
  by_cases h : bit = 0
  · subst h
    obtain rfl : one = false := by rw [hb]; rfl
    have e : learn c false = c + (2048 - c) / 32 := rfl
    rw [e]
    go_enter Try.func57, Try.ntmps57
    go_wp2
    go_ret
    exact ⟨rfl, rfl⟩
  · obtain rfl : one = true := by rw [hb]; simpa using h
    have e : learn c true = c - c / 32 := rfl
    rw [e]
    go_enter Try.func57, Try.ntmps57
    go_wp2
    go_ret
    exact ⟨ret_num (by omega), rfl⟩
theorem learn_r (c : Nat) (bit : Int) (one : Bool) (w : World) (hc : c ≤ 2017) (hb : one = decide (bit ≠ 0)) : Calls Try.prog 38 #[.int .u16 c, .int .i64 bit] w fun e w' => e = .returned (.int .u16 (learn c one)) ∧ w = w' := by
  have h1 : IntKind.u16.wrap (2048 - (c : Int)) = ((2048 - c : Nat) : Int) := by rw [Go.IntWalk.u16_in _ (by omega)]; omega
  have h2 : IntKind.u16.wrap ((c : Int) + ((2048 - c) / 32 : Nat)) = ((c + (2048 - c) / 32 : Nat) : Int) := by rw [Go.IntWalk.u16_in _ (by omega)]; omega
  have h3 : IntKind.u16.wrap ((c : Int) - (c / 32 : Nat)) = ((c - c / 32 : Nat) : Int) := by rw [Go.IntWalk.u16_in _ (by omega)]; omega
  by_cases h : bit = 0
  · subst h
    obtain rfl : one = false := by rw [hb]; rfl
    have e : learn c false = c + (2048 - c) / 32 := rfl
    rw [e]
    go_enter Try.func38, Try.ntmps38
    go_wp2
    go_ret
    exact ⟨rfl, rfl⟩
  · obtain rfl : one = true := by rw [hb]; simpa using h
    have e : learn c true = c - c / 32 := rfl
    rw [e]
    go_enter Try.func38, Try.ntmps38
    go_wp2
    go_ret
    exact ⟨ret_num (by omega), rfl⟩
set_option maxRecDepth 100000 in
set_option maxHeartbeats 1000000 in
theorem dbit_p (b rb pb po pv : Nat) (d : Dec) (w : World) (hd : DecAt w 90 b rb d) (hp : w.cell? ⟨pb, po, none⟩ = some (.int .u16 pv)) (hfz : w.frozen? ⟨pb, po, none⟩ = false) (hne : pb ≠ b) (hpv : pv < 65536) :
    Calls Try.prog 41 #[.pointer (some ⟨b, 0, none⟩), .pointer (some ⟨pb, po, none⟩)] w fun e w' => e = .returned (.int .i64 (bitV (d.bit (fair pv)).1)) ∧ DecAt w' 90 b rb (d.bit (fair pv)).2 ∧
      Frm (· = b) (w.setCell ⟨pb, po, none⟩ (.int .u16 (learn (fair pv) (d.bit (fair pv)).1))) w' := by
  have HD := Lib.hid hd
  have hfb := fair_bd pv
  obtain ⟨c, hcd⟩ : ∃ c, fair pv = c := ⟨_, rfl⟩
  rw [hcd] at hfb
  have HPV := Lib.hid hpv
  have HC := Lib.hid hcd
  rw [hcd]
  clear hd hpv hcd
  go_enter Try.func41, Try.ntmps41
  go_wp2_with fail
  refine (fair_p pv _ HPV.out).mono ?_; rintro e w1 ⟨rfl, rfl⟩
  rw [HC.out]
  go_wp2_with fail
  refine (dorder_p b rb d _ HD.out).mono ?_; rintro e w1 ⟨rfl, hd1, hf1⟩
  have hfit := (HD.out.f.bit (c := c) (by omega))
  have hblt : d.order.code < d.order.size / 2048 * c ∨ ¬ d.order.code < d.order.size / 2048 * c := by omega
  have hbe := hblt.imp (fun h => And.intro h (bit_lt h)) (fun h => And.intro h (bit_ge h))
  have hlt := World.block_lt_of_cell? w ⟨pb, po, none⟩ hp
  have hp1 : w1.cell? ⟨pb, po, none⟩ = some (.int .u16 pv) := by rw [World.cell?_of_block (hf1.block pb hlt hne)]; exact hp
  have hfz1 : w1.frozen? ⟨pb, po, none⟩ = false := by rw [World.frozen?_of_block (hf1.block pb hlt hne)]; exact hfz
  obtain ⟨⟨A, cp, hpt, hrow, hoff, hcp, hcm⟩, ⟨hs, hk⟩, hrb⟩ := hd1
  have hbl := bound_le d.order.size c hfb.2
  obtain ⟨o, ho⟩ : ∃ o, d.order = o := ⟨_, rfl⟩
  rw [ho] at hblt hbe hpt hrow hoff hcp hs hk hbl
  obtain ⟨rest, s, k, wt⟩ := o
  simp only at hblt hbe hpt hrow hoff hcp hs hk hbl
  obtain ⟨q, hq⟩ : ∃ q : Nat, s / 2048 = q := ⟨_, rfl⟩
  obtain ⟨bd, hbd⟩ : ∃ bd : Nat, q * c = bd := ⟨_, rfl⟩
  rw [hq, hbd] at hblt hbe hbl
  have hq1 : (s : Int) / 2048 = (q : Int) := by omega
  have hm1 : IntKind.u32.wrap ((q : Int) * (c : Int)) = (bd : Int) := by
    have e : (q : Int) * (c : Int) = (bd : Int) := by rw [← hbd]; simp
    rw [e, Go.IntWalk.u32_in _ (by omega)]
  have hwc : IntKind.u32.wrap (c : Int) = (c : Int) := by rw [Go.IntWalk.u32_in _ (by omega)]
  have hwq : IntKind.u32.wrap (q : Int) = (q : Int) := by rw [Go.IntWalk.u32_in _ (by omega)]
  have hm2 : IntKind.u32.wrap ((s : Int) - bd) = ((s - bd : Nat) : Int) := by rw [Go.IntWalk.u32_in _ (by omega)]; omega
  have d1 : w1.cell? ⟨b, 1, none⟩ = some (.int .u32 s) := by rw [hpt.cell]; rfl
  have d2 : w1.cell? ⟨b, 2, none⟩ = some (.int .u32 k) := by rw [hpt.cell]; rfl
  have g1 := hpt.frozen 1
  have g2 := hpt.frozen 2
  have HP1 := Lib.hid hpt
  have HROW := Lib.hid hrow
  have HOFF := Lib.hid hoff
  have HRB := Lib.hid hrb
  have HF1 := Lib.hid hf1
  have HCP := Lib.hid (And.intro hcp hcm)
  have HFIT := Lib.hid hfit
  have HLT := Lib.hid hlt
  have hc17 := hfb.2
  clear hpt hrow hoff hf1 hcp hcm hfit hq hbd hfb hs hlt ho hrb
  obtain ⟨s3, hs3⟩ : ∃ s3 : Nat, s - bd = s3 := ⟨_, rfl⟩
  rw [hs3] at hm2 hbe
  have hk3 : ¬ k < bd → IntKind.u32.wrap ((k : Int) - bd) = ((k - bd : Nat) : Int) := fun h => by rw [Go.IntWalk.u32_in _ (by omega)]; omega
  obtain ⟨k3, hk3e⟩ : ∃ k3 : Nat, k - bd = k3 := ⟨_, rfl⟩
  rw [hk3e] at hk3 hbe
  rcases hbe with ⟨h1, hbe⟩ | ⟨h1, hbe⟩
  · have hcc : (k : Int) < (bd : Int) := by omega
    rw [hbe] at HFIT
    have HBE := Lib.hid hbe
    clear hbe hk3 hk3e hblt h1 hk hbl hs3 hm2
    go_wp2_with fail
    refine (learn_p c 0 false _ (by omega) rfl).mono ?_; rintro e w2 ⟨rfl, rfl⟩
    go_wp2
    go_ret
    have h9 := DecAt.store (HP1.out.set 1 (.int .u32 bd)) ((Frm.refl (· = b) w1).setCell (p := ⟨b, 1, none⟩) (by rfl) (.int .u32 bd)) HF1.out HROW.out HOFF.out HRB.out hp hne HFIT.out HCP.out (.int .u16 (learn c false))
    rw [HBE.out]
    exact ⟨rfl, h9.1, h9.2⟩
  · have hcc : ¬ ((k : Int) < (bd : Int)) := by omega
    have hw3 := hk3 h1
    rw [hbe] at HFIT
    have HBE := Lib.hid hbe
    clear hbe hk3 hk3e hblt h1 hk hbl hs3
    go_wp2_with fail
    refine (learn_p c 1 true _ (by omega) rfl).mono ?_; rintro e w2 ⟨rfl, rfl⟩
    go_wp2
    go_ret
    have h9 := DecAt.store ((HP1.out.set 1 (.int .u32 s3)).set 2 (.int .u32 k3)) (((Frm.refl (· = b) w1).setCell (p := ⟨b, 1, none⟩) (by rfl) (.int .u32 s3)).setCell (p := ⟨b, 2, none⟩) (by rfl) (.int .u32 k3)) HF1.out HROW.out HOFF.out HRB.out hp hne HFIT.out HCP.out (.int .u16 (learn c true))
    rw [HBE.out]
    exact ⟨rfl, h9.1, h9.2⟩
end Go.Proofs.Yteghpnlamdgpnaa
