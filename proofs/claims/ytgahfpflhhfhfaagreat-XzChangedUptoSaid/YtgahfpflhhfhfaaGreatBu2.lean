/- Texts of this proof, put together: WinD, WinE, WinF, WinG, WinW, LzO, LzR, LzS, LzT, LzU, Step, RngD, LzX, MaP, MaB, WinH, LzW, LzV, LzY, LcA, LcB, LcC, LcD, MaC, MaD, Stc, MaE. -/
import Derived.Deep.DeepCutAuto
import Derived.Deep.CutRange
import Derived.Deep.LoopGhost
import Derived.Lib.SlBytesConst
import Derived.Deep.RegionLaw
import Derived.Defers
import Derived.Recover
import Derived.WalkSmall
import Derived.Laws.Pointers
import Derived.Deep.Onto
import Derived.Deep.CutBlock
import Derived.StillTailTactics
import Derived.Tactics2
import Derived.Test.YtgahfpflhhfhfaaGreatBu1
set_option linter.unusedVariables false
set_option linter.unusedSimpArgs false
/- The contract of the window's Put: fewer bytes than the window is long. -/
namespace Go.Proofs.YtgahfpflhhfhfaaGreat
open Go.RowKit Win
set_option linter.unusedVariables false
set_option linter.unusedSimpArgs false

theorem min2_int {P : Program} (ts : Array TypeId) (t : TypeId) (x y n : Int) (h : min x y = n) (w : World) : (Builtin.min_ ts t #[.int .i64 x, .int .i64 y]).run P w = .ok (.int .i64 n) w := by
  have e : (if y < x then y else x) = n := by split <;> omega
  rw [← e]
  simp [Builtin.min_, Builtin.min2]
theorem BOff.drop {w : World} {B j c : Nat} {N : Nat → Prop} {A : Option Addr} {bs : List UInt8} (h : BOff N A bs) (hr : BRow w B A bs) : BOff N (if c = j then A else A.map (·.add j)) (bs.drop j) := by
  intro hn ad e
  rw [List.length_drop] at hn
  have h0 : 0 < bs.length := by omega
  obtain ⟨b, off, rfl, _⟩ := hr h0
  split at e
  · exact h h0 ad e
  · simp only [Option.map_some, Option.some.injEq] at e
    rw [← e, Opn.add_at]
    exact h h0 ⟨b, off, none⟩ rfl
theorem BOff.step {w : World} {B b sz : Nat} {v v' : Value} {A : Option Addr} {bs : List UInt8} (h : BOff (fun x => x = b ∨ v.ownBlock = some x) A bs) (hr : BRow w B A bs) (hB : B ≤ sz) (hn : v'.ownBlock = v.ownBlock ∨ v'.ownBlock = some sz) : BOff (fun x => x = b ∨ v'.ownBlock = some x) A bs := by
  intro h0 ad e hk
  obtain ⟨c, off, e2, hlt, _⟩ := hr h0
  rcases hk with hk | hk
  · exact h h0 ad e (.inl hk)
  · rcases hn with hn | hn
    · exact h h0 ad e (.inr (hn ▸ hk))
    · rw [hn] at hk
      injection hk with hk
      rw [e2] at e
      injection e with e
      subst e
      simp only at hk
      omega
theorem Frm.trans2 {S S' : Nat → Prop} {a b c : World} (h : Frm S a b) (k : Frm S' b c) (hm : ∀ q, q < a.heap.size → S' q → S q) : Frm S a c :=
  ⟨k.os.trans h.os, k.tape.trans h.tape, k.output.trans h.output, Nat.le_trans h.size k.size, fun i hi hn => (k.block i (Nat.lt_of_lt_of_le hi h.size) (fun hs => hn (hm i hi hs))).trans (h.block i hi hn)⟩
theorem BRow.offN {N : Nat → Prop} {w w' : World} {B : Nat} {A : Option Addr} {bs : List UInt8} (h : BRow w B A bs) (hA : BOff N A bs) (hf : Frm N w w') : BRow w' B A bs := by
  intro hn
  obtain ⟨c, off, rfl, hlt, hcell⟩ := h hn
  exact ⟨c, off, rfl, hlt, fun k hk => (World.cell?_of_block (w := w) (hf.block c (World.block_lt_of_cell? w ⟨c, off + k, none⟩ (hcell k hk)) (hA hn _ rfl))).trans (hcell k hk)⟩
theorem WinAt.off {w : World} {base b k S : Nat} {v : Value} {R : List UInt8} {a : Nat} (h : WinAt w base b k S v R a) : ∀ q, v.ownBlock = some q → q ≠ b := by
  rintro q hq rfl
  rcases h.o.form with ⟨e, _⟩ | ⟨g, cap, cur, e, _, hp, _⟩
  · rw [e] at hq; cases hq
  · rw [e] at hq
    injection hq with hq
    subst hq
    have e2 := hp.symm.trans h.p
    simp at e2

theorem Tryz.size_u8 : (Tryz.prog.info? 5).map (·.size) = some 1 := by kernel_rfl
theorem slice_to (A : Option Addr) (n c m : Nat) (hf : m ≤ n) (hn : n ≤ c) (w : World) :
    (Instr.sliceAt 22 (.slice A n c) none (some (.int .i64 (m : Int))) none).run Tryz.prog w = .ok (.slice A m c) w := by
  simp [go_sem]
  intro h; omega
theorem WinAt.drewN {w : World} {base b k S : Nat} {v : Value} {R : List UInt8} {a : Nat} (h : WinAt w base b k S v R a) (d : Nat) : WinAt (w.drewN d) base b k S v R a := ⟨h.p.drewN d, h.o.drewN d, h.n, h.lt, h.z⟩
/-- The window and what is still tq9 be put. -/
structure PutAt (w0 w : World) (base b k S B : Nat) (v0 : Value) (C0 bs : List UInt8) (v : Value) (R : List UInt8) (a : Nat) (Ad : Option Addr) (cd : Nat) (rest : List UInt8) (j : Nat) : Prop where
  wi : WinAt w base b k S v R a
  c : content R a = lastN S (C0 ++ bs.take j)
  r : rest = bs.drop j
  row : BRow w B Ad rest
  off : BOff (fun x => x = b ∨ v.ownBlock = some x) Ad rest
  cap : rest.length ≤ cd ∧ cd ≤ maxLen
  full : 0 < rest.length → R.length = S
  f : Frm (fun x => x = b ∨ v0.ownBlock = some x) w0 w
  own : v.ownBlock = v0.ownBlock ∨ v.ownBlock = some w0.heap.size
  sz : w0.heap.size ≤ w.heap.size

set_option maxRecDepth 100000 in
set_option maxHeartbeats 2000000 in
theorem put_small_any (base b k S a c B : Nat) (v : Value) (R : List UInt8) (A : Option Addr) (bs : List UInt8) (w : World) (hw : WinAt w base b k S v R a) (hr : BRow w B A bs) (hoff : BOff (fun x => x = b ∨ v.ownBlock = some x) A bs) (hc : bs.length ≤ c) (hcm : c ≤ maxLen) (hlen : bs.length ≤ 16777216) (hbase : base ≤ w.heap.size)
    (hS : bs.length < S) (hS2 : S ≤ 16777216) (hB : B ≤ w.heap.size) :
    Calls Tryz.prog 97 #[.pointer (some ⟨b, 0, none⟩), .slice A bs.length c] w fun e w' => ∃ (v' : Value) (R' : List UInt8) (a' : Nat), e = .returned (.tuple #[]) ∧ WinAt w' base b k S v' R' a' ∧ content R' a' = lastN S (content R a ++ bs) ∧
      Frm (fun x => x = b ∨ v.ownBlock = some x) w w' ∧ (v'.ownBlock = v.ownBlock ∨ v'.ownBlock = some w.heap.size) := by
  obtain ⟨A0, k0, rfl, hc0, hm0, hr0⟩ := hw.o.slice
  have c0 : w.cell? ⟨b, 0, none⟩ = some (.slice A0 R.length k0) := by rw [hw.p.cell]; rfl
  have c2 : w.cell? ⟨b, 2, none⟩ = some (.int .i64 S) := by rw [hw.p.cell]; rfl
  have hRS := hw.n
  have haS := hw.lt
  have HW := Lib.hid hw
  have HR := Lib.hid hr
  have HO := Lib.hid hoff
  obtain ⟨n, hn⟩ : ∃ n : Nat, min (bs.length : Int) ((S : Int) - R.length) = n := ⟨min bs.length (S - R.length), by omega⟩
  have f1 := fun w => min2_int (P := Tryz.prog) #[3, 3] 3 _ _ _ hn w
  have hn1 : n ≤ bs.length ∧ R.length + n ≤ S ∧ (n < bs.length → R.length + n = S) := by omega
  clear hn hw hr hoff hr0
  obtain ⟨n1, n2, n3⟩ := hn1
  have M0 := Lib.hid hm0
  have CM := Lib.hid hcm
  clear hm0 hcm
  have hdS : decide (S ≤ bs.length) = false := decide_eq_false (by omega)
  go_enter Tryz.func97, Tryz.ntmps97
  go_upto_region 4 with (go_at_call 113; refine (dropped_no _ _ _ _ _ _ HW.out.p).mono ?_; rintro e w1 ⟨rfl, rfl⟩)
  go_quiet (fail)
  go_upto_if 54 with fail
  go_cut [1] from 53 to 68 (fun s1 wx => ∃ (Ad : Option Addr) (cd j : Nat) (rest : List UInt8) (v1 : Value) (R1 : List UInt8), s1 = .slice Ad rest.length cd ∧ PutAt w wx base b k S B (.slice A0 R.length k0) (content R a) bs v1 R1 a Ad cd rest j)
  case first =>
    by_cases hn0 : n = 0
    · subst hn0
      go_wp2
      go_meet
      case rel =>
        refine ⟨A, c, 0, bs, .slice A0 R.length k0, R, rfl, ⟨HW.out.drewN _, ?_, by simp, BRow.drewN HR.out _, HO.out, ⟨hc, CM.out⟩, fun h => by omega, (Frm.refl _ _).drewN _, .inl rfl, Nat.le_refl _⟩⟩
        rw [List.take_zero, List.append_nil, lastN_all (by rw [content_length]; exact hRS)]
    · have ha0 : a = 0 := HW.out.z (by omega)
      subst ha0
      have hst := fun w => slice_to A bs.length c n n1 hc w
      have hsf := fun w => slice_from A bs.length c n n1 hc w
      have htl : n = (bs.take n).length := by rw [List.length_take]; omega
      have hrl : bs.length - n = (bs.drop n).length := by rw [List.length_drop]
      have HTL := Lib.hid htl
      have HRL := Lib.hid hrl
      have f0 := HW.out.p.frozen 0
      have hll : R.length + (bs.take n).length ≤ 140737488355328 := by omega
      have hbN : ∀ w' : World, Frm (fun k => (Value.slice A0 R.length k0).ownBlock = some k) w w' → Frm (fun x => x = b ∨ (Value.slice A0 R.length k0).ownBlock = some x) w w' := fun w' h => h.mono fun _ _ hk => .inr hk
      have ROW2 := Lib.hid (HR.out.drop (k := n) (cap := c) hc)
      have OFF2 := Lib.hid (BOff.drop (j := n) (c := c) HO.out HR.out)
      have OFFW := Lib.hid HW.out.off
      clear htl hrl
      obtain ⟨Ad, had⟩ : ∃ Ad, (if c = n then A else A.map (·.add n)) = Ad := ⟨_, rfl⟩
      rw [had] at hsf ROW2 OFF2
      have hpos : (0 : Int) < (n : Int) := by omega
      clear had
      go_wp2
      go_region_law (refine step_append_bytes _ rfl (.tmp 59) (.tmp 62) 22 rfl 5 base Tryz.underlying22 Tryz.info_u8 (.slice A0 R.length k0) R rfl (HW.out.o.drewN _) A n c B (bs.take n) rfl HTL.out (BRow.drewN (HR.out.take n) _) hll hbase ?_; intro v1 w1 hown1 hfrm1 hnew1; obtain ⟨A1, c1, rfl, hc1, hm1, hr1⟩ := hown1.slice; have hp1 := (HW.out.p.drewN _).drew.frm (S := fun k => (Value.slice A0 R.length k0).ownBlock = some k) hfrm1 (fun e => OFFW.out b e rfl); have z0 : w1.cell? ⟨b, 0, none⟩ = some (.slice A0 R.length k0) := (hp1.cell 0).trans rfl; have z1 := hp1.frozen 0)
      all_goals
        have hL1 : (R ++ bs.take n).length = R.length + n := by rw [List.length_append, ← HTL.out]
        have hp2 : Pts (w1.setCell ⟨b, 0, none⟩ (.slice A1 (R.length + n) c1)) b #[.slice A1 (R.length + n) c1, .int .i64 ((0 : Nat) : Int), .int .i64 S, .pointer (some ⟨k, 0, none⟩)] 146 := hp1.set 0 _
        rw [hL1] at hown1
        have hnb : ∀ q, (Value.slice A1 (R.length + n) c1).ownBlock = some q → q ≠ b := by
          rintro q hq rfl
          rcases hown1.form with ⟨e, _⟩ | ⟨g, cp, cur, e, _, hp, _⟩
          · rw [e] at hq; cases hq
          · rw [e] at hq
            injection hq with hq
            subst hq
            have e2 := hp.symm.trans hp1
            simp at e2
        have ho2 := hown1.other (p := ⟨b, 0, none⟩) (fun e => hnb _ e rfl) (.slice A1 (R.length + n) c1)
        have hf2 := ((((Frm.refl (fun x => x = b ∨ (Value.slice A0 R.length k0).ownBlock = some x) w).drewN nq).drew).trans (hfrm1.mono (fun q _ hq => .inr hq))).setCell (p := ⟨b, 0, none⟩) (by left; rfl) (.slice A1 (R.length + n) c1)
        have hnew2 : (Value.slice A1 (R.length + n) c1).ownBlock = (Value.slice A0 R.length k0).ownBlock ∨ (Value.slice A1 (R.length + n) c1).ownBlock = some w.heap.size := by
          rcases hnew1 with h | h
          · left; rw [← h]; cases A1 <;> rfl
          · right; have h' : (Value.slice A1 (R ++ bs.take n).length c1).ownBlock = some w.heap.size := h; rw [← h']; cases A1 <;> rfl
        have P2 := Lib.hid hp2
        have O2 := Lib.hid ho2
        have F2 := Lib.hid hf2
        have N2 := Lib.hid hnew2
        have L1 := Lib.hid hL1
        have NB := Lib.hid hnb
        clear hp1 hp2 hown1 hnb ho2 hf2 hnew1 hnew2 hfrm1 z0 z1 hr1 hL1 hst hll hbN
        go_wp2
        go_meet
        case rel =>
          refine ⟨Ad, c - n, n, bs.drop n, .slice A1 (R.length + n) c1, R ++ bs.take n, by rw [← HRL.out], ⟨⟨P2.out, O2.out, by rw [L1.out]; exact n2, by omega, fun _ => rfl⟩, ?_, rfl, BRow.offN ROW2.out OFF2.out F2.out, BOff.step OFF2.out ROW2.out hB N2.out, ⟨by rw [← HRL.out]; omega, by have := CM.out; omega⟩, fun h => by rw [← HRL.out] at h; rw [L1.out]; exact n3 (by omega), F2.out, N2.out, F2.out.size⟩⟩
          rw [content_zero, content_zero, lastN_all (by rw [L1.out]; exact n2)]
  case rest =>
    obtain ⟨Ad, cd, j, rest, v1, R1, rfl, hpa⟩ := hcut
    have PA := Lib.hid hpa
    clear hpa f1 c0 c2
    go_wp2
    go_loopg [1] bs.length (fun gn s1 wr => ∃ (Ad : Option Addr) (cd j : Nat) (rest : List UInt8) (v1 : Value) (R1 : List UInt8) (a1 : Nat), s1 = .slice Ad rest.length cd ∧ rest.length ≤ gn ∧ PutAt w wr base b k S B (.slice A0 R.length k0) (content R a) bs v1 R1 a1 Ad cd rest j)
    case atStart => exact ⟨Ad, cd, j, rest, v1, R1, a, rfl, by rw [PA.out.r, List.length_drop]; omega, PA.out⟩
    case round =>
      obtain ⟨Ad, cd, j, rest, v1, R1, a1, rfl, hgn, hpa⟩ := hrel
      have P1 := Lib.hid hpa
      clear hpa
      by_cases hr0 : rest.length = 0
      · have hrest : rest = [] := List.eq_nil_of_length_eq_zero hr0
        have hj : bs.length ≤ j := by
          have := P1.out.r
          rw [hrest] at this
          have h2 := congrArg List.length this
          rw [List.length_drop] at h2
          simp at h2; omega
        have hcon : content R1 a1 = lastN S (content R a ++ bs) := by
          have h := P1.out.c
          rwa [List.take_of_length_le hj] at h
        have HC := Lib.hid hcon
        clear hcon hj hrest
        have hz : ((rest.length : Int) : Int) = 0 := by omega
        go_wp2
        go_end0
        exact ⟨v1, R1, a1, rfl, P1.out.wi, HC.out, P1.out.f, P1.out.own⟩
      · have hfull := P1.out.full (by omega)
        have ha1 := P1.out.wi.lt
        rcases P1.out.wi.o.form with ⟨_, hnil⟩ | ⟨g, cap, cur, rfl, hbg, hpg, hn1', hn2', hcs, hcc⟩
        · rw [hnil] at hfull; simp at hfull; omega
        · clear hcc hcs hpg cur
          obtain ⟨n2, hn2⟩ : ∃ n2, n2 = min rest.length (R1.length - a1) := ⟨_, rfl⟩
          have c0 : wr.cell? ⟨b, 0, none⟩ = some (.slice (some ⟨g, 0, none⟩) R1.length cap) := by rw [P1.out.wi.p.cell]; rfl
          have c1 : wr.cell? ⟨b, 1, none⟩ = some (.int .i64 a1) := by rw [P1.out.wi.p.cell]; rfl
          have hsa : ∀ w, (Instr.sliceAt 22 (.slice (some ⟨g, 0, none⟩) R1.length cap) (some (.int .i64 (a1 : Int))) none none).run Tryz.prog w = .ok (.slice (some ⟨g, a1, none⟩) (R1.length - a1) (cap - a1)) w := by
            intro w
            rw [slice_from _ _ _ _ (by omega) hn1', if_neg (by omega)]
            simp [Opn.add_at]
          have hsf := fun w => slice_from Ad rest.length cd n2 (by omega) P1.out.cap.1 w
          have hrl : rest.length - n2 = (rest.drop n2).length := by rw [List.length_drop]
          have HRL := Lib.hid hrl
          have ROW2 := Lib.hid (P1.out.row.drop (k := n2) (cap := cd) P1.out.cap.1)
          have OFF2 := Lib.hid (BOff.drop (j := n2) (c := cd) P1.out.off P1.out.row)
          have OFFW := Lib.hid P1.out.wi.off
          obtain ⟨Ae, hae⟩ : ∃ Ae, (if cd = n2 then Ad else Ad.map (·.add n2)) = Ae := ⟨_, rfl⟩
          rw [hae] at hsf ROW2 OFF2
          have hcn : (n2 : Int) ≤ (cd : Int) := by have := P1.out.cap.1; omega
          have hne : ((S : Int) == 0) = false := beq_eq_false_iff_ne.2 (by omega)
          obtain ⟨q2, hq2⟩ : ∃ q2, (a1 + n2) % S = q2 := ⟨_, rfl⟩
          have hmod : ((a1 : Int) + n2) % (S : Int) = (q2 : Int) := by rw [← hq2, Int.natCast_emod]; congr 1
          have HQ2 := Lib.hid hq2
          clear hq2
          have HN2 := Lib.hid hn2
          have HCP := Lib.hid hn2'
          have hgb : g ≠ b := fun e => OFFW.out g rfl e
          have HGB := Lib.hid hgb
          have hpos : (0 : Int) < (rest.length : Int) := by omega
          have hn2le : n2 ≤ rest.length ∧ a1 + n2 ≤ S ∧ 1 ≤ n2 := by omega
          have hFULL := Lib.hid hfull
          have hapl : (a1 : Int) ≤ (R1.length : Int) := by omega
          clear hrl hae hn2 hn2' hgb hfull
          go_wp2
          go_region_law (refine step_copy_bytes _ rfl (.tmp 80) (.tmp 81) 22 rfl 5 base Tryz.underlying22 Tryz.size_u8 g cap a1 R1 (cap - a1) rfl (P1.out.wi.o.drewN 1) (by have := hFULL.out; omega) Ad rest.length cd B n2 rest rfl rfl (BRow.drewN P1.out.row 1) (by omega) HN2.out ?_; intro w5 hown5 hfrm5)
          all_goals
            have hp5 := P1.out.wi.p.drew.frm (S := fun k => k = g) hfrm5 (fun e => HGB.out e.symm)
            have d1 : w5.cell? ⟨b, 1, none⟩ = some (.int .i64 a1) := by rw [hp5.cell]; rfl
            have d2 : w5.cell? ⟨b, 2, none⟩ = some (.int .i64 S) := by rw [hp5.cell]; rfl
            have d3 := hp5.frozen 1
            have P5 := Lib.hid hp5
            have O5 := Lib.hid hown5
            have F5 := Lib.hid hfrm5
            have e1 : w5.drew.cell? ⟨b, 1, none⟩ = some (.int .i64 a1) := d1
            have e2 : w5.drew.cell? ⟨b, 2, none⟩ = some (.int .i64 S) := d2
            have e3 : w5.drew.frozen? ⟨b, 1, none⟩ = false := d3
            clear hp5 hown5 hfrm5 c0 c1 hsa
            go_wp2
            refine QTail.wp_region_qtail_lit 14 (by kernel_rfl) (by kernel_rfl) ?_
            simp only [List.take_succ_cons, List.take_zero, List.drop_succ_cons, List.drop_zero]
            repeat (go_big_quiet_step (fail))
            refine wpQuiet_nil ?_
            rintro w' ⟨nr, rfl⟩
            go_wp2
            go_roundg (rest.length - n2)
            case measure => omega
            case rel =>
              have hol : (over R1 rest a1 n2).length = R1.length := over_length (by have := hFULL.out; omega) (by omega)
              have hp6 : Pts ((w5.drewN nr).setCell ⟨b, 1, none⟩ (.int .i64 (q2 : Int))) b #[.slice (some ⟨g, 0, none⟩) R1.length cap, .int .i64 (q2 : Int), .int .i64 S, .pointer (some ⟨k, 0, none⟩)] 146 := (P5.out.drewN nr).set 1 _
              have ho6 : OwnB ((w5.drewN nr).setCell ⟨b, 1, none⟩ (.int .i64 (q2 : Int))) 5 base (.slice (some ⟨g, 0, none⟩) R1.length cap) (over R1 rest a1 n2) := by
                have h := (O5.out.drewN nr).other (p := ⟨b, 1, none⟩) (fun e => HGB.out (by injection e)) (.int .i64 (q2 : Int))
                rw [hol] at h
                exact h
              have hf6 : Frm (fun x => x = b ∨ (Value.slice (some ⟨g, 0, none⟩) R1.length cap).ownBlock = some x) wr ((w5.drewN nr).setCell ⟨b, 1, none⟩ (.int .i64 (q2 : Int))) :=
                ((((Frm.refl _ wr).drew).trans (F5.out.mono (fun q _ hq => .inr (by rw [hq]; rfl)))).drewN nr).setCell (by left; rfl) _
              have hqS : q2 < S := by rw [← HQ2.out]; exact Nat.mod_lt _ (by omega)
              refine ⟨Ae, cd - n2, j + n2, rest.drop n2, .slice (some ⟨g, 0, none⟩) R1.length cap, over R1 rest a1 n2, q2, by rw [← HRL.out], by rw [← HRL.out]; exact Nat.le_refl _,
                ⟨⟨hp6, ho6, by rw [hol]; exact Nat.le_of_eq hFULL.out, hqS, fun h => by rw [hol, hFULL.out] at h; omega⟩, ?_, ?_, BRow.offN ROW2.out OFF2.out hf6, OFF2.out, ⟨by rw [← HRL.out]; have := P1.out.cap.1; omega, by have := P1.out.cap.2; omega⟩, fun _ => by rw [hol]; exact hFULL.out, ?_, P1.out.own, Nat.le_trans P1.out.sz hf6.size⟩⟩
              · have h1 := over_content (R := R1) (b := rest) (a := a1) (n := n2) (by have := hFULL.out; omega) (by omega) (by have := hFULL.out; omega) (by have := hFULL.out; omega)
                rw [hFULL.out, HQ2.out, P1.out.c, lastN_lastN, List.append_assoc] at h1
                rw [h1, List.take_add, P1.out.r]
              · rw [P1.out.r, List.drop_drop]
              · refine Frm.trans2 P1.out.f hf6 (fun q hq hk => ?_)
                rcases hk with hk | hk
                · exact .inl hk
                · rcases P1.out.own with h | h
                  · exact .inr (h ▸ hk)
                  · rw [h] at hk
                    injection hk with hk
                    omega
end Go.Proofs.YtgahfpflhhfhfaaGreat

/- The contracts of the window: Put in one, no window, New, Held, Clear, Drop. -/
namespace Go.Proofs.YtgahfpflhhfhfaaGreat
open Go.RowKit Win
set_option linter.unusedVariables false
set_option linter.unusedSimpArgs false

theorem put_any (base b k S a c B n : Nat) (v : Value) (R : List UInt8) (A : Option Addr) (bs : List UInt8) (w : World) (hw : WinAt w base b k S v R a) (hn : n = bs.length) (hr : BRow w B A bs) (hoff : BOff (fun x => x = b ∨ v.ownBlock = some x) A bs) (hc : bs.length ≤ c) (hcm : c ≤ maxLen) (hlen : bs.length ≤ 16777216) (hbase : base ≤ w.heap.size)
    (hS2 : S ≤ 16777216) (hB : B ≤ w.heap.size) :
    Calls Tryz.prog 97 #[.pointer (some ⟨b, 0, none⟩), .slice A n c] w fun e w' => ∃ (v' : Value) (R' : List UInt8) (a' : Nat), e = .returned (.tuple #[]) ∧ WinAt w' base b k S v' R' a' ∧ content R' a' = lastN S (content R a ++ bs) ∧
      Frm (fun x => x = b ∨ v.ownBlock = some x) w w' ∧ (v'.ownBlock = v.ownBlock ∨ v'.ownBlock = some w.heap.size) := by
  subst hn
  by_cases hS : S ≤ bs.length
  · refine (put_big_any base b k S a c B v R A bs w hw hr hc hcm hlen hbase hS (by have := hw.lt; omega) hB).mono ?_
    rintro e w' ⟨v', rfl, h1, h2, h3⟩
    exact ⟨v', _, 0, rfl, h1, by rw [content_zero, put_big hS], h2, h3⟩
  · exact put_small_any base b k S a c B v R A bs w hw hr hoff hc hcm hlen hbase (by omega) hS2 hB

/-- A window of a size that may be, and what the ledger answers. -/
theorem new_win (k S : Nat) (B n m : Int) (w : World) (hl : Led w k B n m) (hB : 0 ≤ B ∧ B ≤ 16777216) (hn : 0 ≤ n ∧ n ≤ B) (hm : n ≤ m ∧ m ≤ B) (h1 : 1 ≤ S) (h2 : S ≤ 16777216) (hc : chE B n S = 0) :
    Calls Tryz.prog 69 #[.int .i64 S, .pointer (some ⟨k, 0, none⟩)] w fun e w' => ∃ b, e = .returned (.tuple #[.pointer (some ⟨b, 0, none⟩), .int .i64 0]) ∧ WinAt w' w.heap.size b k S (.slice none 0 0) [] 0 ∧ w.heap.size ≤ b ∧
      Led w' k B (chN B n S) (chM B n m S) ∧ Frm (· = k) w w' := by
  have HL := Lib.hid hl
  have HC := Lib.hid hc
  have klt := Pts.lt hl
  clear hl hc
  go_enter Tryz.func69, Tryz.ntmps69
  go_wp2_with (go_at_call 82; refine (charge_led _ B n m _ _ HL.out hB hn hm).mono ?_; rintro e w1 ⟨rfl, hL1, hF1⟩; rw [HC.out])
  go_ret2
  have hp := Pts.new w1 #[.slice none 0 0, .int .i64 ((0 : Nat) : Int), .int .i64 S, .pointer (some ⟨k, 0, none⟩)] 146
  exact ⟨w1.heap.size, rfl, ⟨hp, OwnB.nil _ _ _, Nat.zero_le _, by omega, fun _ => rfl⟩, hF1.size, Pts.alloc hL1 _, hF1.alloc _⟩
end Go.Proofs.YtgahfpflhhfhfaaGreat

/- The contract of the window's Copy. -/
namespace Go.Proofs.YtgahfpflhhfhfaaGreat
open Go.RowKit Win
set_option linter.unusedVariables false
set_option linter.unusedSimpArgs false

/-- The bytes that a copy tells: the last back ones of C, over and over. -/
def cyc (C : List UInt8) (back n : Nat) : List UInt8 := (List.range n).map fun t => C.getD (C.length - back + t % back) 0
theorem cyc_length (C : List UInt8) (back n : Nat) : (cyc C back n).length = n := by simp [cyc]
theorem cyc_snoc {C : List UInt8} {back t : Nat} (h : t < back) : cyc C back t ++ [C.getD (C.length - back + t) 0] = cyc C back (t + 1) := by
  unfold cyc
  rw [List.range_succ, List.map_append]
  simp [Nat.mod_eq_of_lt h]
theorem cyc_more {C : List UInt8} {back L k : Nat} (h0 : 0 < back) (hL : L % back = 0) (hk : k ≤ L) : cyc C back L ++ (cyc C back L).take k = cyc C back (L + k) := by
  apply List.ext_getElem
  · simp [cyc]; omega
  · intro j h1 h2
    simp only [List.length_append, List.length_take, cyc_length] at h1 h2
    by_cases hj : j < L
    · rw [List.getElem_append_left (by rw [cyc_length]; exact hj)]
      simp [cyc]
    · rw [List.getElem_append_right (by rw [cyc_length]; omega)]
      simp only [cyc, List.length_map, List.length_range, List.getElem_take, List.getElem_map, List.getElem_range]
      congr 2
      obtain ⟨q, hq⟩ := Nat.dvd_of_mod_eq_zero hL
      have e : j = (j - L) + back * q := by omega
      conv => rhs; rw [e, Nat.add_mul_mod_self_left]
theorem make_bytes (n : Nat) (hn : n ≤ 16777216) (w : World) :
    (Instr.makeSlice 22 (.int .i64 0) (.int .i64 (n : Int))).run Tryz.prog w = .ok (.slice (some ⟨w.heap.size, 0, none⟩) 0 n) (w.alloc (.cells (madeCells #[.int .u8 0] n) 5)) := by
  obtain ⟨i, hi, hz⟩ := Option.map_eq_some_iff.1 Tryz.info_u8
  simp only [Prod.mk.injEq] at hz
  have h := run_make (P := Tryz.prog) w 22 5 i (.int .u8 0) Tryz.underlying22 hi hz.1 .i64 .i64 0 n (by omega) (by omega) (by rw [hz.2.2]; omega) (by omega)
  rw [hz.2.1] at h
  simp only [Int.toNat_natCast, Nat.mul_one] at h
  exact h
theorem OwnB.madeN (w : World) (T base n : Nat) (hb : base ≤ w.heap.size) (hn : n ≤ 16777216) : OwnB (w.alloc (.cells (madeCells #[.int .u8 0] n) T)) T base (.slice (some ⟨w.heap.size, 0, none⟩) 0 n) [] :=
  World.ownsRow_made w _ n hb (by unfold maxLen; omega) (by rw [size_madeCells]; simp)

theorem at_num (b k a S cap back : Nat) (A : Option Addr) (R : List UInt8) (z : Int) (w : World) (hp : Pts w b #[.slice A R.length cap, .int .i64 a, .int .i64 S, .pointer (some ⟨k, 0, none⟩)] 146) (hr : BRow w w.heap.size A R)
    (hR : R.length ≤ 16777216) (ha : a ≤ 16777216) (h1 : 1 ≤ back) (h2 : back ≤ R.length) (hz : z = (back : Int)) :
    Calls Tryz.prog 141 #[.pointer (some ⟨b, 0, none⟩), .int .i64 z] w fun e w' => e = .returned (.tuple #[.int .u8 ((R.getD ((a + R.length - back) % R.length) 0).toNat : Int), .bool true]) ∧ ∃ d, w' = w.drewN d := by
  subst hz
  exact at_in b k a S cap back A R w hp hr hR ha h1 h2
set_option maxRecDepth 100000 in
set_option maxHeartbeats 2000000 in
theorem copy_any (base b k S a back n : Nat) (v : Value) (R : List UInt8) (w : World) (hw : WinAt w base b k S v R a) (hbase : base ≤ w.heap.size) (hS2 : S ≤ 16777216) (hn : n ≤ 16777216) (h1 : 1 ≤ back) (h2 : back ≤ R.length) :
    Calls Tryz.prog 130 #[.pointer (some ⟨b, 0, none⟩), .int .i64 back, .int .i64 n] w fun e w' => ∃ (ov v' : Value) (R' : List UInt8) (a' : Nat), e = .returned (.tuple #[ov, .int .i64 0]) ∧ WinAt w' base b k S v' R' a' ∧
      content R' a' = lastN S (content R a ++ cyc (content R a) back n) ∧ OwnB w' 5 w.heap.size ov (cyc (content R a) back n) ∧ Frm (fun x => x = b ∨ v.ownBlock = some x) w w' ∧
      (v'.ownBlock = v.ownBlock ∨ ∃ g, v'.ownBlock = some g ∧ w.heap.size ≤ g ∧ ov.ownBlock ≠ some g) := by
  obtain ⟨A0, k0, rfl, hc0, hm0, hr0⟩ := hw.o.slice
  have c0 : w.cell? ⟨b, 0, none⟩ = some (.slice A0 R.length k0) := by rw [hw.p.cell]; rfl
  have hRS := hw.n
  have haS := hw.lt
  have HW := Lib.hid hw
  have HR := Lib.hid hr0
  obtain ⟨m, hm⟩ : ∃ m : Nat, min (back : Int) (n : Int) = m := ⟨min back n, by omega⟩
  have f1 := fun w => min2_int (P := Tryz.prog) #[3, 3] 3 _ _ _ hm w
  have hmb : m ≤ back ∧ m ≤ n ∧ (m < n → m = back) := by omega
  have hmk := make_bytes n hn
  clear hm hw hr0
  obtain ⟨m1, m2, m3⟩ := hmb
  have hbl : w.heap.size ≤ (w.alloc (.cells (madeCells #[.int .u8 0] n) 5)).heap.size := by simp
  have O1 := Lib.hid (OwnB.madeN w 5 w.heap.size n (Nat.le_refl _) hn)
  have M0 := Lib.hid hm0
  clear hm0
  have hdq : decide (R.length < back) = false := decide_eq_false (by omega)
  go_enter Tryz.func130, Tryz.ntmps130
  go_wp2_with (go_at_call 113; refine (dropped_no _ _ _ _ _ _ HW.out.p).mono ?_; rintro e w1 ⟨rfl, rfl⟩)
  have B1 := Lib.hid ((Below.refl w.heap.size w).alloc (Nat.le_refl _) (.cells (madeCells #[.int .u8 0] n) 5))
  go_loopw [8, 9] (fun ov iv wr => ∃ t d : Nat, d + t = m ∧ iv = .int .i64 d ∧ OwnB wr 5 w.heap.size ov (cyc (content R a) back t) ∧ Below w.heap.size w wr) (fun _ iv _ => (intOf iv).toNat)
  case atStart => exact ⟨0, m, by omega, rfl, by simpa [cyc] using O1.out, B1.out⟩
  case round =>
    obtain ⟨t, d, htd, rfl, hown, hbe⟩ := hrel
    have OW := Lib.hid hown
    have BE := Lib.hid hbe
    have hbt : b < w.heap.size := HW.out.p.lt
    clear hown hbe hmk O1 B1 hbl
    by_cases hd : 0 < d
    · have PW := Lib.hid (HW.out.p.below BE.out hbt)
      have RW := Lib.hid ((HR.out.below BE.out).more BE.out.size)
      have hx : R.getD ((a + R.length - (back - t)) % R.length) 0 = (content R a).getD ((content R a).length - back + t) 0 := by
        rw [content_at (by have := HW.out.z; by_cases hh : R.length < S; have := this hh; omega; omega) (by omega) (by omega), content_length]
        congr 1; omega
      have HX := Lib.hid hx
      have hdpos : (0 : Int) < (d : Int) := by omega
      have hcl : t < back := by omega
      clear hx
      go_wp2_with (first
        | (go_at_call 141
           refine (at_num b k a S k0 (back - t) A0 R _ wr PW.out RW.out (by omega) (by omega) (by omega) (by omega) (by omega)).mono ?_
           rintro e w2 ⟨rfl, dd, rfl⟩
           rw [HX.out])
        | (at_builtin; refine wpList_append_bytes _ rfl (.tmp 59) (.tmp 61) 22 rfl 5 w.heap.size Tryz.underlying22 Tryz.info_u8 u8 (cyc (content R a) back t) rfl ?own1 (some ⟨wr.heap.size, 0, none⟩) 1 1 (wr.heap.size + 1) [(content R a).getD ((content R a).length - back + t) 0] rfl rfl ?row1 ?len1 ?base1 ?next1)
        | go_in)
      case own1 => exact (OW.out.drewN _).alloc _
      case row1 => intro _; exact ⟨wr.heap.size, 0, rfl, by simp, fun j hj => by
          obtain rfl : j = 0 := by simpa using hj
          refine ((Pts.new (wr.drewN _) _ _).cell 0).trans ?_; simp [byteV]⟩
      case len1 => rw [cyc_length]; simp; omega
      case base1 => have := BE.out.size; simp; omega
      case next1 =>
        intro v3 w3 hown3 hfrm3 hnew3
        have hb3 : Below w.heap.size w w3 := ((below_drewN BE.out _).alloc BE.out.size _).trans (hfrm3.below (B := w.heap.size) ((below_drewN BE.out _).alloc BE.out.size _).size (fun q hq => (OW.out.lt hq).1))
        have ecs := cyc_snoc (C := content R a) hcl
        rw [List.getD_eq_getElem?_getD] at ecs
        rw [ecs] at hown3
        clear ecs
        have B3 := Lib.hid hb3
        have O3 := Lib.hid hown3
        clear hown3 hfrm3 hnew3 hb3
        go_wp2
        exact ⟨⟨t + 1, d - 1, by omega, by go_num, O3.out, B3.out⟩, by simp [intOf]; omega⟩
    · have hd1 : (d : Int) ≤ 0 := by omega
      have htm : t = m := by omega
      have O2 := Lib.hid (htm ▸ OW.out)
      clear f1 OW
      go_wp2
      go_loopg [8] n (fun gn ov wq => ∃ L : Nat, n - L ≤ gn ∧ m ≤ L ∧ L ≤ n ∧ (L < n → L % back = 0) ∧ OwnB wq 5 w.heap.size ov (cyc (content R a) back L) ∧ Below w.heap.size w wq)
      case atStart => exact ⟨m, by omega, Nat.le_refl _, m2, fun h => by rw [m3 h]; exact Nat.mod_self _, O2.out, BE.out⟩
      case round =>
        obtain ⟨L, hgn, hmL, hLn, hLm, hown, hbe⟩ := hrel
        have OL := Lib.hid hown
        have BL := Lib.hid hbe
        obtain ⟨A2, c2, rfl, hc2, hm2, hr2⟩ := hown.slice
        rw [cyc_length] at hc2 hown OL
        rw [cyc_length]
        have R2 := Lib.hid hr2
        have M2 := Lib.hid hm2
        have LM := Lib.hid hLm
        clear hown hbe hr2 hm2 hLm BE O2
        by_cases hlt : L < n
        · have hmod := LM.out hlt
          have hbL : back ≤ L := by have := m3 (by omega); omega
          obtain ⟨x, hx⟩ : ∃ x : Nat, min (L : Int) ((n : Int) - L) = x := ⟨min L (n - L), by omega⟩
          have f2 := fun w => min2_int (P := Tryz.prog) #[3, 3] 3 _ _ _ hx w
          obtain ⟨Q, hQ⟩ : ∃ Q, x / back = Q := ⟨_, rfl⟩
          obtain ⟨K, hK⟩ : ∃ K, Q * back = K := ⟨_, rfl⟩
          have hKx : K ≤ x := by rw [← hK, ← hQ]; exact Nat.div_mul_le_self _ _
          have hq0 : (x : Int) / (back : Int) = (Q : Int) := by rw [← hQ]; exact (Int.natCast_ediv x back).symm
          have hq1 : (Q : Int) * (back : Int) = (K : Int) := by rw [← hK]; exact (Int.natCast_mul Q back).symm
          have hQx : Q ≤ x := by rw [← hQ]; exact Nat.div_le_self _ _
          have hne : ((back : Int) == 0) = false := beq_eq_false_iff_ne.2 (by omega)
          have hKm : K % back = 0 := by rw [← hK]; exact Nat.mul_mod_left _ _
          have KM := Lib.hid hKm
          have hK0 : K = 0 → n - L < back := by
            intro h
            rw [← hK] at h
            rcases Nat.mul_eq_zero.1 h with h | h
            · rw [h] at hQ
              have := (Nat.div_eq_zero_iff_lt (by omega)).1 hQ
              omega
            · omega
          have K0 := Lib.hid hK0
          have HM := Lib.hid hmod
          have hxle : x ≤ L ∧ x ≤ n - L := by omega
          clear hQ hK hx hKm hK0 hmod
          by_cases hKz : K = 0
          · obtain ⟨y, hy⟩ : ∃ y : Nat, min (back : Int) ((n : Int) - L) = y := ⟨min back (n - L), by omega⟩
            have f3 := fun w => min2_int (P := Tryz.prog) #[3, 3] 3 _ _ _ hy w
            have hy2 : y = n - L := by have := K0.out hKz; omega
            have hyL : y ≤ L := by omega
            have hsl := fun w => slice_to A2 L c2 y hyL hc2 w
            have hk1 : ((K : Int) == 0) = true := beq_iff_eq.2 (by omega)
            have htk : y = ((cyc (content R a) back L).take y).length := by rw [List.length_take, cyc_length]; omega
            have HTK := Lib.hid htk
            have Y2 := Lib.hid hy2
            clear hy htk hy2
            go_wp2_with (at_builtin; refine wpList_append_bytes _ rfl (.tmp 86) (.tmp 89) 22 rfl 5 w.heap.size Tryz.underlying22 Tryz.info_u8 (.slice A2 L c2) (cyc (content R a) back L) rfl ?own2 A2 y c2 wr.heap.size ((cyc (content R a) back L).take y) rfl HTK.out ?row2 ?len2 ?base2 ?next2)
            case own2 => exact OL.out
            case row2 => exact R2.out.take y
            case len2 => rw [← HTK.out, cyc_length]; omega
            case base2 => exact BL.out.size
            case next2 =>
              intro v3 w3 hown3 hfrm3 hnew3
              have hb3 := BL.out.trans (hfrm3.below (B := w.heap.size) BL.out.size (fun q hq => (OL.out.lt hq).1))
              rw [cyc_more (by omega) HM.out hyL] at hown3
              obtain ⟨A3, c3, rfl, hc3, hm3, hr3⟩ := hown3.slice
              rw [cyc_length] at hown3
              have B3 := Lib.hid hb3
              have O3 := Lib.hid hown3
              clear hown3 hfrm3 hnew3 hb3 hr3
              rw [cyc_length]
              go_wp2
              go_roundg (n - (L + y))
              case measure => have := Y2.out; omega
              case rel => exact ⟨L + y, by omega, by omega, by have := Y2.out; omega, fun h => by have := Y2.out; omega, O3.out, B3.out⟩
          · have hk1 : ((K : Int) == 0) = false := beq_eq_false_iff_ne.2 (by omega)
            have hsl := fun w => slice_to A2 L c2 K (by omega) hc2 w
            have htk : K = ((cyc (content R a) back L).take K).length := by rw [List.length_take, cyc_length]; omega
            have HTK := Lib.hid htk
            clear htk
            go_wp2_with (at_builtin; refine wpList_append_bytes _ rfl (.tmp 86) (.tmp 89) 22 rfl 5 w.heap.size Tryz.underlying22 Tryz.info_u8 (.slice A2 L c2) (cyc (content R a) back L) rfl ?own3 A2 K c2 wr.heap.size ((cyc (content R a) back L).take K) rfl HTK.out ?row3 ?len3 ?base3 ?next3)
            case own3 => exact OL.out
            case row3 => exact R2.out.take K
            case len3 => rw [← HTK.out, cyc_length]; omega
            case base3 => exact BL.out.size
            case next3 =>
              intro v3 w3 hown3 hfrm3 hnew3
              have hb3 := BL.out.trans (hfrm3.below (B := w.heap.size) BL.out.size (fun q hq => (OL.out.lt hq).1))
              rw [cyc_more (by omega) HM.out (by omega)] at hown3
              obtain ⟨A3, c3, rfl, hc3, hm3, hr3⟩ := hown3.slice
              rw [cyc_length] at hown3
              have B3 := Lib.hid hb3
              have O3 := Lib.hid hown3
              clear hown3 hfrm3 hnew3 hb3 hr3
              rw [cyc_length]
              go_wp2
              go_roundg (n - (L + K))
              case measure => omega
              case rel => exact ⟨L + K, by omega, by omega, by omega, fun h => by rw [Nat.add_mod, HM.out, KM.out]; simp, O3.out, B3.out⟩
        · obtain rfl : L = n := by omega
          have hfB : Frm (fun _ => False) w wr := Frm.of_below BL.out
          have hWB : WinAt wr base b k S (.slice A0 R.length k0) R a := ⟨HW.out.p.frm hfB (by simp), HW.out.o.frm hfB (by simp), HW.out.n, HW.out.lt, HW.out.z⟩
          have hOff : BOff (fun x => x = b ∨ (Value.slice A0 R.length k0).ownBlock = some x) A2 (cyc (content R a) back L) := by
            intro h0 ad e hk
            have h5 := (OL.out.lt (k := ad.block) (by rw [e]; rfl)).1
            rcases hk with hk | hk
            · omega
            · have := (HW.out.o.lt hk).2; omega
          have WB := Lib.hid hWB
          have FB := Lib.hid hfB
          have OF := Lib.hid hOff
          clear hWB hfB hOff
          go_wp2_with (go_at_call 97
                       refine (put_any base b k S a c2 wr.heap.size L (.slice A0 R.length k0) R A2 (cyc (content R a) back L) wr WB.out (cyc_length _ _ _).symm R2.out OF.out (by rw [cyc_length]; exact hc2) M2.out (by rw [cyc_length]; exact hn) (Nat.le_trans hbase BL.out.size) hS2 (Nat.le_refl _)).mono ?_
                       rintro e w5 ⟨v', R', a', rfl, hw5, hc5, hf5, hn5⟩)
          go_ret2
          refine ⟨_, v', R', a', rfl, hw5, hc5, OL.out.frm hf5 (fun q hq hk => ?_), (FB.out.mono (fun _ _ h => h.elim)).trans hf5, ?_⟩
          · have h5 := (OL.out.lt hq).1
            rcases hk with hk | hk
            · omega
            · have := (HW.out.o.lt hk).2; omega
          · rcases hn5 with h | h
            · exact .inl h
            · exact .inr ⟨_, h, BL.out.size, fun e => by have := (OL.out.lt e).2; omega⟩
end Go.Proofs.YtgahfpflhhfhfaaGreat

/- The contracts of the window: what Copy refuses, Drop. -/
namespace Go.Proofs.YtgahfpflhhfhfaaGreat
open Go.RowKit Win
set_option linter.unusedVariables false
set_option linter.unusedSimpArgs false

theorem copy_bad (base b k S a : Nat) (back n : Int) (v : Value) (R : List UInt8) (w : World) (hw : WinAt w base b k S v R a) (hn : 0 ≤ n ∧ n ≤ 16777216) (hb : back < 1 ∨ (R.length : Int) < back) :
    Calls Tryz.prog 130 #[.pointer (some ⟨b, 0, none⟩), .int .i64 back, .int .i64 n] w fun e w' => e = .returned (.tuple #[.slice none 0 0, .int .i64 11]) ∧ w = w' := by
  obtain ⟨A0, k0, rfl, hc0, hm0, hr0⟩ := hw.o.slice
  have c0 : w.cell? ⟨b, 0, none⟩ = some (.slice A0 R.length k0) := by rw [hw.p.cell]; rfl
  have HW := Lib.hid hw
  obtain ⟨n0, n1⟩ := hn
  clear hw hr0 hm0
  have h3 : back < 1 ∨ (1 ≤ back ∧ (R.length : Int) < back) := by omega
  clear hb
  rcases h3 with h | ⟨h, h4⟩
  all_goals
    go_enter Tryz.func130, Tryz.ntmps130
    go_wp2_with (go_at_call 113; refine (dropped_no _ _ _ _ _ _ HW.out.p).mono ?_; rintro e w1 ⟨rfl, rfl⟩)
    go_ret2
    exact ⟨rfl, rfl⟩
end Go.Proofs.YtgahfpflhhfhfaaGreat

/- What the document says of a window of 4; and WindowNil. -/
namespace Go.Proofs.YtgahfpflhhfhfaaGreat
open Go.RowKit Win
set_option linter.unusedVariables false
set_option linter.unusedSimpArgs false

/-- A literal's row: its cells are the bytes (one place behind them bears a mark). -/
def LitAt (w : World) (b : Nat) (bs : List UInt8) : Prop := ∃ T fr, w.heap[b]? = some (.cells (bs.map byteV).toArray T fr)
theorem own_ne {w : World} {T T' base g : Nat} {v : Value} {bs : List UInt8} {c : Array Value} (h : OwnB w T base v bs) (hp : Pts w g c T') (hT : T' ≠ T) : v.ownBlock ≠ some g := by
  intro hq
  rcases h.form with ⟨e, _⟩ | ⟨g', cap, cur, e, _, hp', _⟩
  · rw [e] at hq; cases hq
  · rw [e] at hq
    injection hq with hq
    subst hq
    have e2 := hp'.symm.trans hp
    simp at e2
    exact hT e2.2.symm
end Go.Proofs.YtgahfpflhhfhfaaGreat

/- A window by its content. -/
namespace Go.Proofs.YtgahfpflhhfhfaaGreat
open Go.RowKit Rng Lz Win
set_option linter.unusedVariables false
set_option linter.unusedSimpArgs false
def WinC (w : World) (base wb kb S : Nat) (C : List UInt8) (v : Value) : Prop := ∃ R a, WinAt w base wb kb S v R a ∧ content R a = C
def Mv (w : World) (v v' : Value) : Prop := ∀ q, v'.ownBlock = some q → v.ownBlock = some q ∨ w.heap.size ≤ q
section
variable {w w' : World} {base wb kb S : Nat} {C : List UInt8} {v : Value}
theorem WinC.pts (h : WinC w base wb kb S C v) : ∃ c, Pts w wb c 146 := by obtain ⟨R, a, hw, _⟩ := h; exact ⟨_, hw.p⟩
theorem WinC.own (h : WinC w base wb kb S C v) : ∃ l, OwnB w 5 base v l := by obtain ⟨R, a, hw, _⟩ := h; exact ⟨R, hw.o⟩
theorem WinC.frm {N : Nat → Prop} (h : WinC w base wb kb S C v) (hf : Frm N w w') (hb : ¬ N wb) (hv : ∀ q, v.ownBlock = some q → ¬ N q) : WinC w' base wb kb S C v := by
  obtain ⟨R, a, hw, hc⟩ := h
  exact ⟨R, a, ⟨hw.p.frm hf hb, hw.o.frm hf hv, hw.n, hw.lt, hw.z⟩, hc⟩
theorem WinC.len (h : WinC w base wb kb S C v) : C.length ≤ S := by obtain ⟨R, a, hw, hc⟩ := h; rw [← hc, content_length]; exact hw.n
end
/-- The byte that stands so far behind; 0 where there is none. -/
def atB (C : List UInt8) (back : Nat) : UInt8 := if 1 ≤ back ∧ back ≤ C.length then C.getD (C.length - back) 0 else 0
theorem at_c (base wb kb S back : Nat) (z : Int) (C : List UInt8) (v : Value) (w : World) (h : WinC w base wb kb S C v) (hS : S ≤ 16777216) (hz : z = (back : Int)) :
    Calls Tryz.prog 141 #[.pointer (some ⟨wb, 0, none⟩), .int .i64 z] w fun e w' => (∃ ok, e = .returned (.tuple #[.int .u8 ((atB C back).toNat : Int), .bool ok])) ∧ ∃ d, w' = w.drewN d := by
  subst hz
  obtain ⟨R, a, hw, hc⟩ := h
  have hl : C.length = R.length := by rw [← hc, content_length]
  by_cases hb : 1 ≤ back ∧ back ≤ R.length
  · have hp := hw.p
    have hlt := hw.lt
    have hn := hw.n
    have hz := hw.z
    obtain ⟨A0, k0, rfl, hc0, hm0, hr0⟩ := hw.o.slice
    refine (at_in wb kb a S k0 back A0 R w hp hr0 (by omega) (by omega) hb.1 hb.2).mono ?_
    rintro e w' ⟨rfl, d, rfl⟩
    refine ⟨⟨true, ?_⟩, d, rfl⟩
    have e1 : R.getD ((a + R.length - back) % R.length) 0 = atB C back := by
      unfold atB
      rw [if_pos (by omega), content_at (by by_cases hh : R.length < S; have := hz hh; omega; omega) hb.1 hb.2, hc, hl]
    rw [e1]
  · have hl2 := hw.p
    obtain ⟨A0, k0, rfl, hc0, hm0, hr0⟩ := hw.o.slice
    have hbad : (back : Int) < 1 ∨ (R.length : Int) < (back : Int) := by omega
    have e1 : atB C back = 0 := by unfold atB; rw [if_neg (by omega)]
    rw [e1]
    have c0 : w.cell? ⟨wb, 0, none⟩ = some (.slice A0 R.length k0) := by rw [hw.p.cell]; rfl
    have HW := Lib.hid hw
    clear hw hr0 hm0 hc hl hb hl2 e1
    have h3 : (back : Int) < 1 ∨ (1 ≤ (back : Int) ∧ (R.length : Int) < (back : Int)) := by omega
    clear hbad
    rcases h3 with h | ⟨h, h4⟩
    all_goals
      go_enter Tryz.func141, Tryz.ntmps141
      go_wp2_with (go_at_call 113; refine (dropped_no _ _ _ _ _ _ HW.out.p).mono ?_; rintro e w1 ⟨rfl, rfl⟩)
      go_ret2
      exact ⟨⟨false, rfl⟩, 0, rfl⟩
theorem put_c (base wb kb S c B n : Nat) (C : List UInt8) (v : Value) (A : Option Addr) (bs : List UInt8) (w : World) (h : WinC w base wb kb S C v) (hn : n = bs.length) (hr : BRow w B A bs) (hoff : BOff (fun x => x = wb ∨ v.ownBlock = some x) A bs) (hc : bs.length ≤ c) (hcm : c ≤ maxLen) (hlen : bs.length ≤ 16777216)
    (hbase : base ≤ w.heap.size) (hS2 : S ≤ 16777216) (hB : B ≤ w.heap.size) :
    Calls Tryz.prog 97 #[.pointer (some ⟨wb, 0, none⟩), .slice A n c] w fun e w' => e = .returned (.tuple #[]) ∧ ∃ v', WinC w' base wb kb S (lastN S (C ++ bs)) v' ∧ Frm (fun x => x = wb ∨ v.ownBlock = some x) w w' ∧ Mv w v v' := by
  obtain ⟨R, a, hw, hcn⟩ := h
  refine (put_any base wb kb S a c B n v R A bs w hw hn hr hoff hc hcm hlen hbase hS2 hB).mono ?_
  rintro e w' ⟨v', R', a', rfl, hw', hc', hf, hm⟩
  refine ⟨rfl, v', ⟨R', a', hw', by rw [hc', hcn]⟩, hf, fun q hq => ?_⟩
  rcases hm with e | e
  · exact .inl (e ▸ hq)
  · rw [e] at hq; injection hq with hq; exact .inr (by omega)
/-- What a copy makes of a content; none: refused. -/
theorem copy_c (base wb kb S back n : Nat) (z1 z2 : Int) (C : List UInt8) (v : Value) (w : World) (h : WinC w base wb kb S C v) (hbase : base ≤ w.heap.size) (hS2 : S ≤ 16777216) (hn : n ≤ 16777216) (hz1 : z1 = (back : Int)) (hz2 : z2 = (n : Int)) (h1 : 1 ≤ back) :
    Calls Tryz.prog 130 #[.pointer (some ⟨wb, 0, none⟩), .int .i64 z1, .int .i64 z2] w fun e w' =>
      (back ≤ C.length → ∃ ov v', e = .returned (.tuple #[ov, .int .i64 0]) ∧ WinC w' base wb kb S (lastN S (C ++ cyc C back n)) v' ∧ OwnB w' 5 w.heap.size ov (cyc C back n) ∧ Frm (fun x => x = wb ∨ v.ownBlock = some x) w w' ∧ Mv w v v' ∧ (∀ q, ov.ownBlock = some q → v'.ownBlock ≠ some q)) ∧
      (¬ back ≤ C.length → e = .returned (.tuple #[.slice none 0 0, .int .i64 11]) ∧ w = w') := by
  subst hz1; subst hz2
  obtain ⟨R, a, hw, hcn⟩ := h
  have hl : C.length = R.length := by rw [← hcn, content_length]
  by_cases hb : back ≤ C.length
  · refine (copy_any base wb kb S a back n v R w hw hbase hS2 hn h1 (by omega)).mono ?_
    rintro e w' ⟨ov, v', R', a', rfl, hw', hc', ho, hf, hm⟩
    rw [hcn] at hc' ho
    refine ⟨fun _ => ⟨ov, v', rfl, ⟨R', a', hw', hc'⟩, ho, hf, fun q hq => ?_, fun q hq e => ?_⟩, fun hn => absurd hb hn⟩
    · rcases hm with e | ⟨g, e, hg, _⟩
      · exact .inl (e ▸ hq)
      · rw [e] at hq; injection hq with hq; exact .inr (by omega)
    · rcases hm with e' | ⟨g, e', hg, hne⟩
      · have h2 := (ho.lt hq).1
        have h3 := (hw.o.lt (e' ▸ e)).2
        omega
      · rw [e'] at e; injection e with e; subst e; exact hne hq
  · refine (copy_bad base wb kb S a back n v R w hw (by omega) (.inr (by omega))).mono ?_
    rintro e w' ⟨rfl, rfl⟩
    exact ⟨fun h => absurd h hb, fun _ => ⟨rfl, rfl⟩⟩
end Go.Proofs.YtgahfpflhhfhfaaGreat

/- A reader in memory. -/
namespace Go.Proofs.YtgahfpflhhfhfaaGreat
open Go.RowKit Rng Lz Win
set_option linter.unusedVariables false
set_option linter.unusedSimpArgs false
/-- The blocks of a reader: decoder, its bytes, window, its ledger, the reader; the window's size; from where on the window's and the told bytes' blocks lie. -/
structure RB where
  db : Nat
  rb : Nat
  wb : Nat
  kb : Nat
  xb : Nat
  S : Nat
  bw : Nat
  bt : Nat
theorem Pts.ne_of {w : World} {b b' : Nat} {c c' : Array Value} {T T' : TypeId} (h : Pts w b c T) (h' : Pts w b' c' T') (hT : T ≠ T') : b ≠ b' := by
  rintro rfl
  have e := h.symm.trans h'
  injection e with e
  injection e with e1 e2
  exact hT e2
/-- A reader at work, since world w0: Z holds the blocks that it may write of those that were. -/
structure RdAt (Z : Nat → Prop) (w0 w : World) (k : LK) (g : RB) (total : Int) (st : Nat) (rep : Nat → Nat) (s : CP Dec) (C told : List UInt8) (wv tv : Value) : Prop where
  lz : LzAt (DC g.db g.rb) (DO g.db g.rb) 174 w k st rep s
  win : WinC w g.bw g.wb g.kb g.S C wv
  p : Pts w g.xb #[.pointer (some ⟨k.sb, 0, none⟩), .pointer (some ⟨g.wb, 0, none⟩), .pointer (some ⟨g.db, 0, none⟩), .int .i64 total, tv] 215
  o : OwnB w 5 g.bt tv told
  ne : ∀ q, wv.ownBlock = some q → tv.ownBlock ≠ some q
  nr : g.rb ≠ g.wb ∧ g.rb ≠ g.xb ∧ wv.ownBlock ≠ some g.rb ∧ tv.ownBlock ≠ some g.rb ∧ g.rb < w.heap.size
  bs : g.bw ≤ w.heap.size ∧ g.bt ≤ w.heap.size
  z : ∀ q, (q = g.db ∨ q = g.rb ∨ q = k.sb ∨ q = k.lb ∨ q = g.wb ∨ q = g.xb ∨ wv.ownBlock = some q ∨ tv.ownBlock = some q) → q < w0.heap.size → Z q
  f : Frm Z w0 w
section
variable {Z : Nat → Prop} {w0 w w' : World} {k : LK} {g : RB} {total : Int} {st : Nat} {rep : Nat → Nat} {s : CP Dec} {C told : List UInt8} {wv tv : Value}
theorem RdAt.dpts (h : RdAt Z w0 w k g total st rep s C told wv tv) : ∃ c, Pts w g.db c 223 := by
  exact DC.pts h.lz.c
theorem RdAt.lzStep {st' : Nat} {rep' : Nat → Nat} {s' : CP Dec} (h : RdAt Z w0 w k g total st rep s C told wv tv) (hl : LzAt (DC g.db g.rb) (DO g.db g.rb) 174 w' k st' rep' s') (hf : Frm (Wr (DO g.db g.rb) k) w w') : RdAt Z w0 w' k g total st' rep' s' C told wv tv := by
  obtain ⟨cd, hd⟩ := h.dpts
  obtain ⟨cw, hw⟩ := h.win.pts
  obtain ⟨lw, hwo⟩ := h.win.own
  refine ⟨hl, h.win.frm hf ?_ ?_, h.p.frm hf ?_, h.o.frm hf ?_, h.ne, ⟨h.nr.1, h.nr.2.1, h.nr.2.2.1, h.nr.2.2.2.1, Nat.lt_of_lt_of_le h.nr.2.2.2.2 hf.size⟩, ⟨Nat.le_trans h.bs.1 hf.size, Nat.le_trans h.bs.2 hf.size⟩, h.z, h.f.transW hf ?_⟩
  · rintro ((e | e) | e | e)
    · exact hw.ne_of hd (by decide) e
    · exact h.nr.1 e.symm
    · exact hw.ne_of h.lz.m (by decide) e
    · exact hw.ne_of h.lz.l (by decide) e
  · intro q hq
    rintro ((e | e) | e | e)
    · subst e; exact own_ne hwo hd (by decide) hq
    · subst e; exact h.nr.2.2.1 hq
    · subst e; exact own_ne hwo h.lz.m (by decide) hq
    · subst e; exact own_ne hwo h.lz.l (by decide) hq
  · rintro ((e | e) | e | e)
    · exact h.p.ne_of hd (by decide) e
    · exact h.nr.2.1 e.symm
    · exact h.p.ne_of h.lz.m (by decide) e
    · exact h.p.ne_of h.lz.l (by decide) e
  · intro q hq
    rintro ((e | e) | e | e)
    · subst e; exact own_ne h.o hd (by decide) hq
    · subst e; exact h.nr.2.2.2.1 hq
    · subst e; exact own_ne h.o h.lz.m (by decide) hq
    · subst e; exact own_ne h.o h.lz.l (by decide) hq
  · rintro q ((e | e) | e | e) hq
    · exact h.z q (.inl e) hq
    · exact h.z q (.inr (.inl e)) hq
    · exact h.z q (.inr (.inr (.inl e))) hq
    · exact h.z q (.inr (.inr (.inr (.inl e)))) hq
theorem RdAt.winStep {C' : List UInt8} {wv' : Value} (h : RdAt Z w0 w k g total st rep s C told wv tv) (hw' : WinC w' g.bw g.wb g.kb g.S C' wv') (hf : Frm (fun x => x = g.wb ∨ wv.ownBlock = some x) w w') (hm : Mv w wv wv') : RdAt Z w0 w' k g total st rep s C' told wv' tv := by
  obtain ⟨cd, hd⟩ := h.dpts
  obtain ⟨cw, hw⟩ := h.win.pts
  obtain ⟨lw, hwo⟩ := h.win.own
  have hrb := h.nr.2.2.2.2
  refine ⟨h.lz.frm (DC.keep _ _) hf ?_, hw', h.p.frm hf ?_, h.o.frm hf ?_, ?_, ⟨h.nr.1, h.nr.2.1, ?_, h.nr.2.2.2.1, Nat.lt_of_lt_of_le hrb hf.size⟩, ⟨Nat.le_trans h.bs.1 hf.size, Nat.le_trans h.bs.2 hf.size⟩, ?_, h.f.transW hf ?_⟩
  · rintro q ((e | e) | e | e) (e2 | e2)
    · exact hd.ne_of hw (by decide) (e.symm.trans e2)
    · subst e; exact own_ne hwo hd (by decide) e2
    · exact h.nr.1 (e.symm.trans e2)
    · subst e; exact h.nr.2.2.1 e2
    · exact h.lz.m.ne_of hw (by decide) (e.symm.trans e2)
    · subst e; exact own_ne hwo h.lz.m (by decide) e2
    · exact h.lz.l.ne_of hw (by decide) (e.symm.trans e2)
    · subst e; exact own_ne hwo h.lz.l (by decide) e2
  · rintro (e | e)
    · exact h.p.ne_of hw (by decide) e
    · exact own_ne hwo h.p (by decide) e
  · intro q hq
    rintro (e | e)
    · subst e; exact own_ne h.o hw (by decide) hq
    · exact h.ne q e hq
  · intro q hq ht
    rcases hm q hq with e | e
    · exact h.ne q e ht
    · have := (h.o.lt ht).2; omega
  · intro e
    rcases hm _ e with e2 | e2
    · exact h.nr.2.2.1 e2
    · omega
  · intro q hq hlt
    rcases hq with e | e | e | e | e | e | e | e
    · exact h.z q (.inl e) hlt
    · exact h.z q (.inr (.inl e)) hlt
    · exact h.z q (.inr (.inr (.inl e))) hlt
    · exact h.z q (.inr (.inr (.inr (.inl e)))) hlt
    · exact h.z q (.inr (.inr (.inr (.inr (.inl e))))) hlt
    · exact h.z q (.inr (.inr (.inr (.inr (.inr (.inl e)))))) hlt
    · rcases hm q e with e2 | e2
      · exact h.z q (.inr (.inr (.inr (.inr (.inr (.inr (.inl e2))))))) hlt
      · have := h.f.size; omega
    · exact h.z q (.inr (.inr (.inr (.inr (.inr (.inr (.inr e))))))) hlt
  · rintro q (e | e) hlt
    · exact h.z q (.inr (.inr (.inr (.inr (.inl e))))) hlt
    · exact h.z q (.inr (.inr (.inr (.inr (.inr (.inr (.inl e))))))) hlt
theorem RdAt.frmOut {N : Nat → Prop} (h : RdAt Z w0 w k g total st rep s C told wv tv) (hf : Frm N w w') (hN : ∀ q, N q → w.heap.size ≤ q) : RdAt Z w0 w' k g total st rep s C told wv tv := by
  have hf' : Frm (fun _ => False) w w' := ⟨hf.os, hf.tape, hf.output, hf.size, fun q hq _ => hf.block q hq (fun hn => by have := hN q hn; omega)⟩
  exact ⟨h.lz.later (DC.keep _ _) hf', h.win.frm hf' id (fun _ _ h => h), h.p.frm hf' id, h.o.frm hf' (fun _ _ h => h), h.ne, ⟨h.nr.1, h.nr.2.1, h.nr.2.2.1, h.nr.2.2.2.1, Nat.lt_of_lt_of_le h.nr.2.2.2.2 hf.size⟩, ⟨Nat.le_trans h.bs.1 hf.size, Nat.le_trans h.bs.2 hf.size⟩, h.z, h.f.transW hf' (fun _ h => h.elim)⟩
theorem RdAt.drewN (h : RdAt Z w0 w k g total st rep s C told wv tv) (n : Nat) : RdAt Z w0 (w.drewN n) k g total st rep s C told wv tv := h.frmOut ((Frm.refl (fun _ => False) w).drewN n) (fun _ h => h.elim)
theorem RdAt.alloc (h : RdAt Z w0 w k g total st rep s C told wv tv) (X : Obj) : RdAt Z w0 (w.alloc X) k g total st rep s C told wv tv := h.frmOut ((Frm.refl (fun _ => False) w).alloc X) (fun _ h => h.elim)
theorem RdAt.toldStep {told' : List UInt8} {tv' : Value} {w1 : World} (h : RdAt Z w0 w k g total st rep s C told wv tv) (ho : OwnB w1 5 g.bt tv' told') (hf : Frm (fun x => tv.ownBlock = some x) w w1) (hm : tv'.ownBlock = tv.ownBlock ∨ tv'.ownBlock = some w.heap.size) : RdAt Z w0 (w1.setCell ⟨g.xb, 4, none⟩ tv') k g total st rep s C told' wv tv' := by
  obtain ⟨cd, hd⟩ := h.dpts
  obtain ⟨cw, hw⟩ := h.win.pts
  obtain ⟨lw, hwo⟩ := h.win.own
  have hrb := h.nr.2.2.2.2
  have hmv : ∀ q, tv'.ownBlock = some q → tv.ownBlock = some q ∨ w.heap.size ≤ q := by
    intro q hq
    rcases hm with e | e
    · exact .inl (e ▸ hq)
    · rw [e] at hq; injection hq with hq; exact .inr (by omega)
  have hxlt := h.p.lt
  have hf2 : Frm (fun x => x = g.xb ∨ tv.ownBlock = some x) w (w1.setCell ⟨g.xb, 4, none⟩ tv') := (hf.mono fun q _ e => .inr e).setCell (p := ⟨g.xb, 4, none⟩) (.inl rfl) tv'
  have hx : tv'.ownBlock ≠ some g.xb := by
    intro e
    rcases hmv _ e with e2 | e2
    · exact own_ne h.o h.p (by decide) e2
    · omega
  refine ⟨h.lz.frm (DC.keep _ _) hf2 ?_, h.win.frm hf2 ?_ ?_, (h.p.frm hf (own_ne h.o h.p (by decide))).set 4 tv', ho.other (p := ⟨g.xb, 4, none⟩) hx tv', ?_, ⟨h.nr.1, h.nr.2.1, h.nr.2.2.1, ?_, Nat.lt_of_lt_of_le hrb hf2.size⟩, ⟨Nat.le_trans h.bs.1 hf2.size, Nat.le_trans h.bs.2 hf2.size⟩, ?_, h.f.transW hf2 ?_⟩
  · rintro q ((e | e) | e | e) (e2 | e2)
    · exact hd.ne_of h.p (by decide) (e.symm.trans e2)
    · subst e; exact own_ne h.o hd (by decide) e2
    · exact h.nr.2.1 (e.symm.trans e2)
    · subst e; exact h.nr.2.2.2.1 e2
    · exact h.lz.m.ne_of h.p (by decide) (e.symm.trans e2)
    · subst e; exact own_ne h.o h.lz.m (by decide) e2
    · exact h.lz.l.ne_of h.p (by decide) (e.symm.trans e2)
    · subst e; exact own_ne h.o h.lz.l (by decide) e2
  · rintro (e | e)
    · exact hw.ne_of h.p (by decide) e
    · exact own_ne h.o hw (by decide) e
  · intro q hq
    rintro (e | e)
    · subst e; exact own_ne hwo h.p (by decide) hq
    · exact h.ne q hq e
  · intro q hq ht
    rcases hmv q ht with e | e
    · exact h.ne q hq e
    · have := (hwo.lt hq).2; omega
  · intro e
    rcases hmv _ e with e2 | e2
    · exact h.nr.2.2.2.1 e2
    · omega
  · intro q hq hlt
    rcases hq with e | e | e | e | e | e | e | e
    · exact h.z q (.inl e) hlt
    · exact h.z q (.inr (.inl e)) hlt
    · exact h.z q (.inr (.inr (.inl e))) hlt
    · exact h.z q (.inr (.inr (.inr (.inl e)))) hlt
    · exact h.z q (.inr (.inr (.inr (.inr (.inl e))))) hlt
    · exact h.z q (.inr (.inr (.inr (.inr (.inr (.inl e)))))) hlt
    · exact h.z q (.inr (.inr (.inr (.inr (.inr (.inr (.inl e))))))) hlt
    · rcases hmv q e with e2 | e2
      · exact h.z q (.inr (.inr (.inr (.inr (.inr (.inr (.inr e2))))))) hlt
      · have := h.f.size; omega
  · rintro q (e | e) hlt
    · exact h.z q (.inr (.inr (.inr (.inr (.inr (.inl e)))))) hlt
    · exact h.z q (.inr (.inr (.inr (.inr (.inr (.inr (.inr e))))))) hlt
end
end Go.Proofs.YtgahfpflhhfhfaaGreat

/- A byte that is read: the walk. -/
namespace Go.Proofs.YtgahfpflhhfhfaaGreat
open Go.RowKit Rng Lz Win
set_option linter.unusedVariables false
set_option linter.unusedSimpArgs false
theorem farGo_lt {σ : Type} (co : Cod σ) (base x far : Nat) : ∀ (n m : Nat) (s : CP σ), (farGo co base x far n m s).1 < 2 ^ n * (m + 1)
  | 0, m, s => by show m < 2 ^ 0 * (m + 1); omega
  | n + 1, m, s => by
    have hb := bitAt_le co (base + (1 + far / 2 ^ n % 2) * 256 + m) (x / 2 ^ n % 2) s
    have h1 := farGo_lt co base x far n (2 * m + (bitAt co (base + (1 + far / 2 ^ n % 2) * 256 + m) (x / 2 ^ n % 2) s).1) (bitAt co (base + (1 + far / 2 ^ n % 2) * 256 + m) (x / 2 ^ n % 2) s).2
    have h2 := treeGo_lt co base x n (2 * m + (bitAt co (base + (1 + far / 2 ^ n % 2) * 256 + m) (x / 2 ^ n % 2) s).1) (bitAt co (base + (1 + far / 2 ^ n % 2) * 256 + m) (x / 2 ^ n % 2) s).2
    have h3 : 2 ^ n * (2 * m + (bitAt co (base + (1 + far / 2 ^ n % 2) * 256 + m) (x / 2 ^ n % 2) s).1 + 1) ≤ 2 ^ (n + 1) * (m + 1) := by
      rw [Nat.pow_succ, Nat.mul_assoc]
      exact Nat.mul_le_mul_left _ (by omega)
    unfold farGo
    simp only
    split
    · exact Nat.lt_of_lt_of_le h1 h3
    · exact Nat.lt_of_lt_of_le h2 h3
theorem litAt_lt {σ : Type} (co : Cod σ) (lc lp st total ahead far x : Nat) (s : CP σ) : (litAt co lc lp st total ahead far x s).1 < 256 := by
  unfold litAt
  simp only
  split
  · have := farGo_lt co (4096 + 768 * (total % 2 ^ lp * 2 ^ lc + ahead / 2 ^ (8 - lc))) x far 8 1 s; omega
  · have := treeGo_lt co (4096 + 768 * (total % 2 ^ lp * 2 ^ lc + ahead / 2 ^ (8 - lc))) x 8 1 s; omega
/-- The byte that is read, and what is then. -/
def litOf {σ : Type} (co : Cod σ) (k : LK) (st total : Nat) (rep : Nat → Nat) (C : List UInt8) (s : CP σ) : Nat × CP σ :=
  litAt co k.lc k.lp st total (if 0 < total then (atB C 1).toNat else 0) (if rep 0 < 16777216 then (atB C (rep 0 + 1)).toNat else 0) 0 s
section
variable {Z : Nat → Prop} {w0 w w' : World} {k : LK} {g : RB} {total : Int} {st : Nat} {rep : Nat → Nat} {s : CP Dec} {C told : List UInt8} {wv tv : Value}
theorem RdAt.drew (h : RdAt Z w0 w k g total st rep s C told wv tv) : RdAt Z w0 w.drew k g total st rep s C told wv tv := h.frmOut ((Frm.refl (fun _ => False) w).drew) (fun _ h => h.elim)
theorem RdAt.cells (h : RdAt Z w0 w k g total st rep s C told wv tv) : w.cell? ⟨g.xb, 0, none⟩ = some (.pointer (some ⟨k.sb, 0, none⟩)) ∧ w.cell? ⟨g.xb, 1, none⟩ = some (.pointer (some ⟨g.wb, 0, none⟩)) ∧ w.cell? ⟨g.xb, 2, none⟩ = some (.pointer (some ⟨g.db, 0, none⟩)) ∧
    w.cell? ⟨g.xb, 3, none⟩ = some (.int .i64 total) ∧ w.cell? ⟨g.xb, 4, none⟩ = some tv ∧ w.cell? ⟨k.sb, 4, none⟩ = some (.int .u32 (rep 0)) := by
  refine ⟨by rw [h.p.cell]; rfl, by rw [h.p.cell]; rfl, by rw [h.p.cell]; rfl, by rw [h.p.cell]; rfl, by rw [h.p.cell]; rfl, ?_⟩
  exact (h.lz.hdr (i := 4) (by omega)).1
end
set_option maxRecDepth 100000 in
set_option maxHeartbeats 2000000 in
theorem literal_p (Z : Nat → Prop) (w0 w : World) (k : LK) (g : RB) (total st : Nat) (rep : Nat → Nat) (s : CP Dec) (C told : List UInt8) (wv tv : Value) (h : RdAt Z w0 w k g (total : Int) st rep s C told wv tv)
    (hk : k.Ok) (ht : total < 4611686018427387904) (hst : st < 12) (hrep : rep 0 < 4294967296) (hS : g.S ≤ 16777216) (hlen : told.length ≤ 100000000) :
    Calls Tryz.prog 125 #[.pointer (some ⟨g.xb, 0, none⟩)] w fun e w' => e = .returned (.tuple #[]) ∧ ∃ wv' tv', RdAt Z w0 w' k g (total : Int) (behS st 0) rep (litOf outC k st total rep C s).2 (lastN g.S (C ++ [UInt8.ofNat (litOf outC k st total rep C s).1])) (told ++ [UInt8.ofNat (litOf outC k st total rep C s).1]) wv' tv' := by
  obtain ⟨AH, hAH⟩ : ∃ a, (if 0 < total then (atB C 1).toNat else 0) = a := ⟨_, rfl⟩
  obtain ⟨FA, hFA⟩ : ∃ a, (if rep 0 < 16777216 then (atB C (rep 0 + 1)).toNat else 0) = a := ⟨_, rfl⟩
  obtain ⟨⟨b, s2⟩, hL⟩ : ∃ x, litOf outC k st total rep C s = x := ⟨_, rfl⟩
  have hbl : b < 256 := by
    have := litAt_lt outC k.lc k.lp st total (if 0 < total then (atB C 1).toNat else 0) (if rep 0 < 16777216 then (atB C (rep 0 + 1)).toNat else 0) 0 s
    unfold litOf at hL
    rw [hL] at this
    exact this
  rw [hL]
  dsimp only
  obtain ⟨bb, hbb⟩ : ∃ x : UInt8, UInt8.ofNat b = x := ⟨_, rfl⟩
  have HBN : Hid (bb.toNat = b) := Lib.hid (by rw [← hbb, UInt8.toNat_ofNat']; omega)
  rw [hbb]
  clear hbb
  unfold litOf at hL
  rw [hAH, hFA] at hL
  have hah : AH < 256 := by rw [← hAH]; split; exact (atB C 1).toNat_lt; omega
  have hfa : FA < 256 := by rw [← hFA]; split; exact (atB C (rep 0 + 1)).toNat_lt; omega
  have HH := Lib.hid h
  have HAH := Lib.hid hAH
  have HFA := Lib.hid hFA
  have HL := Lib.hid hL
  have HK := Lib.hid hk
  obtain ⟨d0, d1, d2, d3, d4, d5⟩ := h.cells
  obtain ⟨r0, hr0⟩ : ∃ r, rep 0 = r := ⟨_, rfl⟩
  rw [hr0] at d5 hrep
  have HR0 := Lib.hid hr0
  clear h hAH hFA hL hk hr0
  go_enter Tryz.func125, Tryz.ntmps125
  go_upto_if 9 with fail
  go_cut [2] from 5 (fun v wx => v = .int .u8 AH ∧ RdAt Z w0 wx k g (total : Int) st rep s C told wv tv)
  case first =>
    by_cases h0 : 0 < total
    · have h0i : (0 : Int) < (total : Int) := by omega
      have hA := HAH.out
      rw [if_pos h0] at hA
      go_wp2_with fail
      refine (at_c g.bw g.wb g.kb g.S 1 1 C wv w HH.out.win hS rfl).mono ?_; rintro e w1 ⟨⟨ok, rfl⟩, d, rfl⟩
      rw [hA]
      have H1 := Lib.hid (HH.out.drewN d)
      go_wp2
      go_meet
      case rel => exact ⟨rfl, H1.out⟩
    · have h0i : (total : Int) = 0 := by omega
      have hA := HAH.out
      rw [if_neg h0] at hA
      have h0d : decide (0 < total) = false := decide_eq_false h0
      subst hA
      go_wp2
      go_meet
      case rel => exact ⟨rfl, HH.out⟩
  case rest =>
    obtain ⟨rfl, h1⟩ := hcut
    have H1 := Lib.hid h1
    clear d0 d1 d2 d3 d4 d5
    obtain ⟨d0, d1, d2, d3, d4, d5⟩ := h1.cells
    rw [HR0.out] at d5
    clear h1 HH
    go_upto_if 27 with fail
    go_cut [3] from 5 (fun v wx => v = .int .u8 FA ∧ RdAt Z w0 wx k g (total : Int) st rep s C told wv tv)
    case first =>
      by_cases h0 : r0 < 16777216
      · have h0i : (r0 : Int) < 16777216 := by omega
        have hA := HFA.out
        rw [HR0.out, if_pos h0] at hA
        have hr1 : (r0 : Int) + 1 = ((r0 + 1 : Nat) : Int) := by omega
        obtain ⟨r1, hr1e⟩ : ∃ r1, r0 + 1 = r1 := ⟨_, rfl⟩
        rw [hr1e] at hr1 hA
        have hr1w : IntKind.i64.wrap (r1 : Int) = (r1 : Int) := Go.IntWalk.i64_in _ (by omega)
        have hr0w : IntKind.i64.wrap (r0 : Int) = (r0 : Int) := Go.IntWalk.i64_in _ (by omega)
        have hr1b : r1 ≤ 16777216 := by omega
        have HD := Lib.hid H1.out.drew
        have h0i2 : decide ((r0 : Int) < 16777216) = true := decide_eq_true h0i
        simp only [h0i2]
        clear hr1e h0i h0 h0i2
        go_wp2_with fail
        go_region_with (first
          | (go_at_call 141; refine (at_c g.bw g.wb g.kb g.S r1 r1 C wv _ HD.out.win hS rfl).mono ?_; rintro e w2 ⟨⟨ok, rfl⟩, d, rfl⟩; rw [hA]))
        all_goals
          have H2 := Lib.hid (H1.out.drewN (1 + d))
          go_wp2
          go_meet
          case rel => exact ⟨rfl, H2.out⟩
      · have h0i : ¬ ((r0 : Int) < 16777216) := by omega
        have hA := HFA.out
        rw [HR0.out, if_neg h0] at hA
        subst hA
        have h0i2 : decide ((r0 : Int) < 16777216) = false := decide_eq_false h0i
        simp only [h0i2]
        clear h0i h0
        go_wp2
        go_meet
        case rel => exact ⟨rfl, H1.out⟩
    case rest =>
      obtain ⟨rfl, h2⟩ := hcut
      have H2 := Lib.hid h2
      clear d0 d1 d2 d3 d4 d5
      obtain ⟨d0, d1, d2, d3, d4, d5⟩ := h2.cells
      have HD := Lib.hid h2.drew
      clear h2 H1
      go_upto_region 5 with fail
      go_cut [4] from 5 (fun v wx => ∃ nb : Nat, v = .slice (some ⟨nb, 0, none⟩) 1 1 ∧ RdAt Z w0 wx k g (total : Int) st rep s2 C told wv tv ∧ Pts wx nb #[.int .u8 (b : Int)] 5 ∧ wv.ownBlock ≠ some nb ∧ tv.ownBlock ≠ some nb)
      case first =>
        go_region_with (first
          | (go_at_call 142; refine (lit_p g.db g.rb 174 k st total AH FA rep s _ HD.out.lz HK.out ht hah hfa).mono ?_; rintro e w2 ⟨rfl, h2, f2⟩; rw [HL.out] at h2 ⊢))
        all_goals
          have h3 := HD.out.lzStep h2 f2
          obtain ⟨lw, hwo⟩ := h3.win.own
          have hto := h3.o
          have n1 : wv.ownBlock ≠ some w2.heap.size := fun e => by have := (hwo.lt e).2; omega
          have n2 : tv.ownBlock ≠ some w2.heap.size := fun e => by have := (hto.lt e).2; omega
          have H3 := Lib.hid h3
          clear h2 f2 h3 hwo hto
          go_wp2
          go_meet
          case rel => exact ⟨w2.heap.size, rfl, H3.out.alloc _, Pts.new w2 _ _, n1, n2⟩
      case rest =>
        obtain ⟨nb, rfl, h3, hnb, n1, n2⟩ := hcut
        have H3 := Lib.hid h3
        have NB := Lib.hid hnb
        clear d0 d1 d2 d3 d4 d5 HD H2
        have hbn := HBN.out
        have hrow : ∀ w9 : World, Pts w9 nb #[.int .u8 (b : Int)] 5 → BRow w9 w9.heap.size (some ⟨nb, 0, none⟩) [bb] := fun w9 hp _ => ⟨nb, 0, rfl, hp.lt, fun j hj => by
          obtain rfl : j = 0 := by simpa using hj
          refine (hp.cell 0).trans ?_
          show some (Value.int .u8 (b : Int)) = some (Value.int .u8 (bb.toNat : Int))
          rw [hbn]⟩
        obtain ⟨cw, hwp⟩ := h3.win.pts
        have nw : nb ≠ g.wb := hnb.ne_of hwp (by decide)
        have nx : nb ≠ g.xb := hnb.ne_of h3.p (by decide)
        have hoff : BOff (fun x => x = g.wb ∨ wv.ownBlock = some x) (some ⟨nb, 0, none⟩) [bb] := by
          intro _ ad had
          injection had with had
          subst had
          rintro (e | e)
          · exact nw e
          · exact n1 e
        have OF := Lib.hid hoff
        have HROW := Lib.hid hrow
        have N12 := Lib.hid (And.intro n1 n2)
        obtain ⟨d0, d1, d2, d3, d4, d5⟩ := h3.cells
        clear h3 hnb hwp hoff hrow n1 n2 hbn d2 d3 d5
        go_wp2_with fail
        refine (put_c g.bw g.wb g.kb g.S 1 _ 1 C wv _ [bb] wc H3.out.win rfl (HROW.out _ NB.out) OF.out (by simp) (by unfold maxLen; omega) (by simp) H3.out.bs.1 hS (Nat.le_refl _)).mono ?_; rintro e w4 ⟨rfl, wv4, hw4, f4, m4⟩
        have H4 := Lib.hid (H3.out.winStep hw4 f4 m4)
        have NB4 := Lib.hid (NB.out.frm f4 (by rintro (e | e); exact nw e; exact N12.out.1 e))
        clear hw4 f4 m4 d0 d1 d4
        obtain ⟨d0, d1, d2, d3, d4, d5⟩ := H4.out.cells
        have hxz := H4.out.p.frozen 4
        obtain ⟨A5, c5, htv, hc5, hm5, _⟩ := H4.out.o.slice
        subst htv
        clear d1 d2 d3 d5
        go_wp2_with (at_builtin; refine wpList_append_bytes _ rfl (.tmp 76) (.tmp 77) 22 rfl 5 g.bt Tryz.underlying22 Tryz.info_u8 (.slice A5 told.length c5) told rfl ?own5 (some ⟨nb, 0, none⟩) 1 1 w4.heap.size [bb] rfl rfl ?row5 ?len5 ?base5 ?next5)
        case own5 => exact H4.out.o
        case row5 => exact HROW.out _ NB4.out
        case len5 => simp; omega
        case base5 => exact H4.out.bs.2
        case next5 =>
          intro v5 w5 hown5 hfrm5 hnew5
          obtain ⟨A6, c6, rfl, -, -, -⟩ := hown5.slice
          have h6 := H4.out.toldStep hown5 hfrm5 hnew5
          have hp5 := H4.out.p.frm hfrm5 (own_ne H4.out.o H4.out.p (by decide))
          have e4 : w5.cell? ⟨g.xb, 4, none⟩ = some (.slice A5 told.length c5) := by rw [hp5.cell]; rfl
          have z4 := hp5.frozen 4
          obtain ⟨L6, hL6⟩ : ∃ L, (told ++ [bb]).length = L := ⟨_, rfl⟩
          rw [hL6] at h6 ⊢
          have H6 := Lib.hid h6
          obtain ⟨q0, -, -, -, -, -⟩ := h6.cells
          clear hown5 hfrm5 hnew5 hp5 h6 hL6 d0 d4
          go_wp2_with fail
          refine (behind_any (DC.keep g.db g.rb) 174 k st 0 rep s2 _ H6.out.lz hst (by omega)).mono ?_; rintro e w7 ⟨rfl, h7, f7⟩
          have H7 := Lib.hid (H6.out.lzStep h7 f7)
          clear h7 f7
          go_wp2
          go_end0
          exact ⟨rfl, wv4, _, H7.out⟩
end Go.Proofs.YtgahfpflhhfhfaaGreat

/- A repeat that is read: the walk. -/
namespace Go.Proofs.YtgahfpflhhfhfaaGreat
open Go.RowKit Rng Lz Win
set_option linter.unusedVariables false
set_option linter.unusedSimpArgs false
/-- A repeat: its length, the state, the distances, what is then. -/
def repOf {σ : Type} (co : Cod σ) (st p : Nat) (rep : Nat → Nat) (s : CP σ) : Nat × Nat × (Nat → Nat) × CP σ :=
  let a := bitAt co (212 + st) 0 s
  if a.1 = 0 then
    let b := bitAt co (248 + st * 16 + p) 0 a.2
    if b.1 = 0 then (1, behS st 3, rep, b.2)
    else ((lenAt co 1354 2 p b.2).1, behS st 2, rep, (lenAt co 1354 2 p b.2).2)
  else
    let c := bitAt co (224 + st) 0 a.2
    if c.1 = 1 then
      let d := bitAt co (236 + st) 0 c.2
      ((lenAt co 1354 2 p d.2).1, behS st 2, takeS rep (2 + d.1), (lenAt co 1354 2 p d.2).2)
    else ((lenAt co 1354 2 p c.2).1, behS st 2, takeS rep 1, (lenAt co 1354 2 p c.2).2)
theorem RdAt.st3 {Z : Nat → Prop} {w0 w : World} {k : LK} {g : RB} {total : Int} {st : Nat} {rep : Nat → Nat} {s : CP Dec} {C told : List UInt8} {wv tv : Value} (h : RdAt Z w0 w k g total st rep s C told wv tv) : w.cell? ⟨k.sb, 3, none⟩ = some (.int .i64 st) := (h.lz.hdr (i := 3) (by omega)).1
set_option maxRecDepth 100000 in
set_option maxHeartbeats 2000000 in
theorem repeated_p (Z : Nat → Prop) (w0 w : World) (k : LK) (g : RB) (total : Int) (st p : Nat) (rep : Nat → Nat) (s : CP Dec) (C told : List UInt8) (wv tv : Value) (h : RdAt Z w0 w k g total st rep s C told wv tv)
    (hst : st < 12) (hp : p < 16) :
    Calls Tryz.prog 126 #[.pointer (some ⟨g.xb, 0, none⟩), .int .i64 p] w fun e w' => e = .returned (.int .i64 ((repOf outC st p rep s).1 : Nat)) ∧ RdAt Z w0 w' k g total (repOf outC st p rep s).2.1 (repOf outC st p rep s).2.2.1 (repOf outC st p rep s).2.2.2 C told wv tv := by
  obtain ⟨R, hR⟩ : ∃ R, repOf outC st p rep s = R := ⟨_, rfl⟩
  rw [hR]
  unfold repOf at hR
  obtain ⟨⟨a, sa⟩, ha⟩ : ∃ x, bitAt outC (212 + st) 0 s = x := ⟨_, rfl⟩
  rw [ha] at hR
  dsimp only at hR
  have HR := Lib.hid hR
  have HA := Lib.hid ha
  have HH := Lib.hid h
  obtain ⟨d0, d1, d2, -, -, -⟩ := h.cells
  have d3 := h.st3
  have HD := Lib.hid h.drew
  have P0 := Lib.hid (plm k (i := 212 + st) (by omega) (by omega))
  have hsti : (st : Int) < 12 := by omega
  have hpi : (p : Int) < 16 := by omega
  clear h hR ha
  go_enter Tryz.func126, Tryz.ntmps126
  go_upto_region 2 with fail
  go_cut [27] from 7 (fun v wx => ∃ β : Bool, v = .bool β ∧ (β = true ↔ a = 0) ∧ RdAt Z w0 wx k g total st rep sa C told wv tv)
  case first =>
    go_region_with (first
      | (go_at_call 124; refine (lz_bit (obit_any g.db g.rb) HD.out.lz (212 + st) k.sb (212 + st) 0 _ trivial P0.out.1 P0.out.2).mono ?_; rintro e w2 ⟨rfl, h2, f2⟩; rw [HA.out] at h2 ⊢))
    all_goals
      have H2 := Lib.hid (HD.out.lzStep h2 f2)
      clear h2 f2
      go_wp2
      go_meet
      case rel => exact ⟨_, rfl, by simp, H2.out⟩
  case rest =>
    obtain ⟨β, rfl, hβ, h2⟩ := hcut
    have H2 := Lib.hid h2
    clear d0 d1 d2 d3 HD HH
    obtain ⟨d0, d1, d2, -, -, -⟩ := h2.cells
    have d3 := h2.st3
    have HD := Lib.hid h2.drew
    clear h2
    go_upto_if 27 with fail
    go_cut [6] from 7 (fun v wx => ∃ (rep' : Nat → Nat) (s' : CP Dec), ((lenAt outC 1354 2 p s').1, behS st 2, rep', (lenAt outC 1354 2 p s').2) = R ∧ RdAt Z w0 wx k g total st rep' s' C told wv tv)
    case first =>
      by_cases ha0 : a = 0
      · obtain rfl : β = true := hβ.2 ha0
        have hR := HR.out
        rw [if_pos ha0] at hR
        obtain ⟨⟨b, sb⟩, hb⟩ : ∃ x, bitAt outC (248 + st * 16 + p) 0 sa = x := ⟨_, rfl⟩
        rw [hb] at hR
        dsimp only at hR
        have HB := Lib.hid hb
        have HR2 := Lib.hid hR
        have P1 := Lib.hid (plm k (i := 248 + st * 16 + p) (by omega) (by omega))
        clear hR hb hβ ha0 HR
        go_upto_region 3 with fail
        go_cut [43] from 7 (fun v wx => ∃ β : Bool, v = .bool β ∧ (β = true ↔ b = 0) ∧ RdAt Z w0 wx k g total st rep sb C told wv tv)
        case first =>
          go_region_with (first
            | (go_at_call 124; refine (lz_bit (obit_any g.db g.rb) HD.out.lz (248 + st * 16 + p) k.sb (248 + st * 16 + p) 0 _ trivial P1.out.1 P1.out.2).mono ?_; rintro e w2 ⟨rfl, h2, f2⟩; rw [HB.out] at h2 ⊢))
          all_goals
            have H3 := Lib.hid (HD.out.lzStep h2 f2)
            clear h2 f2
            go_wp2
            go_meet
            case rel => exact ⟨_, rfl, by simp, H3.out⟩
        case rest =>
          obtain ⟨β, rfl, hβ, h3⟩ := hcut
          have H3 := Lib.hid h3
          clear d0 d1 d2 d3 HD H2 h3
          by_cases hb0 : b = 0
          · obtain rfl : β = true := hβ.2 hb0
            have hR := HR2.out
            rw [if_pos hb0] at hR
            have HR3 := Lib.hid hR
            clear hR hβ hb0 HR2
            go_wp2_with fail
            refine (behind_any (DC.keep g.db g.rb) 174 k st 3 rep sb _ H3.out.lz hst (by omega)).mono ?_; rintro e w7 ⟨rfl, h7, f7⟩
            have H7 := Lib.hid (H3.out.lzStep h7 f7)
            clear h7 f7
            go_wp2
            go_ret
            rw [← HR3.out]
            exact ⟨rfl, H7.out⟩
          · obtain rfl : β = false := by cases β; rfl; exact absurd (hβ.1 rfl) hb0
            have hR := HR2.out
            rw [if_neg hb0] at hR
            have HR3 := Lib.hid hR
            clear hR hβ hb0 HR2
            go_wp2
            go_meet
            case rel => exact ⟨rep, sb, HR3.out, H3.out⟩
      · obtain rfl : β = false := by cases β; rfl; exact absurd (hβ.1 rfl) ha0
        have hR := HR.out
        rw [if_neg ha0] at hR
        obtain ⟨⟨c, sc⟩, hc⟩ : ∃ x, bitAt outC (224 + st) 0 sa = x := ⟨_, rfl⟩
        rw [hc] at hR
        dsimp only at hR
        have HC := Lib.hid hc
        have HR2 := Lib.hid hR
        have P1 := Lib.hid (plm k (i := 224 + st) (by omega) (by omega))
        clear hR hc hβ ha0 HR
        go_upto_region 7 with fail
        go_cut [60] from 7 (fun v wx => ∃ β : Bool, v = .bool β ∧ (β = true ↔ c = 1) ∧ RdAt Z w0 wx k g total st rep sc C told wv tv)
        case first =>
          go_region_with (first
            | (go_at_call 124; refine (lz_bit (obit_any g.db g.rb) HD.out.lz (224 + st) k.sb (224 + st) 0 _ trivial P1.out.1 P1.out.2).mono ?_; rintro e w2 ⟨rfl, h2, f2⟩; rw [HC.out] at h2 ⊢))
          all_goals
            have H3 := Lib.hid (HD.out.lzStep h2 f2)
            clear h2 f2
            go_wp2
            go_meet
            case rel => exact ⟨_, rfl, by simp; omega, H3.out⟩
        case rest =>
          obtain ⟨β, rfl, hβ, h3⟩ := hcut
          have H3 := Lib.hid h3
          clear d0 d1 d2 d3 HD H2
          obtain ⟨d0, d1, d2, -, -, -⟩ := h3.cells
          have d3 := h3.st3
          have HD := Lib.hid h3.drew
          clear h3
          go_upto_if 60 with fail
          go_cut [6] from 7 (fun v wx => ∃ (n : Nat) (s' : CP Dec), v = .int .i64 n ∧ 1 ≤ n ∧ n ≤ 3 ∧ ((lenAt outC 1354 2 p s').1, behS st 2, takeS rep n, (lenAt outC 1354 2 p s').2) = R ∧ RdAt Z w0 wx k g total st rep s' C told wv tv)
          case first =>
            by_cases hc1 : c = 1
            · obtain rfl : β = true := hβ.2 hc1
              have hR := HR2.out
              rw [if_pos hc1] at hR
              obtain ⟨⟨d, sd⟩, hd⟩ : ∃ x, bitAt outC (236 + st) 0 sc = x := ⟨_, rfl⟩
              rw [hd] at hR
              dsimp only at hR
              have hdl : d ≤ 1 := by have := bitAt_le outC (236 + st) 0 sc; rw [hd] at this; exact this
              have hdw : IntKind.i64.wrap ((2 : Int) + (d : Int)) = (2 : Int) + (d : Int) := Go.IntWalk.i64_in _ (by omega)
              have HDD := Lib.hid hd
              have HR3 := Lib.hid hR
              have P2 := Lib.hid (plm k (i := 236 + st) (by omega) (by omega))
              clear hR hd hβ hc1 HR2
              go_wp2_with fail
              go_region_with (first
                | (go_at_call 124; refine (lz_bit (obit_any g.db g.rb) HD.out.lz (236 + st) k.sb (236 + st) 0 _ trivial P2.out.1 P2.out.2).mono ?_; rintro e w2 ⟨rfl, h2, f2⟩; rw [HDD.out] at h2 ⊢))
              all_goals
                have H4 := Lib.hid (HD.out.lzStep h2 f2)
                clear h2 f2
                go_wp2
                go_meet
                case rel => exact ⟨2 + d, sd, by go_num, by omega, by omega, HR3.out, H4.out⟩
            · obtain rfl : β = false := by cases β; rfl; exact absurd (hβ.1 rfl) hc1
              have hR := HR2.out
              rw [if_neg hc1] at hR
              have HR3 := Lib.hid hR
              clear hR hβ hc1 HR2
              go_wp2
              go_meet
              case rel => exact ⟨1, sc, rfl, by omega, by omega, HR3.out, H3.out⟩
          case rest =>
            obtain ⟨n, s4, rfl, n1, n3, hR, h4⟩ := hcut
            have H4 := Lib.hid h4
            have HR4 := Lib.hid hR
            clear d0 d1 d2 d3 HD H3 hR h4
            go_wp2_with fail
            refine (take_any (DC.keep g.db g.rb) 174 k st n rep s4 _ H4.out.lz ⟨n1, n3⟩).mono ?_; rintro e w5 ⟨rfl, h5, f5⟩
            have H5 := Lib.hid (H4.out.lzStep h5 f5)
            clear h5 f5
            go_wp2
            go_meet
            case rel => exact ⟨_, s4, HR4.out, H5.out⟩
    case rest =>
      obtain ⟨rep5, s5, hR, h5⟩ := hcut
      have HR5 := Lib.hid hR
      have H5 := Lib.hid h5
      clear d0 d1 d2 d3 HD H2 hβ HR hR
      obtain ⟨d0, d1, d2, -, -, -⟩ := h5.cells
      have HD := Lib.hid h5.drew
      obtain ⟨⟨sz, s6⟩, hsz⟩ : ∃ x, lenAt outC 1354 2 p s5 = x := ⟨_, rfl⟩
      have HSZ := Lib.hid hsz
      clear h5 hsz
      go_upto_region 10 with fail
      go_cut [4] from 7 (fun v wx => v = .int .i64 sz ∧ RdAt Z w0 wx k g total st rep5 s6 C told wv tv)
      case first =>
        go_region_with (first
          | (go_at_call 127; refine (lens_p g.db g.rb 174 k st rep5 s5 1354 p _ HD.out.lz (.inr rfl) hp).mono ?_; rintro e w2 ⟨rfl, h2, f2⟩; rw [HSZ.out] at h2 ⊢))
        all_goals
          have H6 := Lib.hid (HD.out.lzStep h2 f2)
          clear h2 f2
          go_wp2
          go_meet
          case rel => exact ⟨rfl, H6.out⟩
      case rest =>
        obtain ⟨rfl, h6⟩ := hcut
        have H6 := Lib.hid h6
        clear d0 d1 d2 HD H5 h6
        go_wp2_with fail
        refine (behind_any (DC.keep g.db g.rb) 174 k st 2 rep5 s6 _ H6.out.lz hst (by omega)).mono ?_; rintro e w7 ⟨rfl, h7, f7⟩
        have H7 := Lib.hid (H6.out.lzStep h7 f7)
        have hR := HR5.out
        rw [HSZ.out] at hR
        clear h7 f7
        go_wp2
        go_ret
        rw [← hR]
        exact ⟨rfl, H7.out⟩
end Go.Proofs.YtgahfpflhhfhfaaGreat

/- An operation that is read: plain, and the walk's beginning. -/
namespace Go.Proofs.YtgahfpflhhfhfaaGreat
open Go.RowKit Rng Lz Win
set_option linter.unusedVariables false
set_option linter.unusedSimpArgs false
/-- An operation behind the first bit (1): its length, the state, the distances, what is then. -/
def opOf {σ : Type} (co : Cod σ) (st p : Nat) (rep : Nat → Nat) (s : CP σ) : Nat × Nat × (Nat → Nat) × CP σ :=
  let b := bitAt co (200 + st) 0 s
  if b.1 = 1 then repOf co st p rep b.2
  else
    let l := lenAt co 840 2 p b.2
    let d := distAt co 0 l.1 l.2
    (l.1, behS st 1, (fun j => if j = 0 then d.1 else shiftN rep 3 j), d.2)
theorem lenAt_lt {σ : Type} (co : Cod σ) (base n p : Nat) (s : CP σ) : 2 ≤ (lenAt co base n p s).1 ∧ (lenAt co base n p s).1 ≤ 300 := by
  unfold lenAt
  simp only
  split
  · have := treeAt_lt co (base + 2 + p * 8) 3 (n - 2) (bitAt co base (b2n (decide (10 ≤ n))) s).2 (by omega)
    simp only; omega
  · split
    · have := treeAt_lt co (base + 130 + p * 8) 3 (n - 10) (bitAt co (base + 1) (b2n (decide (18 ≤ n))) (bitAt co base (b2n (decide (10 ≤ n))) s).2).2 (by omega)
      simp only; omega
    · have := treeAt_lt co (base + 258) 8 (n - 18) (bitAt co (base + 1) (b2n (decide (18 ≤ n))) (bitAt co base (b2n (decide (10 ≤ n))) s).2).2 (by omega)
      simp only; omega
set_option maxRecDepth 100000 in
set_option maxHeartbeats 2000000 in
theorem step_lit (Z : Nat → Prop) (w0 w : World) (k : LK) (g : RB) (total st : Nat) (room : Int) (rep : Nat → Nat) (s sa : CP Dec) (C told : List UInt8) (wv tv : Value) (h : RdAt Z w0 w k g (total : Int) st rep s C told wv tv)
    (hk : k.Ok) (ht : total < 4611686018427387904) (hst : st < 12) (hrep : rep 0 < 4294967296) (hS : g.S ≤ 16777216) (hlen : told.length ≤ 100000000) (p : Nat) (hp : total % 2 ^ k.pb = p) (ha : bitAt outC (8 + st * 16 + p) 0 s = (0, sa)) :
    Calls Tryz.prog 116 #[.pointer (some ⟨g.xb, 0, none⟩), .int .i64 room] w fun e w' => e = .returned (.tuple #[]) ∧ ∃ wv' tv', RdAt Z w0 w' k g (total : Int) (behS st 0) rep (litOf outC k st total rep C sa).2 (lastN g.S (C ++ [UInt8.ofNat (litOf outC k st total rep C sa).1])) (told ++ [UInt8.ofNat (litOf outC k st total rep C sa).1]) wv' tv' := by
  have hp16 : p < 16 := by
    have h1 : 2 ^ k.pb ≤ 2 ^ 4 := Nat.pow_le_pow_right (by omega) hk.b
    have h2 : total % 2 ^ k.pb < 2 ^ k.pb := Nat.mod_lt _ (Nat.lt_of_lt_of_le (by omega) (Nat.one_le_two_pow))
    omega
  have HA := Lib.hid ha
  have HH := Lib.hid h
  have HK := Lib.hid hk
  have HPL := Lib.hid (place_any 174 k st total rep s w h.lz hk ht)
  rw [hp] at HPL
  obtain ⟨d0, d1, d2, dt, -, -⟩ := h.cells
  have d3 := h.st3
  have HD := Lib.hid h.drew
  have P0 := Lib.hid (plm k (i := 8 + st * 16 + p) (by omega) (by omega))
  have hsti : (st : Int) < 12 := by omega
  have hpi : (p : Int) < 16 := by omega
  clear h ha hk hp
  go_enter Tryz.func116, Tryz.ntmps116
  go_wp2_with fail
  refine HPL.out.mono ?_; rintro e w1 ⟨rfl, rfl⟩
  go_upto_region 2 with fail
  go_cut [36] from 9 (fun v wx => v = .bool true ∧ RdAt Z w0 wx k g (total : Int) st rep sa C told wv tv)
  case first =>
    go_region_with (first
      | (go_at_call 124; refine (lz_bit (obit_any g.db g.rb) HD.out.lz (8 + st * 16 + p) k.sb (8 + st * 16 + p) 0 _ trivial P0.out.1 P0.out.2).mono ?_; rintro e w2 ⟨rfl, h2, f2⟩; rw [HA.out] at h2 ⊢))
    all_goals
      have H2 := Lib.hid (HD.out.lzStep h2 f2)
      clear h2 f2
      go_wp2
      go_meet
      case rel => exact ⟨by simp, H2.out⟩
  case rest =>
    obtain ⟨rfl, h2⟩ := hcut
    have H2 := Lib.hid h2
    clear h2 d0 d1 d2 d3 dt HD HH
    go_wp2_with fail
    refine (literal_p Z w0 _ k g total st rep sa C told wv tv H2.out HK.out ht hst hrep hS hlen).mono ?_; rintro e w3 ⟨rfl, h3⟩
    have H3 := Lib.hid h3
    clear h3
    go_wp2
    first | go_end0 | (refine bodyPost_ret (results_none rfl _ _ _) rfl ?_)
    exact ⟨rfl, H3.out⟩
end Go.Proofs.YtgahfpflhhfhfaaGreat

/- append of bytes, as one step of a region that draws its order. Over any program. -/
namespace Go.Proofs.YtgahfpflhhfhfaaGreat
open Go.RowKit
theorem stepR_append_bytes {P : Program} (w : World) {ops : Array Oper} {o : Oper} {a : Act} {K : Act → World → Prop} {Q : Exit → Act → World → Prop} {E : Prop} (hg : o.guard = none) (s x : Operand) (t : TypeId)
    (ho : o.op = .call { callee := .builtin .append, args := #[s, x], argTypes := #[t, t] })
    (T base : Nat) (ht : P.underlying t = some (.slice T)) (hinfo : (P.info? T).map (fun i => (i.zero, i.size, i.bytes)) = some (some (.int .u8 0), 1, 1))
    (v : Value) (bs : List UInt8) (hs : a.eval s = v) (hown : OwnB w T base v bs) (A : Option Addr) (m c B : Nat) (news : List UInt8) (hx : a.eval x = .slice A m c) (hm : m = news.length) (hnews : BRow w B A news)
    (hlen : bs.length + news.length ≤ 140737488355328) (hbase : base ≤ w.heap.size)
    (h : ∀ v' w', OwnB w' T base v' (bs ++ news) → Frm (fun k => v.ownBlock = some k) w w' → (v'.ownBlock = v.ownBlock ∨ v'.ownBlock = some w.heap.size) → K (a.put o.dst v') w') :
    if Region.wanted o (yielded ops a.tmps) = true then Oper.wp P o a w K Q else E := by
  have hw : Region.wanted o (yielded ops a.tmps) = true := by simp [Region.wanted, hg]
  rw [if_pos hw]
  exact wp_append_bytes w s x t ho T base ht hinfo v bs hs hown A m c B news hx hm hnews hlen hbase h
end Go.Proofs.YtgahfpflhhfhfaaGreat

/- A decoder that is made. -/
namespace Go.Proofs.YtgahfpflhhfhfaaGreat
open Go.RowKit Rng
set_option linter.unusedVariables false
set_option linter.unusedSimpArgs false
theorem slice_fromR (A : Option Addr) (n c f : Nat) (hf : f ≤ n) (hn : n ≤ c) (w : World) :
    (Instr.sliceAt 22 (.slice A n c) (some (.int .i64 (f : Int))) none none).run Tryz.prog w = .ok (.slice (if c = f then A else A.map (·.add f)) (n - f) (c - f)) w := by
  by_cases hcf : c = f
  · simp [go_sem, hcf]
    intro h; omega
  · simp [go_sem, hcf]
    intro h; omega
theorem or_at {x y : Nat} (i : Nat) (hx : x % 2 ^ i = 0) (hy : y < 2 ^ i) (h : x + y < 4294967296) : bits .or .u32 (x : Int) (y : Int) = ((x + y : Nat) : Int) := by
  have e1 : x < Num.M32 := by show x < 4294967296; omega
  have e2 : y < Num.M32 := by show y < 4294967296; omega
  have h1 := Num.or32 e1 e2
  have h3 := Nat.shiftLeft_add_eq_or_of_lt (a := x / 2 ^ i) (b := y) (i := i) hy
  have e : (x / 2 ^ i) <<< i = x := by rw [Nat.shiftLeft_eq]; exact Nat.div_mul_cancel (Nat.dvd_of_mod_eq_zero hx)
  rw [e] at h3
  rw [← h3] at h1
  exact h1
/-- Four bytes, the highest first. -/
def be4 (bs : List UInt8) : Nat := (((bs.getD 1 0).toNat * 256 + (bs.getD 2 0).toNat) * 256 + (bs.getD 3 0).toNat) * 256 + (bs.getD 4 0).toNat
def newDec (bs : List UInt8) : Dec := ⟨bs.drop 5, 4294967295, be4 bs, false⟩
theorem be4_lt (bs : List UInt8) : be4 bs < 4294967296 := by
  unfold be4
  have h1 := (bs.getD 1 0).toNat_lt
  have h2 := (bs.getD 2 0).toNat_lt
  have h3 := (bs.getD 3 0).toNat_lt
  have h4 := (bs.getD 4 0).toNat_lt
  omega
theorem newDec_fits (bs : List UInt8) : (newDec bs).Fits := ⟨by show 4294967295 < 4294967296; omega, be4_lt bs⟩
/-- What is told of bytes that are no coder's. -/
def newErr (bs : List UInt8) : Int := if bs.length < 5 then 10 else if bs.getD 0 0 = 0 then 0 else 11
theorem dnew_bad_p (A : Option Addr) (bs : List UInt8) (n c B : Nat) (w : World) (hn : n = bs.length) (hr : BRow w B A bs) (hc : bs.length ≤ c) (hcm : c ≤ maxLen) (h : newErr bs ≠ 0) :
    Calls Tryz.prog 114 #[.slice A n c] w fun e w' => e = .returned (.tuple #[.pointer none, .int .i64 (newErr bs)]) ∧ w = w' := by
  subst hn
  by_cases h5 : bs.length < 5
  · have e : newErr bs = 10 := if_pos h5
    rw [e]
    clear h e
    go_enter Tryz.func114, Tryz.ntmps114
    go_wp2
    go_ret2
    exact ⟨rfl, rfl⟩
  · by_cases h0 : bs.getD 0 0 = 0
    · exact absurd (by unfold newErr; rw [if_neg h5, if_pos h0]) h
    · have e : newErr bs = 11 := by unfold newErr; rw [if_neg h5, if_neg h0]
      rw [e]
      obtain ⟨ab, off, rfl, hab, hcell⟩ := hr (by omega)
      have x0 : w.cell? ⟨ab, off, none⟩ = some (.int .u8 ((bs.getD 0 0).toNat : Int)) := hcell 0 (by omega)
      have hne : (((bs.getD 0 0).toNat : Int) == 0) = false := by
        have h9 : (bs.getD 0 0).toNat ≠ 0 := fun e => h0 (UInt8.toNat_inj.1 (by simpa using e))
        exact beq_eq_false_iff_ne.2 (by omega)
      generalize ((bs.getD 0 0).toNat : Int) = x at *
      have hlen : 5 ≤ bs.length := by omega
      clear h e h0 hcell h5 hr
      go_enter Tryz.func114, Tryz.ntmps114
      go_wp2
      go_ret2
      exact ⟨rfl, rfl⟩
/-- So many of the four. -/
def beN (bs : List UInt8) : Nat → Nat
  | 0 => 0
  | j + 1 => beN bs j * 256 + (bs.getD (j + 1) 0).toNat
theorem beN_lt (bs : List UInt8) : ∀ j, beN bs j < 256 ^ j
  | 0 => by simp [beN]
  | j + 1 => by
    have h1 := beN_lt bs j
    have h2 := (bs.getD (j + 1) 0).toNat_lt
    rw [beN, Nat.pow_succ]
    omega
theorem beN_4 (bs : List UInt8) : beN bs 4 = be4 bs := by simp [beN, be4]
set_option maxRecDepth 100000 in
set_option maxHeartbeats 1000000 in
theorem dnew_p (A : Option Addr) (bs : List UInt8) (n c : Nat) (w : World) (hn : n = bs.length) (hr : BRow w w.heap.size A bs) (hc : bs.length ≤ c) (hcm : c ≤ maxLen) (hlen : bs.length ≤ 140737488355328) (h : newErr bs = 0) :
    Calls Tryz.prog 114 #[.slice A n c] w fun e w' => ∃ b rb, e = .returned (.tuple #[.pointer (some ⟨b, 0, none⟩), .int .i64 0]) ∧ DecAt w' 223 b rb (newDec bs) ∧ w.heap.size ≤ b ∧ w.heap.size ≤ rb ∧ Below w.heap.size w w' := by
  subst hn
  have h5 : 5 ≤ bs.length := by
    unfold newErr at h
    by_cases h5 : bs.length < 5
    · rw [if_pos h5] at h; cases h
    · omega
  have h0 : bs.getD 0 0 = 0 := by
    unfold newErr at h
    rw [if_neg (by omega)] at h
    by_cases h0 : bs.getD 0 0 = 0
    · exact h0
    · rw [if_neg h0] at h; cases h
  obtain ⟨ab, off, rfl, hab, hcell⟩ := hr (by omega)
  have x0 : w.cell? ⟨ab, off, none⟩ = some (.int .u8 0) := by have := hcell 0 (by omega); rw [h0] at this; exact this
  have HR := Lib.hid hr
  have HC := Lib.hid hcell
  have hc1 : ¬ c = 1 := by omega
  clear hr hcell h0 h
  go_enter Tryz.func114, Tryz.ntmps114
  go_wp2
  have P0 := Pts.new w #[.slice none 0 0, .int .u32 4294967295, .int .u32 0, .bool false] 223
  have B0 := (Below.refl w.heap.size w).alloc (Nat.le_refl _) (.cells #[.slice none 0 0, .int .u32 4294967295, .int .u32 0, .bool false] 223)
  generalize w.alloc (.cells #[.slice none 0 0, .int .u32 4294967295, .int .u32 0, .bool false] 223) = w0 at *
  have PP := Lib.hid P0
  have BB := Lib.hid B0
  clear P0 B0 x0
  go_loopw [21] (fun iv wr => ∃ j : Nat, iv = .int .i64 j ∧ j ≤ 4 ∧ Pts wr w.heap.size #[.slice none 0 0, .int .u32 4294967295, .int .u32 (beN bs j), .bool false] 223 ∧ w.heap.size < wr.heap.size ∧ Below w.heap.size w wr) (fun iv _ => 4 - (intOf iv).toNat)
  case atStart => exact ⟨0, rfl, by omega, PP.out, PP.out.lt, BB.out⟩
  case round =>
    obtain ⟨j, rfl, hj, hp, hsz, hb⟩ := hrel
    clear PP BB
    by_cases hj4 : j < 4
    · have x1 : wr.cell? ⟨ab, off + 1 + j, none⟩ = some (.int .u8 ((bs.getD (j + 1) 0).toNat : Int)) := by
        rw [hb.cell (p := ⟨ab, off + 1 + j, none⟩) hab, show off + 1 + j = off + (j + 1) by omega]; exact HC.out (j + 1) (by omega)
      have y1 := (bs.getD (j + 1) 0).toNat_lt
      have hl := beN_lt bs j
      have hl3 : beN bs j < 256 ^ 3 := Nat.lt_of_lt_of_le hl (Nat.pow_le_pow_right (by omega) (by omega))
      have hst : beN bs (j + 1) = beN bs j * 256 + (bs.getD (j + 1) 0).toNat := rfl
      generalize (bs.getD (j + 1) 0).toNat = xn at *
      have d2 : wr.cell? ⟨w.heap.size, 2, none⟩ = some (.int .u32 (beN bs j)) := by rw [hp.cell]; rfl
      have g2 := hp.frozen 2
      have o1 : bits .or .u32 ((beN bs j * 256 : Nat) : Int) (xn : Int) = ((beN bs (j + 1) : Nat) : Int) := by
        rw [or_at (x := beN bs j * 256) (y := xn) 8 (by omega) (by omega) (by omega), hst]
      have hwx : IntKind.u32.wrap (xn : Int) = (xn : Int) := by rw [Go.IntWalk.u32_in _ (by omega)]
      have hwz : IntKind.u32.wrap ((beN bs j : Int) * 256) = ((beN bs j * 256 : Nat) : Int) := by rw [Go.IntWalk.u32_in _ (by omega)]; omega
      obtain ⟨z, hz⟩ : ∃ z, beN bs j * 256 = z := ⟨_, rfl⟩
      rw [hz] at o1 hwz
      have HP := Lib.hid hp
      have HB := Lib.hid hb
      clear hl hl3 hst hz hp hb y1
      generalize beN bs j = m at *
      obtain ⟨m2, hm2⟩ : ∃ m2, beN bs (j + 1) = m2 := ⟨_, rfl⟩
      rw [hm2] at o1
      have HM2 := Lib.hid hm2
      clear hm2
      go_wp2
      exact ⟨⟨j + 1, by go_num, by omega, by rw [HM2.out]; exact HP.out.set 2 _, Nat.lt_of_lt_of_le hsz ((Frm.refl (fun _ => True) wr).setCell (p := ⟨w.heap.size, 2, none⟩) trivial _).size, HB.out.setCell (p := ⟨w.heap.size, 2, none⟩) (Nat.le_refl _) _⟩, by simp [intOf]; omega⟩
    · obtain rfl : j = 4 := by omega
      have HP := Lib.hid hp
      have HB := Lib.hid hb
      have d0 : wr.cell? ⟨w.heap.size, 0, none⟩ = some (.slice none 0 0) := by rw [hp.cell]; rfl
      have f0 := hp.frozen 0
      clear hp hb
      go_wp2
      have hsf : ∀ w, (Instr.sliceAt 22 (.slice (some ⟨ab, off, none⟩) bs.length c) (some (.int .i64 5)) none none).run Tryz.prog w = .ok (.slice (if c = 5 then some (⟨ab, off, none⟩ : Addr) else (some (⟨ab, off, none⟩ : Addr)).map (·.add 5)) (bs.length - 5) (c - 5)) w := fun w => slice_fromR (some ⟨ab, off, none⟩) bs.length c 5 h5 hc w
      have hrow := ((HR.out.drop (k := 5) (cap := c) hc).below HB.out)
      have hnl : bs.length - 5 = (bs.drop 5).length := List.length_drop.symm
      have hfit := Lib.hid (newDec_fits bs)
      have hnd : newDec bs = ⟨bs.drop 5, 4294967295, beN bs 4, false⟩ := by rw [beN_4]; rfl
      rw [hnd] at hfit
      have HND := Lib.hid hnd
      generalize (if c = 5 then some (⟨ab, off, none⟩ : Addr) else (some (⟨ab, off, none⟩ : Addr)).map (·.add 5)) = Ad at *
      obtain ⟨nw, hnw⟩ : ∃ nw, bs.drop 5 = nw := ⟨_, rfl⟩
      rw [hnw] at hrow hnl hfit HND
      have ROW := Lib.hid hrow
      have NL := Lib.hid hnl
      have hll : ([] : List UInt8).length + nw.length ≤ 140737488355328 := by rw [← hnl]; simp; omega
      have hbase : w.heap.size ≤ wr.heap.size := by omega
      clear hrow hnl hnd hnw
      go_region_law (refine stepR_append_bytes _ rfl (.tmp 41) (.tmp 43) 22 rfl 5 w.heap.size Tryz.underlying22 Tryz.info_u8 (.slice none 0 0) [] rfl (OwnB.nil _ _ _) Ad (bs.length - 5) (c - 5) w.heap.size nw rfl NL.out (ROW.out.drewN 1) hll hbase ?_; intro v1 w1 hown1 hfrm1 hnew1; rw [List.nil_append] at hown1; obtain ⟨A1, c1, rfl, hc1, hm1, hr1⟩ := hown1.slice; have hp1 := HP.out.drew.frm hfrm1 (fun e => by cases e); have z1 := hp1.frozen 0; have z0 : w1.cell? ⟨w.heap.size, 0, none⟩ = some (.slice none 0 0) := (hp1.cell 0).trans rfl)
      all_goals
        have P4 := Lib.hid (hp1.set 0 (.slice A1 nw.length c1))
        have hbo : BOff (· ≠ wr.heap.size) A1 nw := by
          intro h0 ad e hk
          rcases hnew1 with h9 | h9
          · rw [e] at h9; cases h9
          · rw [e] at h9; injection h9 with h9; exact hk h9
        have F4 := (Frm.refl (· = w.heap.size) w1).setCell (p := ⟨w.heap.size, 0, none⟩) (by rfl) (.slice A1 nw.length c1)
        have R4 := Lib.hid ((hr1.off (hbo.of_ne (by omega)) F4).more F4.size)
        have HBO := Lib.hid hbo
        have B4 := Lib.hid (((HB.out.drew.trans (hfrm1.below HB.out.drew.size (fun k hk => by cases hk))).setCell (p := ⟨w.heap.size, 0, none⟩) (Nat.le_refl _) (.slice A1 nw.length c1)))
        clear hr1 hp1 hown1 hfrm1 hnew1 z0 z1 hbo F4
        go_wp2
        go_ret2
        rw [HND.out]
        exact ⟨w.heap.size, wr.heap.size, rfl, ⟨⟨A1, c1, P4.out, R4.out, HBO.out, hc1, hm1⟩, hfit.out, by omega⟩, Nat.le_refl _, hbase, B4.out⟩
end Go.Proofs.YtgahfpflhhfhfaaGreat

/- Chunks, in plain Lean: an operation, all operations, the end. -/
namespace Go.Proofs.YtgahfpflhhfhfaaGreat
open Go.RowKit Rng Lz Win
set_option linter.unusedVariables false
set_option linter.unusedSimpArgs false
/-- What is known behind some operations: the state, the distances, coder and chances, the window's content. -/
structure RS where
  st : Nat
  rep : Nat → Nat
  s : CP Dec
  C : List UInt8
structure RS.Ok (x : RS) : Prop where
  st : x.st < 12
  rep : ∀ j, x.rep j < 4294967296
/-- An operation: what it tells, what is then; none: it is none. -/
def stepOf (k : LK) (S total room : Nat) (x : RS) : Option (List UInt8 × RS) :=
  let a := bitAt outC (8 + x.st * 16 + total % 2 ^ k.pb) 0 x.s
  if a.1 = 0 then
    let l := litOf outC k x.st total x.rep x.C a.2
    some ([UInt8.ofNat l.1], ⟨behS x.st 0, x.rep, l.2, lastN S (x.C ++ [UInt8.ofNat l.1])⟩)
  else
    let o := opOf outC x.st (total % 2 ^ k.pb) x.rep a.2
    if o.1 ≤ room ∧ o.2.2.1 0 + 1 ≤ x.C.length then some (cyc x.C (o.2.2.1 0 + 1) o.1, ⟨o.2.1, o.2.2.1, o.2.2.2, lastN S (x.C ++ cyc x.C (o.2.2.1 0 + 1) o.1)⟩)
    else none
/-- Operations until n bytes are told. -/
def chunkGo (k : LK) (S total n : Nat) : Nat → List UInt8 → RS → Option (List UInt8 × RS)
  | 0, _, _ => none
  | f + 1, told, x =>
    if n ≤ told.length then some (told, x)
    else match stepOf k S (total + told.length) (n - told.length) x with
      | none => none
      | some (b, y) => chunkGo k S total n f (told ++ b) y
/-- The place as it counts. -/
def totOf (total : Nat) : Nat := if 1099511627776 < total then 1099511627776 + total % 16 else total
theorem totOf_lt (total : Nat) : totOf total < 1099511627792 := by unfold totOf; split <;> omega
/-- A chunk: what it tells, what is then. -/
def chunkOf (k : LK) (S total n st : Nat) (rep : Nat → Nat) (pr : Pr) (C bs : List UInt8) : Option (List UInt8 × RS) :=
  if newErr bs ≠ 0 then none
  else match chunkGo k S (totOf total) n (n + 1) [] ⟨st, rep, ⟨newDec bs, pr⟩, C⟩ with
    | none => none
    | some (told, y) => if y.s.d.fin = (0, 0) then some (told, y) else none
theorem distAt_lt {σ : Type} (co : Cod σ) (d size : Nat) (s : CP σ) : (distAt co d size s).1 < 4294967296 := by
  unfold distAt
  simp only
  split
  · rename_i h; simp only; omega
  · split
    · rename_i h1 h2
      generalize treeAt co (440 + (min size 5 - 2) * 64) 6 (slotOf d) s = t at *
      have hu := backAt_lt co (696 + (2 + t.1 % 2) * 2 ^ (t.1 / 2 - 1) - t.1) (t.1 / 2 - 1) (d - (2 + t.1 % 2) * 2 ^ (t.1 / 2 - 1)) t.2
      have hk : 2 ^ (t.1 / 2 - 1) ≤ 2 ^ 5 := Nat.pow_le_pow_right (by omega) (by omega)
      have hm : (2 + t.1 % 2) * 2 ^ (t.1 / 2 - 1) ≤ 3 * 2 ^ (t.1 / 2 - 1) := Nat.mul_le_mul_right _ (by omega)
      simp only
      omega
    · simp only; omega
theorem takeS_lt {rep : Nat → Nat} (h : ∀ j, rep j < 4294967296) (n : Nat) : ∀ j, takeS rep n j < 4294967296 := by
  intro j
  unfold takeS
  repeat' split
  all_goals first | exact h _ | (unfold shiftN; split <;> exact h _)
theorem shiftN_lt {rep : Nat → Nat} (h : ∀ j, rep j < 4294967296) (n : Nat) : ∀ j, shiftN rep n j < 4294967296 := by
  intro j
  unfold shiftN
  split <;> exact h _
theorem repOf_inv {σ : Type} (co : Cod σ) {st : Nat} (p : Nat) {rep : Nat → Nat} (s : CP σ) (hst : st < 12) (h : ∀ j, rep j < 4294967296) :
    1 ≤ (repOf co st p rep s).1 ∧ (repOf co st p rep s).1 ≤ 300 ∧ (repOf co st p rep s).2.1 < 12 ∧ ∀ j, (repOf co st p rep s).2.2.1 j < 4294967296 := by
  unfold repOf
  simp only
  split
  · split
    · exact ⟨by simp, by simp, show behS st 3 < 12 from behS_lt hst, h⟩
    · have hl := lenAt_lt co 1354 2 p (bitAt co (248 + st * 16 + p) 0 (bitAt co (212 + st) 0 s).2).2
      exact ⟨by simp only; omega, hl.2, show behS st 2 < 12 from behS_lt hst, h⟩
  · split
    · exact ⟨Nat.le_trans (by decide) (lenAt_lt co 1354 2 p _).1, (lenAt_lt co 1354 2 p _).2, show behS st 2 < 12 from behS_lt hst, takeS_lt h _⟩
    · exact ⟨Nat.le_trans (by decide) (lenAt_lt co 1354 2 p _).1, (lenAt_lt co 1354 2 p _).2, show behS st 2 < 12 from behS_lt hst, takeS_lt h _⟩
theorem opOf_inv {σ : Type} (co : Cod σ) {st : Nat} (p : Nat) {rep : Nat → Nat} (s : CP σ) (hst : st < 12) (h : ∀ j, rep j < 4294967296) :
    1 ≤ (opOf co st p rep s).1 ∧ (opOf co st p rep s).1 ≤ 300 ∧ (opOf co st p rep s).2.1 < 12 ∧ ∀ j, (opOf co st p rep s).2.2.1 j < 4294967296 := by
  unfold opOf
  simp only
  split
  · exact repOf_inv co p _ hst h
  · refine ⟨Nat.le_trans (by decide) (lenAt_lt co 840 2 p _).1, (lenAt_lt co 840 2 p _).2, show behS st 1 < 12 from behS_lt hst, fun j => ?_⟩
    simp only
    split
    · exact distAt_lt co 0 _ _
    · exact shiftN_lt h 3 j
theorem stepOf_inv {k : LK} {S total room : Nat} {x y : RS} {b : List UInt8} (hx : x.Ok) (hr : 1 ≤ room) (h : stepOf k S total room x = some (b, y)) : y.Ok ∧ 1 ≤ b.length ∧ b.length ≤ room := by
  unfold stepOf at h
  simp only at h
  split at h
  · injection h with h
    injection h with h1 h2
    subst h1; subst h2
    exact ⟨⟨show behS x.st 0 < 12 from behS_lt hx.st, hx.rep⟩, by simp, by simpa using hr⟩
  · split at h
    · rename_i hg
      injection h with h
      injection h with h1 h2
      subst h1; subst h2
      have hi := opOf_inv outC (total % 2 ^ k.pb) (rep := x.rep) (bitAt outC (8 + x.st * 16 + total % 2 ^ k.pb) 0 x.s).2 hx.st hx.rep
      rw [cyc_length]
      exact ⟨⟨hi.2.2.1, hi.2.2.2⟩, hi.1, hg.1⟩
    · cases h
theorem chunkGo_inv {k : LK} {S total n : Nat} : ∀ (f : Nat) {told t' : List UInt8} {x y : RS}, x.Ok → told.length ≤ n → chunkGo k S total n f told x = some (t', y) → y.Ok ∧ t'.length = n ∧ ∃ b, t' = told ++ b
  | 0, _, _, _, _, _, _, h => by cases h
  | f + 1, told, t', x, y, hx, hl, h => by
    unfold chunkGo at h
    split at h
    · injection h with h
      injection h with h1 h2
      subst h1; subst h2
      exact ⟨hx, by omega, [], by simp⟩
    · cases hs : stepOf k S (total + told.length) (n - told.length) x with
      | none => rw [hs] at h; cases h
      | some p =>
        obtain ⟨b, z⟩ := p
        rw [hs] at h
        simp only at h
        have hi := stepOf_inv hx (by omega) hs
        have hr := chunkGo_inv f hi.1 (by rw [List.length_append]; omega) h
        obtain ⟨h1, h2, b2, h3⟩ := hr
        exact ⟨h1, h2, b ++ b2, by rw [h3, List.append_assoc]⟩
end Go.Proofs.YtgahfpflhhfhfaaGreat

/- LZMA2, in plain Lean: chunks one behind the other; cut, and with something behind. -/
namespace Go.Proofs.YtgahfpflhhfhfaaGreat
open Go.RowKit Rng Win Lz
set_option linter.unusedVariables false
set_option linter.unusedSimpArgs false
/-- What is known between two chunks. -/
structure DS where
  C : List UInt8
  lc : Nat
  lp : Nat
  pb : Nat
  st : Nat
  rep : Nat → Nat
  pr : Pr
  total : Nat
  begun : Bool
  props : Bool
def headN (c : Nat) : Nat := if c = 0 then 1 else if c < 3 then 3 else if c < 128 then 0 else if c < 192 then 5 else 6
def DS.clear (x : DS) : DS := { x with C := [], total := 0, begun := true }
def DS.reset (x : DS) : DS := { x with st := 0, rep := fun _ => 0, pr := fun _ => 1024 }
/-- What a chunk comes tq9: an error, the end, or bytes that it tells, what is known then, what stands behind it. -/
inductive OneR
  | err (e : Nat)
  | fin (rest : List UInt8)
  | told (b : List UInt8) (x : DS) (rest : List UInt8)
def twoB (h : List UInt8) (i : Nat) : Nat := (h.getD i 0).toNat * 256 + (h.getD (i + 1) 0).toNat
/-- The dictionary is thrown away, or not. -/
def DS.dict (x : DS) (c : Nat) : DS := if c = 1 then { x.clear with props := false } else if 224 ≤ c then x.clear else x
/-- Settings, a reset, or neither. -/
def DS.set (x : DS) (c p : Nat) : DS := if 192 ≤ c then { x.reset with lc := p % 9, lp := p / 9 % 5, pb := p / 45, props := true } else if 160 ≤ c then x.reset else x
def badP (p : Nat) : Prop := 224 < p ∨ 4 < p % 9 + p / 9 % 5
instance (p : Nat) : Decidable (badP p) := by unfold badP; infer_instance
def oneLz (S : Nat) (x : DS) (n : Nat) (bs rest : List UInt8) : OneR :=
  match chunkOf ⟨0, 0, x.lc, x.lp, x.pb⟩ S x.total n x.st x.rep x.pr x.C bs with
  | none => .err 11
  | some (t, y) => .told t { x with st := y.st, rep := y.rep, pr := y.s.pr, C := y.C } rest
/-- A chunk behind its head. -/
def oneBody (S : Nat) (x : DS) (c : Nat) (h r : List UInt8) : OneR :=
  if c < 3 then
    if r.length < twoB h 1 + 1 then .err 10
    else .told (r.take (twoB h 1 + 1)) { x.dict c with C := lastN S ((x.dict c).C ++ r.take (twoB h 1 + 1)) } (r.drop (twoB h 1 + 1))
  else if r.length < twoB h 3 + 1 then .err 10
  else if 192 ≤ c ∧ badP (h.getD 5 0).toNat then .err 11
  else oneLz S ((x.dict c).set c (h.getD 5 0).toNat) (twoB h 1 + 1 + c % 32 * 65536) (r.take (twoB h 3 + 1)) (r.drop (twoB h 3 + 1))
/-- A head that may not stand here. -/
def badHead (x : DS) (c : Nat) : Prop := (x.begun = false ∧ c ≠ 1 ∧ c < 224) ∨ (headN c = 5 ∧ x.props = false)
instance (x : DS) (c : Nat) : Decidable (badHead x c) := by unfold badHead; infer_instance
def one (S : Nat) (x : DS) (src : List UInt8) : OneR :=
  if src.length < 1 then .err 10
  else if headN (src.getD 0 0).toNat = 0 then .err 11
  else if src.length < headN (src.getD 0 0).toNat then .err 10
  else if headN (src.getD 0 0).toNat = 1 then .fin (src.drop 1)
  else if badHead x (src.getD 0 0).toNat then .err 11
  else oneBody S x (src.getD 0 0).toNat (src.take (headN (src.getD 0 0).toNat)) (src.drop (headN (src.getD 0 0).toNat))
/-- Chunks up tq9 the end, or an error: what they told; the error, or what stands behind. -/
def d2Go (S most : Nat) : Nat → DS → List UInt8 → List UInt8 → List UInt8 × (Nat ⊕ List UInt8)
  | 0, _, out, _ => (out, .inl 10)
  | f + 1, x, out, src =>
    match one S x src with
    | .err e => (out, .inl e)
    | .fin rest => (out, .inr rest)
    | .told b y rest => if most < out.length + b.length then (out, .inl 3) else d2Go S most f { y with total := y.total + b.length } (out ++ b) rest
def newDS : DS := ⟨[], 3, 0, 2, 0, fun _ => 0, fun _ => 1024, 0, false, false⟩
/-- All chunks. -/
def d2P (S most : Nat) (src : List UInt8) : List UInt8 × (Nat ⊕ List UInt8) := d2Go S most (src.length + 1) newDS [] src
theorem getD_app {p q : List UInt8} {i : Nat} (h : i < p.length) : (p ++ q).getD i 0 = p.getD i 0 := by
  rw [List.getD_eq_getElem?_getD, List.getD_eq_getElem?_getD, List.getElem?_append_left h]
theorem headN_le (c : Nat) : headN c ≤ 6 := by unfold headN; repeat' split
                                               all_goals omega
/-- What an error of the bytes' end is not: it stays, whatever stands behind. -/
def OneR.more (R : OneR) (q : List UInt8) : OneR :=
  match R with
  | .err e => .err e
  | .fin r => .fin (r ++ q)
  | .told b x r => .told b x (r ++ q)
theorem body_more (S : Nat) (x : DS) (c : Nat) (h r q : List UInt8) (hne : oneBody S x c h r ≠ .err 10) : oneBody S x c h (r ++ q) = (oneBody S x c h r).more q := by
  unfold oneBody at hne ⊢
  by_cases h3 : c < 3
  · rw [if_pos h3] at hne ⊢
    rw [if_pos h3]
    by_cases hl : r.length < twoB h 1 + 1
    · rw [if_pos hl] at hne; exact absurd rfl hne
    · rw [if_neg hl, if_neg (by rw [List.length_append]; omega), List.take_append_of_le_length (by omega), List.drop_append_of_le_length (by omega)]
      rfl
  · rw [if_neg h3] at hne ⊢
    rw [if_neg h3]
    by_cases hl : r.length < twoB h 3 + 1
    · rw [if_pos hl] at hne; exact absurd rfl hne
    · rw [if_neg hl, if_neg (by rw [List.length_append]; omega), List.take_append_of_le_length (by omega), List.drop_append_of_le_length (by omega)]
      by_cases hp : 192 ≤ c ∧ badP (h.getD 5 0).toNat
      · rw [if_pos hp, if_pos hp]; rfl
      · rw [if_neg hp, if_neg hp]
        unfold oneLz
        split <;> rfl
theorem one_more (S : Nat) (x : DS) (src q : List UInt8) (hne : one S x src ≠ .err 10) : one S x (src ++ q) = (one S x src).more q := by
  unfold one at hne ⊢
  by_cases h1 : src.length < 1
  · rw [if_pos h1] at hne; exact absurd rfl hne
  rw [if_neg h1] at hne ⊢
  rw [if_neg (show ¬ (src ++ q).length < 1 by rw [List.length_append]; omega), getD_app (by omega)]
  by_cases h2 : headN (src.getD 0 0).toNat = 0
  · rw [if_pos h2, if_pos h2]; rfl
  rw [if_neg h2] at hne ⊢
  rw [if_neg h2]
  by_cases h3 : src.length < headN (src.getD 0 0).toNat
  · rw [if_pos h3] at hne; exact absurd rfl hne
  rw [if_neg h3] at hne ⊢
  rw [if_neg (show ¬ (src ++ q).length < headN (src.getD 0 0).toNat by rw [List.length_append]; omega)]
  by_cases h4 : headN (src.getD 0 0).toNat = 1
  · rw [if_pos h4, if_pos h4, List.drop_append_of_le_length (by omega)]; rfl
  rw [if_neg h4] at hne ⊢
  rw [if_neg h4]
  by_cases h5 : badHead x (src.getD 0 0).toNat
  · rw [if_pos h5, if_pos h5]; rfl
  rw [if_neg h5] at hne ⊢
  rw [if_neg h5, List.take_append_of_le_length (by omega), List.drop_append_of_le_length (by omega)]
  exact body_more S x _ _ _ q hne
/-- A chunk takes bytes from the front. -/
theorem one_front (S : Nat) (x : DS) (src : List UInt8) : (∀ b y r, one S x src = .told b y r → ∃ m, 1 ≤ m ∧ m ≤ src.length ∧ r = src.drop m) ∧ (∀ r, one S x src = .fin r → 1 ≤ src.length ∧ r = src.drop 1) := by
  unfold one
  by_cases h1 : src.length < 1
  · rw [if_pos h1]
    exact ⟨(fun _ _ _ h => by cases h), (fun _ h => by cases h)⟩
  rw [if_neg h1]
  by_cases h2 : headN (src.getD 0 0).toNat = 0
  · rw [if_pos h2]
    exact ⟨(fun _ _ _ h => by cases h), (fun _ h => by cases h)⟩
  rw [if_neg h2]
  by_cases h3 : src.length < headN (src.getD 0 0).toNat
  · rw [if_pos h3]
    exact ⟨(fun _ _ _ h => by cases h), (fun _ h => by cases h)⟩
  rw [if_neg h3]
  by_cases h4 : headN (src.getD 0 0).toNat = 1
  · rw [if_pos h4]
    exact ⟨(fun _ _ _ h => by cases h), (fun _ h => by injection h with h; exact ⟨by omega, h.symm⟩)⟩
  rw [if_neg h4]
  by_cases h5 : badHead x (src.getD 0 0).toNat
  · rw [if_pos h5]
    exact ⟨(fun _ _ _ h => by cases h), (fun _ h => by cases h)⟩
  rw [if_neg h5]
  have hdl : (src.drop (headN (src.getD 0 0).toNat)).length = src.length - headN (src.getD 0 0).toNat := List.length_drop
  unfold oneBody
  by_cases hc : (src.getD 0 0).toNat < 3
  · rw [if_pos hc]
    by_cases hl : (src.drop (headN (src.getD 0 0).toNat)).length < twoB (src.take (headN (src.getD 0 0).toNat)) 1 + 1
    · rw [if_pos hl]
      exact ⟨(fun _ _ _ h => by cases h), (fun _ h => by cases h)⟩
    · rw [if_neg hl]
      exact ⟨(fun _ _ _ h => by injection h with _ _ h; exact ⟨headN (src.getD 0 0).toNat + (twoB (src.take (headN (src.getD 0 0).toNat)) 1 + 1), by omega, by omega, by rw [← h, List.drop_drop]⟩), (fun _ h => by cases h)⟩
  · rw [if_neg hc]
    by_cases hl : (src.drop (headN (src.getD 0 0).toNat)).length < twoB (src.take (headN (src.getD 0 0).toNat)) 3 + 1
    · rw [if_pos hl]
      exact ⟨(fun _ _ _ h => by cases h), (fun _ h => by cases h)⟩
    · rw [if_neg hl]
      by_cases hp : 192 ≤ (src.getD 0 0).toNat ∧ badP ((src.take (headN (src.getD 0 0).toNat)).getD 5 0).toNat
      · rw [if_pos hp]
        exact ⟨(fun _ _ _ h => by cases h), (fun _ h => by cases h)⟩
      · rw [if_neg hp]
        unfold oneLz
        split
        · exact ⟨(fun _ _ _ h => by cases h), (fun _ h => by cases h)⟩
        · exact ⟨(fun _ _ _ h => by injection h with _ _ h; exact ⟨headN (src.getD 0 0).toNat + (twoB (src.take (headN (src.getD 0 0).toNat)) 3 + 1), by omega, by omega, by rw [← h, List.drop_drop]⟩), (fun _ h => by cases h)⟩
/-- With something behind it is the same. -/
theorem go_more (S most : Nat) (q : List UInt8) : ∀ (f g : Nat) (x : DS) (out src : List UInt8) (T r : List UInt8), src.length < f → src.length < g → d2Go S most f x out src = (T, .inr r) → d2Go S most g x out (src ++ q) = (T, .inr (r ++ q))
  | 0, _, _, _, _, _, _, h, _, _ => absurd h (by omega)
  | _, 0, _, _, _, _, _, _, h, _ => absurd h (by omega)
  | f + 1, g + 1, x, out, src, T, r, hf, hg, h => by
    unfold d2Go at h ⊢
    have hm := one_more S x src q
    cases ho : one S x src with
    | err e =>
      rw [ho] at h
      simp only [Prod.mk.injEq, reduceCtorEq, and_false] at h
    | fin rest =>
      rw [ho] at h hm
      rw [hm (by simp)]
      simp only [OneR.more, Prod.mk.injEq, Sum.inr.injEq] at h ⊢
      exact ⟨h.1, by rw [h.2]⟩
    | told b y rest =>
      obtain ⟨m, hm1, hm2, hr⟩ := (one_front S x src).1 b y rest ho
      rw [ho] at h hm
      rw [hm (by simp)]
      simp only [OneR.more] at h ⊢
      by_cases hl : most < out.length + b.length
      · rw [if_pos hl] at h
        simp only [Prod.mk.injEq, reduceCtorEq, and_false] at h
      · rw [if_neg hl] at h ⊢
        have hrl : rest.length = src.length - m := by rw [hr, List.length_drop]
        exact go_more S most q f g _ _ rest T r (by omega) (by omega) h
theorem getD_takeU (l : List UInt8) {m i : Nat} (h : i < m) : (l.take m).getD i 0 = l.getD i 0 := by
  rw [List.getD_eq_getElem?_getD, List.getD_eq_getElem?_getD, List.getElem?_take, if_pos h]
/-- A chunk that is taken wants no more than its own bytes. -/
theorem one_exact (S : Nat) (x : DS) (src : List UInt8) {b : List UInt8} {y : DS} {r : List UInt8} (h : one S x src = .told b y r) : ∃ p, src = p ++ r ∧ 1 ≤ p.length ∧ one S x p = .told b y [] := by
  obtain ⟨m, hm1, hm2, hr⟩ := (one_front S x src).1 b y r h
  subst hr
  refine ⟨src.take m, (List.take_append_drop m src).symm, by rw [List.length_take]; omega, ?_⟩
  have hne : one S x (src.take m) ≠ .err 10 := by
    intro he
    have hl : (src.drop m).length = src.length - m := List.length_drop
    unfold one at h he
    have hmin : min m src.length = m := by omega
    rw [List.length_take, hmin, getD_takeU src (by omega)] at he
    by_cases h1 : src.length < 1
    · omega
    rw [if_neg h1] at h
    rw [if_neg (by omega)] at he
    by_cases h2 : headN (src.getD 0 0).toNat = 0
    · rw [if_pos h2] at h; cases h
    rw [if_neg h2] at h he
    by_cases h3 : src.length < headN (src.getD 0 0).toNat
    · rw [if_pos h3] at h; cases h
    rw [if_neg h3] at h
    by_cases h4 : headN (src.getD 0 0).toNat = 1
    · rw [if_pos h4] at h; cases h
    rw [if_neg h4] at h
    by_cases h5 : badHead x (src.getD 0 0).toNat
    · rw [if_pos h5] at h; cases h
    rw [if_neg h5] at h
    have hdl : (src.drop (headN (src.getD 0 0).toNat)).length = src.length - headN (src.getD 0 0).toNat := List.length_drop
    generalize hc : (src.getD 0 0).toNat = c at *
    unfold oneBody at h
    by_cases hc3 : c < 3
    · rw [if_pos hc3] at h
      by_cases hlt : (src.drop (headN c)).length < twoB (src.take (headN c)) 1 + 1
      · rw [if_pos hlt] at h; cases h
      rw [if_neg hlt] at h
      injection h with _ _ h
      have hmm : m = headN c + (twoB (src.take (headN c)) 1 + 1) := by
        have := congrArg List.length h
        rw [List.length_drop, List.length_drop, List.length_drop] at this
        omega
      rw [if_neg (by omega), if_neg h4, if_neg h5] at he
      unfold oneBody at he
      rw [if_pos hc3, List.take_take, show min (headN c) m = headN c by omega, List.length_drop, List.length_take, hmin, if_neg (by omega)] at he
      cases he
    · rw [if_neg hc3] at h
      by_cases hlt : (src.drop (headN c)).length < twoB (src.take (headN c)) 3 + 1
      · rw [if_pos hlt] at h; cases h
      rw [if_neg hlt] at h
      by_cases hp : 192 ≤ c ∧ badP ((src.take (headN c)).getD 5 0).toNat
      · rw [if_pos hp] at h; cases h
      rw [if_neg hp] at h
      unfold oneLz at h
      split at h
      · cases h
      · injection h with _ _ h
        have hmm : m = headN c + (twoB (src.take (headN c)) 3 + 1) := by
          have := congrArg List.length h
          rw [List.length_drop, List.length_drop, List.length_drop] at this
          omega
        rw [if_neg (by omega), if_neg h4, if_neg h5] at he
        unfold oneBody at he
        rw [if_neg hc3, List.take_take, show min (headN c) m = headN c by omega, List.length_drop, List.length_take, hmin, if_neg (by omega), if_neg hp] at he
        unfold oneLz at he
        split at he <;> cases he
  have hm := one_more S x (src.take m) (src.drop m) hne
  rw [List.take_append_drop, h] at hm
  cases ho : one S x (src.take m) with
  | err e => rw [ho] at hm; cases hm
  | fin r => rw [ho] at hm; cases hm
  | told b' y' r' =>
    rw [ho] at hm
    injection hm with e1 e2 e3
    have : r' = [] := by
      have h := congrArg List.length e3
      rw [List.length_append] at h
      exact List.eq_nil_of_length_eq_zero (by omega)
    rw [this, ← e1, ← e2]
theorem go_exact (S most : Nat) : ∀ (f g : Nat) (x : DS) (out src : List UInt8) (T r : List UInt8), src.length < f → src.length < g → d2Go S most f x out src = (T, .inr r) → ∃ p, src = p ++ r ∧ 1 ≤ p.length ∧ d2Go S most g x out p = (T, .inr [])
  | 0, _, _, _, _, _, _, h, _, _ => absurd h (by omega)
  | _, 0, _, _, _, _, _, _, h, _ => absurd h (by omega)
  | f + 1, g + 1, x, out, src, T, r, hf, hg, h => by
    unfold d2Go at h
    cases ho : one S x src with
    | err e => rw [ho] at h; simp only [Prod.mk.injEq, reduceCtorEq, and_false] at h
    | fin rest =>
      obtain ⟨h1, h2⟩ := (one_front S x src).2 rest ho
      rw [ho] at h
      simp only [Prod.mk.injEq, Sum.inr.injEq] at h
      obtain ⟨e1, e2⟩ := h
      subst e1; subst e2
      refine ⟨src.take 1, by rw [h2, List.take_append_drop], by rw [List.length_take]; omega, ?_⟩
      have hh : headN (src.getD 0 0).toNat = 1 := by
        unfold one at ho
        rw [if_neg (by omega)] at ho
        by_cases k2 : headN (src.getD 0 0).toNat = 0
        · rw [if_pos k2] at ho; cases ho
        rw [if_neg k2] at ho
        by_cases k3 : src.length < headN (src.getD 0 0).toNat
        · rw [if_pos k3] at ho; cases ho
        rw [if_neg k3] at ho
        by_cases k4 : headN (src.getD 0 0).toNat = 1
        · exact k4
        rw [if_neg k4] at ho
        by_cases k5 : badHead x (src.getD 0 0).toNat
        · rw [if_pos k5] at ho; cases ho
        rw [if_neg k5] at ho
        unfold oneBody at ho
        split at ho
        · split at ho <;> cases ho
        · split at ho
          · cases ho
          · split at ho
            · cases ho
            · unfold oneLz at ho
              split at ho <;> cases ho
      have hl : (src.take 1).length = 1 := by rw [List.length_take]; omega
      have e : one S x (src.take 1) = .fin [] := by
        unfold one
        rw [hl, getD_takeU src (by omega), hh, if_neg (by omega), if_neg (by omega), if_neg (by omega), if_pos rfl, List.drop_of_length_le (by omega)]
      unfold d2Go
      rw [e]
    | told b y rest =>
      obtain ⟨p, e1, e2, e3⟩ := one_exact S x src ho
      have hlen := congrArg List.length e1
      rw [List.length_append] at hlen
      rw [ho] at h
      simp only at h
      by_cases hl : most < out.length + b.length
      · rw [if_pos hl] at h; simp only [Prod.mk.injEq, reduceCtorEq, and_false] at h
      · rw [if_neg hl] at h
        obtain ⟨p2, k1, k2, k3⟩ := go_exact S most f g _ _ rest T r (by omega) (by omega) h
        refine ⟨p ++ p2, by rw [e1, k1, List.append_assoc], by rw [List.length_append]; omega, ?_⟩
        unfold d2Go
        rw [one_more S x p p2 (by rw [e3]; simp), e3]
        simp only [OneR.more, List.nil_append]
        rw [if_neg hl]
        exact k3
end Go.Proofs.YtgahfpflhhfhfaaGreat

/- How long a chunk's head is; how many bytes heads say that chunks tell: the walks. -/
namespace Go.Proofs.YtgahfpflhhfhfaaGreat
open Go.RowKit
set_option linter.unusedVariables false
set_option linter.unusedSimpArgs false
set_option maxRecDepth 8000 in
theorem mhead_p (c : Nat) (w : World) (hc : c < 256) : Calls Tryz.prog 84 #[.int .u8 c] w fun e w' => e = .returned (.int .i64 (headN c : Nat)) ∧ w = w' := by
  have h : c = 0 ∨ (c ≠ 0 ∧ c < 3) ∨ (3 ≤ c ∧ c < 128) ∨ (128 ≤ c ∧ c < 192) ∨ 192 ≤ c := by omega
  rcases h with rfl | ⟨h1, h2⟩ | ⟨h1, h2⟩ | ⟨h1, h2⟩ | h1
  · go_enter Tryz.func84, Tryz.ntmps84
    go_wp2
    go_ret
    exact ⟨rfl, rfl⟩
  · have e : headN c = 3 := by unfold headN; rw [if_neg h1, if_pos h2]
    rw [e]
    have q0 : ((c : Int) == 0) = false := beq_eq_false_iff_ne.2 (by omega)
    have q1 : (c : Int) < 3 := by omega
    clear h1 h2 e hc
    go_enter Tryz.func84, Tryz.ntmps84
    go_wp2
    go_ret
    exact ⟨rfl, rfl⟩
  · have e : headN c = 0 := by unfold headN; rw [if_neg (by omega), if_neg (by omega), if_pos h2]
    rw [e]
    have q0 : ((c : Int) == 0) = false := beq_eq_false_iff_ne.2 (by omega)
    have q1 : (3 : Int) ≤ (c : Int) := by omega
    have q2 : (c : Int) < 128 := by omega
    clear h1 h2 e hc
    go_enter Tryz.func84, Tryz.ntmps84
    go_wp2
    go_ret
    exact ⟨rfl, rfl⟩
  · have e : headN c = 5 := by unfold headN; rw [if_neg (by omega), if_neg (by omega), if_neg (by omega), if_pos h2]
    rw [e]
    have q0 : ((c : Int) == 0) = false := beq_eq_false_iff_ne.2 (by omega)
    have q1 : (128 : Int) ≤ (c : Int) := by omega
    have q2 : (c : Int) < 192 := by omega
    clear h1 h2 e hc
    go_enter Tryz.func84, Tryz.ntmps84
    go_wp2
    go_ret
    exact ⟨rfl, rfl⟩
  · have e : headN c = 6 := by unfold headN; rw [if_neg (by omega), if_neg (by omega), if_neg (by omega), if_neg (by omega)]
    rw [e]
    have q0 : ((c : Int) == 0) = false := beq_eq_false_iff_ne.2 (by omega)
    have q1 : (192 : Int) ≤ (c : Int) := by omega
    clear h1 e hc
    go_enter Tryz.func84, Tryz.ntmps84
    go_wp2
    go_ret
    exact ⟨rfl, rfl⟩
end Go.Proofs.YtgahfpflhhfhfaaGreat

/- The contracts of the window: New's refusals, Clear, and a window that was dropped. -/
namespace Go.Proofs.YtgahfpflhhfhfaaGreat
open Go.RowKit Win
set_option linter.unusedVariables false
set_option linter.unusedSimpArgs false

theorem clear_win (base b k S a : Nat) (v : Value) (R : List UInt8) (w : World) (hw : WinAt w base b k S v R a) :
    Calls Tryz.prog 96 #[.pointer (some ⟨b, 0, none⟩)] w fun e w' => ∃ v' : Value, e = .returned (.tuple #[]) ∧ WinAt w' base b k S v' [] 0 ∧ Frm (fun x => x = b) w w' ∧ v'.ownBlock = v.ownBlock := by
  obtain ⟨A0, k0, rfl, hc0, hm0, hr0⟩ := hw.o.slice
  have c0 : w.cell? ⟨b, 0, none⟩ = some (.slice A0 R.length k0) := by rw [hw.p.cell]; rfl
  have c1 : w.cell? ⟨b, 1, none⟩ = some (.int .i64 a) := by rw [hw.p.cell]; rfl
  have f0 := hw.p.frozen 0
  have f1 := hw.p.frozen 1
  have HW := Lib.hid hw
  have hsz := fun w => slice_zero A0 R.length k0 w
  clear hw hr0 hm0
  go_enter Tryz.func96, Tryz.ntmps96
  go_wp2
  go_end0
  have hcut := HW.out.o.cut (k := 0) (Nat.zero_le _)
  rw [List.take_zero] at hcut
  have hoff : (Value.slice A0 0 k0).ownBlock ≠ some b := fun e => HW.out.off b (by rw [← e]; cases A0 <;> rfl) rfl
  exact ⟨.slice A0 0 k0, rfl, ⟨(HW.out.p.set 0 _).set 1 _, (hcut.other (p := ⟨b, 0, none⟩) hoff _).other (p := ⟨b, 1, none⟩) hoff _, Nat.zero_le _, by have := HW.out.lt; omega, fun _ => rfl⟩, ((Frm.refl _ w).setCell (by rfl) _).setCell (by rfl) _, by cases A0 <;> rfl⟩
end Go.Proofs.YtgahfpflhhfhfaaGreat

/- What a chunk leaves by: the deferred function, and plain chunks. -/
namespace Go.Proofs.YtgahfpflhhfhfaaGreat
open Go.RowKit Rng Lz Win
set_option linter.unusedVariables false
set_option linter.unusedSimpArgs false
/-- A panic that says that a chunk is none. -/
def wrongP (x : Int) : List PanicEntry := [{ v := .iface 210 (.agg #[.int .i64 x]), recovered := false }]
set_option maxRecDepth 100000 in
theorem assert_lzwrong (V : Value) (w : World) : (Instr.typeAssert (.iface 210 V) 20 210 true).run Tryz.prog w = .ok (.tuple #[V, .bool true]) w := rfl
set_option maxRecDepth 100000 in
theorem chunk_caught (b c : Nat) (x x0 : Int) (tv : Value) (older : List PanicEntry) (w : World) (hb : Pts w b #[tv] 22) (hc : Pts w c #[.int .i64 x0] 24) :
    CallsD Tryz.prog 115 #[.pointer (some ⟨b, 0, none⟩), .pointer (some ⟨c, 0, none⟩)] (.panicking ({ v := .iface 210 (.agg #[.int .i64 x]), recovered := false } :: older)) w fun e u' w' =>
      e = .returned (.tuple #[]) ∧ u' = .panicking ({ v := .iface 210 (.agg #[.int .i64 x]), recovered := true } :: older) ∧ Pts w' b #[.slice none 0 0] 22 ∧ Pts w' c #[.int .i64 11] 24 ∧ Frm (fun q => q = b ∨ q = c) w w' := by
  refine callsD_of_wpS Tryz.func115 rfl fun c₀ cs hu => ?_
  apply wpS_seq
  apply wpS_region
  simp [wpOpsS, go_sem, recoverD, hu, Tryz.ntmps115, Exit.thenS]
  refine wpS_of_wp ?_
  show Code.wp _ _ _ { tmps := #[.pointer (some ⟨b, 0, none⟩), .pointer (some ⟨c, 0, none⟩), undef, undef, undef, .iface 210 (.agg #[.int .i64 x]), undef, undef, undef, undef, undef], defers := [] } w
  have hta := assert_lzwrong (.agg #[.int .i64 x])
  have hne : c ≠ b := hc.ne_of hb (by decide)
  have h1 := hb.alloc (.cells #[.int .i64 x] 210)
  have h2 := hc.alloc (.cells #[.int .i64 x] 210)
  have z1 := h1.frozen 0
  have c1 := h1.cell 0
  have h3 := h2.other (p := ⟨b, 0, none⟩) hne (.slice none 0 0)
  have z3 := h3.frozen 0
  have c3 := h3.cell 0
  have hr1 := (h1.set 0 (.slice none 0 0)).other (p := ⟨c, 0, none⟩) hne.symm (.int .i64 11)
  have hr2 := h3.set 0 (.int .i64 11)
  have hf : Frm (fun q => q = b ∨ q = c) w (((w.alloc (.cells #[.int .i64 x] 210)).setCell ⟨b, 0, none⟩ (.slice none 0 0)).setCell ⟨c, 0, none⟩ (.int .i64 11)) := (((Frm.refl _ w).alloc _).setCell (.inl rfl) _).setCell (.inr rfl) _
  have HR1 := Lib.hid hr1
  have HR2 := Lib.hid hr2
  have HF := Lib.hid hf
  clear h1 h2 h3 hr1 hr2 hf hb hc
  go_wp2
  refine ⟨rfl, _, rfl, _, results_none rfl _ _ _, rfl, rfl, HR1.out, HR2.out, HF.out⟩
set_option maxRecDepth 100000 in
theorem chunk_idle (b c : Nat) (w : World) : CallsD Tryz.prog 115 #[.pointer (some ⟨b, 0, none⟩), .pointer (some ⟨c, 0, none⟩)] .returning w fun e u' w' => e = .returned (.tuple #[]) ∧ u' = .returning ∧ w' = w := by
  refine callsD_of_wpS Tryz.func115 rfl fun c₀ cs hu => ?_
  apply wpS_seq
  apply wpS_region
  simp [wpOpsS, go_sem, recoverD, hu, Tryz.ntmps115, Exit.thenS]
  refine wpS_of_wp ?_
  show Code.wp _ _ _ { tmps := #[.pointer (some ⟨b, 0, none⟩), .pointer (some ⟨c, 0, none⟩), undef, undef, undef, .nilIface, undef, undef, undef, undef, undef], defers := [] } w
  go_wp2
  refine ⟨rfl, .returning, by cases c₀; simp at hu; subst hu; rfl, _, results_none rfl _ _ _, rfl, rfl, rfl⟩
end Go.Proofs.YtgahfpflhhfhfaaGreat

/- An operation that is read behind its first bit (1): the walk. -/
namespace Go.Proofs.YtgahfpflhhfhfaaGreat
open Go.RowKit Rng Lz Win
set_option linter.unusedVariables false
set_option linter.unusedSimpArgs false
/-- How a step ends: it is an operation, or it is none. -/
def StepEnd (Z : Nat → Prop) (w0 : World) (k : LK) (g : RB) (total : Int) (good : Prop) (st' : Nat) (rep' : Nat → Nat) (s' : CP Dec) (C' told' : List UInt8) (e : Ending) (w' : World) : Prop :=
  (good ∧ e = .returned (.tuple #[]) ∧ ∃ wv' tv', RdAt Z w0 w' k g total st' rep' s' C' told' wv' tv') ∨
  (¬ good ∧ (∃ x, e = .panicked (wrongP x)) ∧ ∃ st rep s C told wv tv, RdAt Z w0 w' k g total st rep s C told wv tv)
set_option maxRecDepth 100000 in
set_option maxHeartbeats 2000000 in
theorem step_op (Z : Nat → Prop) (w0 w : World) (k : LK) (g : RB) (total st room : Nat) (rep : Nat → Nat) (s sa : CP Dec) (C told : List UInt8) (wv tv : Value) (h : RdAt Z w0 w k g (total : Int) st rep s C told wv tv)
    (hk : k.Ok) (ht : total < 4611686018427387904) (hst : st < 12) (hS : g.S ≤ 16777216) (hlen : told.length ≤ 100000000) (hroom : room ≤ 2097152) (p : Nat) (hp : total % 2 ^ k.pb = p) (ha : bitAt outC (8 + st * 16 + p) 0 s = (1, sa))
    (sz st' : Nat) (rep' : Nat → Nat) (s' : CP Dec) (ho : opOf outC st p rep sa = (sz, st', rep', s')) :
    Calls Tryz.prog 116 #[.pointer (some ⟨g.xb, 0, none⟩), .int .i64 room] w fun e w' => StepEnd Z w0 k g (total : Int) (sz ≤ room ∧ rep' 0 + 1 ≤ C.length) st' rep' s' (lastN g.S (C ++ cyc C (rep' 0 + 1) sz)) (told ++ cyc C (rep' 0 + 1) sz) e w' := by
  have hp16 : p < 16 := by
    have h1 : 2 ^ k.pb ≤ 2 ^ 4 := Nat.pow_le_pow_right (by omega) hk.b
    have h2 : total % 2 ^ k.pb < 2 ^ k.pb := Nat.mod_lt _ (Nat.lt_of_lt_of_le (by omega) (Nat.one_le_two_pow))
    omega
  have HA := Lib.hid ha
  have HH := Lib.hid h
  have HPL := Lib.hid (place_any 174 k st total rep s w h.lz hk ht)
  rw [hp] at HPL
  obtain ⟨d0, d1, d2, dt, -, -⟩ := h.cells
  have d3 := h.st3
  have HD := Lib.hid h.drew
  have P0 := Lib.hid (plm k (i := 8 + st * 16 + p) (by omega) (by omega))
  have P1 := Lib.hid (plm k (i := 200 + st) (by omega) (by omega))
  have hsti : (st : Int) < 12 := by omega
  have hpi : (p : Int) < 16 := by omega
  unfold opOf at ho
  obtain ⟨⟨b, sb⟩, hb⟩ : ∃ x, bitAt outC (200 + st) 0 sa = x := ⟨_, rfl⟩
  rw [hb] at ho
  dsimp only at ho
  have HB := Lib.hid hb
  have HO := Lib.hid ho
  obtain ⟨r1, hr1⟩ : ∃ r1, rep' 0 + 1 = r1 := ⟨_, rfl⟩
  rw [hr1]
  obtain ⟨Y, hY⟩ : ∃ Y, cyc C r1 sz = Y := ⟨_, rfl⟩
  have hYl : Y.length = sz := by rw [← hY]; exact cyc_length _ _ _
  rw [hY]
  have HE := Lib.hid hr1
  have HY := Lib.hid hY
  have HYL := Lib.hid hYl
  clear h ha hk hp hb ho hr1 hY hYl
  go_enter Tryz.func116, Tryz.ntmps116
  go_wp2_with fail
  refine HPL.out.mono ?_; rintro e w1 ⟨rfl, rfl⟩
  go_upto_region 2 with fail
  go_cut [36] from 9 (fun v wx => v = .bool false ∧ RdAt Z w0 wx k g (total : Int) st rep sa C told wv tv)
  case first =>
    go_region_with (first
      | (go_at_call 124; refine (lz_bit (obit_any g.db g.rb) HD.out.lz (8 + st * 16 + p) k.sb (8 + st * 16 + p) 0 _ trivial P0.out.1 P0.out.2).mono ?_; rintro e w2 ⟨rfl, h2, f2⟩; rw [HA.out] at h2 ⊢))
    all_goals
      have H2 := Lib.hid (HD.out.lzStep h2 f2)
      clear h2 f2
      go_wp2
      go_meet
      case rel => exact ⟨by simp, H2.out⟩
  case rest =>
    obtain ⟨rfl, h2⟩ := hcut
    have H2 := Lib.hid h2
    clear d0 d1 d2 d3 dt HD HH
    obtain ⟨d0, d1, d2, -, -, -⟩ := h2.cells
    have d3 := h2.st3
    have HD := Lib.hid h2.drew
    clear h2
    go_upto_region 5 with fail
    go_cut [52] from 9 (fun v wx => ∃ β : Bool, v = .bool β ∧ (β = true ↔ b = 1) ∧ RdAt Z w0 wx k g (total : Int) st rep sb C told wv tv)
    case first =>
      go_region_with (first
        | (go_at_call 124; refine (lz_bit (obit_any g.db g.rb) HD.out.lz (200 + st) k.sb (200 + st) 0 _ trivial P1.out.1 P1.out.2).mono ?_; rintro e w2 ⟨rfl, h2, f2⟩; rw [HB.out] at h2 ⊢))
      all_goals
        have H3 := Lib.hid (HD.out.lzStep h2 f2)
        clear h2 f2
        go_wp2
        go_meet
        case rel => exact ⟨_, rfl, by simp; omega, H3.out⟩
    case rest =>
      obtain ⟨β, rfl, hβ, h3⟩ := hcut
      have H3 := Lib.hid h3
      clear d0 d1 d2 d3 HD H2
      obtain ⟨d0, d1, d2, -, -, -⟩ := h3.cells
      have d3 := h3.st3
      have HD := Lib.hid h3.drew
      clear h3
      go_upto_if 52 with fail
      go_cut [6] from 9 (fun v wx => v = .int .i64 sz ∧ RdAt Z w0 wx k g (total : Int) st' rep' s' C told wv tv)
      case first =>
        by_cases hb1 : b = 1
        · obtain rfl : β = true := hβ.2 hb1
          have hO := HO.out
          rw [if_pos hb1] at hO
          have HO2 := Lib.hid hO
          clear hO hβ hb1 HO
          go_wp2_with fail
          refine (repeated_p Z w0 _ k g total st p rep sb C told wv tv H3.out hst hp16).mono ?_; rintro e w4 ⟨rfl, h4⟩
          rw [HO2.out] at h4 ⊢
          have H4 := Lib.hid h4
          clear h4
          go_wp2
          go_meet
          case rel => exact ⟨rfl, H4.out⟩
        · obtain rfl : β = false := by cases β; rfl; exact absurd (hβ.1 rfl) hb1
          have hO := HO.out
          rw [if_neg hb1] at hO
          obtain ⟨⟨l, sl⟩, hl⟩ : ∃ x, lenAt outC 840 2 p sb = x := ⟨_, rfl⟩
          have hll := lenAt_lt outC 840 2 p sb
          rw [hl] at hO hll
          dsimp only at hO hll
          obtain ⟨⟨dd, sd⟩, hd⟩ : ∃ x, distAt outC 0 l sl = x := ⟨_, rfl⟩
          rw [hd] at hO
          dsimp only at hO
          simp only [Prod.mk.injEq] at hO
          obtain ⟨rfl, rfl, rfl, rfl⟩ := hO
          have HLL := Lib.hid hl
          have HDD := Lib.hid hd
          clear hβ hb1 HO hl hd
          go_wp2_with fail
          refine QTail.wp_region_qtail_lit 8 (by kernel_rfl) (by kernel_rfl) ?_
          simp only [List.take_succ_cons, List.take_zero, List.drop_succ_cons, List.drop_zero]
          repeat (go_big_quiet_step (fail))
          refine wpQuiet_nil ?_
          rintro w' ⟨nr, rfl⟩
          have h4 := H3.out.drewN nr
          obtain ⟨w5, hrun, h5, f5⟩ := rep_copy (DC.keep g.db g.rb) h4.lz 3 3 4 3 (by omega)
          have H5 := Lib.hid (h4.lzStep h5 f5)
          clear h4 h5 f5 d0 d1 d2 d3 HD
          obtain ⟨d0, d1, d2, -, -, -⟩ := H5.out.cells
          have HD := Lib.hid H5.out.drew
          go_upto_region 8 with fail
          go_cut [6] from 9 (fun v wx => v = .int .i64 l ∧ RdAt Z w0 wx k g (total : Int) st (shiftN rep 3) sl C told wv tv)
          case first =>
            go_region_with (first
              | (go_at_call 127; refine (lens_p g.db g.rb 174 k st (shiftN rep 3) sb 840 p _ HD.out.lz (.inl rfl) hp16).mono ?_; rintro e w6 ⟨rfl, h6, f6⟩; rw [HLL.out] at h6 ⊢))
            all_goals
              have H6 := Lib.hid (HD.out.lzStep h6 f6)
              clear h6 f6
              go_wp2
              go_meet
              case rel => exact ⟨rfl, H6.out⟩
          case rest =>
            obtain ⟨rfl, h6⟩ := hcut
            have H6 := Lib.hid h6
            clear d0 d1 d2 HD H5 h6
            go_wp2_with fail
            refine (behind_any (DC.keep g.db g.rb) 174 k st 1 (shiftN rep 3) sl _ H6.out.lz hst (by omega)).mono ?_; rintro e w7 ⟨rfl, h7, f7⟩
            have H7 := Lib.hid (H6.out.lzStep h7 f7)
            clear h7 f7
            obtain ⟨d0, d1, d2, -, -, -⟩ := H7.out.cells
            have HD := Lib.hid H7.out.drew
            go_wp2_with fail
            go_region_with (first
              | (go_at_call 129; refine (dist_p g.db g.rb 174 k (behS st 1) (shiftN rep 3) sl l _ HD.out.lz hll.1 hll.2).mono ?_; rintro e w8 ⟨rfl, h8, f8⟩; rw [HDD.out] at h8 ⊢; have z8 := (h8.hdr (i := 4) (by omega)).1; have y8 := (h8.hdr (i := 4) (by omega)).2; simp only [mcell, Nat.reduceEqDiff, if_false, Nat.reduceLT, if_true, Nat.reduceSub] at z8))
            all_goals
              have h9 := h8.putRep 0 dd (by omega) (DC.keep g.db g.rb)
              have H9 := Lib.hid ((HD.out.lzStep h8 f8).lzStep h9.1 h9.2)
              clear h8 f8 h9
              go_wp2
              go_meet
              case rel => exact ⟨rfl, H9.out⟩
      case rest =>
        obtain ⟨rfl, h4⟩ := hcut
        have H4 := Lib.hid h4
        clear d0 d1 d2 d3 HD H3 hβ HO
        obtain ⟨d0, d1, d2, -, -, d5⟩ := h4.cells
        have HD := Lib.hid h4.drew
        have hcl := h4.win.len
        obtain ⟨r0, hr0⟩ : ∃ r, rep' 0 = r := ⟨_, rfl⟩
        have hr1e := HE.out
        rw [hr0] at d5 hr1e
        clear h4 hr0
        by_cases h1 : sz ≤ room
        case neg =>
          have hq1 : (room : Int) < (sz : Int) := by omega
          have hng : ¬ (sz ≤ room ∧ r1 ≤ C.length) := fun h => h1 h.1
          clear h1 hr1e hcl
          have HNG := Lib.hid hng
          clear hng
          go_wp2
          exact ⟨rfl, Or.inr ⟨HNG.out, ⟨_, rfl⟩, _, _, _, _, _, _, _, H4.out⟩⟩
        have h1i : (sz : Int) ≤ (room : Int) := by omega
        have HQ1 : Hid (decide (room < sz) = false) := Lib.hid (decide_eq_false (by omega))
        by_cases h2 : r0 < 16777216
        case neg =>
          have hq2 : decide ((16777216 : Int) ≤ (r0 : Int)) = true := decide_eq_true (by omega)
          have hng : ¬ (sz ≤ room ∧ r1 ≤ C.length) := fun h => h2 (by omega)
          have HNG := Lib.hid hng
          have HQ2 := Lib.hid hq2
          clear h1 hr1e hcl h2 hng hq2
          go_upto_if 99 with fail
          simp only [HQ2.out, HQ1.out, Bool.or_true, Bool.false_or]
          go_wp2
          exact ⟨rfl, Or.inr ⟨HNG.out, ⟨_, rfl⟩, _, _, _, _, _, _, _, H4.out⟩⟩
        have hr1 : (r0 : Int) + 1 = (r1 : Int) := by omega
        have hr1w : IntKind.i64.wrap (r1 : Int) = (r1 : Int) := Go.IntWalk.i64_in _ (by omega)
        have hr0w : IntKind.i64.wrap (r0 : Int) = (r0 : Int) := Go.IntWalk.i64_in _ (by omega)
        have hq2 : decide ((16777216 : Int) ≤ (r0 : Int)) = false := decide_eq_false (by omega)
        have HQ2 := Lib.hid hq2
        have hr1p : 1 ≤ r1 := by omega
        clear hr1e hcl hq2
        go_upto_if 99 with fail
        simp only [HQ2.out, HQ1.out, Bool.or_false]
        by_cases h3 : r1 ≤ C.length
        case neg =>
          have hng : ¬ (sz ≤ room ∧ r1 ≤ C.length) := fun h => h3 h.2
          have HNG := Lib.hid hng
          have H3N := Lib.hid h3
          clear hng h3 h2 h1
          go_upto_region 13 with fail
          go_cut [7, 8] from 9 (fun v ev wx => v = .slice none 0 0 ∧ ev = .int .i64 11 ∧ RdAt Z w0 wx k g (total : Int) st' rep' s' C told wv tv)
          case first =>
            go_region_with (first
              | (go_at_call 130; refine (copy_c g.bw g.wb g.kb g.S r1 sz r1 sz C wv _ HD.out.win HD.out.bs.1 hS (by omega) rfl rfl hr1p).mono ?_; rintro e w2 ⟨-, hno⟩; obtain ⟨rfl, rfl⟩ := hno H3N.out; clear hno))
            all_goals
              go_wp2
              go_meet
              case rel => exact ⟨rfl, rfl, HD.out⟩
          case rest =>
            obtain ⟨rfl, rfl, h5⟩ := hcut
            have H5 := Lib.hid h5
            clear h5
            go_wp2
            exact ⟨rfl, Or.inr ⟨HNG.out, ⟨_, rfl⟩, _, _, _, _, _, _, _, H5.out⟩⟩
        have HGO : Hid (sz ≤ room ∧ r1 ≤ C.length) := Lib.hid ⟨h1, h3⟩
        have HLE := Lib.hid h3
        clear h3 h2 h1
        go_upto_region 13 with fail
        go_cut [7, 8] from 9 (fun v ev wx => ∃ (Ao : Option Addr) (co : Nat) (wv' : Value), v = .slice Ao sz co ∧ ev = .int .i64 0 ∧ RdAt Z w0 wx k g (total : Int) st' rep' s' (lastN g.S (C ++ Y)) told wv' tv ∧ BRow wx wx.heap.size Ao Y)
        case first =>
          go_region_with (first
            | (go_at_call 130; refine (copy_c g.bw g.wb g.kb g.S r1 sz r1 sz C wv _ HD.out.win HD.out.bs.1 hS (by omega) rfl rfl hr1p).mono ?_; rintro e w2 ⟨hok, -⟩; obtain ⟨ov, wv2, rfl, hw2, ho2, f2, m2, -⟩ := hok HLE.out; rw [HY.out] at hw2 ho2; obtain ⟨Ao, co, hov, -, -, hro⟩ := ho2.slice; rw [HYL.out] at hov; subst hov; have H5 := Lib.hid (HD.out.winStep hw2 f2 m2); have RO := Lib.hid hro; clear hok hw2 ho2 f2 m2 hro))
          all_goals
            go_wp2
            go_meet
            case rel => exact ⟨Ao, co, wv2, rfl, rfl, H5.out, RO.out⟩
        case rest =>
          obtain ⟨Ao, co, wv2, rfl, rfl, h5, hro⟩ := hcut
          have H5 := Lib.hid h5
          have RO := Lib.hid hro
          clear d0 d1 d2 d5 HD H4 hro
          obtain ⟨d0, d1, d2, -, d4, -⟩ := h5.cells
          obtain ⟨A5, c5, htv, hc5, hm5, _⟩ := h5.o.slice
          subst htv
          clear h5
          have hxz := H5.out.p.frozen 4
          have hroomi := hroom
          have hyl := HYL.out.symm
          have hszr := HGO.out.1
          clear d0 d1 d2
          go_wp2_with (at_builtin; refine wpList_append_bytes _ rfl (.tmp 127) (.tmp 128) 22 rfl 5 g.bt Tryz.underlying22 Tryz.info_u8 (.slice A5 told.length c5) told rfl ?own5 Ao sz co wc.heap.size Y rfl hyl ?row5 ?len5 ?base5 ?next5)
          case own5 => exact H5.out.o
          case row5 => exact RO.out
          case len5 => omega
          case base5 => exact H5.out.bs.2
          case next5 =>
            intro v5 w5 hown5 hfrm5 hnew5
            obtain ⟨A6, c6, rfl, -, -, -⟩ := hown5.slice
            have h6 := H5.out.toldStep hown5 hfrm5 hnew5
            have hp5 := H5.out.p.frm hfrm5 (own_ne H5.out.o H5.out.p (by decide))
            have e4 : w5.cell? ⟨g.xb, 4, none⟩ = some (.slice A5 told.length c5) := by rw [hp5.cell]; rfl
            have z4 := hp5.frozen 4
            obtain ⟨L6, hL6⟩ : ∃ L, (told ++ Y).length = L := ⟨_, rfl⟩
            rw [hL6] at h6 ⊢
            have H6 := Lib.hid h6
            clear hown5 hfrm5 hnew5 hp5 h6 hL6 d4 hroomi hszr hyl
            go_wp2
            go_end0
            exact Or.inl ⟨HGO.out, rfl, wv2, _, H6.out⟩
end Go.Proofs.YtgahfpflhhfhfaaGreat

/- A chunk: what is refused ahead of all. -/
namespace Go.Proofs.YtgahfpflhhfhfaaGreat
open Go.RowKit Rng Lz Win
set_option linter.unusedVariables false
set_option linter.unusedSimpArgs false
theorem two_new (w : World) (v x : Value) (T U : TypeId) : Pts ((w.alloc (.cells #[v] T)).alloc (.cells #[x] U)) w.heap.size #[v] T ∧ Pts ((w.alloc (.cells #[v] T)).alloc (.cells #[x] U)) (w.heap.size + 1) #[x] U ∧ Below w.heap.size w ((w.alloc (.cells #[v] T)).alloc (.cells #[x] U)) ∧ ((w.alloc (.cells #[v] T)).alloc (.cells #[x] U)).heap.size = w.heap.size + 2 := by
  have hsz : (w.alloc (.cells #[v] T)).heap.size = w.heap.size + 1 := by show (w.heap.push _).size = _; rw [Array.size_push]
  have P1 : Pts ((w.alloc (.cells #[v] T)).alloc (.cells #[x] U)) (w.alloc (.cells #[v] T)).heap.size #[x] U := Pts.new _ _ _
  rw [hsz] at P1
  have hs2 : ((w.alloc (.cells #[v] T)).alloc (.cells #[x] U)).heap.size = (w.alloc (.cells #[v] T)).heap.size + 1 := by show ((w.alloc (.cells #[v] T)).heap.push _).size = _; rw [Array.size_push]
  exact ⟨(Pts.new w #[v] T).alloc _, P1, ((Below.refl _ w).alloc (Nat.le_refl _) _).alloc (by rw [hsz]; omega) _, by rw [hs2, hsz]⟩
set_option maxRecDepth 100000 in
set_option maxHeartbeats 1000000 in
theorem chunk_bad (w : World) (sp wp : Addr) (total n : Int) (A : Option Addr) (bs : List UInt8) (l c : Nat) (h1 : 1 ≤ n) (h2 : n ≤ 2097152) (h3 : 0 ≤ total) (hn : l = bs.length) (hr : BRow w w.heap.size A bs) (hc : bs.length ≤ c) (hcm : c ≤ maxLen) (h : newErr bs ≠ 0) :
    Calls Tryz.prog 99 #[.pointer (some sp), .pointer (some wp), .int .i64 total, .slice A l c, .int .i64 n] w fun e w' => e = .returned (.tuple #[.slice none 0 0, .int .i64 11]) ∧ Below w.heap.size w w' := by
  subst hn
  have P := Lib.hid (two_new w (.slice none 0 0) (.int .i64 11) 22 24)
  obtain ⟨p0, p1, hb, hs⟩ := two_new w (.slice none 0 0) (.int .i64 0) 22 24
  have HR := Lib.hid ((hr.below hb).more (Nat.le_of_lt_succ (by omega) : w.heap.size ≤ ((w.alloc (.cells #[.slice none 0 0] 22)).alloc (.cells #[.int .i64 0] 24)).heap.size))
  have HB := Lib.hid (dnew_bad_p A bs bs.length c _ _ rfl HR.out hc hcm h)
  obtain ⟨x, hx⟩ : ∃ x, newErr bs = x := ⟨_, rfl⟩
  rw [hx] at HB h
  clear hr hb hs hx p0 p1
  go_enter_defers Tryz.func99, Tryz.ntmps99
  go_wp2
  go_step3
  go_wp2_with fail
  refine Calls.mono HB.out ?_; rintro e w1 ⟨rfl, rfl⟩
  go_wp2
  simp only [Exit.noGoto_ret]
  go_wp2
  have c0 := P.out.1.cell 0
  have c1 := P.out.2.1.cell 0
  simp [bodyPostD, Leaves, settle, results, Tryz.results99, go_sem, c0, c1]
  exact P.out.2.2.1
end Go.Proofs.YtgahfpflhhfhfaaGreat

/- A chunk's walk: a state that rests, a reader's total, a step whatever it is. -/
namespace Go.Proofs.YtgahfpflhhfhfaaGreat
open Go.RowKit Rng Lz Win
set_option linter.unusedVariables false
set_option linter.unusedSimpArgs false
/-- A state that rests. -/
structure StAt (w : World) (k : LK) (st : Nat) (rep : Nat → Nat) (pr : Pr) : Prop where
  m : Pts w k.sb (mcells k st rep pr) 174
  l : Pts w k.lb (lcells k pr) 155
  fit : ∀ i, pr i < 65536
  ne : k.sb ≠ k.lb
section
variable {Z : Nat → Prop} {w0 w w' : World} {k : LK} {g : RB} {total : Int} {st : Nat} {rep : Nat → Nat} {s : CP Dec} {C told : List UInt8} {wv tv : Value}
theorem StAt.frm {pr : Pr} {N : Nat → Prop} (h : StAt w k st rep pr) (hf : Frm N w w') (h1 : ¬ N k.sb) (h2 : ¬ N k.lb) : StAt w' k st rep pr := ⟨h.m.frm hf h1, h.l.frm hf h2, h.fit, h.ne⟩
theorem RdAt.rested (h : RdAt Z w0 w k g total st rep s C told wv tv) : StAt w k st rep s.pr := ⟨h.lz.m, h.lz.l, h.lz.fit, h.lz.ne.2.2⟩
theorem RdAt.setTotal (h : RdAt Z w0 w k g total st rep s C told wv tv) (t : Int) : RdAt Z w0 (w.setCell ⟨g.xb, 3, none⟩ (.int .i64 t)) k g t st rep s C told wv tv := by
  obtain ⟨cd, hd⟩ := h.dpts
  obtain ⟨cw, hw⟩ := h.win.pts
  obtain ⟨lw, hwo⟩ := h.win.own
  have hf : Frm (fun x => x = g.xb) w (w.setCell ⟨g.xb, 3, none⟩ (.int .i64 t)) := Frm.setCell (S := fun x => x = g.xb) (Frm.refl _ w) (p := ⟨g.xb, 3, none⟩) (by rfl) _
  refine ⟨h.lz.frm (DC.keep _ _) hf ?_, h.win.frm hf ?_ ?_, ?_, h.o.frm hf ?_, h.ne, ⟨h.nr.1, h.nr.2.1, h.nr.2.2.1, h.nr.2.2.2.1, Nat.lt_of_lt_of_le h.nr.2.2.2.2 hf.size⟩, ⟨Nat.le_trans h.bs.1 hf.size, Nat.le_trans h.bs.2 hf.size⟩, h.z, h.f.transW hf ?_⟩
  · rintro q ((e | e) | e | e) e2
    · exact hd.ne_of h.p (by decide) (e.symm.trans e2)
    · exact h.nr.2.1 (e.symm.trans e2)
    · exact h.lz.m.ne_of h.p (by decide) (e.symm.trans e2)
    · exact h.lz.l.ne_of h.p (by decide) (e.symm.trans e2)
  · exact hw.ne_of h.p (by decide)
  · intro q hq e
    subst e
    exact own_ne hwo h.p (by decide) hq
  · exact h.p.set 3 (.int .i64 t)
  · intro q hq e
    subst e
    exact own_ne h.o h.p (by decide) hq
  · rintro q e hq
    exact h.z q (.inr (.inr (.inr (.inr (.inr (.inl e)))))) hq
end
/-- How a step ends, whatever it is. -/
def StepRes (Z : Nat → Prop) (w0 : World) (k : LK) (g : RB) (total : Int) (told : List UInt8) (R : Option (List UInt8 × RS)) (e : Ending) (w' : World) : Prop :=
  (∃ b y wv' tv', R = some (b, y) ∧ e = .returned (.tuple #[]) ∧ RdAt Z w0 w' k g total y.st y.rep y.s y.C (told ++ b) wv' tv') ∨
  (R = none ∧ (∃ x, e = .panicked (wrongP x)) ∧ ∃ st rep s C told wv tv, RdAt Z w0 w' k g total st rep s C told wv tv)
set_option maxRecDepth 100000 in
theorem step_any (Z : Nat → Prop) (w0 w : World) (k : LK) (g : RB) (total room : Nat) (x : RS) (told : List UInt8) (wv tv : Value) (h : RdAt Z w0 w k g (total : Int) x.st x.rep x.s x.C told wv tv)
    (hk : k.Ok) (ht : total < 4611686018427387904) (hx : x.Ok) (hS : g.S ≤ 16777216) (hlen : told.length ≤ 100000000) (hroom : room ≤ 2097152) :
    Calls Tryz.prog 116 #[.pointer (some ⟨g.xb, 0, none⟩), .int .i64 room] w fun e w' => StepRes Z w0 k g (total : Int) told (stepOf k g.S total room x) e w' := by
  obtain ⟨⟨a, sa⟩, ha⟩ : ∃ y, bitAt outC (8 + x.st * 16 + total % 2 ^ k.pb) 0 x.s = y := ⟨_, rfl⟩
  have hs : stepOf k g.S total room x = (if a = 0 then some ([UInt8.ofNat (litOf outC k x.st total x.rep x.C sa).1], ⟨behS x.st 0, x.rep, (litOf outC k x.st total x.rep x.C sa).2, lastN g.S (x.C ++ [UInt8.ofNat (litOf outC k x.st total x.rep x.C sa).1])⟩)
      else if (opOf outC x.st (total % 2 ^ k.pb) x.rep sa).1 ≤ room ∧ (opOf outC x.st (total % 2 ^ k.pb) x.rep sa).2.2.1 0 + 1 ≤ x.C.length then
        some (cyc x.C ((opOf outC x.st (total % 2 ^ k.pb) x.rep sa).2.2.1 0 + 1) (opOf outC x.st (total % 2 ^ k.pb) x.rep sa).1, ⟨(opOf outC x.st (total % 2 ^ k.pb) x.rep sa).2.1, (opOf outC x.st (total % 2 ^ k.pb) x.rep sa).2.2.1, (opOf outC x.st (total % 2 ^ k.pb) x.rep sa).2.2.2, lastN g.S (x.C ++ cyc x.C ((opOf outC x.st (total % 2 ^ k.pb) x.rep sa).2.2.1 0 + 1) (opOf outC x.st (total % 2 ^ k.pb) x.rep sa).1)⟩)
      else none) := by
    unfold stepOf
    simp only [ha]
  rw [hs]
  have hl := bitAt_le outC (8 + x.st * 16 + total % 2 ^ k.pb) 0 x.s
  rw [ha] at hl
  by_cases h0 : a = 0
  · subst h0
    rw [if_pos rfl]
    refine (step_lit Z w0 w k g total x.st room x.rep x.s sa x.C told wv tv h hk ht hx.st (hx.rep 0) hS hlen _ rfl ha).mono ?_
    rintro e w' ⟨rfl, wv', tv', h'⟩
    exact Or.inl ⟨_, _, wv', tv', rfl, rfl, h'⟩
  · rw [if_neg h0]
    obtain rfl : a = 1 := by simp only at hl; omega
    obtain ⟨⟨sz, st', rep', s'⟩, ho⟩ : ∃ y, opOf outC x.st (total % 2 ^ k.pb) x.rep sa = y := ⟨_, rfl⟩
    rw [ho]
    simp only
    refine (step_op Z w0 w k g total x.st room x.rep x.s sa x.C told wv tv h hk ht hx.st hS hlen hroom _ rfl ha sz st' rep' s' ho).mono ?_
    rintro e w' (⟨hg, rfl, wv', tv', h'⟩ | ⟨hg, h1, h2⟩)
    · rw [if_pos hg]
      exact Or.inl ⟨_, _, wv', tv', rfl, rfl, h'⟩
    · rw [if_neg hg]
      exact Or.inr ⟨rfl, h1, h2⟩
end Go.Proofs.YtgahfpflhhfhfaaGreat

/- A chunk: the walk. -/
namespace Go.Proofs.YtgahfpflhhfhfaaGreat
open Go.RowKit Rng Lz Win
set_option linter.unusedVariables false
set_option linter.unusedSimpArgs false
theorem dend_c (db rb : Nat) (d : Dec) (w : World) (hd : DC db rb w d) :
    Calls Tryz.prog 117 #[.pointer (some ⟨db, 0, none⟩)] w fun e w' => e = .returned (.tuple #[.int .i64 d.fin.1, .int .i64 d.fin.2]) ∧ DC db rb w' d.order ∧ Frm (DO db rb) w w' := by
  obtain ⟨r, hd', hback⟩ := hd.dec
  refine (dend_p db r d w hd').mono ?_
  rintro e w' ⟨rfl, h1, h2⟩
  exact ⟨rfl, hback _ _ Dec.order_nil h1, h2.mono fun q _ hq => .inl hq⟩
/-- The blocks that a chunk writes of those that were. -/
def ChZ (k : LK) (wb db rb : Nat) (wv : Value) (q : Nat) : Prop := q = db ∨ q = rb ∨ q = k.sb ∨ q = k.lb ∨ q = wb ∨ wv.ownBlock = some q
theorem RdAt.start (w : World) (k : LK) (st : Nat) (rep : Nat → Nat) (pr : Pr) (base wb kb S bt N0 : Nat) (C : List UInt8) (wv : Value) (db rb : Nat) (d : Dec) (tot : Int)
    (hs : StAt w k st rep pr) (hw : WinC w base wb kb S C wv) (hd : DecAt w 223 db rb d)
    (hk : k.sb < N0 ∧ k.lb < N0) (hv : ∀ q, wv.ownBlock = some q → q < N0) (hwb : wb < N0) (hdb : N0 ≤ db) (hrb : N0 ≤ rb) (hbt : bt ≤ w.heap.size) (hb : base ≤ w.heap.size) :
    ∃ rb', RdAt (ChZ k wb db rb' wv) w (w.alloc (.cells #[.pointer (some ⟨k.sb, 0, none⟩), .pointer (some ⟨wb, 0, none⟩), .pointer (some ⟨db, 0, none⟩), .int .i64 tot, .slice none 0 0] 215)) k ⟨db, rb', wb, kb, w.heap.size, S, base, bt⟩ tot st rep ⟨d, pr⟩ C [] wv (.slice none 0 0) ∧ N0 ≤ rb' := by
  have hdc : ∃ rb', DC db rb' w d ∧ N0 ≤ rb' ∧ rb' < w.heap.size ∧ (∀ (T : TypeId) c b, Pts w b c T → b = rb' → T = 223 ∨ N0 ≤ b) := by
    by_cases h0 : d.rest = []
    · exact ⟨db, .inr ⟨rfl, h0, rb, hd⟩, hdb, DC.pts (.inl hd) |>.elim fun c h => h.lt, fun T c b hp e => .inr (by omega)⟩
    · refine ⟨rb, .inl hd, hrb, ?_, fun T c b hp e => .inr (by omega)⟩
      obtain ⟨⟨A, c, hp, hrow, ho, hc, hm⟩, hfit, hn⟩ := hd
      have h1 : 0 < d.rest.length := List.length_pos_iff.2 h0
      obtain ⟨ab, off, rfl, hab, -⟩ := hrow h1
      have := ho h1 _ rfl
      have e : ab = rb := Classical.byContradiction fun e => this e
      omega
  obtain ⟨rb', hdc, hr1, hr2, -⟩ := hdc
  obtain ⟨cd, hdp⟩ := hdc.pts
  have hdl := hdp.lt
  have F : Frm (fun _ => False) w (w.alloc (.cells #[.pointer (some ⟨k.sb, 0, none⟩), .pointer (some ⟨wb, 0, none⟩), .pointer (some ⟨db, 0, none⟩), .int .i64 tot, .slice none 0 0] 215)) := (Frm.refl _ w).alloc _
  refine ⟨rb', ⟨⟨DC.keep _ _ _ _ _ _ hdc F (fun _ _ h => h), hs.m.frm F id, hs.l.frm F id, hs.fit, ?_⟩, hw.frm F id (fun _ _ h => h), Pts.new w _ _, OwnB.nil _ _ _, fun q _ h => by simp [Value.ownBlock] at h, ⟨?_, ?_, ?_, by simp [Value.ownBlock], Nat.lt_of_lt_of_le hr2 F.size⟩, ⟨Nat.le_trans hb F.size, Nat.le_trans hbt F.size⟩, ?_, F.mono fun _ _ h => h.elim⟩, hr1⟩
  · refine ⟨?_, ?_, hs.ne⟩
    · rintro (e | e) <;> simp only at e <;> omega
    · rintro (e | e) <;> simp only at e <;> omega
  · simp only; omega
  · simp only; omega
  · intro e
    have := hv _ e
    simp only at this
    omega
  · intro q hq hlt
    simp only at hq
    rcases hq with e | e | e | e | e | e | e | e
    · exact .inl e
    · exact .inr (.inl e)
    · exact .inr (.inr (.inl e))
    · exact .inr (.inr (.inr (.inl e)))
    · exact .inr (.inr (.inr (.inr (.inl e))))
    · omega
    · exact .inr (.inr (.inr (.inr (.inr e))))
    · simp [Value.ownBlock] at e
/-- How a chunk ends. -/
def ChunkEnd (k : LK) (base wb kb S : Nat) (wv : Value) (w : World) (R : Option (List UInt8 × RS)) (e : Ending) (w' : World) : Prop :=
  Frm (fun q => q = k.sb ∨ q = k.lb ∨ q = wb ∨ wv.ownBlock = some q) w w' ∧
  ((R = none ∧ e = .returned (.tuple #[.slice none 0 0, .int .i64 11])) ∨
   ∃ told y tv wv', R = some (told, y) ∧ e = .returned (.tuple #[tv, .int .i64 0]) ∧ OwnB w' 5 w.heap.size tv told ∧ StAt w' k y.st y.rep y.s.pr ∧ WinC w' base wb kb S y.C wv' ∧ Mv w wv wv' ∧ ∀ q, tv.ownBlock = some q → wv'.ownBlock ≠ some q)
theorem chunk_frm {k : LK} {wb db rb : Nat} {wv : Value} {w wc w6 w7 : World} (hB : Below w.heap.size w wc) (h6 : Frm (ChZ k wb db rb wv) wc w6) (hdb : w.heap.size + 2 ≤ db) (hrb : w.heap.size + 2 ≤ rb) (h7 : Frm (fun q => q = w.heap.size ∨ q = w.heap.size + 1) w6 w7) :
    Frm (fun q => q = k.sb ∨ q = k.lb ∨ q = wb ∨ wv.ownBlock = some q) w w7 := by
  have h0 : Frm (fun _ => False) w wc := Frm.of_below hB
  refine ((h0.mono fun _ _ h => h.elim).transW h6 ?_).transW h7 ?_
  · rintro q (e | e | e | e | e | e) hlt
    · omega
    · omega
    · exact .inl e
    · exact .inr (.inl e)
    · exact .inr (.inr (.inl e))
    · exact .inr (.inr (.inr e))
  · rintro q (e | e) hlt
    · omega
    · omega
theorem chunk_none {k : LK} {base wb kb S db rb : Nat} {wv : Value} {w wc w6 w7 : World} (hB : Below w.heap.size w wc) (h6 : Frm (ChZ k wb db rb wv) wc w6) (hdb : w.heap.size + 2 ≤ db) (hrb : w.heap.size + 2 ≤ rb) (h7 : Frm (fun q => q = w.heap.size ∨ q = w.heap.size + 1) w6 w7) :
    ChunkEnd k base wb kb S wv w none (.returned (.tuple #[.slice none 0 0, .int .i64 11])) w7 := ⟨chunk_frm hB h6 hdb hrb h7, .inl ⟨rfl, rfl⟩⟩
theorem chunk_some {k : LK} {base wb kb S db rb xb : Nat} {wv tv1 wv1 : Value} {w wc w6 w7 : World} {tot : Int} {told : List UInt8} {x : RS} {d : Dec} {c0 c1 : Value} (hB : Below w.heap.size w wc) (h6 : RdAt (ChZ k wb db rb wv) wc w6 k ⟨db, rb, wb, kb, xb, S, base, w.heap.size + 2⟩ tot x.st x.rep ⟨d, x.s.pr⟩ x.C told wv1 tv1)
    (hdb : w.heap.size + 2 ≤ db) (hrb : w.heap.size + 2 ≤ rb) (h7 : Frm (fun q => q = w.heap.size ∨ q = w.heap.size + 1) w6 w7) (p0 : Pts w6 w.heap.size #[c0] 22) (p1 : Pts w6 (w.heap.size + 1) #[c1] 24) :
    ChunkEnd k base wb kb S wv w (some (told, x)) (.returned (.tuple #[tv1, .int .i64 0])) w7 := by
  obtain ⟨cw, hw⟩ := h6.win.pts
  obtain ⟨lw, hwo⟩ := h6.win.own
  refine ⟨chunk_frm hB h6.f hdb hrb h7, .inr ⟨told, x, tv1, wv1, rfl, rfl, ?_, h6.rested.frm h7 ?_ ?_, h6.win.frm h7 ?_ ?_, ?_, fun q hq e => h6.ne q e hq⟩⟩
  · exact World.ownsRow.mono (h6.o.frm h7 (fun q hq => by have h9 : w.heap.size + 2 ≤ q := (h6.o.lt hq).1; rintro (e | e) <;> omega)) (show w.heap.size ≤ w.heap.size + 2 by omega)
  · rintro (e | e)
    · exact h6.lz.m.ne_of p0 (by decide) e
    · exact h6.lz.m.ne_of p1 (by decide) e
  · rintro (e | e)
    · exact h6.lz.l.ne_of p0 (by decide) e
    · exact h6.lz.l.ne_of p1 (by decide) e
  · rintro (e | e)
    · exact hw.ne_of p0 (by decide) e
    · exact hw.ne_of p1 (by decide) e
  · rintro q hq (e | e)
    · subst e; exact own_ne hwo p0 (by decide) hq
    · subst e; exact own_ne hwo p1 (by decide) hq
  · intro q hq
    by_cases hlt : q < w.heap.size
    · have hz := h6.z q (.inr (.inr (.inr (.inr (.inr (.inr (.inl hq))))))) (Nat.lt_of_lt_of_le hlt hB.size)
      obtain ⟨cd, hd⟩ := h6.dpts
      rcases hz with e | e | e | e | e | e
      · omega
      · omega
      · subst e; exact absurd hq (own_ne hwo h6.lz.m (by decide))
      · subst e; exact absurd hq (own_ne hwo h6.lz.l (by decide))
      · subst e; exact absurd hq (own_ne hwo hw (by decide))
      · exact .inl e
    · exact .inr (by omega)
end Go.Proofs.YtgahfpflhhfhfaaGreat

/- A chunk that begins as one: the walk. -/
namespace Go.Proofs.YtgahfpflhhfhfaaGreat
open Go.RowKit Rng Lz Win
set_option linter.unusedVariables false
set_option linter.unusedSimpArgs false
theorem and15 (t : Nat) (h : t < 9223372036854775808) : bits .and .i64 (t : Int) 15 = ((t % 16 : Nat) : Int) := by
  have e : (15 : Int) = ((15 : Nat) : Int) := rfl
  show IntKind.i64.wrap ((BitVec.ofInt 64 (t : Int) &&& BitVec.ofInt 64 15).toNat : Int) = _
  rw [BitVec.toNat_and, ofInt_u64 t (by omega), e, ofInt_u64 15 (by omega), show (15 : Nat) = 2 ^ 4 - 1 by rfl, Nat.and_two_pow_sub_one_eq_mod]
  exact Go.IntWalk.i64_in _ (by omega)
theorem LzAt.coder {σ : Type} {CA : World → σ → Prop} {own : Nat → Prop} {T : TypeId} {w w' : World} {k : LK} {st : Nat} {rep : Nat → Nat} {s : CP σ} {d : σ} (h : LzAt CA own T w k st rep s) (hc : CA w' d) (hf : Frm own w w') : LzAt CA own T w' k st rep ⟨d, s.pr⟩ ∧ Frm (Wr own k) w w' :=
  ⟨⟨hc, h.m.frm hf h.ne.1, h.l.frm hf h.ne.2.1, h.fit, h.ne⟩, hf.mono fun q _ e => .inl e⟩
set_option maxRecDepth 100000 in
set_option maxHeartbeats 4000000 in
theorem chunk_main (k : LK) (st : Nat) (rep : Nat → Nat) (pr : Pr) (base wb kb S : Nat) (C bs : List UInt8) (wv : Value) (A : Option Addr) (n c l total : Nat) (w : World)
    (hs : StAt w k st rep pr) (hw : WinC w base wb kb S C wv) (hb : base ≤ w.heap.size) (hS : S ≤ 16777216) (hk : k.Ok) (hst : st < 12) (hrep : ∀ j, rep j < 4294967296)
    (hl : l = bs.length) (hr : BRow w w.heap.size A bs) (hc : bs.length ≤ c) (hcm : c ≤ maxLen) (hlen : bs.length ≤ 140737488355328)
    (h1 : 1 ≤ n) (h2 : n ≤ 2097152) (ht : total < 9223372036854775808) (hnew : newErr bs = 0) :
    Calls Tryz.prog 99 #[.pointer (some ⟨k.sb, 0, none⟩), .pointer (some ⟨wb, 0, none⟩), .int .i64 total, .slice A l c, .int .i64 n] w fun e w' => ChunkEnd k base wb kb S wv w (chunkOf k S total n st rep pr C bs) e w' := by
  subst hl
  obtain ⟨R, hR⟩ : ∃ R, chunkOf k S total n st rep pr C bs = R := ⟨_, rfl⟩
  rw [hR]
  unfold chunkOf at hR
  rw [if_neg (fun h => h hnew)] at hR
  obtain ⟨T, hT⟩ : ∃ T, totOf total = T := ⟨_, rfl⟩
  rw [hT] at hR
  have hTb : T < 1099511627792 := by rw [← hT]; exact totOf_lt total
  obtain ⟨GO, hGO⟩ : ∃ GO, chunkGo k S T n (n + 1) [] ⟨st, rep, ⟨newDec bs, pr⟩, C⟩ = GO := ⟨_, rfl⟩
  rw [hGO] at hR
  obtain ⟨p0, p1, hbl, hsz⟩ := two_new w (.slice none 0 0) (.int .i64 0) 22 24
  have HND := Lib.hid (dnew_p A bs bs.length c _ rfl ((hr.below hbl).more (Nat.le_of_lt (by rw [hsz]; omega))) hc hcm hlen hnew)
  have P0 := Lib.hid p0
  have P1 := Lib.hid p1
  have BL := Lib.hid hbl
  have SZ := Lib.hid hsz
  have HR := Lib.hid hR
  have HT := Lib.hid hT
  have HG := Lib.hid hGO
  have HS := Lib.hid hs
  have HW := Lib.hid hw
  have HK := Lib.hid hk
  have HREP := Lib.hid hrep
  have h1i : (1 : Int) ≤ (n : Int) := by omega
  have h2i : (n : Int) ≤ 2097152 := by omega
  clear hR hT hGO p0 p1 hbl hsz hs hw hk hr hrep hnew
  go_enter_defers Tryz.func99, Tryz.ntmps99
  go_wp2
  go_step3
  go_wp2_with fail
  refine Calls.mono HND.out ?_; rintro e w3 ⟨db, rb, rfl, hd3, hdb, hrb, hB3⟩
  rw [SZ.out] at hdb hrb hB3
  have q0 := P0.out.below hB3 (by omega)
  have q1 := P1.out.below hB3 (by omega)
  have b3 := BL.out.trans (hB3.mono (by omega))
  have Q0 := Lib.hid (q0.other (p := ⟨w.heap.size + 1, 0, none⟩) (by simp) (.int .i64 0))
  have Q1 := Lib.hid (q1.set 0 (.int .i64 0))
  have B4 := Lib.hid (b3.setCell (p := ⟨w.heap.size + 1, 0, none⟩) (by simp) (.int .i64 0))
  have f4 : Frm (· = w.heap.size + 1) w3 (w3.setCell ⟨w.heap.size + 1, 0, none⟩ (.int .i64 0)) := Frm.setCell (S := fun x => x = w.heap.size + 1) (Frm.refl _ w3) (p := ⟨w.heap.size + 1, 0, none⟩) (by rfl) _
  have D4 := Lib.hid (DecAt.frm hd3 f4 (by omega) (by omega))
  have c11 := q1.cell 0
  have z11 := q1.frozen 0
  clear hd3 hB3 q0 q1 b3 f4
  go_upto_if 43 with fail
  obtain ⟨w4, hw4⟩ : ∃ w4, w3.setCell ⟨w.heap.size + 1, 0, none⟩ (.int .i64 0) = w4 := ⟨_, rfl⟩
  rw [hw4] at Q0 Q1 B4 D4 ⊢
  have hkb := HS.out.m.lt
  have hlb := HS.out.l.lt
  obtain ⟨cw, hwp⟩ := HW.out.pts
  have hwl := hwp.lt
  obtain ⟨lw, hwo⟩ := HW.out.own
  have S4 := Lib.hid (HS.out.frm (Frm.of_below (S := fun _ => False) B4.out) id id)
  have W4 := Lib.hid (HW.out.frm (Frm.of_below (S := fun _ => False) B4.out) id (fun _ _ h => h))
  have HWL := Lib.hid (fun q (h : wv.ownBlock = some q) => (hwo.lt h).2)
  clear hw4 c11 z11 hwp hwo
  go_cut [2] from 13 (fun v wx => v = .int .i64 T ∧ wx = w4)
  case first =>
    by_cases hbig : 1099511627776 < total
    · have hi : (1099511627776 : Int) < (total : Int) := by omega
      have ha := and15 total ht
      obtain ⟨m, hm⟩ : ∃ m, total % 16 = m := ⟨_, rfl⟩
      have hTe := HT.out
      unfold totOf at hTe
      rw [if_pos hbig, hm] at hTe
      rw [hm] at ha
      have hmb : m < 16 := by omega
      have hTi : (1099511627776 : Int) + (m : Int) = (T : Int) := by omega
      have hTw : IntKind.i64.wrap (T : Int) = (T : Int) := Go.IntWalk.i64_in _ (by omega)
      clear hm hTe hbig hmb
      go_wp2
      go_meet
      case rel => exact ⟨rfl, rfl⟩
    · have hi : (total : Int) ≤ 1099511627776 := by omega
      have hTe := HT.out
      unfold totOf at hTe
      rw [if_neg hbig] at hTe
      subst hTe
      clear hbig
      go_wp2
      go_meet
      case rel => exact ⟨rfl, rfl⟩
  case rest =>
    obtain ⟨rfl, rfl⟩ := hcut
    have hwn : w.heap.size + 2 ≤ wc.heap.size := by have := Q1.out.lt; omega
    obtain ⟨rb', hrd, hrb'⟩ := RdAt.start wc k st rep pr base wb kb S (w.heap.size + 2) (w.heap.size + 2) C wv db rb (newDec bs) T S4.out W4.out D4.out ⟨by omega, by omega⟩ (fun q h => by have := HWL.out q h; omega) (by omega) hdb hrb hwn (by omega)
    have RD := Lib.hid hrd
    clear hrd
    go_wp2
    go_step3
    go_wp2
    go_loopg [54] (n + 1) (fun gn s54 wr => ∃ (told : List UInt8) (x : RS) (wv1 tv1 : Value) (tot : Int), RdAt (ChZ k wb db rb' wv) wc wr k ⟨db, rb', wb, kb, wc.heap.size, S, base, w.heap.size + 2⟩ tot x.st x.rep x.s x.C told wv1 tv1 ∧ x.Ok ∧ told.length ≤ n ∧ n + 1 ≤ gn + told.length ∧ chunkGo k S T n gn told x = GO)
    case atStart => exact ⟨[], ⟨st, rep, ⟨newDec bs, pr⟩, C⟩, wv, _, T, RD.out, ⟨hst, HREP.out⟩, by simp, by simp, HG.out⟩
    case round =>
      obtain ⟨told, x, wv1, tv1, tot, hrd, hx, htl, hgk, hgo⟩ := hrel
      have HX := Lib.hid hx
      have HGK := Lib.hid hgk
      have HRD := Lib.hid hrd
      obtain ⟨d0, d1, d2, d3, d4, -⟩ := hrd.cells
      obtain ⟨A5, c5, htv, hc5, hm5, -⟩ := hrd.o.slice
      subst htv
      clear RD HG hrd hx hgk
      have hnz : ∀ b, w.heap.size ≤ b → b < w.heap.size + 2 → ¬ ChZ k wb db rb' wv b := by
        rintro b h1 h2 (e | e | e | e | e | e)
        · omega
        · omega
        · omega
        · omega
        · omega
        · have := HWL.out b e; omega
      have HNZ := Lib.hid hnz
      clear hnz
      by_cases hn : n ≤ told.length
      · have hni : (n : Int) ≤ ((told.length : Nat) : Int) := by omega
        have hR := HR.out
        obtain ⟨g, rfl⟩ : ∃ g, gk = g + 1 := ⟨gk - 1, by have := HGK.out; omega⟩
        unfold chunkGo at hgo
        rw [if_pos hn] at hgo
        rw [← hgo] at hR
        simp only at hR
        have HEND := dend_c db rb' x.s.d wr HRD.out.lz.c
        obtain ⟨⟨f1, f2⟩, hf⟩ : ∃ p, x.s.d.fin = p := ⟨_, rfl⟩
        rw [hf] at hR HEND
        simp only at HEND
        have HE := Lib.hid HEND
        have h3 : (f2 ≠ 0) ∨ (f2 = 0 ∧ f1 ≠ 0) ∨ (f2 = 0 ∧ f1 = 0) := by omega
        clear HEND hf hgo hn
        rcases h3 with h3 | ⟨rfl, h3⟩ | ⟨rfl, rfl⟩
        · have hR2 : none = R := by rw [if_neg (fun e => h3 (by injection e))] at hR; exact hR
          subst hR2
          have hf2 : ((f2 : Int) == 0) = false := by rw [beq_eq_false_iff_ne]; omega
          have hf3 : ((f2 : Int) != 0) = true := by rw [bne_iff_ne]; omega
          clear hR h3
          go_wp2_with fail
          refine HE.out.mono ?_; rintro e w6 ⟨rfl, hd6, f6⟩
          have h6 := HRD.out.lz.coder hd6 f6
          have H6 := Lib.hid (HRD.out.lzStep h6.1 h6.2)
          have e0 := Q0.out.frm H6.out.f (HNZ.out _ (Nat.le_refl _) (by omega))
          have e1 := Q1.out.frm H6.out.f (HNZ.out _ (by omega) (by omega))
          have E0 := Lib.hid e0
          have E1 := Lib.hid e1
          have c0 := e0.cell 0
          have z0 := e0.frozen 0
          have e2 := e1.other (p := ⟨w.heap.size, 0, none⟩) (by simp) (.slice none 0 0)
          have c1 := e2.cell 0
          have z1 := e2.frozen 0
          have r0 := (e0.set 0 (.slice none 0 0)).other (p := ⟨w.heap.size + 1, 0, none⟩) (by simp) (.int .i64 11)
          have r1 := e2.set 0 (.int .i64 11)
          have FF : Hid (Frm (fun q => q = w.heap.size ∨ q = w.heap.size + 1) w6 ((w6.setCell ⟨w.heap.size, 0, none⟩ (.slice none 0 0)).setCell ⟨w.heap.size + 1, 0, none⟩ (.int .i64 11))) := Lib.hid (((Frm.refl _ w6).setCell (p := ⟨w.heap.size, 0, none⟩) (.inl rfl) _).setCell (p := ⟨w.heap.size + 1, 0, none⟩) (.inr rfl) _)
          have R0 := Lib.hid r0
          have R1 := Lib.hid r1
          clear e0 e1 e2 r0 r1 hd6 f6 h6 d0 d1 d2 d3 d4
          go_wp2
          simp only [Exit.noGoto_ret]
          go_wp2
          refine leaves_cons (f := 115) (args := #[.pointer (some ⟨w.heap.size, 0, none⟩), .pointer (some ⟨w.heap.size + 1, 0, none⟩)]) (by simp) (by simp [go_sem]) ?_
          refine (chunk_idle _ _ _).mono ?_
          rintro e u' w'' ⟨rfl, rfl, rfl⟩
          have k0 := R0.out.cell 0
          have k1 := R1.out.cell 0
          simp [Leaves, settle, results, Tryz.results99, go_sem, k0, k1]
          exact chunk_none B4.out H6.out.f hdb hrb' FF.out
        · have hR2 : none = R := by rw [if_neg (fun e => h3 (by injection e))] at hR; exact hR
          subst hR2
          have hf2 : ((f1 : Int) == 0) = false := by rw [beq_eq_false_iff_ne]; omega
          have hf3 : ((f1 : Int) != 0) = true := by rw [bne_iff_ne]; omega
          clear hR h3
          go_wp2_with fail
          refine HE.out.mono ?_; rintro e w6 ⟨rfl, hd6, f6⟩
          have h6 := HRD.out.lz.coder hd6 f6
          have H6 := Lib.hid (HRD.out.lzStep h6.1 h6.2)
          have e0 := Q0.out.frm H6.out.f (HNZ.out _ (Nat.le_refl _) (by omega))
          have e1 := Q1.out.frm H6.out.f (HNZ.out _ (by omega) (by omega))
          have E0 := Lib.hid e0
          have E1 := Lib.hid e1
          have c0 := e0.cell 0
          have z0 := e0.frozen 0
          have e2 := e1.other (p := ⟨w.heap.size, 0, none⟩) (by simp) (.slice none 0 0)
          have c1 := e2.cell 0
          have z1 := e2.frozen 0
          have r0 := (e0.set 0 (.slice none 0 0)).other (p := ⟨w.heap.size + 1, 0, none⟩) (by simp) (.int .i64 11)
          have r1 := e2.set 0 (.int .i64 11)
          have FF : Hid (Frm (fun q => q = w.heap.size ∨ q = w.heap.size + 1) w6 ((w6.setCell ⟨w.heap.size, 0, none⟩ (.slice none 0 0)).setCell ⟨w.heap.size + 1, 0, none⟩ (.int .i64 11))) := Lib.hid (((Frm.refl _ w6).setCell (p := ⟨w.heap.size, 0, none⟩) (.inl rfl) _).setCell (p := ⟨w.heap.size + 1, 0, none⟩) (.inr rfl) _)
          have R0 := Lib.hid r0
          have R1 := Lib.hid r1
          clear e0 e1 e2 r0 r1 hd6 f6 h6 d0 d1 d2 d3 d4
          go_wp2
          simp only [Exit.noGoto_ret]
          go_wp2
          refine leaves_cons (f := 115) (args := #[.pointer (some ⟨w.heap.size, 0, none⟩), .pointer (some ⟨w.heap.size + 1, 0, none⟩)]) (by simp) (by simp [go_sem]) ?_
          refine (chunk_idle _ _ _).mono ?_
          rintro e u' w'' ⟨rfl, rfl, rfl⟩
          have k0 := R0.out.cell 0
          have k1 := R1.out.cell 0
          simp [Leaves, settle, results, Tryz.results99, go_sem, k0, k1]
          exact chunk_none B4.out H6.out.f hdb hrb' FF.out
        · have hR2 : some (told, x) = R := by rw [if_pos rfl] at hR; exact hR
          subst hR2
          clear hR
          go_wp2_with fail
          refine HE.out.mono ?_; rintro e w6 ⟨rfl, hd6, f6⟩
          have h6 := HRD.out.lz.coder hd6 f6
          have H6 := Lib.hid (HRD.out.lzStep h6.1 h6.2)
          have e0 := Q0.out.frm H6.out.f (HNZ.out _ (Nat.le_refl _) (by omega))
          have e1 := Q1.out.frm H6.out.f (HNZ.out _ (by omega) (by omega))
          have E0 := Lib.hid e0
          have E1 := Lib.hid e1
          have c0 := e0.cell 0
          have z0 := e0.frozen 0
          have e2 := e1.other (p := ⟨w.heap.size, 0, none⟩) (by simp) (.slice A5 told.length c5)
          have c1 := e2.cell 0
          have z1 := e2.frozen 0
          have r0 := (e0.set 0 (.slice A5 told.length c5)).other (p := ⟨w.heap.size + 1, 0, none⟩) (by simp) (.int .i64 0)
          have r1 := e2.set 0 (.int .i64 0)
          have FF : Hid (Frm (fun q => q = w.heap.size ∨ q = w.heap.size + 1) w6 ((w6.setCell ⟨w.heap.size, 0, none⟩ (.slice A5 told.length c5)).setCell ⟨w.heap.size + 1, 0, none⟩ (.int .i64 0))) := Lib.hid (((Frm.refl _ w6).setCell (p := ⟨w.heap.size, 0, none⟩) (.inl rfl) _).setCell (p := ⟨w.heap.size + 1, 0, none⟩) (.inr rfl) _)
          have R0 := Lib.hid r0
          have R1 := Lib.hid r1
          obtain ⟨-, -, -, -, k4, -⟩ := H6.out.cells
          have k4z := k4
          clear e0 e1 e2 r0 r1 hd6 f6 h6 d0 d1 d2 d3 d4
          go_wp2
          simp only [Exit.noGoto_ret]
          go_wp2
          refine leaves_cons (f := 115) (args := #[.pointer (some ⟨w.heap.size, 0, none⟩), .pointer (some ⟨w.heap.size + 1, 0, none⟩)]) (by simp) (by simp [go_sem]) ?_
          refine (chunk_idle _ _ _).mono ?_
          rintro e u' w'' ⟨rfl, rfl, rfl⟩
          have k0 := R0.out.cell 0
          have k1 := R1.out.cell 0
          simp [Leaves, settle, results, Tryz.results99, go_sem, k0, k1]
          exact chunk_some B4.out H6.out hdb hrb' FF.out E0.out E1.out
      · have hni : ((told.length : Nat) : Int) < (n : Int) := by omega
        obtain ⟨g, rfl⟩ : ∃ g, gk = g + 1 := ⟨gk - 1, by have := HGK.out; omega⟩
        unfold chunkGo at hgo
        rw [if_neg hn] at hgo
        obtain ⟨L, hL⟩ : ∃ L, told.length = L := ⟨_, rfl⟩
        obtain ⟨tl, htl2⟩ : ∃ tl, T + L = tl := ⟨_, rfl⟩
        obtain ⟨rm, hrm⟩ : ∃ rm, n - L = rm := ⟨_, rfl⟩
        obtain ⟨SR, hSR⟩ : ∃ SR, stepOf k S tl rm x = SR := ⟨_, rfl⟩
        rw [hL] at hni hc5 d4 htl hgo hn
        rw [htl2, hrm, hSR] at hgo
        have htli : (T : Int) + (L : Int) = (tl : Int) := by omega
        have htlw : IntKind.i64.wrap (tl : Int) = (tl : Int) := Go.IntWalk.i64_in _ (by omega)
        have hrmi : (n : Int) - (L : Int) = (rm : Int) := by omega
        have hrmw : IntKind.i64.wrap (rm : Int) = (rm : Int) := Go.IntWalk.i64_in _ (by omega)
        have h7 := HRD.out.setTotal tl
        rw [hL] at h7
        have z3 := HRD.out.p.frozen 3
        obtain ⟨q0, q1, q2, q3, q4, -⟩ := h7.cells
        have HSTEP := Lib.hid (step_any (ChZ k wb db rb' wv) wc _ k ⟨db, rb', wb, kb, wc.heap.size, S, base, w.heap.size + 2⟩ tl rm x told wv1 _ h7 HK.out (by omega) HX.out hS (by omega) (by omega))
        have HSR := Lib.hid hSR
        have HGO := Lib.hid hgo
        have HL := Lib.hid hL
        have HB1 : Hid (T + L = tl ∧ n - L = rm) := Lib.hid ⟨htl2, hrm⟩
        clear h7 hSR hgo hL htl2 hrm
        go_wp2_with fail
        refine HSTEP.out.mono ?_; rintro e w6 (⟨b, y, wv2, tv2, hR2, rfl, h8⟩ | ⟨hR2, ⟨xp, rfl⟩, st9, rep9, s9, C9, told9, wv9, tv9, h9⟩)
        · have hR3 : stepOf k S tl rm x = some (b, y) := hR2
          have hgo := HGO.out
          have h1 := HSR.out
          rw [hR3] at h1
          rw [← h1] at hgo
          have hi := stepOf_inv HX.out (by have := HB1.out; omega) hR3
          have H8 := Lib.hid h8
          have HI := Lib.hid hi
          have HGO2 := Lib.hid hgo
          clear hR2 hR3 hgo h1 hi h8 HGO HSR HSTEP q0 q1 q2 q3 q4 z3 d0 d1 d2 d3 d4
          go_wp2
          go_roundg g
          case measure => omega
          case rel =>
            refine ⟨told ++ b, y, wv2, tv2, tl, H8.out, HI.out.1, ?_, ?_, HGO2.out⟩
            · have := HB1.out; have := HI.out.2; have := HL.out; rw [List.length_append]; omega
            · have := HB1.out; have := HI.out.2; have := HL.out; have := HGK.out; rw [List.length_append]; omega
        · have hR3 : stepOf k S tl rm x = none := hR2
          have hgo := HGO.out
          have h1 := HSR.out
          rw [hR3] at h1
          rw [← h1] at hgo
          have hR := HR.out
          rw [← hgo] at hR
          have hR4 : none = R := hR
          subst hR4
          have H9 := Lib.hid h9
          have E0 := Lib.hid (Q0.out.frm h9.f (HNZ.out _ (Nat.le_refl _) (by omega)))
          have E1 := Lib.hid (Q1.out.frm h9.f (HNZ.out _ (by omega) (by omega)))
          clear hR2 hR3 hgo h1 hR h9 HR HGO HSR HSTEP q0 q1 q2 q3 q4 z3 d0 d1 d2 d3 d4
          go_wp2
          refine leaves_cons (f := 115) (args := #[.pointer (some ⟨w.heap.size, 0, none⟩), .pointer (some ⟨w.heap.size + 1, 0, none⟩)]) (by simp) (by simp [go_sem]) ?_
          refine (chunk_caught _ _ xp _ _ _ _ E0.out E1.out).mono ?_
          rintro e u' w'' ⟨rfl, rfl, k0, k1, kf⟩
          have c0 := k0.cell 0
          have c1 := k1.cell 0
          simp [Leaves, settle, results, Tryz.results99, go_sem, c0, c1]
          exact chunk_none B4.out H9.out.f hdb hrb' kf
end Go.Proofs.YtgahfpflhhfhfaaGreat

/- A chunk, whatever it is; a room; what the document says of six noughts; LzmaNil. -/
namespace Go.Proofs.YtgahfpflhhfhfaaGreat
open Go.RowKit Rng Lz Win
set_option linter.unusedVariables false
set_option linter.unusedSimpArgs false
theorem chunk_p (k : LK) (st : Nat) (rep : Nat → Nat) (pr : Pr) (base wb kb S : Nat) (C bs : List UInt8) (wv : Value) (A : Option Addr) (n c l total : Nat) (w : World)
    (hs : StAt w k st rep pr) (hw : WinC w base wb kb S C wv) (hb : base ≤ w.heap.size) (hS : S ≤ 16777216) (hk : k.Ok) (hst : st < 12) (hrep : ∀ j, rep j < 4294967296)
    (hl : l = bs.length) (hr : BRow w w.heap.size A bs) (hc : bs.length ≤ c) (hcm : c ≤ maxLen) (hlen : bs.length ≤ 140737488355328)
    (h1 : 1 ≤ n) (h2 : n ≤ 2097152) (ht : total < 9223372036854775808) :
    Calls Tryz.prog 99 #[.pointer (some ⟨k.sb, 0, none⟩), .pointer (some ⟨wb, 0, none⟩), .int .i64 total, .slice A l c, .int .i64 n] w fun e w' => ChunkEnd k base wb kb S wv w (chunkOf k S total n st rep pr C bs) e w' := by
  by_cases hn : newErr bs = 0
  · exact chunk_main k st rep pr base wb kb S C bs wv A n c l total w hs hw hb hS hk hst hrep hl hr hc hcm hlen h1 h2 ht hn
  · have e : chunkOf k S total n st rep pr C bs = none := by unfold chunkOf; rw [if_pos hn]
    rw [e]
    refine (chunk_bad w ⟨k.sb, 0, none⟩ ⟨wb, 0, none⟩ total n A bs l c (by omega) (by omega) (by omega) hl hr hc hcm hn).mono ?_
    rintro e w' ⟨rfl, hB⟩
    exact ⟨(Frm.of_below (S := fun _ => False) hB).mono fun _ _ h => h.elim, .inl ⟨rfl, rfl⟩⟩
theorem newK_ok (b lb : Nat) : (newK b lb).Ok := ⟨by show 3 + 0 ≤ 4; omega, by show 2 ≤ 4; omega⟩
theorem lnew_st (w : World) : Calls Tryz.prog 71 #[] w fun e w' => ∃ b lb, e = .returned (.pointer (some ⟨b, 0, none⟩)) ∧ w.heap.size ≤ b ∧ w.heap.size ≤ lb ∧ StAt w' (newK b lb) 0 (fun _ => 0) (fun _ => 1024) ∧ Below w.heap.size w w' := by
  refine (lnew_p w).mono ?_
  rintro e w' ⟨b, lb, rfl, h1, h2, h3, h4, h5, h6⟩
  exact ⟨b, lb, rfl, h1, h2, ⟨h4, h5, fun _ => (by decide : 1024 < 65536), h3⟩, h6⟩
theorem made_bytes (n : Nat) (hn : n ≤ 16777216) (w : World) :
    (Instr.makeSlice 22 (.int .i64 (n : Int)) (.int .i64 (n : Int))).run Tryz.prog w = .ok (.slice (some ⟨w.heap.size, 0, none⟩) n n) (w.alloc (.cells (madeCells #[.int .u8 0] n) 5)) := by
  obtain ⟨i, hi, hz⟩ := Option.map_eq_some_iff.1 Tryz.info_u8
  simp only [Prod.mk.injEq] at hz
  have h := run_make (P := Tryz.prog) w 22 5 i (.int .u8 0) Tryz.underlying22 hi hz.1 .i64 .i64 n n (by omega) (by omega) (by rw [hz.2.2]; omega) (by omega)
  rw [hz.2.1] at h
  simp only [Int.toNat_natCast, Nat.mul_one] at h
  exact h
theorem noughts_row (n : Nat) (w : World) : BRow (w.alloc (.cells (madeCells #[.int .u8 0] n) 5)) (w.alloc (.cells (madeCells #[.int .u8 0] n) 5)).heap.size (some ⟨w.heap.size, 0, none⟩) (List.replicate n 0) := by
  intro _
  refine ⟨w.heap.size, 0, rfl, by simp, fun k hk => ?_⟩
  rw [Nat.zero_add, (Pts.new w (madeCells #[.int .u8 0] n) 5).cell]
  have hkn : k < n := by simpa using hk
  have h1 : (madeCells #[Value.int .u8 0] n)[k]? = some (.int .u8 0) := by simp [madeCells, hkn, Nat.mod_one]
  rw [h1]
  simp [List.getD, hkn, byteV]
theorem StAt.later {w w' : World} {k : LK} {st : Nat} {rep : Nat → Nat} {pr : Pr} (h : StAt w k st rep pr) (hb : Below w.heap.size w w') : StAt w' k st rep pr := h.frm (Frm.of_below (S := fun _ => False) hb) id id
theorem WinC.later {w w' : World} {base wb kb S : Nat} {C : List UInt8} {v : Value} (h : WinC w base wb kb S C v) (hb : Below w.heap.size w w') : WinC w' base wb kb S C v := h.frm (Frm.of_below (S := fun _ => False) hb) id (fun _ _ h => h)
theorem below_alloc (w : World) (o : Obj) : Below w.heap.size w (w.alloc o) := (Below.refl _ w).alloc (Nat.le_refl _) o
end Go.Proofs.YtgahfpflhhfhfaaGreat

/- A reader of chunks in memory; its window thrown away, its state reset or set: the walks. -/
namespace Go.Proofs.YtgahfpflhhfhfaaGreat
open Go.RowKit Rng Win Lz
set_option linter.unusedVariables false
set_option linter.unusedSimpArgs false
theorem clear_c (base wb kb S : Nat) (C : List UInt8) (v : Value) (w : World) (h : WinC w base wb kb S C v) :
    Calls Tryz.prog 96 #[.pointer (some ⟨wb, 0, none⟩)] w fun e w' => ∃ v' : Value, e = .returned (.tuple #[]) ∧ WinC w' base wb kb S [] v' ∧ Frm (· = wb) w w' ∧ v'.ownBlock = v.ownBlock := by
  obtain ⟨R, a, hw, _⟩ := h
  refine (clear_win base wb kb S a v R w hw).mono ?_
  rintro e w' ⟨v', rfl, h1, h2, h3⟩
  exact ⟨v', rfl, ⟨[], 0, h1, rfl⟩, h2, h3⟩
theorem reset_s (k : LK) (st : Nat) (rep : Nat → Nat) (pr : Pr) (w : World) (h : StAt w k st rep pr) (hk : k.Ok) :
    Calls Tryz.prog 83 #[.pointer (some ⟨k.sb, 0, none⟩)] w fun e w' => e = .returned (.tuple #[]) ∧ ∃ lb, w.heap.size ≤ lb ∧ StAt w' ⟨k.sb, lb, k.lc, k.lp, k.pb⟩ 0 (fun _ => 0) (fun _ => 1024) ∧ Frm (· = k.sb) w w' := by
  have hm := h.m
  rw [← qcells_m] at hm
  refine (lreset_st k.sb k.lc k.lp k.pb st rep pr _ 174 w hm hk.a ⟨_, _, _, rfl⟩ hk.b).mono ?_
  rintro e w' ⟨rfl, lb, h3, h4, h5, hf⟩
  exact ⟨rfl, lb, h3, ⟨h4, h5, fun _ => (by decide : 1024 < 65536), by have := h.m.lt; show k.sb ≠ lb; omega⟩, hf⟩
theorem set_s (k : LK) (st p : Nat) (rep : Nat → Nat) (pr : Pr) (w : World) (h : StAt w k st rep pr) (hp : p ≤ 255) (hb : ¬ badP p) :
    Calls Tryz.prog 98 #[.pointer (some ⟨k.sb, 0, none⟩), .int .u8 p] w fun e w' => e = .returned (.int .i64 0) ∧ ∃ lb, w.heap.size ≤ lb ∧ StAt w' ⟨k.sb, lb, p % 9, p / 9 % 5, p / 45⟩ 0 (fun _ => 0) (fun _ => 1024) ∧ Frm (· = k.sb) w w' := by
  have hm := h.m
  rw [← qcells_m] at hm
  refine (props_p p k.sb k.lc k.lp k.pb st rep pr _ 174 w hm ⟨_, _, _, rfl⟩ hp).mono ?_
  rintro e w' ⟨rfl, hf, h2⟩
  unfold badP at hb
  obtain ⟨lb, h3, h4, h5⟩ := h2 hb
  rw [if_neg hb]
  exact ⟨rfl, lb, h3, ⟨h4, h5, fun _ => (by decide : 1024 < 65536), by have := h.m.lt; show k.sb ≠ lb; omega⟩, hf⟩
theorem set_bad (k : LK) (st p : Nat) (rep : Nat → Nat) (pr : Pr) (w : World) (h : StAt w k st rep pr) (hp : p ≤ 255) (hb : badP p) :
    Calls Tryz.prog 98 #[.pointer (some ⟨k.sb, 0, none⟩), .int .u8 p] w fun e w' => e = .returned (.int .i64 11) ∧ Frm (· = k.sb) w w' := by
  have hm := h.m
  rw [← qcells_m] at hm
  refine (props_p p k.sb k.lc k.lp k.pb st rep pr _ 174 w hm ⟨_, _, _, rfl⟩ hp).mono ?_
  rintro e w' ⟨rfl, hf, h2⟩
  unfold badP at hb
  rw [if_pos hb]
  exact ⟨rfl, hf⟩
/-- A reader between two chunks. -/
structure RdS (w : World) (rb fb wb kb base S : Nat) (k : LK) (x : DS) (wv : Value) (A : Option Addr) (n c used : Nat) (most : Int) : Prop where
  p : Pts w rb #[.pointer (some ⟨wb, 0, none⟩), .pointer (some ⟨k.sb, 0, none⟩), .pointer (some ⟨fb, 0, none⟩), .int .i64 x.total, .int .i64 most, .bool x.begun, .bool x.props] 122
  s : StAt w k x.st x.rep x.pr
  ks : k.lc = x.lc ∧ k.lp = x.lp ∧ k.pb = x.pb
  ok : k.Ok
  st : x.st < 12 ∧ ∀ j, x.rep j < 4294967296
  win : WinC w base wb kb S x.C wv
  b : base ≤ w.heap.size
  src : SrcAt w fb A n c used
/-- The blocks of a reader. -/
def RdB (rb fb wb : Nat) (k : LK) (wv : Value) (q : Nat) : Prop := q = rb ∨ q = fb ∨ q = wb ∨ q = k.sb ∨ q = k.lb ∨ wv.ownBlock = some q
section
variable {w w' : World} {rb fb wb kb base S : Nat} {k : LK} {x : DS} {wv : Value} {A : Option Addr} {n c used : Nat} {most : Int}
theorem RdS.cells (h : RdS w rb fb wb kb base S k x wv A n c used most) : w.cell? ⟨rb, 0, none⟩ = some (.pointer (some ⟨wb, 0, none⟩)) ∧ w.cell? ⟨rb, 1, none⟩ = some (.pointer (some ⟨k.sb, 0, none⟩)) ∧ w.cell? ⟨rb, 2, none⟩ = some (.pointer (some ⟨fb, 0, none⟩)) ∧
    w.cell? ⟨rb, 3, none⟩ = some (.int .i64 x.total) ∧ w.cell? ⟨rb, 4, none⟩ = some (.int .i64 most) ∧ w.cell? ⟨rb, 5, none⟩ = some (.bool x.begun) ∧ w.cell? ⟨rb, 6, none⟩ = some (.bool x.props) := by
  refine ⟨?_, ?_, ?_, ?_, ?_, ?_, ?_⟩ <;> (rw [h.p.cell]; rfl)
theorem RdS.frm {N : Nat → Prop} (h : RdS w rb fb wb kb base S k x wv A n c used most) (hf : Frm N w w') (hN : ∀ q, RdB rb fb wb k wv q → ¬ N q) : RdS w' rb fb wb kb base S k x wv A n c used most :=
  ⟨h.p.frm hf (hN _ (.inl rfl)), h.s.frm hf (hN _ (.inr (.inr (.inr (.inl rfl))))) (hN _ (.inr (.inr (.inr (.inr (.inl rfl)))))), h.ks, h.ok, h.st, h.win.frm hf (hN _ (.inr (.inr (.inl rfl)))) (fun q hq => hN q (.inr (.inr (.inr (.inr (.inr hq)))))), Nat.le_trans h.b hf.size, Pts.frm h.src hf (hN _ (.inr (.inl rfl)))⟩
theorem RdS.later (h : RdS w rb fb wb kb base S k x wv A n c used most) (hf : Frm (fun _ => False) w w') : RdS w' rb fb wb kb base S k x wv A n c used most := h.frm hf (fun _ _ e => e)
/-- The reader's blocks are all different. -/
theorem RdS.ne (h : RdS w rb fb wb kb base S k x wv A n c used most) : rb ≠ fb ∧ rb ≠ wb ∧ rb ≠ k.sb ∧ rb ≠ k.lb ∧ fb ≠ wb ∧ fb ≠ k.sb ∧ fb ≠ k.lb ∧ wb ≠ k.sb ∧ wb ≠ k.lb ∧ (∀ q, wv.ownBlock = some q → rb ≠ q ∧ fb ≠ q ∧ k.sb ≠ q ∧ k.lb ≠ q) := by
  obtain ⟨cw, hw⟩ := h.win.pts
  refine ⟨h.p.ne_of h.src (by decide), h.p.ne_of hw (by decide), h.p.ne_of h.s.m (by decide), h.p.ne_of h.s.l (by decide), Pts.ne_of h.src hw (by decide), Pts.ne_of h.src h.s.m (by decide), Pts.ne_of h.src h.s.l (by decide), hw.ne_of h.s.m (by decide), hw.ne_of h.s.l (by decide), ?_⟩
  intro q hq
  obtain ⟨l, ho⟩ := h.win.own
  rcases ho.form with ⟨e, _⟩ | ⟨g, cap, cur, e, _, hp, _⟩
  · rw [e] at hq; cases hq
  · rw [e] at hq
    have hq' : g = q := by simpa [Value.ownBlock] using hq
    subst hq'
    exact ⟨h.p.ne_of hp (by decide), Pts.ne_of h.src hp (by decide), h.s.m.ne_of hp (by decide), h.s.l.ne_of hp (by decide)⟩
/-- One of the reader's own numbers is changed. -/
theorem RdS.own (h : RdS w rb fb wb kb base S k x wv A n c used most) (i : Nat) (v : Value) (y : DS) (hy : y.lc = x.lc ∧ y.lp = x.lp ∧ y.pb = x.pb ∧ y.st = x.st ∧ y.rep = x.rep ∧ y.pr = x.pr ∧ y.C = x.C)
    (hc : (#[.pointer (some ⟨wb, 0, none⟩), .pointer (some ⟨k.sb, 0, none⟩), .pointer (some ⟨fb, 0, none⟩), .int .i64 x.total, .int .i64 most, .bool x.begun, .bool x.props] : Array Value).setIfInBounds i v = #[.pointer (some ⟨wb, 0, none⟩), .pointer (some ⟨k.sb, 0, none⟩), .pointer (some ⟨fb, 0, none⟩), .int .i64 y.total, .int .i64 most, .bool y.begun, .bool y.props]) :
    RdS (w.setCell ⟨rb, i, none⟩ v) rb fb wb kb base S k y wv A n c used most ∧ Frm (· = rb) w (w.setCell ⟨rb, i, none⟩ v) := by
  have hf : Frm (· = rb) w (w.setCell ⟨rb, i, none⟩ v) := Frm.setCell (S := fun q => q = rb) (Frm.refl _ w) (p := ⟨rb, i, none⟩) (by rfl) v
  obtain ⟨y1, y2, y3, y4, y5, y6, y7⟩ := hy
  obtain ⟨n1, n2, n3, n4, n5, n6, n7, n8, n9, n10⟩ := h.ne
  have hp := h.p.set i v
  rw [hc] at hp
  refine ⟨⟨hp, ?_, by rw [y1, y2, y3]; exact h.ks, h.ok, by rw [y4, y5]; exact h.st, ?_, Nat.le_trans h.b hf.size, Pts.frm h.src hf (fun e => n1 e.symm)⟩, hf⟩
  · rw [y4, y5, y6]; exact h.s.frm hf (fun e => n3 e.symm) (fun e => n4 e.symm)
  · rw [y7]; exact h.win.frm hf (fun e => n2 e.symm) (fun q hq e => (n10 q hq).1 e.symm)
end
end Go.Proofs.YtgahfpflhhfhfaaGreat

/- A chunk behind its head: the walk. -/
namespace Go.Proofs.YtgahfpflhhfhfaaGreat
open Go.RowKit Rng Win Lz
set_option linter.unusedVariables false
set_option linter.unusedSimpArgs false
theorem chunkGo_lk (k : LK) (S total n : Nat) : ∀ (f : Nat) (told : List UInt8) (x : RS), chunkGo k S total n f told x = chunkGo ⟨0, 0, k.lc, k.lp, k.pb⟩ S total n f told x
  | 0, _, _ => rfl
  | f + 1, told, x => by
    have ih := chunkGo_lk k S total n f
    have e : ∀ a b, stepOf k S a b x = stepOf ⟨0, 0, k.lc, k.lp, k.pb⟩ S a b x := fun a b => rfl
    unfold chunkGo
    split
    · rfl
    · rw [← e]
      cases stepOf k S (total + told.length) (n - told.length) x with
      | none => rfl
      | some p => obtain ⟨b, y⟩ := p; exact ih (told ++ b) y
theorem chunkOf_lk (k : LK) (S total n st : Nat) (rep : Nat → Nat) (pr : Pr) (C bs : List UInt8) : chunkOf k S total n st rep pr C bs = chunkOf ⟨0, 0, k.lc, k.lp, k.pb⟩ S total n st rep pr C bs := by
  unfold chunkOf
  rw [chunkGo_lk]
section
variable {w w' : World} {rb fb wb kb base S : Nat} {k : LK} {x : DS} {wv : Value} {A : Option Addr} {n c used : Nat} {most : Int}
/-- The window is another one now. -/
theorem RdS.win' {N : Nat → Prop} {C' : List UInt8} {wv' : Value} (h : RdS w rb fb wb kb base S k x wv A n c used most) (hw : WinC w' base wb kb S C' wv') (hf : Frm N w w') (hN : ∀ q, q = rb ∨ q = fb ∨ q = k.sb ∨ q = k.lb → ¬ N q) :
    RdS w' rb fb wb kb base S k { x with C := C' } wv' A n c used most :=
  ⟨h.p.frm hf (hN _ (.inl rfl)), h.s.frm hf (hN _ (.inr (.inr (.inl rfl)))) (hN _ (.inr (.inr (.inr rfl)))), h.ks, h.ok, h.st, hw, Nat.le_trans h.b hf.size, Pts.frm h.src hf (hN _ (.inr (.inl rfl)))⟩
/-- The source is another one now. -/
theorem RdS.src' {A' : Option Addr} {n' c' used' : Nat} (h : RdS w rb fb wb kb base S k x wv A n c used most) (hs : SrcAt w' fb A' n' c' used') (hf : Frm (· = fb) w w') : RdS w' rb fb wb kb base S k x wv A' n' c' used' most := by
  obtain ⟨n1, n2, n3, n4, n5, n6, n7, n8, n9, n10⟩ := h.ne
  exact ⟨h.p.frm hf n1, h.s.frm hf (fun e => n6 e.symm) (fun e => n7 e.symm), h.ks, h.ok, h.st, h.win.frm hf (fun e => n5 e.symm) (fun q hq e => (n10 q hq).2.1 e.symm), Nat.le_trans h.b hf.size, hs⟩
/-- The state is another one now. -/
theorem RdS.st' {k' : LK} {y : DS} (h : RdS w rb fb wb kb base S k x wv A n c used most) (hsb : k'.sb = k.sb) (hlb : w.heap.size ≤ k'.lb) (hs : StAt w' k' y.st y.rep y.pr) (hk : k'.lc = y.lc ∧ k'.lp = y.lp ∧ k'.pb = y.pb) (hok : k'.Ok) (hst : y.st < 12 ∧ ∀ j, y.rep j < 4294967296)
    (hy : y.total = x.total ∧ y.begun = x.begun ∧ y.props = x.props ∧ y.C = x.C) (hf : Frm (· = k.sb) w w') : RdS w' rb fb wb kb base S k' y wv A n c used most := by
  obtain ⟨n1, n2, n3, n4, n5, n6, n7, n8, n9, n10⟩ := h.ne
  obtain ⟨y1, y2, y3, y4⟩ := hy
  have hp := h.p.frm hf n3
  rw [← hsb, ← y1, ← y2, ← y3] at hp
  refine ⟨hp, hs, hk, hok, hst, ?_, Nat.le_trans h.b hf.size, Pts.frm h.src hf n6⟩
  rw [y4]
  exact h.win.frm hf (fun e => n8 e) (fun q hq e => (n10 q hq).2.2.1 e.symm)
end
/-- The reader's own block, whatever its numbers are. -/
def RdOwn (w : World) (rb fb wb sb : Nat) (most : Int) (un : Nat) : Prop := ∃ (t : Nat) (bg pp : Bool) (A : Option Addr) (n c used : Nat), Pts w rb #[.pointer (some ⟨wb, 0, none⟩), .pointer (some ⟨sb, 0, none⟩), .pointer (some ⟨fb, 0, none⟩), .int .i64 t, .int .i64 most, .bool bg, .bool pp] 122 ∧ t < 9223372036854775808 ∧ SrcAt w fb A n c used ∧ used ≤ un
theorem RdS.ownB {w : World} {rb fb wb kb base S : Nat} {k : LK} {x : DS} {wv : Value} {A : Option Addr} {n c used : Nat} {most : Int} (h : RdS w rb fb wb kb base S k x wv A n c used most) (ht : x.total < 9223372036854775808) {un : Nat} (hu : used ≤ un) : RdOwn w rb fb wb k.sb most un := ⟨x.total, x.begun, x.props, A, n, c, used, h.p, ht, h.src, hu⟩
theorem RdOwn.frm {N : Nat → Prop} {w w' : World} {rb fb wb sb un : Nat} {most : Int} (h : RdOwn w rb fb wb sb most un) (hf : Frm N w w') (hN : ¬ N rb) (hN2 : ¬ N fb) : RdOwn w' rb fb wb sb most un := by
  obtain ⟨t, bg, pp, A, n, c, used, hp, ht, hs, hu⟩ := h
  exact ⟨t, bg, pp, A, n, c, used, hp.frm hf hN, ht, Pts.frm hs hf hN2, hu⟩
theorem dict_total (x : DS) (c : Nat) : (x.dict c).total ≤ x.total := by
  unfold DS.dict DS.clear
  repeat' split
  all_goals first | exact Nat.zero_le _ | exact Nat.le_refl _
/-- How a chunk behind its head ends. -/
def BodyEnd (rb fb wb kb base S B0 : Nat) (k : LK) (wv : Value) (most : Int) (un : Nat) (w : World) (R : OneR) (e : Ending) (w' : World) : Prop :=
  Frm (RdB rb fb wb k wv) w w' ∧
  match R with
  | .err z => e = .returned (.tuple #[.slice none 0 0, .int .i64 ((z : Nat) : Int)]) ∧ RdOwn w' rb fb wb k.sb most un
  | .fin _ => False
  | .told b y rest => ∃ (k' : LK) (wv' : Value) (A' : Option Addr) (n' c' used' : Nat) (Ab : Option Addr) (cb : Nat), e = .returned (.tuple #[.slice Ab b.length cb, .int .i64 0]) ∧ RdS w' rb fb wb kb base S k' y wv' A' n' c' used' most ∧
      BRow w' B0 A' rest ∧ n' = rest.length ∧ n' ≤ c' ∧ c' ≤ maxLen ∧ used' + n' = un ∧ BRow w' w'.heap.size Ab b ∧ b.length ≤ cb ∧ cb ≤ maxLen ∧ k'.sb = k.sb ∧ (k'.lb = k.lb ∨ w.heap.size ≤ k'.lb) ∧ Mv w wv wv'
theorem twoB_le (h : List UInt8) (i : Nat) : twoB h i < 65536 := by
  unfold twoB
  have h1 := (h.getD i 0).toNat_lt
  have h2 := (h.getD (i + 1) 0).toNat_lt
  omega
theorem shl8 (x : UInt8) : IntKind.i64.wrap ((x.toNat : Int) * 256) = (x.toNat : Int) * 256 := by
  have h := x.toNat_lt
  exact Go.IntWalk.i64_in _ (by omega)
theorem take_len {bs : List UInt8} {N : Nat} (h : N ≤ bs.length) : (bs.take N).length = N := by rw [List.length_take]; omega
section
variable {w wx w' : World} {rb fb wb kb base S B0 : Nat} {k : LK} {x : DS} {wv : Value} {A : Option Addr} {n c used : Nat} {most : Int}
/-- Behind the first switch: the dictionary is thrown away, or not. -/
def Dict1 (w : World) (rb fb wb kb base S : Nat) (k : LK) (x : DS) (cc : Nat) (wv : Value) (A : Option Addr) (n c used : Nat) (most : Int) (wx : World) : Prop :=
  ∃ wv1, RdS wx rb fb wb kb base S k (x.dict cc) wv1 A n c used most ∧ wv1.ownBlock = wv.ownBlock ∧ Frm (fun q => q = rb ∨ q = wb) w wx
theorem Dict1.not (h : RdS w rb fb wb kb base S k x wv A n c used most) {cc : Nat} (h1 : cc ≠ 1) (h2 : cc < 224) : Dict1 w rb fb wb kb base S k x cc wv A n c used most w :=
  ⟨wv, by rw [show x.dict cc = x by unfold DS.dict; rw [if_neg h1, if_neg (by omega)]]; exact h, rfl, Frm.refl _ _⟩
theorem RdS.clearP (h : RdS w rb fb wb kb base S k x wv A n c used most) : RdS (w.setCell ⟨rb, 6, none⟩ (.bool false)) rb fb wb kb base S k { x with props := false } wv A n c used most ∧ Frm (· = rb) w (w.setCell ⟨rb, 6, none⟩ (.bool false)) :=
  h.own 6 (.bool false) { x with props := false } ⟨rfl, rfl, rfl, rfl, rfl, rfl, rfl⟩ rfl
theorem RdS.setP (h : RdS w rb fb wb kb base S k x wv A n c used most) : RdS (w.setCell ⟨rb, 6, none⟩ (.bool true)) rb fb wb kb base S k { x with props := true } wv A n c used most ∧ Frm (· = rb) w (w.setCell ⟨rb, 6, none⟩ (.bool true)) :=
  h.own 6 (.bool true) { x with props := true } ⟨rfl, rfl, rfl, rfl, rfl, rfl, rfl⟩ rfl
theorem RdS.begin (h : RdS w rb fb wb kb base S k x wv A n c used most) : RdS ((w.setCell ⟨rb, 3, none⟩ (.int .i64 0)).setCell ⟨rb, 5, none⟩ (.bool true)) rb fb wb kb base S k { x with total := 0, begun := true } wv A n c used most ∧ Frm (· = rb) w ((w.setCell ⟨rb, 3, none⟩ (.int .i64 0)).setCell ⟨rb, 5, none⟩ (.bool true)) := by
  obtain ⟨h1, f1⟩ := h.own 3 (.int .i64 0) { x with total := 0 } ⟨rfl, rfl, rfl, rfl, rfl, rfl, rfl⟩ rfl
  obtain ⟨h2, f2⟩ := h1.own 5 (.bool true) { x with total := 0, begun := true } ⟨rfl, rfl, rfl, rfl, rfl, rfl, rfl⟩ rfl
  exact ⟨h2, f1.trans f2⟩
/-- What stood below the reader's blocks stays. -/
theorem row_kept {N : Nat → Prop} {bs : List UInt8} (hr : BRow w B0 A bs) (hf : Frm N w w') (hB0 : B0 ≤ w.heap.size) (hN : ∀ q, N q → B0 ≤ q) : BRow w' B0 A bs := hr.below (hf.below hB0 hN)
end
set_option maxRecDepth 8000 in
set_option maxHeartbeats 2000000 in
theorem body_raw (rb fb wb kb base S B0 : Nat) (k : LK) (x : DS) (wv : Value) (A : Option Addr) (n c used : Nat) (most : Int) (bs hd : List UInt8) (hb off cc : Nat) (w : World)
    (h : RdS w rb fb wb kb base S k x wv A n c used most) (hB : ∀ q, RdB rb fb wb k wv q → B0 ≤ q) (hB0 : B0 ≤ w.heap.size) (hS : S ≤ 16777216) (hn : n = bs.length) (hr : BRow w B0 A bs) (hc : n ≤ c) (hcm : c ≤ maxLen)
    (hhr : BRow w B0 (some ⟨hb, off, none⟩) hd) (hdl : hd.length = 3) (hcc : (hd.getD 0 0).toNat = cc) (hleg : cc = 1 ∨ cc = 2) (hu : used + n ≤ 4611686018427387904) (ht : x.total < 9223372036854775808) :
    Calls Tryz.prog 85 #[.pointer (some ⟨rb, 0, none⟩), .slice (some ⟨hb, off, none⟩) 3 3] w (BodyEnd rb fb wb kb base S B0 k wv most (used + n) w (oneBody S x cc hd bs)) := by
  have b0 : w.cell? ⟨hb, off, none⟩ = some (.int .u8 ((cc : Nat) : Int)) := by rw [← hcc]; exact hhr.addr (k := 0) (by omega)
  have b1 : w.cell? ⟨hb, off + 1, none⟩ = some (.int .u8 (((hd.getD 1 0).toNat : Nat) : Int)) := hhr.addr (k := 1) (by omega)
  have b2 : w.cell? ⟨hb, off + 2, none⟩ = some (.int .u8 (((hd.getD 2 0).toNat : Nat) : Int)) := hhr.addr (k := 2) (by omega)
  obtain ⟨N, hN⟩ : ∃ N, twoB hd 1 + 1 = N := ⟨_, rfl⟩
  have hNl : N ≤ 65536 := by have := twoB_le hd 1; omega
  have hN1 : 1 ≤ N := by omega
  have e8 := shl8 (hd.getD 1 0)
  have hsum : ((hd.getD 1 0).toNat : Int) * 256 + ((hd.getD 2 0).toNat : Int) + 1 = (N : Int) := by have e : twoB hd 1 = (hd.getD 1 0).toNat * 256 + (hd.getD 2 0).toNat := rfl; omega
  have hl1 := (hd.getD 1 0).toNat_lt
  have hl2 := (hd.getD 2 0).toNat_lt
  have hw1 : IntKind.i64.wrap (((hd.getD 1 0).toNat : Int) * 256 + ((hd.getD 2 0).toNat : Int)) = ((hd.getD 1 0).toNat : Int) * 256 + ((hd.getD 2 0).toNat : Int) := Go.IntWalk.i64_in _ (by omega)
  have hw2 : IntKind.i64.wrap (N : Int) = (N : Int) := Go.IntWalk.i64_in _ (by omega)
  have HD := Lib.hid h
  have HL := Lib.hid hleg
  have hz : ∀ i, w.frozen? ⟨rb, i, none⟩ = false := fun i => h.p.frozen i
  obtain ⟨r0, r1, r2, r3, r4, r5, r6⟩ := h.cells
  obtain ⟨h1v, hh1⟩ : ∃ v, (hd.getD 1 0).toNat = v := ⟨_, rfl⟩
  obtain ⟨h2v, hh2⟩ : ∃ v, (hd.getD 2 0).toNat = v := ⟨_, rfl⟩
  rw [hh1] at b1 e8 hsum hw1 hl1
  rw [hh2] at b2 hsum hw1 hl2
  have hwa : IntKind.i64.wrap (h1v : Int) = (h1v : Int) := Go.IntWalk.i64_in _ (by omega)
  have hwb : IntKind.i64.wrap (h2v : Int) = (h2v : Int) := Go.IntWalk.i64_in _ (by omega)
  have HB := Lib.hid hB
  have HN := Lib.hid hN
  have HHR := Lib.hid hhr
  clear h hz hleg hcc hB hN hhr r0 r1 r2 r3 r4 r5 r6 hh1 hh2
  go_enter Tryz.func85, Tryz.ntmps85
  go_upto_region 2 with fail
  go_still (by kernel_rfl)
  have D0 := Lib.hid (HD.out.later ((Frm.refl (fun _ => False) w).drew))
  have F0 : Hid (Frm (fun _ => False) w w.drew) := Lib.hid ((Frm.refl (fun _ => False) w).drew)
  have hz : ∀ i, w.drew.frozen? ⟨rb, i, none⟩ = false := fun i => D0.out.p.frozen i
  obtain ⟨r0, r1, r2, r3, r4, r5, r6⟩ := D0.out.cells
  have z6 := hz 6
  clear hz r1 r3 r4 r5 HD
  obtain ⟨w0, hw0⟩ : ∃ w0, w.drew = w0 := ⟨_, rfl⟩
  rw [hw0] at D0 F0 r0 r2 r6 z6
  rw [show ({ heap := w.heap, tape := w.tape, drawn := w.drawn + 1, os := w.os, output := w.output } : World) = w0 from hw0]
  clear hwa e8 hwb hw1 hsum hw2 b0 b1 b2 hw0
  go_upto_block 0 with fail
  go_cut [] from 13 (fun wx => Dict1 w0 rb fb wb kb base S k x cc wv A n c used most wx)
  case first =>
    rcases HL.out with rfl | rfl
    · go_wp2_with fail
      obtain ⟨D1, f1⟩ := D0.out.clearP
      refine (clear_c base wb kb S x.C wv _ D1.win).mono ?_; rintro e w2 ⟨v', rfl, hw2, hf2, ho2⟩
      obtain ⟨n1, n2, n3, n4, n5, n6, n7, n8, n9, n10⟩ := D1.ne
      have D2 := D1.win' hw2 hf2 (by rintro q (e | e | e | e) e2 <;> omega)
      obtain ⟨D3, f3⟩ := D2.begin
      have hp3 := D2.p
      have c3 := hp3.cell 3
      have c5 := hp3.cell 5
      have z3 := hp3.frozen 3
      have z5 := hp3.frozen 5
      have DD := Lib.hid D3
      have FF := Lib.hid (((f1.mono (S' := fun q => q = rb ∨ q = wb) fun q _ e => .inl e).trans (hf2.mono fun q _ e => .inr e)).trans (f3.mono fun q _ e => .inl e))
      clear D1 f1 hw2 hf2 n1 n2 n3 n4 n5 n6 n7 n8 n9 n10 D2 D3 f3 hp3 r0 r2 r6 z6
      go_wp2
      go_meet
      case rel => exact ⟨v', DD.out, ho2, FF.out⟩
    · go_wp2
      go_meet
      case rel => exact Dict1.not D0.out (by decide) (by decide)
  case rest =>
    obtain ⟨wv1, d1, ho1, f1⟩ := hcut
    have hcl : cc < 3 := by rcases HL.out with e | e <;> omega
    have hci : (cc : Int) < 3 := by omega
    have hBR : ∀ q, q = rb ∨ q = wb → B0 ≤ q := by
      rintro q (e | e)
      · exact HB.out q (.inl e)
      · exact HB.out q (.inr (.inr (.inl e)))
    have hsz : B0 ≤ wc.heap.size := Nat.le_trans hB0 (Nat.le_trans F0.out.size f1.size)
    have hr1 : BRow wc B0 A bs := row_kept (row_kept hr F0.out hB0 (fun _ e => e.elim)) f1 (Nat.le_trans hB0 F0.out.size) hBR
    obtain ⟨y, hy⟩ : ∃ y, x.dict cc = y := ⟨_, rfl⟩
    have HO : Hid (oneBody S x cc hd bs = if bs.length < N then .err 10 else .told (bs.take N) { y with C := lastN S (y.C ++ bs.take N) } (bs.drop N)) := Lib.hid (by
      unfold oneBody
      rw [if_pos hcl, HN.out, hy])
    rw [hy] at d1
    obtain ⟨r0, r1, r2, r3, r4, r5, r6⟩ := d1.cells
    have F1 : Hid (Frm (fun q => q = rb ∨ q = wb) w wc) := Lib.hid ((F0.out.mono fun _ _ e => e.elim).trans f1)
    have DC := Lib.hid d1
    have HR1 := Lib.hid hr1
    clear D0 F0 d1 f1 hr1 hcl r1 r3 r4 r5 r6 HL
    by_cases hN2 : N ≤ n
    · have hT := take_p fb A n c used N wc DC.out.src hc hN2 (by omega)
      have HT := Lib.hid hT
      clear hT
      go_wp2_with fail
      refine HT.out.mono ?_; rintro e w2 ⟨rfl, hs2, hf2⟩
      have d2 := DC.out.src' hs2 hf2
      have hfb : B0 ≤ fb := HB.out fb (.inr (.inl rfl))
      have hz2 : B0 ≤ w2.heap.size := Nat.le_trans hsz hf2.size
      have hr2 : BRow w2 B0 A bs := row_kept HR1.out hf2 hsz (fun q e => by rw [e]; exact hfb)
      obtain ⟨r0, r1, r2, r3, r4, r5, r6⟩ := d2.cells
      have D2 := Lib.hid d2
      have HR2 := Lib.hid hr2
      have HF2 := Lib.hid hf2
      have hNb : N ≤ bs.length := by omega
      clear HT hs2 hf2 d2 hr2 r1 r2 r3 r4 r5 r6
      have hwo : ∀ q, q = wb ∨ wv1.ownBlock = some q → B0 ≤ q := by
        rintro q (e | e)
        · exact HB.out q (.inr (.inr (.inl e)))
        · rw [ho1] at e; exact HB.out q (.inr (.inr (.inr (.inr (.inr e)))))
      have HP := Lib.hid (put_c base wb kb S N B0 N y.C wv1 A (bs.take N) w2 D2.out.win (take_len hNb).symm (HR2.out.take N) (BOff.of_row (HR2.out.take N) hwo) (by rw [take_len hNb]; exact Nat.le_refl _) (by unfold maxLen; omega) (by rw [take_len hNb]; omega) D2.out.b hS hz2)
      go_wp2_with fail
      refine HP.out.mono ?_; rintro e w3 ⟨rfl, v', hw3, hf3, hm3⟩
      clear HP
      go_wp2
      go_ret2
      rw [HO.out, if_neg (by omega)]
      obtain ⟨n1, n2, n3, n4, n5, n6, n7, n8, n9, n10⟩ := D2.out.ne
      have d3 := D2.out.win' hw3 hf3 (by
        rintro q hq (e | e)
        · rcases hq with e2 | e2 | e2 | e2 <;> omega
        · have h10 := n10 q e
          rcases hq with e2 | e2 | e2 | e2 <;> omega)
      have hz3 := hf3.size
      refine ⟨?_, k, v', takeA A c N, n - N, c - N, used + N, A, N, by rw [take_len hNb]; rfl, d3, (row_kept HR2.out hf3 hz2 hwo).drop (by omega), by rw [List.length_drop]; omega, by omega, by omega, by omega, ?_, by rw [take_len hNb]; exact Nat.le_refl _, by unfold maxLen; omega, rfl, .inl rfl, ?_⟩
      · refine ((F1.out.mono ?_).trans (HF2.out.mono ?_)).trans (hf3.mono ?_)
        · rintro q _ (e | e)
          · exact .inl e
          · exact .inr (.inr (.inl e))
        · intro q _ e; exact .inr (.inl e)
        · rintro q _ (e | e)
          · exact .inr (.inr (.inl e))
          · rw [ho1] at e; exact .inr (.inr (.inr (.inr (.inr e))))
      · exact ((row_kept HR2.out hf3 hz2 hwo).take N).more (Nat.le_trans hz2 hz3)
      · intro q hq
        rcases hm3 q hq with e | e
        · exact .inl (ho1 ▸ e)
        · exact .inr (Nat.le_trans (Nat.le_trans F1.out.size HF2.out.size) e)
    · have hT := take_no fb A n c used N wc DC.out.src (by omega)
      have HT := Lib.hid hT
      clear hT
      go_wp2_with fail
      refine HT.out.mono ?_; rintro e w2 ⟨rfl, rfl⟩
      go_wp2
      go_ret2
      rw [HO.out, if_pos (by omega)]
      exact ⟨F1.out.mono fun q _ e => by rcases e with e | e; exact .inl e; exact .inr (.inr (.inl e)), rfl, DC.out.ownB (by have := dict_total x cc; rw [hy] at this; omega) (Nat.le_add_right _ _)⟩
end Go.Proofs.YtgahfpflhhfhfaaGreat

/- A drawn region whose first operations only read, then one call, then what only reads again (two results taken apart): one order is enough. No program in sight. -/
namespace Go.Proofs.YtgahfpflhhfhfaaGreat
open Go
set_option linter.unusedVariables false
set_option linter.unusedSimpArgs false
section
variable {P : Program} {ops : Array Oper} {md : Region.Mode} {w : World}
/-- Each operation waits for earlier ones alone. -/
def fwdB (md : Region.Mode) (ops : Array Oper) : Bool :=
  (List.range ops.size).all fun j => match ops[j]? with
    | some o => o.after.all fun e => !Region.binds md e || decide (e.on < j)
    | none => true
/-- What stands behind the call waits for it, or for what stands behind it. -/
def rootB (md : Region.Mode) (ops : Array Oper) (n : Nat) : Bool :=
  (List.range ops.size).all fun t => decide (t ≤ n) || (List.range t).any fun j => decide (n ≤ j) && Region.waitsFor md ops t j
theorem fwdB_spec (h : fwdB md ops = true) {j : Nat} {o : Oper} (ho : ops[j]? = some o) {e} (he : e ∈ o.after) (hb : Region.binds md e = true) : e.on < j := by
  have h1 := List.all_eq_true.1 h j (List.mem_range.2 (Array.getElem?_eq_some_iff.1 ho).1)
  simp only [ho] at h1
  have h2 := Array.all_eq_true_iff_forall_mem.1 h1 e he
  simpa [hb] using h2
/-- While one of the first n is tq9 come, nothing behind them is ready. -/
theorem ready_head {n : Nat} {listed : Array Bool} (hs : Region.sinkB md ops n = true) (hr : rootB md ops n = true) (inv : HeadInv md ops n listed) {i : Nat} (hi : i < n) (hun : listed.getD i true = false)
    {t : Nat} (ht : t ∈ Region.ready md ops listed) : t < n := by
  rcases Nat.lt_or_ge t n with h | hge
  · exact h
  exfalso
  obtain ⟨_, ot, hot, hall⟩ := mem_ready.1 ht
  have htlt : t < ops.size := (Array.getElem?_eq_some_iff.1 hot).1
  by_cases htn : t = n
  · subst htn
    have key : ∀ d j, t - j = d → j < t → listed.getD j false = true := by
      intro d
      induction d using Nat.strongRecOn with
      | _ d ih =>
        intro j hd hj
        obtain ⟨q, hq, hq2⟩ := List.any_eq_true.1 (List.all_eq_true.1 hs j (List.mem_range.2 hj))
        simp only [Bool.and_eq_true, decide_eq_true_eq] at hq2
        obtain ⟨oq, hoq, e, he, hb, hon⟩ := Region.waitsFor_spec hq2.2
        have hqle := List.mem_range.1 hq
        rw [← hon]
        by_cases hqt : q = t
        · subst hqt
          have : oq = ot := Option.some.inj (hoq.symm.trans hot)
          subst this
          exact hall e he hb
        · exact inv.closed q oq hoq (ih (t - q) (by omega) q rfl (by omega)) e he hb
    have h2 := key _ i rfl hi
    rw [getD_both hun] at h2
    cases h2
  · have h1 := List.all_eq_true.1 hr t (List.mem_range.2 htlt)
    simp only [Bool.or_eq_true, decide_eq_true_eq] at h1
    rcases h1 with h1 | h1
    · omega
    · obtain ⟨q, hq, hq2⟩ := List.any_eq_true.1 h1
      simp only [Bool.and_eq_true, decide_eq_true_eq] at hq2
      obtain ⟨oq, hoq, e, he, hb, hon⟩ := Region.waitsFor_spec hq2.2
      have : oq = ot := Option.some.inj (hoq.symm.trans hot)
      subst this
      have h2 := hall e he hb
      have hql := List.mem_range.1 hq
      rw [hon, getD_both (inv.tail q hq2.1 (by omega))] at h2
      cases h2
/-- More fuel does no harm. -/
theorem wpAny_more {Q : Exit → Act → World → Prop} : ∀ (f : Nat) (listed : Array Bool) (a : Act) (w : World), wpAny P md ops Q f listed a w → wpAny P md ops Q (f + 1) listed a w
  | 0, listed, a, w, h => ⟨fun _ => h.2, fun i hi => by rw [h.1] at hi; cases hi⟩
  | f + 1, listed, a, w, h => ⟨h.1, fun i hi => wpOp_mono (fun a' w' => wpAny_more f _ a' w') (h.2 i hi)⟩
theorem wpAny_plus {Q : Exit → Act → World → Prop} {g : Nat} {listed : Array Bool} {a : Act} (h : wpAny P md ops Q g listed a w) : ∀ f, wpAny P md ops Q (f + g) listed a w
  | 0 => by rw [Nat.zero_add]; exact h
  | f + 1 => by rw [show f + 1 + g = (f + g) + 1 by omega]; exact wpAny_more _ _ _ _ (wpAny_plus h f)
/-- The first n are listed, no other. -/
def firstN (m n : Nat) : Array Bool := Array.ofFn (n := m) fun j => decide (j.val < n)
/-- All but the first n are listed. -/
def lastN' (m n : Nat) : Array Bool := Array.ofFn (n := m) fun j => decide (n ≤ j.val)
theorem head_any {n g : Nat} {Qe : Act → Prop} {Q : Exit → Act → World → Prop} (hf : fwdB md ops = true) (hs : Region.sinkB md ops n = true) (hr : rootB md ops n = true) (hn : n < ops.size)
    (hE : ∀ a, Qe a → wpAny P md ops Q g (firstN ops.size n) a w) :
    ∀ (f : Nat) (listed l1 : Array Bool) (a : Act), HeadInv md ops n listed → l1.size = ops.size → (∀ j d, j < n → l1.getD j d = listed.getD j d) → (∀ j, n ≤ j → l1.getD j true = true) →
      wpAnyS P md ops w Qe f l1 a → wpAny P md ops Q (f + g) listed a w := by
  have same : ∀ (listed l1 : Array Bool), HeadInv md ops n listed → (∀ j d, j < n → l1.getD j d = listed.getD j d) → (∀ j, n ≤ j → l1.getD j true = true) →
      ∀ i, (i < n ∧ i ∈ Region.ready md ops listed ↔ i ∈ Region.ready md ops l1) := by
    intro listed l1 inv h1 h2 i
    constructor
    · rintro ⟨hi, hm⟩
      obtain ⟨hu, o, ho, hall⟩ := mem_ready.1 hm
      exact mem_ready.2 ⟨(h1 i true hi).trans hu, o, ho, fun e he hb => (h1 e.on false (by have := fwdB_spec hf ho he hb; omega)).trans (hall e he hb)⟩
    · intro hm
      obtain ⟨hu, o, ho, hall⟩ := mem_ready.1 hm
      have hi : i < n := by
        rcases Nat.lt_or_ge i n with h | h
        · exact h
        · rw [h2 i h] at hu; cases hu
      exact ⟨hi, mem_ready.2 ⟨(h1 i true hi).symm.trans hu, o, ho, fun e he hb => (h1 e.on false (by have := fwdB_spec hf ho he hb; omega)).symm.trans (hall e he hb)⟩⟩
  have done : ∀ (listed l1 : Array Bool), HeadInv md ops n listed → (∀ j d, j < n → l1.getD j d = listed.getD j d) → (∀ j, n ≤ j → l1.getD j true = true) →
      Region.ready md ops l1 = [] → listed = firstN ops.size n := by
    intro listed l1 inv h1 h2 he
    have all : ∀ d i, i = d → i < n → listed.getD i false = true := by
      intro d
      induction d using Nat.strongRecOn with
      | _ d ih =>
        intro i hd hi
        cases hl : listed.getD i true with
        | true =>
          have hlt : i < listed.size := by rw [inv.size]; omega
          simp [hlt] at hl ⊢
          exact hl
        | false =>
          exfalso
          have hlt : i < ops.size := by omega
          have hm := mem_ready.2 ⟨(h1 i true hi).trans hl, ops[i], Array.getElem?_eq_getElem hlt, fun e he hb => by
            have hlt2 := fwdB_spec hf (Array.getElem?_eq_getElem hlt) he hb
            exact (h1 e.on false (by omega)).trans (ih e.on (by omega) e.on rfl (by omega))⟩
          rw [he] at hm
          cases hm
    apply Array.ext
    · simp [firstN, inv.size]
    · intro i hi1 hi2
      simp only [firstN, Array.getElem_ofFn]
      rcases Nat.lt_or_ge i n with h | h
      · have := all i i rfl h
        simp [hi1] at this
        simp [this, h]
      · have := inv.tail i h (by rw [← inv.size]; exact hi1)
        simp [hi1] at this
        rw [this]
        simp only [Bool.false_eq, decide_eq_false_iff_not]
        omega
  intro f
  induction f with
  | zero =>
    intro listed l1 a inv hsz h1 h2 h
    rw [done listed l1 inv h1 h2 h.1, Nat.zero_add]
    exact hE a h.2
  | succ f ih =>
    intro listed l1 a inv hsz h1 h2 h
    cases hrl : Region.ready md ops l1 with
    | nil =>
      rw [done listed l1 inv h1 h2 hrl]
      exact wpAny_plus (hE a (h.1 hrl)) _
    | cons x xs =>
      have hx : x ∈ Region.ready md ops l1 := by rw [hrl]; exact List.mem_cons_self
      have hx2 := (same listed l1 inv h1 h2 x).2 hx
      have hxu := (mem_ready.1 hx2.2).1
      rw [show f + 1 + g = (f + g) + 1 by omega]
      refine ⟨fun h0 => by rw [h0] at hx2; exact absurd hx2.2 (by simp), fun i hi => ?_⟩
      have hin : i < n := ready_head hs hr inv hx2.1 hxu hi
      have hil := (same listed l1 inv h1 h2 i).1 ⟨hin, hi⟩
      refine wpOp_of_stOp (fun a' h' => ih (listed.setIfInBounds i true) (l1.setIfInBounds i true) a' (inv.set hi hin) (by simp [hsz]) ?_ ?_ h') (h.2 i hil)
      · intro j d hj
        by_cases hij : i = j
        · subst hij
          have e1 : i < l1.size := by omega
          have e2 : i < listed.size := by rw [inv.size]; omega
          simp [e1, e2]
        · rw [getD_set_ne d hij, getD_set_ne d hij]; exact h1 j d hj
      · intro j hj
        rw [getD_set_ne true (by omega)]
        exact h2 j hj
theorem still_lex {n : Nat} {Qe : Act → Prop} (hsel : Region.noSelect ops = true) : ∀ (l : List Oper) (k : Nat) (listed : Array Bool) (a : Act), (∀ j, j < l.length → l[j]? = ops[k + j]?) →
    Region.lexFrom md ops l.length k listed = true → wpStill P ops w Qe l a → wpAnyS P md ops w Qe l.length listed a
  | [], _, _, _, _, hB, h => ⟨by simpa [Region.lexFrom] using hB, h⟩
  | o :: l, k, listed, a, hl, hB, h => by
    have h0 : ops[k]? = some o := by simpa using (hl 0 (by simp)).symm
    simp only [List.length_cons, Region.lexFrom, Bool.and_eq_true] at hB
    have hst : stOp P ops w k (wpStill P ops w Qe l) a := by unfold stOp; simp only [h0]; exact h
    obtain ⟨v, hy, hK⟩ := yieldsAt_of_stOp h0 hst
    exact wpAnyS_first h0 (Region.noSelect_spec hsel) l.length listed a (Region.free_spec h0 hB.1.2) (by simpa using hB.1.1) hy
      (still_lex (n := n) hsel l (k + 1) _ _ (fun j hj => by have := hl (j + 1) (by simp; omega); simpa [Nat.add_assoc, Nat.add_comm 1 j] using this) hB.2 hK)
/-- Behind the call: what only reads. -/
def tailQ (P : Program) (ops : Array Oper) (Q : Exit → Act → World → Prop) (l : List Oper) : Exit → Act → World → Prop
  | .normal, a, w => wpStill P ops w (fun a' => Q .normal a' w) l a
  | e, a, w => Q e a w
def stcB (md : Region.Mode) (ops : Array Oper) (n : Nat) : Bool :=
  Region.noSelect ops && decide (n < ops.size) && fwdB md ops && Region.sinkB md ops n && rootB md ops n && Region.lexFrom md ops n 0 (lastN' ops.size n) &&
    decide (Region.ready md ops (firstN ops.size n) = [n]) && Region.lexFrom md ops (ops.size - (n + 1)) (n + 1) ((firstN ops.size n).setIfInBounds n true)
theorem wp_of_tailQ {o : Oper} {a : Act} {K : Act → World → Prop} {Q : Exit → Act → World → Prop} {l : List Oper} (h : o.wp P a w K (tailQ P ops Q l)) : o.wp P a w K Q := by
  unfold Oper.wp at *
  generalize (execOp a.eval o).run P w = r at *
  cases r with
  | ok n w' =>
    cases n <;> simp only [Oper.upon] at h ⊢
    case enter f args => exact Calls.mono h (fun e w'' he => by cases e <;> exact he)
    all_goals exact h
  | halt x w' => cases x <;> simp only [Oper.upon] at h ⊢ <;> exact h
theorem wp_region_stc {id : Nat} {Q : Exit → Act → World → Prop} {a : Act} {w : World} {l : List Oper} (n : Nat) (hm : P.follows .mixedOrders = true) (hB : stcB .any l.toArray n = true)
    (h : wpStill P l.toArray { w with drawn := w.drawn + 1 } (fun a' => wpList P l.toArray (tailQ P l.toArray Q (l.drop (n + 1))) ((l.drop n).take 1) a' { w with drawn := w.drawn + 1 }) (l.take n) a) :
    (Code.region id l.toArray true).wp P Q a w := by
  simp only [stcB, Bool.and_eq_true, decide_eq_true_eq] at hB
  obtain ⟨⟨⟨⟨⟨⟨⟨hsel, hn⟩, hf⟩, hs⟩, hr⟩, hlex⟩, hcall⟩, htail⟩ := hB
  have hn' : n < l.length := by simpa using hn
  have htl : (l.take n).length = n := by simp; omega
  refine wp_region_any hm ?_
  have inv0 : HeadInv .any l.toArray n (Array.replicate l.toArray.size false) :=
    ⟨by simp, fun j oj _ hl => (by rw [getD_replicate_false] at hl; cases hl), fun t _ ht => getD_in (by simpa using ht) (getD_replicate_false _ _)⟩
  have H := still_lex (n := n) (md := .any) (w := { w with drawn := w.drawn + 1 }) hsel (l.take n) 0 (lastN' l.toArray.size n) a (fun j hj => by
    have hj' : j < n := by rw [htl] at hj; exact hj
    simp [hj']) (by rw [htl]; exact hlex) h
  rw [htl] at H
  have G := head_any (Q := Q) (g := l.toArray.size - (n + 1) + 1) hf hs hr hn (fun a' ha' => ?_) n (Array.replicate l.toArray.size false) (lastN' l.toArray.size n) a inv0 (by simp [lastN']) ?_ ?_ H
  · rw [show n + (l.toArray.size - (n + 1) + 1) = l.toArray.size by omega] at G
    exact G
  · have hdl : (l.drop (n + 1)).length = l.toArray.size - (n + 1) := by simp
    have ho : l[n]? = some l[n] := List.getElem?_eq_getElem hn'
    have e1 : (l.drop n).take 1 = [l[n]] := by
      rw [List.drop_eq_getElem_cons hn']; rfl
    rw [e1] at ha'
    refine ⟨fun h0 => (by rw [hcall] at h0; cases h0), fun i hi => ?_⟩
    rw [hcall] at hi
    have hin : i = n := by simpa using hi
    subst hin
    have hK : ∀ (a : Act) (w' : World), tailQ P l.toArray Q (l.drop (i + 1)) .normal a w' → wpAny P .any l.toArray Q (l.toArray.size - (i + 1)) ((firstN l.toArray.size i).setIfInBounds i true) a w' := by
      intro a w' ht
      have h2 := wpAnyS_lex (md := .any) hsel (l.drop (i + 1)) (i + 1) ((firstN l.toArray.size i).setIfInBounds i true) a (fun j => by simp [List.getElem?_drop]) (by rw [hdl]; exact htail) ht
      rw [hdl] at h2
      exact wpAny_of_still (fun _ h => h) _ _ _ h2
    have hwo : wpOp P l.toArray Q i (fun a w' => tailQ P l.toArray Q (l.drop (i + 1)) .normal a w') a' { w with drawn := w.drawn + 1 } := by
      unfold wpOp
      have h0 : l.toArray[i]? = some l[i] := by simp [ho]
      simp only [h0]
      unfold wpList at ha'
      split
      · rename_i hw
        simp only [hw, if_true] at ha'
        refine ha'.imp (fun h => wp_of_tailQ h) (fun h => ⟨h.1, ?_⟩)
        obtain ⟨a0, w0, h0⟩ := h.2
        exact ⟨a0, w0, h0⟩
      · rename_i hw
        simp only [hw] at ha'
        exact ha'
    exact wpOp_mono hK hwo
  · intro j d hj
    have e1 : j < l.toArray.size := by omega
    have e2 : j < (lastN' l.toArray.size n).size := by simpa [lastN'] using e1
    have e3 : j < (Array.replicate l.toArray.size false).size := by simpa using e1
    simp only [Array.getD_eq_getD_getElem?, Array.getElem?_eq_getElem e2, Array.getElem?_eq_getElem e3, Option.getD_some]
    simp [lastN']
    omega
  · intro j hj
    rcases Nat.lt_or_ge j l.toArray.size with e1 | e1
    · have e2 : j < (lastN' l.toArray.size n).size := by simpa [lastN'] using e1
      simp only [Array.getD_eq_getD_getElem?, Array.getElem?_eq_getElem e2, Option.getD_some]
      simp [lastN']
      omega
    · have e2 : (lastN' l.toArray.size n).size ≤ j := by simpa [lastN'] using e1
      simp only [Array.getD_eq_getD_getElem?, Array.getElem?_eq_none e2, Option.getD_none]
end
end Go.Proofs.YtgahfpflhhfhfaaGreat

/- A chunk behind its head, of LZMA: the walks. -/
namespace Go.Proofs.YtgahfpflhhfhfaaGreat
open Go.RowKit Rng Win Lz
set_option linter.unusedVariables false
set_option linter.unusedSimpArgs false
theorem chunkOf_inv {k : LK} {S total n st : Nat} {rep : Nat → Nat} {pr : Pr} {C bs t : List UInt8} {y : RS} (hst : st < 12) (hrep : ∀ j, rep j < 4294967296) (h : chunkOf k S total n st rep pr C bs = some (t, y)) : y.Ok ∧ t.length = n := by
  unfold chunkOf at h
  split at h
  · cases h
  · split at h
    · cases h
    · rename_i told x hx
      split at h
      · injection h with h
        injection h with h1 h2
        subst h1 h2
        have hi := chunkGo_inv _ (x := ⟨st, rep, ⟨newDec bs, pr⟩, C⟩) ⟨hst, hrep⟩ (by simp) hx
        exact ⟨hi.1, hi.2.1⟩
      · cases h
/-- A chunk of LZMA behind all that its head says. -/
theorem chunk_tells {w w3 w4 : World} {rb fb wb kb base S B0 : Nat} {k k1 : LK} {x1 : DS} {wv wv1 : Value} {A' : Option Addr} {n' c' used' n un : Nat} {most : Int} {rest bs : List UInt8} {e : Ending}
    (hd : RdS w3 rb fb wb kb base S k1 x1 wv1 A' n' c' used' most) (hf : Frm (RdB rb fb wb k wv) w w3) (hB : ∀ q, RdB rb fb wb k wv q → B0 ≤ q) (hB0 : B0 ≤ w.heap.size)
    (hsb : k1.sb = k.sb) (hlb : k1.lb = k.lb ∨ w.heap.size ≤ k1.lb) (ho : wv1.ownBlock = wv.ownBlock) (hr : BRow w3 B0 A' rest) (hn : n' = rest.length) (hc : n' ≤ c') (hcm : c' ≤ maxLen) (hu : used' + n' = un) (ht : x1.total < 9223372036854775808)
    (h : ChunkEnd k1 base wb kb S wv1 w3 (chunkOf k1 S x1.total n x1.st x1.rep x1.pr x1.C bs) e w4) : BodyEnd rb fb wb kb base S B0 k wv most un w (oneLz S x1 n bs rest) e w4 := by
  obtain ⟨hf4, hend⟩ := h
  have hF : Frm (RdB rb fb wb k wv) w w4 := hf.transW hf4 (by
    rintro q (e | e | e | e) hq
    · exact .inr (.inr (.inr (.inl (e.trans hsb))))
    · rcases hlb with e2 | e2
      · exact .inr (.inr (.inr (.inr (.inl (e.trans e2)))))
      · omega
    · exact .inr (.inr (.inl e))
    · rw [ho] at e; exact .inr (.inr (.inr (.inr (.inr e)))))
  refine ⟨hF, ?_⟩
  have hlk := chunkOf_lk k1 S x1.total n x1.st x1.rep x1.pr x1.C bs
  rw [hd.ks.1, hd.ks.2.1, hd.ks.2.2] at hlk
  unfold oneLz
  rw [← hlk]
  rcases hend with ⟨e1, e2⟩ | ⟨told, y, tv, wv', e1, e2, h1, h2, h3, h4, h5⟩
  · rw [e1]
    obtain ⟨n1, n2, n3, n4, n5, n6, n7, n8, n9, n10⟩ := hd.ne
    refine ⟨e2, ?_⟩
    rw [← hsb]
    refine (hd.ownB ht (un := un) (by omega)).frm hf4 ?_ ?_
    · rintro (e | e | e | e)
      · exact n3 e
      · exact n4 e
      · exact n2 e
      · exact (n10 _ e).1 rfl
    · rintro (e | e | e | e)
      · exact n6 e
      · exact n7 e
      · exact n5 e
      · exact (n10 _ e).2.1 rfl
  · have hy := chunkOf_inv hd.st.1 hd.st.2 e1
    rw [e1]
    obtain ⟨n1, n2, n3, n4, n5, n6, n7, n8, n9, n10⟩ := hd.ne
    obtain ⟨A5, c5, e5, h6, h7, h8⟩ := h1.slice
    have hz3 : B0 ≤ w3.heap.size := Nat.le_trans hB0 hf.size
    have hno : ∀ q, q = rb ∨ q = fb → ¬ (q = k1.sb ∨ q = k1.lb ∨ q = wb ∨ wv1.ownBlock = some q) := by
      rintro q hq (e | e | e | e)
      · rcases hq with e2 | e2 <;> omega
      · rcases hq with e2 | e2 <;> omega
      · rcases hq with e2 | e2 <;> omega
      · have h10 := n10 q e
        rcases hq with e2 | e2 <;> omega
    refine ⟨k1, wv', A', n', c', used', A5, c5, by rw [e2, e5], ⟨hd.p.frm hf4 (hno _ (.inl rfl)), h2, hd.ks, hd.ok, ⟨hy.1.1, hy.1.2⟩, h3, Nat.le_trans hd.b hf4.size, Pts.frm hd.src hf4 (hno _ (.inr rfl))⟩, ?_, hn, hc, hcm, hu, h8, h6, h7, hsb, hlb, ?_⟩
    · refine row_kept hr hf4 hz3 ?_
      rintro q (e | e | e | e)
      · exact hB q (.inr (.inr (.inr (.inl (e.trans hsb)))))
      · rcases hlb with e2 | e2
        · exact hB q (.inr (.inr (.inr (.inr (.inl (e.trans e2))))))
        · omega
      · exact hB q (.inr (.inr (.inl e)))
      · rw [ho] at e; exact hB q (.inr (.inr (.inr (.inr (.inr e)))))
    · intro q hq
      rcases h4 q hq with e | e
      · exact .inl (ho ▸ e)
      · exact .inr (Nat.le_trans hf.size e)
theorem and31 (c : Nat) (h : c < 256) : bits .and .u8 (c : Int) 31 = ((c % 32 : Nat) : Int) := by
  have h1 : bits .and .u8 (c : Int) ((31 : Nat) : Int) = ((c &&& 31 : Nat) : Int) := u8_and_nat c 31 h (by decide)
  rw [show (31 : Int) = ((31 : Nat) : Int) from rfl, h1, show (31 : Nat) = 2 ^ 5 - 1 by rfl, Nat.and_two_pow_sub_one_eq_mod]
set_option maxRecDepth 8000 in
set_option maxHeartbeats 2000000 in
theorem body_lz (rb fb wb kb base S B0 : Nat) (k : LK) (x : DS) (wv : Value) (A : Option Addr) (n c used : Nat) (most : Int) (bs hd : List UInt8) (hb off cc : Nat) (w : World)
    (h : RdS w rb fb wb kb base S k x wv A n c used most) (hB : ∀ q, RdB rb fb wb k wv q → B0 ≤ q) (hB0 : B0 ≤ w.heap.size) (hS : S ≤ 16777216) (hn : n = bs.length) (hr : BRow w B0 A bs) (hc : n ≤ c) (hcm : c ≤ maxLen)
    (hhr : BRow w B0 (some ⟨hb, off, none⟩) hd) (hdl : hd.length = 5) (hcc : (hd.getD 0 0).toNat = cc) (hleg : 128 ≤ cc ∧ cc < 192) (hu : used + n ≤ 4611686018427387904) (ht : x.total < 9223372036854775808) :
    Calls Tryz.prog 85 #[.pointer (some ⟨rb, 0, none⟩), .slice (some ⟨hb, off, none⟩) 5 5] w (BodyEnd rb fb wb kb base S B0 k wv most (used + n) w (oneBody S x cc hd bs)) := by
  have b0 : w.cell? ⟨hb, off, none⟩ = some (.int .u8 ((cc : Nat) : Int)) := by rw [← hcc]; exact hhr.addr (k := 0) (by omega)
  have b1 : w.cell? ⟨hb, off + 1, none⟩ = some (.int .u8 (((hd.getD 1 0).toNat : Nat) : Int)) := hhr.addr (k := 1) (by omega)
  have b2 : w.cell? ⟨hb, off + 2, none⟩ = some (.int .u8 (((hd.getD 2 0).toNat : Nat) : Int)) := hhr.addr (k := 2) (by omega)
  have b3 : w.cell? ⟨hb, off + 3, none⟩ = some (.int .u8 (((hd.getD 3 0).toNat : Nat) : Int)) := hhr.addr (k := 3) (by omega)
  have b4 : w.cell? ⟨hb, off + 4, none⟩ = some (.int .u8 (((hd.getD 4 0).toNat : Nat) : Int)) := hhr.addr (k := 4) (by omega)
  obtain ⟨N, hN⟩ : ∃ N, twoB hd 1 + 1 = N := ⟨_, rfl⟩
  obtain ⟨M, hM⟩ : ∃ M, twoB hd 3 + 1 = M := ⟨_, rfl⟩
  have hNl : N ≤ 65536 := by have := twoB_le hd 1; omega
  have hMl : M ≤ 65536 := by have := twoB_le hd 3; omega
  have hM1 : 1 ≤ M := by omega
  have hl1 := (hd.getD 1 0).toNat_lt
  have hl2 := (hd.getD 2 0).toNat_lt
  have hl3 := (hd.getD 3 0).toNat_lt
  have hl4 := (hd.getD 4 0).toNat_lt
  have e8 := shl8 (hd.getD 1 0)
  have e8b := shl8 (hd.getD 3 0)
  have hsum : ((hd.getD 1 0).toNat : Int) * 256 + ((hd.getD 2 0).toNat : Int) + 1 = (N : Int) := by have e : twoB hd 1 = (hd.getD 1 0).toNat * 256 + (hd.getD 2 0).toNat := rfl; omega
  have hsumb : ((hd.getD 3 0).toNat : Int) * 256 + ((hd.getD 4 0).toNat : Int) + 1 = (M : Int) := by have e : twoB hd 3 = (hd.getD 3 0).toNat * 256 + (hd.getD 4 0).toNat := rfl; omega
  obtain ⟨h1v, hh1⟩ : ∃ v, (hd.getD 1 0).toNat = v := ⟨_, rfl⟩
  obtain ⟨h2v, hh2⟩ : ∃ v, (hd.getD 2 0).toNat = v := ⟨_, rfl⟩
  obtain ⟨h3v, hh3⟩ : ∃ v, (hd.getD 3 0).toNat = v := ⟨_, rfl⟩
  obtain ⟨h4v, hh4⟩ : ∃ v, (hd.getD 4 0).toNat = v := ⟨_, rfl⟩
  rw [hh1] at b1 e8 hsum hl1
  rw [hh2] at b2 hsum hl2
  rw [hh3] at b3 e8b hsumb hl3
  rw [hh4] at b4 hsumb hl4
  have hw1 : IntKind.i64.wrap ((h1v : Int) * 256 + (h2v : Int)) = (h1v : Int) * 256 + (h2v : Int) := Go.IntWalk.i64_in _ (by omega)
  have hw1b : IntKind.i64.wrap ((h3v : Int) * 256 + (h4v : Int)) = (h3v : Int) * 256 + (h4v : Int) := Go.IntWalk.i64_in _ (by omega)
  have hw2 : IntKind.i64.wrap (N : Int) = (N : Int) := Go.IntWalk.i64_in _ (by omega)
  have hw2b : IntKind.i64.wrap (M : Int) = (M : Int) := Go.IntWalk.i64_in _ (by omega)
  have hwa : IntKind.i64.wrap (h1v : Int) = (h1v : Int) := Go.IntWalk.i64_in _ (by omega)
  have hwb : IntKind.i64.wrap (h2v : Int) = (h2v : Int) := Go.IntWalk.i64_in _ (by omega)
  have hwc : IntKind.i64.wrap (h3v : Int) = (h3v : Int) := Go.IntWalk.i64_in _ (by omega)
  have hwd : IntKind.i64.wrap (h4v : Int) = (h4v : Int) := Go.IntWalk.i64_in _ (by omega)
  have a31 := and31 cc (by omega)
  obtain ⟨c31, hc31⟩ : ∃ v, cc % 32 = v := ⟨_, rfl⟩
  have hcl : c31 < 32 := by omega
  rw [hc31] at a31
  have hw31 : IntKind.i64.wrap (c31 : Int) = (c31 : Int) := Go.IntWalk.i64_in _ (by omega)
  have hw32 : IntKind.i64.wrap ((c31 : Int) * 65536) = (c31 : Int) * 65536 := Go.IntWalk.i64_in _ (by omega)
  obtain ⟨T, hT⟩ : ∃ T, N + c31 * 65536 = T := ⟨_, rfl⟩
  have hTl : T ≤ 2097152 := by omega
  have hT1 : 1 ≤ T := by omega
  have hti : (N : Int) + (c31 : Int) * 65536 = (T : Int) := by omega
  have hwt : IntKind.i64.wrap (T : Int) = (T : Int) := Go.IntWalk.i64_in _ (by omega)
  have q1 : ((cc : Int) == 1) = false := beq_eq_false_iff_ne.2 (by omega)
  have q2 : (cc : Int) < 224 := by omega
  have q3 : (3 : Int) ≤ (cc : Int) := by omega
  have q4 : (cc : Int) < 192 := by omega
  have D0 := Lib.hid (h.later ((Frm.refl (fun _ => False) w).drew))
  have F0 : Hid (Frm (fun _ => False) w w.drew) := Lib.hid ((Frm.refl (fun _ => False) w).drew)
  have HR0 : Hid (BRow w.drew B0 A bs) := Lib.hid (hr.drewN 1)
  obtain ⟨r0, r1, r2, r3, r4, r5, r6⟩ := D0.out.cells
  have d3 : w.drew.cell? ⟨hb, off + 3, none⟩ = some (.int .u8 (h3v : Int)) := b3
  have d4 : w.drew.cell? ⟨hb, off + 4, none⟩ = some (.int .u8 (h4v : Int)) := b4
  have HO : Hid (oneBody S x cc hd bs = if bs.length < M then .err 10 else oneLz S (if 160 ≤ cc then x.reset else x) T (bs.take M) (bs.drop M)) := Lib.hid (by
    unfold oneBody
    rw [if_neg (by omega), hM, hN, hc31, hT]
    split
    · rfl
    · rw [if_neg (fun h => by have := h.1; omega)]
      unfold DS.dict DS.set
      rw [if_neg (show ¬ 192 ≤ cc by omega), if_neg (show ¬ cc = 1 by omega), if_neg (show ¬ 224 ≤ cc by omega)])
  have HB := Lib.hid hB
  have HT := Lib.hid (And.intro hTl hT1)
  clear h hcc hB hN hM hhr hh1 hh2 hh3 hh4 hc31 hT b3 b4 r1 r3 r4 r5 r6 hTl hT1
  go_enter Tryz.func85, Tryz.ntmps85
  go_upto_region 2 with fail
  go_still (by kernel_rfl)
  obtain ⟨w0, hw0⟩ : ∃ w0, w.drew = w0 := ⟨_, rfl⟩
  rw [hw0] at D0 F0 HR0 r0 r2 d3 d4
  rw [show ({ heap := w.heap, tape := w.tape, drawn := w.drawn + 1, os := w.os, output := w.output } : World) = w0 from hw0]
  clear hwa e8 hwb hw1 hsum hw2 b0 b1 b2 hw0
  go_upto_region 15 with fail
  have D1 := Lib.hid (D0.out.later ((Frm.refl (fun _ => False) w0).drew))
  have F1 : Hid (Frm (fun _ => False) w w0.drew) := Lib.hid (F0.out.trans ((Frm.refl (fun _ => False) w0).drew))
  have HR1 : Hid (BRow w0.drew B0 A bs) := Lib.hid (HR0.out.drewN 1)
  have hz1 : B0 ≤ w0.drew.heap.size := Nat.le_trans hB0 F1.out.size
  refine wp_region_stc 15 (by kernel_rfl) (by kernel_rfl) ?_
  simp only [List.take_succ_cons, List.take_zero, List.drop_succ_cons, List.drop_zero]
  repeat still_step
  refine wpStill_nil ?_
  change wpList _ _ _ _ _ w0.drew
  obtain ⟨w1, hw1⟩ : ∃ w1, w0.drew = w1 := ⟨_, rfl⟩
  rw [hw1] at D1 F1 HR1 hz1
  rw [hw1]
  clear hw1 D0 F0 HR0 r0 r2 d3 d4 e8b hw1b hwc hwd a31 hw31 hw32 hti
  by_cases hM2 : M ≤ n
  · have HT1 := Lib.hid (take_p fb A n c used M w1 D1.out.src hc hM2 (by omega))
    go_wp2_with fail
    refine HT1.out.mono ?_; rintro e w2 ⟨rfl, hs2, hf2⟩
    go_wp2_with fail
    change wpStill _ _ _ _ _ _
    repeat still_step
    refine wpStill_nil ?_
    have d2 := D1.out.src' hs2 hf2
    have hfb : B0 ≤ fb := HB.out fb (.inr (.inl rfl))
    have hz2 : B0 ≤ w2.heap.size := Nat.le_trans hz1 hf2.size
    have hr2 : BRow w2 B0 A bs := row_kept HR1.out hf2 hz1 (fun q e => by rw [e]; exact hfb)
    obtain ⟨r0, r1, r2, r3, r4, r5, r6⟩ := d2.cells
    have D2 := Lib.hid d2
    have HR2 := Lib.hid hr2
    have F2 : Hid (Frm (· = fb) w w2) := Lib.hid ((F1.out.mono fun _ _ e => e.elim).trans hf2)
    have hMb : M ≤ bs.length := by omega
    clear HT1 hs2 hf2 d2 hr2 D1 F1 HR1 r2 r4 r5 r6
    by_cases h160 : 160 ≤ cc
    · have q5 : (160 : Int) ≤ (cc : Int) := by omega
      have HRs := Lib.hid (reset_s k x.st x.rep x.pr w2 D2.out.s D2.out.ok)
      go_wp2_with fail
      refine HRs.out.mono ?_; rintro e w3 ⟨rfl, lb, hlb, hs3, hf3⟩
      have d3 := D2.out.st' (k' := ⟨k.sb, lb, k.lc, k.lp, k.pb⟩) (y := x.reset) rfl hlb hs3 D2.out.ks ⟨D2.out.ok.a, D2.out.ok.b⟩ ⟨(by decide : (0 : Nat) < 12), fun _ => (by decide : (0 : Nat) < 4294967296)⟩ ⟨rfl, rfl, rfl, rfl⟩ hf3
      have hsb : B0 ≤ k.sb := HB.out _ (.inr (.inr (.inr (.inl rfl))))
      have hr3 : BRow w3 B0 A bs := row_kept HR2.out hf3 hz2 (fun q e => by rw [e]; exact hsb)
      obtain ⟨r0, r1, r2, r3, r4, r5, r6⟩ := d3.cells
      have hz3 : B0 ≤ w3.heap.size := Nat.le_trans hz2 hf3.size
      have F3 : Hid (Frm (RdB rb fb wb k wv) w w3) := Lib.hid ((F2.out.mono fun q _ e => .inr (.inl e)).trans (hf3.mono fun q _ e => .inr (.inr (.inr (.inl e)))))
      have hlb2 : w.heap.size ≤ lb := Nat.le_trans F2.out.size hlb
      have D3 := Lib.hid d3
      have HR3 := Lib.hid hr3
      clear HRs hs3 hf3 d3 hr3 D2 F2 HR2 r2 r4 r5 r6 hlb
      go_upto_region 25 with fail
      have D4 := Lib.hid (D3.out.later ((Frm.refl (fun _ => False) w3).drew))
      have F4 := Lib.hid (F3.out.drew)
      have HR4 : Hid (BRow w3.drew B0 A bs) := Lib.hid (HR3.out.drewN 1)
      have hz4 : B0 ≤ w3.drew.heap.size := hz3
      have HC := Lib.hid (chunk_p ⟨k.sb, lb, k.lc, k.lp, k.pb⟩ x.reset.st x.reset.rep x.reset.pr base wb kb S x.reset.C (bs.take M) wv A T M M x.reset.total w3.drew D4.out.s D4.out.win D4.out.b hS D4.out.ok D4.out.st.1 D4.out.st.2 (take_len hMb).symm ((HR4.out.take M).more hz4) (by rw [take_len hMb]; exact Nat.le_refl _) (by unfold maxLen; omega) (by rw [take_len hMb]; omega) HT.out.2 HT.out.1 ht)
      refine wp_region_stc 14 (by kernel_rfl) (by kernel_rfl) ?_
      simp only [List.take_succ_cons, List.take_zero, List.drop_succ_cons, List.drop_zero]
      repeat still_step
      refine wpStill_nil ?_
      change wpList _ _ _ _ _ w3.drew
      go_wp2_with fail
      refine HC.out.mono ?_; rintro e w5 hce
      obtain ⟨tv, ev, he⟩ : ∃ tv ev, e = .returned (.tuple #[tv, ev]) := by
        rcases hce.2 with ⟨_, h2⟩ | ⟨_, _, tv, _, _, h2, _⟩
        · exact ⟨_, _, h2⟩
        · exact ⟨_, _, h2⟩
      subst he
      go_wp2_with fail
      change wpStill _ _ _ _ _ _
      repeat still_step
      refine wpStill_nil ?_
      go_wp2
      go_ret2
      rw [HO.out, if_neg (by omega), if_pos h160]
      exact chunk_tells D4.out F4.out HB.out hB0 rfl (.inr hlb2) rfl ((HR4.out.drop (by omega))) (by rw [List.length_drop]; omega) (by omega) (by omega) (by omega) ht hce
    · have q5 : (cc : Int) < 160 := by omega
      go_upto_region 25 with fail
      obtain ⟨w3, hw3⟩ : ∃ w3, w2 = w3 := ⟨_, rfl⟩
      subst hw3
      have D3 := D2
      have HR3 := HR2
      have F3 : Hid (Frm (RdB rb fb wb k wv) w w2) := Lib.hid (F2.out.mono fun q _ e => .inr (.inl e))
      have hz3 := hz2
      have D4 := Lib.hid (D3.out.later ((Frm.refl (fun _ => False) w2).drew))
      have F4 := Lib.hid (F3.out.drew)
      have HR4 : Hid (BRow w2.drew B0 A bs) := Lib.hid (HR3.out.drewN 1)
      have hz4 : B0 ≤ w2.drew.heap.size := hz3
      have HC := Lib.hid (chunk_p k x.st x.rep x.pr base wb kb S x.C (bs.take M) wv A T M M x.total w2.drew D4.out.s D4.out.win D4.out.b hS D4.out.ok D4.out.st.1 D4.out.st.2 (take_len hMb).symm ((HR4.out.take M).more hz4) (by rw [take_len hMb]; exact Nat.le_refl _) (by unfold maxLen; omega) (by rw [take_len hMb]; omega) HT.out.2 HT.out.1 ht)
      refine wp_region_stc 14 (by kernel_rfl) (by kernel_rfl) ?_
      simp only [List.take_succ_cons, List.take_zero, List.drop_succ_cons, List.drop_zero]
      repeat still_step
      refine wpStill_nil ?_
      change wpList _ _ _ _ _ w2.drew
      go_wp2_with fail
      refine HC.out.mono ?_; rintro e w5 hce
      obtain ⟨tv, ev, he⟩ : ∃ tv ev, e = .returned (.tuple #[tv, ev]) := by
        rcases hce.2 with ⟨_, h2⟩ | ⟨_, _, tv, _, _, h2, _⟩
        · exact ⟨_, _, h2⟩
        · exact ⟨_, _, h2⟩
      subst he
      go_wp2_with fail
      change wpStill _ _ _ _ _ _
      repeat still_step
      refine wpStill_nil ?_
      go_wp2
      go_ret2
      rw [HO.out, if_neg (by omega), if_neg h160]
      exact chunk_tells D4.out F4.out HB.out hB0 rfl (.inl rfl) rfl ((HR4.out.drop (by omega))) (by rw [List.length_drop]; omega) (by omega) (by omega) (by omega) ht hce
  · have HT1 := Lib.hid (take_no fb A n c used M w1 D1.out.src (by omega))
    go_wp2_with fail
    refine HT1.out.mono ?_; rintro e w2 ⟨rfl, rfl⟩
    go_wp2_with fail
    change wpStill _ _ _ _ _ _
    repeat still_step
    refine wpStill_nil ?_
    go_wp2
    go_ret2
    rw [HO.out, if_pos (by omega)]
    exact ⟨F1.out.mono fun q _ e => e.elim, rfl, D1.out.ownB ht (Nat.le_add_right _ _)⟩
end Go.Proofs.YtgahfpflhhfhfaaGreat
