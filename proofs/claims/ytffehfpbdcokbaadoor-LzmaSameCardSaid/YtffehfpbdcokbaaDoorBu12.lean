/- Texts of this proof, put together: WinD. -/
import Derived.Deep.DeepCutAuto
import Derived.Deep.CutRange
import Derived.Deep.LoopGhost
import Derived.Test.YtffehfpbdcokbaaDoorBu11
set_option linter.unusedVariables false
set_option linter.unusedSimpArgs false
/- The contract of the window's Put: fewer bytes than the window is long. -/
namespace Go.Proofs.YtffehfpbdcokbaaDoor
open Go.RowKit Win
set_option linter.unusedVariables false
set_option linter.unusedSimpArgs false

theorem min2_int {P : Program} (ts : Array TypeId) (t : TypeId) (x y n : Int) (h : min x y = n) (w : World) : (Builtin.min_ ts t #[.int .i64 x, .int .i64 y]).run P w = .ok (.int .i64 n) w := by
  have e : (if y < x then y else x) = n := by split <;> omega
  rw [← e]
  simp [Builtin.min_, Builtin.min2]
theorem BOff.drop {w : World} {B j c : Nat} {N : Nat → Prop} {A : Option Addr} {bs : List UInt8} (h : BOff N A bs) (hr : BRow w B A bs) : BOff N (if c = j then A else A.map (·.add j)) (bs.drop j) := by
  intro hn ad e
  rw [List.length_drop] at hn
  have h0 : 0 < bs.length := by omega
  obtain ⟨b, off, rfl, _⟩ := hr h0
  split at e
  · exact h h0 ad e
  · simp only [Option.map_some, Option.some.injEq] at e
    rw [← e, Opn.add_at]
    exact h h0 ⟨b, off, none⟩ rfl
theorem BOff.step {w : World} {B b sz : Nat} {v v' : Value} {A : Option Addr} {bs : List UInt8} (h : BOff (fun x => x = b ∨ v.ownBlock = some x) A bs) (hr : BRow w B A bs) (hB : B ≤ sz) (hn : v'.ownBlock = v.ownBlock ∨ v'.ownBlock = some sz) : BOff (fun x => x = b ∨ v'.ownBlock = some x) A bs := by
  intro h0 ad e hk
  obtain ⟨c, off, e2, hlt, _⟩ := hr h0
  rcases hk with hk | hk
  · exact h h0 ad e (.inl hk)
  · rcases hn with hn | hn
    · exact h h0 ad e (.inr (hn ▸ hk))
    · rw [hn] at hk
      injection hk with hk
      rw [e2] at e
      injection e with e
      subst e
      simp only at hk
      omega
theorem Frm.trans2 {S S' : Nat → Prop} {a b c : World} (h : Frm S a b) (k : Frm S' b c) (hm : ∀ q, q < a.heap.size → S' q → S q) : Frm S a c :=
  ⟨k.os.trans h.os, k.tape.trans h.tape, k.output.trans h.output, Nat.le_trans h.size k.size, fun i hi hn => (k.block i (Nat.lt_of_lt_of_le hi h.size) (fun hs => hn (hm i hi hs))).trans (h.block i hi hn)⟩
theorem BRow.offN {N : Nat → Prop} {w w' : World} {B : Nat} {A : Option Addr} {bs : List UInt8} (h : BRow w B A bs) (hA : BOff N A bs) (hf : Frm N w w') : BRow w' B A bs := by
  intro hn
  obtain ⟨c, off, rfl, hlt, hcell⟩ := h hn
  exact ⟨c, off, rfl, hlt, fun k hk => (World.cell?_of_block (w := w) (hf.block c (World.block_lt_of_cell? w ⟨c, off + k, none⟩ (hcell k hk)) (hA hn _ rfl))).trans (hcell k hk)⟩
theorem WinAt.off {w : World} {base b k S : Nat} {v : Value} {R : List UInt8} {a : Nat} (h : WinAt w base b k S v R a) : ∀ q, v.ownBlock = some q → q ≠ b := by
  rintro q hq rfl
  rcases h.o.form with ⟨e, _⟩ | ⟨g, cap, cur, e, _, hp, _⟩
  · rw [e] at hq; cases hq
  · rw [e] at hq
    injection hq with hq
    subst hq
    have e2 := hp.symm.trans h.p
    simp at e2

theorem Tryd.size_u8 : (Tryd.prog.info? 5).map (·.size) = some 1 := by kernel_rfl
theorem slice_to (A : Option Addr) (n c m : Nat) (hf : m ≤ n) (hn : n ≤ c) (w : World) :
    (Instr.sliceAt 22 (.slice A n c) none (some (.int .i64 (m : Int))) none).run Tryd.prog w = .ok (.slice A m c) w := by
  simp [go_sem]
  intro h; omega
theorem WinAt.drewN {w : World} {base b k S : Nat} {v : Value} {R : List UInt8} {a : Nat} (h : WinAt w base b k S v R a) (d : Nat) : WinAt (w.drewN d) base b k S v R a := ⟨h.p.drewN d, h.o.drewN d, h.n, h.lt, h.z⟩
/-- The window and what is still tq9 be put. -/
structure PutAt (w0 w : World) (base b k S B : Nat) (v0 : Value) (C0 bs : List UInt8) (v : Value) (R : List UInt8) (a : Nat) (Ad : Option Addr) (cd : Nat) (rest : List UInt8) (j : Nat) : Prop where
  wi : WinAt w base b k S v R a
  c : content R a = lastN S (C0 ++ bs.take j)
  r : rest = bs.drop j
  row : BRow w B Ad rest
  off : BOff (fun x => x = b ∨ v.ownBlock = some x) Ad rest
  cap : rest.length ≤ cd ∧ cd ≤ maxLen
  full : 0 < rest.length → R.length = S
  f : Frm (fun x => x = b ∨ v0.ownBlock = some x) w0 w
  own : v.ownBlock = v0.ownBlock ∨ v.ownBlock = some w0.heap.size
  sz : w0.heap.size ≤ w.heap.size

set_option maxRecDepth 100000 in
set_option maxHeartbeats 2000000 in
theorem put_small_any (base b k S a c B : Nat) (v : Value) (R : List UInt8) (A : Option Addr) (bs : List UInt8) (w : World) (hw : WinAt w base b k S v R a) (hr : BRow w B A bs) (hoff : BOff (fun x => x = b ∨ v.ownBlock = some x) A bs) (hc : bs.length ≤ c) (hcm : c ≤ maxLen) (hlen : bs.length ≤ 16777216) (hbase : base ≤ w.heap.size)
    (hS : bs.length < S) (hS2 : S ≤ 16777216) (hB : B ≤ w.heap.size) :
    Calls Tryd.prog 38 #[.pointer (some ⟨b, 0, none⟩), .slice A bs.length c] w fun e w' => ∃ (v' : Value) (R' : List UInt8) (a' : Nat), e = .returned (.tuple #[]) ∧ WinAt w' base b k S v' R' a' ∧ content R' a' = lastN S (content R a ++ bs) ∧
      Frm (fun x => x = b ∨ v.ownBlock = some x) w w' ∧ (v'.ownBlock = v.ownBlock ∨ v'.ownBlock = some w.heap.size) := by
  obtain ⟨A0, k0, rfl, hc0, hm0, hr0⟩ := hw.o.slice
  have c0 : w.cell? ⟨b, 0, none⟩ = some (.slice A0 R.length k0) := by rw [hw.p.cell]; rfl
  have c2 : w.cell? ⟨b, 2, none⟩ = some (.int .i64 S) := by rw [hw.p.cell]; rfl
  have hRS := hw.n
  have haS := hw.lt
  have HW := Lib.hid hw
  have HR := Lib.hid hr
  have HO := Lib.hid hoff
  obtain ⟨n, hn⟩ : ∃ n : Nat, min (bs.length : Int) ((S : Int) - R.length) = n := ⟨min bs.length (S - R.length), by omega⟩
  have f1 := fun w => min2_int (P := Tryd.prog) #[3, 3] 3 _ _ _ hn w
  have hn1 : n ≤ bs.length ∧ R.length + n ≤ S ∧ (n < bs.length → R.length + n = S) := by omega
  clear hn hw hr hoff hr0
  obtain ⟨n1, n2, n3⟩ := hn1
  have M0 := Lib.hid hm0
  have CM := Lib.hid hcm
  clear hm0 hcm
  have hdS : decide (S ≤ bs.length) = false := decide_eq_false (by omega)
  go_enter Tryd.func38, Tryd.ntmps38
  go_upto_region 4 with (go_at_call 44; refine (dropped_no _ _ _ _ _ _ HW.out.p).mono ?_; rintro e w1 ⟨rfl, rfl⟩)
  go_quiet (fail)
  go_upto_if 54 with fail
  go_cut [1] from 53 to 68 (fun s1 wx => ∃ (Ad : Option Addr) (cd j : Nat) (rest : List UInt8) (v1 : Value) (R1 : List UInt8), s1 = .slice Ad rest.length cd ∧ PutAt w wx base b k S B (.slice A0 R.length k0) (content R a) bs v1 R1 a Ad cd rest j)
  case first =>
    by_cases hn0 : n = 0
    · subst hn0
      go_wp2
      go_meet
      case rel =>
        refine ⟨A, c, 0, bs, .slice A0 R.length k0, R, rfl, ⟨HW.out.drewN _, ?_, by simp, BRow.drewN HR.out _, HO.out, ⟨hc, CM.out⟩, fun h => by omega, (Frm.refl _ _).drewN _, .inl rfl, Nat.le_refl _⟩⟩
        rw [List.take_zero, List.append_nil, lastN_all (by rw [content_length]; exact hRS)]
    · have ha0 : a = 0 := HW.out.z (by omega)
      subst ha0
      have hst := fun w => slice_to A bs.length c n n1 hc w
      have hsf := fun w => slice_from A bs.length c n n1 hc w
      have htl : n = (bs.take n).length := by rw [List.length_take]; omega
      have hrl : bs.length - n = (bs.drop n).length := by rw [List.length_drop]
      have HTL := Lib.hid htl
      have HRL := Lib.hid hrl
      have f0 := HW.out.p.frozen 0
      have hll : R.length + (bs.take n).length ≤ 140737488355328 := by omega
      have hbN : ∀ w' : World, Frm (fun k => (Value.slice A0 R.length k0).ownBlock = some k) w w' → Frm (fun x => x = b ∨ (Value.slice A0 R.length k0).ownBlock = some x) w w' := fun w' h => h.mono fun _ _ hk => .inr hk
      have ROW2 := Lib.hid (HR.out.drop (k := n) (cap := c) hc)
      have OFF2 := Lib.hid (BOff.drop (j := n) (c := c) HO.out HR.out)
      have OFFW := Lib.hid HW.out.off
      clear htl hrl
      obtain ⟨Ad, had⟩ : ∃ Ad, (if c = n then A else A.map (·.add n)) = Ad := ⟨_, rfl⟩
      rw [had] at hsf ROW2 OFF2
      have hpos : (0 : Int) < (n : Int) := by omega
      clear had
      go_wp2
      go_region_law (refine step_append_bytes _ rfl (.tmp 59) (.tmp 62) 22 rfl 5 base Tryd.underlying22 Tryd.info_u8 (.slice A0 R.length k0) R rfl (HW.out.o.drewN _) A n c B (bs.take n) rfl HTL.out (BRow.drewN (HR.out.take n) _) hll hbase ?_; intro v1 w1 hown1 hfrm1 hnew1; obtain ⟨A1, c1, rfl, hc1, hm1, hr1⟩ := hown1.slice; have hp1 := (HW.out.p.drewN _).drew.frm (S := fun k => (Value.slice A0 R.length k0).ownBlock = some k) hfrm1 (fun e => OFFW.out b e rfl); have z0 : w1.cell? ⟨b, 0, none⟩ = some (.slice A0 R.length k0) := (hp1.cell 0).trans rfl; have z1 := hp1.frozen 0)
      all_goals
        have hL1 : (R ++ bs.take n).length = R.length + n := by rw [List.length_append, ← HTL.out]
        have hp2 : Pts (w1.setCell ⟨b, 0, none⟩ (.slice A1 (R.length + n) c1)) b #[.slice A1 (R.length + n) c1, .int .i64 ((0 : Nat) : Int), .int .i64 S, .pointer (some ⟨k, 0, none⟩)] 77 := hp1.set 0 _
        rw [hL1] at hown1
        have hnb : ∀ q, (Value.slice A1 (R.length + n) c1).ownBlock = some q → q ≠ b := by
          rintro q hq rfl
          rcases hown1.form with ⟨e, _⟩ | ⟨g, cp, cur, e, _, hp, _⟩
          · rw [e] at hq; cases hq
          · rw [e] at hq
            injection hq with hq
            subst hq
            have e2 := hp.symm.trans hp1
            simp at e2
        have ho2 := hown1.other (p := ⟨b, 0, none⟩) (fun e => hnb _ e rfl) (.slice A1 (R.length + n) c1)
        have hf2 := ((((Frm.refl (fun x => x = b ∨ (Value.slice A0 R.length k0).ownBlock = some x) w).drewN nq).drew).trans (hfrm1.mono (fun q _ hq => .inr hq))).setCell (p := ⟨b, 0, none⟩) (by left; rfl) (.slice A1 (R.length + n) c1)
        have hnew2 : (Value.slice A1 (R.length + n) c1).ownBlock = (Value.slice A0 R.length k0).ownBlock ∨ (Value.slice A1 (R.length + n) c1).ownBlock = some w.heap.size := by
          rcases hnew1 with h | h
          · left; rw [← h]; cases A1 <;> rfl
          · right; have h' : (Value.slice A1 (R ++ bs.take n).length c1).ownBlock = some w.heap.size := h; rw [← h']; cases A1 <;> rfl
        have P2 := Lib.hid hp2
        have O2 := Lib.hid ho2
        have F2 := Lib.hid hf2
        have N2 := Lib.hid hnew2
        have L1 := Lib.hid hL1
        have NB := Lib.hid hnb
        clear hp1 hp2 hown1 hnb ho2 hf2 hnew1 hnew2 hfrm1 z0 z1 hr1 hL1 hst hll hbN
        go_wp2
        go_meet
        case rel =>
          refine ⟨Ad, c - n, n, bs.drop n, .slice A1 (R.length + n) c1, R ++ bs.take n, by rw [← HRL.out], ⟨⟨P2.out, O2.out, by rw [L1.out]; exact n2, by omega, fun _ => rfl⟩, ?_, rfl, BRow.offN ROW2.out OFF2.out F2.out, BOff.step OFF2.out ROW2.out hB N2.out, ⟨by rw [← HRL.out]; omega, by have := CM.out; omega⟩, fun h => by rw [← HRL.out] at h; rw [L1.out]; exact n3 (by omega), F2.out, N2.out, F2.out.size⟩⟩
          rw [content_zero, content_zero, lastN_all (by rw [L1.out]; exact n2)]
  case rest =>
    obtain ⟨Ad, cd, j, rest, v1, R1, rfl, hpa⟩ := hcut
    have PA := Lib.hid hpa
    clear hpa f1 c0 c2
    go_wp2
    go_loopg [1] bs.length (fun gn s1 wr => ∃ (Ad : Option Addr) (cd j : Nat) (rest : List UInt8) (v1 : Value) (R1 : List UInt8) (a1 : Nat), s1 = .slice Ad rest.length cd ∧ rest.length ≤ gn ∧ PutAt w wr base b k S B (.slice A0 R.length k0) (content R a) bs v1 R1 a1 Ad cd rest j)
    case atStart => exact ⟨Ad, cd, j, rest, v1, R1, a, rfl, by rw [PA.out.r, List.length_drop]; omega, PA.out⟩
    case round =>
      obtain ⟨Ad, cd, j, rest, v1, R1, a1, rfl, hgn, hpa⟩ := hrel
      have P1 := Lib.hid hpa
      clear hpa
      by_cases hr0 : rest.length = 0
      · have hrest : rest = [] := List.eq_nil_of_length_eq_zero hr0
        have hj : bs.length ≤ j := by
          have := P1.out.r
          rw [hrest] at this
          have h2 := congrArg List.length this
          rw [List.length_drop] at h2
          simp at h2; omega
        have hcon : content R1 a1 = lastN S (content R a ++ bs) := by
          have h := P1.out.c
          rwa [List.take_of_length_le hj] at h
        have HC := Lib.hid hcon
        clear hcon hj hrest
        have hz : ((rest.length : Int) : Int) = 0 := by omega
        go_wp2
        go_end0
        exact ⟨v1, R1, a1, rfl, P1.out.wi, HC.out, P1.out.f, P1.out.own⟩
      · have hfull := P1.out.full (by omega)
        have ha1 := P1.out.wi.lt
        rcases P1.out.wi.o.form with ⟨_, hnil⟩ | ⟨g, cap, cur, rfl, hbg, hpg, hn1', hn2', hcs, hcc⟩
        · rw [hnil] at hfull; simp at hfull; omega
        · clear hcc hcs hpg cur
          obtain ⟨n2, hn2⟩ : ∃ n2, n2 = min rest.length (R1.length - a1) := ⟨_, rfl⟩
          have c0 : wr.cell? ⟨b, 0, none⟩ = some (.slice (some ⟨g, 0, none⟩) R1.length cap) := by rw [P1.out.wi.p.cell]; rfl
          have c1 : wr.cell? ⟨b, 1, none⟩ = some (.int .i64 a1) := by rw [P1.out.wi.p.cell]; rfl
          have hsa : ∀ w, (Instr.sliceAt 22 (.slice (some ⟨g, 0, none⟩) R1.length cap) (some (.int .i64 (a1 : Int))) none none).run Tryd.prog w = .ok (.slice (some ⟨g, a1, none⟩) (R1.length - a1) (cap - a1)) w := by
            intro w
            rw [slice_from _ _ _ _ (by omega) hn1', if_neg (by omega)]
            simp [Opn.add_at]
          have hsf := fun w => slice_from Ad rest.length cd n2 (by omega) P1.out.cap.1 w
          have hrl : rest.length - n2 = (rest.drop n2).length := by rw [List.length_drop]
          have HRL := Lib.hid hrl
          have ROW2 := Lib.hid (P1.out.row.drop (k := n2) (cap := cd) P1.out.cap.1)
          have OFF2 := Lib.hid (BOff.drop (j := n2) (c := cd) P1.out.off P1.out.row)
          have OFFW := Lib.hid P1.out.wi.off
          obtain ⟨Ae, hae⟩ : ∃ Ae, (if cd = n2 then Ad else Ad.map (·.add n2)) = Ae := ⟨_, rfl⟩
          rw [hae] at hsf ROW2 OFF2
          have hcn : (n2 : Int) ≤ (cd : Int) := by have := P1.out.cap.1; omega
          have hne : ((S : Int) == 0) = false := beq_eq_false_iff_ne.2 (by omega)
          obtain ⟨q2, hq2⟩ : ∃ q2, (a1 + n2) % S = q2 := ⟨_, rfl⟩
          have hmod : ((a1 : Int) + n2) % (S : Int) = (q2 : Int) := by rw [← hq2, Int.natCast_emod]; congr 1
          have HQ2 := Lib.hid hq2
          clear hq2
          have HN2 := Lib.hid hn2
          have HCP := Lib.hid hn2'
          have hgb : g ≠ b := fun e => OFFW.out g rfl e
          have HGB := Lib.hid hgb
          have hpos : (0 : Int) < (rest.length : Int) := by omega
          have hn2le : n2 ≤ rest.length ∧ a1 + n2 ≤ S ∧ 1 ≤ n2 := by omega
          have hFULL := Lib.hid hfull
          have hapl : (a1 : Int) ≤ (R1.length : Int) := by omega
          clear hrl hae hn2 hn2' hgb hfull
          go_wp2
          go_region_law (refine step_copy_bytes _ rfl (.tmp 80) (.tmp 81) 22 rfl 5 base Tryd.underlying22 Tryd.size_u8 g cap a1 R1 (cap - a1) rfl (P1.out.wi.o.drewN 1) (by have := hFULL.out; omega) Ad rest.length cd B n2 rest rfl rfl (BRow.drewN P1.out.row 1) (by omega) HN2.out ?_; intro w5 hown5 hfrm5)
          all_goals
            have hp5 := P1.out.wi.p.drew.frm (S := fun k => k = g) hfrm5 (fun e => HGB.out e.symm)
            have d1 : w5.cell? ⟨b, 1, none⟩ = some (.int .i64 a1) := by rw [hp5.cell]; rfl
            have d2 : w5.cell? ⟨b, 2, none⟩ = some (.int .i64 S) := by rw [hp5.cell]; rfl
            have d3 := hp5.frozen 1
            have P5 := Lib.hid hp5
            have O5 := Lib.hid hown5
            have F5 := Lib.hid hfrm5
            have e1 : w5.drew.cell? ⟨b, 1, none⟩ = some (.int .i64 a1) := d1
            have e2 : w5.drew.cell? ⟨b, 2, none⟩ = some (.int .i64 S) := d2
            have e3 : w5.drew.frozen? ⟨b, 1, none⟩ = false := d3
            clear hp5 hown5 hfrm5 c0 c1 hsa
            go_wp2
            refine QTail.wp_region_qtail_lit 14 (by kernel_rfl) (by kernel_rfl) ?_
            simp only [List.take_succ_cons, List.take_zero, List.drop_succ_cons, List.drop_zero]
            repeat (go_big_quiet_step (fail))
            refine wpQuiet_nil ?_
            rintro w' ⟨nr, rfl⟩
            go_wp2
            go_roundg (rest.length - n2)
            case measure => omega
            case rel =>
              have hol : (over R1 rest a1 n2).length = R1.length := over_length (by have := hFULL.out; omega) (by omega)
              have hp6 : Pts ((w5.drewN nr).setCell ⟨b, 1, none⟩ (.int .i64 (q2 : Int))) b #[.slice (some ⟨g, 0, none⟩) R1.length cap, .int .i64 (q2 : Int), .int .i64 S, .pointer (some ⟨k, 0, none⟩)] 77 := (P5.out.drewN nr).set 1 _
              have ho6 : OwnB ((w5.drewN nr).setCell ⟨b, 1, none⟩ (.int .i64 (q2 : Int))) 5 base (.slice (some ⟨g, 0, none⟩) R1.length cap) (over R1 rest a1 n2) := by
                have h := (O5.out.drewN nr).other (p := ⟨b, 1, none⟩) (fun e => HGB.out (by injection e)) (.int .i64 (q2 : Int))
                rw [hol] at h
                exact h
              have hf6 : Frm (fun x => x = b ∨ (Value.slice (some ⟨g, 0, none⟩) R1.length cap).ownBlock = some x) wr ((w5.drewN nr).setCell ⟨b, 1, none⟩ (.int .i64 (q2 : Int))) :=
                ((((Frm.refl _ wr).drew).trans (F5.out.mono (fun q _ hq => .inr (by rw [hq]; rfl)))).drewN nr).setCell (by left; rfl) _
              have hqS : q2 < S := by rw [← HQ2.out]; exact Nat.mod_lt _ (by omega)
              refine ⟨Ae, cd - n2, j + n2, rest.drop n2, .slice (some ⟨g, 0, none⟩) R1.length cap, over R1 rest a1 n2, q2, by rw [← HRL.out], by rw [← HRL.out]; exact Nat.le_refl _,
                ⟨⟨hp6, ho6, by rw [hol]; exact Nat.le_of_eq hFULL.out, hqS, fun h => by rw [hol, hFULL.out] at h; omega⟩, ?_, ?_, BRow.offN ROW2.out OFF2.out hf6, OFF2.out, ⟨by rw [← HRL.out]; have := P1.out.cap.1; omega, by have := P1.out.cap.2; omega⟩, fun _ => by rw [hol]; exact hFULL.out, ?_, P1.out.own, Nat.le_trans P1.out.sz hf6.size⟩⟩
              · have h1 := over_content (R := R1) (b := rest) (a := a1) (n := n2) (by have := hFULL.out; omega) (by omega) (by have := hFULL.out; omega) (by have := hFULL.out; omega)
                rw [hFULL.out, HQ2.out, P1.out.c, lastN_lastN, List.append_assoc] at h1
                rw [h1, List.take_add, P1.out.r]
              · rw [P1.out.r, List.drop_drop]
              · refine Frm.trans2 P1.out.f hf6 (fun q hq hk => ?_)
                rcases hk with hk | hk
                · exact .inl hk
                · rcases P1.out.own with h | h
                  · exact .inr (h ▸ hk)
                  · rw [h] at hk
                    injection hk with hk
                    omega
end Go.Proofs.YtffehfpbdcokbaaDoor
