/- Texts of this proof, put together: MaH, LcP, LcR, RngQ, RngF, RngG, RngH, RngI, RngJ, RngK, RActs, RngV, LcS, LcT, LiA, LiB, LiP, LiC, LiD, LiE, LpA, LpB, LpC, LpP, LpD. -/
import Derived.RangeFuncBound
import Derived.RangeFuncCalls
import Derived.RangeFuncLeaves
import Derived.OwnWalkIn
import Derived.TacticsInMore
import Derived.LoopNIn
import Derived.LoopIn
import Derived.Sort.LoopGhostIn
import Derived.Sort.CutIn
import Derived.BigFrameIn
import Derived.Deep.DeepCutAuto
import Derived.Deep.CutRange
import Derived.Test.YtefbjamepbkklaaOpen
import Derived.Test.YtefbjamepbkklaaBu1
import Derived.Test.YtefbjamepbkklaaBu2
set_option linter.unusedVariables false
set_option linter.unusedSimpArgs false
/- Chunks as an iterator: the walk. -/
namespace Go.Proofs.Ytefbjamepbkklaa
open Go.RowKit Rng Win Lz
set_option linter.unusedVariables false
set_option linter.unusedSimpArgs false
attribute [local go_sem] Oper.semAt_some
/-- What is handed over in one round. -/
structure Ck where
  val : Value
  b : List UInt8
  e : Nat
def ckEnc (x : Ck) : Array Value := #[x.val, .int .i64 (x.e : Int)]
def ckP (x : Ck) : List UInt8 × Nat := (x.b, x.e)
def sumC (pre : List Ck) : Nat := (pre.map (·.b.length)).sum
def PxC (fb un most : Nat) (pre : List Ck) (x : Ck) (W : World) : Prop :=
  (∃ A n c used, SrcAt W fb A n c used ∧ used ≤ un) ∧ ∃ Ab cb, x.val = .slice Ab x.b.length cb ∧ BRow W W.heap.size Ab x.b ∧ x.b.length ≤ cb ∧ cb ≤ maxLen ∧ sumC pre + x.b.length ≤ most ∧ (x.e ≠ 0 → x.val = .slice none 0 0)
def SC (E : List (List UInt8 × Nat) × Option (List UInt8)) (fb un B0 : Nat) (N : Nat → Prop) (xs : List Ck) (W : World) : Prop :=
  xs.map ckP = E.1 ∧ ∀ rest, E.2 = some rest → ∃ A n c used, SrcAt W fb A n c used ∧ used + n = un ∧ BRow W B0 A rest ∧ n = rest.length ∧ n ≤ c ∧ c ≤ maxLen
def SpC (E : List (List UInt8 × Nat) × Option (List UInt8)) (pre : List Ck) : Prop := pre.map ckP <+: E.1
theorem pxC_err (fb un most : Nat) (pre : List Ck) (e : Nat) (W : World) (hs : ∃ A n c used, SrcAt W fb A n c used ∧ used ≤ un) (h : sumC pre ≤ most) : PxC fb un most pre ⟨.slice none 0 0, [], e⟩ W :=
  ⟨hs, none, 0, rfl, BRow.nil _ _ _, Nat.le_refl _, Nat.zero_le _, by simpa using h, fun _ => rfl⟩
theorem sumC_snoc (pre : List Ck) (x : Ck) : sumC (pre ++ [x]) = sumC pre + x.b.length := by simp [sumC]
theorem BRow.setI64 {w : World} {B : Nat} {A : Option Addr} {bs : List UInt8} {p : Addr} {z : Int} (h : BRow w B A bs) (hp : w.cell? p = some (.int .i64 z)) (v : Value) : BRow (w.setCell p v) B A bs := by
  intro h0
  obtain ⟨b, off, rfl, hb, hc⟩ := h h0
  refine ⟨b, off, rfl, hb, fun k hk => ?_⟩
  rw [World.cell?_setCell_other]
  · exact hc k hk
  · intro e
    rw [e, hc k hk] at hp
    simp [byteV] at hp
/-- A chunk behind its head. -/
theorem body_p (rb fb wb kb base S B0 : Nat) (k : LK) (x : DS) (wv : Value) (A : Option Addr) (n c used : Nat) (most : Int) (bs hd : List UInt8) (ha : Option Addr) (cc m : Nat) (w : World)
    (h : RdS w rb fb wb kb base S k x wv A n c used most) (hB : ∀ q, RdB rb fb wb k wv q → B0 ≤ q) (hB0 : B0 ≤ w.heap.size) (hS : S ≤ 16777216) (hn : n = bs.length) (hr : BRow w B0 A bs) (hc : n ≤ c) (hcm : c ≤ maxLen)
    (hhr : BRow w B0 ha hd) (hm : m = headN cc) (hdl : hd.length = m) (hcc : (hd.getD 0 0).toNat = cc) (hleg : m ≠ 0 ∧ m ≠ 1) (hu : used + n ≤ 4611686018427387904) (ht : x.total < 9223372036854775808) :
    Calls Try.prog 50 #[.pointer (some ⟨rb, 0, none⟩), .slice ha m m] w (BodyEnd rb fb wb kb base S B0 k wv most (used + n) w (oneBody S x cc hd bs)) := by
  obtain ⟨hb, off, rfl, _, _⟩ := hhr (by omega)
  have hcase : (cc = 1 ∨ cc = 2) ∧ m = 3 ∨ (128 ≤ cc ∧ cc < 192) ∧ m = 5 ∨ 192 ≤ cc ∧ m = 6 := by
    unfold headN at hm
    repeat' split at hm
    all_goals omega
  rcases hcase with ⟨h1, rfl⟩ | ⟨h1, rfl⟩ | ⟨h1, rfl⟩
  · exact body_raw rb fb wb kb base S B0 k x wv A n c used most bs hd hb off cc w h hB hB0 hS hn hr hc hcm hhr hdl hcc h1 hu ht
  · exact body_lz rb fb wb kb base S B0 k x wv A n c used most bs hd hb off cc w h hB hB0 hS hn hr hc hcm hhr hdl hcc h1 hu ht
  · exact body_set rb fb wb kb base S B0 k x wv A n c used most bs hd hb off cc w h hB hB0 hS hn hr hc hcm hhr hdl hcc h1 hu ht
set_option maxRecDepth 8000 in
set_option maxHeartbeats 10000000 in
theorem chunks_seq (n rb fb wb kb base S B0 : Nat) (k : LK) (x : DS) (wv : Value) (A : Option Addr) (nn c used most un : Nat) (bs : List UInt8) (w : World) (hn1 : 2 ≤ n)
    (h : RdS w rb fb wb kb base S k x wv A nn c used (most : Int)) (hB : ∀ q, RdB rb fb wb k wv q → B0 ≤ q) (hB0 : B0 ≤ w.heap.size) (hS : S ≤ 16777216) (hn : nn = bs.length) (hr : BRow w B0 A bs) (hc : nn ≤ c) (hcm : c ≤ maxLen)
    (hu : used + nn = un) (hub : un ≤ 4611686018427387904) (ht : x.total + most ≤ 4611686018427387904) :
    SeqN Fence.wide n Try.prog 31 #[.pointer (some ⟨rb, 0, none⟩)] ckEnc (PxC fb un most) (SC (evGo S most (bs.length + 1) x 0 bs) fb un B0) (SpC (evGo S most (bs.length + 1) x 0 bs)) B0 (RdB rb fb wb k wv) w := by
  intro l J Jx W hW hJ hY h0
  have hd : RdS W rb fb wb kb base S k x wv A nn c used (most : Int) := h.frm hW (fun q hq hn => hn.1 hq)
  have hr' : BRow W B0 A bs := row_kept hr hW hB0 (fun q hq => hq.2)
  have hz : B0 ≤ W.heap.size := Nat.le_trans hB0 hW.size
  obtain ⟨E, hE⟩ : ∃ E, evGo S most (bs.length + 1) x 0 bs = E := ⟨_, rfl⟩
  rw [hE]
  obtain ⟨T0, hT0⟩ : ∃ T, x.total = T := ⟨_, rfl⟩
  have HJ := Lib.hid hJ
  have HY := Lib.hid hY
  have HS : Hid (J (RdB rb fb wb k wv) [] W ∧ RdS W rb fb wb kb base S k x wv A nn c used (most : Int) ∧ BRow W B0 A bs ∧ nn = bs.length ∧ nn ≤ c ∧ c ≤ maxLen ∧ used + nn = un ∧ (∀ q, RdB rb fb wb k wv q → B0 ≤ q) ∧ B0 ≤ W.heap.size ∧ x.total ≤ T0) :=
    Lib.hid ⟨h0, hd, hr', hn, hc, hcm, hu, hB, hz, by omega⟩
  have HE := Lib.hid hE
  have HT : Hid (T0 + most ≤ 4611686018427387904) := Lib.hid (by omega)
  clear h hB hB0 hn hr hc hcm hu ht hW hJ hY h0 hd hr' hz hE hT0
  refine callsIn_of_wp Try.func31 rfl trivial ?_ rfl
  simp only [Try.ntmps31, List.size_toArray, List.length_cons, List.length_nil, Nat.reduceAdd, Nat.reduceSub, Array.replicate_succ, Array.replicate_zero, List.push_toArray, List.append_toArray, List.nil_append, List.cons_append]
  gi_wp2
  gi_loopg [4] (bs.length + 1) (fun gf tv wr => ∃ (pre : List Ck) (told : Nat) (x1 : DS) (k1 : LK) (wv1 : Value) (A1 : Option Addr) (n1 c1 used1 : Nat) (src : List UInt8), tv = .int .i64 (told : Int) ∧ J (RdB rb fb wb k1 wv1) pre wr ∧ RdS wr rb fb wb kb base S k1 x1 wv1 A1 n1 c1 used1 (most : Int) ∧ BRow wr B0 A1 src ∧ n1 = src.length ∧ n1 ≤ c1 ∧ c1 ≤ maxLen ∧ used1 + n1 = un ∧ (∀ q, RdB rb fb wb k1 wv1 q → B0 ≤ q) ∧ B0 ≤ wr.heap.size ∧ x1.total ≤ T0 + told ∧ src.length < gf ∧ told ≤ most ∧ told = sumC pre ∧ E.1 = pre.map ckP ++ (evGo S most gf x1 told src).1 ∧ E.2 = (evGo S most gf x1 told src).2)
  case atStart =>
    obtain ⟨h1, h2, h3, h4, h5, h6, h7, h8, h9, h10⟩ := HS.out
    exact ⟨[], 0, x, k, wv, A, nn, c, used, bs, rfl, h1, h2, h3, h4, h5, h6, h7, h8, h9, h10, by omega, by omega, rfl, by rw [HE.out]; rfl, by rw [HE.out]⟩
  case round =>
    obtain ⟨pre, told, x1, k1, wv1, A1, n1, c1, used1, src, rfl, hj, hd, hr, hn, hc, hcm, hu, hB, hz, htot, hlen, htm, hts, hE1, hE2⟩ := hrel
    clear HS HE
    obtain ⟨g, rfl⟩ : ∃ g, gk = g + 1 := ⟨gk - 1, by omega⟩
    have HJ1 := Lib.hid hj
    have HD := Lib.hid hd
    have HR := Lib.hid hr
    have HB := Lib.hid hB
    have HU := Lib.hid hu
    have HTS := Lib.hid hts
    have h1n : 1 ≤ n := by omega
    obtain ⟨r0, r1, r2, r3, r4, r5, r6⟩ := hd.cells
    have hend : ∀ (e : Nat) (xk : Ck) (W' : World), evGo S most (g + 1) x1 told src = ([([], e)], none) → xk.b = [] → xk.e = e → ((J (RdB rb fb wb k1 wv1) (pre ++ [xk]) W' → SC E fb un B0 (RdB rb fb wb k1 wv1) (pre ++ [xk]) W') ∧ SpC E (pre ++ [xk])) := by
      intro e xk W' hev hxb hxe
      rw [hev] at hE1 hE2
      have hm : (pre ++ [xk]).map ckP = E.1 := by rw [List.map_append, hE1]; simp [ckP, hxb, hxe]
      exact ⟨fun _ => ⟨hm, fun rest hrst => by rw [hE2] at hrst; cases hrst⟩, by unfold SpC; rw [hm]; exact List.prefix_refl _⟩
    have HEND := Lib.hid hend
    have HE1 := Lib.hid hE1
    have HE2 := Lib.hid hE2
    clear hj hd hr hB hu hts hend hE1 hE2 r0 r1 r3 r4
    have HYE : Hid (∀ (e : Nat) (W1 : World), (∃ A n c used, SrcAt W1 fb A n c used ∧ used ≤ un) → J (RdB rb fb wb k1 wv1) pre W1 → YieldAt Fence.wide (n - 1) Try.prog l #[.slice none 0 0, .int .i64 (e : Int)] W1 fun e' W' =>
        (e' = .returned (.bool true) ∧ J (RdB rb fb wb k1 wv1) (pre ++ [⟨.slice none 0 0, [], e⟩]) W' ∧ Frm (fun q => ¬ RdB rb fb wb k1 wv1 q ∧ B0 ≤ q) W1 W') ∨ (e' = .returned (.bool false) ∧ Jx (RdB rb fb wb k1 wv1) (pre ++ [⟨.slice none 0 0, [], e⟩]) W')) := Lib.hid
      (fun e W1 hs hj => HY.out _ pre ⟨.slice none 0 0, [], e⟩ W1 hj (pxC_err fb un most pre e W1 hs (by rw [← HTS.out]; exact htm)))
    by_cases hs0 : src.length < 1
    · have hev : evGo S most (g + 1) x1 told src = ([([], 10)], none) := by
        unfold evGo one
        rw [if_pos hs0]
      obtain ⟨fn, tmps, assign, body, hy, hR⟩ := HYE.out 10 wr ⟨_, _, _, _, HD.out.src, by have := HU.out; omega⟩ HJ1.out
      replace hy : (Instr.yield l #[.slice none 0 0, .int .i64 10]).run Try.prog wr = .ok (.round l fn tmps assign body) wr := hy
      have HP := Lib.hid (peek_p fb A1 n1 c1 used1 1 wr HD.out.src hc)
      rw [if_neg (by omega)] at HP
      have HEV := Lib.hid hev
      clear hev
      gi_wp2_with (refine ⟨trivial, ?_⟩; gi_at_call 47; refine (callsIn_wide.2 HP.out).mono ?_; rintro e w2 ⟨rfl, hw⟩; subst hw)
      refine hR.mono ?_
      rintro e W' (⟨rfl, hJ', hk⟩ | ⟨rfl, hJx'⟩)
      · gi_wp2
        refine bodyPost_ret (results_none rfl _ _ _) rfl ?_
        exact ⟨⟨_, rfl⟩, .inl ⟨_, _, (HEND.out 10 _ W' HEV.out rfl rfl).1 hJ', hJ'⟩⟩
      · gi_wp2
        refine bodyPost_ret (results_none rfl _ _ _) rfl ?_
        exact ⟨⟨_, rfl⟩, .inr ⟨_, _, (HEND.out 10 _ W' HEV.out rfl rfl).2, hJx'⟩⟩
    · obtain ⟨ab, ao, rfl, hab, hcell⟩ := HR.out (by omega)
      obtain ⟨c0, hc0⟩ : ∃ c, (src.getD 0 0).toNat = c := ⟨_, rfl⟩
      have hc256 : c0 < 256 := by rw [← hc0]; exact (src.getD 0 0).toNat_lt
      have b0 : wr.cell? ⟨ab, ao, none⟩ = some (.int .u8 (c0 : Int)) := by rw [← hc0]; exact hcell 0 (by omega)
      obtain ⟨m, hm⟩ : ∃ m, headN c0 = m := ⟨_, rfl⟩
      have hm6 : m ≤ 6 := by rw [← hm]; exact headN_le c0
      have HP := Lib.hid (peek_p fb (some ⟨ab, ao, none⟩) n1 c1 used1 1 wr HD.out.src hc)
      rw [if_pos (by omega)] at HP
      have HH := Lib.hid (head_p c0 wr hc256)
      rw [hm] at HH
      have hone : one S x1 src = if m = 0 then .err 11 else if src.length < m then .err 10 else if m = 1 then .fin (src.drop 1) else if badHead x1 c0 then .err 11 else oneBody S x1 c0 (src.take m) (src.drop m) := by
        unfold one
        rw [if_neg hs0, hc0, hm]
      have HO := Lib.hid hone
      have HM := Lib.hid hm
      have HC0 := Lib.hid hc0
      clear hone hm hc0 hcell
      by_cases hm0 : m = 0
      · have hev : evGo S most (g + 1) x1 told src = ([([], 11)], none) := by
          unfold evGo
          rw [HO.out, if_pos hm0]
        obtain ⟨fn, tmps, assign, body, hy, hR⟩ := HYE.out 11 wr ⟨_, _, _, _, HD.out.src, by have := HU.out; omega⟩ HJ1.out
        replace hy : (Instr.yield l #[.slice none 0 0, .int .i64 11]).run Try.prog wr = .ok (.round l fn tmps assign body) wr := hy
        have HEV := Lib.hid hev
        have q0 : ((m : Int) == 0) = true := beq_iff_eq.2 (by omega)
        clear hev
        gi_wp2_with (first | (refine ⟨trivial, ?_⟩; gi_at_call 47; refine (callsIn_wide.2 HP.out).mono ?_; rintro e w2 ⟨rfl, hw⟩; subst hw) | (refine ⟨trivial, ?_⟩; gi_at_call 48; refine (callsIn_wide.2 HH.out).mono ?_; rintro e w2 ⟨rfl, hw⟩; subst hw))
        refine hR.mono ?_
        rintro e W' (⟨rfl, hJ', hk⟩ | ⟨rfl, hJx'⟩)
        · gi_wp2
          refine bodyPost_ret (results_none rfl _ _ _) rfl ?_
          exact ⟨⟨_, rfl⟩, .inl ⟨_, _, (HEND.out 11 _ W' HEV.out rfl rfl).1 hJ', hJ'⟩⟩
        · gi_wp2
          refine bodyPost_ret (results_none rfl _ _ _) rfl ?_
          exact ⟨⟨_, rfl⟩, .inr ⟨_, _, (HEND.out 11 _ W' HEV.out rfl rfl).2, hJx'⟩⟩
      have q0 : ((m : Int) == 0) = false := beq_eq_false_iff_ne.2 (by omega)
      by_cases hml : src.length < m
      · have hev : evGo S most (g + 1) x1 told src = ([([], 10)], none) := by
          unfold evGo
          rw [HO.out, if_neg hm0, if_pos hml]
        obtain ⟨fn, tmps, assign, body, hy, hR⟩ := HYE.out 10 wr ⟨_, _, _, _, HD.out.src, by have := HU.out; omega⟩ HJ1.out
        replace hy : (Instr.yield l #[.slice none 0 0, .int .i64 10]).run Try.prog wr = .ok (.round l fn tmps assign body) wr := hy
        have HEV := Lib.hid hev
        have HT1 := Lib.hid (take_no fb (some ⟨ab, ao, none⟩) n1 c1 used1 m wr HD.out.src (by omega))
        clear hev
        gi_wp2_with (first | (refine ⟨trivial, ?_⟩; gi_at_call 47; refine (callsIn_wide.2 HP.out).mono ?_; rintro e w2 ⟨rfl, hw⟩; subst hw) | (refine ⟨trivial, ?_⟩; gi_at_call 48; refine (callsIn_wide.2 HH.out).mono ?_; rintro e w2 ⟨rfl, hw⟩; subst hw) | (refine ⟨trivial, ?_⟩; gi_at_call 49; refine (callsIn_wide.2 HT1.out).mono ?_; rintro e w2 ⟨rfl, hw⟩; subst hw))
        refine hR.mono ?_
        rintro e W' (⟨rfl, hJ', hk⟩ | ⟨rfl, hJx'⟩)
        · gi_wp2
          refine bodyPost_ret (results_none rfl _ _ _) rfl ?_
          exact ⟨⟨_, rfl⟩, .inl ⟨_, _, (HEND.out 10 _ W' HEV.out rfl rfl).1 hJ', hJ'⟩⟩
        · gi_wp2
          refine bodyPost_ret (results_none rfl _ _ _) rfl ?_
          exact ⟨⟨_, rfl⟩, .inr ⟨_, _, (HEND.out 10 _ W' HEV.out rfl rfl).2, hJx'⟩⟩
      have HT1 := Lib.hid (take_p fb (some ⟨ab, ao, none⟩) n1 c1 used1 m wr HD.out.src hc (by omega) (by have := HU.out; omega))
      by_cases hm1 : m = 1
      · have q1 : ((m : Int) == 1) = true := beq_iff_eq.2 (by omega)
        have e1 : ((1 : Nat) : Int) = 1 := rfl
        rw [hm1, e1] at HT1
        clear e1
        gi_wp2_with (first | (refine ⟨trivial, ?_⟩; gi_at_call 47; refine (callsIn_wide.2 HP.out).mono ?_; rintro e w2 ⟨rfl, hw⟩; subst hw) | (refine ⟨trivial, ?_⟩; gi_at_call 48; refine (callsIn_wide.2 HH.out).mono ?_; rintro e w2 ⟨rfl, hw⟩; subst hw) | (refine ⟨trivial, ?_⟩; gi_at_call 49; refine (callsIn_wide.2 HT1.out).mono ?_; rintro e w2 ⟨rfl, hs2, hf2⟩))
        refine bodyPost_ret (results_none rfl _ _ _) rfl ?_
        refine ⟨⟨_, rfl⟩, .inl ⟨RdB rb fb wb k1 wv1, pre, ?_, HJ.out _ _ _ _ _ HJ1.out (hf2.mono fun q _ e => .inr (.inl e)) (fun q hq => .inl hq)⟩⟩
        have hev : evGo S most (g + 1) x1 told src = ([], some (src.drop 1)) := by
          unfold evGo
          rw [HO.out, if_neg hm0, if_neg hml, if_pos hm1]
        have e1 := HE1.out
        have e2 := HE2.out
        rw [hev] at e1 e2
        refine ⟨by rw [e1]; simp, fun rest hrst => ?_⟩
        rw [e2] at hrst
        injection hrst with hrst
        subst hrst
        have hr2 := row_kept HR.out hf2 hz (fun q e => by rw [e]; exact HB.out fb (.inr (.inl rfl)))
        have := HU.out
        exact ⟨_, _, _, _, hs2, by omega, hr2.drop (by omega), by rw [List.length_drop]; omega, by omega, by omega⟩
      have q1 : ((m : Int) == 1) = false := beq_eq_false_iff_ne.2 (by omega)
      by_cases hbad : badHead x1 c0
      · have hev : evGo S most (g + 1) x1 told src = ([([], 11)], none) := by
          unfold evGo
          rw [HO.out, if_neg hm0, if_neg hml, if_neg hm1, if_pos hbad]
        have HEV := Lib.hid hev
        clear hev
        by_cases hba : x1.begun = false ∧ c0 ≠ 1 ∧ c0 < 224
        · obtain ⟨hb1, hb2, hb3⟩ := hba
          have q2 : ((c0 : Int) == 1) = false := beq_eq_false_iff_ne.2 (by omega)
          have q3 : (c0 : Int) < 224 := by omega
          have q2n : ((c0 : Int) != 1) = true := by simp [bne, q2]
          have hm0i : (0 : Int) < (m : Int) := by omega
          clear hbad
          gi_wp2_with (first | (refine ⟨trivial, ?_⟩; gi_at_call 47; refine (callsIn_wide.2 HP.out).mono ?_; rintro e w2 ⟨rfl, hw⟩; subst hw) | (refine ⟨trivial, ?_⟩; gi_at_call 48; refine (callsIn_wide.2 HH.out).mono ?_; rintro e w2 ⟨rfl, hw⟩; subst hw))
          refine ⟨trivial, ?_⟩
          refine (callsIn_wide.2 HT1.out).mono ?_; rintro e w2 ⟨rfl, hs2, hf2⟩
          have hj2 := HJ.out _ _ _ _ _ HJ1.out (hf2.mono (S' := RdB rb fb wb k1 wv1) fun q _ e => .inr (.inl e)) (fun q hq => .inl hq)
          have hd2 := HD.out.src' hs2 hf2
          have hr2 := row_kept HR.out hf2 hz (fun q e => by rw [e]; exact HB.out fb (.inr (.inl rfl)))
          have b2 : w2.cell? ⟨ab, ao, none⟩ = some (.int .u8 (c0 : Int)) := by rw [← HC0.out]; exact hr2.addr (k := 0) (by omega)
          obtain ⟨s0, s1, s2, s3, s4, s5, s6⟩ := hd2.cells
          rw [hb1] at s5
          have HS2 := Lib.hid hs2
          clear hs2 hf2 hd2 hr2 s0 s1 s2 s3 s4 s6 r2 r5 r6 b0 hb2 hb3
          obtain ⟨fn, tmps, assign, body, hy, hR⟩ := HYE.out 11 w2 ⟨_, _, _, _, HS2.out, by have := HU.out; omega⟩ hj2
          replace hy : (Instr.yield l #[.slice none 0 0, .int .i64 11]).run Try.prog w2 = .ok (.round l fn tmps assign body) w2 := hy
          clear hj2
          gi_wp2
          refine hR.mono ?_
          rintro e W' (⟨rfl, hJ', hk⟩ | ⟨rfl, hJx'⟩)
          · gi_wp2
            refine bodyPost_ret (results_none rfl _ _ _) rfl ?_
            exact ⟨⟨_, rfl⟩, .inl ⟨_, _, (HEND.out 11 _ W' HEV.out rfl rfl).1 hJ', hJ'⟩⟩
          · gi_wp2
            refine bodyPost_ret (results_none rfl _ _ _) rfl ?_
            exact ⟨⟨_, rfl⟩, .inr ⟨_, _, (HEND.out 11 _ W' HEV.out rfl rfl).2, hJx'⟩⟩
        · have hb0 : headN c0 = 5 ∧ x1.props = false := by
            rcases hbad with h | h
            · exact absurd h hba
            · exact h
          have hm5 : m = 5 := by rw [← HM.out]; exact hb0.1
          have hb2 := hb0.2
          have hb1 : x1.begun = true := by
            cases hb : x1.begun with
            | true => rfl
            | false =>
              exfalso
              refine hba ⟨hb, ?_⟩
              have h5 := hb0.1
              unfold headN at h5
              repeat' split at h5
              all_goals omega
          subst hm5
          have e5 : ((5 : Nat) : Int) = 5 := rfl
          rw [e5] at HT1 HH
          clear e5 q0 q1 hbad hba hb0
          gi_wp2_with (first | (refine ⟨trivial, ?_⟩; gi_at_call 47; refine (callsIn_wide.2 HP.out).mono ?_; rintro e w2 ⟨rfl, hw⟩; subst hw) | (refine ⟨trivial, ?_⟩; gi_at_call 48; refine (callsIn_wide.2 HH.out).mono ?_; rintro e w2 ⟨rfl, hw⟩; subst hw))
          refine ⟨trivial, ?_⟩
          refine (callsIn_wide.2 HT1.out).mono ?_; rintro e w2 ⟨rfl, hs2, hf2⟩
          have hj2 := HJ.out _ _ _ _ _ HJ1.out (hf2.mono (S' := RdB rb fb wb k1 wv1) fun q _ e => .inr (.inl e)) (fun q hq => .inl hq)
          have hd2 := HD.out.src' hs2 hf2
          have hr2 := row_kept HR.out hf2 hz (fun q e => by rw [e]; exact HB.out fb (.inr (.inl rfl)))
          have b2 : w2.cell? ⟨ab, ao, none⟩ = some (.int .u8 (c0 : Int)) := by rw [← HC0.out]; exact hr2.addr (k := 0) (by omega)
          obtain ⟨s0, s1, s2, s3, s4, s5, s6⟩ := hd2.cells
          rw [hb1] at s5
          rw [hb2] at s6
          have HS2 := Lib.hid hs2
          clear hs2 hf2 hd2 hr2 s0 s1 s2 s3 s4 r2 r5 r6 b0
          obtain ⟨fn, tmps, assign, body, hy, hR⟩ := HYE.out 11 w2 ⟨_, _, _, _, HS2.out, by have := HU.out; omega⟩ hj2
          replace hy : (Instr.yield l #[.slice none 0 0, .int .i64 11]).run Try.prog w2 = .ok (.round l fn tmps assign body) w2 := hy
          clear hj2
          gi_wp2
          refine hR.mono ?_
          rintro e W' (⟨rfl, hJ', hk⟩ | ⟨rfl, hJx'⟩)
          · gi_wp2
            refine bodyPost_ret (results_none rfl _ _ _) rfl ?_
            exact ⟨⟨_, rfl⟩, .inl ⟨_, _, (HEND.out 11 _ W' HEV.out rfl rfl).1 hJ', hJ'⟩⟩
          · gi_wp2
            refine bodyPost_ret (results_none rfl _ _ _) rfl ?_
            exact ⟨⟨_, rfl⟩, .inr ⟨_, _, (HEND.out 11 _ W' HEV.out rfl rfl).2, hJx'⟩⟩
      have hnb : (x1.begun = true ∧ m ≠ 5) ∨ (x1.begun = true ∧ m = 5 ∧ x1.props = true) ∨ (x1.begun = false ∧ c0 = 1 ∧ m ≠ 5) ∨ (x1.begun = false ∧ 224 ≤ c0 ∧ m ≠ 5) := by
        unfold badHead at hbad
        have hmc := HM.out
        have h5 : m = 5 → x1.props = true := by
          intro e
          cases hp : x1.props with
          | true => rfl
          | false => exact absurd (.inr ⟨by rw [hmc]; exact e, hp⟩) hbad
        have h5c : c0 = 1 ∨ 224 ≤ c0 → m ≠ 5 := by
          intro e e5
          rw [e5] at hmc
          unfold headN at hmc
          repeat' split at hmc
          all_goals omega
        cases hg : x1.begun with
        | true =>
          by_cases e5 : m = 5
          · exact .inr (.inl ⟨rfl, e5, h5 e5⟩)
          · exact .inl ⟨rfl, e5⟩
        | false =>
          have : c0 = 1 ∨ 224 ≤ c0 := by
            rcases Nat.lt_or_ge c0 224 with hlt | hge
            · by_cases e1 : c0 = 1
              · exact .inl e1
              · exact absurd (.inl ⟨hg, e1, hlt⟩) hbad
            · exact .inr hge
          rcases this with e | e
          · exact .inr (.inr (.inl ⟨rfl, e, h5c (.inl e)⟩))
          · exact .inr (.inr (.inr ⟨rfl, e, h5c (.inr e)⟩))
      have HNB := Lib.hid hnb
      have hone2 : one S x1 src = oneBody S x1 c0 (src.take m) (src.drop m) := by
        rw [HO.out, if_neg hm0, if_neg hml, if_neg hm1, if_neg hbad]
      have HO2 := Lib.hid hone2
      have hm0i : (0 : Int) < (m : Int) := by omega
      clear hnb hone2 hbad HO
      gi_wp2_with (first | (refine ⟨trivial, ?_⟩; gi_at_call 47; refine (callsIn_wide.2 HP.out).mono ?_; rintro e w2 ⟨rfl, hw⟩; subst hw) | (refine ⟨trivial, ?_⟩; gi_at_call 48; refine (callsIn_wide.2 HH.out).mono ?_; rintro e w2 ⟨rfl, hw⟩; subst hw))
      refine ⟨trivial, ?_⟩
      refine (callsIn_wide.2 HT1.out).mono ?_; rintro e w2 ⟨rfl, hs2, hf2⟩
      have hj2 := HJ.out _ _ _ _ _ HJ1.out (hf2.mono (S' := RdB rb fb wb k1 wv1) fun q _ e => .inr (.inl e)) (fun q hq => .inl hq)
      have hd2 := HD.out.src' hs2 hf2
      have hr2 := row_kept HR.out hf2 hz (fun q e => by rw [e]; exact HB.out fb (.inr (.inl rfl)))
      have b2 : w2.cell? ⟨ab, ao, none⟩ = some (.int .u8 (c0 : Int)) := by rw [← HC0.out]; exact hr2.addr (k := 0) (by omega)
      obtain ⟨s0, s1, s2, s3, s4, s5, s6⟩ := hd2.cells
      have hz2 : B0 ≤ w2.heap.size := Nat.le_trans hz hf2.size
      have HBD := Lib.hid (body_p rb fb wb kb base S B0 k1 x1 wv1 (takeA (some ⟨ab, ao, none⟩) c1 m) (n1 - m) (c1 - m) (used1 + m) most (src.drop m) (src.take m) (some ⟨ab, ao, none⟩) c0 m w2 hd2 HB.out hz2 hS (by rw [List.length_drop]; omega) (hr2.drop (by omega)) (by omega) (by omega) (hr2.take m) HM.out.symm (by rw [List.length_take]; omega) (by rw [getD_takeU src (by omega)]; exact HC0.out) ⟨hm0, hm1⟩ (by have := HU.out; omega) (by have := HT.out; omega))
      have HJ2 := Lib.hid hj2
      have HD2 := Lib.hid hd2
      have HF2 := Lib.hid hf2
      clear hj2 hd2 hf2 hs2 hr2 r2 r5 r6 b0 s0 s1 s2 s3 s4 HP HH HT1
      dsimp only
      iterate 40 (first | (with_reducible show Code.wpIn _ _ _ (Code.block 2 _) _ _ _) | go_values | gi_guarded | gi_step | gi_upon | gi_back)
      gi_cut [] from 40 (fun wx => wx = w2)
      case first =>
        rcases HNB.out with ⟨e1, e5⟩ | ⟨e1, e5, e6⟩ | ⟨e1, ec, e5⟩ | ⟨e1, ec, e5⟩
        · have q5 : ((m : Int) == 5) = false := beq_eq_false_iff_ne.2 (by omega)
          rw [e1] at s5
          clear s6 e5
          gi_wp2
          gi_meet
          case rel => rfl
        · have q5 : ((m : Int) == 5) = true := beq_iff_eq.2 (by omega)
          rw [e1] at s5
          rw [e6] at s6
          clear e5
          gi_wp2
          gi_meet
          case rel => rfl
        · have q5 : ((m : Int) == 5) = false := beq_eq_false_iff_ne.2 (by omega)
          have qc : ((c0 : Int) != 1) = false := by simp [ec]
          rw [e1] at s5
          clear s6 e5 ec
          gi_wp2
          gi_meet
          case rel => rfl
        · have q5 : ((m : Int) == 5) = false := beq_eq_false_iff_ne.2 (by omega)
          have qc : ((c0 : Int) != 1) = true := bne_iff_ne.2 (by omega)
          have qd : (224 : Int) ≤ (c0 : Int) := by omega
          rw [e1] at s5
          clear s6 e5 ec
          gi_wp2
          gi_meet
          case rel => rfl
      case rest =>
        have hw2 : w2 = wc := hcut.symm
        subst hw2
        clear hcut s5 s6 b2 hm0i
        have HG := Lib.hid hlen
        have hfin : ∀ (e : Nat) (xk : Ck) (W' : World), oneBody S x1 c0 (src.take m) (src.drop m) = .err e → xk.b = [] → xk.e = e → ((J (RdB rb fb wb k1 wv1) (pre ++ [xk]) W' → SC E fb un B0 (RdB rb fb wb k1 wv1) (pre ++ [xk]) W') ∧ SpC E (pre ++ [xk])) := by
          intro e xk W' he hb' he'
          exact HEND.out e xk W' (by unfold evGo; rw [HO2.out, he]) hb' he'
        have htwr : IntKind.i64.wrap (told : Int) = (told : Int) := Go.IntWalk.i64_in _ (by have := HT.out; omega)
        cases hR : oneBody S x1 c0 (src.take m) (src.drop m) with
        | fin r =>
          exfalso
          have hne := hR
          unfold oneBody at hne
          repeat' split at hne
          all_goals first | (cases hne; done) | (unfold oneLz at hne; split at hne <;> cases hne)
        | err z =>
          have hz0 : z ≠ 0 := one_err (S := S) (x := x1) (src := src) (by rw [HO2.out, hR])
          have qz : ((z : Int) == 0) = false := beq_eq_false_iff_ne.2 (by omega)
          have HF := Lib.hid (fun xk W' => hfin z xk W' hR)
          rw [hR] at HBD
          clear hfin hR hz0
          gi_wp2_with fail
          refine ⟨trivial, ?_⟩
          refine (callsIn_wide.2 HBD.out).mono ?_
          rintro e w3 ⟨hf3, rfl, t, bg, pp, A3, n3, c3, used3, hp3, ht3, hs3, hu3⟩
          have r3 : w3.cell? ⟨rb, 3, none⟩ = some (.int .i64 (t : Int)) := by rw [hp3.cell]; rfl
          have z3 := hp3.frozen 3
          have htw : IntKind.i64.wrap (t : Int) = (t : Int) := Go.IntWalk.i64_in _ (by omega)
          have hj3 := HJ.out _ _ _ _ _ HJ2.out hf3 (fun q hq => .inl hq)
          have hf4 : Frm (RdB rb fb wb k1 wv1) w3 (w3.setCell ⟨rb, 3, none⟩ (.int .i64 (t : Int))) := Frm.setCell (p := ⟨rb, 3, none⟩) (Frm.refl _ w3) (.inl rfl) _
          have hj4 := HJ.out _ _ _ _ _ hj3 hf4 (fun q hq => .inl hq)
          have hs4 : SrcAt (w3.setCell ⟨rb, 3, none⟩ (.int .i64 (t : Int))) fb A3 n3 c3 used3 := Pts.other hs3 (p := ⟨rb, 3, none⟩) (hp3.ne_of hs3 (by decide)).symm _
          obtain ⟨fn, tmps, assign, body, hy, hRr⟩ := HYE.out z _ ⟨_, _, _, _, hs4, by have := HU.out; omega⟩ hj4
          replace hy : (Instr.yield l #[.slice none 0 0, .int .i64 (z : Int)]).run Try.prog (w3.setCell ⟨rb, 3, none⟩ (.int .i64 (t : Int))) = .ok (.round l fn tmps assign body) (w3.setCell ⟨rb, 3, none⟩ (.int .i64 (t : Int))) := hy
          clear hj3 hf4 hj4 hs4 hf3 hp3 ht3 hs3 hu3
          gi_wp2
          refine hRr.mono ?_
          rintro e W' (⟨rfl, hJ', hk⟩ | ⟨rfl, hJx'⟩)
          · gi_wp2
            refine bodyPost_ret (results_none rfl _ _ _) rfl ?_
            exact ⟨⟨_, rfl⟩, .inl ⟨_, _, (HF.out _ W' rfl rfl).1 hJ', hJ'⟩⟩
          · gi_wp2
            refine bodyPost_ret (results_none rfl _ _ _) rfl ?_
            exact ⟨⟨_, rfl⟩, .inr ⟨_, _, (HF.out _ W' rfl rfl).2, hJx'⟩⟩
        | told b y rest =>
          rw [hR] at HBD
          have hev := HO2.out
          rw [hR] at hev
          have HEV := Lib.hid hev
          have HBF := Lib.hid (body_facts HD2.out.st hR)
          obtain ⟨L, hL⟩ : ∃ L, b.length = L := ⟨_, rfl⟩
          obtain ⟨told2, htold2⟩ : ∃ x, told + L = x := ⟨_, rfl⟩
          obtain ⟨yt, hyt⟩ : ∃ x, y.total = x := ⟨_, rfl⟩
          have hLb : L ≤ 2097152 := by have := HBF.out.2.1; omega
          have hytb : yt ≤ x1.total := by have := HBF.out.1; omega
          have hyt62 : yt ≤ 4611686018427387904 := by have := HT.out; omega
          have hti : (told : Int) + (L : Int) = (told2 : Int) := by omega
          have htw2 : IntKind.i64.wrap (told2 : Int) = (told2 : Int) := Go.IntWalk.i64_in _ (by have := HT.out; omega)
          have HL := Lib.hid hL
          have HT2 := Lib.hid htold2
          have HYT := Lib.hid hyt
          clear hfin hR hev
          by_cases hover : most < told2
          · have qo : (most : Int) < (told2 : Int) := by omega
            have htw : IntKind.i64.wrap (yt : Int) = (yt : Int) := Go.IntWalk.i64_in _ (by omega)
            have HF : Hid (∀ (xk : Ck) (W' : World), xk.b = [] → xk.e = 3 → ((J (RdB rb fb wb k1 wv1) (pre ++ [xk]) W' → SC E fb un B0 (RdB rb fb wb k1 wv1) (pre ++ [xk]) W') ∧ SpC E (pre ++ [xk]))) :=
              Lib.hid (fun xk W' => HEND.out 3 xk W' (by unfold evGo; rw [HEV.out]; simp only; rw [if_pos (by have := HL.out; have := HT2.out; omega)]))
            clear hytb hLb hover
            gi_wp2_with fail
            refine ⟨trivial, ?_⟩
            refine (callsIn_wide.2 HBD.out).mono ?_
            rintro e w3 ⟨hf3, k', wv', A', n', c', used', Ab, cb, rfl, hd3, hr3, hn3, hc3, hcm3, hu3, hrb3, hbc3, hcb3, hsb3, hlb3, hmv3⟩
            obtain ⟨r0, r1, r2, r3, r4, r5, r6⟩ := hd3.cells
            rw [HYT.out] at r3
            rw [HL.out]
            have z3 := hd3.p.frozen 3
            have hj3 := HJ.out _ _ _ _ _ HJ2.out hf3 (fun q hq => .inl hq)
            have hf4 : Frm (RdB rb fb wb k1 wv1) w3 (w3.setCell ⟨rb, 3, none⟩ (.int .i64 (yt : Int))) := Frm.setCell (p := ⟨rb, 3, none⟩) (Frm.refl _ w3) (.inl rfl) _
            have hj4 := HJ.out _ _ _ _ _ hj3 hf4 (fun q hq => .inl hq)
            have hs4 : SrcAt (w3.setCell ⟨rb, 3, none⟩ (.int .i64 (yt : Int))) fb A' n' c' used' := Pts.other hd3.src (p := ⟨rb, 3, none⟩) (hd3.p.ne_of hd3.src (by decide)).symm _
            obtain ⟨fn, tmps, assign, body, hy, hRr⟩ := HYE.out 3 _ ⟨_, _, _, _, hs4, by have := HU.out; omega⟩ hj4
            replace hy : (Instr.yield l #[.slice none 0 0, .int .i64 3]).run Try.prog (w3.setCell ⟨rb, 3, none⟩ (.int .i64 (yt : Int))) = .ok (.round l fn tmps assign body) (w3.setCell ⟨rb, 3, none⟩ (.int .i64 (yt : Int))) := hy
            clear hj3 hf4 hj4 hs4 hf3 hd3 hr3 hn3 hc3 hcm3 hu3 hrb3 hbc3 hcb3 hsb3 hlb3 hmv3 r0 r1 r2 r5 r6
            gi_wp2
            refine hRr.mono ?_
            rintro e W' (⟨rfl, hJ', hk⟩ | ⟨rfl, hJx'⟩)
            · gi_wp2
              refine bodyPost_ret (results_none rfl _ _ _) rfl ?_
              exact ⟨⟨_, rfl⟩, .inl ⟨_, _, (HF.out _ W' rfl rfl).1 hJ', hJ'⟩⟩
            · gi_wp2
              refine bodyPost_ret (results_none rfl _ _ _) rfl ?_
              exact ⟨⟨_, rfl⟩, .inr ⟨_, _, (HF.out _ W' rfl rfl).2, hJx'⟩⟩
          · have qo : (told2 : Int) ≤ (most : Int) := by omega
            obtain ⟨yt2, hyt2⟩ : ∃ x, yt + L = x := ⟨_, rfl⟩
            have hyi : (yt : Int) + (L : Int) = (yt2 : Int) := by omega
            have htw : IntKind.i64.wrap (yt2 : Int) = (yt2 : Int) := Go.IntWalk.i64_in _ (by omega)
            have HY2 := Lib.hid hyt2
            have HO := Lib.hid hover
            have HLY := Lib.hid hytb
            clear hytb hLb hover hyt2
            gi_wp2_with fail
            refine ⟨trivial, ?_⟩
            refine (callsIn_wide.2 HBD.out).mono ?_
            rintro e w3 ⟨hf3, k', wv', A', n', c', used', Ab, cb, rfl, hd3, hr3, hn3, hc3, hcm3, hu3, hrb3, hbc3, hcb3, hsb3, hlb3, hmv3⟩
            obtain ⟨r0, r1, r2, r3, r4, r5, r6⟩ := hd3.cells
            rw [HYT.out] at r3
            rw [HL.out]
            have z3 := hd3.p.frozen 3
            have hN3 : ∀ q, RdB rb fb wb k' wv' q → q < w3.heap.size := by
              rintro q (e | e | e | e | e | e)
              · rw [e]; exact hd3.p.lt
              · rw [e]; exact Pts.lt hd3.src
              · rw [e]; exact hd3.win.pts.choose_spec.lt
              · rw [e]; exact hd3.s.m.lt
              · rw [e]; exact hd3.s.l.lt
              · obtain ⟨l, ho⟩ := hd3.win.own
                exact (ho.lt e).2
            have hNN : ∀ q, RdB rb fb wb k' wv' q → RdB rb fb wb k1 wv1 q ∨ (w2.heap.size ≤ q ∧ q < w3.heap.size) := by
              intro q hq
              have hlt := hN3 q hq
              rcases hq with e | e | e | e | e | e
              · exact .inl (.inl e)
              · exact .inl (.inr (.inl e))
              · exact .inl (.inr (.inr (.inl e)))
              · exact .inl (.inr (.inr (.inr (.inl (e.trans hsb3)))))
              · rcases hlb3 with e2 | e2
                · exact .inl (.inr (.inr (.inr (.inr (.inl (e.trans e2))))))
                · exact .inr ⟨by omega, hlt⟩
              · rcases hmv3 q e with e2 | e2
                · exact .inl (.inr (.inr (.inr (.inr (.inr e2)))))
                · exact .inr ⟨e2, hlt⟩
            have hj3 := HJ.out _ _ _ _ _ HJ2.out hf3 hNN
            obtain ⟨hd4, hf4⟩ := hd3.own 3 (.int .i64 (yt2 : Int)) { y with total := y.total + b.length } ⟨rfl, rfl, rfl, rfl, rfl, rfl, rfl⟩ (by rw [HL.out, HYT.out, HY2.out]; rfl)
            have hj4 := HJ.out _ _ _ _ _ hj3 (hf4.mono (S' := RdB rb fb wb k' wv') fun q _ e => .inl e) (fun q hq => .inl hq)
            have hB3 : ∀ q, RdB rb fb wb k' wv' q → B0 ≤ q := by
              intro q hq
              rcases hNN q hq with e | e
              · exact HB.out q e
              · omega
            have hz3 : B0 ≤ w3.heap.size := Nat.le_trans hz2 hf3.size
            have hr4 := row_kept hr3 hf4 hz3 (fun q e => by rw [e]; exact hB3 rb (.inl rfl))
            have hrb4 : BRow (w3.setCell ⟨rb, 3, none⟩ (.int .i64 (yt2 : Int))) (w3.setCell ⟨rb, 3, none⟩ (.int .i64 (yt2 : Int))).heap.size Ab b := (hrb3.setI64 r3 _).more hf4.size
            obtain ⟨fn, tmps, assign, body, hy, hRr⟩ := HY.out _ pre ⟨.slice Ab b.length cb, b, 0⟩ _ hj4 ⟨⟨_, _, _, _, hd4.src, by have := HU.out; omega⟩, Ab, cb, rfl, hrb4, hbc3, hcb3, by rw [← HTS.out]; have := HL.out; have := HT2.out; have := HO.out; simp only; omega, fun h => absurd rfl h⟩
            have hy2 : (Instr.yield l #[.slice Ab L cb, .int .i64 0]).run Try.prog (w3.setCell ⟨rb, 3, none⟩ (.int .i64 (yt2 : Int))) = .ok (.round l fn tmps assign body) (w3.setCell ⟨rb, 3, none⟩ (.int .i64 (yt2 : Int))) := by
              rw [← HL.out]; exact hy
            have D4 := Lib.hid hd4
            have R4 := Lib.hid hr4
            have B4 := Lib.hid hB3
            have Z4 := Lib.hid (Nat.le_trans hz3 hf4.size)
            have N4 : Hid (n' = rest.length ∧ n' ≤ c' ∧ c' ≤ maxLen ∧ used' + n' = un) := Lib.hid ⟨hn3, hc3, hcm3, by have := HU.out; omega⟩
            clear hy hj3 hf4 hj4 hf3 hd3 hr3 hn3 hc3 hcm3 hu3 hrb3 hbc3 hcb3 hsb3 hlb3 hmv3 r0 r1 r2 r5 r6 hN3 hNN hd4 hr4 hrb4 hB3 hz3
            gi_wp2
            refine hRr.mono ?_
            rintro e W' (⟨rfl, hJ', hk⟩ | ⟨rfl, hJx'⟩)
            · have D5 := Lib.hid (D4.out.frm hk (fun q hq hn => hn.1 hq))
              have R5 := Lib.hid (row_kept R4.out hk Z4.out (fun q hq => hq.2))
              have Z5 := Lib.hid (Nat.le_trans Z4.out hk.size)
              have HJ5 := Lib.hid hJ'
              clear hJ' hk hRr
              gi_wp2
              gi_roundg g
              case rel =>
                refine ⟨pre ++ [⟨.slice Ab b.length cb, b, 0⟩], told2, { y with total := y.total + b.length }, k', wv', A', n', c', used', rest, rfl, HJ5.out, D5.out, R5.out, N4.out.1, N4.out.2.1, N4.out.2.2.1, N4.out.2.2.2, B4.out, Z5.out, ?_, ?_, by omega, ?_, ?_, ?_⟩
                · have := HLY.out; have := HL.out; have := HT2.out; have := HYT.out; simp only; omega
                · have := HBF.out.2.2; have h2 : (src.drop m).length = src.length - m := List.length_drop; have := HG.out; omega
                · rw [← HT2.out, HTS.out, ← HL.out]; simp [sumC]
                · rw [HE1.out, List.map_append]
                  conv => lhs; unfold evGo
                  rw [HEV.out]
                  simp only
                  rw [if_neg (by have := HL.out; have := HT2.out; have := HO.out; omega)]
                  simp [ckP, ← HT2.out, HL.out]
                · rw [HE2.out]
                  conv => lhs; unfold evGo
                  rw [HEV.out]
                  simp only
                  rw [if_neg (by have := HL.out; have := HT2.out; have := HO.out; omega)]
                  simp [← HT2.out, HL.out]
              case measure => omega
            · gi_wp2
              refine bodyPost_ret (results_none rfl _ _ _) rfl ?_
              refine ⟨⟨_, rfl⟩, .inr ⟨_, _, ?_, hJx'⟩⟩
              unfold SpC
              rw [HE1.out, List.map_append]
              refine (List.prefix_append_right_inj _).2 ?_
              unfold evGo
              rw [HEV.out]
              simp only
              rw [if_neg (by have := HL.out; have := HT2.out; have := HO.out; omega)]
              exact ⟨_, rfl⟩
end Go.Proofs.Ytefbjamepbkklaa

/- Two coders side by side, in plain Lean: what one tells, the other tells, up tq9 an end that stays. -/
namespace Go.Proofs.Ytefbjamepbkklaa.Lz
open Go.RowKit Rng Win
set_option linter.unusedVariables false
set_option linter.unusedSimpArgs false
/-- What stays behind each bit. -/
structure Stays {τ : Type} (co : Cod τ) (β : τ → Prop) : Prop where
  bit : ∀ t p x, β t → β (co.bit t (fair p) x).2
  dir : ∀ t x n, β t → β (co.dir t x n).2
section
variable {τ : Type} {co : Cod τ} {β : τ → Prop}
theorem stays_bitAt (K : Stays co β) (i x : Nat) {t : CP τ} (h : β t.d) : β (bitAt co i x t).2.d := K.bit _ _ _ h
theorem stays_treeGo (K : Stays co β) (base x : Nat) : ∀ (n m : Nat) {t : CP τ}, β t.d → β (treeGo co base x n m t).2.d
  | 0, _, _, h => h
  | n + 1, m, t, h => stays_treeGo K base x n _ (stays_bitAt K _ _ h)
theorem stays_treeAt (K : Stays co β) (base n x : Nat) {t : CP τ} (h : β t.d) : β (treeAt co base n x t).2.d := stays_treeGo K _ _ _ _ h
theorem stays_backGo (K : Stays co β) (base x n : Nat) : ∀ (k m o : Nat) {t : CP τ}, β t.d → β (backGo co base x n k m o t).2.d
  | 0, _, _, _, h => h
  | k + 1, m, o, t, h => stays_backGo K base x n k _ _ (stays_bitAt K _ _ h)
theorem stays_backAt (K : Stays co β) (base n x : Nat) {t : CP τ} (h : β t.d) : β (backAt co base n x t).2.d := stays_backGo K _ _ _ _ _ _ h
set_option maxRecDepth 100000 in
theorem stays_lenAt (K : Stays co β) (base n p : Nat) {t : CP τ} (h : β t.d) : β (lenAt co base n p t).2.d := by
  unfold Lz.lenAt
  simp only
  split
  · exact stays_treeAt K (base + 2 + p * 8) 3 (n - 2) (stays_bitAt K _ _ h)
  · split
    · exact stays_treeAt K (base + 130 + p * 8) 3 (n - 10) (stays_bitAt K _ _ (stays_bitAt K _ _ h))
    · exact stays_treeAt K (base + 258) 8 (n - 18) (stays_bitAt K _ _ (stays_bitAt K _ _ h))
theorem stays_distAt (K : Stays co β) (d size : Nat) {t : CP τ} (h : β t.d) : β (distAt co d size t).2.d := by
  unfold Lz.distAt
  simp only
  have h1 := stays_treeAt K (440 + (min size 5 - 2) * 64) 6 (slotOf d) h
  split
  · exact h1
  · split
    · exact stays_backAt K _ _ _ h1
    · refine stays_backAt K _ _ _ ?_
      exact K.dir _ _ _ h1
theorem stays_farGo (K : Stays co β) (base x far : Nat) : ∀ (n m : Nat) {t : CP τ}, β t.d → β (farGo co base x far n m t).2.d
  | 0, _, _, h => h
  | n + 1, m, t, h => by
    unfold Lz.farGo
    simp only
    split
    · exact stays_farGo K base x far n _ (stays_bitAt K _ _ h)
    · exact stays_treeGo K _ _ _ _ (stays_bitAt K _ _ h)
theorem stays_litAt (K : Stays co β) (lc lp st total ahead far x : Nat) {t : CP τ} (h : β t.d) : β (litAt co lc lp st total ahead far x t).2.d := by
  unfold Lz.litAt
  simp only
  split
  · exact stays_farGo K _ _ _ _ _ h
  · exact stays_treeGo K _ _ _ _ h
theorem stays_litOf (K : Stays co β) (k : LK) (st total : Nat) (rep : Nat → Nat) (C : List UInt8) {t : CP τ} (h : β t.d) : β (litOf co k st total rep C t).2.d := stays_litAt K _ _ _ _ _ _ _ h
theorem stays_repOf (K : Stays co β) (st p : Nat) (rep : Nat → Nat) {t : CP τ} (h : β t.d) : β (repOf co st p rep t).2.2.2.d := by
  unfold Go.Proofs.Ytefbjamepbkklaa.repOf
  simp only
  split
  · split
    · exact stays_bitAt K _ _ (stays_bitAt K _ _ h)
    · exact stays_lenAt K _ _ _ (stays_bitAt K _ _ (stays_bitAt K _ _ h))
  · split
    · exact stays_lenAt K _ _ _ (stays_bitAt K _ _ (stays_bitAt K _ _ (stays_bitAt K _ _ h)))
    · exact stays_lenAt K _ _ _ (stays_bitAt K _ _ (stays_bitAt K _ _ h))
theorem stays_opOf (K : Stays co β) (st p : Nat) (rep : Nat → Nat) {t : CP τ} (h : β t.d) : β (opOf co st p rep t).2.2.2.d := by
  unfold Go.Proofs.Ytefbjamepbkklaa.opOf
  simp only
  split
  · exact stays_repOf K _ _ _ (stays_bitAt K _ _ h)
  · exact stays_distAt K _ _ (stays_lenAt K _ _ _ (stays_bitAt K _ _ h))
end
/-- Two coders that tell the same, or the second one is at the end. -/
structure Sim {σ τ : Type} (co : Cod σ) (co' : Cod τ) (ρ : σ → τ → Prop) (β : τ → Prop) : Prop extends Stays co' β where
  two : ∀ s t p x, ρ s t → ((co.bit s (fair p) x).1 = (co'.bit t (fair p) x).1 ∧ ρ (co.bit s (fair p) x).2 (co'.bit t (fair p) x).2) ∨ β (co'.bit t (fair p) x).2
  twoDir : ∀ s t x n, ρ s t → ((co.dir s x n).1 = (co'.dir t x n).1 ∧ ρ (co.dir s x n).2 (co'.dir t x n).2) ∨ β (co'.dir t x n).2
def Pair {σ τ : Type} (ρ : σ → τ → Prop) (s : CP σ) (t : CP τ) : Prop := ρ s.d t.d ∧ s.pr = t.pr
def Res {σ τ α : Type} (ρ : σ → τ → Prop) (β : τ → Prop) (a : α × CP σ) (b : α × CP τ) : Prop := (a.1 = b.1 ∧ Pair ρ a.2 b.2) ∨ β b.2.d
section
variable {σ τ : Type} {co : Cod σ} {co' : Cod τ} {ρ : σ → τ → Prop} {β : τ → Prop}
theorem sim_bitAt (K : Sim co co' ρ β) (i x : Nat) {s : CP σ} {t : CP τ} (h : Pair ρ s t) : Res ρ β (bitAt co i x s) (bitAt co' i x t) := by
  unfold Res Pair Lz.bitAt
  simp only
  rw [← h.2]
  rcases K.two s.d t.d (s.pr i) x h.1 with ⟨h1, h2⟩ | h3
  · exact .inl ⟨by rw [h1], h2, by rw [h1]⟩
  · exact .inr h3
theorem sim_treeGo (K : Sim co co' ρ β) (base x : Nat) : ∀ (n m : Nat) {s : CP σ} {t : CP τ}, Pair ρ s t → Res ρ β (treeGo co base x n m s) (treeGo co' base x n m t)
  | 0, m, s, t, h => .inl ⟨rfl, h⟩
  | n + 1, m, s, t, h => by
    unfold Lz.treeGo
    rcases sim_bitAt K (base + m) (x / 2 ^ n % 2) h with ⟨h1, h2⟩ | h3
    · rw [h1]
      exact sim_treeGo K base x n _ h2
    · exact .inr (stays_treeGo K.toStays _ _ _ _ h3)
theorem sim_treeAt (K : Sim co co' ρ β) (base n x : Nat) {s : CP σ} {t : CP τ} (h : Pair ρ s t) : Res ρ β (treeAt co base n x s) (treeAt co' base n x t) := by
  rcases sim_treeGo K base x n 1 h with ⟨h1, h2⟩ | h3
  · exact .inl ⟨by unfold Lz.treeAt; simp only; rw [h1], h2⟩
  · exact .inr h3
theorem sim_backGo (K : Sim co co' ρ β) (base x n : Nat) : ∀ (k m o : Nat) {s : CP σ} {t : CP τ}, Pair ρ s t → Res ρ β (backGo co base x n k m o s) (backGo co' base x n k m o t)
  | 0, m, o, s, t, h => .inl ⟨rfl, h⟩
  | k + 1, m, o, s, t, h => by
    unfold Lz.backGo
    rcases sim_bitAt K (base + m) (x / 2 ^ (n - (k + 1)) % 2) h with ⟨h1, h2⟩ | h3
    · rw [h1]
      exact sim_backGo K base x n k _ _ h2
    · exact .inr (stays_backGo K.toStays _ _ _ _ _ _ h3)
theorem sim_backAt (K : Sim co co' ρ β) (base n x : Nat) {s : CP σ} {t : CP τ} (h : Pair ρ s t) : Res ρ β (backAt co base n x s) (backAt co' base n x t) := sim_backGo K _ _ _ _ _ _ h
set_option maxRecDepth 100000 in
theorem sim_lenAt (K : Sim co co' ρ β) (base n p : Nat) {s : CP σ} {t : CP τ} (h : Pair ρ s t) : Res ρ β (lenAt co base n p s) (lenAt co' base n p t) := by
  unfold Lz.lenAt
  simp only
  rcases sim_bitAt K base (b2n (decide (10 ≤ n))) h with ⟨h1, h2⟩ | h3
  · rw [h1]
    split
    · rcases sim_treeAt K (base + 2 + p * 8) 3 (n - 2) h2 with ⟨k1, k2⟩ | k3
      · exact .inl ⟨by simp only; rw [k1], k2⟩
      · exact .inr k3
    · rcases sim_bitAt K (base + 1) (b2n (decide (18 ≤ n))) h2 with ⟨g1, g2⟩ | g3
      · rw [g1]
        split
        · rcases sim_treeAt K (base + 130 + p * 8) 3 (n - 10) g2 with ⟨k1, k2⟩ | k3
          · exact .inl ⟨by simp only; rw [k1], k2⟩
          · exact .inr k3
        · rcases sim_treeAt K (base + 258) 8 (n - 18) g2 with ⟨k1, k2⟩ | k3
          · exact .inl ⟨by simp only; rw [k1], k2⟩
          · exact .inr k3
      · refine .inr ?_
        split
        · exact stays_treeAt K.toStays (base + 130 + p * 8) 3 (n - 10) g3
        · exact stays_treeAt K.toStays (base + 258) 8 (n - 18) g3
  · refine .inr ?_
    split
    · exact stays_treeAt K.toStays (base + 2 + p * 8) 3 (n - 2) h3
    · split
      · exact stays_treeAt K.toStays (base + 130 + p * 8) 3 (n - 10) (stays_bitAt K.toStays _ _ h3)
      · exact stays_treeAt K.toStays (base + 258) 8 (n - 18) (stays_bitAt K.toStays _ _ h3)
theorem sim_distAt (K : Sim co co' ρ β) (d size : Nat) {s : CP σ} {t : CP τ} (h : Pair ρ s t) : Res ρ β (distAt co d size s) (distAt co' d size t) := by
  rcases sim_treeAt K (440 + (min size 5 - 2) * 64) 6 (slotOf d) h with ⟨h1, h2⟩ | h3
  · unfold Lz.distAt
    simp only
    rw [h1]
    split
    · exact .inl ⟨rfl, h2⟩
    · split
      · rcases sim_backAt K (696 + (2 + (Lz.treeAt co' (440 + (min size 5 - 2) * 64) 6 (slotOf d) t).1 % 2) * 2 ^ ((Lz.treeAt co' (440 + (min size 5 - 2) * 64) 6 (slotOf d) t).1 / 2 - 1) - (Lz.treeAt co' (440 + (min size 5 - 2) * 64) 6 (slotOf d) t).1) ((Lz.treeAt co' (440 + (min size 5 - 2) * 64) 6 (slotOf d) t).1 / 2 - 1) (d - (2 + (Lz.treeAt co' (440 + (min size 5 - 2) * 64) 6 (slotOf d) t).1 % 2) * 2 ^ ((Lz.treeAt co' (440 + (min size 5 - 2) * 64) 6 (slotOf d) t).1 / 2 - 1)) h2 with ⟨k1, k2⟩ | k3
        · exact .inl ⟨by simp only; rw [k1], k2⟩
        · exact .inr k3
      · generalize Lz.treeAt co' (440 + (min size 5 - 2) * 64) 6 (slotOf d) t = T' at *
        generalize Lz.treeAt co (440 + (min size 5 - 2) * 64) 6 (slotOf d) s = T at *
        rcases K.twoDir T.2.d T'.2.d ((d - (2 + T'.1 % 2) * 2 ^ (T'.1 / 2 - 1)) / 16) (T'.1 / 2 - 1 - 4) h2.1 with ⟨g1, g2⟩ | g3
        · rw [g1]
          rcases sim_backAt K 824 4 (d % 16) (s := ⟨(co.dir T.2.d ((d - (2 + T'.1 % 2) * 2 ^ (T'.1 / 2 - 1)) / 16) (T'.1 / 2 - 1 - 4)).2, T.2.pr⟩) (t := ⟨(co'.dir T'.2.d ((d - (2 + T'.1 % 2) * 2 ^ (T'.1 / 2 - 1)) / 16) (T'.1 / 2 - 1 - 4)).2, T'.2.pr⟩) ⟨g2, h2.2⟩ with ⟨k1, k2⟩ | k3
          · exact .inl ⟨by simp only; rw [k1], k2⟩
          · exact .inr k3
        · exact .inr (stays_backAt K.toStays _ _ _ g3)
  · refine .inr ?_
    unfold Lz.distAt
    simp only
    split
    · exact h3
    · split
      · exact stays_backAt K.toStays _ _ _ h3
      · exact stays_backAt K.toStays _ _ _ (K.toStays.dir _ _ _ h3)
theorem sim_farGo (K : Sim co co' ρ β) (base x far : Nat) : ∀ (n m : Nat) {s : CP σ} {t : CP τ}, Pair ρ s t → Res ρ β (farGo co base x far n m s) (farGo co' base x far n m t)
  | 0, m, s, t, h => .inl ⟨rfl, h⟩
  | n + 1, m, s, t, h => by
    unfold Lz.farGo
    simp only
    rcases sim_bitAt K (base + (1 + far / 2 ^ n % 2) * 256 + m) (x / 2 ^ n % 2) h with ⟨h1, h2⟩ | h3
    · rw [h1]
      split
      · exact sim_farGo K base x far n _ h2
      · exact sim_treeGo K _ _ _ _ h2
    · refine .inr ?_
      split
      · exact stays_farGo K.toStays _ _ _ _ _ h3
      · exact stays_treeGo K.toStays _ _ _ _ h3
theorem sim_litAt (K : Sim co co' ρ β) (lc lp st total ahead far x : Nat) {s : CP σ} {t : CP τ} (h : Pair ρ s t) : Res ρ β (litAt co lc lp st total ahead far x s) (litAt co' lc lp st total ahead far x t) := by
  unfold Lz.litAt
  simp only
  split
  · rcases sim_farGo K (4096 + 768 * (total % 2 ^ lp * 2 ^ lc + ahead / 2 ^ (8 - lc))) x far 8 1 h with ⟨h1, h2⟩ | h3
    · exact .inl ⟨by simp only; rw [h1], h2⟩
    · exact .inr h3
  · rcases sim_treeGo K (4096 + 768 * (total % 2 ^ lp * 2 ^ lc + ahead / 2 ^ (8 - lc))) x 8 1 h with ⟨h1, h2⟩ | h3
    · exact .inl ⟨by simp only; rw [h1], h2⟩
    · exact .inr h3
theorem sim_litOf (K : Sim co co' ρ β) (k : LK) (st total : Nat) (rep : Nat → Nat) (C : List UInt8) {s : CP σ} {t : CP τ} (h : Pair ρ s t) : Res ρ β (litOf co k st total rep C s) (litOf co' k st total rep C t) := sim_litAt K _ _ _ _ _ _ _ h
/-- What an operation makes of both. -/
def Res4 (ρ : σ → τ → Prop) (β : τ → Prop) (a : Nat × Nat × (Nat → Nat) × CP σ) (b : Nat × Nat × (Nat → Nat) × CP τ) : Prop := (a.1 = b.1 ∧ a.2.1 = b.2.1 ∧ a.2.2.1 = b.2.2.1 ∧ Pair ρ a.2.2.2 b.2.2.2) ∨ β b.2.2.2.d
theorem sim_repOf (K : Sim co co' ρ β) (st p : Nat) (rep : Nat → Nat) {s : CP σ} {t : CP τ} (h : Pair ρ s t) : Res4 ρ β (repOf co st p rep s) (repOf co' st p rep t) := by
  rcases sim_bitAt K (212 + st) 0 h with ⟨h1, h2⟩ | h3
  · unfold Go.Proofs.Ytefbjamepbkklaa.repOf
    simp only
    rw [h1]
    split
    · rcases sim_bitAt K (248 + st * 16 + p) 0 h2 with ⟨k1, k2⟩ | k3
      · rw [k1]
        split
        · exact .inl ⟨rfl, rfl, rfl, k2⟩
        · rcases sim_lenAt K 1354 2 p k2 with ⟨l1, l2⟩ | l3
          · exact .inl ⟨l1, rfl, rfl, l2⟩
          · exact .inr l3
      · refine .inr ?_
        split
        · exact k3
        · exact stays_lenAt K.toStays _ _ _ k3
    · rcases sim_bitAt K (224 + st) 0 h2 with ⟨k1, k2⟩ | k3
      · rw [k1]
        split
        · rcases sim_bitAt K (236 + st) 0 k2 with ⟨j1, j2⟩ | j3
          · rw [j1]
            rcases sim_lenAt K 1354 2 p j2 with ⟨l1, l2⟩ | l3
            · exact .inl ⟨l1, rfl, rfl, l2⟩
            · exact .inr l3
          · exact .inr (stays_lenAt K.toStays _ _ _ j3)
        · rcases sim_lenAt K 1354 2 p k2 with ⟨l1, l2⟩ | l3
          · exact .inl ⟨l1, rfl, rfl, l2⟩
          · exact .inr l3
      · refine .inr ?_
        split
        · exact stays_lenAt K.toStays _ _ _ (stays_bitAt K.toStays _ _ k3)
        · exact stays_lenAt K.toStays _ _ _ k3
  · refine .inr ?_
    unfold Go.Proofs.Ytefbjamepbkklaa.repOf
    simp only
    split
    · split
      · exact stays_bitAt K.toStays _ _ h3
      · exact stays_lenAt K.toStays _ _ _ (stays_bitAt K.toStays _ _ h3)
    · split
      · exact stays_lenAt K.toStays _ _ _ (stays_bitAt K.toStays _ _ (stays_bitAt K.toStays _ _ h3))
      · exact stays_lenAt K.toStays _ _ _ (stays_bitAt K.toStays _ _ h3)
theorem sim_opOf (K : Sim co co' ρ β) (st p : Nat) (rep : Nat → Nat) {s : CP σ} {t : CP τ} (h : Pair ρ s t) : Res4 ρ β (opOf co st p rep s) (opOf co' st p rep t) := by
  rcases sim_bitAt K (200 + st) 0 h with ⟨h1, h2⟩ | h3
  · unfold Go.Proofs.Ytefbjamepbkklaa.opOf
    simp only
    rw [h1]
    split
    · exact sim_repOf K _ _ _ h2
    · rcases sim_lenAt K 840 2 p h2 with ⟨l1, l2⟩ | l3
      · rw [l1]
        rcases sim_distAt K 0 (Lz.lenAt co' 840 2 p (Lz.bitAt co' (200 + st) 0 t).2).1 l2 with ⟨d1, d2⟩ | d3
        · exact .inl ⟨rfl, rfl, by simp only; rw [d1], d2⟩
        · exact .inr d3
      · exact .inr (stays_distAt K.toStays _ _ l3)
  · refine .inr ?_
    unfold Go.Proofs.Ytefbjamepbkklaa.opOf
    simp only
    split
    · exact stays_repOf K.toStays _ _ _ h3
    · exact stays_distAt K.toStays _ _ (stays_lenAt K.toStays _ _ _ h3)
end
end Go.Proofs.Ytefbjamepbkklaa.Lz

/- What goes in comes out, in plain Lean, over any two coders: what one coder was told, up tq9 an end, the other one tells. -/
namespace Go.Proofs.Ytefbjamepbkklaa.Lz
open Go.RowKit Rng Win
set_option linter.unusedVariables false
set_option linter.unusedSimpArgs false
/-- γ: the coder may still come tq9 the end that is meant; I: it is in order. -/
structure Backs {σ τ : Type} (co : Cod σ) (co' : Cod τ) (ρ : σ → τ → Prop) (I γ : σ → Prop) : Prop where
  inv : Stays co I
  back : ∀ s p x, I s → γ (co.bit s (fair p) x).2 → γ s
  backD : ∀ s x n, I s → γ (co.dir s x n).2 → γ s
  two : ∀ s t p x y, I s → ρ s t → γ (co.bit s (fair p) x).2 → (co.bit s (fair p) x).1 = (co'.bit t (fair p) y).1 ∧ ρ (co.bit s (fair p) x).2 (co'.bit t (fair p) y).2
  twoD : ∀ s t x y n, n ≤ 32 → I s → ρ s t → γ (co.dir s x n).2 → (co.dir s x n).1 = (co'.dir t y n).1 ∧ ρ (co.dir s x n).2 (co'.dir t y n).2
def BackR {σ τ α : Type} (ρ : σ → τ → Prop) (a : α × CP σ) (b : α × CP τ) : Prop := a.1 = b.1 ∧ Pair ρ a.2 b.2
section
variable {σ τ : Type} {co : Cod σ} {co' : Cod τ} {ρ : σ → τ → Prop} {I γ : σ → Prop}
/-- In order, and the end that is meant is no nearer than it was from s on. -/
def Since (I γ : σ → Prop) (s e : σ) : Prop := I e ∧ (γ e → γ s)
theorem since_stays (K : Backs co co' ρ I γ) (s : σ) : Stays co (Since I γ s) :=
  ⟨fun t p x h => ⟨K.inv.bit t p x h.1, fun hg => h.2 (K.back t p x h.1 hg)⟩, fun t x n h => ⟨K.inv.dir t x n h.1, fun hg => h.2 (K.backD t x n h.1 hg)⟩⟩
theorem Since.refl {s : σ} (h : I s) : Since I γ s s := ⟨h, fun hg => hg⟩
theorem back_bitAt (K : Backs co co' ρ I γ) (i x y : Nat) {s : CP σ} {t : CP τ} (hi : I s.d) (h : Pair ρ s t) (hg : γ (bitAt co i x s).2.d) : BackR ρ (bitAt co i x s) (bitAt co' i y t) := by
  unfold BackR Pair Lz.bitAt
  simp only
  rw [← h.2]
  obtain ⟨h1, h2⟩ := K.two s.d t.d (s.pr i) x y hi h.1 hg
  exact ⟨by rw [h1], h2, by rw [h1]⟩
theorem back_treeGo (K : Backs co co' ρ I γ) (base x y : Nat) : ∀ (n m : Nat) {s : CP σ} {t : CP τ}, I s.d → Pair ρ s t → γ (treeGo co base x n m s).2.d → BackR ρ (treeGo co base x n m s) (treeGo co' base y n m t)
  | 0, m, s, t, hi, h, hg => ⟨rfl, h⟩
  | n + 1, m, s, t, hi, h, hg => by
    unfold Lz.treeGo at hg ⊢
    have hi1 := stays_bitAt K.inv (base + m) (x / 2 ^ n % 2) hi
    have hg1 := (stays_treeGo (since_stays K (bitAt co (base + m) (x / 2 ^ n % 2) s).2.d) base x n (2 * m + (bitAt co (base + m) (x / 2 ^ n % 2) s).1) (Since.refl hi1)).2 hg
    obtain ⟨h1, h2⟩ := back_bitAt K (base + m) (x / 2 ^ n % 2) (y / 2 ^ n % 2) hi h hg1
    rw [← h1]
    exact back_treeGo K base x y n _ hi1 h2 hg
theorem back_treeAt (K : Backs co co' ρ I γ) (base n x y : Nat) {s : CP σ} {t : CP τ} (hi : I s.d) (h : Pair ρ s t) (hg : γ (treeAt co base n x s).2.d) : BackR ρ (treeAt co base n x s) (treeAt co' base n y t) := by
  obtain ⟨h1, h2⟩ := back_treeGo K base x y n 1 hi h hg
  exact ⟨by unfold Lz.treeAt; simp only; rw [h1], h2⟩
theorem back_backGo (K : Backs co co' ρ I γ) (base x y n : Nat) : ∀ (k m o : Nat) {s : CP σ} {t : CP τ}, I s.d → Pair ρ s t → γ (backGo co base x n k m o s).2.d → BackR ρ (backGo co base x n k m o s) (backGo co' base y n k m o t)
  | 0, m, o, s, t, hi, h, hg => ⟨rfl, h⟩
  | k + 1, m, o, s, t, hi, h, hg => by
    unfold Lz.backGo at hg ⊢
    have hi1 := stays_bitAt K.inv (base + m) (x / 2 ^ (n - (k + 1)) % 2) hi
    have hg1 := (stays_backGo (since_stays K (bitAt co (base + m) (x / 2 ^ (n - (k + 1)) % 2) s).2.d) base x n k (2 * m + (bitAt co (base + m) (x / 2 ^ (n - (k + 1)) % 2) s).1) (o + (bitAt co (base + m) (x / 2 ^ (n - (k + 1)) % 2) s).1 * 2 ^ (n - (k + 1))) (Since.refl hi1)).2 hg
    obtain ⟨h1, h2⟩ := back_bitAt K (base + m) (x / 2 ^ (n - (k + 1)) % 2) (y / 2 ^ (n - (k + 1)) % 2) hi h hg1
    rw [← h1]
    exact back_backGo K base x y n k _ _ hi1 h2 hg
theorem back_backAt (K : Backs co co' ρ I γ) (base n x y : Nat) {s : CP σ} {t : CP τ} (hi : I s.d) (h : Pair ρ s t) (hg : γ (backAt co base n x s).2.d) : BackR ρ (backAt co base n x s) (backAt co' base n y t) := back_backGo K base x y n n 1 0 hi h hg
set_option maxRecDepth 100000 in
theorem back_lenAt (K : Backs co co' ρ I γ) (base n m p : Nat) {s : CP σ} {t : CP τ} (hi : I s.d) (h : Pair ρ s t) (hg : γ (lenAt co base n p s).2.d) : BackR ρ (lenAt co base n p s) (lenAt co' base m p t) := by
  have hi1 := stays_bitAt K.inv base (b2n (decide (10 ≤ n))) hi
  have hi2 := stays_bitAt K.inv (base + 1) (b2n (decide (18 ≤ n))) hi1
  have S1 := since_stays K (bitAt co base (b2n (decide (10 ≤ n))) s).2.d
  have hg1 : γ (bitAt co base (b2n (decide (10 ≤ n))) s).2.d := by
    have : Since I γ (bitAt co base (b2n (decide (10 ≤ n))) s).2.d (lenAt co base n p s).2.d := by
      unfold Lz.lenAt
      simp only
      split
      · exact stays_treeAt S1 (base + 2 + p * 8) 3 (n - 2) (Since.refl hi1)
      · split
        · exact stays_treeAt S1 (base + 130 + p * 8) 3 (n - 10) (stays_bitAt S1 _ _ (Since.refl hi1))
        · exact stays_treeAt S1 (base + 258) 8 (n - 18) (stays_bitAt S1 _ _ (Since.refl hi1))
    exact this.2 hg
  obtain ⟨h1, h2⟩ := back_bitAt K base (b2n (decide (10 ≤ n))) (b2n (decide (10 ≤ m))) hi h hg1
  unfold Lz.lenAt at hg ⊢
  simp only at hg ⊢
  rw [← h1]
  by_cases ha : (bitAt co base (b2n (decide (10 ≤ n))) s).1 = 0
  · rw [if_pos ha] at hg ⊢
    rw [if_pos ha]
    obtain ⟨k1, k2⟩ := back_treeAt K (base + 2 + p * 8) 3 (n - 2) (m - 2) hi1 h2 hg
    exact ⟨by simp only; rw [k1], k2⟩
  · rw [if_neg ha] at hg ⊢
    rw [if_neg ha]
    have S2 := since_stays K (bitAt co (base + 1) (b2n (decide (18 ≤ n))) (bitAt co base (b2n (decide (10 ≤ n))) s).2).2.d
    have hg2 : γ (bitAt co (base + 1) (b2n (decide (18 ≤ n))) (bitAt co base (b2n (decide (10 ≤ n))) s).2).2.d := by
      by_cases hc : (bitAt co (base + 1) (b2n (decide (18 ≤ n))) (bitAt co base (b2n (decide (10 ≤ n))) s).2).1 = 0
      · rw [if_pos hc] at hg
        exact (stays_treeAt S2 (base + 130 + p * 8) 3 (n - 10) (Since.refl hi2)).2 hg
      · rw [if_neg hc] at hg
        exact (stays_treeAt S2 (base + 258) 8 (n - 18) (Since.refl hi2)).2 hg
    obtain ⟨g1, g2⟩ := back_bitAt K (base + 1) (b2n (decide (18 ≤ n))) (b2n (decide (18 ≤ m))) hi1 h2 hg2
    rw [← g1]
    by_cases hc : (bitAt co (base + 1) (b2n (decide (18 ≤ n))) (bitAt co base (b2n (decide (10 ≤ n))) s).2).1 = 0
    · rw [if_pos hc] at hg ⊢
      rw [if_pos hc]
      obtain ⟨k1, k2⟩ := back_treeAt K (base + 130 + p * 8) 3 (n - 10) (m - 10) hi2 g2 hg
      exact ⟨by simp only; rw [k1], k2⟩
    · rw [if_neg hc] at hg ⊢
      rw [if_neg hc]
      obtain ⟨k1, k2⟩ := back_treeAt K (base + 258) 8 (n - 18) (m - 18) hi2 g2 hg
      exact ⟨by simp only; rw [k1], k2⟩
theorem back_distAt (K : Backs co co' ρ I γ) (d e size : Nat) {s : CP σ} {t : CP τ} (hi : I s.d) (h : Pair ρ s t) (hsl : (treeAt co (440 + (min size 5 - 2) * 64) 6 (slotOf d) s).1 < 64) (hg : γ (distAt co d size s).2.d) : BackR ρ (distAt co d size s) (distAt co' e size t) := by
  have hi1 := stays_treeAt K.inv (440 + (min size 5 - 2) * 64) 6 (slotOf d) hi
  have S1 := since_stays K (treeAt co (440 + (min size 5 - 2) * 64) 6 (slotOf d) s).2.d
  have hg1 : γ (treeAt co (440 + (min size 5 - 2) * 64) 6 (slotOf d) s).2.d := by
    have : Since I γ (treeAt co (440 + (min size 5 - 2) * 64) 6 (slotOf d) s).2.d (distAt co d size s).2.d := by
      unfold Lz.distAt
      simp only
      split
      · exact Since.refl hi1
      · split
        · exact stays_backAt S1 _ _ _ (Since.refl hi1)
        · exact stays_backAt S1 _ _ _ (S1.dir _ _ _ (Since.refl hi1))
    exact this.2 hg
  obtain ⟨h1, h2⟩ := back_treeAt K (440 + (min size 5 - 2) * 64) 6 (slotOf d) (slotOf e) hi h hg1
  unfold Lz.distAt at hg ⊢
  simp only at hg ⊢
  rw [← h1]
  generalize Lz.treeAt co' (440 + (min size 5 - 2) * 64) 6 (slotOf e) t = T' at *
  generalize Lz.treeAt co (440 + (min size 5 - 2) * 64) 6 (slotOf d) s = T at *
  by_cases h4 : T.1 < 4
  · rw [if_pos h4]
    rw [if_pos h4]
    exact ⟨rfl, h2⟩
  · rw [if_neg h4] at hg ⊢
    rw [if_neg h4]
    by_cases h14 : T.1 < 14
    · rw [if_pos h14] at hg ⊢
      rw [if_pos h14]
      obtain ⟨k1, k2⟩ := back_backAt K (696 + (2 + T.1 % 2) * 2 ^ (T.1 / 2 - 1) - T.1) (T.1 / 2 - 1) (d - (2 + T.1 % 2) * 2 ^ (T.1 / 2 - 1)) (e - (2 + T.1 % 2) * 2 ^ (T.1 / 2 - 1)) hi1 h2 hg
      exact ⟨by simp only; rw [k1], k2⟩
    · rw [if_neg h14] at hg ⊢
      rw [if_neg h14]
      have hi2 := K.inv.dir T.2.d ((d - (2 + T.1 % 2) * 2 ^ (T.1 / 2 - 1)) / 16) (T.1 / 2 - 1 - 4) hi1
      have hg2 := (stays_backAt (since_stays K (co.dir T.2.d ((d - (2 + T.1 % 2) * 2 ^ (T.1 / 2 - 1)) / 16) (T.1 / 2 - 1 - 4)).2) 824 4 (d % 16) (t := ⟨(co.dir T.2.d ((d - (2 + T.1 % 2) * 2 ^ (T.1 / 2 - 1)) / 16) (T.1 / 2 - 1 - 4)).2, T.2.pr⟩) (Since.refl hi2)).2 hg
      obtain ⟨g1, g2⟩ := K.twoD T.2.d T'.2.d ((d - (2 + T.1 % 2) * 2 ^ (T.1 / 2 - 1)) / 16) ((e - (2 + T.1 % 2) * 2 ^ (T.1 / 2 - 1)) / 16) (T.1 / 2 - 1 - 4) (by omega) hi1 h2.1 hg2
      rw [← g1]
      obtain ⟨k1, k2⟩ := back_backAt K 824 4 (d % 16) (e % 16) (s := ⟨(co.dir T.2.d ((d - (2 + T.1 % 2) * 2 ^ (T.1 / 2 - 1)) / 16) (T.1 / 2 - 1 - 4)).2, T.2.pr⟩) (t := ⟨(co'.dir T'.2.d ((e - (2 + T.1 % 2) * 2 ^ (T.1 / 2 - 1)) / 16) (T.1 / 2 - 1 - 4)).2, T'.2.pr⟩) hi2 ⟨g2, h2.2⟩ hg
      exact ⟨by simp only; rw [k1], k2⟩
theorem back_farGo (K : Backs co co' ρ I γ) (base x y far : Nat) : ∀ (n m : Nat) {s : CP σ} {t : CP τ}, I s.d → Pair ρ s t → γ (farGo co base x far n m s).2.d → BackR ρ (farGo co base x far n m s) (farGo co' base y far n m t)
  | 0, m, s, t, hi, h, hg => ⟨rfl, h⟩
  | n + 1, m, s, t, hi, h, hg => by
    have hi1 := stays_bitAt K.inv (base + (1 + far / 2 ^ n % 2) * 256 + m) (x / 2 ^ n % 2) hi
    have S1 := since_stays K (bitAt co (base + (1 + far / 2 ^ n % 2) * 256 + m) (x / 2 ^ n % 2) s).2.d
    unfold Lz.farGo at hg ⊢
    simp only at hg ⊢
    have hg1 : γ (bitAt co (base + (1 + far / 2 ^ n % 2) * 256 + m) (x / 2 ^ n % 2) s).2.d := by
      split at hg
      · exact (stays_farGo S1 _ _ _ _ _ (Since.refl hi1)).2 hg
      · exact (stays_treeGo S1 _ _ _ _ (Since.refl hi1)).2 hg
    obtain ⟨h1, h2⟩ := back_bitAt K (base + (1 + far / 2 ^ n % 2) * 256 + m) (x / 2 ^ n % 2) (y / 2 ^ n % 2) hi h hg1
    rw [← h1]
    by_cases hw : (bitAt co (base + (1 + far / 2 ^ n % 2) * 256 + m) (x / 2 ^ n % 2) s).1 = far / 2 ^ n % 2
    · rw [if_pos hw] at hg ⊢
      rw [if_pos hw]
      exact back_farGo K base x y far n _ hi1 h2 hg
    · rw [if_neg hw] at hg ⊢
      rw [if_neg hw]
      exact back_treeGo K _ _ _ _ _ hi1 h2 hg
theorem back_litAt (K : Backs co co' ρ I γ) (lc lp st total ahead far x y : Nat) {s : CP σ} {t : CP τ} (hi : I s.d) (h : Pair ρ s t) (hg : γ (litAt co lc lp st total ahead far x s).2.d) : BackR ρ (litAt co lc lp st total ahead far x s) (litAt co' lc lp st total ahead far y t) := by
  unfold Lz.litAt at hg ⊢
  simp only at hg ⊢
  by_cases h7 : 7 ≤ st
  · rw [if_pos h7] at hg ⊢
    rw [if_pos h7]
    obtain ⟨h1, h2⟩ := back_farGo K _ x y far 8 1 hi h hg
    exact ⟨by simp only; rw [h1], h2⟩
  · rw [if_neg h7] at hg ⊢
    rw [if_neg h7]
    obtain ⟨h1, h2⟩ := back_treeGo K _ x y 8 1 hi h hg
    exact ⟨by simp only; rw [h1], h2⟩
end
end Go.Proofs.Ytefbjamepbkklaa.Lz

/- An encoder, in plain Lean. -/
namespace Go.Proofs.Ytefbjamepbkklaa.Rng
open Go.RowKit
set_option linter.unusedVariables false
set_option linter.unusedSimpArgs false
structure Enc where
  low : Nat
  size : Nat
  first : UInt8
  more : Nat
  out : List UInt8
  closed : Bool
def Enc.carry (e : Enc) : UInt8 := UInt8.ofNat (e.low / 4294967296)
def Enc.shift (e : Enc) : Enc :=
  if 4278190080 ≤ e.low ∧ e.low < 4294967296 then ⟨e.low * 256 % 4294967296, e.size, e.first, e.more + 1, e.out, e.closed⟩
  else ⟨e.low * 256 % 4294967296, e.size, UInt8.ofNat (e.low / 16777216), 0, e.out ++ (e.first + e.carry) :: List.replicate e.more (255 + e.carry), e.closed⟩
def Enc.order (e : Enc) : Enc := if e.size < 16777216 then Enc.shift ⟨e.low, e.size * 256, e.first, e.more, e.out, e.closed⟩ else e
def Enc.bit (e : Enc) (c : Nat) (one : Bool) : Enc :=
  Enc.order (if one then ⟨e.low + e.size / 2048 * c, e.size - e.size / 2048 * c, e.first, e.more, e.out, e.closed⟩ else ⟨e.low, e.size / 2048 * c, e.first, e.more, e.out, e.closed⟩)
def Enc.one (e : Enc) (one : Bool) : Enc := Enc.order ⟨if one then e.low + e.size / 2 else e.low, e.size / 2, e.first, e.more, e.out, e.closed⟩
/-- The lowest n bits of x, the highest first. -/
def Enc.direct (x : Nat) : Nat → Enc → Enc
  | 0, e => e
  | n + 1, e => Enc.direct x n (e.one (x / 2 ^ n % 2 == 1))
def Enc.shifts : Nat → Enc → Enc
  | 0, e => e
  | n + 1, e => Enc.shifts n e.shift
def newEnc : Enc := ⟨0, 4294967295, 0, 0, [], false⟩
/-- What an encoder tells at its end, and what it is then. -/
def Enc.close (e : Enc) : Enc := if e.closed then e else ⟨(e.shifts 5).low, (e.shifts 5).size, (e.shifts 5).first, (e.shifts 5).more, (e.shifts 5).out, true⟩
/-- How many shifts it has seen. -/
def Enc.cnt (e : Enc) : Nat := e.out.length + e.more
structure Enc.Ok (e : Enc) : Prop where
  l : e.low ≤ 8589934592
  s : e.size < 4294967296
/-- Between two bits. -/
structure Enc.Run (e : Enc) : Prop where
  l : e.low + e.size ≤ 8589934592
  s : 16777216 ≤ e.size ∧ e.size < 4294967296
theorem Enc.Run.ok {e : Enc} (h : e.Run) : e.Ok := by
  have h1 := h.l
  have h2 := h.s
  exact ⟨by omega, by omega⟩
theorem Enc.shift_cnt (e : Enc) : e.shift.cnt = e.cnt + 1 := by
  unfold Enc.shift Enc.cnt
  split
  · simp only; omega
  · simp only [List.length_append, List.length_cons, List.length_replicate]; omega
theorem Enc.shift_size (e : Enc) : e.shift.size = e.size := by unfold Enc.shift; split <;> rfl
theorem Enc.shift_low (e : Enc) : e.shift.low = e.low * 256 % 4294967296 := by unfold Enc.shift; split <;> rfl
theorem Enc.shift_closed (e : Enc) : e.shift.closed = e.closed := by unfold Enc.shift; split <;> rfl
theorem Enc.Ok.shift {e : Enc} (h : e.Ok) : e.shift.Ok := by
  have h1 := h.l
  have h2 := h.s
  refine ⟨?_, by rw [Enc.shift_size]; exact h2⟩
  rw [Enc.shift_low]
  omega
theorem Enc.order_stay {e : Enc} (h : 16777216 ≤ e.size) : e.order = e := if_neg (by omega)
theorem Enc.order_cnt (e : Enc) : e.order.cnt ≤ e.cnt + 1 := by
  unfold Enc.order
  split
  · rw [Enc.shift_cnt]; exact Nat.le_refl _
  · omega
theorem Enc.order_closed (e : Enc) : e.order.closed = e.closed := by
  unfold Enc.order
  split
  · rw [Enc.shift_closed]
  · rfl
/-- Ahead of order. -/
structure Enc.Pre (e : Enc) : Prop where
  l : e.low + e.size ≤ 8589934592
  s : 65536 ≤ e.size ∧ e.size < 4294967296
theorem Enc.Pre.ok {e : Enc} (h : e.Pre) : e.Ok := by
  have h1 := h.l
  have h2 := h.s
  exact ⟨by omega, by omega⟩
theorem Enc.Pre.order {e : Enc} (h : e.Pre) : e.order.Run := by
  have h1 := h.l
  have h2 := h.s
  unfold Enc.order
  split
  · refine ⟨?_, ?_⟩
    · rw [Enc.shift_size, Enc.shift_low]; simp only; omega
    · rw [Enc.shift_size]; simp only; omega
  · exact ⟨h1, by omega⟩
theorem newEnc_run : newEnc.Run := ⟨by show 0 + 4294967295 ≤ 8589934592; omega, by show 16777216 ≤ 4294967295 ∧ 4294967295 < 4294967296; omega⟩
theorem bound_bd {s c : Nat} (hs : 16777216 ≤ s) (h1 : 31 ≤ c) (h2 : c ≤ 2017) : 65536 ≤ s / 2048 * c ∧ 65536 ≤ s - s / 2048 * c ∧ s / 2048 * c ≤ s := by
  have hq : 8192 ≤ s / 2048 := by omega
  have hm := Nat.div_mul_le_self s 2048
  generalize s / 2048 = q at *
  have a1 : 8192 * 31 ≤ q * c := Nat.mul_le_mul hq h1
  have a2 : q * c ≤ q * 2017 := Nat.mul_le_mul_left _ h2
  omega
/-- Behind a bit, ahead of order. -/
def Enc.cut (e : Enc) (c : Nat) (one : Bool) : Enc :=
  if one then ⟨e.low + e.size / 2048 * c, e.size - e.size / 2048 * c, e.first, e.more, e.out, e.closed⟩ else ⟨e.low, e.size / 2048 * c, e.first, e.more, e.out, e.closed⟩
theorem Enc.bit_cut (e : Enc) (c : Nat) (one : Bool) : e.bit c one = (e.cut c one).order := rfl
theorem Enc.Run.cut {e : Enc} (h : e.Run) {c : Nat} (h1 : 31 ≤ c) (h2 : c ≤ 2017) (one : Bool) : (e.cut c one).Pre := by
  have a1 := h.l
  have a2 := h.s
  have hb := bound_bd a2.1 h1 h2
  unfold Enc.cut
  split
  · exact ⟨by simp only; omega, by simp only; omega⟩
  · exact ⟨by simp only; omega, by simp only; omega⟩
theorem Enc.cut_cnt (e : Enc) (c : Nat) (one : Bool) : (e.cut c one).cnt = e.cnt := by unfold Enc.cut; split <;> rfl
theorem Enc.Run.bit {e : Enc} (h : e.Run) {c : Nat} (h1 : 31 ≤ c) (h2 : c ≤ 2017) (one : Bool) : (e.bit c one).Run := (h.cut h1 h2 one).order
theorem Enc.bit_cnt (e : Enc) (c : Nat) (one : Bool) : (e.bit c one).cnt ≤ e.cnt + 1 := by
  rw [Enc.bit_cut]
  have := Enc.order_cnt (e.cut c one)
  rw [Enc.cut_cnt] at this
  exact this
theorem Enc.bit_closed (e : Enc) (c : Nat) (one : Bool) : (e.bit c one).closed = e.closed := by
  rw [Enc.bit_cut, Enc.order_closed]; unfold Enc.cut; split <;> rfl
/-- Half of it, ahead of order. -/
def Enc.half (e : Enc) (one : Bool) : Enc := ⟨if one then e.low + e.size / 2 else e.low, e.size / 2, e.first, e.more, e.out, e.closed⟩
theorem Enc.one_half (e : Enc) (one : Bool) : e.one one = (e.half one).order := rfl
theorem Enc.Run.half {e : Enc} (h : e.Run) (one : Bool) : (e.half one).Pre := by
  have a1 := h.l
  have a2 := h.s
  unfold Enc.half
  refine ⟨?_, by simp only; omega⟩
  simp only
  split <;> omega
theorem Enc.Run.one {e : Enc} (h : e.Run) (one : Bool) : (e.one one).Run := (h.half one).order
theorem Enc.one_cnt (e : Enc) (one : Bool) : (e.one one).cnt ≤ e.cnt + 1 := Enc.order_cnt (e.half one)
theorem Enc.one_closed (e : Enc) (one : Bool) : (e.one one).closed = e.closed := Enc.order_closed (e.half one)
theorem Enc.Run.direct {x : Nat} : ∀ {n : Nat} {e : Enc}, e.Run → (Enc.direct x n e).Run
  | 0, e, h => h
  | n + 1, e, h => Enc.Run.direct (n := n) (e := e.one (x / 2 ^ n % 2 == 1)) (Enc.Run.one h _)
theorem Enc.direct_cnt {x : Nat} : ∀ {n : Nat} {e : Enc}, (Enc.direct x n e).cnt ≤ e.cnt + n
  | 0, e => Nat.le_refl _
  | n + 1, e => by
    have h1 := Enc.direct_cnt (x := x) (n := n) (e := e.one (x / 2 ^ n % 2 == 1))
    have h2 := Enc.one_cnt e (x / 2 ^ n % 2 == 1)
    rw [Enc.direct]; omega
theorem Enc.direct_closed {x : Nat} : ∀ {n : Nat} {e : Enc}, (Enc.direct x n e).closed = e.closed
  | 0, e => rfl
  | n + 1, e => by rw [Enc.direct, Enc.direct_closed, Enc.one_closed]
end Go.Proofs.Ytefbjamepbkklaa.Rng

/- The encoder's shift. -/
namespace Go.Proofs.Ytefbjamepbkklaa
open Go.RowKit Rng
set_option linter.unusedVariables false
set_option linter.unusedSimpArgs false
/-- An encoder at block b: type T its struct, v the slice of what went out; z is added tq9 the count of waiting bytes. -/
structure EncAt (w : World) (T z b base : Nat) (v : Value) (e : Enc) : Prop where
  p : Pts w b #[.int .u64 e.low, .int .u32 e.size, byteV e.first, .int .i64 ((e.more + z : Nat) : Int), v, .bool e.closed] T
  o : OwnB w 5 base v e.out
  k : e.Ok
theorem BRow.one (w : World) (T : TypeId) (x : UInt8) : BRow (w.alloc (.cells #[.int .u8 (x.toNat : Int)] T (0, 0))) (w.heap.size + 1) (some ⟨w.heap.size, 0, none⟩) [x] := by
  intro _
  refine ⟨w.heap.size, 0, rfl, Nat.lt_succ_self _, fun j hj => ?_⟩
  obtain rfl : j = 0 := by simpa using hj
  exact ((Pts.new w #[.int .u8 (x.toNat : Int)] T).cell 0).trans rfl
theorem and32_mod {x : Nat} (h : x < 18446744073709551616) : bits .and .u64 (x : Int) 4294967295 = ((x % 4294967296 : Nat) : Int) := by
  have e1 : x < Num.M64 := h
  have e2 : 4294967295 < Num.M64 := by unfold Num.M64; omega
  have h1 := Num.and64 e1 e2
  rw [show (4294967295 : Nat) = 2 ^ 32 - 1 by rfl, Nat.and_two_pow_sub_one_eq_mod] at h1
  exact h1
theorem and24_mod {x : Nat} (h : x < 18446744073709551616) : bits .and .u64 (x : Int) 16777215 = ((x % 16777216 : Nat) : Int) := by
  have e1 : x < Num.M64 := h
  have e2 : 16777215 < Num.M64 := by unfold Num.M64; omega
  have h1 := Num.and64 e1 e2
  rw [show (16777215 : Nat) = 2 ^ 24 - 1 by rfl, Nat.and_two_pow_sub_one_eq_mod] at h1
  exact h1
theorem Frm.transR {S S' : Nat → Prop} {a b c : World} (h : Frm S a b) (k : Frm S' b c) (hm : ∀ q, q < a.heap.size → S' q → S q) : Frm S a c :=
  ⟨k.os.trans h.os, k.tape.trans h.tape, k.output.trans h.output, Nat.le_trans h.size k.size, fun i hi hn => (k.block i (Nat.lt_of_lt_of_le hi h.size) (fun hs => hn (hm i hi hs))).trans (h.block i hi hn)⟩
/-- The slice u lies where v lay, or in a block that is new. -/
def Moved (w : World) (v u : Value) : Prop := u.ownBlock = v.ownBlock ∨ ∃ g, u.ownBlock = some g ∧ w.heap.size ≤ g
theorem Moved.own {w : World} {v u : Value} (h : Moved w v u) {b : Nat} : ∀ q, q < w.heap.size → u.ownBlock = some q → (q = b ∨ v.ownBlock = some q) := by
  intro q hq e
  rcases h with h | ⟨g, h, hg⟩
  · exact .inr (h ▸ e)
  · rw [h] at e; injection e with e; omega
/-- An encoder in the midst of a shift: what went out so far. -/
def MidAt (w wx : World) (T b base low size first : Nat) (m : Int) (closed : Bool) (v u : Value) (out : List UInt8) : Prop :=
  Pts wx b #[.int .u64 low, .int .u32 size, .int .u8 first, .int .i64 m, u, .bool closed] T ∧ OwnB wx 5 base u out ∧ Frm (fun x => x = b ∨ v.ownBlock = some x) w wx ∧ Moved w v u
theorem MidAt.nb {w wx : World} {T b base low size first : Nat} {m : Int} {closed : Bool} {v u : Value} {out : List UInt8} (h : MidAt w wx T b base low size first m closed v u out) (hT : T ≠ 5) : u.ownBlock ≠ some b := by
  intro hq
  obtain ⟨hp, ho, _⟩ := h
  rcases ho.form with ⟨e, _⟩ | ⟨g, cap, cur, e, _, hp', _⟩
  · rw [e] at hq; cases hq
  · rw [e] at hq
    injection hq with hq
    subst hq
    have e2 := hp'.symm.trans hp
    simp at e2
    exact hT e2.2.symm
theorem rep_snoc (out : List UInt8) (x y : UInt8) (j : Nat) : out ++ x :: List.replicate j y ++ [y] = out ++ x :: List.replicate (j + 1) y := by
  rw [List.replicate_succ', List.append_assoc]; rfl
set_option maxRecDepth 100000 in
set_option maxHeartbeats 2000000 in
theorem eshift_p (b base : Nat) (v : Value) (e : Enc) (w : World) (h : EncAt w 111 0 b base v e) (hbase : base ≤ w.heap.size) (hlen : e.cnt ≤ 1000000) :
    Calls Try.prog 44 #[.pointer (some ⟨b, 0, none⟩)] w fun r w' => ∃ v' : Value, r = .returned (.tuple #[]) ∧ EncAt w' 111 0 b base v' e.shift ∧ Frm (fun x => x = b ∨ v.ownBlock = some x) w w' ∧
      Moved w v v' := by
  obtain ⟨hp, ho, hk⟩ := h
  obtain ⟨low, size, first, more, out, closed⟩ := e
  obtain ⟨hl, hs⟩ := hk
  simp only [Enc.cnt] at hl hs hlen hp ho
  have hnb : v.ownBlock ≠ some b := by
    intro hq
    rcases ho.form with ⟨e, _⟩ | ⟨g, cap, cur, e, _, hp', _⟩
    · rw [e] at hq; cases hq
    · rw [e] at hq
      injection hq with hq
      subst hq
      have e2 := hp'.symm.trans hp
      simp at e2
  obtain ⟨A0, k0, rfl, hc0, hm0, hr0⟩ := ho.slice
  have c0 : w.cell? ⟨b, 0, none⟩ = some (.int .u64 low) := by rw [hp.cell]; rfl
  have c2 : w.cell? ⟨b, 2, none⟩ = some (.int .u8 (first.toNat : Int)) := by rw [hp.cell]; rfl
  have c3 : w.cell? ⟨b, 3, none⟩ = some (.int .i64 more) := by rw [hp.cell]; rfl
  have c4 : w.cell? ⟨b, 4, none⟩ = some (.slice A0 out.length k0) := by rw [hp.cell]; rfl
  have f0 := hp.frozen 0
  have f2 := hp.frozen 2
  have f3 := hp.frozen 3
  have f4 := hp.frozen 4
  obtain ⟨low2, hlow2⟩ : ∃ x, low * 256 % 4294967296 = x := ⟨_, rfl⟩
  have a1 : bits .and .u64 ((low : Int) * 256) 4294967295 = (low2 : Int) := by
    have h9 := and32_mod (x := low * 256) (by omega)
    rw [hlow2] at h9
    rw [← h9]; congr 1
  have hw64 : IntKind.u64.wrap ((low : Int) * 256) = (low : Int) * 256 := by rw [Go.IntWalk.u64_in _ (by omega)]
  have HP := Lib.hid hp
  have HO := Lib.hid ho
  have HNB := Lib.hid hnb
  clear hp ho hnb hr0
  have HL2 := Lib.hid hlow2
  have hk2 := (show Enc.Ok ⟨low, size, first, more, out, closed⟩ from ⟨hl, hs⟩).shift
  by_cases hrun : 4278190080 ≤ low ∧ low < 4294967296
  · have h1 : IntKind.u8.wrap ((low : Int) / 16777216) = 255 := by rw [IntKind.wrap_u8']; omega
    have h2 : IntKind.u8.wrap ((low : Int) / 4294967296) = 0 := by rw [IntKind.wrap_u8']; omega
    have e : Enc.shift ⟨low, size, first, more, out, closed⟩ = ⟨low2, size, first, more + 1, out, closed⟩ := by unfold Enc.shift; rw [if_pos hrun]; simp only [hlow2]
    rw [e] at hk2
    have HK := Lib.hid hk2
    have HE := Lib.hid e
    clear hrun hl hs hlow2 hk2 e
    go_enter Try.func44, Try.ntmps44
    go_step3
    go_wp2
    try rw [Exit.noGoto_ret]
    refine bodyPost_ret (results_none rfl _ _ _) rfl ?_
    rw [HE.out]
    exact ⟨_, rfl, ⟨(HP.out.set 0 (.int .u64 low2)).set 3 (.int .i64 ((more + 1 : Nat) : Int)), (HO.out.other (p := ⟨b, 0, none⟩) HNB.out _).other (p := ⟨b, 3, none⟩) HNB.out _, HK.out⟩, ((Frm.refl _ w).setCell (p := ⟨b, 0, none⟩) (.inl rfl) _).setCell (p := ⟨b, 3, none⟩) (.inl rfl) _, .inl rfl⟩
  · obtain ⟨hi, hhi⟩ : ∃ x : UInt8, UInt8.ofNat (low / 16777216) = x := ⟨_, rfl⟩
    obtain ⟨cv, hcv⟩ : ∃ x : UInt8, UInt8.ofNat (low / 4294967296) = x := ⟨_, rfl⟩
    have h1 : IntKind.u8.wrap ((low : Int) / 16777216) = (hi.toNat : Int) := by rw [IntKind.wrap_u8', ← hhi, UInt8.toNat_ofNat']; omega
    have h2 : IntKind.u8.wrap ((low : Int) / 4294967296) = (cv.toNat : Int) := by rw [IntKind.wrap_u8', ← hcv, UInt8.toNat_ofNat']; omega
    have e : Enc.shift ⟨low, size, first, more, out, closed⟩ = ⟨low2, size, hi, 0, out ++ (first + cv) :: List.replicate more (255 + cv), closed⟩ := by
      unfold Enc.shift Enc.carry; rw [if_neg hrun]; simp only [hlow2, hhi, hcv]
    rw [e] at hk2
    have hh : (hi.toNat ≠ 255) ∨ (hi.toNat = 255 ∧ cv.toNat ≠ 0) := by
      rw [← hhi, ← hcv, UInt8.toNat_ofNat', UInt8.toNat_ofNat']; omega
    have hx : IntKind.u8.wrap ((first.toNat : Int) + cv.toNat) = ((first + cv).toNat : Int) := by rw [IntKind.wrap_u8', UInt8.toNat_add]; omega
    have hy : IntKind.u8.wrap (255 + (cv.toNat : Int)) = ((255 + cv).toNat : Int) := by rw [IntKind.wrap_u8', UInt8.toNat_add]; show _ = ((((255 : UInt8).toNat + cv.toNat) % 2 ^ 8 : Nat) : Int); rw [show (255 : UInt8).toNat = 255 by rfl]; omega
    obtain ⟨x, hxx⟩ : ∃ x : UInt8, first + cv = x := ⟨_, rfl⟩
    obtain ⟨y, hyy⟩ : ∃ y : UInt8, 255 + cv = y := ⟨_, rfl⟩
    rw [hxx] at hx
    rw [hyy] at hy
    rw [hxx, hyy] at e hk2
    have HK := Lib.hid hk2
    have HE := Lib.hid e
    clear hrun hl hs hlow2 hk2 e hhi hcv hxx hyy
    have htest : ((hi.toNat : Int) == 255) = false ∨ (((hi.toNat : Int) == 255) = true ∧ ((cv.toNat : Int) == 0) = false) := by
      rcases hh with hh | ⟨hh, hh2⟩
      · left; exact beq_eq_false_iff_ne.2 (by omega)
      · right; exact ⟨by rw [hh]; rfl, beq_eq_false_iff_ne.2 (by omega)⟩
    clear hh
    rcases htest with ht | ⟨ht, ht2⟩
    all_goals
      go_enter Try.func44, Try.ntmps44
      go_step3
      go_wp2
      go_cut [3] from 38 to 52 (fun s3 wx => ∃ (A2 : Option Addr) (k2 : Nat), s3 = .int .u8 cv.toNat ∧ MidAt w wx 111 b base low2 size first.toNat more closed (.slice A0 out.length k0) (.slice A2 (out.length + 1) k2) (out ++ [x]))
      case first =>
        have P1 := HP.out.set 0 (.int .u64 low2)
        have O1 := HO.out.other (p := ⟨b, 0, none⟩) HNB.out (.int .u64 low2)
        have F1 := (Frm.refl (fun x => x = b ∨ (Value.slice A0 out.length k0).ownBlock = some x) w).setCell (p := ⟨b, 0, none⟩) (.inl rfl) (.int .u64 low2)
        have hb1 : base ≤ (w.setCell ⟨b, 0, none⟩ (.int .u64 low2)).heap.size := Nat.le_trans hbase F1.size
        generalize w.setCell ⟨b, 0, none⟩ (.int .u64 low2) = w1 at *
        have d2 : w1.cell? ⟨b, 2, none⟩ = some (.int .u8 (first.toNat : Int)) := by rw [P1.cell]; rfl
        have d4 : w1.cell? ⟨b, 4, none⟩ = some (.slice A0 out.length k0) := by rw [P1.cell]; rfl
        have g4 := P1.frozen 4
        have PA := P1.alloc (.cells #[.int .u8 (x.toNat : Int)] 5)
        have d2' : (w1.alloc (.cells #[.int .u8 (x.toNat : Int)] 5)).cell? ⟨b, 2, none⟩ = some (.int .u8 (first.toNat : Int)) := by rw [PA.cell]; rfl
        have d4' : (w1.alloc (.cells #[.int .u8 (x.toNat : Int)] 5)).cell? ⟨b, 4, none⟩ = some (.slice A0 out.length k0) := by rw [PA.cell]; rfl
        have g4' := PA.frozen 4
        clear PA
        have PP1 := Lib.hid P1
        have OO1 := Lib.hid O1
        have FF1 := Lib.hid F1
        have hll : out.length + [x].length ≤ 140737488355328 := by simp; omega
        have hb2 : base ≤ (w1.alloc (.cells #[.int .u8 (x.toNat : Int)] 5)).heap.size := by show base ≤ (w1.heap.push _).size; rw [Array.size_push]; omega
        clear P1 O1 F1 c0 c2 c3 c4 f0 f2 f3 f4
        go_region_law (refine stepR_append_bytes _ rfl (.tmp 42) (.tmp 49) 22 rfl 5 base Try.underlying22 Try.info_u8 (.slice A0 out.length k0) out rfl ((OO1.out.drewN 1).alloc _) (some ⟨w1.heap.size, 0, none⟩) 1 1 (w1.heap.size + 1) [x] rfl rfl (BRow.one (w1.drewN 1) _ x) hll hb2 ?_; intro v2 w2 hown2 hfrm2 hnew2; obtain ⟨A2, k2, rfl, hc2, hm2, hr2⟩ := hown2.slice; have hp2 := ((PP1.out.drewN 1).alloc _).frm hfrm2 (fun e => HNB.out e); have z4 : w2.cell? ⟨b, 4, none⟩ = some (.slice A0 out.length k0) := (hp2.cell 4).trans rfl; have y4 := hp2.frozen 4)
        all_goals
          have F2 : Frm (fun x => x = b ∨ (Value.slice A0 out.length k0).ownBlock = some x) w w2 := (((FF1.out.drewN 1).alloc _).trans (hfrm2.mono fun q _ hq => .inr hq))
          have M2 : Moved w (.slice A0 out.length k0) (.slice A2 (out.length + 1) k2) := by
            rw [List.length_append] at hnew2
            rcases hnew2 with h | h
            · exact .inl h
            · exact .inr ⟨_, h, by have h9 := FF1.out.size; show _ ≤ (w1.heap.push _).size; rw [Array.size_push]; omega⟩
          rw [List.length_append] at hown2
          have hp3 := hp2.set 4 (.slice A2 (out.length + 1) k2)
          go_wp2
          go_meet
          case rel =>
            have hb3 := HP.out.lt
            have hnb2 : (Value.slice A2 (out.length + 1) k2).ownBlock ≠ some b := by
              intro hq
              rcases M2 with h | ⟨g, h, hg⟩
              · exact HNB.out (h ▸ hq)
              · rw [h] at hq; injection hq with hq; omega
            exact ⟨A2, k2, rfl, hp3, hown2.other (p := ⟨b, 4, none⟩) hnb2 _, F2.setCell (p := ⟨b, 4, none⟩) (.inl rfl) _, M2⟩
      case rest =>
        obtain ⟨A2, k2, rfl, hmid⟩ := hcut
        have hb3 := HP.out.lt
        have MD := Lib.hid hmid
        clear hmid c0 c2 c3 c4 f0 f2 f3 f4
        go_wp2
        go_step3
        go_wp2
        go_loopg [57] more (fun gn s57 wr => ∃ (j : Nat) (A3 : Option Addr) (k3 : Nat), j + gn = more ∧ MidAt w wr 111 b base low2 size first.toNat ((more - j : Nat) : Int) closed (.slice A0 out.length k0) (.slice A3 (out.length + 1 + j) k3) (out ++ x :: List.replicate j y))
        case atStart => exact ⟨0, A2, k2, by omega, MD.out⟩
        case round =>
          obtain ⟨j, A3, k3, hj, hm⟩ := hrel
          clear MD
          obtain ⟨mj, hmj⟩ : ∃ mj, more - j = mj := ⟨_, rfl⟩
          rw [hmj] at hm
          have P3 := hm.1
          have NB3 := Lib.hid (hm.nb (by decide))
          have hbw := P3.lt
          have d3 : wr.cell? ⟨b, 3, none⟩ = some (.int .i64 mj) := by rw [P3.cell]; rfl
          have d4 : wr.cell? ⟨b, 4, none⟩ = some (.slice A3 (out.length + 1 + j) k3) := by rw [P3.cell]; rfl
          have d2 : wr.cell? ⟨b, 2, none⟩ = some (.int .u8 (first.toNat : Int)) := by rw [P3.cell]; rfl
          have g2 := P3.frozen 2
          have hws := hm.2.2.1.size
          have MM := Lib.hid hm
          have HJ := Lib.hid hj
          clear P3 hm hj
          cases mj with
          | succ m2 =>
            have hz : ((((m2 + 1 : Nat) : Int)) == 0) = false := beq_eq_false_iff_ne.2 (by omega)
            have hm21 : IntKind.i64.wrap (((m2 + 1 : Nat) : Int) - 1) = (m2 : Int) := by rw [Go.IntWalk.i64_in _ (by omega)]; omega
            obtain ⟨mi, hmi⟩ : ∃ mi : Int, ((m2 + 1 : Nat) : Int) = mi := ⟨_, rfl⟩
            rw [hmi] at hz hm21 d3
            have hmj2 := Lib.hid hmj
            have HMI := Lib.hid hmi
            clear hmj hmi
            go_wp2_with (at_builtin; refine wpList_append_bytes _ rfl (.tmp 62) (.tmp 65) 22 rfl 5 base Try.underlying22 Try.info_u8 (.slice A3 (out.length + 1 + j) k3) (out ++ x :: List.replicate j y) rfl ?own5 (some ⟨wr.heap.size, 0, none⟩) 1 1 (wr.heap.size + 1) [y] rfl rfl ?row5 ?len5 ?base5 ?next5)
            case own5 => exact MM.out.2.1.alloc _
            case row5 => exact BRow.one wr _ y
            case len5 => have := HJ.out; simp; omega
            case base5 => show base ≤ (wr.heap.push _).size; rw [Array.size_push]; omega
            case next5 =>
              intro v5 w5 hown5 hfrm5 hnew5
              obtain ⟨Y, hY⟩ : ∃ Y, Obj.cells #[.int .u8 (y.toNat : Int)] 5 = Y := ⟨_, rfl⟩
              rw [hY] at hfrm5
              have hp5 := (MM.out.1.alloc Y).frm hfrm5 (fun e => NB3.out e)
              have e3 : w5.cell? ⟨b, 3, none⟩ = some (.int .i64 mi) := by rw [hp5.cell, ← HMI.out]; rfl
              have e4 : w5.cell? ⟨b, 4, none⟩ = some (.slice A3 (out.length + 1 + j) k3) := by rw [hp5.cell]; rfl
              have k3f := hp5.frozen 3
              have k4f := hp5.frozen 4
              have hsY : (wr.alloc Y).heap.size = wr.heap.size + 1 := by show (wr.heap.push _).size = _; rw [Array.size_push]
              have F5 : Frm (fun x => x = b ∨ (Value.slice A0 out.length k0).ownBlock = some x) w w5 := (MM.out.2.2.1.alloc Y).transR hfrm5 (fun q hq e => MM.out.2.2.2.own q hq e)
              have hM5 : Moved w (.slice A0 out.length k0) v5 := by
                rcases hnew5 with h | h
                · rcases MM.out.2.2.2 with h2 | ⟨g, h2, hg⟩
                  · exact .inl (h.trans h2)
                  · exact .inr ⟨g, h.trans h2, hg⟩
                · exact .inr ⟨_, h, by omega⟩
              have hnb5 : v5.ownBlock ≠ some b := by
                intro hq
                rcases hM5 with h | ⟨g, h, hg⟩
                · exact HNB.out (h ▸ hq)
                · rw [h] at hq; injection hq with hq; omega
              rw [← List.replicate_succ'] at hown5
              have hl5 : (out ++ x :: List.replicate (j + 1) y).length = out.length + 1 + (j + 1) := by simp; omega
              obtain ⟨A5, k5, e5, _, _, _⟩ := hown5.slice
              rw [hl5] at e5
              subst e5
              have O5 := Lib.hid hown5
              have P5 := Lib.hid hp5
              have FF5 := Lib.hid F5
              have MM5 := Lib.hid hM5
              have NB5 := Lib.hid hnb5
              clear hown5 hfrm5 hnew5 hp5 F5 hM5 hnb5 hY hl5
              go_wp2
              go_roundg (more - (j + 1))
              case measure => have := HJ.out; have := hmj2.out; omega
              case rel =>
                refine ⟨j + 1, A5, k5, by have := HJ.out; have := hmj2.out; omega, ?_, (O5.out.other (p := ⟨b, 4, none⟩) NB5.out _).other (p := ⟨b, 3, none⟩) NB5.out _, (FF5.out.setCell (p := ⟨b, 4, none⟩) (.inl rfl) _).setCell (p := ⟨b, 3, none⟩) (.inl rfl) _, MM5.out⟩
                have hjm : more - (j + 1) = m2 := by have := hmj2.out; omega
                rw [hjm]
                exact (P5.out.set 4 _).set 3 _
          | zero =>
            obtain rfl : j = more := by have := HJ.out; omega
            have hz : ((((0 : Nat) : Int)) == 0) = true := rfl
            clear hmj
            go_wp2
            unfold Exit.noGoto
            go_end0
            rw [HE.out]
            exact ⟨_, rfl, ⟨MM.out.1.set 2 (.int .u8 (hi.toNat : Int)), MM.out.2.1.other (p := ⟨b, 2, none⟩) NB3.out _, HK.out⟩, MM.out.2.2.1.setCell (p := ⟨b, 2, none⟩) (.inl rfl) _, MM.out.2.2.2⟩
end Go.Proofs.Ytefbjamepbkklaa

/- The document's encoder's shift. -/
namespace Go.Proofs.Ytefbjamepbkklaa
open Go.RowKit Rng
set_option linter.unusedVariables false
set_option linter.unusedSimpArgs false
end Go.Proofs.Ytefbjamepbkklaa

/- The encoder's order and Bit. -/
namespace Go.Proofs.Ytefbjamepbkklaa
open Go.RowKit Rng
set_option linter.unusedVariables false
set_option linter.unusedSimpArgs false
theorem Moved.refl (w : World) (v : Value) : Moved w v v := .inl rfl
theorem Moved.trans {w w1 : World} {v v1 v2 : Value} (h : Moved w v v1) (h2 : Moved w1 v1 v2) (hs : w.heap.size ≤ w1.heap.size) : Moved w v v2 := by
  rcases h2 with h2 | ⟨g, h2, hg⟩
  · rcases h with h | ⟨g, h, hg⟩
    · exact .inl (h2.trans h)
    · exact .inr ⟨g, h2.trans h, hg⟩
  · exact .inr ⟨g, h2, by omega⟩
theorem EncAt.nb {w : World} {T z b base : Nat} {v : Value} {e : Enc} (h : EncAt w T z b base v e) (hT : T ≠ 5) : v.ownBlock ≠ some b := by
  intro hq
  rcases h.o.form with ⟨e, _⟩ | ⟨g, cap, cur, e, _, hp', _⟩
  · rw [e] at hq; cases hq
  · rw [e] at hq
    injection hq with hq
    subst hq
    have e2 := hp'.symm.trans h.p
    simp at e2
    exact hT e2.2.symm
set_option maxRecDepth 100000 in
set_option maxHeartbeats 2000000 in
theorem eorder_p (b base : Nat) (v : Value) (e : Enc) (w : World) (h : EncAt w 111 0 b base v e) (hbase : base ≤ w.heap.size) (hlen : e.cnt < 1000000) (hs : e.Pre) :
    Calls Try.prog 66 #[.pointer (some ⟨b, 0, none⟩)] w fun r w' => ∃ v' : Value, r = .returned (.tuple #[]) ∧ EncAt w' 111 0 b base v' e.order ∧ Frm (fun x => x = b ∨ v.ownBlock = some x) w w' ∧ Moved w v v' := by
  obtain ⟨G, hG⟩ : ∃ G, e.order = G := ⟨_, rfl⟩
  have hGs : 16777216 ≤ G.size := by rw [← hG]; exact hs.order.s.1
  have HS := Lib.hid hs
  have HGS := Lib.hid hGs
  have HG := Lib.hid hG
  have HE := Lib.hid h
  have HC := Lib.hid hlen
  rw [hG]
  clear hs h hlen hG hGs
  go_enter Try.func66, Try.ntmps66
  go_wp2
  go_loopg [6] 1 (fun gn s6 wr => ∃ (e1 : Enc) (v1 : Value), EncAt wr 111 0 b base v1 e1 ∧ ((e1 = e ∧ gn = 1) ∨ e1 = G) ∧ Frm (fun x => x = b ∨ v.ownBlock = some x) w wr ∧ Moved w v v1)
  case atStart => exact ⟨e, v, HE.out, .inl ⟨rfl, rfl⟩, Frm.refl _ _, Moved.refl _ _⟩
  case round =>
    obtain ⟨e1, v1, he1, hcase, hf, hm⟩ := hrel
    have hp := he1.p
    have d1 : wr.cell? ⟨b, 1, none⟩ = some (.int .u32 e1.size) := by rw [hp.cell]; rfl
    have f1 := hp.frozen 1
    have E1 := Lib.hid he1
    have F1 := Lib.hid hf
    have M1 := Lib.hid hm
    clear hp he1 hf hm
    by_cases hlt : e1.size < 16777216
    · obtain ⟨rfl, rfl⟩ : e1 = e ∧ gk = 1 := by
        rcases hcase with h | h
        · exact h
        · rw [h] at hlt; have := HGS.out; omega
      have hsl := HS.out.s.1
      obtain ⟨s, hse⟩ : ∃ s, e1.size = s := ⟨_, rfl⟩
      rw [hse] at d1 hlt
      have hd : (s : Int) < 16777216 := by omega
      have hw1 : IntKind.u32.wrap ((s : Int) * 256) = ((s * 256 : Nat) : Int) := by rw [Go.IntWalk.u32_in _ (by omega)]; omega
      obtain ⟨s2, hs2⟩ : ∃ s2, s * 256 = s2 := ⟨_, rfl⟩
      rw [hs2] at hw1
      have HSE := Lib.hid hse
      have HS2 := Lib.hid hs2
      have HLT := Lib.hid hlt
      clear hcase hlt hse hs2 hsl
      go_wp2_with fail
      have hE2 : EncAt (wr.setCell ⟨b, 1, none⟩ (.int .u32 s2)) 111 0 b base v1 ⟨e1.low, e1.size * 256, e1.first, e1.more, e1.out, e1.closed⟩ := by
        refine ⟨?_, E1.out.o.other (p := ⟨b, 1, none⟩) (E1.out.nb (by decide)) _, ⟨E1.out.k.l, ?_⟩⟩
        · rw [HSE.out, HS2.out]; exact E1.out.p.set 1 _
        · have := HLT.out; rw [← HSE.out] at this; simp only; omega
      have hF2 := F1.out.setCell (p := ⟨b, 1, none⟩) (.inl rfl) (.int .u32 s2)
      refine (eshift_p b base v1 _ _ hE2 (Nat.le_trans hbase hF2.size) (Nat.le_of_lt HC.out)).mono ?_
      rintro r w3 ⟨v3, rfl, hE3, hF3, hM3⟩
      have hG3 : Enc.shift ⟨e1.low, e1.size * 256, e1.first, e1.more, e1.out, e1.closed⟩ = G := by
        rw [← HG.out]; unfold Enc.order; rw [if_pos (by have := HLT.out; rw [← HSE.out] at this; exact this)]
      rw [hG3] at hE3
      have E3 := Lib.hid hE3
      have F3 := Lib.hid (hF2.transR hF3 (fun q hq hh => hh.elim .inl (fun h2 => M1.out.own q hq h2)))
      have M3 := Lib.hid (M1.out.trans hM3 hF2.size)
      clear hE2 hF2 hE3 hF3 hM3 hG3
      go_wp2
      go_roundg 0
      case measure => omega
      case rel => exact ⟨G, v3, E3.out, .inr rfl, F3.out, M3.out⟩
    · have hd : ¬ ((e1.size : Int) < 16777216) := by omega
      have hG1 : e1 = G := by
        rcases hcase with ⟨h, _⟩ | h
        · rw [← HG.out, ← h, Enc.order_stay (by omega)]
        · exact h
      subst hG1
      clear hcase hlt
      go_wp2
      go_end0
      first
        | exact ⟨_, rfl, E1.out, F1.out, M1.out⟩
        | exact ⟨rfl, _, E1.out, F1.out, M1.out⟩
end Go.Proofs.Ytefbjamepbkklaa

/- The encoder's Bit. -/
namespace Go.Proofs.Ytefbjamepbkklaa
open Go.RowKit Rng
set_option linter.unusedVariables false
set_option linter.unusedSimpArgs false
theorem u64_add {a b : Nat} (h : a + b < 18446744073709551616) : IntKind.u64.wrap ((a : Int) + b) = ((a + b : Nat) : Int) := by rw [Go.IntWalk.u64_in _ (by omega)]; omega
set_option maxRecDepth 100000 in
set_option maxHeartbeats 2000000 in
theorem ebit_p (b base pb po pv : Nat) (bit : Int) (one : Bool) (v : Value) (e : Enc) (w : World) (h : EncAt w 111 0 b base v e) (hbase : base ≤ w.heap.size) (hlen : e.cnt < 1000000) (hs : e.Run) (hcl : e.closed = false)
    (hp : w.cell? ⟨pb, po, none⟩ = some (.int .u16 pv)) (hfz : w.frozen? ⟨pb, po, none⟩ = false) (hne : pb ≠ b) (hnv : v.ownBlock ≠ some pb) (hpv : pv < 65536) (hone : one = decide (bit ≠ 0)) :
    Calls Try.prog 51 #[.pointer (some ⟨b, 0, none⟩), .pointer (some ⟨pb, po, none⟩), .int .i64 bit] w fun r w' => ∃ v' : Value, r = .returned (.tuple #[]) ∧ EncAt w' 111 0 b base v' (e.bit (fair pv) one) ∧
      Frm (fun x => x = b ∨ v.ownBlock = some x) (w.setCell ⟨pb, po, none⟩ (.int .u16 (learn (fair pv) one))) w' ∧ Moved w v v' := by
  have hfb := fair_bd pv
  obtain ⟨c, hcd⟩ : ∃ c, fair pv = c := ⟨_, rfl⟩
  rw [hcd] at hfb
  obtain ⟨hc31, hc17⟩ := hfb
  have hpre := hs.cut hc31 hc17 one
  have hcc : (e.cut c one).cnt < 1000000 := by rw [Enc.cut_cnt]; exact hlen
  rw [hcd, Enc.bit_cut]
  have hb := bound_bd hs.s.1 hc31 hc17
  have hs2 := hs.s.2
  have hlow := hs.l
  have HPV := Lib.hid hpv
  have HC := Lib.hid hcd
  have HPRE := Lib.hid hpre
  have HCC := Lib.hid hcc
  have HE := Lib.hid h
  have hpt := h.p
  have hlt := World.block_lt_of_cell? w ⟨pb, po, none⟩ hp
  have hnb := h.nb (by decide)
  obtain ⟨q, hq⟩ : ∃ q : Nat, e.size / 2048 = q := ⟨_, rfl⟩
  obtain ⟨bd, hbd⟩ : ∃ bd : Nat, q * c = bd := ⟨_, rfl⟩
  rw [hq, hbd] at hb
  have hcut : e.cut c one = if one then ⟨e.low + bd, e.size - bd, e.first, e.more, e.out, e.closed⟩ else ⟨e.low, bd, e.first, e.more, e.out, e.closed⟩ := by unfold Enc.cut; rw [hq, hbd]
  obtain ⟨s, hse⟩ : ∃ s, e.size = s := ⟨_, rfl⟩
  obtain ⟨lo, hlo⟩ : ∃ lo, e.low = lo := ⟨_, rfl⟩
  rw [hse] at hq hb hcut hs2
  rw [hlo, hse] at hlow
  rw [hlo] at hcut
  have hq1 : (s : Int) / 2048 = (q : Int) := by omega
  have hm1 : IntKind.u32.wrap ((q : Int) * (c : Int)) = (bd : Int) := by
    have e : (q : Int) * (c : Int) = (bd : Int) := by rw [← hbd]; simp
    rw [e, Go.IntWalk.u32_in _ (by omega)]
  have hwc : IntKind.u32.wrap (c : Int) = (c : Int) := by rw [Go.IntWalk.u32_in _ (by omega)]
  have hwq : IntKind.u32.wrap (q : Int) = (q : Int) := by rw [Go.IntWalk.u32_in _ (by omega)]
  have hm2 : IntKind.u32.wrap ((s : Int) - bd) = ((s - bd : Nat) : Int) := by rw [Go.IntWalk.u32_in _ (by omega)]; omega
  have hm3 : IntKind.u64.wrap ((lo : Int) + bd) = ((lo + bd : Nat) : Int) := u64_add (by omega)
  have hm4 : IntKind.u64.wrap (bd : Int) = (bd : Int) := by rw [Go.IntWalk.u64_in _ (by omega)]
  obtain ⟨s3, hs3⟩ : ∃ s3 : Nat, s - bd = s3 := ⟨_, rfl⟩
  obtain ⟨lo3, hlo3⟩ : ∃ lo3 : Nat, lo + bd = lo3 := ⟨_, rfl⟩
  rw [hs3] at hm2 hcut
  rw [hlo3] at hm3 hcut
  have d0 : w.cell? ⟨b, 0, none⟩ = some (.int .u64 lo) := by rw [hpt.cell, ← hlo]; rfl
  have d1 : w.cell? ⟨b, 1, none⟩ = some (.int .u32 s) := by rw [hpt.cell, ← hse]; rfl
  have d5 : w.cell? ⟨b, 5, none⟩ = some (.bool false) := by rw [hpt.cell, ← hcl]; rfl
  have g0 := hpt.frozen 0
  have g1 := hpt.frozen 1
  have HCUT := Lib.hid hcut
  have HPT := Lib.hid hpt
  have HNB := Lib.hid hnb
  have HNV := Lib.hid hnv
  have HLT := Lib.hid hlt
  have HSE := Lib.hid hse
  have HLO := Lib.hid hlo
  have HS3 := Lib.hid hs3
  have HLO3 := Lib.hid hlo3
  clear hpv hcd hpre hcc h hs hlen hb hs2 hlow hq hbd hcut hs3 hlo3 hlo hse hpt hnb hnv hlt hcl
  by_cases hbit : bit = 0
  · subst hbit
    obtain rfl : one = false := by rw [hone]; rfl
    clear hone
    go_enter Try.func51, Try.ntmps51
    go_wp2_with fail
    refine (fair_p pv _ HPV.out).mono ?_; rintro r w1 ⟨rfl, rfl⟩
    rw [HC.out]
    go_wp2_with fail
    refine (learn_p c 0 false _ hc17 rfl).mono ?_; rintro r w2 ⟨rfl, rfl⟩
    go_wp2_with fail
    have hE2 : EncAt ((w.setCell ⟨b, 1, none⟩ (.int .u32 bd)).setCell ⟨pb, po, none⟩ (.int .u16 (learn c false))) 111 0 b base v (e.cut c false) := by
      have hk := HPRE.out.ok
      rw [HCUT.out] at hk ⊢
      exact ⟨by have h9 := (HPT.out.set 1 (.int .u32 bd)).other (p := ⟨pb, po, none⟩) (fun e => hne e.symm) (.int .u16 (learn c false)); rw [HLO.out] at h9; exact h9, (HE.out.o.other (p := ⟨b, 1, none⟩) HNB.out _).other (p := ⟨pb, po, none⟩) HNV.out _, hk⟩
    have hF2 := ((Frm.refl (fun x => x = b ∨ v.ownBlock = some x) w).setCell (p := ⟨b, 1, none⟩) (.inl rfl) (.int .u32 bd)).setBoth (p := ⟨pb, po, none⟩) (fun h => h.elim hne HNV.out) HLT.out (.int .u16 (learn c false))
    have hsz : ((w.setCell ⟨b, 1, none⟩ (.int .u32 bd)).setCell ⟨pb, po, none⟩ (.int .u16 (learn c false))).heap.size = w.heap.size := by simp
    refine (eorder_p b base v _ _ hE2 (by rw [hsz]; exact hbase) HCC.out HPRE.out).mono ?_
    rintro r w3 ⟨v3, rfl, hE3, hF3, hM3⟩
    have E3 := Lib.hid hE3
    have F3 := Lib.hid (hF2.trans hF3)
    have M3 := Lib.hid ((Moved.refl w v).trans hM3 (Nat.le_of_eq hsz.symm))
    clear hE2 hF2 hE3 hF3 hM3 hsz
    go_wp2
    go_end0
    first
      | exact ⟨_, rfl, E3.out, F3.out, M3.out⟩
      | exact ⟨rfl, _, E3.out, F3.out, M3.out⟩
  · have hbz : (bit == 0) = false := beq_eq_false_iff_ne.2 hbit
    obtain rfl : one = true := by rw [hone]; exact decide_eq_true hbit
    have HBIT := Lib.hid hbit
    clear hone hbit
    go_enter Try.func51, Try.ntmps51
    go_wp2_with fail
    refine (fair_p pv _ HPV.out).mono ?_; rintro r w1 ⟨rfl, rfl⟩
    rw [HC.out]
    go_wp2_with fail
    refine (learn_p c bit true _ hc17 (decide_eq_true HBIT.out).symm).mono ?_; rintro r w2 ⟨rfl, rfl⟩
    go_wp2_with fail
    have hE2 : EncAt (((w.setCell ⟨b, 0, none⟩ (.int .u64 lo3)).setCell ⟨b, 1, none⟩ (.int .u32 s3)).setCell ⟨pb, po, none⟩ (.int .u16 (learn c true))) 111 0 b base v (e.cut c true) := by
      have hk := HPRE.out.ok
      rw [HCUT.out] at hk ⊢
      exact ⟨((HPT.out.set 0 (.int .u64 lo3)).set 1 (.int .u32 s3)).other (p := ⟨pb, po, none⟩) (fun e => hne e.symm) _, ((HE.out.o.other (p := ⟨b, 0, none⟩) HNB.out _).other (p := ⟨b, 1, none⟩) HNB.out _).other (p := ⟨pb, po, none⟩) HNV.out _, hk⟩
    have hF2 := (((Frm.refl (fun x => x = b ∨ v.ownBlock = some x) w).setCell (p := ⟨b, 0, none⟩) (.inl rfl) (.int .u64 lo3)).setCell (p := ⟨b, 1, none⟩) (.inl rfl) (.int .u32 s3)).setBoth (p := ⟨pb, po, none⟩) (fun h => h.elim hne HNV.out) HLT.out (.int .u16 (learn c true))
    have hsz : (((w.setCell ⟨b, 0, none⟩ (.int .u64 lo3)).setCell ⟨b, 1, none⟩ (.int .u32 s3)).setCell ⟨pb, po, none⟩ (.int .u16 (learn c true))).heap.size = w.heap.size := by simp
    refine (eorder_p b base v _ _ hE2 (by rw [hsz]; exact hbase) HCC.out HPRE.out).mono ?_
    rintro r w3 ⟨v3, rfl, hE3, hF3, hM3⟩
    have E3 := Lib.hid hE3
    have F3 := Lib.hid (hF2.trans hF3)
    have M3 := Lib.hid ((Moved.refl w v).trans hM3 (Nat.le_of_eq hsz.symm))
    clear hE2 hF2 hE3 hF3 hM3 hsz
    go_wp2
    go_end0
    first
      | exact ⟨_, rfl, E3.out, F3.out, M3.out⟩
      | exact ⟨rfl, _, E3.out, F3.out, M3.out⟩
end Go.Proofs.Ytefbjamepbkklaa

/- The encoder's Direct. -/
namespace Go.Proofs.Ytefbjamepbkklaa
open Go.RowKit Rng
set_option linter.unusedVariables false
set_option linter.unusedSimpArgs false
theorem bit_at {x t : Nat} (hx : x < 4294967296) : bits .and .u32 ((x : Int) / 2 ^ t) 1 = ((x / 2 ^ t % 2 : Nat) : Int) := by
  have h1 : x / 2 ^ t < Num.M32 := Nat.lt_of_le_of_lt (Nat.div_le_self _ _) hx
  have h := Num.and32_1 h1
  rw [← h]
  congr 1
set_option maxRecDepth 100000 in
set_option maxHeartbeats 2000000 in
theorem edirect_p (b base x : Nat) (n : Int) (v : Value) (e : Enc) (w : World) (h : EncAt w 111 0 b base v e) (hbase : base ≤ w.heap.size) (hlen : e.cnt + 32 < 1000000) (hs : e.Run) (hcl : e.closed = false) (hx : x < 4294967296) :
    Calls Try.prog 98 #[.pointer (some ⟨b, 0, none⟩), .int .u32 x, .int .i64 n] w fun r w' => ∃ v' : Value, r = .returned (.tuple #[]) ∧ EncAt w' 111 0 b base v' (Enc.direct x (count n) e) ∧
      Frm (fun y => y = b ∨ v.ownBlock = some y) w w' ∧ Moved w v v' := by
  obtain ⟨N, hN⟩ : ∃ N : Nat, count n = N := ⟨_, rfl⟩
  have hN2 : N ≤ 32 := by rw [← hN]; unfold count; omega
  obtain ⟨y, hy⟩ : ∃ y : Int, max n 0 = y := ⟨_, rfl⟩
  have f1 := fun w => max2_num (P := Try.prog) .i64 #[3, 3] 3 n 0 y hy w
  have f2 := fun w => min2_num (P := Try.prog) .i64 #[3, 3] 3 y 32 N (by rw [← hN]; unfold count; omega) w
  obtain ⟨G, hG⟩ : ∃ G, Enc.direct x N e = G := ⟨_, rfl⟩
  rw [hN, hG]
  have d5 : w.cell? ⟨b, 5, none⟩ = some (.bool false) := by rw [h.p.cell, ← hcl]; rfl
  have HG := Lib.hid hG
  have HE := Lib.hid h
  have HS := Lib.hid hs
  have HCL := Lib.hid hcl
  have HX := Lib.hid hx
  have HLEN := Lib.hid hlen
  clear hy hN hG h hs hcl hx hlen
  go_enter Try.func98, Try.ntmps98
  go_wp2
  go_loopw [6] (fun iv wr => ∃ (j : Nat) (e1 : Enc) (v1 : Value), iv = .int .i64 ((j : Int) - 1) ∧ j ≤ N ∧ Enc.direct x j e1 = G ∧ EncAt wr 111 0 b base v1 e1 ∧ e1.Run ∧ e1.closed = false ∧ e1.cnt ≤ e.cnt + (N - j) ∧
      Frm (fun y => y = b ∨ v.ownBlock = some y) w wr ∧ Moved w v v1) (fun iv _ => (intOf iv + 1).toNat)
  case atStart => exact ⟨N, e, v, rfl, by omega, HG.out, HE.out, HS.out, HCL.out, by omega, Frm.refl _ _, Moved.refl _ _⟩
  case round =>
    obtain ⟨j, e1, v1, rfl, hj, hg, he1, hr1, hc1, hn1, hf1, hm1⟩ := hrel
    have E1 := Lib.hid he1
    have R1 := Lib.hid hr1
    have C1 := Lib.hid hc1
    have N1 := Lib.hid hn1
    have F1 := Lib.hid hf1
    have M1 := Lib.hid hm1
    have G1 := Lib.hid hg
    have hpt := he1.p
    have k5 : wr.cell? ⟨b, 5, none⟩ = some (.bool false) := by rw [hpt.cell, ← hc1]; rfl
    clear he1 hr1 hc1 hn1 hf1 hm1 hg HE HS HCL
    cases j with
    | zero =>
      have hneg : ¬ ((0 : Int) ≤ ((0 : Nat) : Int) - 1) := by omega
      have h0 : e1 = G := G1.out
      subst h0
      clear hpt G1
      go_wp2
      go_end0
      first
        | exact ⟨_, rfl, E1.out, F1.out, M1.out⟩
        | exact ⟨rfl, _, E1.out, F1.out, M1.out⟩
    | succ t =>
      have hti : (((t + 1 : Nat) : Int) - 1) = (t : Int) := by omega
      rw [hti]
      obtain ⟨s, hse⟩ : ∃ s, e1.size = s := ⟨_, rfl⟩
      obtain ⟨lo, hlo⟩ : ∃ lo, e1.low = lo := ⟨_, rfl⟩
      have d0 : wr.cell? ⟨b, 0, none⟩ = some (.int .u64 lo) := by rw [hpt.cell, ← hlo]; rfl
      have d1 : wr.cell? ⟨b, 1, none⟩ = some (.int .u32 s) := by rw [hpt.cell, ← hse]; rfl
      have g0 := hpt.frozen 0
      have g1 := hpt.frozen 1
      have hlow := R1.out.l
      have hsz := R1.out.s
      rw [hse] at hsz hlow
      rw [hlo] at hlow
      obtain ⟨q, hq⟩ : ∃ q, s / 2 = q := ⟨_, rfl⟩
      obtain ⟨lo3, hlo3⟩ : ∃ lo3, lo + q = lo3 := ⟨_, rfl⟩
      have hq1 : (s : Int) / 2 = (q : Int) := by omega
      have hq64 : IntKind.u64.wrap (q : Int) = (q : Int) := by rw [Go.IntWalk.u64_in _ (by omega)]
      have hadd : IntKind.u64.wrap ((lo : Int) + q) = (lo3 : Int) := by rw [u64_add (by omega), hlo3]
      have hbt := bit_at (x := x) (t := t) HX.out
      have hg2 := G1.out
      rw [Enc.direct, Enc.one_half] at hg2
      have hcase : x / 2 ^ t % 2 = 0 ∨ x / 2 ^ t % 2 = 1 := by omega
      have PT := Lib.hid hpt
      have HSE := Lib.hid hse
      have HLO := Lib.hid hlo
      have HQ := Lib.hid hq
      have HLO3 := Lib.hid hlo3
      have NB := Lib.hid (E1.out.nb (by decide))
      have HN := Lib.hid hj
      clear hpt hti hlow hsz hse hlo hq hlo3 G1
      rcases hcase with hb | hb
      · rw [hb] at hbt hg2
        have hbt0 : bits .and .u32 ((x : Int) / 2 ^ t) 1 = 0 := hbt
        have HG2 := Lib.hid hg2
        clear hbt hb hg2
        go_wp2_with fail
        have hE2 : EncAt (wr.setCell ⟨b, 1, none⟩ (.int .u32 q)) 111 0 b base v1 (e1.half (0 == 1)) := by
          refine ⟨?_, E1.out.o.other (p := ⟨b, 1, none⟩) NB.out _, (R1.out.half _).ok⟩
          have h9 := PT.out.set 1 (.int .u32 q)
          rw [← HQ.out, ← HSE.out] at h9 ⊢
          exact h9
        have hF2 := F1.out.setCell (p := ⟨b, 1, none⟩) (.inl rfl) (.int .u32 q)
        refine (eorder_p b base v1 _ _ hE2 (Nat.le_trans hbase hF2.size) (by have h1 : (e1.half (0 == 1)).cnt = e1.cnt := rfl; have h2 := N1.out; have h3 := HLEN.out; have h4 := HN.out; omega) (R1.out.half _)).mono ?_
        rintro r w3 ⟨v3, rfl, hE3, hF3, hM3⟩
        have E3 := Lib.hid hE3
        have F3 := Lib.hid (hF2.transR hF3 (fun q hq hh => hh.elim .inl (fun h2 => M1.out.own q hq h2)))
        have M3 := Lib.hid (M1.out.trans hM3 hF2.size)
        clear hE2 hF2 hE3 hF3 hM3
        go_wp2
        exact ⟨⟨t, _, v3, by go_num, by have := HN.out; omega, HG2.out, E3.out, R1.out.one _, by rw [Enc.order_closed]; exact C1.out, by have h1 := Enc.one_cnt e1 (0 == 1); have h2 := N1.out; have h3 := HN.out; rw [Enc.one_half] at h1; omega, F3.out, M3.out⟩, by simp [intOf] <;> omega⟩
      · rw [hb] at hbt hg2
        have hbt0 : bits .and .u32 ((x : Int) / 2 ^ t) 1 = 1 := hbt
        have HG2 := Lib.hid hg2
        clear hbt hb hg2
        go_wp2
        have hP2 := PT.out.set 1 (.int .u32 q)
        have hO2 := E1.out.o.other (p := ⟨b, 1, none⟩) NB.out (.int .u32 q)
        have hF2 := F1.out.setCell (p := ⟨b, 1, none⟩) (.inl rfl) (.int .u32 q)
        generalize wr.setCell ⟨b, 1, none⟩ (.int .u32 q) = w2 at *
        have e0 : w2.cell? ⟨b, 0, none⟩ = some (.int .u64 lo) := by rw [hP2.cell, ← HLO.out]; rfl
        have e1' : w2.cell? ⟨b, 1, none⟩ = some (.int .u32 q) := by rw [hP2.cell]; rfl
        have k0 := hP2.frozen 0
        have P2 := Lib.hid hP2
        have O2 := Lib.hid hO2
        have F2 := Lib.hid hF2
        clear hP2 hO2 hF2 d0 d1 g0 g1
        go_still_tail 12, (by kernel_rfl)
        change wpList _ _ _ _ _ w2.drew
        go_wp2_with fail
        have hE3 : EncAt (w2.setCell ⟨b, 0, none⟩ (.int .u64 lo3)).drew 111 0 b base v1 (e1.half (1 == 1)) := by
          refine ⟨?_, O2.out.other (p := ⟨b, 0, none⟩) NB.out _, (R1.out.half _).ok⟩
          have h9 := (P2.out.set 0 (.int .u64 lo3)).drew
          rw [← HLO3.out, ← HLO.out, ← HQ.out, ← HSE.out] at h9 ⊢
          exact h9
        have hF3 := (F2.out.setCell (p := ⟨b, 0, none⟩) (.inl rfl) (.int .u64 lo3)).drew
        refine (eorder_p b base v1 _ _ hE3 (Nat.le_trans hbase hF3.size) (by have h1 : (e1.half (1 == 1)).cnt = e1.cnt := rfl; have h2 := N1.out; have h3 := HLEN.out; have h4 := HN.out; omega) (R1.out.half _)).mono ?_
        rintro r w3 ⟨v3, rfl, hE4, hF4, hM4⟩
        have E3 := Lib.hid hE4
        have F3 := Lib.hid (hF3.transR hF4 (fun q hq hh => hh.elim .inl (fun h2 => M1.out.own q hq h2)))
        have M3 := Lib.hid (M1.out.trans hM4 hF3.size)
        clear hE3 hF3 hE4 hF4 hM4
        go_wp2
        exact ⟨⟨t, _, v3, by go_num, by have := HN.out; omega, HG2.out, E3.out, R1.out.one _, by rw [Enc.order_closed]; exact C1.out, by have h1 := Enc.one_cnt e1 (1 == 1); have h2 := N1.out; have h3 := HN.out; rw [Enc.one_half] at h1; omega, F3.out, M3.out⟩, by simp [intOf] <;> omega⟩
end Go.Proofs.Ytefbjamepbkklaa

/- The encoder's end; encoders that are made. -/
namespace Go.Proofs.Ytefbjamepbkklaa
open Go.RowKit Rng
set_option linter.unusedVariables false
set_option linter.unusedSimpArgs false
theorem Rng.Enc.shifts_step (n : Nat) (e : Enc) : Enc.shifts (n + 1) e = Enc.shifts n e.shift := rfl
theorem Rng.Enc.shifts_closed : ∀ (n : Nat) (e : Enc), (Enc.shifts n e).closed = e.closed
  | 0, e => rfl
  | n + 1, e => by rw [Enc.shifts_step, Enc.shifts_closed n, Enc.shift_closed]
theorem close_open {e : Enc} (h : e.closed = false) : e.close = ⟨(e.shifts 5).low, (e.shifts 5).size, (e.shifts 5).first, (e.shifts 5).more, (e.shifts 5).out, true⟩ := by
  unfold Enc.close; rw [if_neg (by rw [h]; simp)]
theorem close_shut {e : Enc} (h : e.closed = true) : e.close = e := if_pos h
theorem close_closed (e : Enc) : e.close.closed = true := by
  cases h : e.closed with
  | true => rw [close_shut h]; exact h
  | false => rw [close_open h]
/-- The encoder behind its loop of shifts. -/
def Rng.Enc.fin (e : Enc) : Enc := if e.closed then e else e.shifts 5
theorem Rng.Enc.close_fin (e : Enc) : e.close = ⟨e.fin.low, e.fin.size, e.fin.first, e.fin.more, e.fin.out, true⟩ := by
  cases h : e.closed with
  | true => rw [close_shut h]; unfold Enc.fin; rw [if_pos h, ← h]
  | false => rw [close_open h]; unfold Enc.fin; rw [if_neg (by rw [h]; simp)]
theorem eclose_fin (T z b base n7 : Nat) (v v1 v7 : Value) (e1 : Enc) (w wr w7 : World) (E1 : EncAt wr T z b base v1 e1) (hT : T ≠ 5) (F1 : Frm (fun x => x = b ∨ v.ownBlock = some x) w wr) (M1 : Moved w v v1)
    (hown7 : OwnB w7 5 w.heap.size v7 e1.out) (hfrm7 : Frm (fun k => (Value.slice (some ⟨wr.heap.size, 0, none⟩) 0 0).ownBlock = some k) ((wr.setCell ⟨b, 5, none⟩ (.bool true)).alloc (.cells #[] 5)) w7)
    (hnew7 : v7.ownBlock = (Value.slice (some ⟨wr.heap.size, 0, none⟩) 0 0).ownBlock ∨ v7.ownBlock = some n7) (hn7 : wr.heap.size ≤ n7) :
    EncAt w7 T z b base v1 ⟨e1.low, e1.size, e1.first, e1.more, e1.out, true⟩ ∧ Frm (fun x => x = b ∨ v.ownBlock = some x) w w7 ∧ Moved w v v1 ∧ OwnB w7 5 w.heap.size v7 e1.out ∧ (∀ q, v7.ownBlock = some q → v1.ownBlock ≠ some q) := by
  have hbw := E1.p.lt
  have hnb := E1.nb hT
  have hs1 := F1.size
  refine ⟨⟨((E1.p.set 5 (.bool true)).alloc _).frm hfrm7 (fun h => by have h' : wr.heap.size = b := Option.some.inj h; omega), ((E1.o.other (p := ⟨b, 5, none⟩) hnb _).alloc _).frm hfrm7 (fun q hq h => by have h' : wr.heap.size = q := Option.some.inj h; have := (E1.o.lt hq).2; omega), ⟨E1.k.l, E1.k.s⟩⟩,
    ((F1.setCell (p := ⟨b, 5, none⟩) (.inl rfl) (.bool true)).alloc _).transR hfrm7 (fun q hq h => by have h' : wr.heap.size = q := Option.some.inj h; omega), M1, hown7, ?_⟩
  intro q hq h
  have h1 := (E1.o.lt h).2
  rcases hnew7 with h2 | h2
  · rw [h2] at hq; have h' : wr.heap.size = q := Option.some.inj hq; omega
  · rw [h2] at hq; have h' : n7 = q := Option.some.inj hq; omega
set_option maxRecDepth 100000 in
set_option maxHeartbeats 2000000 in
theorem eclose_p (b base : Nat) (v : Value) (e : Enc) (w : World) (h : EncAt w 111 0 b base v e) (hbase : base ≤ w.heap.size) (hlen : e.cnt + 5 < 1000000) :
    Calls Try.prog 27 #[.pointer (some ⟨b, 0, none⟩)] w fun r w' => ∃ v' rv : Value, r = .returned rv ∧ EncAt w' 111 0 b base v' e.close ∧
      Frm (fun x => x = b ∨ v.ownBlock = some x) w w' ∧ Moved w v v' ∧ OwnB w' 5 w.heap.size rv e.close.out ∧ (∀ q, rv.ownBlock = some q → v'.ownBlock ≠ some q) := by
  rw [Enc.close_fin]
  obtain ⟨G, hG⟩ : ∃ G, e.fin = G := ⟨_, rfl⟩
  rw [hG]
  cases hcl : e.closed with
  | true =>
    have hfe : e = G := by rw [← hG]; unfold Enc.fin; rw [if_pos hcl]
    subst hfe
    have hpt := h.p
    have k5 : w.cell? ⟨b, 5, none⟩ = some (.bool true) := by rw [hpt.cell, ← hcl]; rfl
    have g5 := hpt.frozen 5
    have hbw := hpt.lt
    have PT := Lib.hid hpt
    have E1 := Lib.hid h
    have NB := Lib.hid (h.nb (by decide))
    obtain ⟨A0, k0, e8, hc0, hm0, hr0⟩ := h.o.slice
    have k4 : w.cell? ⟨b, 4, none⟩ = some (.slice A0 e.out.length k0) := by rw [hpt.cell, ← e8]; rfl
    have hlo : e.out.length ≤ 1000000 := by unfold Rng.Enc.cnt at hlen; omega
    have RW := Lib.hid hr0
    have E8 := Lib.hid e8
    clear h hpt hG hcl hr0 e8 hlen
    go_enter Try.func27, Try.ntmps27
    go_wp2
    go_loopw [3] (fun iv wr => iv = .int .i64 0 ∧ w = wr) (fun _ _ => 0)
    case atStart => exact ⟨rfl, rfl⟩
    case round =>
      obtain ⟨rfl, rfl⟩ := hrel
      go_wp2_with (at_builtin; refine wpList_append_bytes _ rfl (.tmp 22) (.tmp 26) 22 rfl 5 w.heap.size Try.underlying22 Try.info_u8 (.slice (some ⟨w.heap.size, 0, none⟩) 0 0) [] rfl ?own5 A0 e.out.length k0 w.heap.size e.out rfl rfl ?row5 ?len5 ?base5 ?next5)
      case own5 =>
        have h9 := OwnB.made (w.setCell ⟨b, 5, none⟩ (.bool true)) 5 w.heap.size (by simp)
        rw [show (w.setCell ⟨b, 5, none⟩ (.bool true)).heap.size = w.heap.size by simp] at h9
        exact h9
      case row5 => exact ((RW.out.off (fun h0 ad e9 hk => by
          apply NB.out
          rw [E8.out, e9]
          show some ad.block = some b
          rw [hk]) ((Frm.refl (· = b) w).setCell (p := ⟨b, 5, none⟩) (by rfl) (.bool true))).below (((Below.refl _ _).alloc (Nat.le_of_eq (by simp)) _)))
      case len5 => simp; omega
      case base5 => show w.heap.size ≤ ((w.setCell ⟨b, 5, none⟩ (.bool true)).heap.push _).size; rw [Array.size_push]; simp
      case next5 =>
        intro v7 w7 hown7 hfrm7 hnew7
        have hfin := Lib.hid (eclose_fin _ _ b base _ v v v7 e w w w7 E1.out (by decide) (Frm.refl _ _) (Moved.refl _ _) hown7 hfrm7 hnew7 (by simp))
        clear hown7 hfrm7 hnew7
        go_wp2
        go_ret
        exact ⟨v, v7, rfl, hfin.out⟩
  | false =>
    have hfe : e.shifts 5 = G := by rw [← hG]; unfold Enc.fin; rw [if_neg (by rw [hcl]; simp)]
    have HFE := Lib.hid hfe
    have HE := Lib.hid h
    have HCL := Lib.hid hcl
    have HLEN := Lib.hid hlen
    clear hG hcl hfe h hlen
    go_enter Try.func27, Try.ntmps27
    go_wp2
    go_loopw [3] (fun iv wr => ∃ (i : Nat) (e1 : Enc) (v1 : Value), iv = .int .i64 i ∧ i ≤ 5 ∧ e1.shifts (5 - i) = G ∧ EncAt wr 111 0 b base v1 e1 ∧ e1.closed = false ∧ e1.cnt ≤ e.cnt + i ∧
      Frm (fun x => x = b ∨ v.ownBlock = some x) w wr ∧ Moved w v v1) (fun iv _ => 5 - (intOf iv).toNat)
    case atStart => exact ⟨0, e, v, rfl, by omega, HFE.out, HE.out, HCL.out, by omega, Frm.refl _ _, Moved.refl _ _⟩
    case round =>
      obtain ⟨i, e1, v1, rfl, hi, hg, he1, hc1, hn1, hf1, hm1⟩ := hrel
      have hpt := he1.p
      have E1 := Lib.hid he1
      have C1 := Lib.hid hc1
      have N1 := Lib.hid hn1
      have F1 := Lib.hid hf1
      have M1 := Lib.hid hm1
      have k5 : wr.cell? ⟨b, 5, none⟩ = some (.bool false) := by rw [hpt.cell, ← hc1]; rfl
      have g5 := hpt.frozen 5
      have hbw := hpt.lt
      clear hc1 hn1 hf1 hm1 HE HCL
      by_cases hlt : i < 5
      · have hg2 := hg
        rw [show 5 - i = (5 - (i + 1)) + 1 by omega, Enc.shifts_step] at hg2
        have HG2 := Lib.hid hg2
        clear hg hg2 hpt he1
        go_wp2_with fail
        refine (eshift_p b base v1 e1 _ E1.out (Nat.le_trans hbase F1.out.size) (by have := N1.out; have := HLEN.out; omega)).mono ?_
        rintro r w3 ⟨v3, rfl, hE3, hF3, hM3⟩
        have E3 := Lib.hid hE3
        have F3 := Lib.hid (F1.out.transR hF3 (fun q hq hh => hh.elim .inl (fun h2 => M1.out.own q hq h2)))
        have M3 := Lib.hid (M1.out.trans hM3 F1.out.size)
        clear hE3 hF3 hM3
        go_wp2
        exact ⟨⟨i + 1, e1.shift, v3, by go_num, by omega, HG2.out, E3.out, by rw [Enc.shift_closed]; exact C1.out, by rw [Enc.shift_cnt]; have := N1.out; omega, F3.out, M3.out⟩, by simp [intOf]; omega⟩
      · obtain rfl : i = 5 := by omega
        have hg5 : e1 = G := hg
        subst hg5
        have PT := Lib.hid hpt
        have NB := Lib.hid (he1.nb (by decide))
        obtain ⟨A0, k0, e8, hc0, hm0, hr0⟩ := he1.o.slice
        have k4 : wr.cell? ⟨b, 4, none⟩ = some (.slice A0 e1.out.length k0) := by rw [hpt.cell, ← e8]; rfl
        have hlo : e1.out.length ≤ 1000000 := by have h1 := N1.out; have h2 := HLEN.out; unfold Rng.Enc.cnt at h1 h2; omega
        have RW := Lib.hid hr0
        have E8 := Lib.hid e8
        clear hg hpt he1 hr0 e8
        go_wp2_with (at_builtin; refine wpList_append_bytes _ rfl (.tmp 22) (.tmp 26) 22 rfl 5 w.heap.size Try.underlying22 Try.info_u8 (.slice (some ⟨wr.heap.size, 0, none⟩) 0 0) [] rfl ?own6 A0 e1.out.length k0 wr.heap.size e1.out rfl rfl ?row6 ?len6 ?base6 ?next6)
        case own6 =>
          have h9 := OwnB.made (wr.setCell ⟨b, 5, none⟩ (.bool true)) 5 w.heap.size (by have := F1.out.size; simp; omega)
          rw [show (wr.setCell ⟨b, 5, none⟩ (.bool true)).heap.size = wr.heap.size by simp] at h9
          exact h9
        case row6 => exact ((RW.out.off (fun h0 ad e9 hk => by
            apply NB.out
            rw [E8.out, e9]
            show some ad.block = some b
            rw [hk]) ((Frm.refl (· = b) wr).setCell (p := ⟨b, 5, none⟩) (by rfl) (.bool true))).below (((Below.refl _ _).alloc (Nat.le_of_eq (by simp)) _)))
        case len6 => simp; omega
        case base6 => show w.heap.size ≤ ((wr.setCell ⟨b, 5, none⟩ (.bool true)).heap.push _).size; rw [Array.size_push]; have := F1.out.size; simp; omega
        case next6 =>
          intro v7 w7 hown7 hfrm7 hnew7
          have hfin := Lib.hid (eclose_fin _ _ b base _ v v1 v7 e1 w wr w7 E1.out (by decide) F1.out M1.out hown7 hfrm7 hnew7 (by simp))
          clear hown7 hfrm7 hnew7
          go_wp2
          go_ret
          exact ⟨v1, v7, rfl, hfin.out⟩
theorem enew_p (w : World) : Calls Try.prog 24 #[] w fun r w' => r = .returned (.pointer (some ⟨w.heap.size, 0, none⟩)) ∧ EncAt w' 111 0 w.heap.size w.heap.size (.slice none 0 0) newEnc ∧ Below w.heap.size w w' := by
  go_enter Try.func24, Try.ntmps24
  go_wp2
  go_ret
  exact ⟨rfl, ⟨Pts.new _ _ _, OwnB.nil _ _ _, newEnc_run.ok⟩, (Below.refl _ _).alloc (Nat.le_refl _) _⟩
end Go.Proofs.Ytefbjamepbkklaa

/- A slice of acts of a coder (a place, a number, a count) that came in. -/
namespace Go.Proofs.Ytefbjamepbkklaa
open Go.RowKit
set_option linter.unusedVariables false
set_option linter.unusedSimpArgs false
structure RAct where
  at' : Int
  n : Nat
  many : Int
instance : Inhabited RAct := ⟨⟨0, 0, 0⟩⟩
structure RAct.Fits (x : RAct) : Prop where
  a : -9223372036854775808 ≤ x.at' ∧ x.at' ≤ 9223372036854775807
  n : x.n < 4294967296
  m : -9223372036854775808 ≤ x.many ∧ x.many ≤ 9223372036854775807
/-- The slice (A, its length) reads as the acts l, and lies below block B. -/
def RActRow (w : World) (B : Nat) (A : Option Addr) (l : List RAct) : Prop :=
  0 < l.length → ∃ b off, A = some ⟨b, off, none⟩ ∧ b < B ∧ ∀ k, k < l.length →
    w.cell? ⟨b, off + k * 3, none⟩ = some (.int .i64 (l.getD k default).at') ∧ w.cell? ⟨b, off + k * 3 + 1, none⟩ = some (.int .u32 (l.getD k default).n) ∧ w.cell? ⟨b, off + k * 3 + 2, none⟩ = some (.int .i64 (l.getD k default).many)
namespace Opn
open Go.ChangeShapes Go.WideShapes Go.Deep
section
variable {H : Type} {enc : TypeId × Value → H} {P : Program} {w : World}
theorem open_racts {t e t0 t1 : TypeId} {f0 f1 f2 : Field} {A : Option Addr} {len cap : Nat} {d : DataW H} {p : List MemPlace} (ht : P.underlying t = some (.slice e)) (he : P.underlying e = some (.struct #[f0, f1, f2]))
    (hone : oneCellFields P #[f0, f1, f2] = true) (hC : P.cellsOf e = 3) (e0 : f0.type = t0) (e1 : f1.type = t1) (e2 : f2.type = t0) (h0 : P.underlying t0 = some (.int .i64)) (h1 : P.underlying t1 = some (.int .u32))
    (h : DataW.Trod enc P w 0 (fun _ => true) true t (.slice A len cap) d p) :
    ∃ l : List RAct, len = l.length ∧ l.length ≤ cap ∧ cap ≤ maxLen ∧ RActRow w w.heap.size A l ∧ ∀ s ∈ l, s.Fits := by
  obtain ⟨fuel, hf⟩ := h
  rcases open_slice_fields ht he hone hC hf with ⟨hcs, _⟩ | ⟨x, l, c, m, hcs, hl, hm, hmm, hcell⟩
  · simp [Value.cells] at hcs
    obtain ⟨rfl, rfl, rfl⟩ := hcs
    exact ⟨[], rfl, Nat.le_refl _, Nat.zero_le _, fun h => absurd h (by simp), fun s hs => absurd hs (by simp)⟩
  · simp [Value.cells] at hcs
    obtain ⟨rfl, rfl, rfl⟩ := hcs
    simp only [if_true] at hmm
    subst hmm
    have key : ∀ i, i < len → ∃ z : RAct, w.cell? (x.add (i * 3)) = some (.int .i64 z.at') ∧ w.cell? (x.add (i * 3 + 1)) = some (.int .u32 z.n) ∧ w.cell? (x.add (i * 3 + 2)) = some (.int .i64 z.many) ∧ z.Fits := by
      intro i hi
      obtain ⟨n, hn⟩ := hcell i (by omega)
      obtain ⟨v0, y0, hc0, ht0⟩ := hn 0 f0 rfl
      obtain ⟨v1, y1, hc1, ht1⟩ := hn 1 f1 rfl
      obtain ⟨v2, y2, hc2, ht2⟩ := hn 2 f2 rfl
      rw [e0] at ht0; rw [e1] at ht1; rw [e2] at ht2
      obtain ⟨z0, hz0, _, hw0⟩ := DataW.trod_int h0 ht0
      obtain ⟨z1, hz1, _, hw1⟩ := DataW.trod_int h1 ht1
      obtain ⟨z2, hz2, _, hw2⟩ := DataW.trod_int h0 ht2
      simp only [List.cons.injEq, and_true] at hz0 hz1 hz2
      subst hz0; subst hz1; subst hz2
      have hb1 := bounds_u32 hw1
      have hb1a := hb1.1
      obtain ⟨m, rfl⟩ : ∃ m : Nat, z1 = m := ⟨z1.toNat, by omega⟩
      exact ⟨⟨z0, m, z2⟩, hc0, hc1, hc2, bounds_i64 hw0, by have := hb1.2; simp only; omega, bounds_i64 hw2⟩
    obtain ⟨q, hq⟩ := pick key
    refine ⟨(List.range len).map q, by simp, by simpa using hl, hm, fun hn => ?_, fun s hs => ?_⟩
    · simp only [List.length_map, List.length_range] at hn
      have hx0 := (hq 0 hn).1
      have hx := add_plain hx0
      refine ⟨x.block, x.off, by rw [← hx], lt_of_cell (a := x) (by simpa [Addr.add] using hx0), fun j hj => ?_⟩
      simp only [List.length_map, List.length_range] at hj
      obtain ⟨k0, k1, k2, _⟩ := hq j hj
      rw [hx, add_at] at k0 k1 k2
      have e : ((List.range len).map q).getD j default = q j := by simp [List.getD, hj]
      rw [e]
      exact ⟨k0, by rw [Nat.add_assoc]; exact k1, by rw [Nat.add_assoc]; exact k2⟩
    · obtain ⟨i, hi, rfl⟩ := List.mem_map.1 hs
      exact (hq i (List.mem_range.1 hi)).2.2.2
end
end Opn
end Go.Proofs.Ytefbjamepbkklaa

/- What goes in comes out, in plain Lean. -/
namespace Go.Proofs.Ytefbjamepbkklaa.Rng
open Go.RowKit
set_option linter.unusedVariables false
set_option linter.unusedSimpArgs false
/-- Bytes as a number, the highest first. -/
def num : List UInt8 → Nat
  | [] => 0
  | x :: l => x.toNat * 256 ^ l.length + num l
theorem num_app : ∀ (l m : List UInt8), num (l ++ m) = num l * 256 ^ m.length + num m
  | [], m => by simp [num]
  | x :: l, m => by
    show x.toNat * 256 ^ (l ++ m).length + num (l ++ m) = (x.toNat * 256 ^ l.length + num l) * 256 ^ m.length + num m
    rw [num_app l m, List.length_append, Nat.pow_add, Nat.add_mul, Nat.mul_assoc, Nat.add_assoc]
theorem num_snoc (l : List UInt8) (x : UInt8) : num (l ++ [x]) = num l * 256 + x.toNat := by
  rw [num_app]; simp [num]
theorem num_lt : ∀ l : List UInt8, num l < 256 ^ l.length
  | [] => by simp [num]
  | x :: l => by
    have h := num_lt l
    have hx := x.toNat_lt
    show x.toNat * 256 ^ l.length + num l < 256 ^ (l.length + 1)
    rw [Nat.pow_succ]
    generalize 256 ^ l.length = P at *
    have h2 : x.toNat * P ≤ 255 * P := Nat.mul_le_mul_right P (by omega)
    omega
theorem num_rep255 : ∀ n, num (List.replicate n (255 : UInt8)) + 1 = 256 ^ n
  | 0 => rfl
  | n + 1 => by
    have h := num_rep255 n
    show (255 : UInt8).toNat * 256 ^ (List.replicate n (255 : UInt8)).length + num (List.replicate n (255 : UInt8)) + 1 = 256 ^ (n + 1)
    rw [List.length_replicate, Nat.pow_succ]
    show 255 * 256 ^ n + _ + 1 = _
    omega
theorem num_rep0 : ∀ n, num (List.replicate n (0 : UInt8)) = 0
  | 0 => rfl
  | n + 1 => by
    show (0 : UInt8).toNat * _ + num (List.replicate n (0 : UInt8)) = 0
    rw [num_rep0 n]
    show 0 * _ + 0 = 0
    simp
/-- What waits: bytes that may turn yet. -/
def Enc.pend (e : Enc) : Nat := num (e.out ++ e.first :: List.replicate e.more 255)
def Enc.T (e : Enc) : Nat := e.pend * 4294967296 + e.low
def Enc.Good (e : Enc) (s : Nat) : Prop := e.low + s ≤ 8589934592 ∧ (e.first = 255 → e.low + s ≤ 4294967296)
theorem shift_stay {e : Enc} (h : 4278190080 ≤ e.low ∧ e.low < 4294967296) : e.shift = ⟨e.low * 256 % 4294967296, e.size, e.first, e.more + 1, e.out, e.closed⟩ := if_pos h
theorem shift_go {e : Enc} (h : ¬ (4278190080 ≤ e.low ∧ e.low < 4294967296)) : e.shift = ⟨e.low * 256 % 4294967296, e.size, UInt8.ofNat (e.low / 16777216), 0, e.out ++ (e.first + e.carry) :: List.replicate e.more (255 + e.carry), e.closed⟩ := if_neg h
theorem num_wait (o : List UInt8) (f : UInt8) (n : Nat) : num (o ++ f :: List.replicate n 255) + 1 = (num o * 256 + f.toNat + 1) * 256 ^ n := by
  rw [num_app]
  show num o * 256 ^ (f :: List.replicate n (255 : UInt8)).length + (f.toNat * 256 ^ (List.replicate n (255 : UInt8)).length + num (List.replicate n (255 : UInt8))) + 1 = _
  have h := num_rep255 n
  rw [List.length_cons, List.length_replicate, Nat.pow_succ, Nat.add_mul, Nat.add_mul]
  have e1 : num o * (256 ^ n * 256) = num o * 256 * 256 ^ n := by rw [Nat.mul_comm (256 ^ n) 256, Nat.mul_assoc]
  rw [e1]
  omega
theorem num_turn (o : List UInt8) (f : UInt8) (n : Nat) (hf : f ≠ 255) : num (o ++ (f + 1) :: List.replicate n 0) = num (o ++ f :: List.replicate n 255) + 1 := by
  rw [num_wait, num_app]
  show num o * 256 ^ ((f + 1) :: List.replicate n (0 : UInt8)).length + ((f + 1).toNat * 256 ^ (List.replicate n (0 : UInt8)).length + num (List.replicate n (0 : UInt8))) = _
  have hn : f.toNat ≠ 255 := fun h => hf (UInt8.toNat_inj.1 h)
  have hl := f.toNat_lt
  have e2 : (f + 1).toNat = f.toNat + 1 := by
    rw [UInt8.toNat_add]
    show (f.toNat + 1) % 256 = _
    omega
  rw [num_rep0, List.length_cons, List.length_replicate, Nat.pow_succ, e2, Nat.add_mul (num o * 256 + f.toNat), Nat.add_mul]
  have e1 : num o * (256 ^ n * 256) = num o * 256 * 256 ^ n := by rw [Nat.mul_comm (256 ^ n) 256, Nat.mul_assoc]
  rw [e1, Nat.add_mul (num o * 256)]
  omega
theorem shift_T {e : Enc} {s : Nat} (h : e.Good s) (hs : 1 ≤ s) : e.shift.T = e.T * 256 := by
  obtain ⟨h1, h2⟩ := h
  by_cases hc : 4278190080 ≤ e.low ∧ e.low < 4294967296
  · rw [shift_stay hc]
    show num (e.out ++ e.first :: List.replicate (e.more + 1) 255) * 4294967296 + e.low * 256 % 4294967296 = (num (e.out ++ e.first :: List.replicate e.more 255) * 4294967296 + e.low) * 256
    have e1 : e.out ++ e.first :: List.replicate (e.more + 1) (255 : UInt8) = (e.out ++ e.first :: List.replicate e.more 255) ++ [255] := by
      rw [List.replicate_succ']; simp
    rw [e1, num_snoc]
    generalize num (e.out ++ e.first :: List.replicate e.more 255) = N
    show (N * 256 + 255) * 4294967296 + _ = _
    generalize e.low = L at *
    omega
  · rw [shift_go hc]
    show num ((e.out ++ (e.first + e.carry) :: List.replicate e.more (255 + e.carry)) ++ UInt8.ofNat (e.low / 16777216) :: List.replicate 0 255) * 4294967296 + e.low * 256 % 4294967296 = (num (e.out ++ e.first :: List.replicate e.more 255) * 4294967296 + e.low) * 256
    have e3 : (UInt8.ofNat (e.low / 16777216)).toNat = e.low / 16777216 % 256 := by rw [UInt8.toNat_ofNat']
    rw [show (UInt8.ofNat (e.low / 16777216) :: List.replicate 0 255 : List UInt8) = [UInt8.ofNat (e.low / 16777216)] from rfl, num_snoc, e3]
    by_cases hl : e.low < 4294967296
    · have hcar : e.carry = 0 := by
        unfold Enc.carry
        rw [Nat.div_eq_of_lt hl]; rfl
      rw [hcar, UInt8.add_zero, UInt8.add_zero]
      generalize num (e.out ++ e.first :: List.replicate e.more 255) = N
      generalize e.low = L at *
      omega
    · have hcar : e.carry = 1 := by
        unfold Enc.carry
        have : e.low / 4294967296 = 1 := by omega
        rw [this]; rfl
      have hf : e.first ≠ 255 := fun hf => by have := h2 hf; omega
      rw [hcar, show (255 : UInt8) + 1 = 0 from rfl, num_turn _ _ _ hf]
      generalize num (e.out ++ e.first :: List.replicate e.more 255) = N
      generalize e.low = L at *
      omega
theorem Enc.Good.shift {e : Enc} {s : Nat} (h : e.Good s) (hs2 : s ≤ 16777216) : e.shift.Good (s * 256) := by
  obtain ⟨h1, h2⟩ := h
  refine ⟨?_, ?_⟩
  · rw [Enc.shift_low]
    omega
  · by_cases hc : 4278190080 ≤ e.low ∧ e.low < 4294967296
    · rw [shift_stay hc]
      intro hf
      have h3 := h2 hf
      show e.low * 256 % 4294967296 + s * 256 ≤ _
      omega
    · rw [shift_go hc]
      intro hf
      show e.low * 256 % 4294967296 + s * 256 ≤ _
      have e3 : (UInt8.ofNat (e.low / 16777216)).toNat = e.low / 16777216 % 256 := by rw [UInt8.toNat_ofNat']
      have e4 : (UInt8.ofNat (e.low / 16777216)).toNat = 255 := congrArg UInt8.toNat hf
      rw [e3] at e4
      omega
theorem Enc.Good.less {e : Enc} {s s' : Nat} (h : e.Good s) (hs : s' ≤ s) : e.Good s' := by
  obtain ⟨h1, h2⟩ := h
  exact ⟨by omega, fun hf => by have := h2 hf; omega⟩
theorem Enc.Good.shifts : ∀ (n : Nat) {e : Enc}, e.Good 1 → (Enc.shifts n e).Good 1 ∧ (Enc.shifts n e).T = e.T * 256 ^ n ∧ (Enc.shifts n e).cnt = e.cnt + n
  | 0, e, h => ⟨h, by show e.T = e.T * 256 ^ 0; simp, rfl⟩
  | n + 1, e, h => by
    have h1 : e.shift.Good 1 := (h.shift (by decide)).less (by decide)
    obtain ⟨a1, a2, a3⟩ := Enc.Good.shifts n h1
    refine ⟨a1, ?_, ?_⟩
    · show (Enc.shifts n e.shift).T = _
      rw [a2, shift_T h (Nat.le_refl _), Nat.pow_succ, Nat.mul_assoc, Nat.mul_comm 256]
    · show (Enc.shifts n e.shift).cnt = _
      rw [a3, Enc.shift_cnt]; omega
theorem five (e : Enc) : (e.shifts 5).low = 0 ∧ (e.shifts 5).first = 0 ∧ (e.shifts 5).more = 0 := by
  have h4 : (e.shifts 4).low = 0 := by
    show e.shift.shift.shift.shift.low = 0
    rw [Enc.shift_low, Enc.shift_low, Enc.shift_low, Enc.shift_low]
    omega
  have h5 : e.shifts 5 = (e.shifts 4).shift := rfl
  rw [h5, shift_go (by rw [h4]; omega), h4]
  exact ⟨rfl, rfl, rfl⟩
/-- All that went out is what was told. -/
theorem close_num {e : Enc} (hg : e.Good 1) (hc : e.closed = false) : num e.close.out = e.T ∧ e.close.out.length = e.cnt + 5 := by
  rw [close_open hc]
  obtain ⟨a1, a2, a3⟩ := Enc.Good.shifts 5 hg
  obtain ⟨b1, b2, b3⟩ := five e
  unfold Enc.T Enc.pend at a2
  unfold Enc.cnt at a3
  rw [b1, b2, b3] at a2
  rw [b3] at a3
  refine ⟨?_, a3⟩
  show num (e.shifts 5).out = e.T
  rw [show ((0 : UInt8) :: List.replicate 0 255 : List UInt8) = [0] from rfl, num_snoc] at a2
  have h0 : ((0 : UInt8).toNat) = 0 := rfl
  rw [h0] at a2
  have e5 : (256 : Nat) ^ 5 = 1099511627776 := by decide
  rw [e5] at a2
  unfold Enc.T Enc.pend
  generalize num (e.shifts 5).out = X at *
  omega
/-- f goes on from e. -/
def Sub (e f : Enc) : Prop := ∃ m, f.cnt = e.cnt + m ∧ e.T * 256 ^ m ≤ f.T ∧ f.T + f.size ≤ (e.T + e.size) * 256 ^ m
theorem Sub.refl (e : Enc) : Sub e e := ⟨0, rfl, by simp, by simp⟩
theorem Sub.trans {e f g : Enc} (h : Sub e f) (k : Sub f g) : Sub e g := by
  obtain ⟨m, h1, h2, h3⟩ := h
  obtain ⟨n, k1, k2, k3⟩ := k
  refine ⟨m + n, by omega, ?_, ?_⟩
  · rw [Nat.pow_add, ← Nat.mul_assoc]
    exact Nat.le_trans (Nat.mul_le_mul_right _ h2) k2
  · rw [Nat.pow_add, ← Nat.mul_assoc]
    exact Nat.le_trans k3 (Nat.mul_le_mul_right _ h3)
theorem sub_cut {e : Enc} (h : e.Run) {c : Nat} (h1 : 31 ≤ c) (h2 : c ≤ 2017) (one : Bool) : Sub e (e.cut c one) := by
  have hb := bound_bd h.s.1 h1 h2
  refine ⟨0, by rw [Enc.cut_cnt]; rfl, ?_, ?_⟩
  · unfold Enc.cut; cases one
    · show e.T * 1 ≤ e.T; omega
    · show e.T * 1 ≤ e.pend * 4294967296 + (e.low + e.size / 2048 * c)
      unfold Enc.T; omega
  · unfold Enc.cut; cases one
    · show e.T + e.size / 2048 * c ≤ (e.T + e.size) * 1; omega
    · show e.pend * 4294967296 + (e.low + e.size / 2048 * c) + (e.size - e.size / 2048 * c) ≤ (e.T + e.size) * 1
      unfold Enc.T; omega
theorem sub_half (e : Enc) (one : Bool) : Sub e (e.half one) := by
  refine ⟨0, rfl, ?_, ?_⟩
  · unfold Enc.half; cases one
    · show e.T * 1 ≤ e.T; omega
    · show e.T * 1 ≤ e.pend * 4294967296 + (e.low + e.size / 2)
      unfold Enc.T; omega
  · unfold Enc.half; cases one
    · show e.T + e.size / 2 ≤ (e.T + e.size) * 1; omega
    · show e.pend * 4294967296 + (e.low + e.size / 2) + e.size / 2 ≤ (e.T + e.size) * 1
      unfold Enc.T; omega
theorem order_form (e : Enc) : (16777216 ≤ e.size ∧ e.order = e) ∨ (e.size < 16777216 ∧ e.order = Enc.shift ⟨e.low, e.size * 256, e.first, e.more, e.out, e.closed⟩) := by
  unfold Enc.order
  by_cases h : e.size < 16777216
  · exact .inr ⟨h, if_pos h⟩
  · exact .inl ⟨by omega, if_neg h⟩
theorem order_more {e : Enc} (hg : e.Good e.size) (hs : 1 ≤ e.size) (h : e.size < 16777216) : e.order.T = e.T * 256 ∧ e.order.size = e.size * 256 ∧ e.order.cnt = e.cnt + 1 ∧ e.order.Good e.order.size := by
  have hg2 : Enc.Good ⟨e.low, e.size * 256, e.first, e.more, e.out, e.closed⟩ e.size := hg
  have ho : e.order = Enc.shift ⟨e.low, e.size * 256, e.first, e.more, e.out, e.closed⟩ := if_pos h
  rw [ho]
  refine ⟨?_, ?_, ?_, ?_⟩
  · rw [shift_T hg2 hs]; rfl
  · rw [Enc.shift_size]
  · rw [Enc.shift_cnt]; rfl
  · rw [Enc.shift_size]; exact hg2.shift (by omega)
theorem sub_order {e : Enc} (hg : e.Good e.size) (hs : 1 ≤ e.size) : Sub e e.order ∧ e.order.Good e.order.size := by
  by_cases h : e.size < 16777216
  · obtain ⟨a1, a2, a3, a4⟩ := order_more hg hs h
    refine ⟨⟨1, a3, ?_, ?_⟩, a4⟩
    · rw [a1, Nat.pow_one]; exact Nat.le_refl _
    · rw [a1, a2, Nat.pow_one, Nat.add_mul]; exact Nat.le_refl _
  · have ho : e.order = e := if_neg h
    rw [ho]
    exact ⟨Sub.refl e, hg⟩
theorem good_cut {e : Enc} (hr : e.Run) (hg : e.Good e.size) {c : Nat} (h1 : 31 ≤ c) (h2 : c ≤ 2017) (one : Bool) : (e.cut c one).Good (e.cut c one).size := by
  have hb := bound_bd hr.s.1 h1 h2
  obtain ⟨g1, g2⟩ := hg
  unfold Enc.cut; cases one
  · exact ⟨by show e.low + e.size / 2048 * c ≤ _; omega, fun hf => by have := g2 hf; show e.low + e.size / 2048 * c ≤ _; omega⟩
  · exact ⟨by show e.low + e.size / 2048 * c + (e.size - e.size / 2048 * c) ≤ _; omega, fun hf => by have := g2 hf; show e.low + e.size / 2048 * c + (e.size - e.size / 2048 * c) ≤ _; omega⟩
theorem good_half {e : Enc} (hg : e.Good e.size) (one : Bool) : (e.half one).Good (e.half one).size := by
  obtain ⟨g1, g2⟩ := hg
  unfold Enc.half; cases one
  · exact ⟨by show e.low + e.size / 2 ≤ _; omega, fun hf => by have := g2 hf; show e.low + e.size / 2 ≤ _; omega⟩
  · exact ⟨by show e.low + e.size / 2 + e.size / 2 ≤ _; omega, fun hf => by have := g2 hf; show e.low + e.size / 2 + e.size / 2 ≤ _; omega⟩
theorem sub_bit {e : Enc} (hr : e.Run) (hg : e.Good e.size) {c : Nat} (h1 : 31 ≤ c) (h2 : c ≤ 2017) (one : Bool) : Sub (e.cut c one) (e.bit c one) ∧ Sub e (e.bit c one) ∧ (e.bit c one).Good (e.bit c one).size := by
  have hp := hr.cut h1 h2 one
  obtain ⟨a, b⟩ := sub_order (good_cut hr hg h1 h2 one) (by have := hp.s; omega)
  exact ⟨a, (sub_cut hr h1 h2 one).trans a, b⟩
theorem sub_one {e : Enc} (hr : e.Run) (hg : e.Good e.size) (one : Bool) : Sub (e.half one) (e.one one) ∧ Sub e (e.one one) ∧ (e.one one).Good (e.one one).size := by
  have hp := hr.half one
  obtain ⟨a, b⟩ := sub_order (good_half hg one) (by have := hp.s; omega)
  exact ⟨a, (sub_half e one).trans a, b⟩
theorem sub_direct (x : Nat) : ∀ (n : Nat) {e : Enc}, e.Run → e.Good e.size → Sub e (Enc.direct x n e) ∧ (Enc.direct x n e).Good (Enc.direct x n e).size
  | 0, e, hr, hg => ⟨Sub.refl e, hg⟩
  | n + 1, e, hr, hg => by
    obtain ⟨a, b, c⟩ := sub_one hr hg (x / 2 ^ n % 2 == 1)
    obtain ⟨d1, d2⟩ := sub_direct x n (Enc.Run.one hr (x / 2 ^ n % 2 == 1)) c
    exact ⟨b.trans d1, d2⟩
/-- The decoder of bytes B, where the encoder was e. -/
structure Like (B : List UInt8) (e : Enc) (d : Dec) : Prop where
  code : d.code + e.T = num (B.take (e.cnt + 5))
  size : d.size = e.size
  rest : d.rest = B.drop (e.cnt + 5)
  want : d.want = false
/-- The bytes B are those that f tells at its end. -/
structure Told (B : List UInt8) (f : Enc) : Prop where
  n : num B = f.T
  l : B.length = f.cnt + 5
  s : 1 ≤ f.size
theorem told_range {B : List UInt8} {e f : Enc} (h : Told B f) (hs : Sub e f) : e.T ≤ num (B.take (e.cnt + 5)) ∧ num (B.take (e.cnt + 5)) < e.T + e.size := by
  obtain ⟨m, h1, h2, h3⟩ := hs
  have hl := h.l
  have hn := h.n
  have hsz := h.s
  have hsplit := num_app (B.take (e.cnt + 5)) (B.drop (e.cnt + 5))
  have hlt := num_lt (B.drop (e.cnt + 5))
  rw [List.take_append_drop] at hsplit
  have hdl : (B.drop (e.cnt + 5)).length = m := by rw [List.length_drop]; omega
  rw [hdl] at hsplit hlt
  generalize num (B.take (e.cnt + 5)) = N at *
  generalize num (B.drop (e.cnt + 5)) = R at *
  have hP : 0 < 256 ^ m := Nat.pow_pos (by decide)
  generalize 256 ^ m = P at *
  refine ⟨?_, ?_⟩
  · have h5 : e.T * P < (N + 1) * P := by rw [Nat.add_mul, Nat.one_mul]; omega
    have := Nat.lt_of_mul_lt_mul_right h5
    omega
  · have h5 : N * P < (e.T + e.size) * P := by omega
    exact Nat.lt_of_mul_lt_mul_right h5
theorem take_more {B : List UInt8} {j : Nat} (h : j < B.length) : num (B.take (j + 1)) = num (B.take j) * 256 + (B.getD j 0).toNat ∧ B.drop j = B.getD j 0 :: B.drop (j + 1) := by
  have e1 : B.take (j + 1) = B.take j ++ [B.getD j 0] := by
    rw [List.take_add_one, List.getElem?_eq_getElem h]
    simp [List.getD, List.getElem?_eq_getElem h]
  refine ⟨by rw [e1, num_snoc], ?_⟩
  rw [List.drop_eq_getElem_cons h]
  simp [List.getD, List.getElem?_eq_getElem h]
theorem Like.order {B : List UInt8} {e f : Enc} {d : Dec} (k : Like B e d) (ht : Told B f) (hg : e.Good e.size) (hs : 1 ≤ e.size) (hsub : Sub e.order f) : Like B e.order d.order := by
  by_cases h : e.size < 16777216
  · obtain ⟨a1, a2, a3, a4⟩ := order_more hg hs h
    have hrange := told_range ht ((sub_order hg hs).1.trans hsub)
    obtain ⟨m, h1, _, _⟩ := hsub
    rw [a3] at h1
    have hl := ht.l
    have hj : e.cnt + 5 < B.length := by omega
    obtain ⟨b1, b2⟩ := take_more hj
    have hx := (B.getD (e.cnt + 5) 0).toNat_lt
    have hcode := k.code
    have hsz := k.size
    have hr := k.rest
    rw [b2] at hr
    have ho : d.order = ⟨B.drop (e.cnt + 5 + 1), d.size * 256, d.code * 256 % 4294967296 + (B.getD (e.cnt + 5) 0).toNat, d.want⟩ := by
      unfold Dec.order
      rw [if_neg (by omega), hr]
    rw [ho]
    generalize (B.getD (e.cnt + 5) 0) = x at *
    refine ⟨?_, ?_, ?_, k.want⟩
    · show d.code * 256 % 4294967296 + x.toNat + e.order.T = _
      rw [a1, a3, show e.cnt + 1 + 5 = e.cnt + 5 + 1 by omega, b1]
      generalize num (B.take (e.cnt + 5)) = N at *
      generalize e.T = T at *
      omega
    · show d.size * 256 = _; rw [a2, hsz]
    · show _ = B.drop (e.order.cnt + 5); rw [a3]
  · have ho : e.order = e := if_neg h
    have hd : d.order = d := by
      unfold Dec.order
      rw [if_pos (by have := k.size; omega)]
    rw [ho, hd]; exact k
theorem Like.bit {B : List UInt8} {e f : Enc} {d : Dec} (k : Like B e d.order) (ht : Told B f) {c : Nat} (one : Bool) (hsub : Sub (e.cut c one) f) (hle : e.size / 2048 * c ≤ e.size) : (d.bit c).1 = one ∧ Like B (e.cut c one) (d.bit c).2 := by
  have hr := told_range ht hsub
  rw [Enc.cut_cnt] at hr
  have h1 := k.code
  have h2 := k.size
  have h3 := k.rest
  have h4 := k.want
  unfold Dec.bit
  simp only
  generalize d.order = D at *
  cases one
  · have hr2 : num (B.take (e.cnt + 5)) < e.T + e.size / 2048 * c := hr.2
    have hlt : D.code < D.size / 2048 * c := by rw [h2]; omega
    rw [if_pos hlt]
    refine ⟨rfl, ?_, ?_, h3, h4⟩
    · exact h1
    · show D.size / 2048 * c = e.size / 2048 * c; rw [h2]
  · have hr1 : e.pend * 4294967296 + (e.low + e.size / 2048 * c) ≤ num (B.take (e.cnt + 5)) := hr.1
    have hT : e.T = e.pend * 4294967296 + e.low := rfl
    have hlt : ¬ D.code < D.size / 2048 * c := by rw [h2]; omega
    rw [if_neg hlt]
    refine ⟨rfl, ?_, ?_, h3, h4⟩
    · show D.code - D.size / 2048 * c + (e.pend * 4294967296 + (e.low + e.size / 2048 * c)) = _
      have h9 : (e.cut c true).cnt = e.cnt := rfl
      rw [h9, h2]
      rw [h2] at hlt
      omega
    · show D.size - D.size / 2048 * c = e.size - e.size / 2048 * c; rw [h2]
theorem Like.one {B : List UInt8} {e f : Enc} {d : Dec} (k : Like B e d.order) (ht : Told B f) (one : Bool) (hsub : Sub (e.half one) f) : d.one.1 = one ∧ Like B (e.half one) d.one.2 := by
  have hr := told_range ht hsub
  have h1 := k.code
  have h2 := k.size
  have h3 := k.rest
  have h4 := k.want
  unfold Dec.one
  simp only
  generalize d.order = D at *
  cases one
  · have hr2 : num (B.take (e.cnt + 5)) < e.T + e.size / 2 := hr.2
    have hlt : D.code < D.size / 2 := by rw [h2]; omega
    rw [if_pos hlt]
    refine ⟨rfl, ?_, ?_, h3, h4⟩
    · exact h1
    · show D.size / 2 = e.size / 2; rw [h2]
  · have hr1 : e.pend * 4294967296 + (e.low + e.size / 2) ≤ num (B.take (e.cnt + 5)) := hr.1
    have hT : e.T = e.pend * 4294967296 + e.low := rfl
    have hlt : ¬ D.code < D.size / 2 := by rw [h2]; omega
    rw [if_neg hlt]
    refine ⟨rfl, ?_, ?_, h3, h4⟩
    · show D.code - D.size / 2 + (e.pend * 4294967296 + (e.low + e.size / 2)) = num (B.take (e.cnt + 5))
      rw [h2]
      rw [h2] at hlt
      omega
    · show D.size / 2 = e.size / 2; rw [h2]
theorem Like.direct {B : List UInt8} {f : Enc} (ht : Told B f) (x : Nat) : ∀ (n x0 : Nat) {e : Enc} {d : Dec}, Like B e d.order → e.Run → e.Good e.size → Sub (Enc.direct x n e) f → n ≤ 32 → x0 < 2 ^ (32 - n) →
    (Dec.direct n x0 d).1 = x0 * 2 ^ n + x % 2 ^ n ∧ Like B (Enc.direct x n e) (Dec.direct n x0 d).2.order
  | 0, x0, e, d, k, hr, hg, hsub, hn, h0 => by
    refine ⟨?_, k⟩
    show x0 = x0 * 2 ^ 0 + x % 2 ^ 0
    rw [Nat.pow_zero, Nat.mod_one]; omega
  | n + 1, x0, e, d, k, hr, hg, hsub, hn, h0 => by
    obtain ⟨b, hb⟩ : ∃ b, (x / 2 ^ n % 2 == 1) = b := ⟨_, rfl⟩
    have hsub' : Sub (Enc.direct x n (e.one b)) f := by rw [← hb]; exact hsub
    obtain ⟨s1, s2, s3⟩ := sub_one hr hg b
    have hr1 := Enc.Run.one hr b
    obtain ⟨s4, s5⟩ := sub_direct x n hr1 s3
    obtain ⟨k1, k2⟩ := k.one ht b (s1.trans (s4.trans hsub'))
    have k3 : Like B (e.one b) d.one.2.order := k2.order ht (good_half hg b) (by have := (hr.half b).s; omega) (s4.trans hsub')
    have hp : 2 ^ (32 - n) = 2 ^ (32 - (n + 1)) * 2 := by rw [← Nat.pow_succ]; congr 1; omega
    have hle : 2 ^ (32 - n) ≤ 2 ^ 32 := Nat.pow_le_pow_right (by decide) (by omega)
    have h32 : (2 : Nat) ^ 32 = 4294967296 := by decide
    have hx0 : x0 * 2 % 4294967296 = x0 * 2 := Nat.mod_eq_of_lt (by omega)
    have hbit : (if d.one.1 then 1 else 0) = x / 2 ^ n % 2 := by
      rw [k1, ← hb]
      rcases Nat.mod_two_eq_zero_or_one (x / 2 ^ n) with h | h <;> rw [h] <;> rfl
    have hb2 := Nat.mod_lt (x / 2 ^ n) (show 2 > 0 by decide)
    have e1 : Dec.direct (n + 1) x0 d = Dec.direct n (x0 * 2 + x / 2 ^ n % 2) d.one.2 := by
      show Dec.direct n (x0 * 2 % 4294967296 + (if d.one.1 then 1 else 0)) d.one.2 = _
      rw [hx0, hbit]
    have e2 : Enc.direct x (n + 1) e = Enc.direct x n (e.one b) := by rw [← hb]; rfl
    obtain ⟨r1, r2⟩ := Like.direct ht x n (x0 * 2 + x / 2 ^ n % 2) k3 hr1 s3 hsub' (by omega) (by omega)
    rw [e1, e2]
    refine ⟨?_, r2⟩
    rw [r1, Nat.mod_pow_succ, Nat.pow_succ, Nat.add_mul, Nat.mul_assoc, Nat.mul_comm 2 (2 ^ n), Nat.mul_comm (x / 2 ^ n % 2)]
    omega
theorem told_head {B : List UInt8} {f : Enc} (ht : Told B f) (hs : Sub newEnc f) : newErr B = 0 ∧ Like B newEnc (newDec B).order := by
  have hl := ht.l
  obtain ⟨hr1, hr2⟩ := told_range ht hs
  have hT : newEnc.T = 0 := rfl
  have hc : newEnc.cnt = 0 := rfl
  have hz : newEnc.size = 4294967295 := rfl
  rw [hT, hc, hz] at hr2
  match B, hl, hr2 with
  | b0 :: b1 :: b2 :: b3 :: b4 :: R, hl, hr2 =>
    have e5 : num ((b0 :: b1 :: b2 :: b3 :: b4 :: R).take (0 + 5)) = (((b0.toNat * 256 + b1.toNat) * 256 + b2.toNat) * 256 + b3.toNat) * 256 + b4.toNat := by
      show b0.toNat * 256 ^ 4 + (b1.toNat * 256 ^ 3 + (b2.toNat * 256 ^ 2 + (b3.toNat * 256 ^ 1 + (b4.toNat * 256 ^ 0 + 0)))) = _
      omega
    rw [e5] at hr2
    have hb0 : b0.toNat = 0 := by omega
    have hb0' : b0 = 0 := UInt8.toNat_inj.1 hb0
    refine ⟨?_, ?_⟩
    · unfold newErr
      rw [if_neg (by simp), if_pos (by rw [hb0']; rfl)]
    · have ho : (newDec (b0 :: b1 :: b2 :: b3 :: b4 :: R)).order = newDec (b0 :: b1 :: b2 :: b3 :: b4 :: R) := if_pos (by show 16777216 ≤ 4294967295; omega)
      rw [ho]
      refine ⟨?_, rfl, rfl, rfl⟩
      rw [hT, hc, e5, hb0]
      show be4 _ + 0 = _
      unfold be4
      simp
theorem told_end {B : List UInt8} {f : Enc} {d : Dec} (ht : Told B f) (k : Like B f d.order) : d.fin = (0, 0) := by
  have h1 := k.code
  have h2 := k.rest
  have h3 := k.want
  have hl := ht.l
  rw [List.take_of_length_le (by omega), ht.n] at h1
  rw [List.drop_of_length_le (by omega)] at h2
  unfold Dec.fin
  rw [h3, h2, if_neg (by simp), if_neg (by omega)]
  rfl
/-- An act's place. -/
def jdx (y : Int) (N : Nat) : Nat := ((y.tmod N + N).tmod N).toNat
/-- An encoder and its chances, behind an act. -/
def estep (x : RAct) (s : Enc × List Nat) : Enc × List Nat :=
  if 0 < x.many then (Enc.direct x.n (count x.many) s.1, s.2)
  else (s.1.bit (fair (s.2.getD (jdx x.at' s.2.length) 0)) (x.n % 2 == 1), s.2.set (jdx x.at' s.2.length) (learn (fair (s.2.getD (jdx x.at' s.2.length) 0)) (x.n % 2 == 1)))
def est (l : List RAct) (pl : List Nat) : Nat → Enc × List Nat
  | 0 => (newEnc, pl)
  | i + 1 => estep (l.getD i default) (est l pl i)
theorem estep_len (x : RAct) (s : Enc × List Nat) : (estep x s).2.length = s.2.length := by
  unfold estep; split
  · rfl
  · exact List.length_set
theorem est_len (l : List RAct) (pl : List Nat) : ∀ i, (est l pl i).2.length = pl.length
  | 0 => rfl
  | i + 1 => by show (estep _ (est l pl i)).2.length = _; rw [estep_len, est_len l pl i]
theorem estep_sub {x : RAct} {s : Enc × List Nat} (hr : s.1.Run) (hg : s.1.Good s.1.size) (hc : s.1.closed = false) : Sub s.1 (estep x s).1 ∧ (estep x s).1.Run ∧ (estep x s).1.Good (estep x s).1.size ∧ (estep x s).1.closed = false ∧ (estep x s).1.cnt ≤ s.1.cnt + 32 := by
  unfold estep; split
  · obtain ⟨a, b⟩ := sub_direct x.n (count x.many) hr hg
    have h1 := Enc.direct_cnt (x := x.n) (n := count x.many) (e := s.1)
    have h2 : count x.many ≤ 32 := by unfold count; omega
    exact ⟨a, hr.direct, b, by rw [Enc.direct_closed]; exact hc, by simp only; omega⟩
  · obtain ⟨a, b, c⟩ := sub_bit hr hg (fair_bd (s.2.getD (jdx x.at' s.2.length) 0)).1 (fair_bd _).2 (x.n % 2 == 1)
    have h1 := Enc.bit_cnt s.1 (fair (s.2.getD (jdx x.at' s.2.length) 0)) (x.n % 2 == 1)
    exact ⟨b, hr.bit (fair_bd _).1 (fair_bd _).2 _, c, by rw [Enc.bit_closed]; exact hc, by simp only; omega⟩
theorem newEnc_good : newEnc.Good newEnc.size := ⟨by show 0 + 4294967295 ≤ 8589934592; omega, fun h => by cases h⟩
theorem est_ok (l : List RAct) (pl : List Nat) : ∀ i, (est l pl i).1.Run ∧ (est l pl i).1.Good (est l pl i).1.size ∧ (est l pl i).1.closed = false ∧ (est l pl i).1.cnt ≤ 32 * i
  | 0 => ⟨newEnc_run, newEnc_good, rfl, Nat.le_refl _⟩
  | i + 1 => by
    obtain ⟨a, b, c, d⟩ := est_ok l pl i
    obtain ⟨_, e1, e2, e3, e4⟩ := estep_sub (x := l.getD i default) a b c
    exact ⟨e1, e2, e3, by show (estep _ (est l pl i)).1.cnt ≤ _; omega⟩
theorem est_sub (l : List RAct) (pl : List Nat) (i : Nat) : ∀ k, Sub (est l pl i).1 (est l pl (i + k)).1
  | 0 => Sub.refl _
  | k + 1 => by
    obtain ⟨a, b, c, d⟩ := est_ok l pl (i + k)
    exact (est_sub l pl i k).trans (estep_sub (x := l.getD (i + k) default) a b c).1
theorem est_told (l : List RAct) (pl : List Nat) (n : Nat) : Told (est l pl n).1.close.out (est l pl n).1 := by
  obtain ⟨a, b, c, d⟩ := est_ok l pl n
  obtain ⟨h1, h2⟩ := close_num (b.less (by have := a.s; omega)) c
  exact ⟨h1, h2, by have := a.s; omega⟩
/-- A bit comes out as it went in. -/
theorem back_bit (l : List RAct) (pl : List Nat) {i n : Nat} (hi : i < n) {d : Dec} (hm : ¬ 0 < (l.getD i default).many)
    (k : Like (est l pl n).1.close.out (est l pl i).1 d.order) :
    (d.bit (fair ((est l pl i).2.getD (jdx (l.getD i default).at' pl.length) 0))).1 = ((l.getD i default).n % 2 == 1) ∧
    Like (est l pl n).1.close.out (est l pl (i + 1)).1 (d.bit (fair ((est l pl i).2.getD (jdx (l.getD i default).at' pl.length) 0))).2.order ∧
    (est l pl (i + 1)).2 = (est l pl i).2.set (jdx (l.getD i default).at' pl.length) (learn (fair ((est l pl i).2.getD (jdx (l.getD i default).at' pl.length) 0)) ((l.getD i default).n % 2 == 1)) ∧
    (est l pl (i + 1)).1 = (est l pl i).1.bit (fair ((est l pl i).2.getD (jdx (l.getD i default).at' pl.length) 0)) ((l.getD i default).n % 2 == 1) := by
  have hs : est l pl (i + 1) = estep (l.getD i default) (est l pl i) := rfl
  have hlen := est_len l pl i
  unfold estep at hs
  rw [if_neg hm, hlen] at hs
  have hsub : Sub (est l pl (i + 1)).1 (est l pl n).1 := by
    have := est_sub l pl (i + 1) (n - (i + 1))
    rwa [show i + 1 + (n - (i + 1)) = n by omega] at this
  obtain ⟨hr, hg, hc, _⟩ := est_ok l pl i
  have ht := est_told l pl n
  generalize est l pl n = F at *
  generalize est l pl (i + 1) = S1 at *
  generalize est l pl i = S at *
  generalize l.getD i default = x at *
  generalize jdx x.at' pl.length = J at *
  have hf := fair_bd (S.2.getD J 0)
  generalize fair (S.2.getD J 0) = c at *
  subst hs
  obtain ⟨s1, s2, s3⟩ := sub_bit hr hg hf.1 hf.2 (x.n % 2 == 1)
  have hb := bound_bd hr.s.1 hf.1 hf.2
  obtain ⟨k1, k2⟩ := k.bit ht (x.n % 2 == 1) (s1.trans hsub) hb.2.2
  exact ⟨k1, k2.order ht (good_cut hr hg hf.1 hf.2 _) (by have := (hr.cut hf.1 hf.2 (x.n % 2 == 1)).s; omega) hsub, rfl, rfl⟩
theorem back_dir (l : List RAct) (pl : List Nat) {i n : Nat} (hi : i < n) {d : Dec} (hm : 0 < (l.getD i default).many)
    (k : Like (est l pl n).1.close.out (est l pl i).1 d.order) :
    (d.direct (count (l.getD i default).many) 0).1 = (l.getD i default).n % 2 ^ count (l.getD i default).many ∧
    Like (est l pl n).1.close.out (est l pl (i + 1)).1 (d.direct (count (l.getD i default).many) 0).2.order ∧
    (est l pl (i + 1)).2 = (est l pl i).2 ∧ (est l pl (i + 1)).1 = Enc.direct (l.getD i default).n (count (l.getD i default).many) (est l pl i).1 := by
  have hs : est l pl (i + 1) = estep (l.getD i default) (est l pl i) := rfl
  unfold estep at hs
  rw [if_pos hm] at hs
  have hsub : Sub (est l pl (i + 1)).1 (est l pl n).1 := by
    have := est_sub l pl (i + 1) (n - (i + 1))
    rwa [show i + 1 + (n - (i + 1)) = n by omega] at this
  obtain ⟨hr, hg, hc, _⟩ := est_ok l pl i
  have ht := est_told l pl n
  generalize est l pl n = F at *
  generalize est l pl (i + 1) = S1 at *
  generalize est l pl i = S at *
  generalize l.getD i default = x at *
  subst hs
  have h2 : count x.many ≤ 32 := by unfold count; omega
  obtain ⟨r1, r2⟩ := Like.direct ht x.n (count x.many) 0 k hr hg hsub h2 (Nat.pow_pos (by decide))
  exact ⟨by rw [r1]; omega, r2, rfl, rfl⟩
theorem back_start (l : List RAct) (pl : List Nat) (n : Nat) : newErr (est l pl n).1.close.out = 0 ∧ Like (est l pl n).1.close.out (est l pl 0).1 (newDec (est l pl n).1.close.out).order := by
  have := est_sub l pl 0 n
  rw [Nat.zero_add] at this
  exact told_head (est_told l pl n) this
end Go.Proofs.Ytefbjamepbkklaa.Rng

/- What an encoder was told, its decoder tells: the coders of ranges. -/
namespace Go.Proofs.Ytefbjamepbkklaa.Lz
open Go.RowKit Rng Win
set_option linter.unusedVariables false
set_option linter.unusedSimpArgs false
/-- The coder that puts bits in. -/
def inC : Cod Enc := ⟨fun e c x => (decide (x ≠ 0), e.bit c (decide (x ≠ 0))), fun e x n => (x % 2 ^ n, Enc.direct x n e)⟩
structure EncI (e : Enc) : Prop where
  r : e.Run
  g : e.Good e.size
  c : e.closed = false
theorem closed_shift (e : Enc) : e.shift.closed = e.closed := by
  unfold Enc.shift
  split <;> rfl
theorem closed_order (e : Enc) : e.order.closed = e.closed := by
  unfold Enc.order
  split
  · exact closed_shift _
  · rfl
theorem closed_bit (e : Enc) (c : Nat) (one : Bool) : (e.bit c one).closed = e.closed := by
  unfold Enc.bit
  rw [closed_order]
  split <;> rfl
theorem closed_direct (x : Nat) : ∀ (n : Nat) (e : Enc), (Enc.direct x n e).closed = e.closed
  | 0, _ => rfl
  | n + 1, e => by
    show (Enc.direct x n (e.one (x / 2 ^ n % 2 == 1))).closed = _
    rw [closed_direct x n]
    unfold Enc.one
    rw [closed_order]
theorem encI_stays : Stays inC EncI :=
  ⟨fun t p x h => ⟨h.r.bit (fair_bd p).1 (fair_bd p).2 _, (sub_bit h.r h.g (fair_bd p).1 (fair_bd p).2 _).2.2, (closed_bit t _ _).trans h.c⟩,
   fun t x n h => ⟨h.r.direct, (sub_direct x n h.r h.g).2, (closed_direct x n t).trans h.c⟩⟩
/-- The decoder of B, where the encoder is. -/
def RD (B : List UInt8) (e : Enc) (d : Dec) : Prop := Like B e d.order
theorem ranges_back {B : List UInt8} {F : Enc} (ht : Rng.Told B F) : Backs inC outC (RD B) EncI (fun e => Sub e F) where
  inv := encI_stays
  back := fun s p x h hs => (sub_bit h.r h.g (fair_bd p).1 (fair_bd p).2 _).2.1.trans hs
  backD := fun s x n h hs => (sub_direct x n h.r h.g).1.trans hs
  two := by
    intro s t p x y h hk hs
    obtain ⟨h1, h2, h3⟩ := sub_bit h.r h.g (fair_bd p).1 (fair_bd p).2 (decide (x ≠ 0))
    have hb := bound_le s.size (fair p) (fair_bd p).2
    obtain ⟨k1, k2⟩ := Like.bit hk ht (decide (x ≠ 0)) (h1.trans hs) hb
    refine ⟨k1.symm, ?_⟩
    have hg := good_cut h.r h.g (fair_bd p).1 (fair_bd p).2 (decide (x ≠ 0))
    have hp := (h.r.cut (fair_bd p).1 (fair_bd p).2 (decide (x ≠ 0)))
    exact k2.order ht hg (by have := hp.s; omega) hs
  twoD := by
    intro s t x y n hn h hk hs
    obtain ⟨k1, k2⟩ := Like.direct ht x n 0 hk h.r h.g hs hn (Nat.two_pow_pos _)
    refine ⟨?_, k2⟩
    show x % 2 ^ n = (t.direct n 0).1
    rw [k1]; omega
/-- At the end nothing is left. -/
theorem told_end {B : List UInt8} {F : Enc} (ht : Rng.Told B F) {d : Dec} (h : RD B F d) : d.fin = (0, 0) := by
  have h1 := h.code
  have h2 := h.rest
  have h3 := h.want
  rw [← ht.l, List.take_of_length_le (Nat.le_refl _), ht.n] at h1
  rw [← ht.l, List.drop_of_length_le (Nat.le_refl _)] at h2
  unfold Dec.fin
  rw [if_neg (by rw [h3]; decide), if_neg (by omega), h2]
  rfl
theorem told_close {F : Enc} (h : EncI F) : Rng.Told F.close.out F := by
  obtain ⟨h1, h2⟩ := close_num (h.g.less (by have := h.r.s; omega)) h.c
  exact ⟨h1, h2, by have := h.r.s; omega⟩
theorem encI_new : EncI newEnc := ⟨newEnc_run, by unfold Enc.Good; exact ⟨by decide, fun h => by cases h⟩, rfl⟩
end Go.Proofs.Ytefbjamepbkklaa.Lz

/- Bytes as they are, put in by the document's coder, are read as they are: plain. -/
namespace Go.Proofs.Ytefbjamepbkklaa
open Go.RowKit Rng Win Lz
set_option linter.unusedVariables false
set_option linter.unusedSimpArgs false
theorem bitIn_val (i x : Nat) (s : CP Enc) (h : x ≤ 1) : (bitAt inC i x s).1 = x := by
  unfold bitAt inC b2n
  simp only
  by_cases h0 : x = 0
  · subst h0; rfl
  · obtain rfl : x = 1 := by omega
    rfl
theorem treeIn_val (base x : Nat) : ∀ (n m : Nat) (s : CP Enc), (treeGo inC base x n m s).1 = m * 2 ^ n + x % 2 ^ n
  | 0, m, s => by
    show m = m * 2 ^ 0 + x % 2 ^ 0
    rw [Nat.pow_zero, Nat.mod_one]; omega
  | n + 1, m, s => by
    unfold treeGo
    have hb : x / 2 ^ n % 2 ≤ 1 := by have := Nat.mod_lt (x / 2 ^ n) (show 2 > 0 by decide); omega
    rw [treeIn_val base x n, bitIn_val _ _ _ hb, Nat.mod_pow_succ, Nat.pow_succ, Nat.add_mul, Nat.mul_assoc 2 m, Nat.mul_comm (x / 2 ^ n % 2)]
    have e : m * (2 ^ n * 2) = 2 * (m * 2 ^ n) := by rw [← Nat.mul_assoc, Nat.mul_comm]
    rw [e]
    omega
theorem litIn_val (lc lp total ahead far : Nat) (x : UInt8) (s : CP Enc) : (litAt inC lc lp 0 total ahead far x.toNat s).1 = x.toNat := by
  have hx := x.toNat_lt
  unfold litAt
  simp only
  rw [if_neg (by omega), treeIn_val]
  omega
theorem litAt_far {σ : Type} (co : Cod σ) (lc lp total ahead far x : Nat) (s : CP σ) : litAt co lc lp 0 total ahead far x s = litAt co lc lp 0 total ahead 0 x s := by
  unfold litAt
  simp only
  rw [if_neg (by omega), if_neg (by omega)]
/-- Bytes as they are, put in. -/
def encAll : List UInt8 → Nat → Nat → CP Enc → CP Enc
  | [], _, _, s => s
  | x :: l, i, ah, s => encAll l (i + 1) x.toNat (litAt inC 3 0 0 i ah 0 x.toNat (bitAt inC (8 + i % 4) 0 s).2).2
theorem stays_encAll {β : Enc → Prop} (K : Stays inC β) : ∀ (l : List UInt8) (i ah : Nat) {s : CP Enc}, β s.d → β (encAll l i ah s).d
  | [], _, _, _, h => h
  | x :: l, i, ah, s, h => stays_encAll K l (i + 1) x.toNat (stays_litAt K _ _ _ _ _ _ _ (stays_bitAt K _ _ h))
def endE (bs : List UInt8) : Enc := (encAll bs 0 0 ⟨newEnc, fun _ => 1024⟩).d
/-- The chunk of bytes as they are. -/
def madeB (bs : List UInt8) : List UInt8 := (endE bs).close.out
theorem endE_ok (bs : List UInt8) : EncI (endE bs) := stays_encAll encI_stays bs 0 0 encI_new
theorem endE_sub (bs : List UInt8) : Sub newEnc (endE bs) := by
  have ht := told_close (endE_ok bs)
  exact (stays_encAll (since_stays (ranges_back ht) newEnc) bs 0 0 (Since.refl encI_new)).2 (Sub.refl _)
def ahOf (told : List UInt8) : Nat := if 0 < told.length then (atB (lastN 1 told) 1).toNat else 0
theorem ahOf_snoc (told : List UInt8) (c : UInt8) : ahOf (told ++ [c]) = c.toNat := by
  unfold ahOf
  rw [if_pos (by simp)]
  have e : lastN 1 (told ++ [c]) = [c] := by
    unfold lastN
    rw [List.length_append]
    simp
  rw [e]
  rfl
set_option maxRecDepth 100000 in
theorem plain_go {B : List UInt8} {F : Enc} (ht : Rng.Told B F) : ∀ (l told : List UInt8) (f : Nat) (s : CP Enc) (x : RS), EncI s.d → Pair (RD B) s x.s → x.st = 0 → x.rep = (fun _ => 0) → x.C = lastN 1 told → l.length < f → (encAll l told.length (ahOf told) s).d = F →
    ∃ y, chunkGo (newK 0 0) 1 0 (told ++ l).length f told x = some (told ++ l, y) ∧ RD B F y.s.d
  | _, _, 0, _, _, _, _, _, _, _, hf, _ => absurd hf (by omega)
  | [], told, f + 1, s, x, hI, hp, hst, hrep, hC, hf, hF => by
    unfold chunkGo
    rw [List.append_nil, if_pos (Nat.le_refl _)]
    have hF' : s.d = F := hF
    exact ⟨x, rfl, hF' ▸ hp.1⟩
  | c :: l, told, f + 1, s, x, hI, hp, hst, hrep, hC, hf, hF => by
    obtain ⟨xst, xrep, xs, xC⟩ := x
    simp only at hst hrep hC hp
    subst hst; subst hrep; subst hC
    have K := ranges_back ht
    have hI1 := stays_bitAt K.inv (8 + told.length % 4) 0 hI
    have hI2 := stays_litAt K.inv 3 0 0 told.length (ahOf told) 0 c.toNat hI1
    have hF' : (encAll l (told.length + 1) c.toNat (litAt inC 3 0 0 told.length (ahOf told) 0 c.toNat (bitAt inC (8 + told.length % 4) 0 s).2).2).d = F := hF
    have hg2 : Sub (litAt inC 3 0 0 told.length (ahOf told) 0 c.toNat (bitAt inC (8 + told.length % 4) 0 s).2).2.d F := by
      have h := (stays_encAll (since_stays K (litAt inC 3 0 0 told.length (ahOf told) 0 c.toNat (bitAt inC (8 + told.length % 4) 0 s).2).2.d) l (told.length + 1) c.toNat (Since.refl hI2)).2
      exact h (by rw [hF']; exact Sub.refl _)
    have hg1 : Sub (bitAt inC (8 + told.length % 4) 0 s).2.d F := (stays_litAt (since_stays K (bitAt inC (8 + told.length % 4) 0 s).2.d) 3 0 0 told.length (ahOf told) 0 c.toNat (Since.refl hI1)).2 hg2
    obtain ⟨b1, b2⟩ := back_bitAt K (8 + told.length % 4) 0 0 hI hp hg1
    obtain ⟨l1, l2⟩ := back_litAt K 3 0 0 told.length (ahOf told) 0 c.toNat 0 hI1 b2 hg2
    rw [bitIn_val _ _ _ (by omega)] at b1
    rw [litIn_val] at l1
    have hlen : (told ++ c :: l).length = told.length + l.length + 1 := by rw [List.length_append, List.length_cons]; omega
    have hs : stepOf (newK 0 0) 1 (0 + told.length) ((told ++ c :: l).length - told.length) ⟨0, fun _ => 0, xs, lastN 1 told⟩ = some ([c], ⟨0, fun _ => 0, (litAt outC 3 0 0 told.length (ahOf told) 0 0 (bitAt outC (8 + told.length % 4) 0 xs).2).2, lastN 1 (told ++ [c])⟩) := by
      unfold stepOf
      have e1 : 8 + 0 * 16 + (0 + told.length) % 2 ^ (newK 0 0).pb = 8 + told.length % 4 := by
        show 8 + 0 * 16 + (0 + told.length) % 2 ^ 2 = _
        rw [Nat.zero_mul, Nat.add_zero, Nat.zero_add]
      simp only
      rw [e1, ← b1, if_pos rfl]
      have e2 : litOf outC (newK 0 0) 0 (0 + told.length) (fun _ => 0) (lastN 1 told) (bitAt outC (8 + told.length % 4) 0 xs).2 = litAt outC 3 0 0 told.length (ahOf told) 0 0 (bitAt outC (8 + told.length % 4) 0 xs).2 := by
        unfold litOf ahOf
        rw [litAt_far, Nat.zero_add]
        rfl
      rw [e2, ← l1, UInt8.ofNat_toNat, lastN_lastN]
      rfl
    unfold chunkGo
    rw [if_neg (by omega), hs]
    simp only
    have hF2 : (encAll l (told ++ [c]).length (ahOf (told ++ [c])) (litAt inC 3 0 0 told.length (ahOf told) 0 c.toNat (bitAt inC (8 + told.length % 4) 0 s).2).2).d = F := by
      rw [ahOf_snoc, List.length_append]
      exact hF'
    have h := plain_go ht l (told ++ [c]) f _ ⟨0, fun _ => 0, (litAt outC 3 0 0 told.length (ahOf told) 0 0 (bitAt outC (8 + told.length % 4) 0 xs).2).2, lastN 1 (told ++ [c])⟩ hI2 l2 rfl rfl rfl (by simp only [List.length_cons] at hf; omega) hF2
    rw [List.append_assoc] at h
    exact h
theorem plain_made (bs : List UInt8) : ∃ y, chunkOf (newK 0 0) 1 0 bs.length 0 (fun _ => 0) (fun _ => 1024) [] (madeB bs) = some (bs, y) := by
  have ht := told_close (endE_ok bs)
  obtain ⟨h1, h2⟩ := told_head ht (endE_sub bs)
  unfold chunkOf
  have e0 : totOf 0 = 0 := rfl
  have h1' : ¬ newErr (madeB bs) ≠ 0 := fun h => h h1
  rw [if_neg h1', e0]
  obtain ⟨y, h3, h4⟩ := plain_go ht bs [] (bs.length + 1) ⟨newEnc, fun _ => 1024⟩ ⟨0, fun _ => 0, ⟨newDec (madeB bs), fun _ => 1024⟩, []⟩ encI_new ⟨h2, rfl⟩ rfl rfl rfl (by omega) rfl
  rw [List.nil_append] at h3
  rw [h3]
  simp only
  rw [if_pos (Lz.told_end ht h4)]
  exact ⟨y, rfl⟩
theorem cnt_treeIn (base x : Nat) : ∀ (n m : Nat) (s : CP Enc), (treeGo inC base x n m s).2.d.cnt ≤ s.d.cnt + n
  | 0, m, s => Nat.le_refl _
  | n + 1, m, s => by
    unfold treeGo
    have h1 := cnt_treeIn base x n (2 * m + (bitAt inC (base + m) (x / 2 ^ n % 2) s).1) (bitAt inC (base + m) (x / 2 ^ n % 2) s).2
    have h2 : (bitAt inC (base + m) (x / 2 ^ n % 2) s).2.d.cnt ≤ s.d.cnt + 1 := Enc.bit_cnt _ _ _
    omega
set_option maxRecDepth 100000 in
theorem cnt_all : ∀ (l : List UInt8) (i ah : Nat) (s : CP Enc), (encAll l i ah s).d.cnt ≤ s.d.cnt + 9 * l.length
  | [], _, _, s => Nat.le_add_right _ _
  | x :: l, i, ah, s => by
    have h1 := cnt_all l (i + 1) x.toNat (litAt inC 3 0 0 i ah 0 x.toNat (bitAt inC (8 + i % 4) 0 s).2).2
    have h2 : (bitAt inC (8 + i % 4) 0 s).2.d.cnt ≤ s.d.cnt + 1 := Enc.bit_cnt _ _ _
    have h3 : (litAt inC 3 0 0 i ah 0 x.toNat (bitAt inC (8 + i % 4) 0 s).2).2.d.cnt ≤ (bitAt inC (8 + i % 4) 0 s).2.d.cnt + 8 := cnt_treeIn _ _ 8 1 _
    have h4 : (encAll (x :: l) i ah s).d.cnt = (encAll l (i + 1) x.toNat (litAt inC 3 0 0 i ah 0 x.toNat (bitAt inC (8 + i % 4) 0 s).2).2).d.cnt := rfl
    rw [h4, List.length_cons]
    omega
theorem madeB_len (bs : List UInt8) : (madeB bs).length ≤ 9 * bs.length + 5 := by
  have h := (told_close (endE_ok bs)).l
  have h2 : (endE bs).cnt ≤ newEnc.cnt + 9 * bs.length := cnt_all bs 0 0 ⟨newEnc, fun _ => 1024⟩
  have h3 : newEnc.cnt = 0 := rfl
  unfold madeB
  omega
end Go.Proofs.Ytefbjamepbkklaa

/- The coder that puts bits in, as the model meets it: a bit, a tree, a tree backwards. -/
namespace Go.Proofs.Ytefbjamepbkklaa
open Go.RowKit Rng Lz
set_option linter.unusedVariables false
set_option linter.unusedSimpArgs false
theorem nil_in (v : Value) (w : World) : (nilAhead 294 86 v "Bit").run Try.prog w = .ok (some false) w := by kernel_rfl
theorem meth_inbit (v : Value) (w : World) : (method 294 86 v "Bit").run Try.prog w = .ok (35, v) w := by kernel_rfl
theorem meth_indir (v : Value) (w : World) : (method 294 86 v "Direct").run Try.prog w = .ok (99, v) w := by kernel_rfl
/-- Where the encoder lies; O: the blocks that are its own: its bytes' one, and all that will come. -/
def IC (b : Nat) (O : Nat → Prop) (w : World) (e : Enc) : Prop := (∃ v, EncAt w 111 0 b 0 v e ∧ ∀ q, v.ownBlock = some q → O q) ∧ O b ∧ (∀ q, w.heap.size ≤ q → O q) ∧ EncI e
def inV (b : Nat) : Value := .agg #[.pointer (some ⟨b, 0, none⟩)]
theorem IC.keep (b : Nat) (O : Nat → Prop) : KeepOK (IC b O) O := by
  intro N w w' s h hf hN
  obtain ⟨⟨v, hv, hvo⟩, hb, hz, hi⟩ := h
  exact ⟨⟨v, ⟨hv.p.frm hf (hN b hb), hv.o.frm hf (fun q hq => hN q (hvo q hq)), hv.k⟩, hvo⟩, hb, fun q hq => hz q (Nat.le_trans hf.size hq), hi⟩
theorem IC.moved {b : Nat} {O : Nat → Prop} {w w' : World} {e : Enc} {v v' : Value} (hz : ∀ q, w.heap.size ≤ q → O q) (hvo : ∀ q, v.ownBlock = some q → O q) (hb : O b) (hs : w.heap.size ≤ w'.heap.size) (h : EncAt w' 111 0 b 0 v' e) (hm : ∀ q, v'.ownBlock = some q → v.ownBlock = some q ∨ w.heap.size ≤ q) (hi : EncI e) : IC b O w' e :=
  ⟨⟨v', h, fun q hq => by rcases hm q hq with e | e; exact hvo q e; exact hz q e⟩, hb, fun q hq => hz q (Nat.le_trans hs hq), hi⟩
theorem Moved.cases {w : World} {v u : Value} (h : Moved w v u) (q : Nat) (hq : u.ownBlock = some q) : v.ownBlock = some q ∨ w.heap.size ≤ q := by
  rcases h with e | ⟨g, e, hg⟩
  · exact .inl (e ▸ hq)
  · rw [e] at hq; injection hq with hq; exact .inr (hq ▸ hg)
theorem LzAt.coder2 {σ : Type} {CA : World → σ → Prop} {own : Nat → Prop} {T : TypeId} {w w' : World} {k : LK} {st : Nat} {rep : Nat → Nat} {s : CP σ} {d : σ} (h : LzAt CA own T w k st rep s) (hc : CA w' d) (hf : Frm own w w') : LzAt CA own T w' k st rep ⟨d, s.pr⟩ ∧ Frm (Wr own k) w w' :=
  ⟨⟨hc, h.m.frm hf h.ne.1, h.l.frm hf h.ne.2.1, h.fit, h.ne⟩, hf.mono fun q _ e => .inl e⟩
theorem ibit_lz {b : Nat} {O : Nat → Prop} {T : TypeId} {w : World} {k : LK} {st : Nat} {rep : Nat → Nat} {s : CP Enc} (h : LzAt (IC b O) O T w k st rep s) (hc : s.d.cnt < 1000000) (i tb tq x : Nat) (xi : Int) (hx : xi = (x : Int)) (hx1 : x ≤ 1) (hp : Place k i) (he : plA k i = (tb, tq)) :
    Calls Try.prog 35 #[inV b, .pointer (some ⟨tb, tq, none⟩), .int .i64 xi] w fun e w' => e = .returned (.int .i64 (x : Nat)) ∧ LzAt (IC b O) O T w' k st rep (bitAt inC i x s).2 ∧ Frm (Wr O k) w w' := by
  subst hx
  have hcell := h.cell hp he
  obtain ⟨⟨v, hv, hvo⟩, hob, hoz, hI⟩ := h.c
  have hntb : ¬ (tb = b) := fun e => hcell.2.2.1 (e ▸ hob)
  have hnb : v.ownBlock ≠ some tb := fun e => hcell.2.2.1 (hvo tb e)
  have hlt := hcell.2.2.2.2
  have H := Lib.hid h
  have HCELL := Lib.hid hcell
  have HV := Lib.hid hv
  have HI := Lib.hid hI
  have HPL := Lib.hid (And.intro hp he)
  have HO := Lib.hid (And.intro hvo (And.intro hob hoz))
  have HNB := Lib.hid hnb
  clear h hcell hv hI hp he hvo hob hoz hnb
  unfold inV
  go_enter Try.func35, Try.ntmps35
  go_wp2_with fail
  obtain ⟨X, hX⟩ : ∃ X, Obj.cells #[.pointer (some ⟨b, 0, none⟩)] 86 = X := ⟨_, rfl⟩
  rw [hX]
  have hfr := (Frm.refl (fun _ => False) w).alloc X
  have hbl := hfr.block tb hlt id
  have hv2 : EncAt (w.alloc X) 111 0 b 0 v s.d := ⟨HV.out.p.alloc _, HV.out.o.alloc _, HV.out.k⟩
  refine (ebit_p b 0 tb tq (s.pr i) x (decide (x ≠ 0)) v s.d (w.alloc X) hv2 (Nat.zero_le _) hc HI.out.r HI.out.c (by rw [World.cell?_of_block hbl]; exact HCELL.out.1) (by rw [World.frozen?_of_block hbl]; exact HCELL.out.2.1) hntb HNB.out (H.out.fit i) (by
    by_cases h0 : x = 0
    · subst h0; rfl
    · rw [decide_eq_true h0, decide_eq_true (by omega)])).mono ?_
  rintro e w' ⟨v', rfl, h1, h2, h3⟩
  have hf : Frm O (w.setCell ⟨tb, tq, none⟩ (.int .u16 (learn (fair (s.pr i)) (decide (x ≠ 0))))) w' := by
    refine (((Frm.refl O w).alloc X).setBoth HCELL.out.2.2.1 hlt _).trans (h2.mono fun q _ hq => ?_)
    rcases hq with e | e
    · rw [e]; exact HO.out.2.1
    · exact HO.out.1 q e
  have hsz : (w.setCell ⟨tb, tq, none⟩ (.int .u16 (learn (fair (s.pr i)) (decide (x ≠ 0))))).heap.size = w.heap.size := by show (w.heap.modify _ _).size = _; simp
  have hI2 : EncI (s.d.bit (fair (s.pr i)) (decide (x ≠ 0))) := encI_stays.bit s.d (s.pr i) x HI.out
  have hl := H.out.learnt (d := s.d.bit (fair (s.pr i)) (decide (x ≠ 0))) HPL.out.1 HPL.out.2 (Nat.lt_of_le_of_lt (learn_bd (fair_bd (s.pr i)).2 _) (by omega)) (w' := w') (IC.moved HO.out.2.2 HO.out.1 HO.out.2.1 (hsz ▸ hf.size) h1 (fun q hq => by
    rcases h3.cases q hq with e | e
    · exact .inl e
    · exact .inr (Nat.le_trans hfr.size e)) hI2) hf
  have HL := Lib.hid hl
  clear h1 h2 h3 hX hfr hbl hv2 hf hsz hI2 hl
  go_wp2
  go_ret
  exact ⟨rfl, HL.out.1, HL.out.2⟩
end Go.Proofs.Ytefbjamepbkklaa

/- Trees that bits are put into: the walks. -/
namespace Go.Proofs.Ytefbjamepbkklaa
open Go.RowKit Rng Lz
set_option linter.unusedVariables false
set_option linter.unusedSimpArgs false
theorem cnt_bitIn1 (i x : Nat) (s : CP Enc) : (bitAt inC i x s).2.d.cnt ≤ s.d.cnt + 1 := Enc.bit_cnt _ _ _
theorem cnt_backIn (base x n : Nat) : ∀ (r m o : Nat) (s : CP Enc), (backGo inC base x n r m o s).2.d.cnt ≤ s.d.cnt + r
  | 0, _, _, s => Nat.le_refl _
  | r + 1, m, o, s => by
    unfold backGo
    have h1 := cnt_backIn base x n r (2 * m + (bitAt inC (base + m) (x / 2 ^ (n - (r + 1)) % 2) s).1) (o + (bitAt inC (base + m) (x / 2 ^ (n - (r + 1)) % 2) s).1 * 2 ^ (n - (r + 1))) (bitAt inC (base + m) (x / 2 ^ (n - (r + 1)) % 2) s).2
    have h2 := cnt_bitIn1 (base + m) (x / 2 ^ (n - (r + 1)) % 2) s
    omega
set_option maxRecDepth 100000 in
set_option maxHeartbeats 1000000 in
theorem tree_in (b : Nat) (O : Nat → Prop) (T : TypeId) (k : LK) (st : Nat) (rep : Nat → Nat) (s : CP Enc) (tb tq base n len cap x : Nat) (w : World) (h : LzAt (IC b O) O T w k st rep s) (hn : n ≤ 8) (hlen : 2 ^ n ≤ len) (hlc : len ≤ cap) (hx : x < 4294967296) (hc : s.d.cnt + n < 1000000)
    (hpl : ∀ j, 1 ≤ j → j < 2 ^ n → Place k (base + j) ∧ plA k (base + j) = (tb, tq + j)) :
    Calls Try.prog 53 #[.slice (some ⟨tb, tq, none⟩) len cap, .iface 86 (inV b), .int .i64 x, .int .i64 n] w fun e w' => e = .returned (.int .i64 ((treeAt inC base n x s).1 : Nat)) ∧
      LzAt (IC b O) O T w' k st rep (treeAt inC base n x s).2 ∧ Frm (Wr O k) w w' := by
  obtain ⟨R, hR⟩ : ∃ R, treeGo inC base x n 1 s = R := ⟨_, rfl⟩
  unfold treeAt
  rw [hR]
  have HZ := Lib.hid h
  have HR := Lib.hid hR
  have HPL := Lib.hid hpl
  have HCN := Lib.hid hc
  clear h hR hpl hc
  go_enter Try.func53, Try.ntmps53
  go_wp2
  go_loopw [9, 10] (fun mv iv wr => ∃ (r m : Nat) (i : Int) (s' : CP Enc), mv = .int .i64 m ∧ iv = .int .i64 i ∧ i = (r : Int) - 1 ∧ r ≤ n ∧ 2 ^ (n - r) ≤ m ∧ m < 2 ^ (n - r + 1) ∧ treeGo inC base x r m s' = R ∧ LzAt (IC b O) O T wr k st rep s' ∧ s'.d.cnt + r < 1000000 ∧ Frm (Wr O k) w wr) (fun _ iv _ => (intOf iv + 1).toNat)
  case atStart => exact ⟨n, 1, (n : Int) - 1, s, rfl, by go_num, rfl, Nat.le_refl _, by simp, by simp, HR.out, HZ.out, HCN.out, Frm.refl _ _⟩
  case round =>
    obtain ⟨r, m, i, s', rfl, rfl, hi, hr, hm1, hm2, hgo, hat, hcn, hfr⟩ := hrel
    have GO := Lib.hid hgo
    have AT := Lib.hid hat
    have FR := Lib.hid hfr
    have CN := Lib.hid hcn
    clear hgo hat hfr hcn
    cases r with
    | zero =>
      obtain rfl : i = -1 := by omega
      clear hi
      have hn256 : 2 ^ n ≤ 2 ^ 8 := Nat.pow_le_pow_right (by omega) hn
      have hmn : 2 ^ n ≤ m := by simpa using hm1
      have hmm : m < 2 ^ n * 2 := by rw [← Nat.pow_succ]; simpa using hm2
      obtain ⟨N2, hN2⟩ : ∃ N2 : Nat, 2 ^ n = N2 := ⟨_, rfl⟩
      have hN3 : (2 : Int) ^ n = (N2 : Int) := by rw [← hN2]; simp
      rw [hN2] at hmn hmm hn256
      have GO2 : (m, s') = R := GO.out
      clear hm1 hm2
      go_wp2
      go_ret
      rw [hN2, ← GO2]
      refine ⟨ret_int' ?_, AT.out, FR.out⟩
      show (m : Int) - (N2 : Int) = ((m - N2 : Nat) : Int)
      omega
    | succ q =>
      obtain rfl : i = (q : Int) := by omega
      clear hi
      have hpow : m < 2 ^ n := Nat.lt_of_lt_of_le hm2 (Nat.pow_le_pow_right (by omega) (by omega))
      have hml : m < len := by omega
      have hm256 : 2 ^ n ≤ 2 ^ 8 := Nat.pow_le_pow_right (by omega) hn
      have hmb : m < 256 := by omega
      have hpos : 1 ≤ m := Nat.le_trans (Nat.one_le_two_pow) hm1
      have HP := Lib.hid (HPL.out m hpos hpow)
      have HM1 := Lib.hid hm1
      have HM2 := Lib.hid hm2
      have hq64 : min q 64 = q := by omega
      have hqu : IntKind.u64.wrap (q : Int) = (q : Int) := Go.IntWalk.u64_in _ (by omega)
      obtain ⟨Pq, hPq⟩ : ∃ P, 2 ^ q = P := ⟨_, rfl⟩
      have hPi : (2 : Int) ^ q = (Pq : Int) := by rw [← hPq]; simp
      obtain ⟨Y, hY⟩ : ∃ Y, x / Pq = Y := ⟨_, rfl⟩
      have hYi : (x : Int) / (Pq : Int) = (Y : Int) := by rw [← hY]; exact (Int.natCast_ediv x Pq).symm
      have hYb : Y < 4294967296 := by have := Nat.div_le_self x Pq; omega
      obtain ⟨W, hW⟩ : ∃ W, Y % 2 = W := ⟨_, rfl⟩
      have hWi : bits .and .i64 (Y : Int) 1 = (W : Int) := by
        have := and_i64 (a := Y) (b := 1) (by omega) (by omega)
        rw [nat_mask1, hW] at this
        exact this
      have hWb : W ≤ 1 := by omega
      obtain ⟨s2, hs2⟩ : ∃ s2, (bitAt inC (base + m) W s').2 = s2 := ⟨_, rfl⟩
      have hgo : treeGo inC base x q (2 * m + W) s2 = R := by
        have h := GO.out
        unfold treeGo at h
        rw [hPq, hY, hW, bitIn_val _ _ _ hWb, hs2] at h
        exact h
      have hcn : s2.d.cnt + q < 1000000 := by have := cnt_bitIn1 (base + m) W s'; rw [hs2] at this; have := CN.out; omega
      have HGOX := Lib.hid hgo
      have HS2 := Lib.hid hs2
      have HCN2 := Lib.hid hcn
      clear hm1 hm2 hpow hm256 hlen hPq hY hW hs2 hgo hcn
      go_wp2
      have hno := nil_in (inV b)
      have hme := meth_inbit (inV b)
      have ATD := Lib.hid (AT.out.later (IC.keep b O) ((Frm.refl _ wr).drew))
      have hob := or_bit (m := m) (b := W) (by omega) hWb
      have hmw : IntKind.i64.wrap ((m : Int) * 2) = (m : Int) * 2 := Go.IntWalk.i64_in _ (by omega)
      go_region_with (first
        | (go_at_call 35; refine (ibit_lz ATD.out (by have := CN.out; omega) (base + m) tb (tq + m) W W rfl hWb HP.out.1 HP.out.2).mono ?_; rintro e w2 ⟨rfl, h2, f2⟩; rw [HS2.out] at h2))
      all_goals
        have H2 := Lib.hid h2
        have F2 := Lib.hid ((FR.out.drew).trans f2)
        clear h2 f2
        go_wp2
        refine ⟨⟨q, 2 * m + W, (q : Int) - 1, _, rfl, by go_num, rfl, by omega, ?_, ?_, HGOX.out, H2.out, HCN2.out, F2.out⟩, by simp [intOf]⟩
        · have := HM1.out
          rw [show n - q = n - (q + 1) + 1 by omega, Nat.pow_succ]; omega
        · have := HM2.out
          rw [show n - q + 1 = n - (q + 1) + 1 + 1 by omega, Nat.pow_succ]; omega
set_option maxRecDepth 100000 in
set_option maxHeartbeats 1000000 in
theorem back_in (b : Nat) (O : Nat → Prop) (T : TypeId) (k : LK) (st : Nat) (rep : Nat → Nat) (s : CP Enc) (tb tq base n len cap x : Nat) (w : World) (h : LzAt (IC b O) O T w k st rep s) (hn : n ≤ 8) (hlen : 2 ^ n ≤ len) (hlc : len ≤ cap) (hx : x < 4294967296) (hc : s.d.cnt + n < 1000000)
    (hpl : ∀ j, 1 ≤ j → j < 2 ^ n → Place k (base + j) ∧ plA k (base + j) = (tb, tq + j)) :
    Calls Try.prog 55 #[.slice (some ⟨tb, tq, none⟩) len cap, .iface 86 (inV b), .int .i64 x, .int .i64 n] w fun e w' => e = .returned (.int .i64 ((backAt inC base n x s).1 : Nat)) ∧
      LzAt (IC b O) O T w' k st rep (backAt inC base n x s).2 ∧ Frm (Wr O k) w w' := by
  obtain ⟨R, hR⟩ : ∃ R, backGo inC base x n n 1 0 s = R := ⟨_, rfl⟩
  unfold backAt
  rw [hR]
  have HZ := Lib.hid h
  have HR := Lib.hid hR
  have HPL := Lib.hid hpl
  have HCN := Lib.hid hc
  clear h hR hpl hc
  go_enter Try.func55, Try.ntmps55
  go_wp2
  go_loopw [8, 9, 13] (fun ov mv cv wr => ∃ (r m o c : Nat) (s' : CP Enc), ov = .int .i64 o ∧ mv = .int .i64 m ∧ cv = .int .i64 c ∧ c + r = n ∧ 2 ^ c ≤ m ∧ m < 2 ^ (c + 1) ∧ o < 2 ^ c ∧ backGo inC base x n r m o s' = R ∧ LzAt (IC b O) O T wr k st rep s' ∧ s'.d.cnt + r < 1000000 ∧ Frm (Wr O k) w wr) (fun _ _ cv _ => n - (intOf cv).toNat)
  case atStart => exact ⟨n, 1, 0, 0, s, rfl, rfl, rfl, by omega, by simp, by simp, by simp, HR.out, HZ.out, HCN.out, Frm.refl _ _⟩
  case round =>
    obtain ⟨r, m, o, c, s', rfl, rfl, rfl, hcr, hm1, hm2, ho, hgo, hat, hcn, hfr⟩ := hrel
    have GO := Lib.hid hgo
    have AT := Lib.hid hat
    have FR := Lib.hid hfr
    have CN := Lib.hid hcn
    clear hgo hat hfr hcn
    cases r with
    | zero =>
      obtain rfl : c = n := by omega
      have GO2 : (o, s') = R := GO.out
      clear hcr hm1 hm2 ho
      go_wp2
      go_ret
      rw [← GO2]
      exact ⟨rfl, AT.out, FR.out⟩
    | succ q =>
      have hcn : c < n := by omega
      have hpow : m < 2 ^ n := Nat.lt_of_lt_of_le hm2 (Nat.pow_le_pow_right (by omega) (by omega))
      have hml : m < len := by omega
      have hm256 : 2 ^ n ≤ 2 ^ 8 := Nat.pow_le_pow_right (by omega) hn
      have hmb : m < 256 := by omega
      have hpos : 1 ≤ m := Nat.le_trans (Nat.one_le_two_pow) hm1
      have hob0 : o < 256 := by have : 2 ^ c ≤ 2 ^ n := Nat.pow_le_pow_right (by omega) (by omega); omega
      have HP := Lib.hid (HPL.out m hpos hpow)
      have HM1 := Lib.hid hm1
      have HM2 := Lib.hid hm2
      have HO := Lib.hid ho
      have hc2 : 2 ^ c ≤ 2 ^ 8 := Nat.pow_le_pow_right (by omega) (by omega)
      obtain ⟨C2, hC2⟩ : ∃ C2 : Nat, 2 ^ c = C2 := ⟨_, rfl⟩
      have hC3 : (2 : Int) ^ c = (C2 : Int) := by rw [← hC2]; simp
      have HC2 := Lib.hid hC2
      have hc64 : min c 64 = c := by omega
      have hcu : IntKind.u64.wrap (c : Int) = (c : Int) := Go.IntWalk.u64_in _ (by omega)
      obtain ⟨Y, hY⟩ : ∃ Y, x / C2 = Y := ⟨_, rfl⟩
      have hYi : (x : Int) / (C2 : Int) = (Y : Int) := by rw [← hY]; exact (Int.natCast_ediv x C2).symm
      have hYb : Y < 4294967296 := by have := Nat.div_le_self x C2; omega
      obtain ⟨W, hW⟩ : ∃ W, Y % 2 = W := ⟨_, rfl⟩
      have hWi : bits .and .i64 (Y : Int) 1 = (W : Int) := by
        have := and_i64 (a := Y) (b := 1) (by omega) (by omega)
        rw [nat_mask1, hW] at this
        exact this
      have hWb : W ≤ 1 := by omega
      obtain ⟨s2, hs2⟩ : ∃ s2, (bitAt inC (base + m) W s').2 = s2 := ⟨_, rfl⟩
      have hgo : backGo inC base x n q (2 * m + W) (o + W * C2) s2 = R := by
        have h := GO.out
        unfold backGo at h
        rw [show n - (q + 1) = c by omega, hC2, hY, hW, bitIn_val _ _ _ hWb, hs2] at h
        exact h
      have hcnn : s2.d.cnt + q < 1000000 := by have := cnt_bitIn1 (base + m) W s'; rw [hs2] at this; have := CN.out; omega
      have HGOX := Lib.hid hgo
      have HS2 := Lib.hid hs2
      have HCN2 := Lib.hid hcnn
      rw [hC2] at hc2
      have hno := nil_in (inV b)
      have hme := meth_inbit (inV b)
      have ATD := Lib.hid (AT.out.later (IC.keep b O) ((Frm.refl _ wr).drew))
      have hob := or_bit (m := m) (b := W) (by omega) hWb
      have hmw : IntKind.i64.wrap ((m : Int) * 2) = (m : Int) * 2 := Go.IntWalk.i64_in _ (by omega)
      clear hm1 hm2 hpow hm256 hlen ho hC2 hY hW hs2 hgo hcnn
      go_wp2
      go_region_with (first
        | (go_at_call 35; refine (ibit_lz ATD.out (by have := CN.out; omega) (base + m) tb (tq + m) W W rfl hWb HP.out.1 HP.out.2).mono ?_; rintro e w2 ⟨rfl, h2, f2⟩; rw [HS2.out] at h2))
      all_goals
        have H2 := Lib.hid h2
        have F2 := Lib.hid ((FR.out.drew).trans f2)
        clear h2 f2
        go_wp2
        have ho9 := HO.out
        rw [HC2.out] at ho9
        have hv := or_hi_lz HC2.out ho9 hc2 hWb
        refine ⟨⟨q, 2 * m + W, o + W * C2, c + 1, _, by rw [hv], by go_num, by go_num, by omega, ?_, ?_, ?_, HGOX.out, H2.out, HCN2.out, F2.out⟩, by simp [intOf]; omega⟩
        · have := HM1.out
          rw [Nat.pow_succ]; omega
        · have := HM2.out
          rw [Nat.pow_succ]; omega
        · have h1 : W * C2 ≤ C2 := by
            have h : W = 0 ∨ W = 1 := by omega
            rcases h with rfl | rfl <;> omega
          rw [Nat.pow_succ, HC2.out]; omega
end Go.Proofs.Ytefbjamepbkklaa

/- Slots of distances, in plain Lean; what the coder that puts bits in tells. -/
namespace Go.Proofs.Ytefbjamepbkklaa
open Go.RowKit Rng Win Lz
set_option linter.unusedVariables false
set_option linter.unusedSimpArgs false
theorem slot_parts {d : Nat} (h4 : 4 ≤ d) (h : d < 4294967296) : ∃ L c, Nat.log2 d = L + 1 ∧ 1 ≤ L ∧ L ≤ 30 ∧ d / 2 ^ L = c ∧ 2 ≤ c ∧ c ≤ 3 ∧ slotOf d = 2 * (L + 1) + c % 2 ∧ c * 2 ^ L ≤ d ∧ d < c * 2 ^ L + 2 ^ L := by
  have hd0 : d ≠ 0 := by omega
  have h1 := Nat.log2_self_le hd0
  have h2 := Nat.lt_log2_self (n := d)
  have hl2 : 2 ≤ Nat.log2 d := (Nat.le_log2 hd0).2 (by show 2 ^ 2 ≤ d; omega)
  have hl31 : Nat.log2 d < 32 := (Nat.log2_lt hd0).2 (by show d < 2 ^ 32; omega)
  obtain ⟨L, hL⟩ : ∃ L, Nat.log2 d = L + 1 := ⟨Nat.log2 d - 1, by omega⟩
  have hp : 0 < 2 ^ L := Nat.two_pow_pos L
  rw [hL] at h1 h2
  rw [Nat.pow_succ] at h1
  rw [Nat.pow_succ, Nat.pow_succ] at h2
  have c2 : 2 ≤ d / 2 ^ L := (Nat.le_div_iff_mul_le hp).2 (by omega)
  have c3 : d / 2 ^ L < 4 := (Nat.div_lt_iff_lt_mul hp).2 (by omega)
  have hm := Nat.div_add_mod d (2 ^ L)
  have hml := Nat.mod_lt d hp
  refine ⟨L, d / 2 ^ L, hL, by omega, by omega, rfl, c2, by omega, ?_, ?_, ?_⟩
  · unfold slotOf
    rw [if_neg (by omega), hL]
    rfl
  · rw [Nat.mul_comm]; omega
  · rw [Nat.mul_comm]; omega
theorem slot_lt {d : Nat} (h : d < 4294967296) : slotOf d < 64 := by
  by_cases h4 : d < 4
  · unfold slotOf; rw [if_pos h4]; omega
  · obtain ⟨L, c, -, h1, h2, -, h3, h4, h5, -, -⟩ := slot_parts (d := d) (by omega) h
    rw [h5]; omega
/-- What is behind a distance's slot. -/
theorem slot_base {d : Nat} (h4 : 4 ≤ d) (h : d < 4294967296) : 4 ≤ slotOf d ∧ (2 + slotOf d % 2) * 2 ^ (slotOf d / 2 - 1) ≤ d ∧ d < (2 + slotOf d % 2) * 2 ^ (slotOf d / 2 - 1) + 2 ^ (slotOf d / 2 - 1) := by
  obtain ⟨L, c, -, h1, h2, h3, h5, h6, h7, h8, h9⟩ := slot_parts h4 h
  have e1 : slotOf d / 2 - 1 = L := by rw [h7]; omega
  have e2 : 2 + slotOf d % 2 = c := by rw [h7]; omega
  rw [e1, e2]
  exact ⟨by rw [h7]; omega, h8, h9⟩
theorem treeAt_in (base n x : Nat) (s : CP Enc) (h : x < 2 ^ n) : (treeAt inC base n x s).1 = x := by
  unfold treeAt
  simp only
  rw [treeIn_val, Nat.one_mul, Nat.mod_eq_of_lt h]
  omega
theorem backGo_in (base x n : Nat) : ∀ (r m o : Nat) (s : CP Enc), r ≤ n → o = x % 2 ^ (n - r) → (backGo inC base x n r m o s).1 = x % 2 ^ n
  | 0, m, o, s, _, h => by simpa [backGo] using h
  | r + 1, m, o, s, hr, h => by
    unfold backGo
    have hb : x / 2 ^ (n - (r + 1)) % 2 ≤ 1 := by have := Nat.mod_lt (x / 2 ^ (n - (r + 1))) (show 2 > 0 by decide); omega
    refine backGo_in base x n r _ _ _ (by omega) ?_
    rw [bitIn_val _ _ _ hb, h, show n - r = n - (r + 1) + 1 by omega, Nat.mod_pow_succ, Nat.mul_comm (x / 2 ^ (n - (r + 1)) % 2)]
theorem backAt_in (base n x : Nat) (s : CP Enc) (h : x < 2 ^ n) : (backAt inC base n x s).1 = x := by
  unfold backAt
  rw [backGo_in base x n n 1 0 s (Nat.le_refl _) (by rw [Nat.sub_self, Nat.pow_zero, Nat.mod_one]), Nat.mod_eq_of_lt h]
set_option maxRecDepth 100000 in
theorem lenAt_in (base n p : Nat) (s : CP Enc) (h2 : 2 ≤ n) (h : n ≤ 273) : (lenAt inC base n p s).1 = n := by
  unfold lenAt
  simp only
  have hb : ∀ (q : Bool), b2n q ≤ 1 := by intro q; cases q <;> decide
  rw [bitIn_val _ _ _ (hb _), bitIn_val _ _ _ (hb _)]
  by_cases h10 : 10 ≤ n
  · rw [show b2n (decide (10 ≤ n)) = 1 by rw [decide_eq_true h10]; rfl, if_neg (by omega)]
    by_cases h18 : 18 ≤ n
    · rw [show b2n (decide (18 ≤ n)) = 1 by rw [decide_eq_true h18]; rfl, if_neg (by omega)]
      simp only
      rw [treeAt_in _ _ _ _ (by omega)]
      omega
    · rw [show b2n (decide (18 ≤ n)) = 0 by rw [decide_eq_false h18]; rfl, if_pos rfl]
      simp only
      rw [treeAt_in _ _ _ _ (by omega)]
      omega
  · rw [show b2n (decide (10 ≤ n)) = 0 by rw [decide_eq_false h10]; rfl, if_pos rfl]
    simp only
    rw [treeAt_in _ _ _ _ (by omega)]
    omega
theorem distAt_in (d size : Nat) (s : CP Enc) (h : d < 4294967296) : (distAt inC d size s).1 = d := by
  unfold distAt
  simp only
  rw [treeAt_in _ _ _ _ (slot_lt h)]
  by_cases h4 : d < 4
  · have e : slotOf d = d := by unfold slotOf; rw [if_pos h4]
    rw [e, if_pos h4]
  · obtain ⟨b1, b2, b3⟩ := slot_base (d := d) (by omega) h
    rw [if_neg (by omega)]
    generalize ht : slotOf d = t at *
    generalize hB : (2 + t % 2) * 2 ^ (t / 2 - 1) = B at *
    by_cases h14 : t < 14
    · rw [if_pos h14]
      simp only
      rw [backAt_in _ _ _ _ (by omega)]
      omega
    · rw [if_neg h14]
      simp only
      rw [backAt_in _ _ _ _ (by omega)]
      obtain ⟨P, hP⟩ : ∃ P, t / 2 - 1 - 4 = P := ⟨_, rfl⟩
      have e1 : t / 2 - 1 = P + 4 := by omega
      have hv : (inC.dir (treeAt inC (440 + (min size 5 - 2) * 64) 6 t s).2.d ((d - B) / 16) (t / 2 - 1 - 4)).1 = (d - B) / 16 := by
        show (d - B) / 16 % 2 ^ (t / 2 - 1 - 4) = _
        rw [hP]
        refine Nat.mod_eq_of_lt ?_
        rw [e1, Nat.pow_add] at b3
        have : (2 : Nat) ^ 4 = 16 := by decide
        rw [this] at b3
        generalize 2 ^ P = Q at *
        omega
      rw [hv]
      have e2 : B % 16 = 0 := by
        rw [← hB, e1, Nat.pow_add]
        have : (2 : Nat) ^ 4 = 16 := by decide
        rw [this, ← Nat.mul_assoc, Nat.mul_mod_left]
      rw [Nat.mod_eq_of_lt (by omega)]
      omega
theorem farIn_val (base x far : Nat) : ∀ (n m : Nat) (s : CP Enc), (farGo inC base x far n m s).1 = m * 2 ^ n + x % 2 ^ n
  | 0, m, s => by
    show m = m * 2 ^ 0 + x % 2 ^ 0
    rw [Nat.pow_zero, Nat.mod_one]; omega
  | n + 1, m, s => by
    unfold farGo
    simp only
    have hb : x / 2 ^ n % 2 ≤ 1 := by have := Nat.mod_lt (x / 2 ^ n) (show 2 > 0 by decide); omega
    have e : (2 * m + x / 2 ^ n % 2) * 2 ^ n + x % 2 ^ n = m * 2 ^ (n + 1) + x % 2 ^ (n + 1) := by
      rw [Nat.mod_pow_succ, Nat.pow_succ, Nat.add_mul, Nat.mul_assoc 2 m, Nat.mul_comm (x / 2 ^ n % 2)]
      have e : m * (2 ^ n * 2) = 2 * (m * 2 ^ n) := by rw [← Nat.mul_assoc, Nat.mul_comm]
      rw [e]
      omega
    rw [bitIn_val _ _ _ hb]
    split
    · rw [farIn_val base x far n]; exact e
    · rw [treeIn_val]; exact e
theorem litIn_any (lc lp st total ahead far : Nat) (x : UInt8) (s : CP Enc) : (litAt inC lc lp st total ahead far x.toNat s).1 = x.toNat := by
  have hx := x.toNat_lt
  unfold litAt
  simp only
  split
  · rw [farIn_val]; omega
  · rw [treeIn_val]; omega
end Go.Proofs.Ytefbjamepbkklaa

/- Lengths that are put in: the walk. -/
namespace Go.Proofs.Ytefbjamepbkklaa
open Go.RowKit Rng Lz
set_option linter.unusedVariables false
set_option linter.unusedSimpArgs false
theorem tree_ino (b : Nat) (O : Nat → Prop) (T : TypeId) (k : LK) (st : Nat) (rep : Nat → Nat) (s : CP Enc) (R : Nat × CP Enc) (tb tq base n len cap x : Nat) (xi z : Int) (w : World) (h : LzAt (IC b O) O T w k st rep s) (hn : n ≤ 8) (hz : z = (n : Int)) (hxi : xi = (x : Int)) (hlen : 2 ^ n ≤ len) (hlc : len ≤ cap) (hx : x < 4294967296) (hc : s.d.cnt + n < 1000000)
    (hpl : ∀ j, 1 ≤ j → j < 2 ^ n → Place k (base + j) ∧ plA k (base + j) = (tb, tq + j)) (hR : treeAt inC base n x s = R) :
    Calls Try.prog 53 #[.slice (some ⟨tb, tq, none⟩) len cap, .iface 86 (inV b), .int .i64 xi, .int .i64 z] w fun e w' => e = .returned (.int .i64 (R.1 : Nat)) ∧
      LzAt (IC b O) O T w' k st rep R.2 ∧ Frm (Wr O k) w w' := by
  subst hz; subst hR; subst hxi
  exact tree_in b O T k st rep s tb tq base n len cap x w h hn hlen hlc hx hc hpl
theorem cnt_treeAt (base n x : Nat) (s : CP Enc) : (treeAt inC base n x s).2.d.cnt ≤ s.d.cnt + n := cnt_treeIn base x n 1 s
set_option maxRecDepth 100000 in
theorem cnt_len (base n p : Nat) (s : CP Enc) : (lenAt inC base n p s).2.d.cnt ≤ s.d.cnt + 10 := by
  have h1 := cnt_bitIn1 base (b2n (decide (10 ≤ n))) s
  have h2 := cnt_bitIn1 (base + 1) (b2n (decide (18 ≤ n))) (bitAt inC base (b2n (decide (10 ≤ n))) s).2
  unfold lenAt
  simp only
  split
  · have := cnt_treeAt (base + 2 + p * 8) 3 (n - 2) (bitAt inC base (b2n (decide (10 ≤ n))) s).2
    simp only; omega
  · split
    · have := cnt_treeAt (base + 130 + p * 8) 3 (n - 10) (bitAt inC (base + 1) (b2n (decide (18 ≤ n))) (bitAt inC base (b2n (decide (10 ≤ n))) s).2).2
      simp only; omega
    · have := cnt_treeAt (base + 258) 8 (n - 18) (bitAt inC (base + 1) (b2n (decide (18 ≤ n))) (bitAt inC base (b2n (decide (10 ≤ n))) s).2).2
      simp only; omega
theorem beq0 (x : Nat) : ((x : Int) == 0) = decide (x = 0) := by
  by_cases h : x = 0
  · subst h; rfl
  · rw [decide_eq_false h, beq_eq_false_iff_ne]; omega
theorem bool01_num (y : Bool) (x : Nat) (hx : b2n y = x) (w : World) : Calls Try.prog 52 #[.bool y] w fun e w' => e = .returned (.int .i64 (x : Nat)) ∧ w = w' := by
  subst hx; exact bool01_any y w
set_option maxRecDepth 100000 in
set_option maxHeartbeats 2000000 in
theorem lens_in (b : Nat) (O : Nat → Prop) (T : TypeId) (k : LK) (st : Nat) (rep : Nat → Nat) (s : CP Enc) (base n p : Nat) (w : World) (h : LzAt (IC b O) O T w k st rep s) (hb : base = 840 ∨ base = 1354) (hp : p < 16) (hn2 : 2 ≤ n) (hn : n ≤ 273) (hc : s.d.cnt + 10 < 1000000) :
    Calls Try.prog 41 #[.pointer (some ⟨k.sb, base, none⟩), .iface 86 (inV b), .int .i64 n, .int .i64 p] w fun e w' => e = .returned (.int .i64 ((lenAt inC base n p s).1 : Nat)) ∧
      LzAt (IC b O) O T w' k st rep (lenAt inC base n p s).2 ∧ Frm (Wr O k) w w' := by
  obtain ⟨R, hR⟩ : ∃ R, lenAt inC base n p s = R := ⟨_, rfl⟩
  rw [hR]
  have hv : R.1 = n := by rw [← hR]; exact lenAt_in base n p s hn2 hn
  rw [hv]
  unfold lenAt at hR
  simp only at hR
  have ATD := Lib.hid (h.later (IC.keep b O) ((Frm.refl _ w).drew))
  have HB := Lib.hid hb
  have P0 := Lib.hid (plm k (i := base) (by omega) (by omega))
  have P1 := Lib.hid (plm k (i := base + 1) (by omega) (by omega))
  have hno := nil_in (inV b)
  have hme := meth_inbit (inV b)
  have hpi : (p : Int) < 16 := by omega
  obtain ⟨T0, hT0⟩ : ∃ x, base + 2 + p * 8 = x := ⟨_, rfl⟩
  obtain ⟨T1, hT1⟩ : ∃ x, base + 130 + p * 8 = x := ⟨_, rfl⟩
  obtain ⟨T2, hT2⟩ : ∃ x, base + 258 = x := ⟨_, rfl⟩
  have PL0 := Lib.hid (fun (j : Nat) (h1 : 1 ≤ j) (h2 : j < 2 ^ 3) => plm k (i := T0 + j) (by have := HB.out; omega) (by have := HB.out; omega))
  have PL1 := Lib.hid (fun (j : Nat) (h1 : 1 ≤ j) (h2 : j < 2 ^ 3) => plm k (i := T1 + j) (by have := HB.out; omega) (by have := HB.out; omega))
  have PL2 := Lib.hid (fun (j : Nat) (h1 : 1 ≤ j) (h2 : j < 2 ^ 8) => plm k (i := T2 + j) (by have := HB.out; omega) (by have := HB.out; omega))
  rw [hT0, hT1, hT2] at hR
  obtain ⟨n2, hn2e⟩ : ∃ n2, n - 2 = n2 := ⟨_, rfl⟩
  have hn2i : (n : Int) - 2 = (n2 : Int) := by omega
  have hn2w : IntKind.i64.wrap (n2 : Int) = (n2 : Int) := Go.IntWalk.i64_in _ (by omega)
  rw [hn2e] at hR
  obtain ⟨x1, hx1⟩ : ∃ x, b2n (decide (10 ≤ n)) = x := ⟨_, rfl⟩
  obtain ⟨x2, hx2⟩ : ∃ x, b2n (decide (18 ≤ n)) = x := ⟨_, rfl⟩
  have hb1 : x1 ≤ 1 := by rw [← hx1]; cases decide (10 ≤ n) <;> decide
  have hb2 : x2 ≤ 1 := by rw [← hx2]; cases decide (18 ≤ n) <;> decide
  have hd1 : b2n (decide ((8 : Int) ≤ (n2 : Int))) = x1 := by rw [← hx1]; congr 1; rw [decide_eq_decide]; omega
  have hd2 : b2n (decide ((16 : Int) ≤ (n2 : Int))) = x2 := by rw [← hx2]; congr 1; rw [decide_eq_decide]; omega
  rw [hx1, hx2] at hR
  obtain ⟨s1, hs1⟩ : ∃ s1, (bitAt inC base x1 s).2 = s1 := ⟨_, rfl⟩
  obtain ⟨s2, hs2⟩ : ∃ s2, (bitAt inC (base + 1) x2 s1).2 = s2 := ⟨_, rfl⟩
  rw [bitIn_val _ _ _ hb1, hs1, bitIn_val _ _ _ hb2, hs2] at hR
  have hc1 : s1.d.cnt ≤ s.d.cnt + 1 := by rw [← hs1]; exact cnt_bitIn1 _ _ _
  have hc2 : s2.d.cnt ≤ s1.d.cnt + 1 := by rw [← hs2]; exact cnt_bitIn1 _ _ _
  have HC := Lib.hid (And.intro hc (And.intro hc1 hc2))
  have HS1 := Lib.hid hs1
  have HS2 := Lib.hid hs2
  have HR := Lib.hid hR
  have HD1 := Lib.hid hd1
  have HD2 := Lib.hid hd2
  have HN := Lib.hid (And.intro hn2e (And.intro hn2 (And.intro hn (And.intro hx1 hx2))))
  have HB12 := Lib.hid (And.intro hb1 hb2)
  have HV := Lib.hid hv
  clear h hb hR hc hs1 hs2 hc1 hc2 hd1 hd2 hn2e hn2 hn hx1 hx2 hv hb1 hb2
  go_enter Try.func41, Try.ntmps41
  go_upto_region 2 with fail
  go_cut [23] from 11 (fun v wx => v = .bool (decide (x1 = 0)) ∧ LzAt (IC b O) O T wx k st rep s1 ∧ Frm (Wr O k) w wx)
  case first =>
    go_region_with (first
      | (go_at_call 52; refine (bool01_num _ x1 HD1.out _).mono ?_; rintro e w2 ⟨rfl, rfl⟩)
      | (go_at_call 35; refine (ibit_lz ATD.out (by have := HC.out; omega) base k.sb base x1 x1 rfl HB12.out.1 P0.out.1 P0.out.2).mono ?_; rintro e w2 ⟨rfl, h2, f2⟩; rw [HS1.out] at h2))
    all_goals
      have H2 := Lib.hid h2
      have F2 := Lib.hid (((Frm.refl _ w).drew).trans f2)
      clear h2 f2
      go_wp2
      go_meet
      case rel => exact ⟨by rw [← beq0], H2.out, F2.out⟩
  case rest =>
    obtain ⟨rfl, h2, f2⟩ := hcut
    have H2 := Lib.hid h2
    have F2 := Lib.hid f2
    clear h2 f2 ATD
    by_cases h0 : x1 = 0
    · have hdt : decide (x1 = 0) = true := decide_eq_true h0
      have hlt : ¬ 10 ≤ n := by
        intro h10
        have := HN.out.2.2.2.1
        rw [decide_eq_true h10, h0] at this
        cases this
      have HR2 : Hid ((2 + (treeAt inC T0 3 n2 s1).1, (treeAt inC T0 3 n2 s1).2) = R) := Lib.hid (by have := HR.out; rw [if_pos h0] at this; exact this)
      rw [hdt]
      clear HR hdt
      have HR := HR2
      clear HR2
      obtain ⟨⟨u, su⟩, hu⟩ : ∃ yy, treeAt inC T0 3 n2 s1 = yy := ⟨_, rfl⟩
      have hu1 : u = n2 := by have := treeAt_in T0 3 n2 s1 (by have := HN.out; omega); rw [hu] at this; exact this
      subst hu1
      rw [hu] at HR
      have HU := Lib.hid hu
      have HSU : Hid (su = R.2) := Lib.hid (by rw [← HR.out])
      have HUB : Hid (u < 4294967296) := Lib.hid (by have := HN.out; omega)
      have hvv : ((2 + u : Nat) : Int) = (n : Int) := by have := HN.out; omega
      clear hu HR
      go_wp2_with fail
      refine (tree_ino b O T k st rep s1 _ k.sb T0 T0 3 _ _ u _ _ _ H2.out (by omega) rfl rfl (by omega) (Nat.le_refl _) HUB.out (by have := HC.out; omega) PL0.out HU.out).mono ?_; rintro e w4 ⟨rfl, h4, f4⟩
      have H4 : Hid (LzAt (IC b O) O T w4 k st rep R.2) := Lib.hid (by rw [← HSU.out]; exact h4)
      have F4 := Lib.hid (F2.out.trans f4)
      clear h4 f4
      go_wp2
      go_ret
      refine ⟨ret_int' ?_, H4.out, F4.out⟩
      have hfin := HN.out
      first | omega | (unfold wrap64; omega)
    · have hdt : decide (x1 = 0) = false := decide_eq_false h0
      have hge : 10 ≤ n := by
        refine Classical.byContradiction fun h10 => h0 ?_
        have := HN.out.2.2.2.1
        rw [decide_eq_false h10] at this
        exact this.symm
      have HR1 := Lib.hid (show (if x2 = 0 then (10 + (treeAt inC T1 3 (n - 10) s2).1, (treeAt inC T1 3 (n - 10) s2).2) else (18 + (treeAt inC T2 8 (n - 18) s2).1, (treeAt inC T2 8 (n - 18) s2).2)) = R by have := HR.out; rw [if_neg h0] at this; exact this)
      have ATD := Lib.hid (H2.out.later (IC.keep b O) ((Frm.refl _ wc).drew))
      rw [hdt]
      clear HR hdt
      go_upto_region 4 with fail
      go_cut [46] from 11 (fun v wx => v = .bool (decide (x2 = 0)) ∧ LzAt (IC b O) O T wx k st rep s2 ∧ Frm (Wr O k) w wx)
      case first =>
        go_region_with (first
          | (go_at_call 52; refine (bool01_num _ x2 HD2.out _).mono ?_; rintro e w2 ⟨rfl, rfl⟩)
          | (go_at_call 35; refine (ibit_lz ATD.out (by have := HC.out; omega) (base + 1) k.sb (base + 1) x2 x2 rfl HB12.out.2 P1.out.1 P1.out.2).mono ?_; rintro e w2 ⟨rfl, h2, f2⟩; rw [HS2.out] at h2))
        all_goals
          have H3 := Lib.hid h2
          have F3 := Lib.hid ((F2.out.drew).trans f2)
          clear h2 f2
          go_wp2
          go_meet
          case rel => exact ⟨by rw [← beq0], H3.out, F3.out⟩
      case rest =>
        obtain ⟨rfl, h2, f2⟩ := hcut
        have H3 := Lib.hid h2
        have F3 := Lib.hid f2
        clear h2 f2 ATD H2 F2
        by_cases h1 : x2 = 0
        · have hdt : decide (x2 = 0) = true := decide_eq_true h1
          have hlt : ¬ 18 ≤ n := by
            intro h18
            have := HN.out.2.2.2.2
            rw [decide_eq_true h18, h1] at this
            cases this
          have HR := Lib.hid (show (10 + (treeAt inC T1 3 (n - 10) s2).1, (treeAt inC T1 3 (n - 10) s2).2) = R by have := HR1.out; rw [if_pos h1] at this; exact this)
          rw [hdt]
          clear HR1 hdt
          obtain ⟨y, hy⟩ : ∃ y, n - 10 = y := ⟨_, rfl⟩
          rw [hy] at HR
          have hyi : (n2 : Int) - 8 = (y : Int) := by have := HN.out; omega
          have hyw : IntKind.i64.wrap (y : Int) = (y : Int) := Go.IntWalk.i64_in _ (by have := HN.out; omega)
          obtain ⟨⟨u, su⟩, hu⟩ : ∃ yy, treeAt inC T1 3 y s2 = yy := ⟨_, rfl⟩
          have hu1 : u = y := by have := treeAt_in T1 3 y s2 (by have := HN.out; omega); rw [hu] at this; exact this
          subst hu1
          rw [hu] at HR
          have HU := Lib.hid hu
          have HSU : Hid (su = R.2) := Lib.hid (by rw [← HR.out])
          have HUB : Hid (u < 4294967296) := Lib.hid (by have := HN.out; omega)
          have hvv : ((10 + u : Nat) : Int) = (n : Int) := by have := HN.out; omega
          clear hu HR
          go_wp2_with fail
          refine (tree_ino b O T k st rep s2 _ k.sb T1 T1 3 _ _ u _ _ _ H3.out (by omega) rfl rfl (by omega) (Nat.le_refl _) HUB.out (by have := HC.out; omega) PL1.out HU.out).mono ?_; rintro e w4 ⟨rfl, h4, f4⟩
          have H4 : Hid (LzAt (IC b O) O T w4 k st rep R.2) := Lib.hid (by rw [← HSU.out]; exact h4)
          have F4 := Lib.hid (F3.out.trans f4)
          clear h4 f4
          go_wp2
          go_ret
          refine ⟨ret_int' ?_, H4.out, F4.out⟩
          have hfin := HN.out
          first | omega | (unfold wrap64; omega)
        · have hdt : decide (x2 = 0) = false := decide_eq_false h1
          have hge2 : 18 ≤ n := by
            refine Classical.byContradiction fun h18 => h1 ?_
            have := HN.out.2.2.2.2
            rw [decide_eq_false h18] at this
            exact this.symm
          have HR := Lib.hid (show (18 + (treeAt inC T2 8 (n - 18) s2).1, (treeAt inC T2 8 (n - 18) s2).2) = R by have := HR1.out; rw [if_neg h1] at this; exact this)
          rw [hdt]
          clear HR1 hdt
          obtain ⟨y, hy⟩ : ∃ y, n - 18 = y := ⟨_, rfl⟩
          rw [hy] at HR
          have hyi : (n2 : Int) - 16 = (y : Int) := by have := HN.out; omega
          have hyw : IntKind.i64.wrap (y : Int) = (y : Int) := Go.IntWalk.i64_in _ (by have := HN.out; omega)
          obtain ⟨⟨u, su⟩, hu⟩ : ∃ yy, treeAt inC T2 8 y s2 = yy := ⟨_, rfl⟩
          have hu1 : u = y := by have := treeAt_in T2 8 y s2 (by have := HN.out; omega); rw [hu] at this; exact this
          subst hu1
          rw [hu] at HR
          have HU := Lib.hid hu
          have HSU : Hid (su = R.2) := Lib.hid (by rw [← HR.out])
          have HUB : Hid (u < 4294967296) := Lib.hid (by have := HN.out; omega)
          have hvv : ((18 + u : Nat) : Int) = (n : Int) := by have := HN.out; omega
          clear hu HR
          go_wp2_with fail
          refine (tree_ino b O T k st rep s2 _ k.sb T2 T2 8 _ _ u _ _ _ H3.out (by omega) rfl rfl (by omega) (Nat.le_refl _) HUB.out (by have := HC.out; omega) PL2.out HU.out).mono ?_; rintro e w4 ⟨rfl, h4, f4⟩
          have H4 : Hid (LzAt (IC b O) O T w4 k st rep R.2) := Lib.hid (by rw [← HSU.out]; exact h4)
          have F4 := Lib.hid (F3.out.trans f4)
          clear h4 f4
          go_wp2
          go_ret
          refine ⟨ret_int' ?_, H4.out, F4.out⟩
          have hfin := HN.out
          first | omega | (unfold wrap64; omega)
end Go.Proofs.Ytefbjamepbkklaa

/- A distance's slot; bits as they are, put in; a distance that is put in: the walks. -/
namespace Go.Proofs.Ytefbjamepbkklaa
open Go.RowKit Rng Lz
set_option linter.unusedVariables false
set_option linter.unusedSimpArgs false
theorem slot_any_low (d : Nat) (w : World) (h : d < 4) : Calls Try.prog 54 #[.int .u32 d] w fun e w' => e = .returned (.int .i64 (slotOf d : Nat)) ∧ w = w' := by
  have hi : (d : Int) < 4 := by omega
  have hs : slotOf d = d := by unfold slotOf; rw [if_pos h]
  have hw : IntKind.i64.wrap (d : Int) = (d : Int) := Go.IntWalk.i64_in _ (by omega)
  rw [hs]
  clear hs
  go_enter Try.func54, Try.ntmps54
  go_wp2
  go_ret
  exact ⟨rfl, rfl⟩
set_option maxRecDepth 100000 in
set_option maxHeartbeats 1000000 in
theorem slot_any (d : Nat) (w : World) (h : d < 4294967296) : Calls Try.prog 54 #[.int .u32 d] w fun e w' => e = .returned (.int .i64 (slotOf d : Nat)) ∧ w = w' := by
  by_cases h4 : d < 4
  · exact slot_any_low d w h4
  · obtain ⟨L, c, h1, h2, h3, h5, h6, h7, h8, h9, h10⟩ := slot_parts (d := d) (by omega) h
    rw [h8]
    have hi : ¬ ((d : Int) < 4) := by omega
    have hi2 : (4 : Int) ≤ (d : Int) := by omega
    obtain ⟨P, hP⟩ : ∃ P, 2 ^ L = P := ⟨_, rfl⟩
    have hPi : (2 : Int) ^ L = (P : Int) := by rw [← hP]; simp
    rw [hP] at h5 h9 h10
    have hci : (d : Int) / (P : Int) = (c : Int) := by rw [← h5]; exact (Int.natCast_ediv d P).symm
    obtain ⟨c1, hc1⟩ : ∃ c1, c % 2 = c1 := ⟨_, rfl⟩
    have hand : bits .and .u32 (c : Int) 1 = (c1 : Int) := by rw [← hc1]; exact Num.and32_1 (by show c < 4294967296; omega)
    have hc1b : c1 ≤ 1 := by omega
    have hc1w : IntKind.i64.wrap (c1 : Int) = (c1 : Int) := Go.IntWalk.i64_in _ (by omega)
    have hLu : IntKind.u64.wrap (L : Int) = (L : Int) := Go.IntWalk.u64_in _ (by omega)
    have hLm : min L 64 = L := by omega
    have hLm2 : min L 32 = L := by omega
    have HP := Lib.hid hP
    have HD : Hid (P * 2 ≤ d ∧ d < P * 4) := Lib.hid (by
      have e1 : c = 2 ∨ c = 3 := by omega
      rcases e1 with rfl | rfl <;> omega)
    rw [hc1]
    clear h1 h5 h8 h9 h10 hP hc1
    go_enter Try.func54, Try.ntmps54
    go_wp2
    go_loopw [3, 4] (fun nv xv wr => ∃ j x : Nat, nv = .int .i64 j ∧ xv = .int .u32 x ∧ x = d / 2 ^ j ∧ j ≤ L + 1 ∧ wr = w) (fun nv _ _ => L + 1 - (intOf nv).toNat)
    case atStart => exact ⟨0, d, rfl, rfl, by rw [Nat.pow_zero, Nat.div_one], by omega, by first | trivial | rfl⟩
    case round =>
      obtain ⟨j, x, rfl, rfl, hx, hj, hwr⟩ := hrel
      subst hwr
      by_cases hjl : j ≤ L
      · have hx2 : 2 ≤ x := by
          rw [hx]
          refine (Nat.le_div_iff_mul_le (Nat.two_pow_pos j)).2 ?_
          have h1 : 2 ^ j ≤ 2 ^ L := Nat.pow_le_pow_right (by omega) hjl
          rw [HP.out] at h1
          have := HD.out
          omega
        have hx3 : (1 : Int) < (x : Int) := by omega
        have hxb : x < 4294967296 := by rw [hx]; have := Nat.div_le_self d (2 ^ j); omega
        obtain ⟨y, hy⟩ : ∃ y, x / 2 = y := ⟨_, rfl⟩
        have hyi : (x : Int) / 2 = (y : Int) := by omega
        have HY : Hid (y = d / 2 ^ (j + 1)) := Lib.hid (by rw [← hy, hx, Nat.pow_succ, Nat.div_div_eq_div_mul])
        clear hx hx2 hy
        go_wp2
        exact ⟨⟨j + 1, y, by go_num, rfl, HY.out, by omega, by first | trivial | rfl⟩, by simp [intOf]; omega⟩
      · obtain rfl : j = L + 1 := by omega
        have hx1 : x = 1 := by
          rw [hx, Nat.pow_succ, HP.out]
          have := HD.out
          refine Nat.div_eq_of_lt_le ?_ ?_ <;> omega
        subst hx1
        clear hx hjl hj
        go_wp2
        go_ret
        refine ⟨ret_int' ?_, rfl⟩
        first | omega | (unfold wrap64; omega)
theorem idir_lz {b : Nat} {O : Nat → Prop} {T : TypeId} {w : World} {k : LK} {st : Nat} {rep : Nat → Nat} {s : CP Enc} (h : LzAt (IC b O) O T w k st rep s) (hc : s.d.cnt + 32 < 1000000) (x n : Nat) (zi : Int) (hz : zi = (n : Int)) (hn : n ≤ 31) (hx : x < 4294967296) :
    Calls Try.prog 99 #[inV b, .int .u32 x, .int .i64 zi] w fun e w' => e = .returned (.int .u32 ((inC.dir s.d x n).1 : Nat)) ∧ LzAt (IC b O) O T w' k st rep ⟨(inC.dir s.d x n).2, s.pr⟩ ∧ Frm (Wr O k) w w' := by
  subst hz
  obtain ⟨⟨v, hv, hvo⟩, hob, hoz, hI⟩ := h.c
  have H := Lib.hid h
  have HV := Lib.hid hv
  have HI := Lib.hid hI
  have HO := Lib.hid (And.intro hvo (And.intro hob hoz))
  have hcn : count (n : Int) = n := by unfold count; omega
  have HCN := Lib.hid hcn
  obtain ⟨P, hP⟩ : ∃ P, 2 ^ n = P := ⟨_, rfl⟩
  have hPb : P ≤ 2147483648 := by
    rw [← hP]
    have : 2 ^ n ≤ 2 ^ 31 := Nat.pow_le_pow_right (by omega) hn
    simpa using this
  have hP1 : 1 ≤ P := by rw [← hP]; exact Nat.one_le_two_pow
  have hPi : (2 : Int) ^ n = (P : Int) := by rw [← hP]; simp
  obtain ⟨M, hM⟩ : ∃ M, P - 1 = M := ⟨_, rfl⟩
  have hMi : (P : Int) - 1 = (M : Int) := by omega
  have hPw : IntKind.u32.wrap (P : Int) = (P : Int) := Go.IntWalk.u32_in _ (by omega)
  have hMw : IntKind.u32.wrap (M : Int) = (M : Int) := Go.IntWalk.u32_in _ (by omega)
  have hnu : IntKind.u64.wrap (n : Int) = (n : Int) := Go.IntWalk.u64_in _ (by omega)
  have hn64 : min n 64 = n := by omega
  obtain ⟨y, hy⟩ : ∃ y, x % 2 ^ n = y := ⟨_, rfl⟩
  have hand : bits .and .u32 (x : Int) (M : Int) = (y : Int) := by
    have h1 := Num.and32 (a := x) (b := M) hx (by show M < 4294967296; omega)
    rw [h1, ← hM, ← hP, Nat.and_two_pow_sub_one_eq_mod, hy]
  have HY : Hid ((inC.dir s.d x n).1 = y) := Lib.hid hy
  rw [HY.out]
  clear h hv hI hvo hob hoz hcn hP hM hy
  unfold inV
  go_enter Try.func99, Try.ntmps99
  go_wp2_with fail
  obtain ⟨X, hX⟩ : ∃ X, Obj.cells #[.pointer (some ⟨b, 0, none⟩)] 86 = X := ⟨_, rfl⟩
  rw [hX]
  have hfr := (Frm.refl (fun _ => False) w).alloc X
  have hv2 : EncAt (w.alloc X) 111 0 b 0 v s.d := ⟨HV.out.p.alloc _, HV.out.o.alloc _, HV.out.k⟩
  refine (edirect_p b 0 x n v s.d (w.alloc X) hv2 (Nat.zero_le _) hc HI.out.r HI.out.c hx).mono ?_
  rintro e w' ⟨v', rfl, h1, h2, h3⟩
  rw [HCN.out] at h1
  have hf : Frm O w w' := (((Frm.refl O w).alloc X)).trans (h2.mono fun q _ hq => by
    rcases hq with e | e
    · rw [e]; exact HO.out.2.1
    · exact HO.out.1 q e)
  have hI2 : EncI (Enc.direct x n s.d) := encI_stays.dir s.d x n HI.out
  have hl := H.out.coder2 (d := Enc.direct x n s.d) (w' := w') (IC.moved HO.out.2.2 HO.out.1 HO.out.2.1 hf.size h1 (fun q hq => by
    rcases h3.cases q hq with e | e
    · exact .inl e
    · exact .inr (Nat.le_trans hfr.size e)) hI2) hf
  have HL := Lib.hid hl
  clear h1 h2 h3 hX hfr hv2 hf hI2 hl
  go_wp2
  go_ret
  exact ⟨rfl, HL.out.1, HL.out.2⟩
theorem back_ino (b : Nat) (O : Nat → Prop) (T : TypeId) (k : LK) (st : Nat) (rep : Nat → Nat) (s : CP Enc) (R : Nat × CP Enc) (tb tq base n len cap x : Nat) (xi z : Int) (w : World) (h : LzAt (IC b O) O T w k st rep s) (hn : n ≤ 8) (hz : z = (n : Int)) (hxi : xi = (x : Int)) (hlen : 2 ^ n ≤ len) (hlc : len ≤ cap) (hx : x < 4294967296) (hc : s.d.cnt + n < 1000000)
    (hpl : ∀ j, 1 ≤ j → j < 2 ^ n → Place k (base + j) ∧ plA k (base + j) = (tb, tq + j)) (hR : backAt inC base n x s = R) :
    Calls Try.prog 55 #[.slice (some ⟨tb, tq, none⟩) len cap, .iface 86 (inV b), .int .i64 xi, .int .i64 z] w fun e w' => e = .returned (.int .i64 (R.1 : Nat)) ∧
      LzAt (IC b O) O T w' k st rep R.2 ∧ Frm (Wr O k) w w' := by
  subst hz; subst hR; subst hxi
  exact back_in b O T k st rep s tb tq base n len cap x w h hn hlen hlc hx hc hpl
theorem slot_num (d t : Nat) (w : World) (h : d < 4294967296) (ht : slotOf d = t) : Calls Try.prog 54 #[.int .u32 d] w fun e w' => e = .returned (.int .i64 (t : Nat)) ∧ w = w' := by
  subst ht; exact slot_any d w h
set_option maxRecDepth 100000 in
set_option maxHeartbeats 2000000 in
theorem dist_in (b : Nat) (O : Nat → Prop) (T : TypeId) (k : LK) (st : Nat) (rep : Nat → Nat) (s : CP Enc) (d size : Nat) (w : World) (h : LzAt (IC b O) O T w k st rep s) (hs : 2 ≤ size) (hsz : size ≤ 300) (hd : d < 4294967296) (hc : s.d.cnt + 50 < 1000000) :
    Calls Try.prog 42 #[.pointer (some ⟨k.sb, 0, none⟩), .iface 86 (inV b), .int .u32 d, .int .i64 size] w fun e w' => e = .returned (.int .u32 (d : Nat)) ∧
      LzAt (IC b O) O T w' k st rep (distAt inC d size s).2 ∧ Frm (Wr O k) w w' := by
  obtain ⟨R, hR⟩ : ∃ R, distAt inC d size s = R := ⟨_, rfl⟩
  rw [hR]
  unfold distAt at hR
  simp only at hR
  obtain ⟨q, hq⟩ : ∃ q, min size 5 - 2 = q := ⟨_, rfl⟩
  have hq3 : q < 4 := by omega
  obtain ⟨Q2, hQ2⟩ : ∃ Q2, q + 2 = Q2 := ⟨_, rfl⟩
  have hmin : min (size : Int) 5 = (Q2 : Int) := by omega
  have hmn := fun w => min2_num (P := Try.prog) .i64 #[3, 3] 3 _ _ _ hmin w
  have hqs : (Q2 : Int) - 2 = (q : Int) := by omega
  have hqw : IntKind.i64.wrap (q : Int) = (q : Int) := Go.IntWalk.i64_in _ (by omega)
  have hqi : (q : Int) < 4 := by omega
  rw [hq] at hR
  obtain ⟨TB, hTB⟩ : ∃ x, 440 + q * 64 = x := ⟨_, rfl⟩
  rw [hTB] at hR
  have PL := Lib.hid (fun (j : Nat) (h1 : 1 ≤ j) (h2 : j < 2 ^ 6) => plm k (i := TB + j) (by omega) (by omega))
  have htl := slot_lt hd
  have hbase : 4 ≤ d → 4 ≤ slotOf d ∧ (2 + slotOf d % 2) * 2 ^ (slotOf d / 2 - 1) ≤ d ∧ d < (2 + slotOf d % 2) * 2 ^ (slotOf d / 2 - 1) + 2 ^ (slotOf d / 2 - 1) := fun h4 => slot_base h4 hd
  have hlow : d < 4 → slotOf d = d := fun h4 => by unfold slotOf; rw [if_pos h4]
  obtain ⟨t, ht⟩ : ∃ t, slotOf d = t := ⟨_, rfl⟩
  rw [ht] at hR htl hbase hlow
  obtain ⟨s1, hs1⟩ : ∃ s1, (treeAt inC TB 6 t s).2 = s1 := ⟨_, rfl⟩
  rw [treeAt_in _ _ _ _ htl, hs1] at hR
  have hc1 : s1.d.cnt ≤ s.d.cnt + 6 := by rw [← hs1]; exact cnt_treeAt TB 6 t s
  have HT := Lib.hid hs1
  have HTV : Hid ((treeAt inC TB 6 t s).1 = t) := Lib.hid (treeAt_in _ _ _ _ htl)
  have HC := Lib.hid (And.intro hc hc1)
  have HRR := Lib.hid hR
  have HSL := Lib.hid ht
  have HBASE := Lib.hid hbase
  have HLOW := Lib.hid hlow
  have HDB := Lib.hid hd
  have ATD := Lib.hid (h.later (IC.keep b O) ((Frm.refl _ w).drew))
  clear h hR hs1 hmin hq hQ2 hc hc1 ht hbase hlow
  go_enter Try.func42, Try.ntmps42
  go_upto_region 1 with fail
  go_cut [9] from 12 (fun v wx => v = .int .i64 t ∧ LzAt (IC b O) O T wx k st rep s1 ∧ Frm (Wr O k) w wx)
  case first =>
    go_region_with (first
      | (go_at_call 54; refine (slot_num d t _ HDB.out HSL.out).mono ?_; rintro e w2 ⟨rfl, rfl⟩)
      | (go_at_call 53; refine (tree_ino b O T k st rep _ _ k.sb TB TB 6 _ _ t _ _ _ ATD.out (by omega) rfl rfl (by omega) (Nat.le_refl _) (by omega) (by have := HC.out; omega) PL.out rfl).mono ?_; rintro e w2 ⟨rfl, h2, f2⟩; rw [HTV.out]; rw [HT.out] at h2))
    all_goals
      have H2 := Lib.hid h2
      have F2 := Lib.hid (((Frm.refl _ w).drew).trans f2)
      clear h2 f2
      go_wp2
      go_meet
      case rel => exact ⟨rfl, H2.out, F2.out⟩
  case rest =>
    obtain ⟨rfl, h2, f2⟩ := hcut
    have H2 := Lib.hid h2
    have F2 := Lib.hid f2
    clear h2 f2 ATD
    by_cases ht4 : t < 4
    · have hd4 : d < 4 := Classical.byContradiction fun h4 => by have := (HBASE.out (by omega)).1; omega
      have htd := HLOW.out hd4
      have hR := HRR.out
      rw [if_pos ht4] at hR
      subst hR
      subst htd
      have htw : IntKind.u32.wrap (t : Int) = (t : Int) := Go.IntWalk.u32_in _ (by omega)
      clear HRR
      go_wp2
      go_ret
      exact ⟨rfl, H2.out, F2.out⟩
    · have hd4 : 4 ≤ d := Classical.byContradiction fun h4 => by have := HLOW.out (by omega); omega
      obtain ⟨-, g1, g2⟩ := HBASE.out hd4
      have hR := HRR.out
      rw [if_neg ht4] at hR
      clear HRR
      obtain ⟨K, P, bs, hK, hP, hbs, hPi, hK30, hb32, hbi⟩ := slot_nums (t := t) (by omega) htl
      rw [hK, hP, hbs] at g1 g2
      rw [hK, hP, hbs] at hR
      obtain ⟨y, hy⟩ : ∃ y, d - bs = y := ⟨_, rfl⟩
      rw [hy] at hR
      have hyi : (d : Int) - (bs : Int) = (y : Int) := by omega
      have hyP : y < P := by omega
      have hPle : P ≤ 1073741824 := by
        rw [← hP]
        have : 2 ^ K ≤ 2 ^ 30 := Nat.pow_le_pow_right (by omega) hK30
        simpa using this
      have hyw : IntKind.u32.wrap (y : Int) = (y : Int) := Go.IntWalk.u32_in _ (by omega)
      have hyw2 : IntKind.i64.wrap (y : Int) = (y : Int) := Go.IntWalk.i64_in _ (by omega)
      have hdb : bs + y = d := by omega
      obtain ⟨K1, hK1⟩ : ∃ K1, t / 2 = K1 := ⟨_, rfl⟩
      have hk1 : (t : Int) / 2 = (K1 : Int) := by omega
      have hk2 : (K1 : Int) - 1 = (K : Int) := by omega
      obtain ⟨b1, hb1⟩ : ∃ b1, t % 2 = b1 := ⟨_, rfl⟩
      have hand : bits .and .i64 (t : Int) 1 = (b1 : Int) := by
        have := and_i64 (a := t) (b := 1) (by omega) (by omega)
        rw [nat_mask1, hb1] at this
        exact this
      obtain ⟨c1, hc1⟩ : ∃ c1, 2 + b1 = c1 := ⟨_, rfl⟩
      have hc2 : (2 : Int) + (b1 : Int) = (c1 : Int) := by omega
      have hcb : (c1 : Int) * (P : Int) = (bs : Int) := by rw [← hbi, hb1, hc2]
      have hwc : IntKind.u32.wrap (c1 : Int) = (c1 : Int) := Go.IntWalk.u32_in _ (by omega)
      have hwb : IntKind.u32.wrap (bs : Int) = (bs : Int) := Go.IntWalk.u32_in _ (by omega)
      have hKu : IntKind.u64.wrap (K : Int) = (K : Int) := Go.IntWalk.u64_in _ (by omega)
      have hKm : min K 64 = K := by omega
      have hb1b : b1 ≤ 1 := by omega
      have hc1b : c1 ≤ 3 := by omega
      have HDY := Lib.hid (And.intro hdb hd4)
      by_cases ht14 : t < 14
      · rw [if_pos ht14] at hR
        obtain ⟨l1, l2, l3⟩ := slot_low (by omega) ht14 hK hP hbs
        obtain ⟨off, hoff⟩ : ∃ off, bs - t = off := ⟨_, rfl⟩
        have hoi : (bs : Int) - (t : Int) = (off : Int) := by omega
        have hoff2 : 696 + bs - t = 696 + off := by omega
        rw [hoff2] at hR
        have hti : (t : Int) < 14 := by omega
        have hPp : 1 ≤ P := by rw [← hP]; exact Nat.one_le_two_pow
        have hsl := fun w => slice_places k.sb 696 off (by omega) w
        obtain ⟨OF, hO⟩ : ∃ OF, 696 + off = OF := ⟨_, rfl⟩
        rw [hO] at hR hsl
        have PL2 := Lib.hid (fun (j : Nat) (h1 : 1 ≤ j) (h2 : j < 2 ^ K) => plm k (i := OF + j) (by omega) (by rw [hP] at h2; omega))
        have HU : Hid ((backAt inC OF K y s1).1 = y) := Lib.hid (backAt_in _ _ _ _ (by rw [hP]; exact hyP))
        have hlen : 2 ^ K ≤ 128 - off := by rw [hP]; omega
        have HLEN := Lib.hid hlen
        have HRX := Lib.hid hR
        obtain ⟨N9, hN9⟩ : ∃ N9, 128 - off = N9 := ⟨_, rfl⟩
        rw [hN9] at hsl HLEN
        clear hR hbs hK hK1 hb1 hc1 hbi hP hoff hoff2 hO hlen hN9 g1 g2 hy hdb
        go_wp2_with fail
        refine (back_ino b O T k st rep _ _ k.sb OF OF K _ _ y _ _ _ H2.out (by omega) rfl rfl HLEN.out (Nat.le_refl _) (by omega) (by have := HC.out; omega) PL2.out rfl).mono ?_; rintro e w4 ⟨rfl, h4, f4⟩
        rw [HU.out]
        have H4 : Hid (LzAt (IC b O) O T w4 k st rep R.2) := Lib.hid (by rw [← HRX.out]; exact h4)
        have F4 := Lib.hid (F2.out.trans f4)
        clear h4 f4
        go_wp2
        go_ret
        refine ⟨ret_u32 ?_, H4.out, F4.out⟩
        have := HDY.out
        omega
      · rw [if_neg ht14] at hR
        obtain ⟨K4, hK4⟩ : ∃ K4, K - 4 = K4 := ⟨_, rfl⟩
        have hk4 : (K : Int) - 4 = (K4 : Int) := by omega
        rw [hK4] at hR
        obtain ⟨y4, hy4⟩ : ∃ y4, y / 16 = y4 := ⟨_, rfl⟩
        have hy4i : (y : Int) / 16 = (y4 : Int) := by omega
        rw [hy4] at hR
        obtain ⟨z, hz⟩ : ∃ z, d % 16 = z := ⟨_, rfl⟩
        rw [hz] at hR
        have hzi : bits .and .u32 (d : Int) 15 = (z : Int) := by
          have h1 := Num.and32 (a := d) (b := 15) HDB.out (by decide)
          rw [show (15 : Nat) = 2 ^ 4 - 1 by rfl, Nat.and_two_pow_sub_one_eq_mod] at h1
          rw [← hz]
          exact h1
        have hzb : z < 16 := by omega
        have hzw : IntKind.i64.wrap (z : Int) = (z : Int) := Go.IntWalk.i64_in _ (by omega)
        have hP4 : P = 2 ^ K4 * 16 := by rw [← hP, show K = K4 + 4 by omega, Nat.pow_add]
        have HV4 : Hid ((inC.dir s1.d y4 K4).1 = y4) := Lib.hid (by
          show y4 % 2 ^ K4 = y4
          refine Nat.mod_eq_of_lt ?_
          generalize 2 ^ K4 = Q at *
          omega)
        have hbs16 : bs % 16 = 0 := by
          rw [← hbs, hP4, ← Nat.mul_assoc, Nat.mul_mod_left]
        have hfin : bs + y4 * 16 + z = d := by omega
        have HU : Hid ((backAt inC 824 4 z ⟨(inC.dir s1.d y4 K4).2, s1.pr⟩).1 = z) := Lib.hid (backAt_in _ _ _ _ (by omega))
        have hcd : (inC.dir s1.d y4 K4).2.cnt ≤ s1.d.cnt + K4 := Enc.direct_cnt
        have HCD := Lib.hid hcd
        have PL2 := Lib.hid (fun (j : Nat) (h1 : 1 ≤ j) (h2 : j < 2 ^ 4) => plm k (i := 824 + j) (by omega) (by omega))
        have HRX := Lib.hid hR
        have hti : ¬ ((t : Int) < 14) := by omega
        have hmd := meth_indir (inV b)
        have hK32 : K4 ≤ 31 := by omega
        have h824 : 2 ^ 4 ≤ 16 := by omega
        have HFIN := Lib.hid (And.intro hfin (show y4 ≤ 67108864 by omega))
        clear hR hbs hK hK1 hb1 hc1 hbi hP hK4 g1 g2 hy hdb hy4 hz hP4 hbs16 hfin hcd
        go_wp2_with fail
        refine (idir_lz H2.out (by have := HC.out; omega) y4 K4 _ rfl hK32 (by have := HFIN.out; omega)).mono ?_; rintro e w3 ⟨rfl, h3, f3⟩
        rw [HV4.out]
        have H3 := Lib.hid h3
        have F3 := Lib.hid (F2.out.trans f3)
        clear h3 f3
        go_wp2_with fail
        refine (back_ino b O T k st rep _ _ k.sb 824 824 4 _ _ z _ _ _ H3.out (by omega) rfl rfl h824 (Nat.le_refl _) (by omega) (by have := HC.out; have := HCD.out; simp only; omega) PL2.out rfl).mono ?_; rintro e w4 ⟨rfl, h4, f4⟩
        rw [HU.out]
        have H4 : Hid (LzAt (IC b O) O T w4 k st rep R.2) := Lib.hid (by rw [← HRX.out]; exact h4)
        have F4 := Lib.hid (F3.out.trans f4)
        clear h4 f4
        go_wp2
        go_ret
        refine ⟨ret_u32 ?_, H4.out, F4.out⟩
        have := HFIN.out
        omega
end Go.Proofs.Ytefbjamepbkklaa

/- A byte that is put in: the walk. -/
namespace Go.Proofs.Ytefbjamepbkklaa
open Go.RowKit Rng Lz
set_option linter.unusedVariables false
set_option linter.unusedSimpArgs false
set_option maxRecDepth 100000 in
set_option maxHeartbeats 2000000 in
theorem lit_in (b : Nat) (O : Nat → Prop) (T : TypeId) (k : LK) (st total ahead far : Nat) (rep : Nat → Nat) (s : CP Enc) (w : World) (h : LzAt (IC b O) O T w k st rep s) (hk : k.Ok) (ht : total < 4611686018427387904) (ha : ahead < 256) (hfa : far < 256) (X : Nat) (hX8 : X < 256) (hcn : s.d.cnt + 8 < 1000000) :
    Calls Try.prog 37 #[.pointer (some ⟨k.sb, 0, none⟩), .iface 86 (inV b), .int .i64 X, .int .i64 total, .int .u8 ahead, .int .u8 far] w fun e w' => e = .returned (.int .u8 ((litAt inC k.lc k.lp st total ahead far X s).1 : Nat)) ∧
      LzAt (IC b O) O T w' k st rep (litAt inC k.lc k.lp st total ahead far X s).2 ∧ Frm (Wr O k) w w' := by
  have c0 : w.cell? ⟨k.sb, 0, none⟩ = some (.int .i64 k.lc) := (h.hdr (i := 0) (by omega)).1
  have c1 : w.cell? ⟨k.sb, 1, none⟩ = some (.int .i64 k.lp) := (h.hdr (i := 1) (by omega)).1
  have c3 : w.cell? ⟨k.sb, 3, none⟩ = some (.int .i64 st) := (h.hdr (i := 3) (by omega)).1
  have c9 : w.cell? ⟨k.sb, 1868, none⟩ = some (.slice (some ⟨k.lb, 0, none⟩) k.L k.L) := by rw [h.m.cell, mcells_get _ _ _ _ (by omega)]; rfl
  have hok := hk.a
  obtain ⟨R, hR⟩ : ∃ R, litAt inC k.lc k.lp st total ahead far X s = R := ⟨_, rfl⟩
  rw [hR]
  unfold litAt at hR
  have hLL : k.L = 768 * (2 ^ k.lp * 2 ^ k.lc) := by unfold LK.L; rw [Nat.pow_add, Nat.mul_comm (2 ^ k.lc)]
  have PLL : ∀ j, j < k.L → Place k (4096 + j) ∧ plA k (4096 + j) = (k.lb, j) := fun j hj => pll k hj
  obtain ⟨lc, hlc⟩ : ∃ e, k.lc = e := ⟨_, rfl⟩
  obtain ⟨lp, hlp⟩ : ∃ e, k.lp = e := ⟨_, rfl⟩
  obtain ⟨L, hL⟩ : ∃ e, k.L = e := ⟨_, rfl⟩
  rw [hL] at hLL PLL c9
  rw [hlc] at hLL hR c0 hok
  rw [hlp] at hLL hR c1 hok
  have hP1 : 2 ^ lp ≤ 2 ^ 4 := Nat.pow_le_pow_right (by omega) (by omega)
  have hP2 : 2 ^ lc ≤ 2 ^ 4 := Nat.pow_le_pow_right (by omega) (by omega)
  obtain ⟨E, hE⟩ : ∃ E, 8 - lc = E := ⟨_, rfl⟩
  have hPE : 2 ^ E * 2 ^ lc = 256 := by rw [← hE, ← Nat.pow_add, show 8 - lc + lc = 8 by omega]
  obtain ⟨P1, hp1⟩ : ∃ P, 2 ^ lp = P := ⟨_, rfl⟩
  obtain ⟨P2, hp2⟩ : ∃ P, 2 ^ lc = P := ⟨_, rfl⟩
  obtain ⟨P3, hp3⟩ : ∃ P, 2 ^ E = P := ⟨_, rfl⟩
  have hi1 : (2 : Int) ^ lp = (P1 : Int) := by rw [← hp1]; simp
  have hi2 : (2 : Int) ^ lc = (P2 : Int) := by rw [← hp2]; simp
  have hi3 : (2 : Int) ^ E = (P3 : Int) := by rw [← hp3]; simp
  have hand := and_mask ht hp1 (by omega)
  rw [hE, hp1, hp2, hp3] at hR
  rw [hp1, hp2] at hLL
  rw [hp1] at hP1
  rw [hp2] at hP2
  rw [hp2, hp3] at hPE
  have hP1p : 1 ≤ P1 := by rw [← hp1]; exact Nat.one_le_two_pow
  have hP2p : 1 ≤ P2 := by rw [← hp2]; exact Nat.one_le_two_pow
  have hP3p : 1 ≤ P3 := by rw [← hp3]; exact Nat.one_le_two_pow
  have ha1 : total % P1 < P1 := Nat.mod_lt _ (by omega)
  obtain ⟨A1, hA1⟩ : ∃ A, total % P1 = A := ⟨_, rfl⟩
  rw [hA1] at hand hR ha1
  have ha3 : ahead / P3 < P2 := by rw [Nat.div_lt_iff_lt_mul (by omega), Nat.mul_comm]; omega
  have hi4 : (ahead : Int) / (P3 : Int) = ((ahead / P3 : Nat) : Int) := (Int.natCast_ediv ahead P3).symm
  obtain ⟨A3, hA3⟩ : ∃ A, ahead / P3 = A := ⟨_, rfl⟩
  rw [hA3] at hR ha3 hi4
  have hA2 : A1 * P2 + P2 ≤ P1 * P2 := by
    have := Nat.mul_le_mul_right P2 (show A1 + 1 ≤ P1 by omega)
    rw [Nat.add_mul, Nat.one_mul] at this
    exact this
  have hPP : P1 * P2 ≤ 16 * 16 := Nat.mul_le_mul hP1 hP2
  have hi5 : (A1 : Int) * (P2 : Int) = ((A1 * P2 : Nat) : Int) := by simp
  obtain ⟨A2, hA2e⟩ : ∃ A, A1 * P2 = A := ⟨_, rfl⟩
  rw [hA2e] at hR hA2 hi5
  obtain ⟨PP, hPPe⟩ : ∃ A, P1 * P2 = A := ⟨_, rfl⟩
  rw [hPPe] at hA2 hPP hLL
  obtain ⟨SET, hSET⟩ : ∃ A, A2 + A3 = A := ⟨_, rfl⟩
  rw [hSET] at hR
  have hset : (A2 : Int) + (A3 : Int) = (SET : Int) := by omega
  have hE8 : (8 : Int) - (lc : Int) = (E : Int) := by omega
  have hE64 : min E 64 = E := by omega
  have hlc64 : min lc 64 = lc := by omega
  have hlp64 : min lp 64 = lp := by omega
  have hEu : IntKind.u64.wrap (E : Int) = (E : Int) := Go.IntWalk.u64_in _ (by omega)
  have hlcu : IntKind.u64.wrap (lc : Int) = (lc : Int) := Go.IntWalk.u64_in _ (by omega)
  have hlpu : IntKind.u64.wrap (lp : Int) = (lp : Int) := Go.IntWalk.u64_in _ (by omega)
  have hfit : 768 * SET + 768 ≤ L := by omega
  have hSB : SET < 256 := by omega
  obtain ⟨X0, hX0⟩ : ∃ A, 768 * SET = A := ⟨_, rfl⟩
  obtain ⟨X1, hX1⟩ : ∃ A, X0 + 768 = A := ⟨_, rfl⟩
  have hxi0 : (768 : Int) * (SET : Int) = (X0 : Int) := by omega
  have hxi1 : (X0 : Int) + 768 = (X1 : Int) := by omega
  rw [hX0] at hR hfit
  have hsl := fun w => slice_lits k.lb L X0 X1 hfit hX1.symm w
  have b1 : P1 ≤ 16 := by omega
  have b2 : P2 ≤ 16 := by omega
  have b3 : P3 ≤ 256 := by have := Nat.mul_le_mul_left P3 hP2p; omega
  have b4 : A1 ≤ 16 := by omega
  have b5 : A2 ≤ 256 := by omega
  have b6 : A3 ≤ 16 := by omega
  have b7 : X0 ≤ 200000 := by omega
  have b8 : X1 ≤ 200768 := by omega
  have AT := Lib.hid h
  have HCN := Lib.hid hcn
  have HX8 := Lib.hid hX8
  clear hcn hX8
  have HRR := Lib.hid hR
  have HPL := Lib.hid PLL
  have HFIT := Lib.hid hfit
  clear h hk hR PLL hlc hlp hL hLL hp1 hp2 hp3 hP1 hP2 hPE hA1 hA3 hA2e hPPe hSET hE hA2 hPP ha1 ha3 hok hP1p hP2p hP3p hfit hX0 hX1
  go_enter Try.func37, Try.ntmps37
  go_wp2
  go_quiet (fail)
  go_upto_if 58 with fail
  obtain ⟨RR, hRR⟩ : ∃ RR, (if 7 ≤ st then farGo inC (4096 + X0) X far 8 1 s else treeGo inC (4096 + X0) X 8 1 s) = RR := ⟨_, rfl⟩
  rw [hRR] at HRR
  have HQ := Lib.hid hRR
  have ATD := Lib.hid (AT.out.later (IC.keep b O) ((Frm.refl _ w).drewN nq))
  have FD := Lib.hid ((Frm.refl (Wr O k) w).drewN nq)
  clear hRR hsl hand hi1 hi2 hi3 hi4 hi5 hset hE8 hE64 hlc64 hlp64 hEu hlcu hlpu hxi0 hxi1 b1 b2 b3 b4 b5 b6 b8 c0 c1 c9
  have hno := nil_in (inV b)
  have hme := meth_inbit (inV b)
  go_cut [15, 16] from 19 to 94 (fun nv iv wx => ∃ (r m : Nat) (i : Int) (s' : CP Enc), nv = .int .i64 m ∧ iv = .int .i64 i ∧ i = (r : Int) - 1 ∧ r ≤ 8 ∧ 2 ^ (8 - r) ≤ m ∧ m < 2 ^ (8 - r + 1) ∧ treeGo inC (4096 + X0) X r m s' = RR ∧ LzAt (IC b O) O T wx k st rep s' ∧ s'.d.cnt + r < 1000000 ∧ Frm (Wr O k) w wx)
  case first =>
    by_cases h7 : 7 ≤ st
    · have h7i : (7 : Int) ≤ (st : Int) := by omega
      have hRR := HQ.out
      rw [if_pos h7] at hRR
      have HQ2 := Lib.hid hRR
      have h7d : decide (7 ≤ st) = true := decide_eq_true h7
      clear hRR HQ AT HRR
      go_wp2
      go_step3
      go_wp2
      go_step3
      go_wp2
      have h7e : decide ((7 : Int) ≤ (st : Int)) = true := decide_eq_true h7i
      simp only [h7e]
      clear h7 h7i h7d h7e
      go_loopw [15, 16] (fun nv iv wx => ∃ (r m : Nat) (i : Int) (s' : CP Enc), nv = .int .i64 m ∧ iv = .int .i64 i ∧ i = (r : Int) - 1 ∧ r ≤ 8 ∧ 2 ^ (8 - r) ≤ m ∧ m < 2 ^ (8 - r + 1) ∧ farGo inC (4096 + X0) X far r m s' = RR ∧ LzAt (IC b O) O T wx k st rep s' ∧ s'.d.cnt + r < 1000000 ∧ Frm (Wr O k) w wx) (fun _ iv _ => (intOf iv + 1).toNat)
      case atStart => exact ⟨8, 1, 7, s, rfl, rfl, by omega, by omega, by simp, by simp, HQ2.out, ATD.out, HCN.out, FD.out⟩
      case round =>
        obtain ⟨r, m, i, s', rfl, rfl, hi, hr, hm1, hm2, hgo, hat, hcn, hfr⟩ := hrel
        have GO := Lib.hid hgo
        have AT := Lib.hid hat
        have FR := Lib.hid hfr
        have CN := Lib.hid hcn
        clear hgo hat hfr hcn ATD FD HQ2
        cases r with
        | zero =>
          obtain rfl : i = -1 := by omega
          have HM1 := Lib.hid hm1
          have HM2 := Lib.hid hm2
          clear hi hm1 hm2
          go_wp2
          simp only [Exit.noGoto_normal]
          go_wp2
          go_meet
          case rel => exact ⟨0, m, -1, s', rfl, rfl, by omega, by omega, HM1.out, HM2.out, GO.out, AT.out, CN.out, FR.out⟩
        | succ q =>
          obtain rfl : i = (q : Int) := by omega
          clear hi
          have hpow : m < 2 ^ 8 := Nat.lt_of_lt_of_le hm2 (Nat.pow_le_pow_right (by omega) (by omega))
          have hmb : m < 256 := by omega
          have HM1 := Lib.hid hm1
          have HM2 := Lib.hid hm2
          have hq64 : min q 64 = q := by omega
          have hqu : IntKind.u64.wrap (q : Int) = (q : Int) := Go.IntWalk.u64_in _ (by omega)
          obtain ⟨Pq, hPq⟩ : ∃ P, 2 ^ q = P := ⟨_, rfl⟩
          have hPi : (2 : Int) ^ q = (Pq : Int) := by rw [← hPq]; simp
          have hFi : (far : Int) / (Pq : Int) = ((far / Pq : Nat) : Int) := (Int.natCast_ediv far Pq).symm
          have hFl : far / Pq ≤ far := Nat.div_le_self _ _
          obtain ⟨Fq, hFq⟩ : ∃ F, far / Pq = F := ⟨_, rfl⟩
          rw [hFq] at hFi hFl
          obtain ⟨W, hW⟩ : ∃ W, Fq % 2 = W := ⟨_, rfl⟩
          have hWi : bits .and .i64 (Fq : Int) 1 = (W : Int) := by
            have := and_i64 (a := Fq) (b := 1) (by omega) (by omega)
            rw [nat_mask1, hW] at this
            exact this
          have hWb : W ≤ 1 := by omega
          obtain ⟨Y, hY⟩ : ∃ Y, X / Pq = Y := ⟨_, rfl⟩
          have hYi : (X : Int) / (Pq : Int) = (Y : Int) := by rw [← hY]; exact (Int.natCast_ediv X Pq).symm
          have hYb : Y < 256 := by have := Nat.div_le_self X Pq; have := HX8.out; omega
          obtain ⟨V, hV⟩ : ∃ V, Y % 2 = V := ⟨_, rfl⟩
          have hVi : bits .and .i64 (Y : Int) 1 = (V : Int) := by
            have := and_i64 (a := Y) (b := 1) (by omega) (by omega)
            rw [nat_mask1, hV] at this
            exact this
          have hVb : V ≤ 1 := by omega
          have hgo : (if V = W then farGo inC (4096 + X0) X far q (2 * m + V) (bitAt inC (4096 + X0 + (1 + W) * 256 + m) V s').2
              else treeGo inC (4096 + X0) X q (2 * m + V) (bitAt inC (4096 + X0 + (1 + W) * 256 + m) V s').2) = RR := by
            have h := GO.out
            unfold farGo at h
            simp only at h
            rw [hPq, hFq, hW, hY, hV, bitIn_val _ _ _ hVb] at h
            exact h
          obtain ⟨WW, hWW⟩ : ∃ x, (1 + W) * 256 = x := ⟨_, rfl⟩
          obtain ⟨V1, hV1⟩ : ∃ x, 1 + W = x := ⟨_, rfl⟩
          have hV1i : (1 : Int) + (W : Int) = (V1 : Int) := by omega
          have hV1b : V1 ≤ 2 := by omega
          have hWWi : (V1 : Int) * 256 = (WW : Int) := by omega
          obtain ⟨IX, hIX⟩ : ∃ x, WW + m = x := ⟨_, rfl⟩
          have hIXi : (WW : Int) + (m : Int) = (IX : Int) := by omega
          have hIXb : IX < 768 := by omega
          have hw1 : IntKind.i64.wrap (V1 : Int) = (V1 : Int) := Go.IntWalk.i64_in _ (by omega)
          have hw2 : IntKind.i64.wrap (WW : Int) = (WW : Int) := Go.IntWalk.i64_in _ (by omega)
          have hw3 : IntKind.i64.wrap (IX : Int) = (IX : Int) := Go.IntWalk.i64_in _ (by omega)
          have hWWb : WW ≤ 512 := by omega
          have HP := Lib.hid (HPL.out (X0 + IX) (by have := HFIT.out; omega))
          have eix : 4096 + X0 + (1 + W) * 256 + m = 4096 + (X0 + IX) := by omega
          rw [eix] at hgo
          have ATD := Lib.hid (AT.out.later (IC.keep b O) ((Frm.refl _ _).drew))
          obtain ⟨s2, hs2⟩ : ∃ x, (bitAt inC (4096 + (X0 + IX)) V s').2 = x := ⟨_, rfl⟩
          rw [hs2] at hgo
          have hcn2 : s2.d.cnt + q < 1000000 := by have := cnt_bitIn1 (4096 + (X0 + IX)) V s'; rw [hs2] at this; have := CN.out; omega
          have hob := or_bit (m := m) (b := V) (by omega) hVb
          have HS2 := Lib.hid hs2
          have CN2 := Lib.hid hcn2
          have hmw : IntKind.i64.wrap ((m : Int) * 2) = (m : Int) * 2 := Go.IntWalk.i64_in _ (by omega)
          have G2 := Lib.hid hgo
          clear hm1 hm2 hpow hs2 hcn2 hgo hPq hFq hW hWW hIX hV1 eix GO hY hV
          have hbw : V = W ∨ ¬ V = W := by omega
          rcases hbw with hbw | hbw
          · have hne : ((V : Int) != (W : Int)) = false := by rw [hbw]; simp
            have G3 := Lib.hid (show farGo inC (4096 + X0) X far q (2 * m + V) s2 = RR by have := G2.out; rw [if_pos hbw] at this; exact this)
            clear G2 hbw
            go_wp2
            go_region_with (first
              | (go_at_call 35; refine (ibit_lz ATD.out (by have := CN.out; omega) (4096 + (X0 + IX)) k.lb (X0 + IX) V V rfl hVb HP.out.1 HP.out.2).mono ?_; rintro e w2 ⟨rfl, h2, f2⟩; rw [HS2.out] at h2))
            all_goals
              have H2 := Lib.hid h2
              have F2 := Lib.hid ((FR.out.drew).trans f2)
              clear h2 f2
              go_wp2
              have e1 : 2 ^ (8 - q) ≤ 2 * m + V := by
                have := HM1.out
                rw [show 8 - q = 8 - (q + 1) + 1 by omega, Nat.pow_succ]; omega
              have e2 : 2 * m + V < 2 ^ (8 - q + 1) := by
                have := HM2.out
                rw [show 8 - q + 1 = 8 - (q + 1) + 1 + 1 by omega, Nat.pow_succ]; omega
              exact ⟨⟨q, 2 * m + V, (q : Int) - 1, _, by go_num, by go_num, rfl, by omega, e1, e2, G3.out, H2.out, CN2.out, F2.out⟩, by simp [intOf]⟩
          · have hne : ((V : Int) != (W : Int)) = true := by rw [bne_iff_ne]; omega
            have G3 := Lib.hid (show treeGo inC (4096 + X0) X q (2 * m + V) s2 = RR by have := G2.out; rw [if_neg hbw] at this; exact this)
            clear G2 hbw
            go_wp2
            go_region_with (first
              | (go_at_call 35; refine (ibit_lz ATD.out (by have := CN.out; omega) (4096 + (X0 + IX)) k.lb (X0 + IX) V V rfl hVb HP.out.1 HP.out.2).mono ?_; rintro e w2 ⟨rfl, h2, f2⟩; rw [HS2.out] at h2))
            all_goals
              have H2 := Lib.hid h2
              have F2 := Lib.hid ((FR.out.drew).trans f2)
              clear h2 f2
              go_wp2
              simp only [Exit.noGoto_normal]
              go_wp2
              go_meet
              case rel =>
                refine ⟨q, 2 * m + V, (q : Int) - 1, _, by go_num, by go_num, rfl, by omega, ?_, ?_, G3.out, H2.out, CN2.out, F2.out⟩
                · have := HM1.out
                  rw [show 8 - q = 8 - (q + 1) + 1 by omega, Nat.pow_succ]; omega
                · have := HM2.out
                  rw [show 8 - q + 1 = 8 - (q + 1) + 1 + 1 by omega, Nat.pow_succ]; omega
    · have h7i : (st : Int) < 7 := by omega
      have h7d : decide (7 ≤ st) = false := decide_eq_false h7
      have hRR := HQ.out
      rw [if_neg h7] at hRR
      have HQ2 := Lib.hid hRR
      clear hRR HQ AT HRR
      go_wp2
      go_meet
      case rel => exact ⟨8, 1, 7, s, rfl, rfl, by omega, by omega, by simp, by simp, HQ2.out, ATD.out, HCN.out, FD.out⟩
  case rest =>
    obtain ⟨r0, m0, i0, s0, rfl, rfl, hi0, hr0, hm01, hm02, hgo0, hat0, hcn0, hfr0⟩ := hcut
    have GO0 := Lib.hid hgo0
    have AT0 := Lib.hid hat0
    have FR0 := Lib.hid hfr0
    have CN0 := Lib.hid hcn0
    clear hgo0 hat0 hfr0 hcn0 AT ATD FD HQ
    have HI0 := Lib.hid hi0
    clear hi0
    go_wp2
    go_loopw [15, 16] (fun nv iv wx => ∃ (r m : Nat) (i : Int) (s' : CP Enc), nv = .int .i64 m ∧ iv = .int .i64 i ∧ i = (r : Int) - 1 ∧ r ≤ 8 ∧ 2 ^ (8 - r) ≤ m ∧ m < 2 ^ (8 - r + 1) ∧ treeGo inC (4096 + X0) X r m s' = RR ∧ LzAt (IC b O) O T wx k st rep s' ∧ s'.d.cnt + r < 1000000 ∧ Frm (Wr O k) w wx) (fun _ iv _ => (intOf iv + 1).toNat)
    case atStart => exact ⟨r0, m0, i0, s0, rfl, rfl, HI0.out, hr0, hm01, hm02, GO0.out, AT0.out, CN0.out, FR0.out⟩
    case round =>
      obtain ⟨r, m, i, s', rfl, rfl, hi, hr, hm1, hm2, hgo, hat, hcn, hfr⟩ := hrel
      have GO := Lib.hid hgo
      have AT := Lib.hid hat
      have FR := Lib.hid hfr
      have CN := Lib.hid hcn
      clear hgo hat hfr hcn CN0 GO0 AT0 FR0 HI0 hm01 hm02 hr0
      cases r with
      | zero =>
        obtain rfl : i = -1 := by omega
        clear hi
        have GO2 : (m, s') = RR := GO.out
        have hma : 256 ≤ m := by simpa using hm1
        have hmb : m < 512 := by simpa using hm2
        clear hm1 hm2 hr
        go_wp2
        go_ret
        rw [← HRR.out, ← GO2]
        refine ⟨ret_u32 ?_, AT.out, FR.out⟩
        show _ = ((m - 256 : Nat) : Int)
        omega
      | succ q =>
        obtain rfl : i = (q : Int) := by omega
        clear hi
        have hpow : m < 2 ^ 8 := Nat.lt_of_lt_of_le hm2 (Nat.pow_le_pow_right (by omega) (by omega))
        have hml : m < 768 := by omega
        have hmb : m < 256 := by omega
        have hpos : 1 ≤ m := Nat.le_trans (Nat.one_le_two_pow) hm1
        have HP := Lib.hid (HPL.out (X0 + m) (by have := HFIT.out; omega))
        have HM1 := Lib.hid hm1
        have HM2 := Lib.hid hm2
        have ATD := Lib.hid (AT.out.later (IC.keep b O) ((Frm.refl _ _).drew))
        have hq64 : min q 64 = q := by omega
        have hqu : IntKind.u64.wrap (q : Int) = (q : Int) := Go.IntWalk.u64_in _ (by omega)
        obtain ⟨Pq, hPq⟩ : ∃ P, 2 ^ q = P := ⟨_, rfl⟩
        have hPi : (2 : Int) ^ q = (Pq : Int) := by rw [← hPq]; simp
        obtain ⟨Y, hY⟩ : ∃ Y, X / Pq = Y := ⟨_, rfl⟩
        have hYi : (X : Int) / (Pq : Int) = (Y : Int) := by rw [← hY]; exact (Int.natCast_ediv X Pq).symm
        have hYb : Y < 256 := by have := Nat.div_le_self X Pq; have := HX8.out; omega
        obtain ⟨V, hV⟩ : ∃ V, Y % 2 = V := ⟨_, rfl⟩
        have hVi : bits .and .i64 (Y : Int) 1 = (V : Int) := by
          have := and_i64 (a := Y) (b := 1) (by omega) (by omega)
          rw [nat_mask1, hV] at this
          exact this
        have hVb : V ≤ 1 := by omega
        obtain ⟨s2, hs2⟩ : ∃ x, (bitAt inC (4096 + X0 + m) V s').2 = x := ⟨_, rfl⟩
        have hgo : treeGo inC (4096 + X0) X q (2 * m + V) s2 = RR := by
          have h := GO.out
          unfold treeGo at h
          rw [hPq, hY, hV, bitIn_val _ _ _ hVb, hs2] at h
          exact h
        have hcn2 : s2.d.cnt + q < 1000000 := by have := cnt_bitIn1 (4096 + X0 + m) V s'; rw [hs2] at this; have := CN.out; omega
        have hob := or_bit (m := m) (b := V) (by omega) hVb
        have HS2 := Lib.hid hs2
        have CN2 := Lib.hid hcn2
        have G3 := Lib.hid hgo
        have hmw : IntKind.i64.wrap ((m : Int) * 2) = (m : Int) * 2 := Go.IntWalk.i64_in _ (by omega)
        clear hm1 hm2 hpow hs2 hcn2 hgo hPq hY hV
        go_wp2
        go_region_with (first
          | (go_at_call 35; refine (ibit_lz ATD.out (by have := CN.out; omega) (4096 + X0 + m) k.lb (X0 + m) V V rfl hVb (by rw [Nat.add_assoc]; exact HP.out.1) (by rw [Nat.add_assoc]; exact HP.out.2)).mono ?_; rintro e w2 ⟨rfl, h2, f2⟩; rw [HS2.out] at h2))
        all_goals
          have H2 := Lib.hid h2
          have F2 := Lib.hid ((FR.out.drew).trans f2)
          clear h2 f2
          go_wp2
          refine ⟨⟨q, 2 * m + V, (q : Int) - 1, _, rfl, by go_num, rfl, by omega, ?_, ?_, G3.out, H2.out, CN2.out, F2.out⟩, by simp [intOf]⟩
          · have := HM1.out
            rw [show 8 - q = 8 - (q + 1) + 1 by omega, Nat.pow_succ]; omega
          · have := HM2.out
            rw [show 8 - q + 1 = 8 - (q + 1) + 1 + 1 by omega, Nat.pow_succ]; omega
end Go.Proofs.Ytefbjamepbkklaa

/- A state of chances tq9 put in by: New and Reset. -/
namespace Go.Proofs.Ytefbjamepbkklaa
open Go.RowKit Rng Lz
set_option linter.unusedVariables false
set_option linter.unusedSimpArgs false
theorem min3_put {P : Program} (ts : Array TypeId) (t : TypeId) (x y z n : Int) (h : min x (min y z) = n) (w : World) : (Builtin.min_ ts t #[.int .i64 x, .int .i64 y, .int .i64 z]).run P w = .ok (.int .i64 n) w := by
  have e : (if z < (if y < x then y else x) then z else (if y < x then y else x)) = n := by split <;> split <;> omega
  rw [← e]
  simp [Builtin.min_, Builtin.min2]
theorem putreset_nil (w : World) : Calls Try.prog 13 #[.pointer none] w fun e w' => e = .returned (.tuple #[]) ∧ w = w' := by
  go_enter Try.func13, Try.ntmps13
  go_wp2
  go_end0
  exact ⟨rfl, rfl⟩
theorem putreset_st (k0 lc lp pb st : Nat) (rep : Nat → Nat) (pr : Pr) (lv : Value) (T : TypeId) (w : World) (hp : Pts w k0 (qcells lc lp pb st rep pr lv) T) (hcl : lc + lp ≤ 4) (hlv : ∃ A n c, lv = .slice A n c) (hpb : pb ≤ 4) :
    Calls Try.prog 13 #[.pointer (some ⟨k0, 0, none⟩)] w fun e w' => e = .returned (.tuple #[]) ∧ ∃ lb, w.heap.size ≤ lb ∧ Pts w' k0 (mcells ⟨k0, lb, lc, lp, pb⟩ 0 (fun _ => 0) (fun _ => 1024)) T ∧ Pts w' lb (lcells ⟨k0, lb, lc, lp, pb⟩ (fun _ => 1024)) 48 ∧ Frm (· = k0) w w' := by
  have HP := Lib.hid hp
  clear hp
  go_enter Try.func13, Try.ntmps13
  go_wp2_with fail
  refine (mreset_any k0 lc lp pb st rep pr lv T w HP.out hcl hlv hpb).mono ?_; rintro e w1 ⟨rfl, lb, h1, h2, h3, f1⟩
  have H2 := Lib.hid h2
  have H3 := Lib.hid h3
  have F1 := Lib.hid f1
  clear h2 h3 f1
  go_wp2
  go_end0
  exact ⟨rfl, lb, h1, H2.out, H3.out, F1.out⟩
theorem zero66_size : Try.zeroCells67.size = 1869 := by kernel_rfl
theorem made_hdr (lc lp pb : Nat) : ((Try.zeroCells65.setIfInBounds 0 (.int .i64 (lc : Int))).setIfInBounds 1 (.int .i64 (lp : Int))).setIfInBounds 2 (.int .i64 (pb : Int)) = qcells lc lp pb 0 (fun _ => 0) (fun _ => 0) (.slice none 0 0) := by
  rw [zero_q, qcells_hdr]
theorem made_put (lc lp pb : Nat) : Array.foldl (fun (cs : Array Value) x => cs.setIfInBounds x.2 x.1) Try.zeroCells67 (((Try.zeroCells65.setIfInBounds 0 (.int .i64 (lc : Int))).setIfInBounds 1 (.int .i64 (lp : Int))).setIfInBounds 2 (.int .i64 (pb : Int))).zipIdx 0 1869 = qcells lc lp pb 0 (fun _ => 0) (fun _ => 0) (.slice none 0 0) := by
  rw [made_hdr]
  exact fold_all _ _ 1869 (qcells_size _ _ _ _ _ _ _) zero66_size
set_option maxRecDepth 100000 in
set_option maxHeartbeats 1000000 in
theorem putnew_bad (lc lp pb : Int) (h : min lc (min lp pb) < 0 ∨ 4 < lc ∨ 4 < lp ∨ 4 < lc + lp ∨ 4 < pb) (h1 : -9223372036854775808 ≤ lc ∧ lc ≤ 9223372036854775807) (h2 : -9223372036854775808 ≤ lp ∧ lp ≤ 9223372036854775807) (w : World) :
    Calls Try.prog 11 #[.int .i64 lc, .int .i64 lp, .int .i64 pb] w fun e w' => e = .returned (.tuple #[.pointer none, .int .i64 2]) ∧ w = w' := by
  obtain ⟨m, hm⟩ : ∃ m, min lc (min lp pb) = m := ⟨_, rfl⟩
  have hmin := fun w => min3_put (P := Try.prog) #[3, 3, 3] 3 _ _ _ _ hm w
  have h3 : m < 0 ∨ (0 ≤ m ∧ 4 < lc) ∨ (0 ≤ m ∧ lc ≤ 4 ∧ 4 < lp) ∨ (0 ≤ m ∧ lc ≤ 4 ∧ lp ≤ 4 ∧ 4 < lc + lp) ∨ (0 ≤ m ∧ lc ≤ 4 ∧ lp ≤ 4 ∧ lc + lp ≤ 4 ∧ 4 < pb) := by omega
  clear h h1 h2
  rcases h3 with h | ⟨h, h1⟩ | ⟨h, h1, h2⟩ | ⟨h, h1, h2, h3⟩ | ⟨h, h1, h2, h3, h4⟩
  · clear hm
    go_enter Try.func11, Try.ntmps11
    go_wp2
    go_ret2
    exact ⟨rfl, rfl⟩
  · clear hm
    go_enter Try.func11, Try.ntmps11
    go_wp2
    go_ret2
    exact ⟨rfl, rfl⟩
  · clear hm
    go_enter Try.func11, Try.ntmps11
    go_wp2
    go_ret2
    exact ⟨rfl, rfl⟩
  · have hw : IntKind.i64.wrap (lc + lp) = lc + lp := Go.IntWalk.i64_in _ (by omega)
    clear hm
    go_enter Try.func11, Try.ntmps11
    go_wp2
    go_ret2
    exact ⟨rfl, rfl⟩
  · have hw : IntKind.i64.wrap (lc + lp) = lc + lp := Go.IntWalk.i64_in _ (by omega)
    clear hm
    go_enter Try.func11, Try.ntmps11
    go_wp2
    go_ret2
    exact ⟨rfl, rfl⟩
set_option maxRecDepth 100000 in
set_option maxHeartbeats 1000000 in
theorem putnew_p (lc lp pb : Nat) (h1 : lc + lp ≤ 4) (h2 : pb ≤ 4) (w : World) : Calls Try.prog 11 #[.int .i64 lc, .int .i64 lp, .int .i64 pb] w fun e w' => ∃ b lb, e = .returned (.tuple #[.pointer (some ⟨b, 0, none⟩), .int .i64 0]) ∧ w.heap.size ≤ b ∧ w.heap.size ≤ lb ∧ b ≠ lb ∧
    Pts w' b (mcells ⟨b, lb, lc, lp, pb⟩ 0 (fun _ => 0) (fun _ => 1024)) 67 ∧ Pts w' lb (lcells ⟨b, lb, lc, lp, pb⟩ (fun _ => 1024)) 48 ∧ Below w.heap.size w w' := by
  obtain ⟨m, hm⟩ : ∃ m : Nat, min lc (min lp pb) = m := ⟨_, rfl⟩
  have hmi : min (lc : Int) (min (lp : Int) (pb : Int)) = (m : Int) := by omega
  have hmin := fun w => min3_put (P := Try.prog) #[3, 3, 3] 3 _ _ _ _ hmi w
  have e1 : (lc : Int) ≤ 4 := by omega
  have e2 : (lp : Int) ≤ 4 := by omega
  have e3 : (lc : Int) + (lp : Int) ≤ 4 := by omega
  have e4 : (pb : Int) ≤ 4 := by omega
  have H12 := Lib.hid (And.intro h1 h2)
  clear hm hmi h1 h2
  go_enter Try.func11, Try.ntmps11
  go_upto_region 3 with fail
  have hma := made_put lc lp pb
  clear e1 e2 e3 e4 hmin
  go_wp2_with fail
  have hp := Pts.new w (qcells lc lp pb 0 (fun _ => 0) (fun _ => 0) (.slice none 0 0)) 67
  have hb := (Below.refl w.heap.size w).alloc (Nat.le_refl _) (.cells (qcells lc lp pb 0 (fun _ => 0) (fun _ => 0) (.slice none 0 0)) 67)
  have hsz : (w.alloc (.cells (qcells lc lp pb 0 (fun _ => 0) (fun _ => 0) (.slice none 0 0)) 67)).heap.size = w.heap.size + 1 := by show (w.heap.push _).size = _; rw [Array.size_push]
  generalize w.alloc (.cells (qcells lc lp pb 0 (fun _ => 0) (fun _ => 0) (.slice none 0 0)) 67) = wa at *
  refine (putreset_st w.heap.size lc lp pb 0 _ _ _ 67 wa hp H12.out.1 ⟨none, 0, 0, rfl⟩ H12.out.2).mono ?_; rintro e w1 ⟨rfl, lb, h1, h2, h3, f1⟩
  have H2 := Lib.hid h2
  have H3 := Lib.hid h3
  have B1 := Lib.hid (hb.trans (f1.below hb.size (fun q hq => by omega)))
  have hlb : w.heap.size < lb := by omega
  clear h2 h3 f1 hma
  go_wp2
  go_ret2
  exact ⟨w.heap.size, lb, rfl, Nat.le_refl _, by omega, by omega, H2.out, H3.out, B1.out⟩
end Go.Proofs.Ytefbjamepbkklaa

/- A writer in memory; a byte that it writes: the walk. -/
namespace Go.Proofs.Ytefbjamepbkklaa
open Go.RowKit Rng Lz Win
set_option linter.unusedVariables false
set_option linter.unusedSimpArgs false
/-- The blocks of a writer: its encoder, the writer. -/
structure WB where
  eb : Nat
  xb : Nat
/-- The blocks that a writer writes. -/
def WZ (k : LK) (O : Nat → Prop) (g : WB) (q : Nat) : Prop := Wr O k q ∨ q = g.xb
/-- A writer at work on a text. -/
structure WrAt (O : Nat → Prop) (w : World) (k : LK) (g : WB) (A : Option Addr) (c : Nat) (bs : List UInt8) (shift : Int) (pos : Nat) (st : Nat) (rep : Nat → Nat) (s : CP Enc) : Prop where
  lz : LzAt (IC g.eb O) O 67 w k st rep s
  p : Pts w g.xb #[.pointer (some ⟨k.sb, 0, none⟩), .pointer (some ⟨g.eb, 0, none⟩), .slice A bs.length c, .int .i64 pos, .int .i64 shift] 88
  r : BRow w w.heap.size A bs
  off : BOff (WZ k O g) A bs
  x : ¬ O g.xb
section
variable {O : Nat → Prop} {w w' : World} {k : LK} {g : WB} {A : Option Addr} {c : Nat} {bs : List UInt8} {shift : Int} {pos st : Nat} {rep : Nat → Nat} {s : CP Enc}
theorem BRow.apart {B : Nat} {N : Nat → Prop} (h : BRow w B A bs) (ho : BOff N A bs) (hf : Frm N w w') : BRow w' B A bs := by
  intro h0
  obtain ⟨b, off, rfl, hlt, hc⟩ := h h0
  refine ⟨b, off, rfl, hlt, fun j hj => ?_⟩
  have hN : ¬ N b := ho h0 _ rfl
  have hcell := hc j hj
  have hb := World.block_lt_of_cell? w ⟨b, off + j, none⟩ hcell
  rw [World.cell?_of_block (hf.block b hb hN)]
  exact hcell
theorem WrAt.lzStep {st' : Nat} {rep' : Nat → Nat} {s' : CP Enc} (h : WrAt O w k g A c bs shift pos st rep s) (hl : LzAt (IC g.eb O) O 67 w' k st' rep' s') (hf : Frm (Wr O k) w w') : WrAt O w' k g A c bs shift pos st' rep' s' := by
  refine ⟨hl, h.p.frm hf ?_, (h.r.apart h.off (hf.mono fun q _ e => .inl e)).more hf.size, h.off, h.x⟩
  rintro (e | e | e)
  · exact h.x e
  · exact h.p.ne_of h.lz.m (by decide) e
  · exact h.p.ne_of h.lz.l (by decide) e
theorem WrAt.drewN (h : WrAt O w k g A c bs shift pos st rep s) (n : Nat) : WrAt O (w.drewN n) k g A c bs shift pos st rep s := h.lzStep (h.lz.later (IC.keep _ _) ((Frm.refl _ w).drewN n)) ((Frm.refl _ w).drewN n)
theorem WrAt.drew (h : WrAt O w k g A c bs shift pos st rep s) : WrAt O w.drew k g A c bs shift pos st rep s := h.lzStep (h.lz.later (IC.keep _ _) ((Frm.refl _ w).drew)) ((Frm.refl _ w).drew)
theorem WrAt.move (h : WrAt O w k g A c bs shift pos st rep s) (pos' : Nat) : WrAt O (w.setCell ⟨g.xb, 3, none⟩ (.int .i64 pos')) k g A c bs shift pos' st rep s ∧ Frm (WZ k O g) w (w.setCell ⟨g.xb, 3, none⟩ (.int .i64 pos')) := by
  have hf : Frm (· = g.xb) w (w.setCell ⟨g.xb, 3, none⟩ (.int .i64 pos')) := Frm.setCell (S := fun x => x = g.xb) (Frm.refl _ w) (p := ⟨g.xb, 3, none⟩) (by rfl) _
  refine ⟨⟨h.lz.frm (IC.keep _ _) hf ?_, h.p.set 3 _, (h.r.apart h.off (hf.mono fun q _ e => .inr e)).more hf.size, h.off, h.x⟩, hf.mono fun q _ e => .inr e⟩
  rintro q (e | e | e) e2
  · exact h.x (e2 ▸ e)
  · exact h.p.ne_of h.lz.m (by decide) (e2.symm.trans e)
  · exact h.p.ne_of h.lz.l (by decide) (e2.symm.trans e)
theorem WrAt.cells (h : WrAt O w k g A c bs shift pos st rep s) : w.cell? ⟨g.xb, 0, none⟩ = some (.pointer (some ⟨k.sb, 0, none⟩)) ∧ w.cell? ⟨g.xb, 1, none⟩ = some (.pointer (some ⟨g.eb, 0, none⟩)) ∧ w.cell? ⟨g.xb, 2, none⟩ = some (.slice A bs.length c) ∧
    w.cell? ⟨g.xb, 3, none⟩ = some (.int .i64 pos) ∧ w.cell? ⟨g.xb, 4, none⟩ = some (.int .i64 shift) ∧ w.cell? ⟨k.sb, 3, none⟩ = some (.int .i64 st) ∧ w.cell? ⟨k.sb, 4, none⟩ = some (.int .u32 (rep 0)) := by
  refine ⟨by rw [h.p.cell]; rfl, by rw [h.p.cell]; rfl, by rw [h.p.cell]; rfl, by rw [h.p.cell]; rfl, by rw [h.p.cell]; rfl, (h.lz.hdr (i := 3) (by omega)).1, (h.lz.hdr (i := 4) (by omega)).1⟩
theorem WrAt.byte (h : WrAt O w k g A c bs shift pos st rep s) : 0 < bs.length → ∃ b off, A = some ⟨b, off, none⟩ ∧ ∀ j, j < bs.length → w.cell? ⟨b, off + j, none⟩ = some (.int .u8 ((bs.getD j 0).toNat : Int)) := by
  intro h0
  obtain ⟨b, off, e, _, hc⟩ := h.r h0
  exact ⟨b, off, e, hc⟩
/-- Fewer blocks are the writer's own: those of E are none. -/
theorem WrAt.less {E : Nat → Prop} (h : WrAt O w k g A c bs shift pos st rep s) (hE : ∀ q, E q → q < w.heap.size) (hEe : ¬ E g.eb) (hEv : ∀ v, EncAt w 111 0 g.eb 0 v s.d → ∀ q, v.ownBlock = some q → ¬ E q) :
    WrAt (fun q => O q ∧ ¬ E q) w k g A c bs shift pos st rep s := by
  obtain ⟨⟨v, hv, hvo⟩, hb, hz, hi⟩ := h.lz.c
  refine ⟨⟨⟨⟨v, hv, fun q hq => ⟨hvo q hq, hEv v hv q hq⟩⟩, ⟨hb, hEe⟩, fun q hq => ⟨hz q hq, fun e => by have := hE q e; omega⟩, hi⟩, h.lz.m, h.lz.l, h.lz.fit, ⟨fun e => h.lz.ne.1 e.1, fun e => h.lz.ne.2.1 e.1, h.lz.ne.2.2⟩⟩, h.p, h.r, ?_, fun e => h.x e.1⟩
  intro h0 ad e hz2
  refine h.off h0 ad e ?_
  rcases hz2 with (e1 | e1) | e1
  · exact .inl (.inl e1.1)
  · exact .inl (.inr e1)
  · exact .inr e1
/-- A block is made, which is not the writer's own. -/
theorem WrAt.alloc (h : WrAt O w k g A c bs shift pos st rep s) (X : Obj) : WrAt O (w.alloc X) k g A c bs shift pos st rep s := h.lzStep (h.lz.later (IC.keep _ _) ((Frm.refl _ w).alloc X)) ((Frm.refl _ w).alloc X)
end
/-- What a byte that is put in makes of the state. -/
def putLit (k : LK) (bs : List UInt8) (tot pos st : Nat) (rep : Nat → Nat) (s : CP Enc) : CP Enc :=
  (litAt inC k.lc k.lp st tot (if 0 < tot ∧ 0 < pos then (bs.getD (pos - 1) 0).toNat else 0) (if rep 0 + 1 ≤ pos then (bs.getD (pos - (rep 0 + 1)) 0).toNat else 0) (bs.getD pos 0).toNat (bitAt inC (8 + st * 16 + tot % 2 ^ k.pb) 0 s).2).2
end Go.Proofs.Ytefbjamepbkklaa

/- A byte that is written: the walk. -/
namespace Go.Proofs.Ytefbjamepbkklaa
open Go.RowKit Rng Lz Win
set_option linter.unusedVariables false
set_option linter.unusedSimpArgs false
set_option maxRecDepth 100000 in
set_option maxHeartbeats 2000000 in
theorem putlit_p (O : Nat → Prop) (w : World) (k : LK) (g : WB) (A : Option Addr) (c : Nat) (bs : List UInt8) (shift : Int) (pos tot st : Nat) (rep : Nat → Nat) (s : CP Enc) (h : WrAt O w k g A c bs shift pos st rep s) (hk : k.Ok) (htot : (pos : Int) + shift = (tot : Int)) (ht : tot < 4611686018427387904)
    (hpos : pos < bs.length) (hlen : bs.length ≤ 140737488355328) (hst : st < 12) (hrep : rep 0 < 4294967296) (hc : s.d.cnt + 9 < 1000000) :
    Calls Try.prog 25 #[.pointer (some ⟨g.xb, 0, none⟩)] w fun e w' => e = .returned (.tuple #[]) ∧ WrAt O w' k g A c bs shift (pos + 1) (behS st 0) rep (putLit k bs tot pos st rep s) ∧ Frm (WZ k O g) w w' := by
  obtain ⟨AH, hAH⟩ : ∃ a, (if 0 < tot ∧ 0 < pos then (bs.getD (pos - 1) 0).toNat else 0) = a := ⟨_, rfl⟩
  obtain ⟨FA, hFA⟩ : ∃ a, (if rep 0 + 1 ≤ pos then (bs.getD (pos - (rep 0 + 1)) 0).toNat else 0) = a := ⟨_, rfl⟩
  obtain ⟨X, hX⟩ : ∃ a, (bs.getD pos 0).toNat = a := ⟨_, rfl⟩
  obtain ⟨p, hp⟩ : ∃ p, tot % 2 ^ k.pb = p := ⟨_, rfl⟩
  obtain ⟨s1, hs1⟩ : ∃ s1, (bitAt inC (8 + st * 16 + p) 0 s).2 = s1 := ⟨_, rfl⟩
  obtain ⟨s2, hs2⟩ : ∃ s2, (litAt inC k.lc k.lp st tot AH FA X s1).2 = s2 := ⟨_, rfl⟩
  have hput : putLit k bs tot pos st rep s = s2 := by unfold putLit; rw [hAH, hFA, hX, hp, hs1, hs2]
  rw [hput]
  have hah : AH < 256 := by rw [← hAH]; split; exact (bs.getD (pos - 1) 0).toNat_lt; omega
  have hfa : FA < 256 := by rw [← hFA]; split; exact (bs.getD (pos - (rep 0 + 1)) 0).toNat_lt; omega
  have hXb : X < 256 := by rw [← hX]; exact (bs.getD pos 0).toNat_lt
  have hc1 : s1.d.cnt ≤ s.d.cnt + 1 := by rw [← hs1]; exact cnt_bitIn1 _ _ _
  have hlitv : (litAt inC k.lc k.lp st tot AH FA X s1).1 = X := by rw [← hX]; exact litIn_any _ _ _ _ _ _ _ _
  have hp16 : p < 16 := by
    have h1 : 2 ^ k.pb ≤ 2 ^ 4 := Nat.pow_le_pow_right (by omega) hk.b
    have h2 : tot % 2 ^ k.pb < 2 ^ k.pb := Nat.mod_lt _ (Nat.lt_of_lt_of_le (by omega) (Nat.one_le_two_pow))
    omega
  obtain ⟨ab, off, hA, hcell⟩ := h.byte (by omega)
  have HH := Lib.hid h
  have HK := Lib.hid hk
  have HPL := Lib.hid (fun (w1 : World) (h1 : LzAt (IC g.eb O) O 67 w1 k st rep s) => place_any 67 k st tot rep s w1 h1 hk ht)
  rw [hp] at HPL
  have P0 := Lib.hid (plm k (i := 8 + st * 16 + p) (by omega) (by omega))
  obtain ⟨d0, d1, d2, d3, d4, d5, d6⟩ := h.cells
  have hsti : (st : Int) < 12 := by omega
  have hpi : (p : Int) < 16 := by omega
  have htw : IntKind.i64.wrap (tot : Int) = (tot : Int) := Go.IntWalk.i64_in _ (by omega)
  have HAH := Lib.hid hAH
  have HFA := Lib.hid hFA
  have HX := Lib.hid hX
  have HS1 := Lib.hid hs1
  have HS2 := Lib.hid hs2
  have HC := Lib.hid (And.intro hc hc1)
  have HLV := Lib.hid hlitv
  have HREP := Lib.hid hrep
  have HCELL := Lib.hid hcell
  subst hA
  clear hcell h hk hp hAH hFA hX hs1 hs2 hput hc hc1 hlitv hrep
  go_enter Try.func25, Try.ntmps25
  go_wp2
  go_quiet (fail)
  have HD := Lib.hid ((HH.out.drewN nq).drew)
  have FD : Hid (Frm (WZ k O g) w (w.drewN nq).drew) := Lib.hid (((Frm.refl _ w).drewN nq).drew)
  go_upto_region 2 with fail
  go_cut [36] from 37 (fun v wx => WrAt O wx k g (some ⟨ab, off, none⟩) c bs shift pos st rep s1 ∧ Frm (WZ k O g) w wx)
  case first =>
    go_region_with (first
      | (go_at_call 36; refine (HPL.out _ HD.out.lz).mono ?_; rintro e w2 ⟨rfl, rfl⟩)
      | (go_at_call 35; refine (ibit_lz HD.out.lz (by have := HC.out; omega) (8 + st * 16 + p) k.sb (8 + st * 16 + p) 0 0 rfl (by omega) P0.out.1 P0.out.2).mono ?_; rintro e w2 ⟨rfl, h2, f2⟩; rw [HS1.out] at h2))
    all_goals
      have H2 := Lib.hid (HD.out.lzStep h2 f2)
      have F2 := Lib.hid (FD.out.trans (f2.mono fun q _ e => .inl e))
      clear h2 f2
      go_wp2
      go_meet
      case rel => exact ⟨H2.out, F2.out⟩
  case rest =>
    obtain ⟨h2, f2⟩ := hcut
    have H2 := Lib.hid h2
    have F2 := Lib.hid f2
    clear d0 d1 d2 d3 d4 d5 d6 HH HD FD
    obtain ⟨d0, d1, d2, d3, d4, d5, d6⟩ := h2.cells
    have hcell := (h2.byte (by omega))
    clear h2 f2
    obtain ⟨β, hβ⟩ : ∃ β, decide (0 < tot ∧ 0 < pos) = β := ⟨_, rfl⟩
    have Hβ := Lib.hid hβ
    have hcell0 := hcell
    clear hβ hcell
    obtain ⟨ab', off', e9, hcell⟩ := hcell0
    injection e9 with e9
    injection e9 with e8 e7
    subst e8; subst e7
    have HCL := Lib.hid hcell
    clear hcell
    go_upto_region 4 with fail
    go_cut [45] from 46 (fun v wx => v = .bool β ∧ wx = wc)
    case first =>
      have hb := Hβ.out
      by_cases h0 : 0 < tot
      · have h0i : (0 : Int) < (tot : Int) := by omega
        by_cases h1 : 0 < pos
        · have h1i : (0 : Int) < (pos : Int) := by omega
          rw [decide_eq_true ⟨h0, h1⟩] at hb
          subst hb
          clear h0 h1
          go_wp2
          go_meet
          case rel => exact ⟨by first | rfl | (rw [decide_eq_true (show 0 < pos by omega)]), rfl⟩
        · obtain rfl : pos = 0 := by omega
          rw [decide_eq_false (fun h => h1 h.2)] at hb
          subst hb
          clear h0 h1
          go_wp2
          go_meet
          case rel => exact ⟨rfl, rfl⟩
      · obtain rfl : tot = 0 := by omega
        rw [decide_eq_false (fun h => h0 h.1)] at hb
        subst hb
        clear h0
        go_wp2
        go_meet
        case rel => exact ⟨rfl, rfl⟩
    case rest =>
      obtain ⟨rfl, hwx⟩ := hcut
      subst hwx
      obtain ⟨w1, hw1⟩ : ∃ w1, w1 = wc := ⟨_, rfl⟩
      subst hw1
      go_upto_if 45 with fail
      go_cut [4] from 46 (fun v wx => v = .int .u8 AH ∧ WrAt O wx k g (some ⟨ab, off, none⟩) c bs shift pos st rep s1 ∧ Frm (WZ k O g) w1 wx)
      case first =>
        have hb := Hβ.out
        by_cases h01 : 0 < tot ∧ 0 < pos
        · rw [decide_eq_true h01] at hb
          subst hb
          have hA := HAH.out
          rw [if_pos h01] at hA
          obtain ⟨q, hq⟩ : ∃ q, pos - 1 = q := ⟨_, rfl⟩
          rw [hq] at hA
          have hqi : (pos : Int) - 1 = (q : Int) := by omega
          have hqw : IntKind.i64.wrap (q : Int) = (q : Int) := Go.IntWalk.i64_in _ (by omega)
          have hcq := HCL.out q (by omega)
          rw [hA] at hcq
          have hqb : q < bs.length := by omega
          clear hA h01 hq
          go_wp2
          go_quiet (fail)
          have H3 := Lib.hid (H2.out.drewN nq)
          have F3 : Hid (Frm (WZ k O g) w1 (w1.drewN nq)) := Lib.hid ((Frm.refl _ w1).drewN nq)
          go_wp2
          go_meet
          case rel => exact ⟨rfl, H3.out, F3.out⟩
        · rw [decide_eq_false h01] at hb
          subst hb
          have hA := HAH.out
          rw [if_neg h01] at hA
          subst hA
          clear h01
          go_wp2
          go_meet
          case rel => exact ⟨rfl, H2.out, Frm.refl _ _⟩
      case rest =>
        obtain ⟨rfl, h3, f3⟩ := hcut
        have H3 := Lib.hid h3
        have F3 := Lib.hid (F2.out.trans f3)
        clear d0 d1 d2 d3 d4 d5 d6 H2 F2 HCL f3
        obtain ⟨d0, d1, d2, d3, d4, d5, d6⟩ := h3.cells
        obtain ⟨ab', off', e9, hcell⟩ := h3.byte (by omega)
        injection e9 with e9
        injection e9 with e8 e7
        subst e8; subst e7
        have HCL := Lib.hid hcell
        obtain ⟨r0, hr0⟩ : ∃ r, rep 0 = r := ⟨_, rfl⟩
        obtain ⟨r1, hr1⟩ : ∃ r1, r0 + 1 = r1 := ⟨_, rfl⟩
        have hrb := HREP.out
        rw [hr0] at d6 hrb
        have hr1i : (r0 : Int) + 1 = (r1 : Int) := by omega
        have hr0w : IntKind.i64.wrap (r0 : Int) = (r0 : Int) := Go.IntWalk.i64_in _ (by omega)
        have hr1w : IntKind.i64.wrap (r1 : Int) = (r1 : Int) := Go.IntWalk.i64_in _ (by omega)
        have hFF := HFA.out
        rw [hr0, hr1] at hFF
        have HF1 := Lib.hid hFF
        have hr1p : 1 ≤ r1 := by omega
        clear h3 hcell hr0 hr1 hrb HFA hFF
        go_upto_region 7 with fail
        go_cut [69] from 70 (fun v wx => v = .bool (decide (r1 ≤ pos)) ∧ wx = wc)
        case first =>
          go_wp2
          go_meet
          case rel => exact ⟨by first | rfl | (congr 1; rw [decide_eq_decide]; omega), rfl⟩
        case rest =>
          obtain ⟨rfl, hwx⟩ := hcut
          obtain ⟨w2, hw2⟩ : ∃ w2, w2 = wc := ⟨_, rfl⟩
          subst hw2
          subst hwx
          go_upto_if 69 with fail
          go_cut [5] from 69 (fun v wx => v = .int .u8 FA ∧ WrAt O wx k g (some ⟨ab, off, none⟩) c bs shift pos st rep s1 ∧ Frm (WZ k O g) w2 wx)
          case first =>
            by_cases h01 : r1 ≤ pos
            · have hdt : decide (r1 ≤ pos) = true := decide_eq_true h01
              have hA := HF1.out
              rw [if_pos h01] at hA
              obtain ⟨q, hq⟩ : ∃ q, pos - r1 = q := ⟨_, rfl⟩
              rw [hq] at hA
              have hqi : (pos : Int) - (r1 : Int) = (q : Int) := by omega
              have hqw : IntKind.i64.wrap (q : Int) = (q : Int) := Go.IntWalk.i64_in _ (by omega)
              have hcq := HCL.out q (by omega)
              rw [hA] at hcq
              have hqb : q < bs.length := by omega
              simp only [hdt]
              clear hA h01 hq hdt
              go_wp2
              go_quiet (fail)
              have H4 := Lib.hid (H3.out.drewN nq)
              have F4 : Hid (Frm (WZ k O g) w2 (w2.drewN nq)) := Lib.hid ((Frm.refl _ w2).drewN nq)
              go_wp2
              go_meet
              case rel => exact ⟨rfl, H4.out, F4.out⟩
            · have hdt : decide (r1 ≤ pos) = false := decide_eq_false h01
              have hA := HF1.out
              rw [if_neg h01] at hA
              subst hA
              simp only [hdt]
              clear h01 hdt
              go_wp2
              go_meet
              case rel => exact ⟨rfl, H3.out, Frm.refl _ _⟩
          case rest =>
            obtain ⟨rfl, h4, f4⟩ := hcut
            have H4 := Lib.hid h4
            have F4 := Lib.hid (F3.out.trans f4)
            clear d0 d1 d2 d3 d4 d5 d6 H3 F3 HCL f4
            obtain ⟨d0, d1, d2, d3, d4, d5, d6⟩ := h4.cells
            obtain ⟨ab', off', e9, hcell⟩ := h4.byte (by omega)
            injection e9 with e9
            injection e9 with e8 e7
            subst e8; subst e7
            have hcx := hcell pos hpos
            rw [HX.out] at hcx
            have HD := Lib.hid h4.drew
            have hXw : IntKind.i64.wrap (X : Int) = (X : Int) := Go.IntWalk.i64_in _ (by omega)
            clear h4 hcell
            go_upto_region 9 with fail
            go_cut [102] from 103 (fun v wx => WrAt O wx k g (some ⟨ab, off, none⟩) c bs shift pos st rep s2 ∧ Frm (WZ k O g) w wx)
            case first =>
              go_region_with (first
                | (go_at_call 37; refine (lit_in g.eb O 67 k st tot AH FA rep s1 _ HD.out.lz HK.out ht hah hfa X hXb (by have := HC.out; omega)).mono ?_; rintro e w3 ⟨rfl, h3, f3⟩; rw [HS2.out] at h3))
              all_goals
                have H5 := Lib.hid (HD.out.lzStep h3 f3)
                have F5 := Lib.hid ((F4.out.drew).trans (f3.mono fun q _ e => .inl e))
                clear h3 f3
                go_wp2
                go_meet
                case rel => exact ⟨H5.out, F5.out⟩
            case rest =>
              obtain ⟨h5, f5⟩ := hcut
              have H5 := Lib.hid h5
              have F5 := Lib.hid f5
              clear d0 d1 d2 d3 d4 d5 d6 hcx H4 F4 HD h5 f5
              go_wp2_with fail
              refine (behind_any (IC.keep g.eb O) 67 k st 0 rep s2 _ H5.out.lz hst (by omega)).mono ?_; rintro e w7 ⟨rfl, h7, f7⟩
              have H7 := Lib.hid (H5.out.lzStep h7 f7)
              have F7 := Lib.hid (F5.out.trans (f7.mono fun q _ e => .inl e))
              clear h7 f7
              obtain ⟨q0, q1, q2, q3, -, -, -⟩ := H7.out.cells
              have z3 := H7.out.p.frozen 3
              obtain ⟨p1, hp1⟩ : ∃ p1, pos + 1 = p1 := ⟨_, rfl⟩
              have hp1i : (pos : Int) + 1 = (p1 : Int) := by omega
              have hp1w : IntKind.i64.wrap (p1 : Int) = (p1 : Int) := Go.IntWalk.i64_in _ (by omega)
              have HM := Lib.hid (H7.out.move p1)
              have HP1 := Lib.hid hp1
              clear hp1
              go_wp2
              go_end0
              refine ⟨rfl, ?_, F7.out.trans HM.out.2⟩
              rw [HP1.out]
              exact HM.out.1
end Go.Proofs.Ytefbjamepbkklaa

/- What a match that is put in makes of the state, in plain Lean. -/
namespace Go.Proofs.Ytefbjamepbkklaa
open Go.RowKit Rng Win Lz
set_option linter.unusedVariables false
set_option linter.unusedSimpArgs false
/-- Which of the four distances d is; 4: none. -/
def idxOf (rep : Nat → Nat) (d : Nat) : Nat := if rep 0 = d then 0 else if rep 1 = d then 1 else if rep 2 = d then 2 else if rep 3 = d then 3 else 4
theorem idxOf_le (rep : Nat → Nat) (d : Nat) : idxOf rep d ≤ 4 := by unfold idxOf; repeat' split
                                                                     all_goals omega
theorem idxOf_rep {rep : Nat → Nat} {d : Nat} (h : idxOf rep d < 4) : rep (idxOf rep d) = d := by
  unfold idxOf at h ⊢
  split
  · assumption
  · split
    · assumption
    · split
      · assumption
      · split
        · assumption
        · rename_i h0 h1 h2 h3
          rw [if_neg h0, if_neg h1, if_neg h2, if_neg h3] at h
          omega
/-- A repeat that is put in: its index j. -/
def putRep {σ : Type} (co : Cod σ) (st p size j : Nat) (s : CP σ) : CP σ :=
  let a := (bitAt co (212 + st) (if j = 0 then 0 else 1) s).2
  let b := if j = 0 then (bitAt co (248 + st * 16 + p) 1 a).2
    else
      let c := (bitAt co (224 + st) (if j = 1 then 0 else 1) a).2
      if j = 1 then c else (bitAt co (236 + st) (j - 2) c).2
  (lenAt co 1354 size p b).2
/-- A match that is put in, of so many bytes, d + 1 bytes back: the state, the distances, what is then. -/
def putMatch (k : LK) (tot size d st : Nat) (rep : Nat → Nat) (s : CP Enc) : Nat × (Nat → Nat) × CP Enc :=
  let p := tot % 2 ^ k.pb
  let s1 := (bitAt inC (8 + st * 16 + p) 1 s).2
  let j := idxOf rep d
  if j = 4 then
    let s2 := (bitAt inC (200 + st) 0 s1).2
    let s3 := (lenAt inC 840 size p s2).2
    (behS st 1, (fun i => if i = 0 then d else shiftN rep 3 i), (distAt inC d size s3).2)
  else
    let s2 := (bitAt inC (200 + st) 1 s1).2
    (behS st 2, (if j = 0 then rep else takeS rep j), putRep inC st p size j s2)
end Go.Proofs.Ytefbjamepbkklaa

/- Which of the last four distances one is: the walk. -/
namespace Go.Proofs.Ytefbjamepbkklaa
open Go.RowKit Rng Lz Win
set_option linter.unusedVariables false
set_option linter.unusedSimpArgs false
/-- What an index of the four tells. -/
def idxV (j : Nat) : Int := if j = 4 then -1 else j
set_option maxRecDepth 100000 in
set_option maxHeartbeats 1000000 in
theorem index_p (w : World) (b c0 : Nat) (rep : Nat → Nat) (d : Nat) (hcell : ∀ j, j < 4 → w.cell? ⟨b, 4 + j, none⟩ = some (.int .u32 (rep j : Int))) (hd : d < 4294967296) :
    Calls Try.prog 39 #[.slice (some ⟨b, 4, none⟩) 4 c0, .int .u32 d] w fun e w' => e = .returned (.int .i64 (idxV (idxOf rep d))) ∧ w = w' := by
  obtain ⟨J, hJ⟩ : ∃ J, idxOf rep d = J := ⟨_, rfl⟩
  rw [hJ]
  have HC := Lib.hid hcell
  have HJ := Lib.hid hJ
  clear hcell hJ
  go_enter Try.func39, Try.ntmps39
  go_wp2
  go_loopw [8] (fun iv wr => ∃ i : Nat, iv = .int .i64 i ∧ i ≤ 4 ∧ wr = w ∧ ∀ j, j < i → rep j ≠ d) (fun iv _ => 4 - (intOf iv).toNat)
  case atStart => exact ⟨0, rfl, by omega, by first | trivial | rfl, fun j hj => by omega⟩
  case round =>
    obtain ⟨i, rfl, hi, hwr, hne⟩ := hrel
    subst hwr
    have HNE := Lib.hid hne
    clear hne
    by_cases hlt : i < 4
    · have hc := HC.out i hlt
      obtain ⟨r, hr⟩ : ∃ r, rep i = r := ⟨_, rfl⟩
      rw [hr] at hc
      by_cases he : d = r
      · subst he
        have hv : J = i := by
          rw [← HJ.out]
          have h0 := HNE.out
          unfold idxOf
          have a : i = 0 ∨ i = 1 ∨ i = 2 ∨ i = 3 := by omega
          rcases a with rfl | rfl | rfl | rfl
          · rw [if_pos hr]
          · rw [if_neg (h0 0 (by omega)), if_pos hr]
          · rw [if_neg (h0 0 (by omega)), if_neg (h0 1 (by omega)), if_pos hr]
          · rw [if_neg (h0 0 (by omega)), if_neg (h0 1 (by omega)), if_neg (h0 2 (by omega)), if_pos hr]
        have hvi : idxV J = (i : Int) := by rw [hv]; unfold idxV; rw [if_neg (by omega)]
        have HVI := Lib.hid hvi
        clear hv hvi hr
        go_wp2
        go_ret
        exact ⟨ret_int' HVI.out.symm, rfl⟩
      · have hei : ((d : Int) == (r : Int)) = false := by rw [beq_eq_false_iff_ne]; omega
        have HNR : Hid (rep i ≠ d) := Lib.hid (by rw [hr]; exact fun e => he e.symm)
        clear he hr
        go_wp2
        refine ⟨⟨i + 1, by go_num, by omega, by first | trivial | rfl, fun j hj => ?_⟩, by simp [intOf]; omega⟩
        by_cases hji : j = i
        · rw [hji]; exact HNR.out
        · exact HNE.out j (by omega)
    · obtain rfl : i = 4 := by omega
      have hv : J = 4 := by
        rw [← HJ.out]
        have h0 := HNE.out
        unfold idxOf
        rw [if_neg (h0 0 (by omega)), if_neg (h0 1 (by omega)), if_neg (h0 2 (by omega)), if_neg (h0 3 (by omega))]
      have hvi : idxV J = -1 := by rw [hv]; rfl
      have HVI := Lib.hid hvi
      clear hv hvi
      go_wp2
      go_ret
      exact ⟨ret_int' HVI.out.symm, rfl⟩
end Go.Proofs.Ytefbjamepbkklaa
