/- Texts of this proof, put together: MaF, RfN, MaG, MaH, MaR, MaI, XzC, CrcN, SumsA, XxhN, SumsB, SumsX, SumsV, SumsR, SumsC, SumsD, SumsE, XzA, BoxA, BoxP, BoxN, XzB, BoxQ, BoxW. -/
import Derived.RangeFuncNested
import Derived.Test.YtgahfpflhhfhfaaGreatFrm
import Derived.RangeFuncBound
import Derived.RangeFuncCalls
import Derived.RangeFuncLeaves
import Derived.OwnWalkIn
import Derived.TacticsInMore
import Derived.LoopNIn
import Derived.LoopIn
import Derived.Sort.LoopGhostIn
import Derived.Sort.CutIn
import Derived.BigFrameIn
import Derived.Deep.RegionWith
import Derived.Shelf.Abstract
import Derived.Test.YtgahfpflhhfhfaaGreatChecked
import Derived.Test.YtgahfpflhhfhfaaGreatOpen
import Derived.WalkKit
import Derived.Lib.Hide
import Derived.BigQuiet
import Derived.Deep.QuietTactic
import Derived.RegionTactic
import Derived.StillTailTactics
import Derived.IntWalk
import Derived.Defers
import Derived.Recover
import Derived.WalkSmall
import Derived.Laws.Pointers
import Derived.Test.YtgahfpflhhfhfaaGreatBu1
import Derived.Test.YtgahfpflhhfhfaaGreatBu2
set_option linter.unusedVariables false
set_option linter.unusedSimpArgs false
/- A chunk behind its head, of LZMA with settings: the walk. -/
namespace Go.Proofs.YtgahfpflhhfhfaaGreat
open Go.RowKit Rng Win Lz
set_option linter.unusedVariables false
set_option linter.unusedSimpArgs false
set_option maxRecDepth 8000 in
set_option maxHeartbeats 2000000 in
theorem body_set (rb fb wb kb base S B0 : Nat) (k : LK) (x : DS) (wv : Value) (A : Option Addr) (n c used : Nat) (most : Int) (bs hd : List UInt8) (hb off cc : Nat) (w : World)
    (h : RdS w rb fb wb kb base S k x wv A n c used most) (hB : ∀ q, RdB rb fb wb k wv q → B0 ≤ q) (hB0 : B0 ≤ w.heap.size) (hS : S ≤ 16777216) (hn : n = bs.length) (hr : BRow w B0 A bs) (hc : n ≤ c) (hcm : c ≤ maxLen)
    (hhr : BRow w B0 (some ⟨hb, off, none⟩) hd) (hdl : hd.length = 6) (hcc : (hd.getD 0 0).toNat = cc) (hleg : 192 ≤ cc) (hu : used + n ≤ 4611686018427387904) (ht : x.total < 9223372036854775808) :
    Calls Tryz.prog 85 #[.pointer (some ⟨rb, 0, none⟩), .slice (some ⟨hb, off, none⟩) 6 6] w (BodyEnd rb fb wb kb base S B0 k wv most (used + n) w (oneBody S x cc hd bs)) := by
  have b0 : w.cell? ⟨hb, off, none⟩ = some (.int .u8 ((cc : Nat) : Int)) := by rw [← hcc]; exact hhr.addr (k := 0) (by omega)
  have b1 : w.cell? ⟨hb, off + 1, none⟩ = some (.int .u8 (((hd.getD 1 0).toNat : Nat) : Int)) := hhr.addr (k := 1) (by omega)
  have b2 : w.cell? ⟨hb, off + 2, none⟩ = some (.int .u8 (((hd.getD 2 0).toNat : Nat) : Int)) := hhr.addr (k := 2) (by omega)
  have b3 : w.cell? ⟨hb, off + 3, none⟩ = some (.int .u8 (((hd.getD 3 0).toNat : Nat) : Int)) := hhr.addr (k := 3) (by omega)
  have b4 : w.cell? ⟨hb, off + 4, none⟩ = some (.int .u8 (((hd.getD 4 0).toNat : Nat) : Int)) := hhr.addr (k := 4) (by omega)
  have b5 : w.cell? ⟨hb, off + 5, none⟩ = some (.int .u8 (((hd.getD 5 0).toNat : Nat) : Int)) := hhr.addr (k := 5) (by omega)
  have hc256 : cc < 256 := by rw [← hcc]; exact (hd.getD 0 0).toNat_lt
  obtain ⟨N, hN⟩ : ∃ N, twoB hd 1 + 1 = N := ⟨_, rfl⟩
  obtain ⟨M, hM⟩ : ∃ M, twoB hd 3 + 1 = M := ⟨_, rfl⟩
  have hNl : N ≤ 65536 := by have := twoB_le hd 1; omega
  have hMl : M ≤ 65536 := by have := twoB_le hd 3; omega
  have hM1 : 1 ≤ M := by omega
  have hl1 := (hd.getD 1 0).toNat_lt
  have hl2 := (hd.getD 2 0).toNat_lt
  have hl3 := (hd.getD 3 0).toNat_lt
  have hl4 := (hd.getD 4 0).toNat_lt
  have e8 := shl8 (hd.getD 1 0)
  have e8b := shl8 (hd.getD 3 0)
  have hsum : ((hd.getD 1 0).toNat : Int) * 256 + ((hd.getD 2 0).toNat : Int) + 1 = (N : Int) := by have e : twoB hd 1 = (hd.getD 1 0).toNat * 256 + (hd.getD 2 0).toNat := rfl; omega
  have hsumb : ((hd.getD 3 0).toNat : Int) * 256 + ((hd.getD 4 0).toNat : Int) + 1 = (M : Int) := by have e : twoB hd 3 = (hd.getD 3 0).toNat * 256 + (hd.getD 4 0).toNat := rfl; omega
  obtain ⟨h1v, hh1⟩ : ∃ v, (hd.getD 1 0).toNat = v := ⟨_, rfl⟩
  obtain ⟨h2v, hh2⟩ : ∃ v, (hd.getD 2 0).toNat = v := ⟨_, rfl⟩
  obtain ⟨h3v, hh3⟩ : ∃ v, (hd.getD 3 0).toNat = v := ⟨_, rfl⟩
  obtain ⟨h4v, hh4⟩ : ∃ v, (hd.getD 4 0).toNat = v := ⟨_, rfl⟩
  rw [hh1] at b1 e8 hsum hl1
  rw [hh2] at b2 hsum hl2
  rw [hh3] at b3 e8b hsumb hl3
  rw [hh4] at b4 hsumb hl4
  obtain ⟨p, hp⟩ : ∃ v, (hd.getD 5 0).toNat = v := ⟨_, rfl⟩
  have hp255 : p ≤ 255 := by have := (hd.getD 5 0).toNat_lt; omega
  rw [hp] at b5
  have hw1 : IntKind.i64.wrap ((h1v : Int) * 256 + (h2v : Int)) = (h1v : Int) * 256 + (h2v : Int) := Go.IntWalk.i64_in _ (by omega)
  have hw1b : IntKind.i64.wrap ((h3v : Int) * 256 + (h4v : Int)) = (h3v : Int) * 256 + (h4v : Int) := Go.IntWalk.i64_in _ (by omega)
  have hw2 : IntKind.i64.wrap (N : Int) = (N : Int) := Go.IntWalk.i64_in _ (by omega)
  have hw2b : IntKind.i64.wrap (M : Int) = (M : Int) := Go.IntWalk.i64_in _ (by omega)
  have hwa : IntKind.i64.wrap (h1v : Int) = (h1v : Int) := Go.IntWalk.i64_in _ (by omega)
  have hwb : IntKind.i64.wrap (h2v : Int) = (h2v : Int) := Go.IntWalk.i64_in _ (by omega)
  have hwc : IntKind.i64.wrap (h3v : Int) = (h3v : Int) := Go.IntWalk.i64_in _ (by omega)
  have hwd : IntKind.i64.wrap (h4v : Int) = (h4v : Int) := Go.IntWalk.i64_in _ (by omega)
  have a31 := and31 cc (by omega)
  obtain ⟨c31, hc31⟩ : ∃ v, cc % 32 = v := ⟨_, rfl⟩
  have hcl : c31 < 32 := by omega
  rw [hc31] at a31
  have hw31 : IntKind.i64.wrap (c31 : Int) = (c31 : Int) := Go.IntWalk.i64_in _ (by omega)
  have hw32 : IntKind.i64.wrap ((c31 : Int) * 65536) = (c31 : Int) * 65536 := Go.IntWalk.i64_in _ (by omega)
  obtain ⟨T, hT⟩ : ∃ T, N + c31 * 65536 = T := ⟨_, rfl⟩
  have hTl : T ≤ 2097152 := by omega
  have hT1 : 1 ≤ T := by omega
  have hti : (N : Int) + (c31 : Int) * 65536 = (T : Int) := by omega
  have hwt : IntKind.i64.wrap (T : Int) = (T : Int) := Go.IntWalk.i64_in _ (by omega)
  have q1 : ((cc : Int) == 1) = false := beq_eq_false_iff_ne.2 (by omega)
  have q3 : (3 : Int) ≤ (cc : Int) := by omega
  have q4 : (192 : Int) ≤ (cc : Int) := by omega
  have D0 := Lib.hid (h.later ((Frm.refl (fun _ => False) w).drew))
  have F0 : Hid (Frm (fun _ => False) w w.drew) := Lib.hid ((Frm.refl (fun _ => False) w).drew)
  have HR0 : Hid (BRow w.drew B0 A bs) := Lib.hid (hr.drewN 1)
  obtain ⟨r0, r1, r2, r3, r4, r5, r6⟩ := D0.out.cells
  have d3 : w.drew.cell? ⟨hb, off + 3, none⟩ = some (.int .u8 (h3v : Int)) := b3
  have d4 : w.drew.cell? ⟨hb, off + 4, none⟩ = some (.int .u8 (h4v : Int)) := b4
  have d5 : w.drew.cell? ⟨hb, off + 5, none⟩ = some (.int .u8 (p : Int)) := b5
  have HBH := Lib.hid (hhr.drewN 1)
  obtain ⟨y, hy⟩ : ∃ y, x.dict cc = y := ⟨_, rfl⟩
  have hyt : y.total < 9223372036854775808 := by have := dict_total x cc; rw [hy] at this; omega
  have HO : Hid (oneBody S x cc hd bs = if bs.length < M then .err 10 else if badP p then .err 11 else oneLz S { y.reset with lc := p % 9, lp := p / 9 % 5, pb := p / 45, props := true } T (bs.take M) (bs.drop M)) := Lib.hid (by
    unfold oneBody
    rw [if_neg (by omega), hM, hN, hc31, hT, hp, hy]
    split
    · rfl
    · by_cases hbp : badP p
      · rw [if_pos ⟨hleg, hbp⟩, if_pos hbp]
      · rw [if_neg (fun h => hbp h.2), if_neg hbp]
        unfold DS.set
        rw [if_pos hleg])
  have HB := Lib.hid hB
  have HH := Lib.hid (And.intro hh3 (And.intro hh4 hp))
  have HT := Lib.hid (And.intro hTl hT1)
  clear h hcc hB hN hM hhr hh1 hh2 hh3 hh4 hc31 hT b3 b4 b5 hp r0 r1 r2 r3 r4 r5 r6 hTl hT1
  go_enter Tryz.func85, Tryz.ntmps85
  go_upto_region 2 with fail
  go_still (by kernel_rfl)
  obtain ⟨w0, hw0⟩ : ∃ w0, w.drew = w0 := ⟨_, rfl⟩
  rw [hw0] at D0 F0 HR0 d3 d4 d5
  have HBH2 : Hid (BRow w0 B0 (some ⟨hb, off, none⟩) hd) := Lib.hid (by have h := HBH.out; change BRow w.drew _ _ _ at h; rw [hw0] at h; exact h)
  rw [show ({ heap := w.heap, tape := w.tape, drawn := w.drawn + 1, os := w.os, output := w.output } : World) = w0 from hw0]
  clear hwa e8 hwb hw1 hsum hw2 b0 b1 b2 hw0
  have hfr : ∀ i, w0.frozen? ⟨rb, i, none⟩ = false := fun i => D0.out.p.frozen i
  obtain ⟨r0, r1, r2, r3, r4, r5, r6⟩ := D0.out.cells
  clear r1 r2 r3 r4 r5 r6 hfr HBH
  go_upto_block 0 with fail
  go_cut [] from 13 (fun wx => Dict1 w0 rb fb wb kb base S k x cc wv A n c used most wx)
  case first =>
    by_cases h224 : 224 ≤ cc
    · have q5 : (224 : Int) ≤ (cc : Int) := by omega
      go_wp2_with fail
      refine (clear_c base wb kb S x.C wv _ D0.out.win).mono ?_; rintro e w2 ⟨v', rfl, hw2, hf2, ho2⟩
      obtain ⟨n1, n2, n3, n4, n5, n6, n7, n8, n9, n10⟩ := D0.out.ne
      have D2 := D0.out.win' hw2 hf2 (by rintro q (e | e | e | e) e2 <;> omega)
      obtain ⟨D3, f3⟩ := D2.begin
      have hp3 := D2.p
      have c3 := hp3.cell 3
      have c5 := hp3.cell 5
      have z3 := hp3.frozen 3
      have z5 := hp3.frozen 5
      have DD := Lib.hid D3
      have FF := Lib.hid ((hf2.mono (S' := fun q => q = rb ∨ q = wb) fun q _ e => .inr e).trans (f3.mono fun q _ e => .inl e))
      have HY2 : Hid (x.dict cc = { { x with C := [] } with total := 0, begun := true }) := Lib.hid (by unfold DS.dict DS.clear; rw [if_neg (by omega), if_pos h224])
      clear hw2 hf2 n1 n2 n3 n4 n5 n6 n7 n8 n9 n10 D2 D3 f3 hp3 r0
      go_wp2
      go_meet
      case rel => exact ⟨v', by rw [HY2.out]; exact DD.out, ho2, FF.out⟩
    · have q5 : (cc : Int) < 224 := by omega
      go_wp2
      go_meet
      case rel => exact Dict1.not D0.out (by omega) (by omega)
  case rest =>
    obtain ⟨wv1, e1, ho1, f1⟩ := hcut
    rw [hy] at e1
    have hBR : ∀ q, q = rb ∨ q = wb → B0 ≤ q := by
      rintro q (e | e)
      · exact HB.out q (.inl e)
      · exact HB.out q (.inr (.inr (.inl e)))
    have hz0 : B0 ≤ w0.heap.size := Nat.le_trans hB0 F0.out.size
    have hr1 : BRow wc B0 A bs := row_kept HR0.out f1 hz0 hBR
    have hbr1 : BRow wc B0 (some ⟨hb, off, none⟩) hd := row_kept HBH2.out f1 hz0 hBR
    have d3c : wc.drew.cell? ⟨hb, off + 3, none⟩ = some (.int .u8 (h3v : Int)) := by rw [← HH.out.1]; exact hbr1.addr (k := 3) (by omega)
    have d4c : wc.drew.cell? ⟨hb, off + 4, none⟩ = some (.int .u8 (h4v : Int)) := by rw [← HH.out.2.1]; exact hbr1.addr (k := 4) (by omega)
    have F1 : Hid (Frm (RdB rb fb wb k wv) w wc.drew) := Lib.hid (((F0.out.mono fun _ _ e => e.elim).trans (f1.mono fun q _ e => by rcases e with e | e; exact .inl e; exact .inr (.inr (.inl e)))).drew)
    have D1 := Lib.hid (e1.later ((Frm.refl (fun _ => False) wc).drew))
    have HR1 : Hid (BRow wc.drew B0 A bs) := Lib.hid (hr1.drewN 1)
    have HBR1 : Hid (BRow wc.drew B0 (some ⟨hb, off, none⟩) hd) := Lib.hid (hbr1.drewN 1)
    have hz1 : B0 ≤ wc.drew.heap.size := Nat.le_trans hB0 F1.out.size
    obtain ⟨r0, r1, r2, r3, r4, r5, r6⟩ := D1.out.cells
    clear e1 f1 hr1 hbr1 hBR D0 F0 HR0 HBH2 d3 d4 d5 r0 r1 r3 r4 r5 r6
    go_upto_region 15 with fail
    refine wp_region_stc 15 (by kernel_rfl) (by kernel_rfl) ?_
    simp only [List.take_succ_cons, List.take_zero, List.drop_succ_cons, List.drop_zero]
    repeat still_step
    refine wpStill_nil ?_
    change wpList _ _ _ _ _ wc.drew
    obtain ⟨w1, hw1⟩ : ∃ w1, wc.drew = w1 := ⟨_, rfl⟩
    rw [hw1] at D1 F1 HR1 HBR1 hz1
    rw [hw1]
    clear hw1 r2 d3c d4c e8b hw1b hwc hwd a31 hw31 hw32 hti
    by_cases hM2 : M ≤ n
    · have HT1 := Lib.hid (take_p fb A n c used M w1 D1.out.src hc hM2 (by omega))
      go_wp2_with fail
      refine HT1.out.mono ?_; rintro e w2 ⟨rfl, hs2, hf2⟩
      go_wp2_with fail
      change wpStill _ _ _ _ _ _
      repeat still_step
      refine wpStill_nil ?_
      have d2 := D1.out.src' hs2 hf2
      have hfb : B0 ≤ fb := HB.out fb (.inr (.inl rfl))
      have hz2 : B0 ≤ w2.heap.size := Nat.le_trans hz1 hf2.size
      have hr2 : BRow w2 B0 A bs := row_kept HR1.out hf2 hz1 (fun q e => by rw [e]; exact hfb)
      have hbr2 : BRow w2 B0 (some ⟨hb, off, none⟩) hd := row_kept HBR1.out hf2 hz1 (fun q e => by rw [e]; exact hfb)
      have F2 : Hid (Frm (RdB rb fb wb k wv) w w2.drew) := Lib.hid ((F1.out.trans (hf2.mono fun q _ e => .inr (.inl e))).drew)
      have hMb : M ≤ bs.length := by omega
      have D2 := Lib.hid (d2.later ((Frm.refl (fun _ => False) w2).drew))
      have HR2 : Hid (BRow w2.drew B0 A bs) := Lib.hid (hr2.drewN 1)
      have hz2d : B0 ≤ w2.drew.heap.size := hz2
      have d5 : w2.drew.cell? ⟨hb, off + 5, none⟩ = some (.int .u8 (p : Int)) := by rw [← HH.out.2.2]; exact hbr2.addr (k := 5) (by omega)
      obtain ⟨r0, r1, r2, r3, r4, r5, r6⟩ := D2.out.cells
      clear HT1 hs2 hf2 d2 hr2 hbr2 D1 F1 HR1 HBR1 r0 r2 r3 r4 r5 r6
      go_upto_region 19 with fail
      refine wp_region_stc 7 (by kernel_rfl) (by kernel_rfl) ?_
      simp only [List.take_succ_cons, List.take_zero, List.drop_succ_cons, List.drop_zero]
      repeat still_step
      refine wpStill_nil ?_
      change wpList _ _ _ _ _ w2.drew
      obtain ⟨w3, hw3⟩ : ∃ w3, w2.drew = w3 := ⟨_, rfl⟩
      rw [hw3] at D2 F2 HR2 hz2d
      rw [hw3]
      clear hw3 r1 d5 hz2
      have hsb : B0 ≤ k.sb := HB.out _ (.inr (.inr (.inr (.inl rfl))))
      by_cases hbp : badP p
      · have HPr := Lib.hid (set_bad k y.st p y.rep y.pr w3 D2.out.s hp255 hbp)
        go_wp2_with fail
        refine HPr.out.mono ?_; rintro e w4 ⟨rfl, hf4⟩
        go_wp2_with fail
        change wpStill _ _ _ _ _ _
        repeat still_step
        refine wpStill_nil ?_
        go_wp2
        go_ret2
        rw [HO.out, if_neg (by omega), if_pos hbp]
        exact ⟨F2.out.trans (hf4.mono fun q _ e => .inr (.inr (.inr (.inl e)))), rfl, (D2.out.ownB hyt (by omega)).frm hf4 D2.out.ne.2.2.1 D2.out.ne.2.2.2.2.2.1⟩
      · have HPr := Lib.hid (set_s k y.st p y.rep y.pr w3 D2.out.s hp255 hbp)
        go_wp2_with fail
        refine HPr.out.mono ?_; rintro e w4 ⟨rfl, lb, hlb, hs4, hf4⟩
        go_wp2_with fail
        change wpStill _ _ _ _ _ _
        repeat still_step
        refine wpStill_nil ?_
        have hpk : p % 9 + p / 9 % 5 ≤ 4 ∧ p / 45 ≤ 4 := by unfold badP at hbp; omega
        have d4 := D2.out.st' (k' := ⟨k.sb, lb, p % 9, p / 9 % 5, p / 45⟩) (y := { y.reset with lc := p % 9, lp := p / 9 % 5, pb := p / 45 }) rfl hlb hs4 ⟨rfl, rfl, rfl⟩ ⟨hpk.1, hpk.2⟩ ⟨(by decide : (0 : Nat) < 12), fun _ => (by decide : (0 : Nat) < 4294967296)⟩ ⟨rfl, rfl, rfl, rfl⟩ hf4
        have hr4 : BRow w4 B0 A bs := row_kept HR2.out hf4 hz2d (fun q e => by rw [e]; exact hsb)
        have hz4 : B0 ≤ w4.heap.size := Nat.le_trans hz2d hf4.size
        have hlb2 : w.heap.size ≤ lb := Nat.le_trans F2.out.size hlb
        have F4 := F2.out.trans (hf4.mono fun q _ e => (.inr (.inr (.inr (.inl e))) : RdB rb fb wb k wv q))
        obtain ⟨d5, f5⟩ := d4.setP
        have p6 := d4.p.cell 6
        have z6 := d4.p.frozen 6
        have hrb : B0 ≤ rb := HB.out _ (.inl rfl)
        have hr5 := row_kept hr4 f5 hz4 (fun q e => by rw [e]; exact hrb)
        have F5 := Lib.hid (F4.trans (f5.mono fun q _ e => (.inl e : RdB rb fb wb k wv q)))
        have D5 := Lib.hid d5
        have HR5 := Lib.hid hr5
        have hz5 : B0 ≤ (w4.setCell ⟨rb, 6, none⟩ (.bool true)).heap.size := Nat.le_trans hz4 f5.size
        clear HPr hs4 hf4 d4 hr4 D2 F2 HR2 hlb F4 d5 f5 hr5 hz4
        go_upto_region 25 with fail
        obtain ⟨w5, hw5⟩ : ∃ w5, w4.setCell ⟨rb, 6, none⟩ (.bool true) = w5 := ⟨_, rfl⟩
        rw [hw5] at D5 F5 HR5 hz5
        rw [hw5]
        clear hw5 p6 z6
        obtain ⟨r0, r1, r2, r3, r4, r5, r6⟩ := D5.out.cells
        clear r2 r4 r5 r6
        have D6 := Lib.hid (D5.out.later ((Frm.refl (fun _ => False) w5).drew))
        have F6 := Lib.hid (F5.out.drew)
        have HR6 : Hid (BRow w5.drew B0 A bs) := Lib.hid (HR5.out.drewN 1)
        have hz6 : B0 ≤ w5.drew.heap.size := hz5
        have HC := Lib.hid (chunk_p ⟨k.sb, lb, p % 9, p / 9 % 5, p / 45⟩ 0 (fun _ => 0) (fun _ => 1024) base wb kb S y.C (bs.take M) wv1 A T M M y.total w5.drew D6.out.s D6.out.win D6.out.b hS D6.out.ok D6.out.st.1 D6.out.st.2 (take_len hMb).symm ((HR6.out.take M).more hz6) (by rw [take_len hMb]; exact Nat.le_refl _) (by unfold maxLen; omega) (by rw [take_len hMb]; omega) HT.out.2 HT.out.1 hyt)
        refine wp_region_stc 14 (by kernel_rfl) (by kernel_rfl) ?_
        simp only [List.take_succ_cons, List.take_zero, List.drop_succ_cons, List.drop_zero]
        repeat still_step
        refine wpStill_nil ?_
        change wpList _ _ _ _ _ w5.drew
        go_wp2_with fail
        refine HC.out.mono ?_; rintro e w7 hce
        obtain ⟨tv, ev, he⟩ : ∃ tv ev, e = .returned (.tuple #[tv, ev]) := by
          rcases hce.2 with ⟨_, h2⟩ | ⟨_, _, tv, _, _, h2, _⟩
          · exact ⟨_, _, h2⟩
          · exact ⟨_, _, h2⟩
        subst he
        go_wp2_with fail
        change wpStill _ _ _ _ _ _
        repeat still_step
        refine wpStill_nil ?_
        go_wp2
        go_ret2
        rw [HO.out, if_neg (by omega), if_neg hbp]
        exact chunk_tells D6.out F6.out HB.out hB0 rfl (.inr hlb2) ho1 ((HR6.out.drop (by omega))) (by rw [List.length_drop]; omega) (by omega) (by omega) (by omega) hyt hce
    · have HT1 := Lib.hid (take_no fb A n c used M w1 D1.out.src (by omega))
      go_wp2_with fail
      refine HT1.out.mono ?_; rintro e w2 ⟨rfl, rfl⟩
      go_wp2_with fail
      change wpStill _ _ _ _ _ _
      repeat still_step
      refine wpStill_nil ?_
      go_wp2
      go_ret2
      rw [HO.out, if_pos (by omega)]
      exact ⟨F1.out, rfl, D1.out.ownB hyt (Nat.le_add_right _ _)⟩
end Go.Proofs.YtgahfpflhhfhfaaGreat

/- A range over a function whose iterator writes blocks of its own: the contract, the law of the walk. No program in sight. -/
namespace Go.Proofs.YtgahfpflhhfhfaaGreat
open Go.RowKit
set_option linter.unusedVariables false
set_option linter.unusedSimpArgs false
theorem Frm.putObj {S : Nat → Prop} {a w : World} (h : Frm S a w) {l : Nat} (hl : S l) (o : Obj) : Frm S a (w.putObj l o) :=
  h.trans ⟨rfl, rfl, rfl, by simp, fun k _ hk => World.putObj_heap_other (fun e => hk (e ▸ hl))⟩
/-- What abides the iterator's own work: it changes blocks of its own (N), and may take new ones. -/
def AbN {α : Type} (J : (Nat → Prop) → List α → World → Prop) : Prop := ∀ N N' pre A B, J N pre A → Frm N A B → (∀ q, N' q → N q ∨ (A.heap.size ≤ q ∧ q < B.heap.size)) → J N' pre B
/-- What abides the law's own book-keeping. -/
def AbL {α : Type} (D : Nat) (J : (Nat → Prop) → List α → World → Prop) : Prop := ∀ N pre W l o o', D ≤ l → W.heap[l]? = some o → o.isCells = false → J N pre W → J N pre (W.putObj l o')
/-- An iterator with blocks of its own (N0 at the start): whatever the body is that keeps these, and all below B0. -/
def SeqN {α : Type} (F : Fence) (n : Nat) (P : Program) (g : Nat) (bd : Array Value) (encs : α → Array Value) (Px : List α → α → World → Prop) (S : (Nat → Prop) → List α → World → Prop) (Sp : List α → Prop) (B0 : Nat) (N0 : Nat → Prop) (w : World) : Prop :=
  ∀ (l : Nat) (J Jx : (Nat → Prop) → List α → World → Prop) (W : World), Frm (fun q => ¬ N0 q ∧ B0 ≤ q) w W → AbN J →
    (∀ N pre x W1, J N pre W1 → Px pre x W1 → YieldAt F (n - 1) P l (encs x) W1 fun e W' =>
      (e = .returned (.bool true) ∧ J N (pre ++ [x]) W' ∧ Frm (fun q => ¬ N q ∧ B0 ≤ q) W1 W') ∨ (e = .returned (.bool false) ∧ Jx N (pre ++ [x]) W')) →
    J N0 [] W →
    CallsIn F n P g (bd ++ #[.func (.yield l) #[] #[]]) W fun e W' => (∃ v, e = .returned v) ∧ ((∃ N xs, S N xs W' ∧ J N xs W') ∨ (∃ N pre, Sp pre ∧ Jx N pre W'))
/-- How a round's body may be left: D, D + 1: the law's own blocks. -/
def ownPostN {α : Type} (D B0 : Nat) (N : Nat → Prop) (I : (Nat → Prop) → List α → World → Prop) (Ix : Code → (Nat → Prop) → List α → World → Prop) (xs : List α) (W : World) : Exit → Act → World → Prop
  | .normal, _, W' => (W'.heap[D]? = W.heap[D]? ∧ W'.heap[D + 1]? = W.heap[D + 1]?) ∧ Frm (fun q => ¬ N q ∧ B0 ≤ q) W W' ∧ I N xs W'
  | .ret, _, W' => (W'.heap[D]? = W.heap[D]? ∧ W'.heap[D + 1]? = W.heap[D + 1]?) ∧ Ix .ret N xs W'
  | .exit id, _, W' => (W'.heap[D]? = W.heap[D]? ∧ W'.heap[D + 1]? = W.heap[D + 1]?) ∧ Ix (.exit id) N xs W'
  | .goto t, _, W' => (W'.heap[D]? = W.heap[D]? ∧ W'.heap[D + 1]? = W.heap[D + 1]?) ∧ Ix (.goto t) N xs W'
  | .panic _, _, _ => False
  | .outgrown, _, _ => False
variable {F : Fence} {n : Nat} {P : Program}
theorem wpIn_rangeFunc_ownW {α : Type} {g : Operand} {ps : Array Tmp} {assign body : Code} {Q : Exit → Act → World → Prop} {a : Act} {w : World}
    (hro : F.round = none) (h1 : 1 ≤ n) {gf : Nat} {bd : Array Value} (hg : a.eval g = .func (.func gf) bd #[]) (hFg : F.fn gf) (eg : ∀ args w, (callFunc gf args).run P w = .ok (.enter gf args) w)
    {encs : α → Array Value} {Px : List α → α → World → Prop} {S : (Nat → Prop) → List α → World → Prop} {Sp : List α → Prop} {B0 : Nat} {N0 : Nat → Prop} (hseq : SeqN F (n - 1) P gf bd encs Px S Sp B0 N0 w)
    (hN0 : ∀ q, N0 q → q < w.heap.size) (hB0 : B0 ≤ w.heap.size) (hps : ∀ x, (encs x).size = ps.size)
    (I : (Nat → Prop) → List α → World → Prop) (Ix : Code → (Nat → Prop) → List α → World → Prop) (hI : AbN I) (hS : AbL w.heap.size S) (hIl : AbL w.heap.size I) (hIxl : ∀ c, AbL w.heap.size (Ix c)) (h0 : I N0 [] ((w.alloc (.deferred (some []))).alloc (.loop default))) (a₁ : α → Act)
    (hPx : ∀ pre x W l o o', w.heap.size ≤ l → W.heap[l]? = some o → o.isCells = false → Px pre x W → Px pre x (W.putObj l o'))
    (hassign : ∀ (l : Nat) (x : α) (W : World) (K : Act → World → Prop), K (a₁ x) W →
      assign.wpIn (F.inRound l) (n - 1 - 1) P (Exit.then K (fun _ _ _ => False)) { tmps := (ps.zip (encs x)).foldl (fun t (p, v) => t.setIfInBounds p v) a.tmps, defers := [] } W)
    (hbody : ∀ (l : Nat) (N : Nat → Prop) (pre : List α) (x : α) (W : World), I N pre W → Px pre x W → ¬ N w.heap.size → ¬ N (w.heap.size + 1) → W.heap[w.heap.size]? = some (.deferred (some [])) → (∃ r, W.heap[w.heap.size + 1]? = some (.loop r)) → body.wpIn (F.inRound l) (n - 1 - 1) P (ownPostN w.heap.size B0 N I Ix (pre ++ [x]) W) (a₁ x) W)
    (hdone : ∀ (N : Nat → Prop) (xs : List α) (W : World), S N xs W → I N xs W → W.heap[w.heap.size]? = some (.deferred (some [])) → Q .normal { a with defers := { target := .collected w.heap.size, args := #[] } :: a.defers } W)
    (hstop : ∀ (c : Code) (N : Nat → Prop) (pre : List α) (W : World), Sp pre → Ix c N pre W → W.heap[w.heap.size]? = some (.deferred (some [])) → c.wpIn F n P Q { a with defers := { target := .collected w.heap.size, args := #[] } :: a.defers } W) :
    (Code.rangeFunc g ps assign body).wpIn F n P Q a w := by
  refine wpIn_rangeFunc ?_
  intro fn hfn
  rw [hro]
  obtain ⟨rec, hrec⟩ : ∃ rec : LoopState → Option Code → Loop, rec = fun st pe => { state := st, pending := pe, fn, tmps := a.tmps, params := ps, assign, body, defers := w.heap.size } := ⟨_, rfl⟩
  obtain ⟨W1, hW1⟩ : ∃ W1, (w.alloc (.deferred (some []))).alloc (.loop (rec .ready none)) = W1 := ⟨_, rfl⟩
  have hL1 : W1.heap[w.heap.size + 1]? = some (.loop (rec .ready none)) := by
    rw [← hW1]; have := World.alloc_heap_new (w.alloc (.deferred (some []))) (.loop (rec .ready none)); rwa [World.size_alloc] at this
  have hK1 : W1.heap[w.heap.size]? = some (.deferred (some [])) := by
    rw [← hW1]; exact (Below.heap_alloc _ _ _ (by simp)).trans (World.alloc_heap_new w _)
  have hI1 : I N0 [] W1 := by
    have hL0 : ((w.alloc (.deferred (some []))).alloc (.loop default)).heap[w.heap.size + 1]? = some (.loop default) := by
      have := World.alloc_heap_new (w.alloc (.deferred (some []))) (.loop default); rwa [World.size_alloc] at this
    have h := hIl N0 [] _ (w.heap.size + 1) _ (.loop (rec .ready none)) (by omega) hL0 rfl h0
    have e : ((w.alloc (.deferred (some []))).alloc (.loop default)).putObj (w.heap.size + 1) (.loop (rec .ready none)) = W1 := by
      rw [← hW1]
      simp only [World.putObj, World.alloc]
      congr 1
      apply Array.ext_getElem?
      intro i
      simp only [Array.getElem?_setIfInBounds, Array.getElem?_push, Array.size_push]
      repeat' split
      all_goals first | rfl | omega | simp_all
    rw [e] at h
    exact h
  have hb1 : Frm (fun q => ¬ N0 q ∧ B0 ≤ q) w W1 := by
    rw [← hW1]; exact ((Frm.refl _ w).alloc _).alloc _
  refine ⟨w.heap.size + 1, [{ target := .collected w.heap.size, args := #[] }], W1, { target := .fn (.func gf) #[], args := bd ++ #[.func (.yield (w.heap.size + 1)) #[] #[]] }, W1, gf,
    bd ++ #[.func (.yield (w.heap.size + 1)) #[] #[]], W1, ?_, ?_, ?_, ?_, fun _ => h1, ?_⟩
  · rw [← hW1, hrec]; exact run_enterLoop_outer _ _ _ _ _
  · simp only [resolve, hg]
    simp [go_sem]
  · intro f' hf'; simp [Target.leads] at hf'; subst hf'; exact hFg
  · simp [invoke, go_sem, eg]
  · refine (hseq (w.heap.size + 1)
      (fun N pre W => I N pre W ∧ ¬ N w.heap.size ∧ ¬ N (w.heap.size + 1) ∧ W.heap[w.heap.size + 1]? = some (.loop (rec .ready none)) ∧ W.heap[w.heap.size]? = some (.deferred (some [])))
      (fun N pre W => ∃ c, Ix c N pre W ∧ ¬ N w.heap.size ∧ ¬ N (w.heap.size + 1) ∧ W.heap[w.heap.size + 1]? = some (.loop (rec .done (some c))) ∧ W.heap[w.heap.size]? = some (.deferred (some [])))
      W1 hb1 ?_ ?_ ⟨hI1, fun h => by have := hN0 _ h; omega, fun h => by have := hN0 _ h; omega, hL1, hK1⟩).mono ?_
    · rintro N N' pre A B ⟨hi, hn1, hn2, hl, hk⟩ hf hN
      have l1 := (Array.getElem?_eq_some_iff.1 hl).1
      have l2 := (Array.getElem?_eq_some_iff.1 hk).1
      exact ⟨hI N N' pre A B hi hf hN, fun h => by rcases hN _ h with h | h; exact hn1 h; omega, fun h => by rcases hN _ h with h | h; exact hn2 h; omega, (hf.block _ l1 hn2).trans hl, (hf.block _ l2 hn1).trans hk⟩
    · rintro N pre x W ⟨hi, hn1, hn2, hl, hk⟩ hpx
      have hlt : w.heap.size + 1 < W.heap.size := (Array.getElem?_eq_some_iff.1 hl).1
      have hy := run_yield (P := P) (args := encs x) hl (by rw [hrec]; exact hps x)
      rw [hrec] at hy
      refine ⟨fn, _, assign, body, hy, roundIn_of_wpIn hfn (hassign _ x W _ ⟨_, run_beginRound hl (by rw [hrec]), ?_⟩)⟩
      obtain ⟨W2, hW2⟩ : ∃ W2, W.putObj (w.heap.size + 1) (.loop { rec .ready none with state := .busy }) = W2 := ⟨_, rfl⟩
      have hl2 : W2.heap[w.heap.size + 1]? = some (.loop { rec .ready none with state := .busy }) := by rw [← hW2]; exact World.putObj_heap_same hlt
      have hk2 : W2.heap[w.heap.size]? = some (.deferred (some [])) := by rw [← hW2]; exact (World.putObj_heap_other (by omega)).trans hk
      have hf2 : Frm (fun q => ¬ N q ∧ B0 ≤ q) W W2 := by rw [← hW2]; exact (Frm.refl _ W).putObj (S := fun q => ¬ N q ∧ B0 ≤ q) ⟨hn2, by omega⟩ _
      have hi2 : I N pre W2 := by rw [← hW2]; exact hIl N pre W _ _ _ (by omega) hl rfl hi
      have hp2 : Px pre x W2 := by rw [← hW2]; exact hPx pre x W _ _ _ (by omega) hl rfl hpx
      have hlt2 : w.heap.size + 1 < W2.heap.size := (Array.getElem?_eq_some_iff.1 hl2).1
      rw [hW2]
      refine wpIn_mono (hbody _ N pre x _ hi2 hp2 hn1 hn2 hk2 ⟨_, hl2⟩) ?_
      have fin : ∀ (jump : Option Code) (W3 : World), (W3.heap[w.heap.size]? = W2.heap[w.heap.size]? ∧ W3.heap[w.heap.size + 1]? = W2.heap[w.heap.size + 1]?) →
          (Instr.endRound (w.heap.size + 1) jump).run P W3 = .ok (.bool jump.isNone) (W3.putObj (w.heap.size + 1) (.loop (rec (if jump.isNone then .ready else .done) jump))) ∧
          W3.heap[w.heap.size + 1]? = some (.loop { rec .ready none with state := .busy }) ∧
          (W3.putObj (w.heap.size + 1) (.loop (rec (if jump.isNone then .ready else .done) jump))).heap[w.heap.size + 1]? = some (.loop (rec (if jump.isNone then .ready else .done) jump)) ∧
          (W3.putObj (w.heap.size + 1) (.loop (rec (if jump.isNone then .ready else .done) jump))).heap[w.heap.size]? = some (.deferred (some [])) := fun jump W3 hk3 => by
        have hl3 := hk3.2.trans hl2
        have := run_endRound (P := P) jump hl3
        rw [hrec] at this ⊢
        exact ⟨this, by rw [hrec] at hl3; exact hl3, World.putObj_heap_same (Array.getElem?_eq_some_iff.1 hl3).1, (World.putObj_heap_other (by omega)).trans (hk3.1.trans hk2)⟩
      rintro e a3 W3 hp
      cases e with
      | normal =>
        obtain ⟨hk3, hkp3, hi3⟩ := hp
        obtain ⟨hr, hl3, hl4, hk4⟩ := fin none W3 hk3
        exact ⟨_, _, hr, .inl ⟨rfl, ⟨hIl _ _ _ _ _ _ (by omega) hl3 rfl hi3, hn1, hn2, hl4, hk4⟩, (hf2.trans hkp3).putObj (S := fun q => ¬ N q ∧ B0 ≤ q) ⟨hn2, by omega⟩ _⟩⟩
      | ret =>
        obtain ⟨hk3, hi3⟩ := hp
        obtain ⟨hr, hl3, hl4, hk4⟩ := fin (some .ret) W3 hk3
        exact ⟨_, _, hr, .inr ⟨rfl, .ret, hIxl _ _ _ _ _ _ _ (by omega) hl3 rfl hi3, hn1, hn2, hl4, hk4⟩⟩
      | exit id =>
        obtain ⟨hk3, hi3⟩ := hp
        obtain ⟨hr, hl3, hl4, hk4⟩ := fin (some (.exit id)) W3 hk3
        exact ⟨_, _, hr, .inr ⟨rfl, .exit id, hIxl _ _ _ _ _ _ _ (by omega) hl3 rfl hi3, hn1, hn2, hl4, hk4⟩⟩
      | goto t =>
        obtain ⟨hk3, hi3⟩ := hp
        obtain ⟨hr, hl3, hl4, hk4⟩ := fin (some (.goto t)) W3 hk3
        exact ⟨_, _, hr, .inr ⟨rfl, .goto t, hIxl _ _ _ _ _ _ _ (by omega) hl3 rfl hi3, hn1, hn2, hl4, hk4⟩⟩
      | panic ch => exact hp.elim
      | outgrown => exact hp.elim
    · rintro e W2 ⟨⟨v, rfl⟩, (⟨N, xs, hSx, hi, hn1, hn2, hl, hk⟩ | ⟨N, pre, hSp, c, hi, hn1, hn2, hl, hk⟩)⟩
      · exact ⟨none, _, by have := run_endLoop (P := P) hl (by rw [hrec]; simp); rw [hrec] at this; exact this, hdone N xs _ (hS _ _ _ _ _ _ (by omega) hl rfl hSx) (hIl _ _ _ _ _ _ (by omega) hl rfl hi) ((World.putObj_heap_other (by omega)).trans hk)⟩
      · exact ⟨some c, _, by have := run_endLoop (P := P) hl (by rw [hrec]; simp); rw [hrec] at this; exact this, hstop c N pre _ hSp (hIxl _ _ _ _ _ _ _ (by omega) hl rfl hi) ((World.putObj_heap_other (by omega)).trans hk)⟩
end Go.Proofs.YtgahfpflhhfhfaaGreat

/- What chunks tell, one behind the other, as an iterator hands it over: plain. -/
namespace Go.Proofs.YtgahfpflhhfhfaaGreat
open Go.RowKit Rng Win Lz
set_option linter.unusedVariables false
set_option linter.unusedSimpArgs false
/-- What is handed over: bytes, or an error, the last; what stands behind the end. -/
def evGo (S most : Nat) : Nat → DS → Nat → List UInt8 → List (List UInt8 × Nat) × Option (List UInt8)
  | 0, _, _, _ => ([([], 10)], none)
  | f + 1, x, told, src =>
    match one S x src with
    | .err e => ([([], e)], none)
    | .fin rest => ([], some rest)
    | .told b y rest => if most < told + b.length then ([([], 3)], none) else ((b, 0) :: (evGo S most f { y with total := y.total + b.length } (told + b.length) rest).1, (evGo S most f { y with total := y.total + b.length } (told + b.length) rest).2)
/-- Bytes alone. -/
def evOut (l : List (List UInt8 × Nat)) : List UInt8 := (l.map (·.1)).flatten
/-- The first error, or none. -/
def evErr (l : List (List UInt8 × Nat)) : Nat := ((l.map (·.2)).find? (· ≠ 0)).getD 0
theorem one_err {S : Nat} {x : DS} {src : List UInt8} {e : Nat} (h : one S x src = .err e) : e ≠ 0 := by
  unfold one oneBody oneLz at h
  repeat' split at h
  all_goals first | (cases h; done) | (injection h with h; omega)
/-- The events tell what the chunks come tq9. -/
theorem evGo_d2Go (S most : Nat) : ∀ (f : Nat) (x : DS) (out src : List UInt8), d2Go S most f x out src = (out ++ evOut (evGo S most f x out.length src).1, match (evGo S most f x out.length src).2 with | none => .inl (evErr (evGo S most f x out.length src).1) | some r => .inr r)
  | 0, x, out, src => by simp [d2Go, evGo, evOut, evErr]
  | f + 1, x, out, src => by
    unfold d2Go evGo
    cases h : one S x src with
    | err e =>
      have := one_err h
      simp [evOut, evErr, this]
    | fin rest => simp [evOut]
    | told b y rest =>
      simp only
      by_cases hm : most < out.length + b.length
      · simp [hm, evOut, evErr]
      · rw [if_neg hm, if_neg hm]
        have ih := evGo_d2Go S most f { y with total := y.total + b.length } (out ++ b) rest
        rw [List.length_append] at ih
        rw [ih]
        simp [evOut, evErr]
/-- All but the last are no errors; if the end is come tq9, none is one. -/
theorem evGo_ok (S most : Nat) : ∀ (f : Nat) (x : DS) (told : Nat) (src : List UInt8), (∃ l b e, (evGo S most f x told src).1 = l ++ [(b, e)] ∧ e ≠ 0 ∧ b = [] ∧ (evGo S most f x told src).2 = none ∧ ∀ p ∈ l, p.2 = 0) ∨ ((∃ r, (evGo S most f x told src).2 = some r) ∧ ∀ p ∈ (evGo S most f x told src).1, p.2 = 0)
  | 0, _, _, _ => .inl ⟨[], [], 10, rfl, by decide, rfl, rfl, fun _ h => by cases h⟩
  | f + 1, x, told, src => by
    unfold evGo
    cases h : one S x src with
    | err e => exact .inl ⟨[], [], e, rfl, one_err h, rfl, rfl, fun _ h => by cases h⟩
    | fin rest => exact .inr ⟨⟨rest, rfl⟩, fun _ h => by cases h⟩
    | told b y rest =>
      simp only
      by_cases hm : most < told + b.length
      · rw [if_pos hm]
        exact .inl ⟨[], [], 3, rfl, by decide, rfl, rfl, fun _ h => by cases h⟩
      · rw [if_neg hm]
        rcases evGo_ok S most f { y with total := y.total + b.length } (told + b.length) rest with ⟨l, b2, e2, h1, h2, h3, h4, h5⟩ | ⟨⟨r, h1⟩, h2⟩
        · exact .inl ⟨(b, 0) :: l, b2, e2, by simp only [h1]; rfl, h2, h3, h4, fun p hp => by
            rcases List.mem_cons.1 hp with e | e
            · rw [e]
            · exact h5 p e⟩
        · exact .inr ⟨⟨r, h1⟩, fun p hp => by
            rcases List.mem_cons.1 hp with e | e
            · rw [e]
            · exact h2 p e⟩
theorem body_facts {S : Nat} {x y : DS} {c : Nat} {h r b rest : List UInt8} (hst : x.st < 12 ∧ ∀ j, x.rep j < 4294967296) (hb : oneBody S x c h r = .told b y rest) : y.total ≤ x.total ∧ b.length ≤ 2097152 ∧ rest.length ≤ r.length := by
  have hd := dict_total x c
  unfold oneBody at hb
  split at hb
  · split at hb
    · cases hb
    · injection hb with h1 h2 h3
      subst h1 h2 h3
      have := twoB_le h 1
      refine ⟨hd, by rw [List.length_take]; omega, by rw [List.length_drop]; omega⟩
  · split at hb
    · cases hb
    · split at hb
      · cases hb
      · unfold oneLz at hb
        have hs : ∀ p, ((x.dict c).set c p).st < 12 ∧ (∀ j, ((x.dict c).set c p).rep j < 4294967296) ∧ ((x.dict c).set c p).total ≤ x.total := by
          intro p
          unfold DS.set DS.dict DS.reset DS.clear
          repeat' split
          all_goals first | exact ⟨hst.1, hst.2, Nat.le_refl _⟩ | exact ⟨hst.1, hst.2, Nat.zero_le _⟩ | exact ⟨(show (0 : Nat) < 12 by decide), fun _ => (show (0 : Nat) < 4294967296 by decide), Nat.le_refl _⟩ | exact ⟨(show (0 : Nat) < 12 by decide), fun _ => (show (0 : Nat) < 4294967296 by decide), Nat.zero_le _⟩
        obtain ⟨s1, s2, s3⟩ := hs (h.getD 5 0).toNat
        split at hb
        · cases hb
        · rename_i t z hz
          injection hb with h1 h2 h3
          subst h1 h2 h3
          have hi := chunkOf_inv s1 s2 hz
          have := twoB_le h 1
          refine ⟨s3, by rw [hi.2]; omega, by rw [List.length_drop]; omega⟩
end Go.Proofs.YtgahfpflhhfhfaaGreat

/- Chunks as an iterator: the walk. -/
namespace Go.Proofs.YtgahfpflhhfhfaaGreat
open Go.RowKit Rng Win Lz
set_option linter.unusedVariables false
set_option linter.unusedSimpArgs false
attribute [local go_sem] Oper.semAt_some
/-- What is handed over in one round. -/
structure Ck where
  val : Value
  b : List UInt8
  e : Nat
def ckEnc (x : Ck) : Array Value := #[x.val, .int .i64 (x.e : Int)]
def ckP (x : Ck) : List UInt8 × Nat := (x.b, x.e)
def sumC (pre : List Ck) : Nat := (pre.map (·.b.length)).sum
def PxC (fb un most : Nat) (pre : List Ck) (x : Ck) (W : World) : Prop :=
  (∃ A n c used, SrcAt W fb A n c used ∧ used ≤ un) ∧ ∃ Ab cb, x.val = .slice Ab x.b.length cb ∧ BRow W W.heap.size Ab x.b ∧ x.b.length ≤ cb ∧ cb ≤ maxLen ∧ sumC pre + x.b.length ≤ most ∧ (x.e ≠ 0 → x.val = .slice none 0 0)
def SC (E : List (List UInt8 × Nat) × Option (List UInt8)) (fb un B0 : Nat) (N : Nat → Prop) (xs : List Ck) (W : World) : Prop :=
  xs.map ckP = E.1 ∧ ∀ rest, E.2 = some rest → ∃ A n c used, SrcAt W fb A n c used ∧ used + n = un ∧ BRow W B0 A rest ∧ n = rest.length ∧ n ≤ c ∧ c ≤ maxLen
def SpC (E : List (List UInt8 × Nat) × Option (List UInt8)) (pre : List Ck) : Prop := pre.map ckP <+: E.1
theorem pxC_err (fb un most : Nat) (pre : List Ck) (e : Nat) (W : World) (hs : ∃ A n c used, SrcAt W fb A n c used ∧ used ≤ un) (h : sumC pre ≤ most) : PxC fb un most pre ⟨.slice none 0 0, [], e⟩ W :=
  ⟨hs, none, 0, rfl, BRow.nil _ _ _, Nat.le_refl _, Nat.zero_le _, by simpa using h, fun _ => rfl⟩
theorem BRow.setI64 {w : World} {B : Nat} {A : Option Addr} {bs : List UInt8} {p : Addr} {z : Int} (h : BRow w B A bs) (hp : w.cell? p = some (.int .i64 z)) (v : Value) : BRow (w.setCell p v) B A bs := by
  intro h0
  obtain ⟨b, off, rfl, hb, hc⟩ := h h0
  refine ⟨b, off, rfl, hb, fun k hk => ?_⟩
  rw [World.cell?_setCell_other]
  · exact hc k hk
  · intro e
    rw [e, hc k hk] at hp
    simp [byteV] at hp
/-- A chunk behind its head. -/
theorem body_p (rb fb wb kb base S B0 : Nat) (k : LK) (x : DS) (wv : Value) (A : Option Addr) (n c used : Nat) (most : Int) (bs hd : List UInt8) (ha : Option Addr) (cc m : Nat) (w : World)
    (h : RdS w rb fb wb kb base S k x wv A n c used most) (hB : ∀ q, RdB rb fb wb k wv q → B0 ≤ q) (hB0 : B0 ≤ w.heap.size) (hS : S ≤ 16777216) (hn : n = bs.length) (hr : BRow w B0 A bs) (hc : n ≤ c) (hcm : c ≤ maxLen)
    (hhr : BRow w B0 ha hd) (hm : m = headN cc) (hdl : hd.length = m) (hcc : (hd.getD 0 0).toNat = cc) (hleg : m ≠ 0 ∧ m ≠ 1) (hu : used + n ≤ 4611686018427387904) (ht : x.total < 9223372036854775808) :
    Calls Tryz.prog 85 #[.pointer (some ⟨rb, 0, none⟩), .slice ha m m] w (BodyEnd rb fb wb kb base S B0 k wv most (used + n) w (oneBody S x cc hd bs)) := by
  obtain ⟨hb, off, rfl, _, _⟩ := hhr (by omega)
  have hcase : (cc = 1 ∨ cc = 2) ∧ m = 3 ∨ (128 ≤ cc ∧ cc < 192) ∧ m = 5 ∨ 192 ≤ cc ∧ m = 6 := by
    unfold headN at hm
    repeat' split at hm
    all_goals omega
  rcases hcase with ⟨h1, rfl⟩ | ⟨h1, rfl⟩ | ⟨h1, rfl⟩
  · exact body_raw rb fb wb kb base S B0 k x wv A n c used most bs hd hb off cc w h hB hB0 hS hn hr hc hcm hhr hdl hcc h1 hu ht
  · exact body_lz rb fb wb kb base S B0 k x wv A n c used most bs hd hb off cc w h hB hB0 hS hn hr hc hcm hhr hdl hcc h1 hu ht
  · exact body_set rb fb wb kb base S B0 k x wv A n c used most bs hd hb off cc w h hB hB0 hS hn hr hc hcm hhr hdl hcc h1 hu ht
set_option maxRecDepth 8000 in
set_option maxHeartbeats 10000000 in
theorem chunks_seq (n rb fb wb kb base S B0 : Nat) (k : LK) (x : DS) (wv : Value) (A : Option Addr) (nn c used most un : Nat) (bs : List UInt8) (w : World) (hn1 : 2 ≤ n)
    (h : RdS w rb fb wb kb base S k x wv A nn c used (most : Int)) (hB : ∀ q, RdB rb fb wb k wv q → B0 ≤ q) (hB0 : B0 ≤ w.heap.size) (hS : S ≤ 16777216) (hn : nn = bs.length) (hr : BRow w B0 A bs) (hc : nn ≤ c) (hcm : c ≤ maxLen)
    (hu : used + nn = un) (hub : un ≤ 4611686018427387904) (ht : x.total + most ≤ 4611686018427387904) :
    SeqN Fence.wide n Tryz.prog 72 #[.pointer (some ⟨rb, 0, none⟩)] ckEnc (PxC fb un most) (SC (evGo S most (bs.length + 1) x 0 bs) fb un B0) (SpC (evGo S most (bs.length + 1) x 0 bs)) B0 (RdB rb fb wb k wv) w := by
  intro l J Jx W hW hJ hY h0
  have hd : RdS W rb fb wb kb base S k x wv A nn c used (most : Int) := h.frm hW (fun q hq hn => hn.1 hq)
  have hr' : BRow W B0 A bs := row_kept hr hW hB0 (fun q hq => hq.2)
  have hz : B0 ≤ W.heap.size := Nat.le_trans hB0 hW.size
  obtain ⟨E, hE⟩ : ∃ E, evGo S most (bs.length + 1) x 0 bs = E := ⟨_, rfl⟩
  rw [hE]
  obtain ⟨T0, hT0⟩ : ∃ T, x.total = T := ⟨_, rfl⟩
  have HJ := Lib.hid hJ
  have HY := Lib.hid hY
  have HS : Hid (J (RdB rb fb wb k wv) [] W ∧ RdS W rb fb wb kb base S k x wv A nn c used (most : Int) ∧ BRow W B0 A bs ∧ nn = bs.length ∧ nn ≤ c ∧ c ≤ maxLen ∧ used + nn = un ∧ (∀ q, RdB rb fb wb k wv q → B0 ≤ q) ∧ B0 ≤ W.heap.size ∧ x.total ≤ T0) :=
    Lib.hid ⟨h0, hd, hr', hn, hc, hcm, hu, hB, hz, by omega⟩
  have HE := Lib.hid hE
  have HT : Hid (T0 + most ≤ 4611686018427387904) := Lib.hid (by omega)
  clear h hB hB0 hn hr hc hcm hu ht hW hJ hY h0 hd hr' hz hE hT0
  refine callsIn_of_wp Tryz.func72 rfl trivial ?_ rfl
  simp only [Tryz.ntmps72, List.size_toArray, List.length_cons, List.length_nil, Nat.reduceAdd, Nat.reduceSub, Array.replicate_succ, Array.replicate_zero, List.push_toArray, List.append_toArray, List.nil_append, List.cons_append]
  gi_wp2
  gi_loopg [4] (bs.length + 1) (fun gf tv wr => ∃ (pre : List Ck) (told : Nat) (x1 : DS) (k1 : LK) (wv1 : Value) (A1 : Option Addr) (n1 c1 used1 : Nat) (src : List UInt8), tv = .int .i64 (told : Int) ∧ J (RdB rb fb wb k1 wv1) pre wr ∧ RdS wr rb fb wb kb base S k1 x1 wv1 A1 n1 c1 used1 (most : Int) ∧ BRow wr B0 A1 src ∧ n1 = src.length ∧ n1 ≤ c1 ∧ c1 ≤ maxLen ∧ used1 + n1 = un ∧ (∀ q, RdB rb fb wb k1 wv1 q → B0 ≤ q) ∧ B0 ≤ wr.heap.size ∧ x1.total ≤ T0 + told ∧ src.length < gf ∧ told ≤ most ∧ told = sumC pre ∧ E.1 = pre.map ckP ++ (evGo S most gf x1 told src).1 ∧ E.2 = (evGo S most gf x1 told src).2)
  case atStart =>
    obtain ⟨h1, h2, h3, h4, h5, h6, h7, h8, h9, h10⟩ := HS.out
    exact ⟨[], 0, x, k, wv, A, nn, c, used, bs, rfl, h1, h2, h3, h4, h5, h6, h7, h8, h9, h10, by omega, by omega, rfl, by rw [HE.out]; rfl, by rw [HE.out]⟩
  case round =>
    obtain ⟨pre, told, x1, k1, wv1, A1, n1, c1, used1, src, rfl, hj, hd, hr, hn, hc, hcm, hu, hB, hz, htot, hlen, htm, hts, hE1, hE2⟩ := hrel
    clear HS HE
    obtain ⟨g, rfl⟩ : ∃ g, gk = g + 1 := ⟨gk - 1, by omega⟩
    have HJ1 := Lib.hid hj
    have HD := Lib.hid hd
    have HR := Lib.hid hr
    have HB := Lib.hid hB
    have HU := Lib.hid hu
    have HTS := Lib.hid hts
    have h1n : 1 ≤ n := by omega
    obtain ⟨r0, r1, r2, r3, r4, r5, r6⟩ := hd.cells
    have hend : ∀ (e : Nat) (xk : Ck) (W' : World), evGo S most (g + 1) x1 told src = ([([], e)], none) → xk.b = [] → xk.e = e → ((J (RdB rb fb wb k1 wv1) (pre ++ [xk]) W' → SC E fb un B0 (RdB rb fb wb k1 wv1) (pre ++ [xk]) W') ∧ SpC E (pre ++ [xk])) := by
      intro e xk W' hev hxb hxe
      rw [hev] at hE1 hE2
      have hm : (pre ++ [xk]).map ckP = E.1 := by rw [List.map_append, hE1]; simp [ckP, hxb, hxe]
      exact ⟨fun _ => ⟨hm, fun rest hrst => by rw [hE2] at hrst; cases hrst⟩, by unfold SpC; rw [hm]; exact List.prefix_refl _⟩
    have HEND := Lib.hid hend
    have HE1 := Lib.hid hE1
    have HE2 := Lib.hid hE2
    clear hj hd hr hB hu hts hend hE1 hE2 r0 r1 r3 r4
    have HYE : Hid (∀ (e : Nat) (W1 : World), (∃ A n c used, SrcAt W1 fb A n c used ∧ used ≤ un) → J (RdB rb fb wb k1 wv1) pre W1 → YieldAt Fence.wide (n - 1) Tryz.prog l #[.slice none 0 0, .int .i64 (e : Int)] W1 fun e' W' =>
        (e' = .returned (.bool true) ∧ J (RdB rb fb wb k1 wv1) (pre ++ [⟨.slice none 0 0, [], e⟩]) W' ∧ Frm (fun q => ¬ RdB rb fb wb k1 wv1 q ∧ B0 ≤ q) W1 W') ∨ (e' = .returned (.bool false) ∧ Jx (RdB rb fb wb k1 wv1) (pre ++ [⟨.slice none 0 0, [], e⟩]) W')) := Lib.hid
      (fun e W1 hs hj => HY.out _ pre ⟨.slice none 0 0, [], e⟩ W1 hj (pxC_err fb un most pre e W1 hs (by rw [← HTS.out]; exact htm)))
    by_cases hs0 : src.length < 1
    · have hev : evGo S most (g + 1) x1 told src = ([([], 10)], none) := by
        unfold evGo one
        rw [if_pos hs0]
      obtain ⟨fn, tmps, assign, body, hy, hR⟩ := HYE.out 10 wr ⟨_, _, _, _, HD.out.src, by have := HU.out; omega⟩ HJ1.out
      replace hy : (Instr.yield l #[.slice none 0 0, .int .i64 10]).run Tryz.prog wr = .ok (.round l fn tmps assign body) wr := hy
      have HP := Lib.hid (peek_p fb A1 n1 c1 used1 1 wr HD.out.src hc)
      rw [if_neg (by omega)] at HP
      have HEV := Lib.hid hev
      clear hev
      gi_wp2_with (refine ⟨trivial, ?_⟩; gi_at_call 34; refine (callsIn_wide.2 HP.out).mono ?_; rintro e w2 ⟨rfl, hw⟩; subst hw)
      refine hR.mono ?_
      rintro e W' (⟨rfl, hJ', hk⟩ | ⟨rfl, hJx'⟩)
      · gi_wp2
        refine bodyPost_ret (results_none rfl _ _ _) rfl ?_
        exact ⟨⟨_, rfl⟩, .inl ⟨_, _, (HEND.out 10 _ W' HEV.out rfl rfl).1 hJ', hJ'⟩⟩
      · gi_wp2
        refine bodyPost_ret (results_none rfl _ _ _) rfl ?_
        exact ⟨⟨_, rfl⟩, .inr ⟨_, _, (HEND.out 10 _ W' HEV.out rfl rfl).2, hJx'⟩⟩
    · obtain ⟨ab, ao, rfl, hab, hcell⟩ := HR.out (by omega)
      obtain ⟨c0, hc0⟩ : ∃ c, (src.getD 0 0).toNat = c := ⟨_, rfl⟩
      have hc256 : c0 < 256 := by rw [← hc0]; exact (src.getD 0 0).toNat_lt
      have b0 : wr.cell? ⟨ab, ao, none⟩ = some (.int .u8 (c0 : Int)) := by rw [← hc0]; exact hcell 0 (by omega)
      obtain ⟨m, hm⟩ : ∃ m, headN c0 = m := ⟨_, rfl⟩
      have hm6 : m ≤ 6 := by rw [← hm]; exact headN_le c0
      have HP := Lib.hid (peek_p fb (some ⟨ab, ao, none⟩) n1 c1 used1 1 wr HD.out.src hc)
      rw [if_pos (by omega)] at HP
      have HH := Lib.hid (mhead_p c0 wr hc256)
      rw [hm] at HH
      have hone : one S x1 src = if m = 0 then .err 11 else if src.length < m then .err 10 else if m = 1 then .fin (src.drop 1) else if badHead x1 c0 then .err 11 else oneBody S x1 c0 (src.take m) (src.drop m) := by
        unfold one
        rw [if_neg hs0, hc0, hm]
      have HO := Lib.hid hone
      have HM := Lib.hid hm
      have HC0 := Lib.hid hc0
      clear hone hm hc0 hcell
      by_cases hm0 : m = 0
      · have hev : evGo S most (g + 1) x1 told src = ([([], 11)], none) := by
          unfold evGo
          rw [HO.out, if_pos hm0]
        obtain ⟨fn, tmps, assign, body, hy, hR⟩ := HYE.out 11 wr ⟨_, _, _, _, HD.out.src, by have := HU.out; omega⟩ HJ1.out
        replace hy : (Instr.yield l #[.slice none 0 0, .int .i64 11]).run Tryz.prog wr = .ok (.round l fn tmps assign body) wr := hy
        have HEV := Lib.hid hev
        have q0 : ((m : Int) == 0) = true := beq_iff_eq.2 (by omega)
        clear hev
        gi_wp2_with (first | (refine ⟨trivial, ?_⟩; gi_at_call 34; refine (callsIn_wide.2 HP.out).mono ?_; rintro e w2 ⟨rfl, hw⟩; subst hw) | (refine ⟨trivial, ?_⟩; gi_at_call 84; refine (callsIn_wide.2 HH.out).mono ?_; rintro e w2 ⟨rfl, hw⟩; subst hw))
        refine hR.mono ?_
        rintro e W' (⟨rfl, hJ', hk⟩ | ⟨rfl, hJx'⟩)
        · gi_wp2
          refine bodyPost_ret (results_none rfl _ _ _) rfl ?_
          exact ⟨⟨_, rfl⟩, .inl ⟨_, _, (HEND.out 11 _ W' HEV.out rfl rfl).1 hJ', hJ'⟩⟩
        · gi_wp2
          refine bodyPost_ret (results_none rfl _ _ _) rfl ?_
          exact ⟨⟨_, rfl⟩, .inr ⟨_, _, (HEND.out 11 _ W' HEV.out rfl rfl).2, hJx'⟩⟩
      have q0 : ((m : Int) == 0) = false := beq_eq_false_iff_ne.2 (by omega)
      by_cases hml : src.length < m
      · have hev : evGo S most (g + 1) x1 told src = ([([], 10)], none) := by
          unfold evGo
          rw [HO.out, if_neg hm0, if_pos hml]
        obtain ⟨fn, tmps, assign, body, hy, hR⟩ := HYE.out 10 wr ⟨_, _, _, _, HD.out.src, by have := HU.out; omega⟩ HJ1.out
        replace hy : (Instr.yield l #[.slice none 0 0, .int .i64 10]).run Tryz.prog wr = .ok (.round l fn tmps assign body) wr := hy
        have HEV := Lib.hid hev
        have HT1 := Lib.hid (take_no fb (some ⟨ab, ao, none⟩) n1 c1 used1 m wr HD.out.src (by omega))
        clear hev
        gi_wp2_with (first | (refine ⟨trivial, ?_⟩; gi_at_call 34; refine (callsIn_wide.2 HP.out).mono ?_; rintro e w2 ⟨rfl, hw⟩; subst hw) | (refine ⟨trivial, ?_⟩; gi_at_call 84; refine (callsIn_wide.2 HH.out).mono ?_; rintro e w2 ⟨rfl, hw⟩; subst hw) | (refine ⟨trivial, ?_⟩; gi_at_call 36; refine (callsIn_wide.2 HT1.out).mono ?_; rintro e w2 ⟨rfl, hw⟩; subst hw))
        refine hR.mono ?_
        rintro e W' (⟨rfl, hJ', hk⟩ | ⟨rfl, hJx'⟩)
        · gi_wp2
          refine bodyPost_ret (results_none rfl _ _ _) rfl ?_
          exact ⟨⟨_, rfl⟩, .inl ⟨_, _, (HEND.out 10 _ W' HEV.out rfl rfl).1 hJ', hJ'⟩⟩
        · gi_wp2
          refine bodyPost_ret (results_none rfl _ _ _) rfl ?_
          exact ⟨⟨_, rfl⟩, .inr ⟨_, _, (HEND.out 10 _ W' HEV.out rfl rfl).2, hJx'⟩⟩
      have HT1 := Lib.hid (take_p fb (some ⟨ab, ao, none⟩) n1 c1 used1 m wr HD.out.src hc (by omega) (by have := HU.out; omega))
      by_cases hm1 : m = 1
      · have q1 : ((m : Int) == 1) = true := beq_iff_eq.2 (by omega)
        have e1 : ((1 : Nat) : Int) = 1 := rfl
        rw [hm1, e1] at HT1
        clear e1
        gi_wp2_with (first | (refine ⟨trivial, ?_⟩; gi_at_call 34; refine (callsIn_wide.2 HP.out).mono ?_; rintro e w2 ⟨rfl, hw⟩; subst hw) | (refine ⟨trivial, ?_⟩; gi_at_call 84; refine (callsIn_wide.2 HH.out).mono ?_; rintro e w2 ⟨rfl, hw⟩; subst hw) | (refine ⟨trivial, ?_⟩; gi_at_call 36; refine (callsIn_wide.2 HT1.out).mono ?_; rintro e w2 ⟨rfl, hs2, hf2⟩))
        refine bodyPost_ret (results_none rfl _ _ _) rfl ?_
        refine ⟨⟨_, rfl⟩, .inl ⟨RdB rb fb wb k1 wv1, pre, ?_, HJ.out _ _ _ _ _ HJ1.out (hf2.mono fun q _ e => .inr (.inl e)) (fun q hq => .inl hq)⟩⟩
        have hev : evGo S most (g + 1) x1 told src = ([], some (src.drop 1)) := by
          unfold evGo
          rw [HO.out, if_neg hm0, if_neg hml, if_pos hm1]
        have e1 := HE1.out
        have e2 := HE2.out
        rw [hev] at e1 e2
        refine ⟨by rw [e1]; simp, fun rest hrst => ?_⟩
        rw [e2] at hrst
        injection hrst with hrst
        subst hrst
        have hr2 := row_kept HR.out hf2 hz (fun q e => by rw [e]; exact HB.out fb (.inr (.inl rfl)))
        have := HU.out
        exact ⟨_, _, _, _, hs2, by omega, hr2.drop (by omega), by rw [List.length_drop]; omega, by omega, by omega⟩
      have q1 : ((m : Int) == 1) = false := beq_eq_false_iff_ne.2 (by omega)
      by_cases hbad : badHead x1 c0
      · have hev : evGo S most (g + 1) x1 told src = ([([], 11)], none) := by
          unfold evGo
          rw [HO.out, if_neg hm0, if_neg hml, if_neg hm1, if_pos hbad]
        have HEV := Lib.hid hev
        clear hev
        by_cases hba : x1.begun = false ∧ c0 ≠ 1 ∧ c0 < 224
        · obtain ⟨hb1, hb2, hb3⟩ := hba
          have q2 : ((c0 : Int) == 1) = false := beq_eq_false_iff_ne.2 (by omega)
          have q3 : (c0 : Int) < 224 := by omega
          have q2n : ((c0 : Int) != 1) = true := by simp [bne, q2]
          have hm0i : (0 : Int) < (m : Int) := by omega
          clear hbad
          gi_wp2_with (first | (refine ⟨trivial, ?_⟩; gi_at_call 34; refine (callsIn_wide.2 HP.out).mono ?_; rintro e w2 ⟨rfl, hw⟩; subst hw) | (refine ⟨trivial, ?_⟩; gi_at_call 84; refine (callsIn_wide.2 HH.out).mono ?_; rintro e w2 ⟨rfl, hw⟩; subst hw))
          refine ⟨trivial, ?_⟩
          refine (callsIn_wide.2 HT1.out).mono ?_; rintro e w2 ⟨rfl, hs2, hf2⟩
          have hj2 := HJ.out _ _ _ _ _ HJ1.out (hf2.mono (S' := RdB rb fb wb k1 wv1) fun q _ e => .inr (.inl e)) (fun q hq => .inl hq)
          have hd2 := HD.out.src' hs2 hf2
          have hr2 := row_kept HR.out hf2 hz (fun q e => by rw [e]; exact HB.out fb (.inr (.inl rfl)))
          have b2 : w2.cell? ⟨ab, ao, none⟩ = some (.int .u8 (c0 : Int)) := by rw [← HC0.out]; exact hr2.addr (k := 0) (by omega)
          obtain ⟨s0, s1, s2, s3, s4, s5, s6⟩ := hd2.cells
          rw [hb1] at s5
          have HS2 := Lib.hid hs2
          clear hs2 hf2 hd2 hr2 s0 s1 s2 s3 s4 s6 r2 r5 r6 b0 hb2 hb3
          obtain ⟨fn, tmps, assign, body, hy, hR⟩ := HYE.out 11 w2 ⟨_, _, _, _, HS2.out, by have := HU.out; omega⟩ hj2
          replace hy : (Instr.yield l #[.slice none 0 0, .int .i64 11]).run Tryz.prog w2 = .ok (.round l fn tmps assign body) w2 := hy
          clear hj2
          gi_wp2
          refine hR.mono ?_
          rintro e W' (⟨rfl, hJ', hk⟩ | ⟨rfl, hJx'⟩)
          · gi_wp2
            refine bodyPost_ret (results_none rfl _ _ _) rfl ?_
            exact ⟨⟨_, rfl⟩, .inl ⟨_, _, (HEND.out 11 _ W' HEV.out rfl rfl).1 hJ', hJ'⟩⟩
          · gi_wp2
            refine bodyPost_ret (results_none rfl _ _ _) rfl ?_
            exact ⟨⟨_, rfl⟩, .inr ⟨_, _, (HEND.out 11 _ W' HEV.out rfl rfl).2, hJx'⟩⟩
        · have hb0 : headN c0 = 5 ∧ x1.props = false := by
            rcases hbad with h | h
            · exact absurd h hba
            · exact h
          have hm5 : m = 5 := by rw [← HM.out]; exact hb0.1
          have hb2 := hb0.2
          have hb1 : x1.begun = true := by
            cases hb : x1.begun with
            | true => rfl
            | false =>
              exfalso
              refine hba ⟨hb, ?_⟩
              have h5 := hb0.1
              unfold headN at h5
              repeat' split at h5
              all_goals omega
          subst hm5
          have e5 : ((5 : Nat) : Int) = 5 := rfl
          rw [e5] at HT1 HH
          clear e5 q0 q1 hbad hba hb0
          gi_wp2_with (first | (refine ⟨trivial, ?_⟩; gi_at_call 34; refine (callsIn_wide.2 HP.out).mono ?_; rintro e w2 ⟨rfl, hw⟩; subst hw) | (refine ⟨trivial, ?_⟩; gi_at_call 84; refine (callsIn_wide.2 HH.out).mono ?_; rintro e w2 ⟨rfl, hw⟩; subst hw))
          refine ⟨trivial, ?_⟩
          refine (callsIn_wide.2 HT1.out).mono ?_; rintro e w2 ⟨rfl, hs2, hf2⟩
          have hj2 := HJ.out _ _ _ _ _ HJ1.out (hf2.mono (S' := RdB rb fb wb k1 wv1) fun q _ e => .inr (.inl e)) (fun q hq => .inl hq)
          have hd2 := HD.out.src' hs2 hf2
          have hr2 := row_kept HR.out hf2 hz (fun q e => by rw [e]; exact HB.out fb (.inr (.inl rfl)))
          have b2 : w2.cell? ⟨ab, ao, none⟩ = some (.int .u8 (c0 : Int)) := by rw [← HC0.out]; exact hr2.addr (k := 0) (by omega)
          obtain ⟨s0, s1, s2, s3, s4, s5, s6⟩ := hd2.cells
          rw [hb1] at s5
          rw [hb2] at s6
          have HS2 := Lib.hid hs2
          clear hs2 hf2 hd2 hr2 s0 s1 s2 s3 s4 r2 r5 r6 b0
          obtain ⟨fn, tmps, assign, body, hy, hR⟩ := HYE.out 11 w2 ⟨_, _, _, _, HS2.out, by have := HU.out; omega⟩ hj2
          replace hy : (Instr.yield l #[.slice none 0 0, .int .i64 11]).run Tryz.prog w2 = .ok (.round l fn tmps assign body) w2 := hy
          clear hj2
          gi_wp2
          refine hR.mono ?_
          rintro e W' (⟨rfl, hJ', hk⟩ | ⟨rfl, hJx'⟩)
          · gi_wp2
            refine bodyPost_ret (results_none rfl _ _ _) rfl ?_
            exact ⟨⟨_, rfl⟩, .inl ⟨_, _, (HEND.out 11 _ W' HEV.out rfl rfl).1 hJ', hJ'⟩⟩
          · gi_wp2
            refine bodyPost_ret (results_none rfl _ _ _) rfl ?_
            exact ⟨⟨_, rfl⟩, .inr ⟨_, _, (HEND.out 11 _ W' HEV.out rfl rfl).2, hJx'⟩⟩
      have hnb : (x1.begun = true ∧ m ≠ 5) ∨ (x1.begun = true ∧ m = 5 ∧ x1.props = true) ∨ (x1.begun = false ∧ c0 = 1 ∧ m ≠ 5) ∨ (x1.begun = false ∧ 224 ≤ c0 ∧ m ≠ 5) := by
        unfold badHead at hbad
        have hmc := HM.out
        have h5 : m = 5 → x1.props = true := by
          intro e
          cases hp : x1.props with
          | true => rfl
          | false => exact absurd (.inr ⟨by rw [hmc]; exact e, hp⟩) hbad
        have h5c : c0 = 1 ∨ 224 ≤ c0 → m ≠ 5 := by
          intro e e5
          rw [e5] at hmc
          unfold headN at hmc
          repeat' split at hmc
          all_goals omega
        cases hg : x1.begun with
        | true =>
          by_cases e5 : m = 5
          · exact .inr (.inl ⟨rfl, e5, h5 e5⟩)
          · exact .inl ⟨rfl, e5⟩
        | false =>
          have : c0 = 1 ∨ 224 ≤ c0 := by
            rcases Nat.lt_or_ge c0 224 with hlt | hge
            · by_cases e1 : c0 = 1
              · exact .inl e1
              · exact absurd (.inl ⟨hg, e1, hlt⟩) hbad
            · exact .inr hge
          rcases this with e | e
          · exact .inr (.inr (.inl ⟨rfl, e, h5c (.inl e)⟩))
          · exact .inr (.inr (.inr ⟨rfl, e, h5c (.inr e)⟩))
      have HNB := Lib.hid hnb
      have hone2 : one S x1 src = oneBody S x1 c0 (src.take m) (src.drop m) := by
        rw [HO.out, if_neg hm0, if_neg hml, if_neg hm1, if_neg hbad]
      have HO2 := Lib.hid hone2
      have hm0i : (0 : Int) < (m : Int) := by omega
      clear hnb hone2 hbad HO
      gi_wp2_with (first | (refine ⟨trivial, ?_⟩; gi_at_call 34; refine (callsIn_wide.2 HP.out).mono ?_; rintro e w2 ⟨rfl, hw⟩; subst hw) | (refine ⟨trivial, ?_⟩; gi_at_call 84; refine (callsIn_wide.2 HH.out).mono ?_; rintro e w2 ⟨rfl, hw⟩; subst hw))
      refine ⟨trivial, ?_⟩
      refine (callsIn_wide.2 HT1.out).mono ?_; rintro e w2 ⟨rfl, hs2, hf2⟩
      have hj2 := HJ.out _ _ _ _ _ HJ1.out (hf2.mono (S' := RdB rb fb wb k1 wv1) fun q _ e => .inr (.inl e)) (fun q hq => .inl hq)
      have hd2 := HD.out.src' hs2 hf2
      have hr2 := row_kept HR.out hf2 hz (fun q e => by rw [e]; exact HB.out fb (.inr (.inl rfl)))
      have b2 : w2.cell? ⟨ab, ao, none⟩ = some (.int .u8 (c0 : Int)) := by rw [← HC0.out]; exact hr2.addr (k := 0) (by omega)
      obtain ⟨s0, s1, s2, s3, s4, s5, s6⟩ := hd2.cells
      have hz2 : B0 ≤ w2.heap.size := Nat.le_trans hz hf2.size
      have HBD := Lib.hid (body_p rb fb wb kb base S B0 k1 x1 wv1 (takeA (some ⟨ab, ao, none⟩) c1 m) (n1 - m) (c1 - m) (used1 + m) most (src.drop m) (src.take m) (some ⟨ab, ao, none⟩) c0 m w2 hd2 HB.out hz2 hS (by rw [List.length_drop]; omega) (hr2.drop (by omega)) (by omega) (by omega) (hr2.take m) HM.out.symm (by rw [List.length_take]; omega) (by rw [getD_takeU src (by omega)]; exact HC0.out) ⟨hm0, hm1⟩ (by have := HU.out; omega) (by have := HT.out; omega))
      have HJ2 := Lib.hid hj2
      have HD2 := Lib.hid hd2
      have HF2 := Lib.hid hf2
      clear hj2 hd2 hf2 hs2 hr2 r2 r5 r6 b0 s0 s1 s2 s3 s4 HP HH HT1
      dsimp only
      iterate 40 (first | (with_reducible show Code.wpIn _ _ _ (Code.block 2 _) _ _ _) | go_values | gi_guarded | gi_step | gi_upon | gi_back)
      gi_cut [] from 40 (fun wx => wx = w2)
      case first =>
        rcases HNB.out with ⟨e1, e5⟩ | ⟨e1, e5, e6⟩ | ⟨e1, ec, e5⟩ | ⟨e1, ec, e5⟩
        · have q5 : ((m : Int) == 5) = false := beq_eq_false_iff_ne.2 (by omega)
          rw [e1] at s5
          clear s6 e5
          gi_wp2
          gi_meet
          case rel => rfl
        · have q5 : ((m : Int) == 5) = true := beq_iff_eq.2 (by omega)
          rw [e1] at s5
          rw [e6] at s6
          clear e5
          gi_wp2
          gi_meet
          case rel => rfl
        · have q5 : ((m : Int) == 5) = false := beq_eq_false_iff_ne.2 (by omega)
          have qc : ((c0 : Int) != 1) = false := by simp [ec]
          rw [e1] at s5
          clear s6 e5 ec
          gi_wp2
          gi_meet
          case rel => rfl
        · have q5 : ((m : Int) == 5) = false := beq_eq_false_iff_ne.2 (by omega)
          have qc : ((c0 : Int) != 1) = true := bne_iff_ne.2 (by omega)
          have qd : (224 : Int) ≤ (c0 : Int) := by omega
          rw [e1] at s5
          clear s6 e5 ec
          gi_wp2
          gi_meet
          case rel => rfl
      case rest =>
        have hw2 : w2 = wc := hcut.symm
        subst hw2
        clear hcut s5 s6 b2 hm0i
        have HG := Lib.hid hlen
        have hfin : ∀ (e : Nat) (xk : Ck) (W' : World), oneBody S x1 c0 (src.take m) (src.drop m) = .err e → xk.b = [] → xk.e = e → ((J (RdB rb fb wb k1 wv1) (pre ++ [xk]) W' → SC E fb un B0 (RdB rb fb wb k1 wv1) (pre ++ [xk]) W') ∧ SpC E (pre ++ [xk])) := by
          intro e xk W' he hb' he'
          exact HEND.out e xk W' (by unfold evGo; rw [HO2.out, he]) hb' he'
        have htwr : IntKind.i64.wrap (told : Int) = (told : Int) := Go.IntWalk.i64_in _ (by have := HT.out; omega)
        cases hR : oneBody S x1 c0 (src.take m) (src.drop m) with
        | fin r =>
          exfalso
          have hne := hR
          unfold oneBody at hne
          repeat' split at hne
          all_goals first | (cases hne; done) | (unfold oneLz at hne; split at hne <;> cases hne)
        | err z =>
          have hz0 : z ≠ 0 := one_err (S := S) (x := x1) (src := src) (by rw [HO2.out, hR])
          have qz : ((z : Int) == 0) = false := beq_eq_false_iff_ne.2 (by omega)
          have HF := Lib.hid (fun xk W' => hfin z xk W' hR)
          rw [hR] at HBD
          clear hfin hR hz0
          gi_wp2_with fail
          refine ⟨trivial, ?_⟩
          refine (callsIn_wide.2 HBD.out).mono ?_
          rintro e w3 ⟨hf3, rfl, t, bg, pp, A3, n3, c3, used3, hp3, ht3, hs3, hu3⟩
          have r3 : w3.cell? ⟨rb, 3, none⟩ = some (.int .i64 (t : Int)) := by rw [hp3.cell]; rfl
          have z3 := hp3.frozen 3
          have htw : IntKind.i64.wrap (t : Int) = (t : Int) := Go.IntWalk.i64_in _ (by omega)
          have hj3 := HJ.out _ _ _ _ _ HJ2.out hf3 (fun q hq => .inl hq)
          have hf4 : Frm (RdB rb fb wb k1 wv1) w3 (w3.setCell ⟨rb, 3, none⟩ (.int .i64 (t : Int))) := Frm.setCell (p := ⟨rb, 3, none⟩) (Frm.refl _ w3) (.inl rfl) _
          have hj4 := HJ.out _ _ _ _ _ hj3 hf4 (fun q hq => .inl hq)
          have hs4 : SrcAt (w3.setCell ⟨rb, 3, none⟩ (.int .i64 (t : Int))) fb A3 n3 c3 used3 := Pts.other hs3 (p := ⟨rb, 3, none⟩) (hp3.ne_of hs3 (by decide)).symm _
          obtain ⟨fn, tmps, assign, body, hy, hRr⟩ := HYE.out z _ ⟨_, _, _, _, hs4, by have := HU.out; omega⟩ hj4
          replace hy : (Instr.yield l #[.slice none 0 0, .int .i64 (z : Int)]).run Tryz.prog (w3.setCell ⟨rb, 3, none⟩ (.int .i64 (t : Int))) = .ok (.round l fn tmps assign body) (w3.setCell ⟨rb, 3, none⟩ (.int .i64 (t : Int))) := hy
          clear hj3 hf4 hj4 hs4 hf3 hp3 ht3 hs3 hu3
          gi_wp2
          refine hRr.mono ?_
          rintro e W' (⟨rfl, hJ', hk⟩ | ⟨rfl, hJx'⟩)
          · gi_wp2
            refine bodyPost_ret (results_none rfl _ _ _) rfl ?_
            exact ⟨⟨_, rfl⟩, .inl ⟨_, _, (HF.out _ W' rfl rfl).1 hJ', hJ'⟩⟩
          · gi_wp2
            refine bodyPost_ret (results_none rfl _ _ _) rfl ?_
            exact ⟨⟨_, rfl⟩, .inr ⟨_, _, (HF.out _ W' rfl rfl).2, hJx'⟩⟩
        | told b y rest =>
          rw [hR] at HBD
          have hev := HO2.out
          rw [hR] at hev
          have HEV := Lib.hid hev
          have HBF := Lib.hid (body_facts HD2.out.st hR)
          obtain ⟨L, hL⟩ : ∃ L, b.length = L := ⟨_, rfl⟩
          obtain ⟨told2, htold2⟩ : ∃ x, told + L = x := ⟨_, rfl⟩
          obtain ⟨yt, hyt⟩ : ∃ x, y.total = x := ⟨_, rfl⟩
          have hLb : L ≤ 2097152 := by have := HBF.out.2.1; omega
          have hytb : yt ≤ x1.total := by have := HBF.out.1; omega
          have hyt62 : yt ≤ 4611686018427387904 := by have := HT.out; omega
          have hti : (told : Int) + (L : Int) = (told2 : Int) := by omega
          have htw2 : IntKind.i64.wrap (told2 : Int) = (told2 : Int) := Go.IntWalk.i64_in _ (by have := HT.out; omega)
          have HL := Lib.hid hL
          have HT2 := Lib.hid htold2
          have HYT := Lib.hid hyt
          clear hfin hR hev
          by_cases hover : most < told2
          · have qo : (most : Int) < (told2 : Int) := by omega
            have htw : IntKind.i64.wrap (yt : Int) = (yt : Int) := Go.IntWalk.i64_in _ (by omega)
            have HF : Hid (∀ (xk : Ck) (W' : World), xk.b = [] → xk.e = 3 → ((J (RdB rb fb wb k1 wv1) (pre ++ [xk]) W' → SC E fb un B0 (RdB rb fb wb k1 wv1) (pre ++ [xk]) W') ∧ SpC E (pre ++ [xk]))) :=
              Lib.hid (fun xk W' => HEND.out 3 xk W' (by unfold evGo; rw [HEV.out]; simp only; rw [if_pos (by have := HL.out; have := HT2.out; omega)]))
            clear hytb hLb hover
            gi_wp2_with fail
            refine ⟨trivial, ?_⟩
            refine (callsIn_wide.2 HBD.out).mono ?_
            rintro e w3 ⟨hf3, k', wv', A', n', c', used', Ab, cb, rfl, hd3, hr3, hn3, hc3, hcm3, hu3, hrb3, hbc3, hcb3, hsb3, hlb3, hmv3⟩
            obtain ⟨r0, r1, r2, r3, r4, r5, r6⟩ := hd3.cells
            rw [HYT.out] at r3
            rw [HL.out]
            have z3 := hd3.p.frozen 3
            have hj3 := HJ.out _ _ _ _ _ HJ2.out hf3 (fun q hq => .inl hq)
            have hf4 : Frm (RdB rb fb wb k1 wv1) w3 (w3.setCell ⟨rb, 3, none⟩ (.int .i64 (yt : Int))) := Frm.setCell (p := ⟨rb, 3, none⟩) (Frm.refl _ w3) (.inl rfl) _
            have hj4 := HJ.out _ _ _ _ _ hj3 hf4 (fun q hq => .inl hq)
            have hs4 : SrcAt (w3.setCell ⟨rb, 3, none⟩ (.int .i64 (yt : Int))) fb A' n' c' used' := Pts.other hd3.src (p := ⟨rb, 3, none⟩) (hd3.p.ne_of hd3.src (by decide)).symm _
            obtain ⟨fn, tmps, assign, body, hy, hRr⟩ := HYE.out 3 _ ⟨_, _, _, _, hs4, by have := HU.out; omega⟩ hj4
            replace hy : (Instr.yield l #[.slice none 0 0, .int .i64 3]).run Tryz.prog (w3.setCell ⟨rb, 3, none⟩ (.int .i64 (yt : Int))) = .ok (.round l fn tmps assign body) (w3.setCell ⟨rb, 3, none⟩ (.int .i64 (yt : Int))) := hy
            clear hj3 hf4 hj4 hs4 hf3 hd3 hr3 hn3 hc3 hcm3 hu3 hrb3 hbc3 hcb3 hsb3 hlb3 hmv3 r0 r1 r2 r5 r6
            gi_wp2
            refine hRr.mono ?_
            rintro e W' (⟨rfl, hJ', hk⟩ | ⟨rfl, hJx'⟩)
            · gi_wp2
              refine bodyPost_ret (results_none rfl _ _ _) rfl ?_
              exact ⟨⟨_, rfl⟩, .inl ⟨_, _, (HF.out _ W' rfl rfl).1 hJ', hJ'⟩⟩
            · gi_wp2
              refine bodyPost_ret (results_none rfl _ _ _) rfl ?_
              exact ⟨⟨_, rfl⟩, .inr ⟨_, _, (HF.out _ W' rfl rfl).2, hJx'⟩⟩
          · have qo : (told2 : Int) ≤ (most : Int) := by omega
            obtain ⟨yt2, hyt2⟩ : ∃ x, yt + L = x := ⟨_, rfl⟩
            have hyi : (yt : Int) + (L : Int) = (yt2 : Int) := by omega
            have htw : IntKind.i64.wrap (yt2 : Int) = (yt2 : Int) := Go.IntWalk.i64_in _ (by omega)
            have HY2 := Lib.hid hyt2
            have HO := Lib.hid hover
            have HLY := Lib.hid hytb
            clear hytb hLb hover hyt2
            gi_wp2_with fail
            refine ⟨trivial, ?_⟩
            refine (callsIn_wide.2 HBD.out).mono ?_
            rintro e w3 ⟨hf3, k', wv', A', n', c', used', Ab, cb, rfl, hd3, hr3, hn3, hc3, hcm3, hu3, hrb3, hbc3, hcb3, hsb3, hlb3, hmv3⟩
            obtain ⟨r0, r1, r2, r3, r4, r5, r6⟩ := hd3.cells
            rw [HYT.out] at r3
            rw [HL.out]
            have z3 := hd3.p.frozen 3
            have hN3 : ∀ q, RdB rb fb wb k' wv' q → q < w3.heap.size := by
              rintro q (e | e | e | e | e | e)
              · rw [e]; exact hd3.p.lt
              · rw [e]; exact Pts.lt hd3.src
              · rw [e]; exact hd3.win.pts.choose_spec.lt
              · rw [e]; exact hd3.s.m.lt
              · rw [e]; exact hd3.s.l.lt
              · obtain ⟨l, ho⟩ := hd3.win.own
                exact (ho.lt e).2
            have hNN : ∀ q, RdB rb fb wb k' wv' q → RdB rb fb wb k1 wv1 q ∨ (w2.heap.size ≤ q ∧ q < w3.heap.size) := by
              intro q hq
              have hlt := hN3 q hq
              rcases hq with e | e | e | e | e | e
              · exact .inl (.inl e)
              · exact .inl (.inr (.inl e))
              · exact .inl (.inr (.inr (.inl e)))
              · exact .inl (.inr (.inr (.inr (.inl (e.trans hsb3)))))
              · rcases hlb3 with e2 | e2
                · exact .inl (.inr (.inr (.inr (.inr (.inl (e.trans e2))))))
                · exact .inr ⟨by omega, hlt⟩
              · rcases hmv3 q e with e2 | e2
                · exact .inl (.inr (.inr (.inr (.inr (.inr e2)))))
                · exact .inr ⟨e2, hlt⟩
            have hj3 := HJ.out _ _ _ _ _ HJ2.out hf3 hNN
            obtain ⟨hd4, hf4⟩ := hd3.own 3 (.int .i64 (yt2 : Int)) { y with total := y.total + b.length } ⟨rfl, rfl, rfl, rfl, rfl, rfl, rfl⟩ (by rw [HL.out, HYT.out, HY2.out]; rfl)
            have hj4 := HJ.out _ _ _ _ _ hj3 (hf4.mono (S' := RdB rb fb wb k' wv') fun q _ e => .inl e) (fun q hq => .inl hq)
            have hB3 : ∀ q, RdB rb fb wb k' wv' q → B0 ≤ q := by
              intro q hq
              rcases hNN q hq with e | e
              · exact HB.out q e
              · omega
            have hz3 : B0 ≤ w3.heap.size := Nat.le_trans hz2 hf3.size
            have hr4 := row_kept hr3 hf4 hz3 (fun q e => by rw [e]; exact hB3 rb (.inl rfl))
            have hrb4 : BRow (w3.setCell ⟨rb, 3, none⟩ (.int .i64 (yt2 : Int))) (w3.setCell ⟨rb, 3, none⟩ (.int .i64 (yt2 : Int))).heap.size Ab b := (hrb3.setI64 r3 _).more hf4.size
            obtain ⟨fn, tmps, assign, body, hy, hRr⟩ := HY.out _ pre ⟨.slice Ab b.length cb, b, 0⟩ _ hj4 ⟨⟨_, _, _, _, hd4.src, by have := HU.out; omega⟩, Ab, cb, rfl, hrb4, hbc3, hcb3, by rw [← HTS.out]; have := HL.out; have := HT2.out; have := HO.out; simp only; omega, fun h => absurd rfl h⟩
            have hy2 : (Instr.yield l #[.slice Ab L cb, .int .i64 0]).run Tryz.prog (w3.setCell ⟨rb, 3, none⟩ (.int .i64 (yt2 : Int))) = .ok (.round l fn tmps assign body) (w3.setCell ⟨rb, 3, none⟩ (.int .i64 (yt2 : Int))) := by
              rw [← HL.out]; exact hy
            have D4 := Lib.hid hd4
            have R4 := Lib.hid hr4
            have B4 := Lib.hid hB3
            have Z4 := Lib.hid (Nat.le_trans hz3 hf4.size)
            have N4 : Hid (n' = rest.length ∧ n' ≤ c' ∧ c' ≤ maxLen ∧ used' + n' = un) := Lib.hid ⟨hn3, hc3, hcm3, by have := HU.out; omega⟩
            clear hy hj3 hf4 hj4 hf3 hd3 hr3 hn3 hc3 hcm3 hu3 hrb3 hbc3 hcb3 hsb3 hlb3 hmv3 r0 r1 r2 r5 r6 hN3 hNN hd4 hr4 hrb4 hB3 hz3
            gi_wp2
            refine hRr.mono ?_
            rintro e W' (⟨rfl, hJ', hk⟩ | ⟨rfl, hJx'⟩)
            · have D5 := Lib.hid (D4.out.frm hk (fun q hq hn => hn.1 hq))
              have R5 := Lib.hid (row_kept R4.out hk Z4.out (fun q hq => hq.2))
              have Z5 := Lib.hid (Nat.le_trans Z4.out hk.size)
              have HJ5 := Lib.hid hJ'
              clear hJ' hk hRr
              gi_wp2
              gi_roundg g
              case rel =>
                refine ⟨pre ++ [⟨.slice Ab b.length cb, b, 0⟩], told2, { y with total := y.total + b.length }, k', wv', A', n', c', used', rest, rfl, HJ5.out, D5.out, R5.out, N4.out.1, N4.out.2.1, N4.out.2.2.1, N4.out.2.2.2, B4.out, Z5.out, ?_, ?_, by omega, ?_, ?_, ?_⟩
                · have := HLY.out; have := HL.out; have := HT2.out; have := HYT.out; simp only; omega
                · have := HBF.out.2.2; have h2 : (src.drop m).length = src.length - m := List.length_drop; have := HG.out; omega
                · rw [← HT2.out, HTS.out, ← HL.out]; simp [sumC]
                · rw [HE1.out, List.map_append]
                  conv => lhs; unfold evGo
                  rw [HEV.out]
                  simp only
                  rw [if_neg (by have := HL.out; have := HT2.out; have := HO.out; omega)]
                  simp [ckP, ← HT2.out, HL.out]
                · rw [HE2.out]
                  conv => lhs; unfold evGo
                  rw [HEV.out]
                  simp only
                  rw [if_neg (by have := HL.out; have := HT2.out; have := HO.out; omega)]
                  simp [← HT2.out, HL.out]
              case measure => omega
            · gi_wp2
              refine bodyPost_ret (results_none rfl _ _ _) rfl ?_
              refine ⟨⟨_, rfl⟩, .inr ⟨_, _, ?_, hJx'⟩⟩
              unfold SpC
              rw [HE1.out, List.map_append]
              refine (List.prefix_append_right_inj _).2 ?_
              unfold evGo
              rw [HEV.out]
              simp only
              rw [if_neg (by have := HL.out; have := HT2.out; have := HO.out; omega)]
              exact ⟨_, rfl⟩
end Go.Proofs.YtgahfpflhhfhfaaGreat

/- What chunks say that they tell, by their heads; the first error among what is handed over: plain. -/
namespace Go.Proofs.YtgahfpflhhfhfaaGreat
open Go.RowKit Rng Win Lz
set_option linter.unusedVariables false
set_option linter.unusedSimpArgs false
def toldGo (b : List UInt8) : Nat → Nat → Nat → Nat
  | 0, _, n => n
  | f + 1, at_, n =>
    if at_ + 3 ≤ b.length ∧ n ≤ 262144 then
      if (b.getD at_ 0).toNat = 1 ∨ (b.getD at_ 0).toNat = 2 then toldGo b f (at_ + 3 + twoB b (at_ + 1) + 1) (n + twoB b (at_ + 1) + 1)
      else if 128 ≤ (b.getD at_ 0).toNat ∧ at_ + 6 ≤ b.length then toldGo b f (at_ + 5 + twoB b (at_ + 3) + 1 + (if 192 ≤ (b.getD at_ 0).toNat then 1 else 0)) (n + (b.getD at_ 0).toNat % 32 * 65536 + twoB b (at_ + 1) + 1)
      else n
    else n
def toldP (b : List UInt8) : Nat := toldGo b (b.length + 1) 0 0
theorem evErr_zero {l : List (List UInt8 × Nat)} (h : ∀ p ∈ l, p.2 = 0) : evErr l = 0 := by
  unfold evErr
  have : (l.map (·.2)).find? (· ≠ 0) = none := List.find?_eq_none.2 (by
    intro a ha
    obtain ⟨q, hq, rfl⟩ := List.mem_map.1 ha
    simp [h q hq])
  rw [this]
  rfl
theorem evErr_snoc {l : List (List UInt8 × Nat)} {p : List UInt8 × Nat} (h : ∀ q ∈ l, q.2 = 0) (hp : p.2 ≠ 0) : evErr (l ++ [p]) = p.2 := by
  unfold evErr
  have : (l.map (·.2)).find? (· ≠ 0) = none := List.find?_eq_none.2 (by
    intro a ha
    obtain ⟨q, hq, rfl⟩ := List.mem_map.1 ha
    simp [h q hq])
  rw [List.map_append, List.find?_append, this]
  simp [hp]
/-- An error among what is handed over is the last of it. -/
theorem ev_stop {S most f told : Nat} {x : DS} {src : List UInt8} {l : List (List UInt8 × Nat)} {p : List UInt8 × Nat} (h : l ++ [p] <+: (evGo S most f x told src).1) (hp : p.2 ≠ 0) :
    (evGo S most f x told src).1 = l ++ [p] ∧ (evGo S most f x told src).2 = none ∧ ∀ q ∈ l, q.2 = 0 := by
  obtain ⟨t, ht⟩ := h
  rcases evGo_ok S most f x told src with ⟨m, b, e, h1, h2, h3, h4, h5⟩ | ⟨_, h2⟩
  · rw [h1] at ht
    rcases List.eq_nil_or_concat t with rfl | ⟨t', z, rfl⟩
    · rw [List.append_nil] at ht
      obtain ⟨e1, e2⟩ := List.append_inj' ht rfl
      refine ⟨by rw [h1, ← ht], h4, ?_⟩
      rw [e1]
      exact h5
    · rw [List.concat_eq_append, ← List.append_assoc] at ht
      obtain ⟨e1, e2⟩ := List.append_inj' ht rfl
      exfalso
      refine hp (h5 p ?_)
      rw [← e1]
      simp
  · exfalso
    refine hp (h2 p ?_)
    rw [← ht]
    simp
/-- If none of what was handed over is an error, the end was come tq9. -/
theorem ev_none {S most f told : Nat} {x : DS} {src : List UInt8} (h : ∀ q ∈ (evGo S most f x told src).1, q.2 = 0) : ∃ r, (evGo S most f x told src).2 = some r := by
  rcases evGo_ok S most f x told src with ⟨m, b, e, h1, h2, h3, h4, h5⟩ | ⟨⟨r, h1⟩, _⟩
  · exfalso
    refine h2 (h (b, e) ?_)
    rw [h1]
    simp
  · exact ⟨r, h1⟩
/-- What all chunks come tq9, by what is handed over. -/
def d2E (S most : Nat) (src : List UInt8) : List (List UInt8 × Nat) × Option (List UInt8) := evGo S most (src.length + 1) newDS 0 src
theorem d2E_d2P (S most : Nat) (src : List UInt8) : d2P S most src = (evOut (d2E S most src).1, match (d2E S most src).2 with | none => .inl (evErr (d2E S most src).1) | some r => .inr r) := by
  unfold d2P
  rw [evGo_d2Go]
  rfl
end Go.Proofs.YtgahfpflhhfhfaaGreat

/- Run: what chunks tell is handed over tq9 a function: the walk. -/
namespace Go.Proofs.YtgahfpflhhfhfaaGreat
open Go.RowKit Rng Win Lz
set_option linter.unusedVariables false
set_option linter.unusedSimpArgs false
attribute [local go_sem] Oper.semAt_some
/-- What bytes are handed over tq9: a function's number and what it has caught; M: the blocks that are its own; what it was told so far. -/
structure PutOk (P : Program) (fput : Nat) (lb : Array Value) (B0 most : Nat) (J : (Nat → Prop) → List UInt8 → World → Prop) : Prop where
  ent : ∀ args w, (callFunc fput args).run P w = .ok (.enter fput args) w
  keep : ∀ M T W W', J M T W → Frm (fun q => ¬ M q) W W' → J M T W'
  own : ∀ M T W, J M T W → ∀ q, M q → B0 ≤ q ∧ ∃ c t f, W.heap[q]? = some (.cells c t f)
  call : ∀ M T (b : List UInt8) Ab cb W, J M T W → BRow W W.heap.size Ab b → b.length ≤ cb → cb ≤ maxLen → T.length + b.length ≤ most →
    Calls P fput (#[.slice Ab b.length cb] ++ lb) W fun e W' => e = .returned (.bool true) ∧ ∃ M', J M' (T ++ b) W' ∧ Frm M W W' ∧ ∀ q, M' q → M q ∨ (W.heap.size ≤ q ∧ q < W'.heap.size)
def catC (pre : List Ck) : List UInt8 := (pre.map (·.b)).flatten
theorem catC_snoc (pre : List Ck) (x : Ck) : catC (pre ++ [x]) = catC pre ++ x.b := by simp [catC]
theorem catC_len (pre : List Ck) : (catC pre).length = sumC pre := by
  unfold catC sumC
  rw [List.length_flatten, List.map_map]
  rfl
theorem catC_out (pre : List Ck) : evOut (pre.map ckP) = catC pre := by
  unfold evOut catC
  rw [List.map_map]
  rfl
/-- Between two rounds. -/
structure RunI (w : World) (fb eb pb : Nat) (pv : Value) (M0 : Nat → Prop) (J : (Nat → Prop) → List UInt8 → World → Prop) (N : Nat → Prop) (pre : List Ck) (W : World) : Prop where
  j : ∃ M, J M (catC pre) W ∧ ∀ q, M q → ¬ N q ∧ q ≠ eb ∧ q ≠ pb ∧ (M0 q ∨ w.heap.size ≤ q)
  n : ∀ q, N q → q < W.heap.size ∧ q ≠ eb ∧ q ≠ pb ∧ (q = fb ∨ w.heap.size ≤ q)
  e : Pts W eb #[.int .i64 0] 24
  p : Pts W pb #[pv] 42
  f : Frm (fun q => M0 q ∨ q = fb) w W
  z : ∀ x ∈ pre, x.e = 0
/-- Where the loop is left: an error. -/
structure RunX (w : World) (fb eb un : Nat) (M0 : Nat → Prop) (J : (Nat → Prop) → List UInt8 → World → Prop) (pre : List Ck) (W : World) : Prop where
  j : ∃ M, J M (catC pre) W ∧ ∀ q, M q → q ≠ eb ∧ (M0 q ∨ w.heap.size ≤ q)
  x : ∃ l y, pre = l ++ [y] ∧ y.e ≠ 0 ∧ Pts W eb #[.int .i64 (y.e : Int)] 24
  s : ∃ A n c used, SrcAt W fb A n c used ∧ used ≤ un
  f : Frm (fun q => M0 q ∨ q = fb) w W
section
variable {w W W' : World} {fb eb pb un B0 most D : Nat} {pv : Value} {M0 N N' : Nat → Prop} {J : (Nat → Prop) → List UInt8 → World → Prop} {pre : List Ck} {P : Program} {fput : Nat} {lb : Array Value}
theorem PutOk.lt (hp : PutOk P fput lb B0 most J) {M : Nat → Prop} {T : List UInt8} (h : J M T W) : ∀ q, M q → q < W.heap.size := by
  intro q hq
  obtain ⟨_, c, t, f, hc⟩ := hp.own M T W h q hq
  exact (Array.getElem?_eq_some_iff.1 hc).1
theorem RunI.ab (hp : PutOk P fput lb B0 most J) (h : RunI w fb eb pb pv M0 J N pre W) (hf : Frm N W W') (hN : ∀ q, N' q → N q ∨ (W.heap.size ≤ q ∧ q < W'.heap.size)) : RunI w fb eb pb pv M0 J N' pre W' := by
  obtain ⟨M, hj, hM⟩ := h.j
  have hlt := hp.lt hj
  have he := h.e.lt
  have hpl := h.p.lt
  have hw := h.f.size
  refine ⟨⟨M, hp.keep M _ W W' hj (hf.mono fun q _ hn hm => (hM q hm).1 hn), fun q hm => ⟨fun hn => ?_, (hM q hm).2⟩⟩, fun q hq => ?_, h.e.frm hf (fun hn => (h.n _ hn).2.1 rfl), h.p.frm hf (fun hn => (h.n _ hn).2.2.1 rfl), h.f.transW hf fun q hq hlt => ?_, h.z⟩
  · rcases hN q hn with h1 | h1
    · exact (hM q hm).1 h1
    · have := hlt q hm; omega
  · rcases hN q hq with h1 | h1
    · obtain ⟨k1, k2, k3, k4⟩ := h.n q h1
      exact ⟨Nat.lt_of_lt_of_le k1 hf.size, k2, k3, k4⟩
    · exact ⟨h1.2, by omega, by omega, .inr (by omega)⟩
  · obtain ⟨k1, k2, k3, k4⟩ := h.n q hq
    rcases k4 with k4 | k4
    · exact .inr k4
    · omega
/-- The law's own book-keeping. -/
theorem RunI.put (hp : PutOk P fput lb B0 most J) (h : RunI w fb eb pb pv M0 J N pre W) {l : Nat} {o o' : Obj} (hl : w.heap.size ≤ l) (ho : W.heap[l]? = some o) (hc : o.isCells = false) : RunI w fb eb pb pv M0 J N pre (W.putObj l o') := by
  obtain ⟨M, hj, hM⟩ := h.j
  have hno : ∀ q c t f, W.heap[q]? = some (.cells c t f) → q ≠ l := by
    rintro q c t f hq rfl
    rw [ho] at hq
    injection hq with hq
    rw [hq] at hc
    cases hc
  refine ⟨⟨M, hp.keep M _ W _ hj ((Frm.refl _ W).putObj (S := fun q => ¬ M q) (fun hm => ?_) o'), hM⟩, fun q hq => by obtain ⟨k1, k2⟩ := h.n q hq; exact ⟨by simpa using k1, k2⟩,
    (World.putObj_heap_other (hno _ _ _ _ h.e)).trans h.e, (World.putObj_heap_other (hno _ _ _ _ h.p)).trans h.p, h.f.transW ((Frm.refl _ W).putObj (S := fun q => q = l) rfl o') fun q hq hlt => by omega, h.z⟩
  obtain ⟨_, c, t, f, hcc⟩ := hp.own M _ W hj l hm
  exact hno _ _ _ _ hcc rfl
theorem RunI.alloc (hp : PutOk P fput lb B0 most J) (h : RunI w fb eb pb pv M0 J N pre W) (o : Obj) : RunI w fb eb pb pv M0 J N pre (W.alloc o) := by
  refine h.ab hp ((Frm.refl N W).alloc o) fun q hq => .inl hq
theorem RunX.put (hp : PutOk P fput lb B0 most J) (h : RunX w fb eb un M0 J pre W) {l : Nat} {o o' : Obj} (hl : w.heap.size ≤ l) (ho : W.heap[l]? = some o) (hc : o.isCells = false) : RunX w fb eb un M0 J pre (W.putObj l o') := by
  obtain ⟨M, hj, hM⟩ := h.j
  obtain ⟨l2, y, e1, e2, e3⟩ := h.x
  obtain ⟨A, n, c, used, hs, hu⟩ := h.s
  have hno : ∀ q c t f, W.heap[q]? = some (.cells c t f) → q ≠ l := by
    rintro q c t f hq rfl
    rw [ho] at hq
    injection hq with hq
    rw [hq] at hc
    cases hc
  refine ⟨⟨M, hp.keep M _ W _ hj ((Frm.refl _ W).putObj (S := fun q => ¬ M q) (fun hm => ?_) o'), hM⟩, ⟨l2, y, e1, e2, (World.putObj_heap_other (hno _ _ _ _ e3)).trans e3⟩, ⟨A, n, c, used, (World.putObj_heap_other (hno _ _ _ _ hs)).trans hs, hu⟩,
    h.f.transW ((Frm.refl _ W).putObj (S := fun q => q = l) rfl o') fun q hq hlt => by omega⟩
  obtain ⟨_, c, t, f, hcc⟩ := hp.own M _ W hj l hm
  exact hno _ _ _ _ hcc rfl
/-- The function was told some more. -/
theorem RunI.told (hp : PutOk P fput lb B0 most J) (h : RunI w fb eb pb pv M0 J N pre W) {x : Ck} {M M' : Nat → Prop} (hM : ∀ q, M q → ¬ N q ∧ q ≠ eb ∧ q ≠ pb ∧ (M0 q ∨ w.heap.size ≤ q)) (hx : x.e = 0) (hj : J M' (catC pre ++ x.b) W') (hf : Frm M W W') (hM' : ∀ q, M' q → M q ∨ (W.heap.size ≤ q ∧ q < W'.heap.size)) :
    RunI w fb eb pb pv M0 J N (pre ++ [x]) W' := by
  have he := h.e.lt
  have hpl := h.p.lt
  have hw := h.f.size
  refine ⟨⟨M', by rw [catC_snoc]; exact hj, fun q hq => ?_⟩, fun q hq => ?_, h.e.frm hf (fun hn => (hM _ hn).2.1 rfl), h.p.frm hf (fun hn => (hM _ hn).2.2.1 rfl), h.f.transW hf fun q hq hlt => ?_, ?_⟩
  · rcases hM' q hq with h1 | h1
    · exact hM q h1
    · exact ⟨fun hn => by have := (h.n q hn).1; omega, by omega, by omega, .inr (by omega)⟩
  · obtain ⟨k1, k2⟩ := h.n q hq
    exact ⟨Nat.lt_of_lt_of_le k1 hf.size, k2⟩
  · rcases (hM q hq).2.2.2 with k | k
    · exact .inl k
    · omega
  · intro y hy
    rcases List.mem_append.1 hy with hy | hy
    · exact h.z y hy
    · rw [List.mem_singleton.1 hy]; exact hx
end
theorem AbN_runI {w : World} {fb eb pb B0 most : Nat} {pv : Value} {M0 : Nat → Prop} {J : (Nat → Prop) → List UInt8 → World → Prop} {P : Program} {fput : Nat} {lb : Array Value} (hp : PutOk P fput lb B0 most J) : AbN (RunI w fb eb pb pv M0 J) :=
  fun _ _ _ _ _ h hf hN => h.ab hp hf hN
theorem cells_ne {W : World} {l q : Nat} {o : Obj} {c : Array Value} {t : TypeId} {f : Nat × Nat} (hq : W.heap[q]? = some (.cells c t f)) (ho : W.heap[l]? = some o) (hc : o.isCells = false) : q ≠ l := by
  rintro rfl
  rw [ho] at hq
  injection hq with hq
  rw [hq] at hc
  cases hc
theorem BRow.putO {W : World} {B l : Nat} {A : Option Addr} {bs : List UInt8} (h : BRow W B A bs) {o : Obj} (ho : W.heap[l]? = some o) (hc : o.isCells = false) (o' : Obj) : BRow (W.putObj l o') B A bs := by
  intro h0
  obtain ⟨b, off, rfl, hb, hcell⟩ := h h0
  refine ⟨b, off, rfl, hb, fun k hk => ?_⟩
  have hne : b ≠ l := by
    rintro rfl
    have h1 := hcell k hk
    unfold World.cell? at h1
    simp only [ho] at h1
    cases o <;> first | (cases hc; done) | (cases h1; done) | simp at h1
  rw [World.cell?_of_block (World.putObj_heap_other hne)]
  exact hcell k hk
theorem SC_put {E : List (List UInt8 × Nat) × Option (List UInt8)} {fb un B0 D : Nat} (hB : B0 ≤ D) : AbL D (SC E fb un B0) := by
  rintro N pre W l o o' hl ho hc ⟨h1, h2⟩
  refine ⟨h1, fun rest hr => ?_⟩
  obtain ⟨A, n, c, used, hs, h3, h4, h5⟩ := h2 rest hr
  exact ⟨A, n, c, used, (World.putObj_heap_other (cells_ne hs ho hc)).trans hs, h3, h4.putO ho hc o', h5⟩
theorem PxC_put {fb un most l : Nat} {pre : List Ck} {x : Ck} {W : World} {o o' : Obj} (ho : W.heap[l]? = some o) (hc : o.isCells = false) (h : PxC fb un most pre x W) : PxC fb un most pre x (W.putObj l o') := by
  obtain ⟨⟨A, n, c, used, hs, hu⟩, Ab, cb, h1, h2, h3⟩ := h
  exact ⟨⟨A, n, c, used, (World.putObj_heap_other (cells_ne hs ho hc)).trans hs, hu⟩, Ab, cb, h1, by simpa using h2.putO ho hc o', h3⟩
/-- How Run ends: the first error, or none; what was told; the source. -/
def RunEnd (fb un B0 : Nat) (M0 : Nat → Prop) (J : (Nat → Prop) → List UInt8 → World → Prop) (E : List (List UInt8 × Nat) × Option (List UInt8)) (w : World) (e : Ending) (w' : World) : Prop :=
  e = .returned (.int .i64 ((evErr E.1 : Nat) : Int)) ∧ (∃ M, J M (evOut E.1) w' ∧ ∀ q, M q → M0 q ∨ w.heap.size ≤ q) ∧ Frm (fun q => M0 q ∨ q = fb) w w' ∧
    (match E.2 with
    | none => ∃ A n c used, SrcAt w' fb A n c used ∧ used ≤ un
    | some rest => ∃ A n c used, SrcAt w' fb A n c used ∧ used + n = un ∧ BRow w' B0 A rest ∧ n = rest.length ∧ n ≤ c ∧ c ≤ maxLen)
set_option maxRecDepth 8000 in
set_option maxHeartbeats 4000000 in
theorem run_p (fb B0 S most fput : Nat) (lb : Array Value) (J : (Nat → Prop) → List UInt8 → World → Prop) (M0 : Nat → Prop) (A : Option Addr) (nn c used un : Nat) (bs : List UInt8) (w : World)
    (hp : PutOk Tryz.prog fput lb B0 most J) (hj : J M0 [] w) (hfb : ¬ M0 fb) (hfb0 : B0 ≤ fb) (hs : SrcAt w fb A nn c used) (hn : nn = bs.length) (hr : BRow w B0 A bs) (hB0 : B0 ≤ w.heap.size) (hc : nn ≤ c) (hcm : c ≤ maxLen) (hu : used + nn = un) (hub : un ≤ 4611686018427387904)
    (hS1 : 1 ≤ S) (hS : S ≤ 16777216) (hm : most ≤ 16777216) :
    Calls Tryz.prog 56 #[.pointer (some ⟨fb, 0, none⟩), .int .i64 S, .int .i64 most, .func (.func fput) #[] lb] w (RunEnd fb un B0 M0 J (evGo S most (bs.length + 1) newDS 0 bs) w) := by
  have HP := Lib.hid hp
  have HJ := Lib.hid hj
  have HS : Hid (SrcAt w fb A nn c used ∧ nn = bs.length ∧ BRow w B0 A bs ∧ B0 ≤ w.heap.size ∧ nn ≤ c ∧ c ≤ maxLen ∧ used + nn = un ∧ B0 ≤ fb ∧ ¬ M0 fb) := Lib.hid ⟨hs, hn, hr, hB0, hc, hcm, hu, hfb0, hfb⟩
  have hfl := Pts.lt hs
  have HFL := Lib.hid hfl
  obtain ⟨E, hE⟩ : ∃ E, evGo S most (bs.length + 1) newDS 0 bs = E := ⟨_, rfl⟩
  rw [hE]
  have HE := Lib.hid hE
  clear hp hj hfb hfb0 hs hn hr hB0 hc hcm hu hE hfl
  have hst0 : chE 16777216 0 S = 0 := (ch_ok (B := 16777216) (n := 0) 0 (k := (S : Int)) (by omega) (by omega)).1
  have hbud : bud 16777216 = 16777216 := by decide
  refine (callsIn_wide (n := 6)).1 ?_
  refine callsIn_of_wp_marks Tryz.func56 rfl trivial ?_ rfl
  simp only [Tryz.ntmps56, List.size_toArray, List.length_cons, List.length_nil, Nat.reduceAdd, Nat.reduceSub, Array.replicate_succ, Array.replicate_zero, List.push_toArray, List.append_toArray, List.nil_append, List.cons_append]
  refine wpIn_wide.2 ?_
  go_wp2
  go_step3
  go_wp2_with fail
  obtain ⟨W0, hW0⟩ : ∃ W, (w.alloc (.cells #[.func (.func fput) #[] lb] 42)).alloc (.cells #[.int .i64 0] 24) = W := ⟨_, rfl⟩
  have hs0 : W0.heap.size = w.heap.size + 1 + 1 := by rw [← hW0]; simp only [World.size_alloc]
  have HP0 : Hid (Pts W0 w.heap.size #[.func (.func fput) #[] lb] 42 ∧ Pts W0 (w.heap.size + 1) #[.int .i64 0] 24 ∧ Below w.heap.size w W0) := by
    refine Lib.hid ⟨?_, ?_, ?_⟩
    · rw [← hW0]; exact (Pts.new w _ _).alloc _
    · rw [← hW0]; have := Pts.new (w.alloc (.cells #[.func (.func fput) #[] lb] 42)) #[.int .i64 0] 24; rwa [World.size_alloc] at this
    · rw [← hW0]; exact ((Below.refl _ w).alloc (Nat.le_refl _) _).alloc (by simp only [World.size_alloc]; omega) _
  rw [hW0]
  clear hW0
  refine (new_led 16777216 _).mono ?_; rintro e w1 ⟨rfl, hl1, hb1⟩
  rw [hbud] at hl1
  rw [hs0] at hl1 hb1
  have HL1 := Lib.hid hl1
  have HB1 := Lib.hid hb1
  have HZ1 : Hid (w.heap.size + 1 + 1 + 1 ≤ w1.heap.size) := Lib.hid (Pts.lt hl1)
  rw [hs0]
  clear hl1 hb1 hbud
  go_wp2_with fail
  refine (new_win _ S 16777216 0 0 w1 HL1.out (by omega) (by omega) (by omega) hS1 hS hst0).mono ?_; rintro e w2 ⟨wb, rfl, hw2, hwb2, hl2, hf2⟩
  have HW2 := Lib.hid hw2
  have HF2 := Lib.hid hf2
  have HWB := Lib.hid hwb2
  have p2 : Pts w2 w.heap.size #[.func (.func fput) #[] lb] 42 := (HP0.out.1.below HB1.out (by omega)).frm hf2 (by omega)
  have e2 : Pts w2 (w.heap.size + 1) #[.int .i64 0] 24 := (HP0.out.2.1.below HB1.out (by omega)).frm hf2 (by omega)
  have B2 : Hid (Below w.heap.size w w2) := Lib.hid ((HP0.out.2.2.trans (HB1.out.mono (by omega))).trans (hf2.below (by have := HZ1.out; omega) (by intro q hq; omega)))
  have ce : w2.cell? ⟨w.heap.size + 1, 0, none⟩ = some (.int .i64 0) := by rw [e2.cell]; rfl
  have ze := e2.frozen 0
  have e3 := e2.set 0 (.int .i64 0)
  have p3 : Pts (w2.setCell ⟨w.heap.size + 1, 0, none⟩ (.int .i64 0)) w.heap.size #[.func (.func fput) #[] lb] 42 := p2.other (p := ⟨w.heap.size + 1, 0, none⟩) (by simp) _
  have B3 : Hid (Below w.heap.size w (w2.setCell ⟨w.heap.size + 1, 0, none⟩ (.int .i64 0))) := Lib.hid (B2.out.trans (((Frm.refl (fun q => q = w.heap.size + 1) w2).setCell (p := ⟨w.heap.size + 1, 0, none⟩) rfl _).below B2.out.size (by intro q hq; omega)))
  have W3 : Hid (WinC (w2.setCell ⟨w.heap.size + 1, 0, none⟩ (.int .i64 0)) w1.heap.size wb (w.heap.size + 1 + 1) S [] (.slice none 0 0)) := Lib.hid ((show WinC w2 w1.heap.size wb (w.heap.size + 1 + 1) S [] (.slice none 0 0) from ⟨[], 0, hw2, rfl⟩).frm ((Frm.refl (fun q => q = w.heap.size + 1) w2).setCell (p := ⟨w.heap.size + 1, 0, none⟩) rfl _) (by have := HZ1.out; omega) (by intro q hq; cases hq))
  have E3 := Lib.hid e3
  have P3 := Lib.hid p3
  have hz3 : w1.heap.size ≤ (w2.setCell ⟨w.heap.size + 1, 0, none⟩ (.int .i64 0)).heap.size := by simpa [World.setCell] using hf2.size
  have Z3 := Lib.hid hz3
  clear hw2 hf2 hl2 hst0 hwb2 p2 e2 e3 p3 B2 hz3
  go_wp2_with fail
  obtain ⟨w3, hw3⟩ : ∃ W, w2.setCell ⟨w.heap.size + 1, 0, none⟩ (.int .i64 0) = W := ⟨_, rfl⟩
  rw [hw3] at B3 W3 E3 P3 Z3
  rw [hw3]
  clear hw3 ce ze HW2 HF2 HL1 HP0
  refine (lnew_st w3).mono ?_; rintro e w4 ⟨sb, lb2, rfl, h1, h2, hst, hb4⟩
  have B4 := Lib.hid (B3.out.trans (hb4.mono B3.out.size))
  have W4 := Lib.hid (W3.out.later hb4)
  have E4 : Hid (Pts w4 (w.heap.size + 1) #[.int .i64 0] 24) := Lib.hid (E3.out.below hb4 E3.out.lt)
  have P4 := Lib.hid (P3.out.below hb4 P3.out.lt)
  have Z4 := Lib.hid (Nat.le_trans Z3.out hb4.size)
  have S4 := Lib.hid hst
  have H4 := Lib.hid (And.intro h1 h2)
  have ZW := Lib.hid (Nat.le_trans B3.out.size h1)
  have Z3w := Lib.hid Z3.out
  clear hst hb4 h1 h2 W3 E3 P3 Z3
  go_wp2_with fail
  go_step3
  go_wp2
  obtain ⟨W5, hW5⟩ : ∃ W, w4.alloc (.cells #[.pointer (some ⟨wb, 0, none⟩), .pointer (some ⟨sb, 0, none⟩), .pointer (some ⟨fb, 0, none⟩), .int .i64 0, .int .i64 most, .bool false, .bool false] 122) = W := ⟨_, rfl⟩
  have hbA : Below w4.heap.size w4 W5 := by rw [← hW5]; exact below_alloc _ _
  have hs5 : W5.heap.size = w4.heap.size + 1 := by rw [← hW5]; simp only [World.size_alloc]
  have hR5 : RdS W5 w4.heap.size fb wb (w.heap.size + 1 + 1) w1.heap.size S (newK sb lb2) newDS (.slice none 0 0) A nn c used (most : Int) := by
    refine ⟨?_, S4.out.later hbA, ⟨rfl, rfl, rfl⟩, newK_ok _ _, ⟨(by decide : (0 : Nat) < 12), fun _ => (by decide : (0 : Nat) < 4294967296)⟩, W4.out.later hbA, by have := Z4.out; omega, Pts.below (Pts.below HS.out.1 B4.out HFL.out) hbA (Nat.lt_of_lt_of_le HFL.out B4.out.size)⟩
    rw [← hW5]
    exact Pts.new w4 _ _
  have hB5 : Below w.heap.size w W5 := B4.out.trans (hbA.mono B4.out.size)
  have hE5 : Pts W5 (w.heap.size + 1) #[.int .i64 0] 24 := E4.out.below hbA E4.out.lt
  have hP5 : Pts W5 w.heap.size #[.func (.func fput) #[] lb] 42 := P4.out.below hbA P4.out.lt
  have hE4l := E4.out.lt
  have hwbl : wb < w4.heap.size := W4.out.pts.choose_spec.lt
  have hsbl := S4.out.m.lt
  have hlbl := S4.out.l.lt
  have hN5 : ∀ q, RdB w4.heap.size fb wb (newK sb lb2) (.slice none 0 0) q → q < W5.heap.size ∧ q ≠ w.heap.size + 1 ∧ q ≠ w.heap.size ∧ (q = fb ∨ w.heap.size ≤ q) ∧ B0 ≤ q := by
    have h1 := HZ1.out
    have h2 := HWB.out
    have h3 := Z3w.out
    have h4 := H4.out
    have h5 := HFL.out
    have h6 := HS.out.2.2.2.1
    have h7 := HS.out.2.2.2.2.2.2.2.1
    have hk1 : (newK sb lb2).sb = sb := rfl
    have hk2 : (newK sb lb2).lb = lb2 := rfl
    rw [hk1] at hsbl
    rw [hk2] at hlbl
    rintro q (e | e | e | e | e | e)
    · omega
    · omega
    · omega
    · rw [hk1] at e; omega
    · rw [hk2] at e; omega
    · cases e
  have hI5 : RunI w fb (w.heap.size + 1) w.heap.size (.func (.func fput) #[] lb) M0 J (RdB w4.heap.size fb wb (newK sb lb2) (.slice none 0 0)) [] W5 := by
    refine ⟨⟨M0, HP.out.keep M0 _ w W5 HJ.out (Frm.of_below hB5), fun q hq => ?_⟩, fun q hq => ⟨(hN5 q hq).1, (hN5 q hq).2.1, (hN5 q hq).2.2.1, (hN5 q hq).2.2.2.1⟩, hE5, hP5, Frm.of_below hB5, fun _ h => by cases h⟩
    have hlt := HP.out.lt HJ.out q hq
    refine ⟨fun hn => ?_, by omega, by omega, .inl hq⟩
    rcases (hN5 q hn).2.2.2.1 with e | e
    · exact HS.out.2.2.2.2.2.2.2.2 (e ▸ hq)
    · omega
  have hB0 : B0 ≤ W5.heap.size := Nat.le_trans HS.out.2.2.2.1 hB5.size
  have hseq := chunks_seq 5 w4.heap.size fb wb (w.heap.size + 1 + 1) w1.heap.size S B0 (newK sb lb2) newDS (.slice none 0 0) A nn c used most un bs W5 (by omega) hR5 (fun q hq => (hN5 q hq).2.2.2.2) hB0 hS HS.out.2.1 (HS.out.2.2.1.below ((hB5.mono HS.out.2.2.2.1))) HS.out.2.2.2.2.1 HS.out.2.2.2.2.2.1 HS.out.2.2.2.2.2.2.1 hub (by show 0 + most ≤ _; omega)
  rw [HE.out] at hseq
  have hW5w : w.heap.size ≤ W5.heap.size := hB5.size
  rw [hW5]
  refine (wpIn_wide (n := 6)).1 ?_
  refine wpIn_rangeFunc_ownW (n := 6) rfl (by omega) (gf := 72) (bd := #[.pointer (some ⟨w4.heap.size, 0, none⟩)]) rfl trivial (enters_of Tryz.func72 (by kernel_rfl) rfl) hseq
    (fun q hq => (hN5 q hq).1) hB0 (fun _ => rfl) (RunI w fb (w.heap.size + 1) w.heap.size (.func (.func fput) #[] lb) M0 J) (fun cd N pre W => cd = .exit 0 ∧ RunX w fb (w.heap.size + 1) un M0 J pre W) (AbN_runI HP.out) (SC_put hB0)
    (fun N pre W l o o' hl ho hc h => h.put HP.out (Nat.le_trans hW5w hl) ho hc) (fun cd N pre W l o o' hl ho hc h => ⟨h.1, h.2.put HP.out (Nat.le_trans hW5w hl) ho hc⟩) ((hI5.alloc HP.out _).alloc HP.out _)
    (fun x => { tmps := #[.pointer (some ⟨fb, 0, none⟩), .int .i64 S, .int .i64 most, .func (.func fput) #[] lb, undef, undef, undef, .pointer (some ⟨w.heap.size, 0, none⟩), .pointer (some ⟨w.heap.size + 1, 0, none⟩), .pointer (some ⟨wb, 0, none⟩), .pointer (some ⟨w4.heap.size, 0, none⟩), x.val, .int .i64 (x.e : Int),
      .tuple #[.pointer (some ⟨wb, 0, none⟩), .int .i64 0], .int .i64 S, .pointer (some ⟨w.heap.size + 1 + 1, 0, none⟩), .tuple #[.pointer (some ⟨wb, 0, none⟩), .int .i64 0], .pointer (some ⟨wb, 0, none⟩), .int .i64 0, .int .i64 0, .bool false, .pointer (some ⟨wb, 0, none⟩), .pointer (some ⟨sb, 0, none⟩), .pointer (some ⟨fb, 0, none⟩), .int .i64 most,
      .agg #[.pointer (some ⟨wb, 0, none⟩), .pointer (some ⟨sb, 0, none⟩), .pointer (some ⟨fb, 0, none⟩), .int .i64 0, .int .i64 most, .bool false, .bool false], .pointer (some ⟨w4.heap.size, 0, none⟩), .pointer (some ⟨w4.heap.size, 0, none⟩), .func (.func 72) #[.pointer (some ⟨w4.heap.size, 0, none⟩)] #[], x.val, .int .i64 (x.e : Int),
      undef, undef, undef, undef, undef, undef, undef, undef, undef, undef], defers := [] }) (fun pre x W l o o' _ ho hc h => PxC_put ho hc h) ?assign ?body ?done ?stop
  case assign =>
    intro l x W K hK
    unfold ckEnc
    gi_wp2
    exact hK
  case body =>
    rintro l N pre ⟨xv, xb, xe⟩ W hI ⟨hsrc, Ab, cb, hxv, hxr, hxc, hxm, hxt, hxn⟩ hn1 hn2 hd1 ⟨rl, hd2⟩
    simp only at hxv hxr hxc hxm hxt hxn
    have HI := Lib.hid hI
    have pc : W.cell? ⟨w.heap.size, 0, none⟩ = some (.func (.func fput) #[] lb) := by rw [hI.p.cell]; rfl
    have ec : W.cell? ⟨w.heap.size + 1, 0, none⟩ = some (.int .i64 0) := by rw [hI.e.cell]; rfl
    have ez := hI.e.frozen 0
    have HD := Lib.hid (And.intro hd1 hd2)
    have HSR := Lib.hid hsrc
    have HXR := Lib.hid hxr
    have HXC : Hid (xb.length ≤ cb ∧ cb ≤ maxLen ∧ sumC pre + xb.length ≤ most) := Lib.hid ⟨hxc, hxm, hxt⟩
    clear hI hseq hI5 hN5 hR5 hE5 hP5 hbA hW5 hd1 hd2 hsrc hxr hxc hxm hxt
    by_cases hx : xe = 0
    · subst hx
      subst hxv
      clear hxn
      gi_wp2
      refine ⟨trivial, ?_⟩
      rw [HP.out.ent, Oper.uponIn_enter]
      refine ⟨fun _ => by decide, ?_⟩
      obtain ⟨M, hj, hM⟩ := HI.out.j
      refine (CallsIn.inRound l (callsIn_wide.2 (HP.out.call M _ xb Ab cb W hj HXR.out HXC.out.1 HXC.out.2.1 (by rw [catC_len]; exact HXC.out.2.2)))).mono ?_
      rintro e W' ⟨rfl, M', hj', hf', hM'⟩
      have hown := HP.out.own M _ W hj
      have hK1 : W'.heap[W5.heap.size]? = W.heap[W5.heap.size]? := hf'.block _ (Array.getElem?_eq_some_iff.1 HD.out.1).1 (fun hm => by
        obtain ⟨_, c, t, f, hcc⟩ := hown _ hm
        rw [HD.out.1] at hcc
        cases hcc)
      have hK2 : W'.heap[W5.heap.size + 1]? = W.heap[W5.heap.size + 1]? := hf'.block _ (Array.getElem?_eq_some_iff.1 HD.out.2).1 (fun hm => by
        obtain ⟨_, c, t, f, hcc⟩ := hown _ hm
        rw [HD.out.2] at hcc
        cases hcc)
      have hT := HI.out.told HP.out (x := ⟨.slice Ab xb.length cb, xb, 0⟩) hM rfl hj' hf' hM'
      have hFB : Frm (fun q => ¬ N q ∧ B0 ≤ q) W W' := hf'.mono fun q _ hq => ⟨(hM q hq).1, (hown q hq).1⟩
      have HT := Lib.hid (And.intro (And.intro hK1 hK2) (And.intro hFB hT))
      clear hK1 hK2 hT hFB hown hj hj' hf' hM' hM
      gi_wp2
      exact HT.out
    · have q0 : ((xe : Int) != 0) = true := bne_iff_ne.2 (by omega)
      have hxv2 := hxn hx
      have hxb : xb = [] := by
        rw [hxv] at hxv2
        injection hxv2 with _ h2 _
        exact List.eq_nil_of_length_eq_zero h2
      clear hxn hxv hxv2
      gi_wp2
      obtain ⟨M, hj, hM⟩ := HI.out.j
      have hne : ∀ q, q = W5.heap.size ∨ q = W5.heap.size + 1 → q ≠ w.heap.size + 1 := by
        rintro q (e | e) e2
        · have h1 := HI.out.e
          rw [← e2, e] at h1
          exact absurd (HD.out.1.symm.trans h1) (by simp)
        · have h1 := HI.out.e
          rw [← e2, e] at h1
          exact absurd (HD.out.2.symm.trans h1) (by simp)
      have hset : ∀ q, q ≠ w.heap.size + 1 → (W.setCell ⟨w.heap.size + 1, 0, none⟩ (.int .i64 (xe : Int))).heap[q]? = W.heap[q]? := fun q hq => Below.heap_setCell _ _ _ _ hq
      refine ⟨⟨hset _ (hne _ (.inl rfl)), hset _ (hne _ (.inr rfl))⟩, rfl, ⟨M, ?_, fun q hq => ⟨(hM q hq).2.1, (hM q hq).2.2.2⟩⟩, ⟨pre, _, rfl, hx, HI.out.e.set 0 _⟩, ?_, ?_⟩
      · rw [catC_snoc]
        simp only
        rw [hxb, List.append_nil]
        exact HP.out.keep M _ W _ hj ((Frm.refl _ W).setCell (p := ⟨w.heap.size + 1, 0, none⟩) (fun hm => (hM _ hm).2.1 rfl) _)
      · obtain ⟨A1, n1, c1, u1, hs1, hu1⟩ := HSR.out
        exact ⟨A1, n1, c1, u1, Pts.other hs1 (p := ⟨w.heap.size + 1, 0, none⟩) (hs1.ne_of HI.out.e (by decide)) _, hu1⟩
      · exact HI.out.f.transW ((Frm.refl (fun q => q = w.heap.size + 1) W).setCell (p := ⟨w.heap.size + 1, 0, none⟩) rfl _) (fun q hq hlt => by omega)
  case done =>
    rintro N xs W hSx hIx hd
    have ec : W.cell? ⟨w.heap.size + 1, 0, none⟩ = some (.int .i64 0) := by rw [hIx.e.cell]; rfl
    have ez := hIx.e.frozen 0
    have HSX := Lib.hid hSx
    have HI := Lib.hid hIx
    have HD := Lib.hid hd
    clear hSx hIx hd hseq hI5 hN5 hR5 hE5 hP5 hbA hW5
    go_wp2
    have hse : ∀ q, q ≠ w.heap.size + 1 → (W.setCell ⟨w.heap.size + 1, 0, none⟩ (.int .i64 0)).heap[q]? = W.heap[q]? := fun q hq => Below.heap_setCell _ _ _ _ hq
    have hne : W5.heap.size ≠ w.heap.size + 1 := by omega
    have hd2 : (W.setCell ⟨w.heap.size + 1, 0, none⟩ (.int .i64 0)).heap[W5.heap.size]? = some (.deferred (some [])) := (hse _ hne).trans HD.out
    refine ⟨by simp, .inl ⟨_, _, rfl, run_takeDeferred hd2, ?_⟩⟩
    have he2 : Pts ((W.setCell ⟨w.heap.size + 1, 0, none⟩ (.int .i64 0)).putObj W5.heap.size (.deferred none)) (w.heap.size + 1) #[.int .i64 0] 24 := (World.putObj_heap_other hne.symm).trans (HI.out.e.set 0 (.int .i64 0))
    have hce : ((W.setCell ⟨w.heap.size + 1, 0, none⟩ (.int .i64 0)).putObj W5.heap.size (.deferred none)).cell? ⟨w.heap.size + 1, 0, none⟩ = some (.int .i64 0) := by rw [he2.cell]; rfl
    refine ⟨.int .i64 0, ?_, ?_⟩
    · simp [results, Tryz.f56, go_sem, hce]
    · have hfin : Frm (fun q => q = w.heap.size + 1 ∨ q = W5.heap.size) W ((W.setCell ⟨w.heap.size + 1, 0, none⟩ (.int .i64 0)).putObj W5.heap.size (.deferred none)) := ((Frm.refl _ W).setCell (p := ⟨w.heap.size + 1, 0, none⟩) (.inl rfl) _).putObj (.inr rfl) _
      obtain ⟨hx1, hx2⟩ := HSX.out
      have hz := HI.out.z
      have hall : ∀ q ∈ E.1, q.2 = 0 := by
        intro q hq
        rw [← hx1] at hq
        obtain ⟨y, hy, rfl⟩ := List.mem_map.1 hq
        exact hz y hy
      obtain ⟨M, hj, hM⟩ := HI.out.j
      have hMD : ¬ M W5.heap.size := fun hm => by
        obtain ⟨_, c, t, f, hcc⟩ := HP.out.own M _ W hj _ hm
        rw [HD.out] at hcc
        cases hcc
      obtain ⟨r, hr⟩ := ev_none (S := S) (most := most) (f := bs.length + 1) (told := 0) (x := newDS) (src := bs) (by rw [HE.out]; exact hall)
      rw [HE.out] at hr
      refine ⟨by rw [evErr_zero hall]; rfl, ⟨M, ?_, fun q hq => (hM q hq).2.2.2⟩, HI.out.f.transW hfin (fun q hq hlt => by omega), ?_⟩
      · rw [← hx1, catC_out]
        refine HP.out.keep M _ W _ hj (hfin.mono ?_)
        rintro q _ (e | e) hm
        · exact (hM q hm).2.1 e
        · exact hMD (e ▸ hm)
      · rw [hr]
        obtain ⟨A1, n1, c1, u1, hs1, h2, h3, h4, h5, h6⟩ := hx2 r hr
        have hB0w := HS.out.2.2.2.1
        refine ⟨A1, n1, c1, u1, Pts.frm hs1 hfin ?_, h2, row_kept h3 hfin (Nat.le_trans hB0w HI.out.f.size) (fun q hq => by omega), h4, h5, h6⟩
        rintro (e | e)
        · exact hs1.ne_of HI.out.e (by decide) e
        · exact cells_ne hs1 HD.out rfl e
  case stop =>
    rintro cd N pre W hSp ⟨rfl, hIx⟩ hd
    obtain ⟨M, hj, hM⟩ := hIx.j
    obtain ⟨l, y, hpre, hy, hye⟩ := hIx.x
    have ec : W.cell? ⟨w.heap.size + 1, 0, none⟩ = some (.int .i64 (y.e : Int)) := by rw [hye.cell]; rfl
    have ez := hye.frozen 0
    have HI := Lib.hid hIx
    have HD := Lib.hid hd
    have HYE := Lib.hid hye
    have HJM := Lib.hid (And.intro hj hM)
    have HY := Lib.hid hy
    have HSP := Lib.hid hSp
    have HPR := Lib.hid hpre
    clear hSp hIx hd hye hj hM hy hpre hseq hI5 hN5 hR5 hE5 hP5 hbA hW5
    refine wpIn_wide.2 ?_
    go_wp2
    have hse : ∀ q, q ≠ w.heap.size + 1 → (W.setCell ⟨w.heap.size + 1, 0, none⟩ (.int .i64 (y.e : Int))).heap[q]? = W.heap[q]? := fun q hq => Below.heap_setCell _ _ _ _ hq
    have hne : W5.heap.size ≠ w.heap.size + 1 := by omega
    have hd2 : (W.setCell ⟨w.heap.size + 1, 0, none⟩ (.int .i64 (y.e : Int))).heap[W5.heap.size]? = some (.deferred (some [])) := (hse _ hne).trans HD.out
    refine ⟨by simp, .inl ⟨_, _, rfl, run_takeDeferred hd2, ?_⟩⟩
    have he2 : Pts ((W.setCell ⟨w.heap.size + 1, 0, none⟩ (.int .i64 (y.e : Int))).putObj W5.heap.size (.deferred none)) (w.heap.size + 1) #[.int .i64 (y.e : Int)] 24 := (World.putObj_heap_other hne.symm).trans (HYE.out.set 0 (.int .i64 (y.e : Int)))
    have hce : ((W.setCell ⟨w.heap.size + 1, 0, none⟩ (.int .i64 (y.e : Int))).putObj W5.heap.size (.deferred none)).cell? ⟨w.heap.size + 1, 0, none⟩ = some (.int .i64 (y.e : Int)) := by rw [he2.cell]; rfl
    refine ⟨.int .i64 (y.e : Int), ?_, ?_⟩
    · simp [results, Tryz.f56, go_sem, hce]
    · have hfin : Frm (fun q => q = w.heap.size + 1 ∨ q = W5.heap.size) W ((W.setCell ⟨w.heap.size + 1, 0, none⟩ (.int .i64 (y.e : Int))).putObj W5.heap.size (.deferred none)) := ((Frm.refl _ W).setCell (p := ⟨w.heap.size + 1, 0, none⟩) (.inl rfl) _).putObj (.inr rfl) _
      have hMD : ¬ M W5.heap.size := fun hm => by
        obtain ⟨_, c, t, f, hcc⟩ := HP.out.own M _ W HJM.out.1 _ hm
        rw [HD.out] at hcc
        cases hcc
      have hsp := HSP.out
      unfold SpC at hsp
      rw [HPR.out, List.map_append, ← HE.out] at hsp
      obtain ⟨k1, k2, k3⟩ := ev_stop (l := l.map ckP) (p := ckP y) hsp HY.out
      rw [HE.out] at k1 k2
      refine ⟨by rw [k1, evErr_snoc k3 HY.out]; rfl, ⟨M, ?_, fun q hq => (HJM.out.2 q hq).2⟩, HI.out.f.transW hfin (fun q hq hlt => by omega), ?_⟩
      · rw [k1, ← List.map_singleton (f := ckP), ← List.map_append, catC_out, ← HPR.out]
        refine HP.out.keep M _ W _ HJM.out.1 (hfin.mono ?_)
        rintro q _ (e | e) hm
        · exact (HJM.out.2 q hm).1 e
        · exact hMD (e ▸ hm)
      · rw [k2]
        obtain ⟨A1, n1, c1, u1, hs1, hu1⟩ := HI.out.s
        refine ⟨A1, n1, c1, u1, Pts.frm hs1 hfin ?_, hu1⟩
        rintro (e | e)
        · exact hs1.ne_of HYE.out (by decide) e
        · exact cells_ne hs1 HD.out rfl e
end Go.Proofs.YtgahfpflhhfhfaaGreat

/- What a member tells is gathered; what hears of windows: the walks. -/
namespace Go.Proofs.YtgahfpflhhfhfaaGreat
open Go.RowKit Rng Win Lz
set_option linter.unusedVariables false
set_option linter.unusedSimpArgs false
/-- Bytes that are gathered in a variable at block ob. -/
def OutX (ob base : Nat) (M : Nat → Prop) (T : List UInt8) (W : World) : Prop :=
  ∃ v, Pts W ob #[v] 22 ∧ OwnB W 5 base v T ∧ (∀ q, M q ↔ q = ob ∨ v.ownBlock = some q) ∧ base ≤ W.heap.size
set_option maxRecDepth 100000 in
set_option maxHeartbeats 1000000 in
theorem outx_p (ob base : Nat) (v : Value) (T b : List UInt8) (Ab : Option Addr) (cb : Nat) (W : World) (hp : Pts W ob #[v] 22) (ho : OwnB W 5 base v T) (hb : base ≤ W.heap.size) (hr : BRow W W.heap.size Ab b) (hl : T.length + b.length ≤ 16777216) :
    Calls Tryz.prog 17 #[.slice Ab b.length cb, .pointer (some ⟨ob, 0, none⟩)] W fun e W' => e = .returned (.bool true) ∧ ∃ v', Pts W' ob #[v'] 22 ∧ OwnB W' 5 base v' (T ++ b) ∧ Frm (fun q => q = ob ∨ v.ownBlock = some q) W W' ∧ (v'.ownBlock = v.ownBlock ∨ v'.ownBlock = some W.heap.size) := by
  obtain ⟨A0, k0, rfl, -, -, -⟩ := ho.slice
  obtain ⟨v, hv⟩ : ∃ v, Value.slice A0 T.length k0 = v := ⟨_, rfl⟩
  have c0 : W.cell? ⟨ob, 0, none⟩ = some (.slice A0 T.length k0) := by rw [hp.cell]; rfl
  rw [hv] at hp ho
  rw [hv]
  have HV := Lib.hid hv
  clear hv
  have z0 := hp.frozen 0
  have HP := Lib.hid hp
  have HO := Lib.hid ho
  have HR := Lib.hid hr
  have HL := Lib.hid hl
  have HB := Lib.hid hb
  clear hp ho hr hl hb
  go_enter Tryz.func17, Tryz.ntmps17
  go_wp2_with (at_builtin; refine wpList_append_bytes _ rfl (.tmp 4) (.tmp 5) 22 rfl 5 base Tryz.underlying22 Tryz.info_u8 (.slice A0 T.length k0) T rfl ?own2 Ab b.length cb W.heap.size b rfl rfl ?row2 ?len2 ?base2 ?next2)
  case own2 => rw [HV.out]; exact HO.out
  case row2 => exact HR.out
  case len2 => have := HL.out; omega
  case base2 => exact HB.out
  case next2 =>
    intro v3 w3 hown3 hfrm3 hnew3
    rw [HV.out] at hfrm3 hnew3
    obtain ⟨A3, k3, hv3, -, -, -⟩ := hown3.slice
    have hne : v.ownBlock ≠ some ob := fun e => by
      rcases HO.out.form with ⟨rfl, _⟩ | ⟨g, cap, cur, rfl, _, hh, _⟩
      · cases e
      · injection e with e
        subst e
        exact hh.ne_of HP.out (by decide) rfl
    have hp3 := HP.out.frm hfrm3 hne
    have hne3 : v3.ownBlock ≠ some ob := by
      have := HP.out.lt
      rcases hnew3 with e | e
      · rw [e]; exact hne
      · rw [e]; intro h; injection h with h; omega
    have c3 : w3.cell? ⟨ob, 0, none⟩ = some (.slice A0 T.length k0) := by rw [hp3.cell, HV.out]; rfl
    have z3 := hp3.frozen 0
    have HP3 := Lib.hid (hp3.set 0 v3)
    have HO3 := Lib.hid (hown3.other (p := ⟨ob, 0, none⟩) hne3 v3)
    have HF3 := Lib.hid (Frm.setCell (p := ⟨ob, 0, none⟩) (hfrm3.mono (S' := fun q => q = ob ∨ v.ownBlock = some q) fun q _ e => .inr e) (.inl rfl) v3)
    have HN3 := Lib.hid hnew3
    clear hown3 hfrm3 hnew3 hne hp3 hne3
    obtain ⟨L3, hL3⟩ : ∃ L, (T ++ b).length = L := ⟨_, rfl⟩
    rw [hL3] at hv3
    subst hv3
    clear hL3
    go_wp2
    go_ret
    exact ⟨rfl, _, HP3.out, HO3.out, HF3.out, HN3.out⟩
theorem outx_ok (ob base B0 most : Nat) (h1 : B0 ≤ ob) (h2 : B0 ≤ base) (hm : most ≤ 16777216) : PutOk Tryz.prog 17 #[.pointer (some ⟨ob, 0, none⟩)] B0 most (OutX ob base) where
  ent := enters_of Tryz.func17 (by kernel_rfl) rfl
  keep := by
    rintro M T W W' ⟨v, hp, ho, hM, hb⟩ hf
    exact ⟨v, hp.frm hf (fun h => h ((hM ob).2 (.inl rfl))), ho.frm hf (fun k hk h => h ((hM k).2 (.inr hk))), hM, Nat.le_trans hb hf.size⟩
  own := by
    rintro M T W ⟨v, hp, ho, hM, hb⟩ q hq
    rcases (hM q).1 hq with e | e
    · subst e; exact ⟨h1, _, _, _, hp⟩
    · refine ⟨Nat.le_trans h2 (ho.lt e).1, ?_⟩
      rcases ho.form with ⟨rfl, _⟩ | ⟨g, cap, cur, rfl, _, hh, _⟩
      · cases e
      · injection e with e
        subst e
        exact ⟨_, _, _, hh⟩
  call := by
    rintro M T b Ab cb W ⟨v, hp, ho, hM, hb⟩ hr hbc hcm hl
    refine (outx_p ob base v T b Ab cb W hp ho hb hr (by omega)).mono ?_
    rintro e W' ⟨rfl, v', hp', ho', hf, hn⟩
    refine ⟨rfl, fun q => q = ob ∨ v'.ownBlock = some q, ⟨v', hp', ho', fun q => Iff.rfl, Nat.le_trans hb hf.size⟩, hf.mono fun q _ e => (hM q).2 e, ?_⟩
    rintro q (e | e)
    · exact .inl ((hM q).2 (.inl e))
    · rcases hn with h | h
      · exact .inl ((hM q).2 (.inr (h ▸ e)))
      · have h3 := (ho'.lt e).2
        rw [h] at e
        injection e with e
        exact .inr ⟨by omega, h3⟩
theorem hold_p (n : Int) (w : World) : Calls Tryz.prog 18 #[.int .i64 n] w fun e w' => e = .returned (.tuple #[]) ∧ w = w' := by
  go_enter Tryz.func18, Tryz.ntmps18
  go_wp2
  go_end0
  exact ⟨rfl, rfl⟩
end Go.Proofs.YtgahfpflhhfhfaaGreat

/- The CRC's arithmetic: the table's step is eight steps of a bit. No program in sight. -/
namespace Go.Proofs.YtgahfpflhhfhfaaGreat.Crc
open Go.Proofs.YtgahfpflhhfhfaaGreat.Num

/-- One step of a bit. -/
def bit (P x : Nat) : Nat := if x % 2 = 1 then (x / 2) ^^^ P else x / 2
def bitsN (P : Nat) : Nat → Nat → Nat
  | 0, x => x
  | n + 1, x => bit P (bitsN P n x)
/-- A byte by the table. -/
def byByte (P n : Nat) (b : UInt8) : Nat := (n / 256) ^^^ bitsN P 8 ((n % 256) ^^^ b.toNat)
/-- A byte by definition. -/
def byBits (P n : Nat) (b : UInt8) : Nat := bitsN P 8 (n ^^^ b.toNat)

theorem half_lt {x : Nat} (h : x < M64) : x / 2 < M64 := by omega
theorem bit_lt {P x : Nat} (hP : P < M64) (hx : x < M64) : bit P x < M64 := by
  unfold bit
  split
  · exact xor_lt64 (half_lt hx) hP
  · exact half_lt hx
theorem bitsN_lt {P x : Nat} (hP : P < M64) (hx : x < M64) : ∀ n, bitsN P n x < M64
  | 0 => hx
  | n + 1 => bit_lt hP (bitsN_lt hP hx n)
theorem bit_lt32 {P x : Nat} (hP : P < M32) (hx : x < M32) : bit P x < M32 := by
  unfold bit
  split
  · exact xor_lt32 (by omega) hP
  · omega
theorem bitsN_lt32 {P x : Nat} (hP : P < M32) (hx : x < M32) : ∀ n, bitsN P n x < M32
  | 0 => hx
  | n + 1 => bit_lt32 hP (bitsN_lt32 hP hx n)

theorem half_xor (a b : Nat) : (a ^^^ b) / 2 = (a / 2) ^^^ (b / 2) := by
  have := Nat.shiftRight_xor_distrib (a := a) (b := b) (i := 1)
  simpa [Nat.shiftRight_succ] using this
theorem mod_xor (a b : Nat) : (a ^^^ b) % 2 = (a % 2 + b % 2) % 2 := by
  have h := Nat.xor_mod_two_pow (a := a) (b := b) (n := 1)
  rw [show (2 : Nat) ^ 1 = 2 from rfl] at h
  rw [h]
  rcases Nat.mod_two_eq_zero_or_one a with ha | ha <;> rcases Nat.mod_two_eq_zero_or_one b with hb | hb <;> rw [ha, hb] <;> rfl
/-- The step is linear. -/
theorem bit_xor (P a b : Nat) : bit P (a ^^^ b) = bit P a ^^^ bit P b := by
  unfold bit
  rw [mod_xor, half_xor]
  rcases Nat.mod_two_eq_zero_or_one a with ha | ha <;> rcases Nat.mod_two_eq_zero_or_one b with hb | hb <;> simp [ha, hb]
  · rw [Nat.xor_assoc]
  · rw [Nat.xor_assoc, Nat.xor_assoc, Nat.xor_comm P]
  · rw [Nat.xor_assoc, Nat.xor_comm P (b / 2 ^^^ P), Nat.xor_assoc (b / 2), Nat.xor_self, Nat.xor_zero]
theorem bitsN_xor (P a b : Nat) : ∀ n, bitsN P n (a ^^^ b) = bitsN P n a ^^^ bitsN P n b
  | 0 => rfl
  | n + 1 => by unfold bitsN; rw [bitsN_xor P a b n, bit_xor]
theorem bit_even (P x : Nat) (h : x % 2 = 0) : bit P x = x / 2 := by unfold bit; rw [if_neg (by omega)]
theorem bitsN_high (P k : Nat) : ∀ n m, bitsN P n (k * 2 ^ (m + n)) = k * 2 ^ m
  | 0, m => by simp [bitsN]
  | n + 1, m => by
    unfold bitsN
    rw [show m + (n + 1) = (m + 1) + n by omega, bitsN_high P k n (m + 1), bit_even]
    · rw [Nat.pow_succ, ← Nat.mul_assoc, Nat.mul_div_cancel _ (by omega)]
    · rw [Nat.pow_succ, ← Nat.mul_assoc, Nat.mul_mod_left]
theorem split_xor (n : Nat) : n = (n / 256 * 256) ^^^ (n % 256) := by
  have h : (n / 256) * 2 ^ 8 ^^^ (n % 256) = (n / 256) * 2 ^ 8 + n % 256 := by
    rw [← Nat.shiftLeft_eq]
    have h1 := Nat.shiftLeft_add_eq_or_of_lt (a := n / 256) (b := n % 256) (i := 8) (Nat.mod_lt _ (by omega))
    rw [h1]
    apply Nat.eq_of_testBit_eq
    intro i
    rw [Nat.testBit_xor, Nat.testBit_or, Nat.testBit_shiftLeft]
    by_cases hi : i < 8
    · simp [show ¬ (i ≥ 8) by omega]
    · have h2 : (n % 256).testBit i = false := by
        apply Nat.testBit_lt_two_pow
        have : 2 ^ 8 ≤ 2 ^ i := Nat.pow_le_pow_right (by omega) (by omega)
        have := Nat.mod_lt n (show 256 > 0 by omega)
        omega
      simp [h2]
  rw [show (256 : Nat) = 2 ^ 8 from rfl] at *
  rw [h]
  exact (Nat.div_add_mod' n (2 ^ 8)).symm
theorem byByte_eq (P n : Nat) (b : UInt8) : byByte P n b = byBits P n b := by
  unfold byByte byBits
  have h : n ^^^ b.toNat = (n / 256 * 2 ^ 8) ^^^ ((n % 256) ^^^ b.toNat) := by
    rw [← Nat.xor_assoc]
    exact congrArg (· ^^^ b.toNat) (split_xor n)
  have h2 := bitsN_high P (n / 256) 8 0
  rw [Nat.zero_add, Nat.pow_zero, Nat.mul_one] at h2
  rw [h, bitsN_xor P (n / 256 * 2 ^ 8), h2]

/-- The sum of bytes, by the table and by definition. -/
def add (P n : Nat) (bs : List UInt8) : Nat := bs.foldl (byByte P) n
theorem add_append (P n : Nat) (a b : List UInt8) : add P n (a ++ b) = add P (add P n a) b := List.foldl_append
theorem byByte_lt {P n : Nat} (hP : P < M64) (hn : n < M64) (b : UInt8) : byByte P n b < M64 := by
  have := b.toNat_lt
  exact xor_lt64 (by omega) (bitsN_lt hP (Nat.lt_of_lt_of_le (xor_lt8 (Nat.mod_lt _ (by omega)) (by omega)) (by unfold M64; omega)) 8)
theorem add_lt {P : Nat} (hP : P < M64) (bs : List UInt8) : ∀ n, n < M64 → add P n bs < M64 := by
  induction bs with
  | nil => intro n h; exact h
  | cons b bs ih => intro n h; exact ih _ (byByte_lt hP h b)
theorem byBits_lt32 {P n : Nat} (hP : P < M32) (hn : n < M32) (b : UInt8) : byBits P n b < M32 := by
  have := b.toNat_lt
  exact bitsN_lt32 hP (xor_lt32 hn (Nat.lt_of_lt_of_le this (by unfold M32; omega))) 8
theorem add_lt32 {P : Nat} (hP : P < M32) (bs : List UInt8) : ∀ n, n < M32 → add P n bs < M32 := by
  induction bs with
  | nil => intro n h; exact h
  | cons b bs ih => intro n h; refine ih _ ?_; rw [byByte_eq]; exact byBits_lt32 hP h b

theorem xor_cancel {a b c : Nat} (h : a ^^^ c = b ^^^ c) : a = b := by
  have := congrArg (· ^^^ c) h
  simpa [Nat.xor_assoc] using this
/-- A polynomial with its highest bit: the step loses nothing. -/
theorem bit_inj {B P x y : Nat} (hP : P.testBit B = true) (hx : x < 2 ^ (B + 1)) (hy : y < 2 ^ (B + 1)) (h : bit P x = bit P y) : x = y := by
  have key : ∀ z, z < 2 ^ (B + 1) → (z / 2).testBit B = false := fun z hz => Nat.testBit_lt_two_pow (by rw [Nat.pow_succ] at hz; omega)
  have kx := key x hx
  have ky := key y hy
  unfold bit at h
  by_cases h1 : x % 2 = 1 <;> by_cases h2 : y % 2 = 1
  · rw [if_pos h1, if_pos h2] at h
    have := xor_cancel h
    omega
  · rw [if_pos h1, if_neg h2] at h
    have h3 := congrArg (fun n => Nat.testBit n B) h
    simp only [Nat.testBit_xor, kx, ky, hP] at h3
    simp at h3
  · rw [if_neg h1, if_pos h2] at h
    have h3 := congrArg (fun n => Nat.testBit n B) h
    simp only [Nat.testBit_xor, kx, ky, hP] at h3
    simp at h3
  · rw [if_neg h1, if_neg h2] at h
    omega
theorem bit_ltB {B P x : Nat} (hP : P < 2 ^ (B + 1)) (hx : x < 2 ^ (B + 1)) : bit P x < 2 ^ (B + 1) := by
  unfold bit
  split
  · exact Nat.xor_lt_two_pow (by omega) hP
  · omega
theorem bitsN_ltB {B P x : Nat} (hP : P < 2 ^ (B + 1)) (hx : x < 2 ^ (B + 1)) : ∀ n, bitsN P n x < 2 ^ (B + 1)
  | 0 => hx
  | n + 1 => bit_ltB hP (bitsN_ltB hP hx n)
theorem bitsN_inj {B P : Nat} (hP : P < 2 ^ (B + 1)) (ht : P.testBit B = true) : ∀ n x y, x < 2 ^ (B + 1) → y < 2 ^ (B + 1) → bitsN P n x = bitsN P n y → x = y
  | 0, _, _, _, _, h => h
  | n + 1, x, y, hx, hy, h => bitsN_inj hP ht n x y hx hy (bit_inj ht (bitsN_ltB hP hx n) (bitsN_ltB hP hy n) h)
theorem byBits_ltB {B P n : Nat} (h8 : 7 ≤ B) (hP : P < 2 ^ (B + 1)) (hn : n < 2 ^ (B + 1)) (b : UInt8) : byBits P n b < 2 ^ (B + 1) := by
  have hb := b.toNat_lt
  have h2 : 2 ^ 8 ≤ 2 ^ (B + 1) := Nat.pow_le_pow_right (by omega) (by omega)
  exact bitsN_ltB hP (Nat.xor_lt_two_pow hn (by omega)) 8
theorem add_ltB {B P : Nat} (h8 : 7 ≤ B) (hP : P < 2 ^ (B + 1)) (bs : List UInt8) : ∀ n, n < 2 ^ (B + 1) → add P n bs < 2 ^ (B + 1) := by
  induction bs with
  | nil => intro n h; exact h
  | cons b bs ih => intro n h; refine ih _ ?_; rw [byByte_eq]; exact byBits_ltB h8 hP h b
/-- Two states that differ stay so over the same bytes. -/
theorem add_inj {B P : Nat} (h8 : 7 ≤ B) (hP : P < 2 ^ (B + 1)) (ht : P.testBit B = true) (bs : List UInt8) : ∀ n m, n < 2 ^ (B + 1) → m < 2 ^ (B + 1) → add P n bs = add P m bs → n = m := by
  have h2 : 2 ^ 8 ≤ 2 ^ (B + 1) := Nat.pow_le_pow_right (by omega) (by omega)
  induction bs with
  | nil => intro n m _ _ h; exact h
  | cons b bs ih =>
    intro n m hn hm h
    have hb := b.toNat_lt
    have h1 : byByte P n b = byByte P m b := ih _ _ (by rw [byByte_eq]; exact byBits_ltB h8 hP hn b) (by rw [byByte_eq]; exact byBits_ltB h8 hP hm b) h
    rw [byByte_eq, byByte_eq] at h1
    exact xor_cancel (bitsN_inj hP ht 8 _ _ (Nat.xor_lt_two_pow hn (by omega)) (Nat.xor_lt_two_pow hm (by omega)) h1)
/-- One byte that is changed changes the sum. -/
theorem add_set {B P n : Nat} (h8 : 7 ≤ B) (hP : P < 2 ^ (B + 1)) (ht : P.testBit B = true) (hn : n < 2 ^ (B + 1)) (bs : List UInt8) (k : Nat) (hk : k < bs.length) (y : UInt8) (hy : y ≠ bs.getD k 0) :
    add P n bs ≠ add P n (bs.set k y) := by
  have h2 : 2 ^ 8 ≤ 2 ^ (B + 1) := Nat.pow_le_pow_right (by omega) (by omega)
  have e1 : bs = bs.take k ++ bs.getD k 0 :: bs.drop (k + 1) := by
    conv => lhs; rw [← List.take_append_drop k bs]
    rw [List.drop_eq_getElem_cons hk]
    simp [List.getD, hk]
  have e2 : bs.set k y = bs.take k ++ y :: bs.drop (k + 1) := List.set_eq_take_append_cons_drop.trans (by rw [if_pos hk])
  generalize hx : bs.getD k 0 = x at *
  rw [e2]
  conv => lhs; rw [e1]
  rw [add_append, add_append]
  intro h
  have hm := add_ltB h8 hP (bs.take k) n hn
  generalize add P n (bs.take k) = m at *
  have hbx := x.toNat_lt
  have hby := y.toNat_lt
  have h3 : byByte P m x = byByte P m y := add_inj h8 hP ht (bs.drop (k + 1)) _ _ (by rw [byByte_eq]; exact byBits_ltB h8 hP hm x) (by rw [byByte_eq]; exact byBits_ltB h8 hP hm y) h
  rw [byByte_eq, byByte_eq] at h3
  have h4 := bitsN_inj hP ht 8 _ _ (Nat.xor_lt_two_pow hm (by omega)) (Nat.xor_lt_two_pow hm (by omega)) h3
  rw [Nat.xor_comm m, Nat.xor_comm m] at h4
  exact hy (UInt8.toNat_inj.1 (xor_cancel h4)).symm
end Go.Proofs.YtgahfpflhhfhfaaGreat.Crc

/- The contracts of the CRC's functions. -/
namespace Go.Proofs.YtgahfpflhhfhfaaGreat
open Go.RowKit

/-- A CRC in memory: the sum so far, what is taken with it at the end, the table. -/
def crcCells (n all : Int) (tab : Nat → Int) : Array Value := (Value.int .u64 n :: Value.int .u64 all :: (List.range 256).map fun i => Value.int .u64 (tab i)).toArray
theorem crcCells_0 (n all : Int) (tab : Nat → Int) : (crcCells n all tab)[0]? = some (.int .u64 n) := by simp [crcCells]
theorem crcCells_1 (n all : Int) (tab : Nat → Int) : (crcCells n all tab)[1]? = some (.int .u64 all) := by simp [crcCells]
theorem crcCells_2 (n all : Int) (tab : Nat → Int) (i : Nat) (hi : i < 256) : (crcCells n all tab)[2 + i]? = some (.int .u64 (tab i)) := by
  simp [crcCells, Nat.add_comm 2 i, hi]
theorem crcCells_set0 (n m all : Int) (tab : Nat → Int) : (crcCells n all tab).setIfInBounds 0 (.int .u64 m) = crcCells m all tab := by simp [crcCells]
theorem crcCells_set2 (n all v : Int) (tab : Nat → Int) (i : Nat) (_hi : i < 256) : (crcCells n all tab).setIfInBounds (2 + i) (.int .u64 v) = crcCells n all (fun j => if j = i then v else tab j) := by
  apply Array.ext_getElem?
  intro k
  rw [Array.getElem?_setIfInBounds]
  have hsz : ∀ t, (crcCells n all t).size = 258 := fun t => by simp [crcCells]
  rcases Nat.lt_or_ge k 258 with hk | hk
  · match k with
    | 0 => rw [if_neg (by omega), crcCells_0, crcCells_0]
    | 1 => rw [if_neg (by omega), crcCells_1, crcCells_1]
    | k + 2 =>
      rw [show k + 2 = 2 + k by omega, crcCells_2 _ _ _ k (by omega), crcCells_2 _ _ _ k (by omega), hsz]
      by_cases h : k = i
      · subst h; simp; omega
      · rw [if_neg (by omega), if_neg h]
  · rw [Array.getElem?_eq_none (by rw [hsz]; omega), Array.getElem?_eq_none (by rw [hsz]; omega)]
    split
    · split
      · rename_i h1 h2; rw [hsz] at h2; omega
      · rfl
    · rfl

theorem Tryz.build_crc (a b : Int) (w : World) : (Instr.build 189 #[(0, .int .u64 a), (1, .int .u64 b)]).run Tryz.prog w = .ok (.agg (crcCells a b fun _ => 0)) w := by kernel_rfl

/-- The step of a bit, as the code's own operations have it. -/
theorem bit_raw1 {P x : Nat} (hx : x < Num.M64) (hP : P < Num.M64) (h : (bits .and .u64 (x : Int) 1 == 1) = true) : bits .xor .u64 ((x : Int) / 2) (P : Int) = ((Crc.bit P x : Nat) : Int) := by
  rw [Num.and64_1 hx] at h
  have h1 : x % 2 = 1 := by simp at h; omega
  rw [show (x : Int) / 2 = ((x / 2 : Nat) : Int) by omega, Num.xor64 (by omega) hP]
  simp [Crc.bit, h1]
theorem bit_raw0 {P x : Nat} (hx : x < Num.M64) (h : (bits .and .u64 (x : Int) 1 == 1) = false) : (x : Int) / 2 = ((Crc.bit P x : Nat) : Int) := by
  rw [Num.and64_1 hx] at h
  have h1 : ¬ x % 2 = 1 := by simp at h; omega
  simp [Crc.bit, h1]

/-- The table of a polynomial. -/
def tabOf (P : Nat) (i : Nat) : Int := ((Crc.bitsN P 8 i : Nat) : Int)
/-- A CRC in memory. -/
def CrcAt (w : World) (b P n : Nat) (all : Int) : Prop := Pts w b (crcCells n all (tabOf P)) 189

theorem crcCells_congr {n all : Int} {t t' : Nat → Int} (h : ∀ i, i < 256 → t i = t' i) : crcCells n all t = crcCells n all t' := by
  unfold crcCells
  congr 3
  apply List.map_congr_left
  intro i hi
  rw [h i (by simpa using hi)]

set_option maxRecDepth 1000000 in
theorem newCRC_any (poly all : Int) (P : Nat) (hpoly : poly = P) (hP : P < Num.M64) (w : World) :
    Calls Tryz.prog 80 #[.int .u64 poly, .int .u64 all] w fun e w' => e = .returned (.pointer (some ⟨w.heap.size, 0, none⟩)) ∧ Pts w' w.heap.size (crcCells all all (tabOf P)) 189 ∧ Below w.heap.size w w' := by
  subst hpoly
  have HPL := Lib.hid hP
  clear hP
  go_enter Tryz.func80, Tryz.ntmps80
  go_wp2_with (refine wpList_build 189 _ rfl rfl (.agg (crcCells all all fun _ => 0)) #[(0, .int .u64 all), (1, .int .u64 all)] (by simp [Act.eval]) (Tryz.build_crc all all _) ?_)
  go_loopw [13] (fun i wr => ∃ (k : Nat) (tab : Nat → Int), k ≤ 256 ∧ i = .int .i64 k ∧ (∀ j, j < k → tab j = tabOf P j) ∧ Pts wr w.heap.size (crcCells all all tab) 189 ∧ Below w.heap.size w wr) (fun i _ => 256 - (intOf i).toNat)
  case atStart => exact ⟨0, fun _ => 0, by omega, rfl, fun j hj => absurd hj (by omega), Pts.new _ _ _, (Below.refl _ _).alloc (Nat.le_refl _) _⟩
  case round =>
    obtain ⟨k, tab, hk, rfl, htab, hp, hb⟩ := hrel
    have HT := Lib.hid htab
    have HP := Lib.hid hp
    have HB := Lib.hid hb
    clear htab hp hb
    by_cases hlt : k < 256
    · have f2 := Pts.frozen HP.out (2 + k)
      have c2 := HP.out.cell (2 + k)
      rw [crcCells_2 _ _ _ k hlt] at c2
      go_wp2
      obtain ⟨wo, rfl⟩ : ∃ wo : World, wo = wr := ⟨_, rfl⟩
      go_loop [18, 7] (fun j x => ∃ n : Nat, n ≤ 8 ∧ j = .int .i64 n ∧ x = .int .u64 ((Crc.bitsN P n k : Nat) : Int)) (fun j _ => 8 - (intOf j).toNat)
      case atStart => exact ⟨0, by omega, rfl, rfl⟩
      case round =>
        obtain ⟨n, hn, rfl, rfl⟩ := hrel
        have hs : Crc.bitsN P (n + 1) k = Crc.bit P (Crc.bitsN P n k) := rfl
        have HS := Lib.hid hs
        have HX := Lib.hid (Crc.bitsN_lt HPL.out (Nat.lt_of_lt_of_le hlt (by unfold Num.M64; omega)) n)
        clear hs
        by_cases hnt : n < 8
        · generalize Crc.bitsN P n k = x at *
          go_wp2
          · have h : (bits .and .u64 (x : Int) 1 == 1) = true := by assumption
            exact ⟨⟨n + 1, by omega, by go_num, by rw [HS.out, bit_raw1 HX.out HPL.out h]⟩, by simp [intOf]; omega⟩
          · have h : (bits .and .u64 (x : Int) 1 == 1) = false := by assumption
            exact ⟨⟨n + 1, by omega, by go_num, by rw [HS.out, bit_raw0 HX.out h]⟩, by simp [intOf]; omega⟩
        · have hn8 : n = 8 := by omega
          subst hn8
          go_wp2
          refine ⟨⟨k + 1, fun j => if j = k then tabOf P k else tab j, by omega, by go_num, fun j hj => ?_, ?_, HB.out.setCell (Nat.le_refl _) _⟩, by simp [intOf]; omega⟩
          · by_cases hjk : j = k
            · simp [hjk]
            · simp only [hjk, if_false]; exact HT.out j (by omega)
          · rw [← crcCells_set2 all all (tabOf P k) tab k hlt]
            exact Pts.set HP.out (2 + k) _
    · have hk256 : k = 256 := by omega
      subst hk256
      go_wp2
      go_ret
      exact ⟨rfl, by rw [← crcCells_congr (HT.out)]; exact HP.out, HB.out⟩

theorem crcValue_any (b P n all : Nat) (w : World) (h : CrcAt w b P n all) (hn : n < Num.M64) (ha : all < Num.M64) :
    Calls Tryz.prog 174 #[.pointer (some ⟨b, 0, none⟩)] w fun e w' => e = .returned (.int .u64 ((n ^^^ all : Nat) : Int)) ∧ ∃ d, w' = w.drewN d := by
  have h0 : w.cell? ⟨b, 0, none⟩ = some (.int .u64 n) := by rw [Pts.cell h, crcCells_0]
  have h1 : w.cell? ⟨b, 1, none⟩ = some (.int .u64 all) := by rw [Pts.cell h, crcCells_1]
  have hx := Lib.hid (Num.xor64 hn ha)
  clear h hn ha
  go_enter Tryz.func174, Tryz.ntmps174
  go_wp2
  go_quiet (fail)
  go_wp2
  go_ret
  exact ⟨ret_int hx.out, _, rfl⟩

set_option maxRecDepth 100000 in
set_option maxHeartbeats 1000000 in
theorem crcAdd_off (b P n c B : Nat) (all : Int) (A : Option Addr) (bs : List UInt8) (w : World) (h : CrcAt w b P n all) (hP : P < Num.M64) (hn : n < Num.M64) (hr : BRow w B A bs) (hoff : BOff (· = b) A bs) (hlen : bs.length ≤ 140737488355328) :
    Calls Tryz.prog 173 #[.pointer (some ⟨b, 0, none⟩), .slice A bs.length c] w fun e w' => e = .returned (.tuple #[]) ∧ CrcAt w' b P (Crc.add P n bs) all ∧ Frm (· = b) w w' := by
  have HPL := Lib.hid hP
  have HN := Lib.hid hn
  have HR := Lib.hid hr
  have HOFF := Lib.hid hoff
  have HC := Lib.hid h
  clear hP hn hr h hoff
  go_enter Tryz.func173, Tryz.ntmps173
  go_wp2
  go_loopw [8] (fun i wr => ∃ k : Nat, k ≤ bs.length ∧ i = .int .i64 k ∧ CrcAt wr b P (Crc.add P n (bs.take k)) all ∧ Frm (· = b) w wr) (fun i _ => bs.length - (intOf i).toNat)
  case atStart => exact ⟨0, by omega, rfl, by simpa [Crc.add] using HC.out, Frm.refl _ _⟩
  case round =>
    obtain ⟨k, hk, rfl, hc, hf⟩ := hrel
    by_cases hlt : k < bs.length
    · obtain ⟨ab, aoff, hA, _, hcell⟩ := HR.out (by omega)
      have hab : ab ≠ b := HOFF.out (by omega) _ hA
      subst hA
      have hx : wr.cell? ⟨ab, aoff + k, none⟩ = some (byteV (bs.getD k 0)) := by
        rw [World.cell?_of_block (hf.block ab (World.block_lt_of_cell? w ⟨ab, aoff + k, none⟩ (hcell k hlt)) (by show ¬ _ = _; omega))]
        exact hcell k hlt
      unfold byteV at hx
      have hstep : Crc.add P n (bs.take (k + 1)) = Crc.byByte P (Crc.add P n (bs.take k)) (bs.getD k 0) := by
        unfold Crc.add
        rw [List.take_succ_eq_append_getElem hlt, List.foldl_append]
        simp [List.getD, hlt]
      have HS := Lib.hid hstep
      have HM := Lib.hid (Crc.add_lt HPL.out (bs.take k) n HN.out)
      clear hstep hcell
      generalize Crc.add P n (bs.take k) = m at *
      generalize bs.getD k 0 = u at *
      have hu := u.toNat_lt
      have hj := Num.xor8 (Nat.mod_lt m (show 256 > 0 by omega)) hu
      have hjl := Num.xor_lt8 (Nat.mod_lt m (show 256 > 0 by omega)) hu
      have hw8 : IntKind.u8.wrap (m : Int) = (m : Int) % 256 := by rw [Num.wrap8]; omega
      rw [show ((m % 256 : Nat) : Int) = (m : Int) % 256 by omega] at hj
      obtain ⟨j, hjj⟩ : ∃ j, m % 256 ^^^ u.toNat = j := ⟨_, rfl⟩
      rw [hjj] at hj hjl
      have c0 : wr.cell? ⟨b, 0, none⟩ = some (.int .u64 m) := by rw [Pts.cell hc, crcCells_0]
      have c2 : wr.cell? ⟨b, 2 + j, none⟩ = some (.int .u64 ((Crc.bitsN P 8 j : Nat) : Int)) := by rw [Pts.cell hc, crcCells_2 _ _ _ j hjl]; rfl
      have f0 := Pts.frozen hc 0
      have ht := Crc.bitsN_lt HPL.out (Nat.lt_of_lt_of_le hjl (by unfold Num.M64; omega) : j < Num.M64) 8
      have hxx := Num.xor64 (a := m / 256) (b := Crc.bitsN P 8 j) (by have := HM.out; omega) ht
      rw [show ((m / 256 : Nat) : Int) = (m : Int) / 256 by omega, show (m / 256) ^^^ Crc.bitsN P 8 j = Crc.byByte P m u by unfold Crc.byByte; rw [hjj]] at hxx
      generalize hvv : Crc.byByte P m u = v at *
      have HCC := Lib.hid hc
      have HF := Lib.hid hf
      clear hc hf ht hjj hvv
      generalize Crc.bitsN P 8 j = t at *
      go_wp2
      have hji : (j : Int) < 256 := by omega
      have hji0 : 0 ≤ (j : Int) := by omega
      go_still_tail 21, (by kernel_rfl)
      change wpList _ _ _ _ _ wr.drew
      go_wp2
      refine ⟨⟨k + 1, by omega, by go_num, ?_, HF.out.drew.setCell (by rfl) _⟩, by simp [intOf]; omega⟩
      rw [HS.out]
      have h := Pts.set (Pts.drew HCC.out) 0 (.int .u64 (v : Int))
      rw [crcCells_set0] at h
      exact h
    · have hkk : k = bs.length := by omega
      subst hkk
      go_wp2
      go_end0
      exact ⟨rfl, by simpa using hc, hf⟩
end Go.Proofs.YtgahfpflhhfhfaaGreat

/- XXH64's arithmetic, as the code's own operations have it; numbers out of bytes. No program in sight. -/
namespace Go.Proofs.YtgahfpflhhfhfaaGreat.Xxh
open Go.Proofs.YtgahfpflhhfhfaaGreat.Num

def xr (a b : Int) : Int := bits .xor .u64 a b
def mulU (a b : Int) : Int := IntKind.u64.wrap (a * b)
def addU (a b : Int) : Int := IntKind.u64.wrap (a + b)
def turn (x n : Int) : Int := bits .or .u64 (IntKind.u64.wrap (x * 2 ^ n.toNat)) (x / 2 ^ (64 - n).toNat)
def round (a x : Int) : Int := mulU (turn (addU a (mulU x 14029467366897019727)) 31) 11400714785074694791

/-- The number of bytes, the lowest first. -/
def le : List UInt8 → Nat
  | [] => 0
  | b :: bs => b.toNat + 256 * le bs
theorem le_cons (b : UInt8) (bs : List UInt8) : le (b :: bs) = b.toNat + 256 * le bs := rfl
theorem le_lt : ∀ bs : List UInt8, le bs < 256 ^ bs.length
  | [] => by simp [le]
  | b :: bs => by
    have h := le_lt bs
    have hb := b.toNat_lt
    rw [List.length_cons, Nat.pow_succ]
    unfold le
    omega
theorem le_lt64 {bs : List UInt8} (h : bs.length ≤ 8) : le bs < M64 := by
  have h1 := le_lt bs
  have h2 : 256 ^ bs.length ≤ 256 ^ 8 := Nat.pow_le_pow_right (by omega) h
  unfold M64; omega
theorem or_join {i x y : Nat} (hx : x % 2 ^ i = 0) (hy : y < 2 ^ i) : x ||| y = x + y := nat_join i x y hx hy
/-- One byte more at the low end. -/
theorem le_cons_raw {b : UInt8} {bs : List UInt8} (h : bs.length ≤ 7) : bits .or .u64 (IntKind.u64.wrap ((le bs : Int) * 256)) (b.toNat : Int) = ((le (b :: bs) : Nat) : Int) := by
  have h1 := le_lt bs
  have h2 : 256 ^ bs.length ≤ 256 ^ 7 := Nat.pow_le_pow_right (by omega) h
  have hb := b.toNat_lt
  rw [show (le bs : Int) * 256 = ((le bs * 256 : Nat) : Int) by omega, wrap64u, Nat.mod_eq_of_lt (by unfold M64; omega), or64 (by unfold M64; omega) (by unfold M64; omega)]
  rw [or_join (i := 8) (by omega) (by omega), le_cons]
  omega
theorem bits_or_range (a b : Int) : 0 ≤ bits .or .u64 a b ∧ bits .or .u64 a b < 18446744073709551616 := by
  have h : bits .or .u64 a b = ((BitVec.ofInt 64 a ||| BitVec.ofInt 64 b).toNat : Int) % 18446744073709551616 := by
    rw [← show ∀ n : Int, IntKind.u64.wrap n = n % 18446744073709551616 from fun n => by simp [IntKind.wrap, IntKind.bits, IntKind.signed]]
    rfl
  omega
theorem add0_turn (x n : Int) : addU 0 (turn x n) = turn x n := by
  have h := bits_or_range (IntKind.u64.wrap (x * 2 ^ n.toNat)) (x / 2 ^ (64 - n).toNat)
  unfold addU
  rw [show ∀ n : Int, IntKind.u64.wrap n = n % 18446744073709551616 from fun n => by simp [IntKind.wrap, IntKind.bits, IntKind.signed]]
  unfold turn
  omega

/-- The four lanes behind a stretch of 32 bytes. -/
structure L4 where
  a : Int
  b : Int
  c : Int
  d : Int
def L4.get (L : L4) : Nat → Int
  | 0 => L.a
  | 1 => L.b
  | 2 => L.c
  | _ => L.d
def L4.set (L : L4) : Nat → Int → L4
  | 0, v => { L with a := v }
  | 1, v => { L with b := v }
  | 2, v => { L with c := v }
  | _, v => { L with d := v }
/-- The first k lanes take their eight bytes in. -/
def upd (l : List UInt8) : Nat → L4 → L4
  | 0, L => L
  | k + 1, L => let M := upd l k L; M.set k (round (M.get k) (le ((l.drop (8 * k)).take 8)))
def eat : Nat → List UInt8 → L4 → L4
  | 0, _, L => L
  | n + 1, l, L => eat n (l.drop 32) (upd l 4 L)
def start : L4 := ⟨addU 11400714785074694791 14029467366897019727, 14029467366897019727, 0, IntKind.u64.wrap (-11400714785074694791)⟩
def lanes (l : List UInt8) : L4 := eat (l.length / 32) l start
def rest (l : List UInt8) : List UInt8 := l.drop (32 * (l.length / 32))

theorem upd_congr {l l' : List UInt8} (h : l.take 32 = l'.take 32) : ∀ k, k ≤ 4 → ∀ L, upd l k L = upd l' k L
  | 0, _, L => rfl
  | k + 1, hk, L => by
    unfold upd
    rw [upd_congr h k (by omega) L]
    have : (l.drop (8 * k)).take 8 = (l'.drop (8 * k)).take 8 := by
      have e : ∀ q : List UInt8, (q.drop (8 * k)).take 8 = ((q.take 32).drop (8 * k)).take 8 := fun q => by
        rw [List.drop_take, List.take_take, Nat.min_eq_left (by omega)]
      rw [e l, e l', h]
    rw [this]
theorem eat_succ (n : Nat) (l : List UInt8) : ∀ L, eat (n + 1) l L = upd (l.drop (32 * n)) 4 (eat n l L) := by
  induction n generalizing l with
  | zero => intro L; rfl
  | succ n ih =>
    intro L
    show eat (n + 1) (l.drop 32) (upd l 4 L) = _
    rw [ih (l.drop 32) (upd l 4 L), List.drop_drop, show 32 + 32 * n = 32 * (n + 1) by omega]
    rfl
theorem eat_append (a b : List UInt8) : ∀ n, 32 * n ≤ a.length → ∀ L, eat n (a ++ b) L = eat n a L := by
  intro n
  induction n generalizing a with
  | zero => intro _ L; rfl
  | succ n ih =>
    intro h L
    show eat n ((a ++ b).drop 32) (upd (a ++ b) 4 L) = eat n (a.drop 32) (upd a 4 L)
    rw [List.drop_append_of_le_length (by omega), ih (a.drop 32) (by rw [List.length_drop]; omega)]
    rw [upd_congr (l := a ++ b) (l' := a) (by rw [List.take_append_of_le_length (by omega)]) 4 (by omega)]
theorem eat_add (n m : Nat) (l : List UInt8) : ∀ L, eat (n + m) l L = eat m (l.drop (32 * n)) (eat n l L) := by
  induction n generalizing l with
  | zero => intro L; simp [eat]
  | succ n ih =>
    intro L
    rw [show n + 1 + m = (n + m) + 1 by omega]
    show eat (n + m) (l.drop 32) (upd l 4 L) = eat m (l.drop (32 * (n + 1))) (eat n (l.drop 32) (upd l 4 L))
    rw [ih (l.drop 32), List.drop_drop, show 32 + 32 * n = 32 * (n + 1) by omega]
/-- Bytes more: the rest goes ahead of them. -/
theorem lanes_append (a b : List UInt8) : lanes (a ++ b) = eat ((rest a ++ b).length / 32) (rest a ++ b) (lanes a) := by
  unfold lanes rest
  have hl : (a.drop (32 * (a.length / 32)) ++ b).length / 32 = (a ++ b).length / 32 - a.length / 32 := by
    rw [List.length_append, List.length_append, List.length_drop]; omega
  rw [hl]
  have h1 : (a ++ b).length / 32 = a.length / 32 + ((a ++ b).length / 32 - a.length / 32) := by rw [List.length_append]; omega
  conv => lhs; rw [h1]
  rw [eat_add, eat_append a b _ (by omega), List.drop_append_of_le_length (by omega)]
theorem rest_append (a b : List UInt8) : rest (a ++ b) = (rest a ++ b).drop (32 * ((rest a ++ b).length / 32)) := by
  unfold rest
  rw [show a.drop (32 * (a.length / 32)) ++ b = (a ++ b).drop (32 * (a.length / 32)) from (List.drop_append_of_le_length (by omega)).symm, List.drop_drop]
  congr 1
  rw [List.length_drop, List.length_append]; omega
theorem rest_length (a : List UInt8) : (rest a).length = a.length % 32 := by unfold rest; rw [List.length_drop]; omega

/-- The end: eights, a four, single bytes, and the last turns. -/
def eights : Nat → Int → List UInt8 → Int
  | 0, x, _ => x
  | n + 1, x, l => eights n (addU (mulU (turn (xr x (round 0 (le (l.take 8)))) 27) 11400714785074694791) 9650029242287828579) (l.drop 8)
def four (x : Int) (l : List UInt8) : Int := addU (mulU (turn (xr x (mulU (le (l.take 4)) 11400714785074694791)) 23) 14029467366897019727) 1609587929392839161
def one (x : Int) (c : UInt8) : Int := mulU (turn (xr x (mulU c.toNat 2870177450012600261)) 11) 11400714785074694791
def ones (x : Int) (l : List UInt8) : Int := l.foldl one x
def last1 (x : Int) : Int := mulU (xr x (x / 8589934592)) 14029467366897019727
def last2 (x : Int) : Int := mulU (xr x (x / 536870912)) 1609587929392839161
def last3 (x : Int) : Int := xr x (x / 4294967296)
def tail (x : Int) (l : List UInt8) : Int :=
  let y := eights (l.length / 8) x l
  let m := l.drop (8 * (l.length / 8))
  last3 (last2 (last1 (if 4 ≤ m.length then ones (four y m) (m.drop 4) else ones y m)))
def join1 (L : L4) : Int := addU (addU (addU (turn L.a 1) (turn L.b 7)) (turn L.c 12)) (turn L.d 18)
def join2 (x a : Int) : Int := addU (mulU (xr x (round 0 a)) 11400714785074694791) 9650029242287828579
def head (l : List UInt8) : Int := if 32 ≤ l.length then join2 (join2 (join2 (join2 (join1 (lanes l)) (lanes l).a) (lanes l).b) (lanes l).c) (lanes l).d else 2870177450012600261
/-- XXH64. -/
def xxh64 (l : List UInt8) : Int := tail (addU (head l) l.length) (rest l)

theorem add_p5 (n : Nat) (h : n ≤ 140737488355328) : addU 2870177450012600261 (n : Int) = 2870177450012600261 + (n : Int) := by
  unfold addU
  exact IntWalk.u64_in _ (by omega)
/-- The first lanes, turned and added up. -/
def jn : Nat → Int
  | 0 => 1
  | 1 => 7
  | 2 => 12
  | _ => 18
def jsum (L : L4) : Nat → Int
  | 0 => 0
  | i + 1 => addU (jsum L i) (turn (L.get i) (jn i))
theorem jsum_4 (L : L4) : jsum L 4 = join1 L := by
  show addU (addU (addU (addU 0 (turn L.a 1)) (turn L.b 7)) (turn L.c 12)) (turn L.d 18) = _
  rw [add0_turn]
  rfl
def jlan (L : L4) (x : Int) : Nat → Int
  | 0 => x
  | i + 1 => join2 (jlan L x i) (L.get i)
theorem head_ge {l : List UInt8} (h : 32 ≤ l.length) : head l = jlan (lanes l) (jsum (lanes l) 4) 4 := by
  unfold head
  rw [if_pos h, jsum_4]
  rfl
theorem head_lt {l : List UInt8} (h : ¬ 32 ≤ l.length) : head l = 2870177450012600261 := by unfold head; rw [if_neg h]
def eight (x : Int) (l : List UInt8) : Int := addU (mulU (turn (xr x (round 0 (le (l.take 8)))) 27) 11400714785074694791) 9650029242287828579
theorem tail_eight {x : Int} {l : List UInt8} (h : 8 ≤ l.length) : tail x l = tail (eight x l) (l.drop 8) := by
  unfold tail
  have e1 : l.length / 8 = (l.drop 8).length / 8 + 1 := by rw [List.length_drop]; omega
  have e2 : l.drop (8 * (l.length / 8)) = (l.drop 8).drop (8 * ((l.drop 8).length / 8)) := by
    rw [List.drop_drop]; congr 1; omega
  simp only []
  rw [e2]
  conv => lhs; rw [e1]
  rfl
theorem tail_four {x : Int} {l : List UInt8} (h : l.length < 8) (h4 : 4 ≤ l.length) : tail x l = last3 (last2 (last1 (ones (four x l) (l.drop 4)))) := by
  unfold tail
  have e1 : l.length / 8 = 0 := by omega
  simp only [e1, Nat.mul_zero, List.drop_zero, eights]
  rw [if_pos h4]
theorem tail_ones {x : Int} {l : List UInt8} (h4 : l.length < 4) : tail x l = last3 (last2 (last1 (ones x l))) := by
  unfold tail
  have e1 : l.length / 8 = 0 := by omega
  simp only [e1, Nat.mul_zero, List.drop_zero, eights]
  rw [if_neg (by omega)]
theorem ones_step {x : Int} {l : List UInt8} {i : Nat} (h : i < l.length) : ones x (l.drop i) = ones (one x (l.getD i 0)) (l.drop (i + 1)) := by
  rw [List.drop_eq_getElem_cons h]
  show ones (one x l[i]) (l.drop (i + 1)) = _
  simp [List.getD, h]
end Go.Proofs.YtgahfpflhhfhfaaGreat.Xxh

/- The contracts of XXH64's small functions, in the program and in the reference. -/
namespace Go.Proofs.YtgahfpflhhfhfaaGreat
open Go.RowKit

theorem turn_any (x n : Int) (w : World) (hn : 1 ≤ n ∧ n ≤ 63) :
    Calls Tryz.prog 179 #[.int .u64 x, .int .i64 n] w fun e w' => e = .returned (.int .u64 (Xxh.turn x n)) ∧ ∃ d, w' = w.drewN d := by
  obtain ⟨h0, h1⟩ := hn
  go_enter Tryz.func179, Tryz.ntmps179
  go_wp2
  go_quiet (fail)
  go_wp2
  go_ret
  exact ⟨rfl, _, rfl⟩

theorem round_any (a x : Int) (w : World) :
    Calls Tryz.prog 177 #[.int .u64 a, .int .u64 x] w fun e w' => e = .returned (.int .u64 (Xxh.round a x)) ∧ ∃ d, w' = w.drewN d := by
  go_enter Tryz.func177, Tryz.ntmps177
  go_wp2_with fail
  refine (turn_any _ _ _ (by omega)).mono ?_; rintro e w1 ⟨rfl, d, rfl⟩
  go_wp2
  go_ret
  exact ⟨rfl, _, rfl⟩

theorem little_any (A : Option Addr) (bs : List UInt8) (B c m : Nat) (w : World) (hr : BRow w B A bs) (hm : m = bs.length) (hl : bs.length ≤ 8) :
    Calls Tryz.prog 178 #[.slice A m c] w fun e w' => e = .returned (.int .u64 (Xxh.le bs : Int)) ∧ w = w' := by
  subst hm
  have HR := Lib.hid hr
  clear hr
  go_enter Tryz.func178, Tryz.ntmps178
  go_wp2
  go_loop [2, 3] (fun x i => ∃ k : Nat, k ≤ bs.length ∧ i = .int .i64 ((k : Int) - 1) ∧ x = .int .u64 (Xxh.le (bs.drop k) : Int)) (fun _ i => (intOf i + 1).toNat)
  case atStart => exact ⟨bs.length, by omega, rfl, by simp [Xxh.le]⟩
  case round =>
    obtain ⟨k, hk, rfl, rfl⟩ := hrel
    by_cases h0 : 0 < k
    · obtain ⟨j, rfl⟩ : ∃ j, k = j + 1 := ⟨k - 1, by omega⟩
      obtain ⟨ab, aoff, hA, hab, hcell⟩ := HR.out (by omega)
      subst hA
      have hx := hcell j (by omega)
      unfold byteV at hx
      have hd : bs.drop j = bs.getD j 0 :: bs.drop (j + 1) := by
        rw [List.drop_eq_getElem_cons (by omega)]; simp [List.getD, show j < bs.length by omega]
      have hs := Xxh.le_cons_raw (b := bs.getD j 0) (bs := bs.drop (j + 1)) (by rw [List.length_drop]; omega)
      rw [← hd] at hs
      generalize Xxh.le (bs.drop (j + 1)) = y at *
      generalize hzz : Xxh.le (bs.drop j) = z at *
      generalize bs.getD j 0 = u at *
      have HZ := Lib.hid hzz
      have huu := u.toNat_lt
      have hu0 : (u.toNat : Int) ≤ 255 := by omega
      clear hd hcell hzz huu
      have hji : ((j + 1 : Nat) : Int) - 1 = (j : Int) := by omega
      rw [hji]
      clear hji
      go_wp2
      exact ⟨⟨j, by omega, rfl, by rw [HZ.out]⟩, by simp [intOf]⟩
    · have hk0 : k = 0 := by omega
      subst hk0
      simp only [List.drop_zero]
      go_wp2
      go_ret
      exact ⟨rfl, rfl⟩

end Go.Proofs.YtgahfpflhhfhfaaGreat

/- The contracts of XXH64's sum that grows. -/
namespace Go.Proofs.YtgahfpflhhfhfaaGreat
open Go.RowKit

def xxhCells (L : Xxh.L4) (v : Value) (n : Int) : Array Value := #[.int .u64 L.a, .int .u64 L.b, .int .u64 L.c, .int .u64 L.d, v, .int .u64 n]
theorem xxhCells_set (L : Xxh.L4) (v : Value) (n : Int) (i : Nat) (x : Int) (hi : i < 4) : (xxhCells L v n).setIfInBounds i (.int .u64 x) = xxhCells (L.set i x) v n := by
  match i, hi with
  | 0, _ => rfl
  | 1, _ => rfl
  | 2, _ => rfl
  | 3, _ => rfl
/-- An XXH64 in memory, behind the bytes 'all'; v: the slice of the bytes that wait. -/
def XxhAt (w : World) (b : Nat) (v : Value) (all : List UInt8) : Prop :=
  Pts w b (xxhCells (Xxh.lanes all) v all.length) 192 ∧ OwnB w 5 (b + 1) v (Xxh.rest all)

theorem newXXH_any (w : World) :
    Calls Tryz.prog 81 #[] w fun e w' => e = .returned (.pointer (some ⟨w.heap.size, 0, none⟩)) ∧ XxhAt w' w.heap.size (.slice none 0 0) [] ∧ Below w.heap.size w w' := by
  go_enter Tryz.func81, Tryz.ntmps81
  go_wp2
  go_ret
  exact ⟨rfl, ⟨Pts.new _ _ _, OwnB.nil _ _ _⟩, (Below.refl _ _).alloc (Nat.le_refl _) _⟩

set_option maxHeartbeats 4000000 in
theorem xxhAdd_off (b : Nat) (v : Value) (all : List UInt8) (A : Option Addr) (bs : List UInt8) (c B : Nat) (w : World) (h : XxhAt w b v all) (hr : BRow w B A bs) (hoff : BOff (· = b) A bs) (hlen : all.length + bs.length ≤ 140737488355328) :
    Calls Tryz.prog 175 #[.pointer (some ⟨b, 0, none⟩), .slice A bs.length c] w fun e w' => e = .returned (.tuple #[]) ∧ ∃ v', XxhAt w' b v' (all ++ bs) ∧ (∀ k, v'.ownBlock = some k → v.ownBlock = some k ∨ w.heap.size ≤ k) ∧ Frm (fun k => k = b ∨ v.ownBlock = some k) w w' := by
  obtain ⟨hp, ho⟩ := h
  obtain ⟨A0, c0, rfl, hc0, hm0, hr0⟩ := ho.slice
  have k4 : w.cell? ⟨b, 4, none⟩ = some (.slice A0 (Xxh.rest all).length c0) := by rw [hp.cell]; rfl
  have k5 : w.cell? ⟨b, 5, none⟩ = some (.int .u64 (all.length : Int)) := by rw [hp.cell]; rfl
  have f4 := hp.frozen 4
  have f5 := hp.frozen 5
  have hrl := Xxh.rest_length all
  have hrl2 : (Xxh.rest all).length ≤ 31 := by omega
  have hrl3 : (Xxh.rest all).length ≤ all.length := by omega
  have HP := Lib.hid hp
  have HO := Lib.hid ho
  have HR := Lib.hid hr
  have HOFF := Lib.hid hoff
  have HRL := Lib.hid hrl
  clear hp ho hr hrl hr0 hoff
  have hlb := HP.out.lt
  go_enter Tryz.func175, Tryz.ntmps175
  go_wp2_with (at_builtin; refine wpList_append_bytes _ rfl (.tmp 20) (.tmp 21) 22 rfl 5 (b + 1) Tryz.underlying22 Tryz.info_u8 (.slice A0 (Xxh.rest all).length c0) (Xxh.rest all) rfl ?own A bs.length c B bs rfl rfl ?row ?len ?base ?k)
  case own => exact HO.out.other (by intro e; have h : b + 1 ≤ b := (HO.out.lt e).1; omega) _
  case row => exact HR.out.off HOFF.out ((Frm.refl _ _).setCell (by rfl) _)
  case len => omega
  case base => simp [World.setCell]; omega
  case k =>
    intro v' w1 hown hfrm hnew
    obtain ⟨A1, c1, rfl, hc1, hm1, hr1⟩ := hown.slice
    have hp1 : Pts w1 b (xxhCells (Xxh.lanes all) (.slice A0 (Xxh.rest all).length c0) ((all.length : Int) + bs.length)) 192 :=
      Pts.frm (Pts.set HP.out 5 _) hfrm (by intro e; have h : b + 1 ≤ b := (HO.out.lt e).1; omega)
    have g4 : w1.cell? ⟨b, 4, none⟩ = some (.slice A0 (Xxh.rest all).length c0) := by rw [hp1.cell]; rfl
    have e4 := hp1.frozen 4
    have hne : ∀ ad, A1 = some ad → ad.block ≠ b := by
      intro ad e
      have h := (hown.lt (k := ad.block) (by rw [e]; rfl)).1
      omega
    have HP1 := Lib.hid hp1
    have HOWN := Lib.hid hown
    have HFRM := Lib.hid hfrm
    have HNEW := Lib.hid hnew
    have HR1 := Lib.hid hr1
    have HNE := Lib.hid hne
    clear hp1 hown hfrm hnew hr1 hne
    have hsz : (Xxh.rest all ++ bs).length ≤ 140737488355328 := by rw [List.length_append]; omega
    have HL := Lib.hid (Xxh.lanes_append all bs)
    have HRA := Lib.hid (Xxh.rest_append all bs)
    generalize Xxh.rest all ++ bs = l at *
    have hp2 : Pts (w1.setCell ⟨b, 4, none⟩ (.slice A1 l.length c1)) b (xxhCells (Xxh.lanes all) (.slice A1 l.length c1) ((all.length : Int) + bs.length)) 192 := Pts.set HP1.out 4 _
    have HP2 := Lib.hid hp2
    have ho2 : OwnB (w1.setCell ⟨b, 4, none⟩ (.slice A1 l.length c1)) 5 (b + 1) (.slice A1 l.length c1) l := HOWN.out.other (by intro e; have h : b + 1 ≤ b := (HOWN.out.lt e).1; omega) _
    have HO2 := Lib.hid ho2
    clear hp2 ho2
    go_wp2
    generalize hw2 : w1.setCell ⟨b, 4, none⟩ (.slice A1 l.length c1) = w2 at *
    have HW2 := Lib.hid hw2
    have hrow2 : BRow w2 w2.heap.size A1 l := by
      obtain ⟨A2, c2, e, _, _, hr2⟩ := HO2.out.slice
      injection e with e1 e2 e3
      subst e1
      exact hr2
    have HRW := Lib.hid hrow2
    clear hw2 hrow2
    unfold maxLen at hm1
    go_loopw [4] (fun lv wr => ∃ (k ck : Nat) (Ak : Option Addr) (q : List UInt8), q = l.drop (32 * k) ∧ 32 * k ≤ l.length ∧ lv = .slice Ak q.length ck ∧ q.length ≤ ck ∧ ck ≤ 9223372036854775807 ∧ BRow w2 w2.heap.size Ak q ∧ (∀ ad, Ak = some ad → ad.block ≠ b) ∧
        Pts wr b (xxhCells (Xxh.eat k l (Xxh.lanes all)) (.slice A1 l.length c1) ((all.length : Int) + bs.length)) 192 ∧ Frm (· = b) w2 wr)
      (fun lv _ => match lv with | .slice _ n _ => n | _ => 0)
    case atStart => exact ⟨0, c1, A1, l, rfl, by omega, rfl, hc1, hm1, HRW.out, HNE.out, HP2.out, Frm.refl _ _⟩
    case round =>
      obtain ⟨k, ck, Ak, q, hq, hk, rfl, hlc, hck, hrow, hnek, hpk, hfk⟩ := hrel
      have HQ := Lib.hid hq
      clear hq
      by_cases h32 : 32 ≤ q.length
      · obtain ⟨ab, aoff, hA, hab, hcell⟩ := hrow (by omega)
        subst hA
        have hab2 := hnek _ rfl
        have HROW := Lib.hid hrow
        have HPK := Lib.hid hpk
        have HFK := Lib.hid hfk
        clear hrow hpk hfk hnek hcell
        go_wp2
        obtain ⟨wo, rfl⟩ : ∃ wo : World, wo = wr := ⟨_, rfl⟩
        go_loopw [34] (fun iv wr => ∃ i : Nat, i ≤ 4 ∧ iv = .int .i64 i ∧
            Pts wr b (xxhCells (Xxh.upd q i (Xxh.eat k l (Xxh.lanes all))) (.slice A1 l.length c1) ((all.length : Int) + bs.length)) 192 ∧ Frm (· = b) w2 wr) (fun iv _ => 4 - (intOf iv).toNat)
        case atStart => exact ⟨0, by omega, rfl, HPK.out, HFK.out⟩
        case round =>
          obtain ⟨i, hi, rfl, hpi, hfi⟩ := hrel
          by_cases hi4 : i < 4
          · have hu : Xxh.upd q (i + 1) (Xxh.eat k l (Xxh.lanes all)) = (Xxh.upd q i (Xxh.eat k l (Xxh.lanes all))).set i (Xxh.round ((Xxh.upd q i (Xxh.eat k l (Xxh.lanes all))).get i) (Xxh.le ((q.drop (8 * i)).take 8))) := rfl
            have HU := Lib.hid hu
            clear hu
            generalize Xxh.upd q i (Xxh.eat k l (Xxh.lanes all)) = M at *
            have ci : wr.cell? ⟨b, i, none⟩ = some (.int .u64 (M.get i)) := by
              rw [hpi.cell]
              match i, hi4 with
              | 0, _ => rfl
              | 1, _ => rfl
              | 2, _ => rfl
              | 3, _ => rfl
            have fi := hpi.frozen i
            have hrow8 : BRow wr w2.heap.size (some ⟨ab, aoff + 8 * i, none⟩) ((q.drop (8 * i)).take 8) := by
              have h := ((HROW.out.away (b := b) (by intro ad e; injection e with e; subst e; exact hab2) hfi).drop (k := 8 * i) (cap := ck) hlc).take 8
              rw [if_neg (by omega)] at h
              simpa [Opn.add_at] using h
            have hl8 : ((q.drop (8 * i)).take 8).length = 8 := by rw [List.length_take, List.length_drop]; omega
            have HR8 := Lib.hid hrow8
            have HL8 := Lib.hid hl8
            have HPI := Lib.hid hpi
            have HFI := Lib.hid hfi
            clear hrow8 hl8 hpi hfi
            have hlit : ∀ n, Calls Tryz.prog 178 #[.slice (some ⟨ab, aoff + 8 * i, none⟩) 8 (ck - 8 * i)] (wr.drewN n) fun e w' => e = .returned (.int .u64 (Xxh.le ((q.drop (8 * i)).take 8) : Int)) ∧ w' = wr.drewN n := fun n =>
              (little_any _ ((q.drop (8 * i)).take 8) w2.heap.size _ _ _ (HR8.out.drewN n) (by rw [HL8.out]) (by rw [HL8.out]; omega)).mono fun _ _ h => ⟨h.1, h.2.symm⟩
            have HLIT := Lib.hid hlit
            clear hlit
            have hii : (i : Int) < 4 := by omega
            have hi0 : 0 ≤ (i : Int) := by omega
            have a1 : IntKind.i64.wrap (8 * (i : Int)) = 8 * (i : Int) := IntWalk.i64_in _ (by omega)
            have a2 : IntKind.i64.wrap (8 * (i : Int) + 8) = 8 * (i : Int) + 8 := IntWalk.i64_in _ (by omega)
            have a3 : (8 * (i : Int)).toNat = 8 * i := by omega
            have a4 : (8 * (i : Int) + 8).toNat = 8 * i + 8 := by omega
            have a5 : 0 ≤ 8 * (i : Int) := by omega
            have a6 : 0 ≤ 8 * (i : Int) + 8 := by omega
            have a7 : 8 * (i : Int) ≤ 8 * (i : Int) + 8 := by omega
            have a8 : 8 * (i : Int) + 8 ≤ (ck : Int) := by omega
            have a9 : ¬ ck = 8 * i := by omega
            go_wp2
            refine QTail.wp_region_qtail_lit 20 (by kernel_rfl) (by kernel_rfl) ?_
            simp only [List.take_succ_cons, List.take_zero, List.drop_succ_cons, List.drop_zero]
            repeat (go_big_quiet_step (first | (go_at_call 178; exact Calls.quiet_of_same (HLIT.out _)) | (go_at_call 177; exact Calls.quiet_of (round_any _ _ _))))
            refine wpQuiet_nil ?_
            rintro w' ⟨nq, rfl⟩
            go_wp2
            refine ⟨⟨i + 1, by omega, by go_num, ?_, (Frm.drewN HFI.out nq).setCell (by rfl) _⟩, by simp [intOf]; omega⟩
            rw [HU.out, ← xxhCells_set _ _ _ _ _ hi4]
            exact Pts.set (HPI.out.drewN nq) i _
          · have hi44 : i = 4 := by omega
            subst hi44
            have HPI := Lib.hid hpi
            have HFI := Lib.hid hfi
            clear hpi hfi HPK HFK
            have hrow' : BRow w2 w2.heap.size (if ck = 32 then (some ⟨ab, aoff, none⟩) else some ⟨ab, aoff + 32, none⟩) (q.drop 32) := by
              have h := HROW.out.drop (k := 32) (cap := ck) hlc
              rw [Option.map_some, Opn.add_at] at h
              exact h
            have hld : (q.drop 32).length = q.length - 32 := List.length_drop
            have HLD := Lib.hid hld
            have HROW' := Lib.hid hrow'
            have hq32 : 32 * (k + 1) ≤ l.length := by
              have h := congrArg List.length HQ.out
              rw [List.length_drop] at h
              omega
            have hqq : q.drop 32 = l.drop (32 * (k + 1)) := by rw [HQ.out, List.drop_drop, show 32 * k + 32 = 32 * (k + 1) by omega]
            have heat : Xxh.upd q 4 (Xxh.eat k l (Xxh.lanes all)) = Xxh.eat (k + 1) l (Xxh.lanes all) := by rw [Xxh.eat_succ, ← HQ.out]
            have HQQ := Lib.hid hqq
            have HEAT := Lib.hid heat
            clear hrow' hld hqq heat
            by_cases hck32 : ck = 32
            · subst hck32
              go_wp2
              refine ⟨⟨k + 1, 0, some ⟨ab, aoff, none⟩, q.drop 32, HQQ.out, hq32, by rw [show (q.drop 32).length = 0 by rw [HLD.out]; omega], by rw [HLD.out]; omega, by omega, by simpa using HROW'.out, by intro ad e; injection e with e; subst e; exact hab2, by rw [← HEAT.out]; exact HPI.out, HFI.out⟩, by simp; omega⟩
            · go_wp2
              refine ⟨⟨k + 1, ck - 32, some ⟨ab, aoff + 32, none⟩, q.drop 32, HQQ.out, hq32, by rw [HLD.out], by rw [HLD.out]; omega, by omega, by simpa [hck32] using HROW'.out, by intro ad e; injection e with e; subst e; exact hab2, by rw [← HEAT.out]; exact HPI.out, HFI.out⟩, by simp; omega⟩
      · have hkk : k = l.length / 32 := by
          have h := congrArg List.length HQ.out
          rw [List.length_drop] at h
          omega
        have hown : OwnB wr 5 (b + 1) (.slice A1 l.length c1) l := HO2.out.frm hfk (by intro x hx e; have h : b + 1 ≤ x := (HO2.out.lt hx).1; omega)
        have hown0 := hown.cut (k := 0) (by omega)
        have h4 : wr.cell? ⟨b, 4, none⟩ = some (.slice A1 l.length c1) := by rw [hpk.cell]; rfl
        have e4 := hpk.frozen 4
        have hroww : BRow wr w2.heap.size Ak q := hrow.away hnek hfk
        have HOW0 := Lib.hid hown0
        have HROWW := Lib.hid hroww
        have HPK := Lib.hid hpk
        have HFK := Lib.hid hfk
        have HKK := Lib.hid hkk
        have HNK := Lib.hid hnek
        clear hown hown0 hroww hpk hfk hkk hrow hnek
        go_wp2_with (at_builtin; refine wpList_append_bytes _ rfl (.tmp 63) (.tmp 64) 22 rfl 5 (b + 1) Tryz.underlying22 Tryz.info_u8 (.slice A1 0 c1) (l.take 0) rfl ?own2 Ak q.length ck w2.heap.size q rfl rfl ?row2 ?len2 ?base2 ?k2)
        case own2 => exact HOW0.out
        case row2 => exact HROWW.out
        case len2 => simp; omega
        case base2 => have h := HPK.out.lt; omega
        case k2 =>
          intro v' w3 hown3 hfrm3 hnew3
          obtain ⟨A3, c3, rfl, hc3, hm3, hr3⟩ := hown3.slice
          have hown3' : OwnB w3 5 (b + 1) (.slice A3 q.length c3) q := hown3
          have hp3 : Pts w3 b (xxhCells (Xxh.eat k l (Xxh.lanes all)) (.slice A1 l.length c1) ((all.length : Int) + bs.length)) 192 :=
            Pts.frm HPK.out hfrm3 (by intro e; have h : b + 1 ≤ b := (HOW0.out.lt e).1; omega)
          have g4 : w3.cell? ⟨b, 4, none⟩ = some (.slice A1 l.length c1) := by rw [hp3.cell]; rfl
          have e4 := hp3.frozen 4
          have HP3 := Lib.hid hp3
          have HO3 := Lib.hid hown3'
          have HF3 := Lib.hid hfrm3
          have HN3 := Lib.hid hnew3
          clear hp3 hown3 hown3' hfrm3 hnew3 hr3 h4
          go_wp2
          go_end0
          have hobk : ∀ (a : Option Addr) (n m c d : Nat), (Value.slice a n c).ownBlock = (Value.slice a m d).ownBlock := by
            intro a n m c d; cases a <;> rfl
          have hsz12 : w.heap.size ≤ w1.heap.size := by have h := HFRM.out.size; simpa [World.setCell] using h
          have hsz2 : w2.heap.size = w1.heap.size := by rw [← HW2.out]; simp [World.setCell]
          have hsz23 := HFK.out.size
          have hA1 : ∀ x, (Value.slice A1 l.length c1).ownBlock = some x → (Value.slice A0 (Xxh.rest all).length c0).ownBlock = some x ∨ w.heap.size ≤ x := by
            intro x hx
            rcases HNEW.out with e | e
            · rw [e] at hx; exact .inl hx
            · rw [e] at hx; injection hx with hx; exact .inr (by omega)
          have hA3 : ∀ x, (Value.slice A3 q.length c3).ownBlock = some x → (Value.slice A0 (Xxh.rest all).length c0).ownBlock = some x ∨ w.heap.size ≤ x := by
            intro x hx
            rcases HN3.out with e | e
            · have e2 : (Value.slice A3 q.length c3).ownBlock = (Value.slice A1 l.length c1).ownBlock := e.trans (hobk A1 0 l.length c1 c1)
              rw [e2] at hx
              exact hA1 x hx
            · have e2 : (Value.slice A3 q.length c3).ownBlock = some wr.heap.size := e
              rw [e2] at hx; injection hx with hx; exact .inr (by omega)
          refine ⟨rfl, .slice A3 q.length c3, ⟨?_, ?_⟩, hA3, ?_⟩
          · rw [HL.out, ← HKK.out, show ((all ++ bs).length : Int) = (all.length : Int) + bs.length by rw [List.length_append]; omega]
            exact Pts.set HP3.out 4 _
          · rw [HRA.out, ← HKK.out, ← HQ.out]
            exact HO3.out.other (by intro e; have h : b + 1 ≤ b := (HO3.out.lt e).1; omega) _
          · have f1 : Frm (fun x => x = b ∨ (Value.slice A0 (Xxh.rest all).length c0).ownBlock = some x) w w1 :=
              (((Frm.refl _ w).setCell (p := ⟨b, 5, none⟩) (.inl rfl) _)).trans (HFRM.out.mono fun x _ hx => .inr hx)
            have f2 : Frm (fun x => x = b ∨ (Value.slice A0 (Xxh.rest all).length c0).ownBlock = some x) w w2 := by
              rw [← HW2.out]; exact f1.setCell (p := ⟨b, 4, none⟩) (.inl rfl) _
            have f3 : Frm (fun x => x = b ∨ (Value.slice A0 (Xxh.rest all).length c0).ownBlock = some x) w wr := f2.trans (HFK.out.mono fun x _ hx => .inl hx)
            refine Frm.setCell ⟨HF3.out.os.trans f3.os, HF3.out.tape.trans f3.tape, HF3.out.output.trans f3.output, Nat.le_trans f3.size HF3.out.size, fun x hx hn => ?_⟩ (.inl rfl) _
            rw [← f3.block x hx hn]
            refine HF3.out.block x (Nat.lt_of_lt_of_le hx f3.size) (fun e => ?_)
            have e2 : (Value.slice A1 l.length c1).ownBlock = some x := (hobk A1 l.length 0 c1 c1).trans e
            rcases hA1 x e2 with h | h
            · exact hn (.inr h)
            · omega
end Go.Proofs.YtgahfpflhhfhfaaGreat

/- XXH64's sum tells the number of all that it got. -/
namespace Go.Proofs.YtgahfpflhhfhfaaGreat
open Go.RowKit

set_option maxRecDepth 100000 in
set_option maxHeartbeats 4000000 in
theorem xxhValue_any (b : Nat) (v : Value) (all : List UInt8) (w : World) (h : XxhAt w b v all) (hlen : all.length ≤ 140737488355328) :
    Calls Tryz.prog 176 #[.pointer (some ⟨b, 0, none⟩)] w fun e w' => e = .returned (.int .u64 (Xxh.xxh64 all)) ∧ ∃ d, w' = w.drewN d := by
  obtain ⟨hp, ho⟩ := h
  obtain ⟨A0, c0, rfl, hc0, hm0, hr0⟩ := ho.slice
  have HP := Lib.hid hp
  have k0 : w.cell? ⟨b, 0, none⟩ = some (.int .u64 (Xxh.lanes all).a) := by rw [hp.cell]; rfl
  have k1 : w.cell? ⟨b, 1, none⟩ = some (.int .u64 (Xxh.lanes all).b) := by rw [hp.cell]; rfl
  have k2 : w.cell? ⟨b, 2, none⟩ = some (.int .u64 (Xxh.lanes all).c) := by rw [hp.cell]; rfl
  have k3 : w.cell? ⟨b, 3, none⟩ = some (.int .u64 (Xxh.lanes all).d) := by rw [hp.cell]; rfl
  have k4 : w.cell? ⟨b, 4, none⟩ = some (.slice A0 (Xxh.rest all).length c0) := by rw [hp.cell]; rfl
  have k5 : w.cell? ⟨b, 5, none⟩ = some (.int .u64 (all.length : Int)) := by rw [hp.cell]; rfl
  have HR := Lib.hid hr0
  clear hp ho hr0
  by_cases h32 : 32 ≤ all.length
  · have hd32 : decide (32 ≤ (all.length : Int)) = true := by simp; omega
    go_enter Tryz.func176, Tryz.ntmps176
    go_wp2
    go_loopw [3, 17] (fun x i wr => ∃ (k d : Nat), k ≤ 4 ∧ i = .int .i64 k ∧ x = .int .u64 (Xxh.jsum (Xxh.lanes all) k) ∧ wr = w.drewN d) (fun _ i _ => 4 - (intOf i).toNat)
    case atStart => exact ⟨0, 0, by omega, rfl, rfl, rfl⟩
    case round =>
      obtain ⟨k, d, hk, rfl, rfl, rfl⟩ := hrel
      by_cases hk4 : k < 4
      · have hs : Xxh.jsum (Xxh.lanes all) (k + 1) = Xxh.addU (Xxh.jsum (Xxh.lanes all) k) (Xxh.turn ((Xxh.lanes all).get k) (Xxh.jn k)) := rfl
        have HS := Lib.hid hs
        clear hs
        generalize Xxh.jsum (Xxh.lanes all) k = y at *
        match k, hk4 with
        | 0, _ =>
          rw [show ((0 : Nat) : Int) = 0 from rfl]
          have hix : ∀ w, (Instr.index 270 (.agg #[.int .i64 1, .int .i64 7, .int .i64 12, .int .i64 18]) (.int .i64 0)).run Tryz.prog w = .ok (.int .i64 1) w := fun _ => by kernel_rfl
          go_wp2_with (go_at_call 179; refine (turn_any _ _ _ (by omega)).mono ?_; rintro e w' ⟨rfl, d', rfl⟩)
          exact ⟨⟨1, _, by omega, by go_num, by rw [HS.out]; rfl, rfl⟩, by simp [intOf]⟩
        | 1, _ =>
          rw [show ((1 : Nat) : Int) = 1 from rfl]
          have hix : ∀ w, (Instr.index 270 (.agg #[.int .i64 1, .int .i64 7, .int .i64 12, .int .i64 18]) (.int .i64 1)).run Tryz.prog w = .ok (.int .i64 7) w := fun _ => by kernel_rfl
          go_wp2_with (go_at_call 179; refine (turn_any _ _ _ (by omega)).mono ?_; rintro e w' ⟨rfl, d', rfl⟩)
          exact ⟨⟨2, _, by omega, by go_num, by rw [HS.out]; rfl, rfl⟩, by simp [intOf]⟩
        | 2, _ =>
          rw [show ((2 : Nat) : Int) = 2 from rfl]
          have hix : ∀ w, (Instr.index 270 (.agg #[.int .i64 1, .int .i64 7, .int .i64 12, .int .i64 18]) (.int .i64 2)).run Tryz.prog w = .ok (.int .i64 12) w := fun _ => by kernel_rfl
          go_wp2_with (go_at_call 179; refine (turn_any _ _ _ (by omega)).mono ?_; rintro e w' ⟨rfl, d', rfl⟩)
          exact ⟨⟨3, _, by omega, by go_num, by rw [HS.out]; rfl, rfl⟩, by simp [intOf]⟩
        | 3, _ =>
          rw [show ((3 : Nat) : Int) = 3 from rfl]
          have hix : ∀ w, (Instr.index 270 (.agg #[.int .i64 1, .int .i64 7, .int .i64 12, .int .i64 18]) (.int .i64 3)).run Tryz.prog w = .ok (.int .i64 18) w := fun _ => by kernel_rfl
          go_wp2_with (go_at_call 179; refine (turn_any _ _ _ (by omega)).mono ?_; rintro e w' ⟨rfl, d', rfl⟩)
          exact ⟨⟨4, _, by omega, by go_num, by rw [HS.out]; rfl, rfl⟩, by simp [intOf]⟩
      · have hk44 : k = 4 := by omega
        subst hk44
        rw [show ((4 : Nat) : Int) = 4 from rfl]
        go_wp2
        have HJ := Lib.hid (Xxh.head_ge h32)
        generalize Xxh.jsum (Xxh.lanes all) 4 = y0 at *
        go_loopw [3, 36] (fun x i wr => ∃ (k d : Nat), k ≤ 4 ∧ i = .int .i64 k ∧ x = .int .u64 (Xxh.jlan (Xxh.lanes all) y0 k) ∧ wr = w.drewN d) (fun _ i _ => 4 - (intOf i).toNat)
        case atStart => exact ⟨0, _, by omega, rfl, rfl, rfl⟩
        case round =>
          obtain ⟨k, d, hk, rfl, rfl, rfl⟩ := hrel
          by_cases hk4 : k < 4
          · have hs : Xxh.jlan (Xxh.lanes all) y0 (k + 1) = Xxh.join2 (Xxh.jlan (Xxh.lanes all) y0 k) ((Xxh.lanes all).get k) := rfl
            have HS := Lib.hid hs
            clear hs
            generalize Xxh.jlan (Xxh.lanes all) y0 k = y at *
            rcases (show k = 0 ∨ k = 1 ∨ k = 2 ∨ k = 3 by omega) with rfl | rfl | rfl | rfl
            · rw [show ((0 : Nat) : Int) = 0 from rfl]
              have hix : ∀ w, (Instr.index 190 (.agg #[.int .u64 (Xxh.lanes all).a, .int .u64 (Xxh.lanes all).b, .int .u64 (Xxh.lanes all).c, .int .u64 (Xxh.lanes all).d]) (.int .i64 0)).run Tryz.prog w = .ok (.int .u64 (Xxh.lanes all).a) w := fun _ => by kernel_rfl
              go_wp2_with (go_at_call 177; refine (round_any _ _ _).mono ?_; rintro e w' ⟨rfl, d', rfl⟩)
              exact ⟨⟨1, _, by omega, by go_num, by rw [HS.out]; rfl, rfl⟩, by simp [intOf]⟩
            · rw [show ((1 : Nat) : Int) = 1 from rfl]
              have hix : ∀ w, (Instr.index 190 (.agg #[.int .u64 (Xxh.lanes all).a, .int .u64 (Xxh.lanes all).b, .int .u64 (Xxh.lanes all).c, .int .u64 (Xxh.lanes all).d]) (.int .i64 1)).run Tryz.prog w = .ok (.int .u64 (Xxh.lanes all).b) w := fun _ => by kernel_rfl
              go_wp2_with (go_at_call 177; refine (round_any _ _ _).mono ?_; rintro e w' ⟨rfl, d', rfl⟩)
              exact ⟨⟨2, _, by omega, by go_num, by rw [HS.out]; rfl, rfl⟩, by simp [intOf]⟩
            · rw [show ((2 : Nat) : Int) = 2 from rfl]
              have hix : ∀ w, (Instr.index 190 (.agg #[.int .u64 (Xxh.lanes all).a, .int .u64 (Xxh.lanes all).b, .int .u64 (Xxh.lanes all).c, .int .u64 (Xxh.lanes all).d]) (.int .i64 2)).run Tryz.prog w = .ok (.int .u64 (Xxh.lanes all).c) w := fun _ => by kernel_rfl
              go_wp2_with (go_at_call 177; refine (round_any _ _ _).mono ?_; rintro e w' ⟨rfl, d', rfl⟩)
              exact ⟨⟨3, _, by omega, by go_num, by rw [HS.out]; rfl, rfl⟩, by simp [intOf]⟩
            · rw [show ((3 : Nat) : Int) = 3 from rfl]
              have hix : ∀ w, (Instr.index 190 (.agg #[.int .u64 (Xxh.lanes all).a, .int .u64 (Xxh.lanes all).b, .int .u64 (Xxh.lanes all).c, .int .u64 (Xxh.lanes all).d]) (.int .i64 3)).run Tryz.prog w = .ok (.int .u64 (Xxh.lanes all).d) w := fun _ => by kernel_rfl
              go_wp2_with (go_at_call 177; refine (round_any _ _ _).mono ?_; rintro e w' ⟨rfl, d', rfl⟩)
              exact ⟨⟨4, _, by omega, by go_num, by rw [HS.out]; rfl, rfl⟩, by simp [intOf]⟩
          · have hk44 : k = 4 := by omega
            subst hk44
            rw [show ((4 : Nat) : Int) = 4 from rfl, ← HJ.out]
            generalize hT : Xxh.tail (Xxh.addU (Xxh.head all) all.length) (Xxh.rest all) = T at *
            have HT := Lib.hid hT
            have hxx : Xxh.xxh64 all = T := hT
            have HXX := Lib.hid hxx
            clear hT hxx
            have HX0 := Lib.hid (rfl : Xxh.addU (Xxh.head all) all.length = IntKind.u64.wrap (Xxh.head all + (all.length : Int)))
            go_wp2
            go_loopw [3, 8] (fun x lv wr => ∃ (d ck : Nat) (Ak : Option Addr) (q : List UInt8) (y : Int), Xxh.tail y q = T ∧ lv = .slice Ak q.length ck ∧ q.length ≤ ck ∧ ck ≤ 9223372036854775807 ∧ BRow w w.heap.size Ak q ∧ x = .int .u64 y ∧ wr = w.drewN d)
              (fun _ lv _ => match lv with | .slice _ n _ => n | _ => 0)
            case atStart => exact ⟨_, c0, A0, Xxh.rest all, _, by rw [← HT.out]; rfl, rfl, hc0, hm0, HR.out, rfl, rfl⟩
            case round =>
              obtain ⟨d, ck, Ak, q, y, hty, rfl, hqc, hck, hrow, rfl, rfl⟩ := hrel
              have HTY := Lib.hid hty
              have HROW := Lib.hid hrow
              clear hty hrow HR
              by_cases h8 : 8 ≤ q.length
              · have hd8 : decide (8 ≤ (q.length : Int)) = true := by simp; omega
                obtain ⟨ab, aoff, hA, hab, hcell⟩ := HROW.out (by omega)
                subst hA
                clear hcell
                have h8r := HROW.out.take 8
                have hl8 : (q.take 8).length = 8 := by rw [List.length_take]; omega
                have HL8 := Lib.hid hl8
                have H8R := Lib.hid h8r
                have hrow' : BRow w w.heap.size (if ck = 8 then (some ⟨ab, aoff, none⟩) else some ⟨ab, aoff + 8, none⟩) (q.drop 8) := by
                  have h := HROW.out.drop (k := 8) (cap := ck) hqc
                  rw [Option.map_some, Opn.add_at] at h
                  exact h
                have HROW' := Lib.hid hrow'
                have HLD := Lib.hid (List.length_drop : (q.drop 8).length = q.length - 8)
                have hE := Xxh.tail_eight (x := y) h8
                rw [HTY.out] at hE
                have HE := Lib.hid hE.symm
                clear hE hrow' h8r hl8
                by_cases hck8 : ck = 8
                · subst hck8
                  go_wp2_with (first | (go_at_call 178; refine (little_any _ (q.take 8) w.heap.size _ _ _ (H8R.out.drewN _) (by rw [HL8.out]) (by rw [HL8.out]; omega)).mono ?_; rintro e w' ⟨rfl, rfl⟩) | (go_at_call 177; refine (round_any _ _ _).mono ?_; rintro e w' ⟨rfl, d', rfl⟩) | (go_at_call 179; refine (turn_any _ _ _ (by omega)).mono ?_; rintro e w' ⟨rfl, d'', rfl⟩))
                  exact ⟨⟨_, 0, some ⟨ab, aoff, none⟩, q.drop 8, _, HE.out, by rw [show (q.drop 8).length = 0 by rw [HLD.out]; omega], by rw [HLD.out]; omega, by omega, by simpa using HROW'.out, rfl, rfl⟩, by simp; omega⟩
                · go_wp2_with (first | (go_at_call 178; refine (little_any _ (q.take 8) w.heap.size _ _ _ (H8R.out.drewN _) (by rw [HL8.out]) (by rw [HL8.out]; omega)).mono ?_; rintro e w' ⟨rfl, rfl⟩) | (go_at_call 177; refine (round_any _ _ _).mono ?_; rintro e w' ⟨rfl, d', rfl⟩) | (go_at_call 179; refine (turn_any _ _ _ (by omega)).mono ?_; rintro e w' ⟨rfl, d'', rfl⟩))
                  exact ⟨⟨_, ck - 8, some ⟨ab, aoff + 8, none⟩, q.drop 8, _, HE.out, by rw [HLD.out], by rw [HLD.out]; omega, by omega, by simpa [hck8] using HROW'.out, rfl, rfl⟩, by simp; omega⟩
              · have hd8 : decide (8 ≤ (q.length : Int)) = false := by simp; omega
                by_cases h4 : 4 ≤ q.length
                · have hd4 : decide (4 ≤ (q.length : Int)) = true := by simp; omega
                  obtain ⟨ab, aoff, hA, hab, hcell⟩ := HROW.out (by omega)
                  subst hA
                  clear hcell
                  have h4r := HROW.out.take 4
                  have hl4 : (q.take 4).length = 4 := by rw [List.length_take]; omega
                  have HL4 := Lib.hid hl4
                  have H4R := Lib.hid h4r
                  have hrow' : BRow w w.heap.size (if ck = 4 then (some ⟨ab, aoff, none⟩) else some ⟨ab, aoff + 4, none⟩) (q.drop 4) := by
                    have h := HROW.out.drop (k := 4) (cap := ck) hqc
                    rw [Option.map_some, Opn.add_at] at h
                    exact h
                  have HROW' := Lib.hid hrow'
                  have HLD := Lib.hid (List.length_drop : (q.drop 4).length = q.length - 4)
                  have hE := Xxh.tail_four (x := y) (l := q) (by omega) h4
                  rw [HTY.out] at hE
                  have HE := Lib.hid hE.symm
                  clear hE hrow' h4r hl4
                  by_cases hck4 : ck = 4
                  · subst hck4
                    have hr0 : q.drop 4 = [] := List.eq_nil_of_length_eq_zero (by rw [HLD.out]; omega)
                    have hq4 : q.length = 4 := by omega
                    have HQ4 := Lib.hid hq4
                    have HR0 := Lib.hid hr0
                    clear hr0 hq4
                    go_wp2_with (first | (go_at_call 178; refine (little_any _ (q.take 4) w.heap.size _ _ _ (H4R.out.drewN _) (by rw [HL4.out]) (by rw [HL4.out]; omega)).mono ?_; rintro e w' ⟨rfl, rfl⟩) | (go_at_call 179; refine (turn_any _ _ _ (by omega)).mono ?_; rintro e w' ⟨rfl, d'', rfl⟩))
                    refine wp_loop_once ?_
                    go_wp2
                    go_ret
                    exact ⟨ret_int (by rw [HXX.out, ← HE.out, HR0.out]; rfl), _, rfl⟩
                  · go_wp2_with (first | (go_at_call 178; refine (little_any _ (q.take 4) w.heap.size _ _ _ (H4R.out.drewN _) (by rw [HL4.out]) (by rw [HL4.out]; omega)).mono ?_; rintro e w' ⟨rfl, rfl⟩) | (go_at_call 179; refine (turn_any _ _ _ (by omega)).mono ?_; rintro e w' ⟨rfl, d'', rfl⟩))
                    have hrow2 : BRow w w.heap.size (some ⟨ab, aoff + 4, none⟩) (q.drop 4) := by simpa [hck4] using HROW'.out
                    have HROW2 := Lib.hid hrow2
                    have hfour : Xxh.four y q = Xxh.addU (Xxh.mulU (Xxh.turn (Xxh.xr y (Xxh.mulU (Xxh.le (q.take 4)) 11400714785074694791)) 23) 14029467366897019727) 1609587929392839161 := rfl
                    have HFO := Lib.hid hfour
                    clear hrow2 hfour HROW'
                    obtain ⟨O, hO⟩ : ∃ O, Xxh.ones (Xxh.four y q) (q.drop 4) = O := ⟨_, rfl⟩
                    rw [hO] at HE
                    have HO := Lib.hid hO
                    clear hO
                    go_loopw [3, 86] (fun x iv wr => ∃ (i d : Nat) (z : Int), i ≤ q.length - 4 ∧ iv = .int .i64 i ∧ x = .int .u64 z ∧ Xxh.ones z ((q.drop 4).drop i) = O ∧ wr = w.drewN d) (fun _ iv _ => (q.length - 4) - (intOf iv).toNat)
                    case atStart => exact ⟨0, _, _, by omega, rfl, rfl, by rw [← HO.out]; rfl, rfl⟩
                    case round =>
                      obtain ⟨i, d, z, hi, rfl, rfl, hz, rfl⟩ := hrel
                      have HZ := Lib.hid hz
                      clear hz
                      by_cases hil : i < q.length - 4
                      · have hx := (HROW2.out.drewN d).addr (k := i) (by rw [HLD.out]; exact hil)
                        unfold byteV at hx
                        have hs := Xxh.ones_step (x := z) (l := q.drop 4) (i := i) (by rw [HLD.out]; exact hil)
                        have HS := Lib.hid hs
                        clear hs
                        generalize (q.drop 4).getD i 0 = u at *
                        have huu := u.toNat_lt
                        have hu0 : (u.toNat : Int) ≤ 255 := by omega
                        clear huu
                        go_wp2_with (go_at_call 179; refine (turn_any _ _ _ (by omega)).mono ?_; rintro e w' ⟨rfl, d'', rfl⟩)
                        exact ⟨⟨i + 1, _, _, by omega, by go_num, rfl, by rw [← HZ.out, HS.out]; rfl, rfl⟩, by simp [intOf]; omega⟩
                      · have hz2 : O = z := by
                          have h := HZ.out
                          rw [List.drop_of_length_le (by rw [HLD.out]; omega)] at h
                          exact h.symm
                        have HZ2 := Lib.hid hz2
                        clear hz2
                        go_wp2
                        go_ret
                        exact ⟨ret_int (by rw [HXX.out, ← HE.out, HZ2.out]; rfl), _, rfl⟩
                · have hd4 : decide (4 ≤ (q.length : Int)) = false := by simp; omega
                  have hE := Xxh.tail_ones (x := y) (l := q) (by omega)
                  rw [HTY.out] at hE
                  have HE := Lib.hid hE.symm
                  clear hE
                  obtain ⟨O, hO⟩ : ∃ O, Xxh.ones y q = O := ⟨_, rfl⟩
                  rw [hO] at HE
                  have HO := Lib.hid hO
                  clear hO
                  go_wp2
                  go_loopw [3, 86] (fun x iv wr => ∃ (i d : Nat) (z : Int), i ≤ q.length ∧ iv = .int .i64 i ∧ x = .int .u64 z ∧ Xxh.ones z (q.drop i) = O ∧ wr = w.drewN d) (fun _ iv _ => q.length - (intOf iv).toNat)
                  case atStart => exact ⟨0, _, _, by omega, rfl, rfl, by rw [← HO.out]; rfl, rfl⟩
                  case round =>
                    obtain ⟨i, d, z, hi, rfl, rfl, hz, rfl⟩ := hrel
                    have HZ := Lib.hid hz
                    clear hz
                    by_cases hil : i < q.length
                    · obtain ⟨ab, aoff, hA, hab, hcell⟩ := HROW.out (by omega)
                      subst hA
                      have hx := (HROW.out.drewN d).addr (k := i) hil
                      unfold byteV at hx
                      have hs := Xxh.ones_step (x := z) (l := q) (i := i) hil
                      have HS := Lib.hid hs
                      clear hs hcell
                      generalize q.getD i 0 = u at *
                      have huu := u.toNat_lt
                      have hu0 : (u.toNat : Int) ≤ 255 := by omega
                      clear huu
                      go_wp2_with (go_at_call 179; refine (turn_any _ _ _ (by omega)).mono ?_; rintro e w' ⟨rfl, d'', rfl⟩)
                      exact ⟨⟨i + 1, _, _, by omega, by go_num, rfl, by rw [← HZ.out, HS.out]; rfl, rfl⟩, by simp [intOf]; omega⟩
                    · have hz2 : O = z := by
                        have h := HZ.out
                        rw [List.drop_of_length_le (by omega)] at h
                        exact h.symm
                      have HZ2 := Lib.hid hz2
                      clear hz2
                      go_wp2
                      go_ret
                      exact ⟨ret_int (by rw [HXX.out, ← HE.out, HZ2.out]; rfl), _, rfl⟩
  · have hd32 : decide (32 ≤ (all.length : Int)) = false := by simp; omega
    have HJ := Lib.hid (Xxh.head_lt h32)
    go_enter Tryz.func176, Tryz.ntmps176
    generalize hT : Xxh.tail (Xxh.addU (Xxh.head all) all.length) (Xxh.rest all) = T at *
    have HT := Lib.hid hT
    have hxx : Xxh.xxh64 all = T := hT
    have HXX := Lib.hid hxx
    clear hT hxx
    have HX0 := Lib.hid (rfl : Xxh.addU (Xxh.head all) all.length = IntKind.u64.wrap (Xxh.head all + (all.length : Int)))
    go_wp2
    go_loopw [3, 8] (fun x lv wr => ∃ (d ck : Nat) (Ak : Option Addr) (q : List UInt8) (y : Int), Xxh.tail y q = T ∧ lv = .slice Ak q.length ck ∧ q.length ≤ ck ∧ ck ≤ 9223372036854775807 ∧ BRow w w.heap.size Ak q ∧ x = .int .u64 y ∧ wr = w.drewN d)
      (fun _ lv _ => match lv with | .slice _ n _ => n | _ => 0)
    case atStart => exact ⟨0, c0, A0, Xxh.rest all, _, by rw [← HT.out, HJ.out, Xxh.add_p5 _ hlen], rfl, hc0, hm0, HR.out, rfl, rfl⟩
    case round =>
      obtain ⟨d, ck, Ak, q, y, hty, rfl, hqc, hck, hrow, rfl, rfl⟩ := hrel
      have HTY := Lib.hid hty
      have HROW := Lib.hid hrow
      clear hty hrow HR
      by_cases h8 : 8 ≤ q.length
      · have hd8 : decide (8 ≤ (q.length : Int)) = true := by simp; omega
        obtain ⟨ab, aoff, hA, hab, hcell⟩ := HROW.out (by omega)
        subst hA
        clear hcell
        have h8r := HROW.out.take 8
        have hl8 : (q.take 8).length = 8 := by rw [List.length_take]; omega
        have HL8 := Lib.hid hl8
        have H8R := Lib.hid h8r
        have hrow' : BRow w w.heap.size (if ck = 8 then (some ⟨ab, aoff, none⟩) else some ⟨ab, aoff + 8, none⟩) (q.drop 8) := by
          have h := HROW.out.drop (k := 8) (cap := ck) hqc
          rw [Option.map_some, Opn.add_at] at h
          exact h
        have HROW' := Lib.hid hrow'
        have HLD := Lib.hid (List.length_drop : (q.drop 8).length = q.length - 8)
        have hE := Xxh.tail_eight (x := y) h8
        rw [HTY.out] at hE
        have HE := Lib.hid hE.symm
        clear hE hrow' h8r hl8
        by_cases hck8 : ck = 8
        · subst hck8
          go_wp2_with (first | (go_at_call 178; refine (little_any _ (q.take 8) w.heap.size _ _ _ (H8R.out.drewN _) (by rw [HL8.out]) (by rw [HL8.out]; omega)).mono ?_; rintro e w' ⟨rfl, rfl⟩) | (go_at_call 177; refine (round_any _ _ _).mono ?_; rintro e w' ⟨rfl, d', rfl⟩) | (go_at_call 179; refine (turn_any _ _ _ (by omega)).mono ?_; rintro e w' ⟨rfl, d'', rfl⟩))
          exact ⟨⟨_, 0, some ⟨ab, aoff, none⟩, q.drop 8, _, HE.out, by rw [show (q.drop 8).length = 0 by rw [HLD.out]; omega], by rw [HLD.out]; omega, by omega, by simpa using HROW'.out, rfl, rfl⟩, by simp; omega⟩
        · go_wp2_with (first | (go_at_call 178; refine (little_any _ (q.take 8) w.heap.size _ _ _ (H8R.out.drewN _) (by rw [HL8.out]) (by rw [HL8.out]; omega)).mono ?_; rintro e w' ⟨rfl, rfl⟩) | (go_at_call 177; refine (round_any _ _ _).mono ?_; rintro e w' ⟨rfl, d', rfl⟩) | (go_at_call 179; refine (turn_any _ _ _ (by omega)).mono ?_; rintro e w' ⟨rfl, d'', rfl⟩))
          exact ⟨⟨_, ck - 8, some ⟨ab, aoff + 8, none⟩, q.drop 8, _, HE.out, by rw [HLD.out], by rw [HLD.out]; omega, by omega, by simpa [hck8] using HROW'.out, rfl, rfl⟩, by simp; omega⟩
      · have hd8 : decide (8 ≤ (q.length : Int)) = false := by simp; omega
        by_cases h4 : 4 ≤ q.length
        · have hd4 : decide (4 ≤ (q.length : Int)) = true := by simp; omega
          obtain ⟨ab, aoff, hA, hab, hcell⟩ := HROW.out (by omega)
          subst hA
          clear hcell
          have h4r := HROW.out.take 4
          have hl4 : (q.take 4).length = 4 := by rw [List.length_take]; omega
          have HL4 := Lib.hid hl4
          have H4R := Lib.hid h4r
          have hrow' : BRow w w.heap.size (if ck = 4 then (some ⟨ab, aoff, none⟩) else some ⟨ab, aoff + 4, none⟩) (q.drop 4) := by
            have h := HROW.out.drop (k := 4) (cap := ck) hqc
            rw [Option.map_some, Opn.add_at] at h
            exact h
          have HROW' := Lib.hid hrow'
          have HLD := Lib.hid (List.length_drop : (q.drop 4).length = q.length - 4)
          have hE := Xxh.tail_four (x := y) (l := q) (by omega) h4
          rw [HTY.out] at hE
          have HE := Lib.hid hE.symm
          clear hE hrow' h4r hl4
          by_cases hck4 : ck = 4
          · subst hck4
            have hr0 : q.drop 4 = [] := List.eq_nil_of_length_eq_zero (by rw [HLD.out]; omega)
            have hq4 : q.length = 4 := by omega
            have HQ4 := Lib.hid hq4
            have HR0 := Lib.hid hr0
            clear hr0 hq4
            go_wp2_with (first | (go_at_call 178; refine (little_any _ (q.take 4) w.heap.size _ _ _ (H4R.out.drewN _) (by rw [HL4.out]) (by rw [HL4.out]; omega)).mono ?_; rintro e w' ⟨rfl, rfl⟩) | (go_at_call 179; refine (turn_any _ _ _ (by omega)).mono ?_; rintro e w' ⟨rfl, d'', rfl⟩))
            refine wp_loop_once ?_
            go_wp2
            go_ret
            exact ⟨ret_int (by rw [HXX.out, ← HE.out, HR0.out]; rfl), _, rfl⟩
          · go_wp2_with (first | (go_at_call 178; refine (little_any _ (q.take 4) w.heap.size _ _ _ (H4R.out.drewN _) (by rw [HL4.out]) (by rw [HL4.out]; omega)).mono ?_; rintro e w' ⟨rfl, rfl⟩) | (go_at_call 179; refine (turn_any _ _ _ (by omega)).mono ?_; rintro e w' ⟨rfl, d'', rfl⟩))
            have hrow2 : BRow w w.heap.size (some ⟨ab, aoff + 4, none⟩) (q.drop 4) := by simpa [hck4] using HROW'.out
            have HROW2 := Lib.hid hrow2
            have hfour : Xxh.four y q = Xxh.addU (Xxh.mulU (Xxh.turn (Xxh.xr y (Xxh.mulU (Xxh.le (q.take 4)) 11400714785074694791)) 23) 14029467366897019727) 1609587929392839161 := rfl
            have HFO := Lib.hid hfour
            clear hrow2 hfour HROW'
            obtain ⟨O, hO⟩ : ∃ O, Xxh.ones (Xxh.four y q) (q.drop 4) = O := ⟨_, rfl⟩
            rw [hO] at HE
            have HO := Lib.hid hO
            clear hO
            go_loopw [3, 86] (fun x iv wr => ∃ (i d : Nat) (z : Int), i ≤ q.length - 4 ∧ iv = .int .i64 i ∧ x = .int .u64 z ∧ Xxh.ones z ((q.drop 4).drop i) = O ∧ wr = w.drewN d) (fun _ iv _ => (q.length - 4) - (intOf iv).toNat)
            case atStart => exact ⟨0, _, _, by omega, rfl, rfl, by rw [← HO.out]; rfl, rfl⟩
            case round =>
              obtain ⟨i, d, z, hi, rfl, rfl, hz, rfl⟩ := hrel
              have HZ := Lib.hid hz
              clear hz
              by_cases hil : i < q.length - 4
              · have hx := (HROW2.out.drewN d).addr (k := i) (by rw [HLD.out]; exact hil)
                unfold byteV at hx
                have hs := Xxh.ones_step (x := z) (l := q.drop 4) (i := i) (by rw [HLD.out]; exact hil)
                have HS := Lib.hid hs
                clear hs
                generalize (q.drop 4).getD i 0 = u at *
                have huu := u.toNat_lt
                have hu0 : (u.toNat : Int) ≤ 255 := by omega
                clear huu
                go_wp2_with (go_at_call 179; refine (turn_any _ _ _ (by omega)).mono ?_; rintro e w' ⟨rfl, d'', rfl⟩)
                exact ⟨⟨i + 1, _, _, by omega, by go_num, rfl, by rw [← HZ.out, HS.out]; rfl, rfl⟩, by simp [intOf]; omega⟩
              · have hz2 : O = z := by
                  have h := HZ.out
                  rw [List.drop_of_length_le (by rw [HLD.out]; omega)] at h
                  exact h.symm
                have HZ2 := Lib.hid hz2
                clear hz2
                go_wp2
                go_ret
                exact ⟨ret_int (by rw [HXX.out, ← HE.out, HZ2.out]; rfl), _, rfl⟩
        · have hd4 : decide (4 ≤ (q.length : Int)) = false := by simp; omega
          have hE := Xxh.tail_ones (x := y) (l := q) (by omega)
          rw [HTY.out] at hE
          have HE := Lib.hid hE.symm
          clear hE
          obtain ⟨O, hO⟩ : ∃ O, Xxh.ones y q = O := ⟨_, rfl⟩
          rw [hO] at HE
          have HO := Lib.hid hO
          clear hO
          go_wp2
          go_loopw [3, 86] (fun x iv wr => ∃ (i d : Nat) (z : Int), i ≤ q.length ∧ iv = .int .i64 i ∧ x = .int .u64 z ∧ Xxh.ones z (q.drop i) = O ∧ wr = w.drewN d) (fun _ iv _ => q.length - (intOf iv).toNat)
          case atStart => exact ⟨0, _, _, by omega, rfl, rfl, by rw [← HO.out]; rfl, rfl⟩
          case round =>
            obtain ⟨i, d, z, hi, rfl, rfl, hz, rfl⟩ := hrel
            have HZ := Lib.hid hz
            clear hz
            by_cases hil : i < q.length
            · obtain ⟨ab, aoff, hA, hab, hcell⟩ := HROW.out (by omega)
              subst hA
              have hx := (HROW.out.drewN d).addr (k := i) hil
              unfold byteV at hx
              have hs := Xxh.ones_step (x := z) (l := q) (i := i) hil
              have HS := Lib.hid hs
              clear hs hcell
              generalize q.getD i 0 = u at *
              have huu := u.toNat_lt
              have hu0 : (u.toNat : Int) ≤ 255 := by omega
              clear huu
              go_wp2_with (go_at_call 179; refine (turn_any _ _ _ (by omega)).mono ?_; rintro e w' ⟨rfl, d'', rfl⟩)
              exact ⟨⟨i + 1, _, _, by omega, by go_num, rfl, by rw [← HZ.out, HS.out]; rfl, rfl⟩, by simp [intOf]; omega⟩
            · have hz2 : O = z := by
                have h := HZ.out
                rw [List.drop_of_length_le (by omega)] at h
                exact h.symm
              have HZ2 := Lib.hid hz2
              clear hz2
              go_wp2
              go_ret
              exact ⟨ret_int (by rw [HXX.out, ← HE.out, HZ2.out]; rfl), _, rfl⟩
end Go.Proofs.YtgahfpflhhfhfaaGreat

/- The reference's XXH64. -/
namespace Go.Proofs.YtgahfpflhhfhfaaGreat
open Go.RowKit

def lCells (L : Xxh.L4) : Array Value := #[.int .u64 L.a, .int .u64 L.b, .int .u64 L.c, .int .u64 L.d]
end Go.Proofs.YtgahfpflhhfhfaaGreat

/- The reference's CRCs. -/
namespace Go.Proofs.YtgahfpflhhfhfaaGreat
open Go.RowKit

theorem rbit32_1 {P x : Nat} (hx : x < Num.M32) (hP : P < Num.M32) (h : (bits .and .u32 (x : Int) 1 == 1) = true) : bits .xor .u32 ((x : Int) / 2) (P : Int) = ((Crc.bit P x : Nat) : Int) := by
  rw [Num.and32_1 hx] at h
  have h1 : x % 2 = 1 := by simp at h; omega
  rw [show (x : Int) / 2 = ((x / 2 : Nat) : Int) by omega, Num.xor32 (by omega) hP]
  simp [Crc.bit, h1]
theorem rbit32_0 {P x : Nat} (hx : x < Num.M32) (h : (bits .and .u32 (x : Int) 1 == 1) = false) : (x : Int) / 2 = ((Crc.bit P x : Nat) : Int) := by
  rw [Num.and32_1 hx] at h
  have h1 : ¬ x % 2 = 1 := by simp at h; omega
  simp [Crc.bit, h1]

set_option maxHeartbeats 2000000 in
theorem rcrc32_any (A : Option Addr) (bs : List UInt8) (c m B : Nat) (w : World) (hm : m = bs.length) (hr : BRow w B A bs) (hlen : bs.length ≤ 140737488355328) :
    Calls Tryz.prog 52 #[.slice A m c] w fun e w' => e = .returned (.int .u32 ((Crc.add 3988292384 (Num.M32 - 1) bs ^^^ (Num.M32 - 1) : Nat) : Int)) ∧ w = w' := by
  subst hm
  have HR := Lib.hid hr
  clear hr
  obtain ⟨P, hPe⟩ : ∃ P : Nat, P = 3988292384 := ⟨_, rfl⟩
  have hPI : (P : Int) = 3988292384 := by rw [hPe]; rfl
  have hPL : P < Num.M32 := by rw [hPe]; decide
  rw [← hPe]
  have HPI := Lib.hid hPI
  have HPL := Lib.hid hPL
  have HPE := Lib.hid hPe
  clear hPI hPL hPe
  go_enter Tryz.func52, Tryz.ntmps52
  go_wp2
  go_loop [3, 4] (fun x i => ∃ k : Nat, k ≤ bs.length ∧ i = .int .i64 k ∧ x = .int .u32 ((Crc.add P (Num.M32 - 1) (bs.take k) : Nat) : Int)) (fun _ i => bs.length - (intOf i).toNat)
  case atStart => exact ⟨0, by omega, rfl, by rfl⟩
  case round =>
    obtain ⟨k, hk, rfl, rfl⟩ := hrel
    have HM := Lib.hid (Crc.add_lt32 HPL.out (bs.take k) (Num.M32 - 1) (by decide))
    by_cases hlt : k < bs.length
    · obtain ⟨ab, aoff, hA, hab, hcell⟩ := HR.out (by omega)
      subst hA
      have hx := hcell k hlt
      unfold byteV at hx
      have hstep : Crc.add P (Num.M32 - 1) (bs.take (k + 1)) = Crc.byBits P (Crc.add P (Num.M32 - 1) (bs.take k)) (bs.getD k 0) := by
        rw [← Crc.byByte_eq]
        unfold Crc.add
        rw [List.take_succ_eq_append_getElem hlt, List.foldl_append]
        simp [List.getD, hlt]
      have HS := Lib.hid hstep
      clear hstep hcell
      generalize Crc.add P (Num.M32 - 1) (bs.take k) = n at *
      generalize bs.getD k 0 = u at *
      have huu := u.toNat_lt
      have hu0 : (u.toNat : Int) ≤ 255 := by omega
      have huM : u.toNat < Num.M32 := Nat.lt_of_lt_of_le huu (by decide)
      have hxx := Num.xor32 HM.out huM
      have HX := Lib.hid (Num.xor_lt32 HM.out huM)
      have HS2 := Lib.hid (show Crc.byBits P n u = Crc.bitsN P 8 (n ^^^ u.toNat) from rfl)
      rw [HS2.out] at HS
      generalize n ^^^ u.toNat = v at *
      clear huu huM HS2
      go_wp2
      go_loop [3, 5] (fun x j => ∃ i : Nat, i ≤ 8 ∧ j = .int .i64 i ∧ x = .int .u32 ((Crc.bitsN P i v : Nat) : Int)) (fun _ j => 8 - (intOf j).toNat)
      case atStart => exact ⟨0, by omega, rfl, rfl⟩
      case round =>
        obtain ⟨i, hi, rfl, rfl⟩ := hrel
        have HSS := Lib.hid (show Crc.bitsN P (i + 1) v = Crc.bit P (Crc.bitsN P i v) from rfl)
        have HXX := Lib.hid (Crc.bitsN_lt32 HPL.out HX.out i)
        by_cases hi8 : i < 8
        · generalize Crc.bitsN P i v = x at *
          go_wp2
          · have h : (bits .and .u32 (x : Int) 1 == 1) = true := by assumption
            exact ⟨⟨i + 1, by omega, by go_num, by rw [HSS.out, ← rbit32_1 HXX.out HPL.out h, HPI.out]⟩, by simp [intOf]; omega⟩
          · have h : (bits .and .u32 (x : Int) 1 == 1) = false := by assumption
            exact ⟨⟨i + 1, by omega, by go_num, by rw [HSS.out, rbit32_0 HXX.out h]⟩, by simp [intOf]; omega⟩
        · have hi88 : i = 8 := by omega
          subst hi88
          go_wp2
          exact ⟨⟨k + 1, by omega, by go_num, by rw [HS.out]⟩, by simp [intOf]; omega⟩
    · have hkk : k = bs.length := by omega
      subst hkk
      rw [List.take_length] at *
      have HMX := Lib.hid (Num.xor32 (a := Num.M32 - 1) (b := Crc.add P (Num.M32 - 1) bs) (by decide) HM.out)
      go_wp2
      go_ret
      exact ⟨ret_int (by rw [show IntKind.u32.max = ((Num.M32 - 1 : Nat) : Int) by rfl, HMX.out, Nat.xor_comm]), rfl⟩

theorem rbit64_1 {P x : Nat} (hx : x < Num.M64) (hP : P < Num.M64) (h : (bits .and .u64 (x : Int) 1 == 1) = true) : bits .xor .u64 ((x : Int) / 2) (P : Int) = ((Crc.bit P x : Nat) : Int) := by
  rw [Num.and64_1 hx] at h
  have h1 : x % 2 = 1 := by simp at h; omega
  rw [show (x : Int) / 2 = ((x / 2 : Nat) : Int) by omega, Num.xor64 (by omega) hP]
  simp [Crc.bit, h1]
theorem rbit64_0 {P x : Nat} (hx : x < Num.M64) (h : (bits .and .u64 (x : Int) 1 == 1) = false) : (x : Int) / 2 = ((Crc.bit P x : Nat) : Int) := by
  rw [Num.and64_1 hx] at h
  have h1 : ¬ x % 2 = 1 := by simp at h; omega
  simp [Crc.bit, h1]

set_option maxHeartbeats 2000000 in
theorem rcrc64_any (A : Option Addr) (bs : List UInt8) (c m B : Nat) (w : World) (hm : m = bs.length) (hr : BRow w B A bs) (hlen : bs.length ≤ 140737488355328) :
    Calls Tryz.prog 54 #[.slice A m c] w fun e w' => e = .returned (.int .u64 ((Crc.add 14514072000185962306 (Num.M64 - 1) bs ^^^ (Num.M64 - 1) : Nat) : Int)) ∧ w = w' := by
  subst hm
  have HR := Lib.hid hr
  clear hr
  obtain ⟨P, hPe⟩ : ∃ P : Nat, P = 14514072000185962306 := ⟨_, rfl⟩
  have hPI : (P : Int) = 14514072000185962306 := by rw [hPe]; rfl
  have hPL : P < Num.M64 := by rw [hPe]; decide
  rw [← hPe]
  have HPI := Lib.hid hPI
  have HPL := Lib.hid hPL
  have HPE := Lib.hid hPe
  clear hPI hPL hPe
  go_enter Tryz.func54, Tryz.ntmps54
  go_wp2
  go_loop [3, 4] (fun x i => ∃ k : Nat, k ≤ bs.length ∧ i = .int .i64 k ∧ x = .int .u64 ((Crc.add P (Num.M64 - 1) (bs.take k) : Nat) : Int)) (fun _ i => bs.length - (intOf i).toNat)
  case atStart => exact ⟨0, by omega, rfl, by rfl⟩
  case round =>
    obtain ⟨k, hk, rfl, rfl⟩ := hrel
    have HM := Lib.hid (Crc.add_lt HPL.out (bs.take k) (Num.M64 - 1) (by decide))
    by_cases hlt : k < bs.length
    · obtain ⟨ab, aoff, hA, hab, hcell⟩ := HR.out (by omega)
      subst hA
      have hx := hcell k hlt
      unfold byteV at hx
      have hstep : Crc.add P (Num.M64 - 1) (bs.take (k + 1)) = Crc.byBits P (Crc.add P (Num.M64 - 1) (bs.take k)) (bs.getD k 0) := by
        rw [← Crc.byByte_eq]
        unfold Crc.add
        rw [List.take_succ_eq_append_getElem hlt, List.foldl_append]
        simp [List.getD, hlt]
      have HS := Lib.hid hstep
      clear hstep hcell
      generalize Crc.add P (Num.M64 - 1) (bs.take k) = n at *
      generalize bs.getD k 0 = u at *
      have huu := u.toNat_lt
      have hu0 : (u.toNat : Int) ≤ 255 := by omega
      have huM : u.toNat < Num.M64 := Nat.lt_of_lt_of_le huu (by decide)
      have hxx := Num.xor64 HM.out huM
      have HX := Lib.hid (Num.xor_lt64 HM.out huM)
      have HS2 := Lib.hid (show Crc.byBits P n u = Crc.bitsN P 8 (n ^^^ u.toNat) from rfl)
      rw [HS2.out] at HS
      generalize n ^^^ u.toNat = v at *
      clear huu huM HS2
      go_wp2
      go_loop [3, 5] (fun x j => ∃ i : Nat, i ≤ 8 ∧ j = .int .i64 i ∧ x = .int .u64 ((Crc.bitsN P i v : Nat) : Int)) (fun _ j => 8 - (intOf j).toNat)
      case atStart => exact ⟨0, by omega, rfl, rfl⟩
      case round =>
        obtain ⟨i, hi, rfl, rfl⟩ := hrel
        have HSS := Lib.hid (show Crc.bitsN P (i + 1) v = Crc.bit P (Crc.bitsN P i v) from rfl)
        have HXX := Lib.hid (Crc.bitsN_lt HPL.out HX.out i)
        by_cases hi8 : i < 8
        · generalize Crc.bitsN P i v = x at *
          go_wp2
          · have h : (bits .and .u64 (x : Int) 1 == 1) = true := by assumption
            exact ⟨⟨i + 1, by omega, by go_num, by rw [HSS.out, ← rbit64_1 HXX.out HPL.out h, HPI.out]⟩, by simp [intOf]; omega⟩
          · have h : (bits .and .u64 (x : Int) 1 == 1) = false := by assumption
            exact ⟨⟨i + 1, by omega, by go_num, by rw [HSS.out, rbit64_0 HXX.out h]⟩, by simp [intOf]; omega⟩
        · have hi88 : i = 8 := by omega
          subst hi88
          go_wp2
          exact ⟨⟨k + 1, by omega, by go_num, by rw [HS.out]⟩, by simp [intOf]; omega⟩
    · have hkk : k = bs.length := by omega
      subst hkk
      rw [List.take_length] at *
      have HMX := Lib.hid (Num.xor64 (a := Num.M64 - 1) (b := Crc.add P (Num.M64 - 1) bs) (by decide) HM.out)
      go_wp2
      go_ret
      exact ⟨ret_int (by rw [show IntKind.u64.max = ((Num.M64 - 1 : Nat) : Int) by rfl, HMX.out, Nat.xor_comm]), rfl⟩
end Go.Proofs.YtgahfpflhhfhfaaGreat

/- The sum of a kind: New, Add, Value. -/
namespace Go.Proofs.YtgahfpflhhfhfaaGreat
open Go.RowKit

def P32 : Nat := 3988292384
def P64 : Nat := 14514072000185962306
def crc32 (bs : List UInt8) : Nat := Crc.add P32 (Num.M32 - 1) bs ^^^ (Num.M32 - 1)
def crc64 (bs : List UInt8) : Nat := Crc.add P64 (Num.M64 - 1) bs ^^^ (Num.M64 - 1)
/-- The number of a kind. -/
def sumOf (kind : Int) (bs : List UInt8) : Int := if kind = 1 then (crc32 bs : Int) else if kind = 2 then (crc64 bs : Int) else if kind = 3 then Xxh.xxh64 bs else 0

theorem sumOf_1 (bs : List UInt8) : sumOf 1 bs = ((Crc.add P32 (Num.M32 - 1) bs ^^^ (Num.M32 - 1) : Nat) : Int) := by unfold sumOf; rw [if_pos rfl]; unfold crc32; exact Eq.refl _
theorem sumOf_2 (bs : List UInt8) : sumOf 2 bs = ((Crc.add P64 (Num.M64 - 1) bs ^^^ (Num.M64 - 1) : Nat) : Int) := by unfold sumOf; rw [if_neg (by decide), if_pos rfl]; unfold crc64; exact Eq.refl _
theorem sumOf_3 (bs : List UInt8) : sumOf 3 bs = Xxh.xxh64 bs := by unfold sumOf; rw [if_neg (by decide), if_neg (by decide), if_pos rfl]

def sumCells (T : TypeId) (c : Nat) : Array Value := #[.iface T (.pointer (some ⟨c, 0, none⟩))]
/-- A sum of a kind in memory, behind the bytes 'all'; own: the blocks that are its own. -/
inductive SumAt (w : World) (s : Nat) (own : Nat → Prop) (kind : Int) (all : List UInt8) : Prop
  | crc32 (c : Nat) (hk : kind = 1) (hs : Pts w s (sumCells 137 c) 142) (hc : CrcAt w c P32 (Crc.add P32 (Num.M32 - 1) all) ((Num.M32 - 1 : Nat) : Int)) (ho : ∀ k, own k ↔ (k = s ∨ k = c)) (hne : s ≠ c)
  | crc64 (c : Nat) (hk : kind = 2) (hs : Pts w s (sumCells 137 c) 142) (hc : CrcAt w c P64 (Crc.add P64 (Num.M64 - 1) all) ((Num.M64 - 1 : Nat) : Int)) (ho : ∀ k, own k ↔ (k = s ∨ k = c)) (hne : s ≠ c)
  | xxh64 (c : Nat) (v : Value) (hk : kind = 3) (hs : Pts w s (sumCells 143 c) 142) (hc : XxhAt w c v all) (ho : ∀ k, own k ↔ (k = s ∨ k = c ∨ v.ownBlock = some k)) (hne : s ≠ c ∧ v.ownBlock ≠ some s)
  | none (hk : kind ≠ 1 ∧ kind ≠ 2 ∧ kind ≠ 3) (hs : Pts w s #[.nilIface] 142) (ho : ∀ k, own k ↔ k = s)

theorem meth_cv (a : Addr) (w : World) : (method 375 137 (.pointer (some a)) "baler/sums.value").run Tryz.prog w = .ok (174, .pointer (some a)) w := by kernel_rfl
theorem meth_xv (a : Addr) (w : World) : (method 375 143 (.pointer (some a)) "baler/sums.value").run Tryz.prog w = .ok (176, .pointer (some a)) w := by kernel_rfl
theorem meth_ca (a : Addr) (w : World) : (method 375 137 (.pointer (some a)) "baler/sums.add").run Tryz.prog w = .ok (173, .pointer (some a)) w := by kernel_rfl
theorem meth_xa (a : Addr) (w : World) : (method 375 143 (.pointer (some a)) "baler/sums.add").run Tryz.prog w = .ok (175, .pointer (some a)) w := by kernel_rfl
theorem eql_c (x : Value) (w : World) : (binOp .eql 140 (.iface 137 x) .nilIface).run Tryz.prog w = .ok (.bool false) w := by kernel_rfl
theorem eql_x (x : Value) (w : World) : (binOp .eql 140 (.iface 143 x) .nilIface).run Tryz.prog w = .ok (.bool false) w := by kernel_rfl
theorem eql_n (w : World) : (binOp .eql 140 .nilIface .nilIface).run Tryz.prog w = .ok (.bool true) w := by kernel_rfl
theorem neq_c (x : Value) (w : World) : (binOp .neq 140 (.iface 137 x) .nilIface).run Tryz.prog w = .ok (.bool true) w := by kernel_rfl
theorem neq_x (x : Value) (w : World) : (binOp .neq 140 (.iface 143 x) .nilIface).run Tryz.prog w = .ok (.bool true) w := by kernel_rfl
theorem neq_n (w : World) : (binOp .neq 140 .nilIface .nilIface).run Tryz.prog w = .ok (.bool false) w := by kernel_rfl

theorem P32_lt : P32 < Num.M64 := by decide
theorem P32_lt32 : P32 < Num.M32 := by decide
theorem P64_lt : P64 < Num.M64 := by decide
theorem c32_lt (bs : List UInt8) : Crc.add P32 (Num.M32 - 1) bs < Num.M64 := Nat.lt_of_lt_of_le (Crc.add_lt32 P32_lt32 bs _ (by decide)) (by decide)
theorem c64_lt (bs : List UInt8) : Crc.add P64 (Num.M64 - 1) bs < Num.M64 := Crc.add_lt P64_lt bs _ (by decide)

theorem value_any (s : Nat) (own : Nat → Prop) (kind : Int) (all : List UInt8) (w : World) (h : SumAt w s own kind all) (hlen : all.length ≤ 140737488355328) :
    Calls Tryz.prog 101 #[.pointer (some ⟨s, 0, none⟩)] w fun e w' => e = .returned (.int .u64 (sumOf kind all)) ∧ ∃ d, w' = w.drewN d := by
  have q1 := eql_c
  have q2 := eql_x
  have q3 := eql_n
  cases h with
  | crc32 c hk hs hc ho hne =>
    have h0 : w.cell? ⟨s, 0, none⟩ = some (.iface 137 (.pointer (some ⟨c, 0, none⟩))) := by rw [hs.cell]; rfl
    have hm := meth_cv
    have HC := Lib.hid hc
    have HK := Lib.hid hk
    clear hk hs hc ho hne
    go_enter Tryz.func101, Tryz.ntmps101
    go_wp2_with (go_at_call 174; refine (crcValue_any _ _ _ _ _ HC.out (c32_lt all) (by decide)).mono ?_; rintro e w' ⟨rfl, d, rfl⟩)
    go_ret
    exact ⟨ret_int (by rw [HK.out, sumOf_1]), _, rfl⟩
  | crc64 c hk hs hc ho hne =>
    have h0 : w.cell? ⟨s, 0, none⟩ = some (.iface 137 (.pointer (some ⟨c, 0, none⟩))) := by rw [hs.cell]; rfl
    have hm := meth_cv
    have HC := Lib.hid hc
    have HK := Lib.hid hk
    clear hk hs hc ho hne
    go_enter Tryz.func101, Tryz.ntmps101
    go_wp2_with (go_at_call 174; refine (crcValue_any _ _ _ _ _ HC.out (c64_lt all) (by decide)).mono ?_; rintro e w' ⟨rfl, d, rfl⟩)
    go_ret
    exact ⟨ret_int (by rw [HK.out, sumOf_2]), _, rfl⟩
  | xxh64 c v hk hs hc ho hne =>
    have h0 : w.cell? ⟨s, 0, none⟩ = some (.iface 143 (.pointer (some ⟨c, 0, none⟩))) := by rw [hs.cell]; rfl
    have hm := meth_xv
    have HC := Lib.hid hc
    have HK := Lib.hid hk
    clear hk hs hc ho hne
    go_enter Tryz.func101, Tryz.ntmps101
    go_wp2_with (go_at_call 176; refine (xxhValue_any _ _ _ _ HC.out hlen).mono ?_; rintro e w' ⟨rfl, d, rfl⟩)
    go_ret
    exact ⟨ret_int (by rw [HK.out, sumOf_3]), _, rfl⟩
  | none hk hs ho =>
    have h0 : w.cell? ⟨s, 0, none⟩ = some .nilIface := by rw [hs.cell]; rfl
    have HK := Lib.hid hk
    clear hk hs ho
    go_enter Tryz.func101, Tryz.ntmps101
    go_wp2
    go_ret
    exact ⟨ret_int (by obtain ⟨a, b, c⟩ := HK.out; unfold sumOf; rw [if_neg a, if_neg b, if_neg c]), 0, rfl⟩

theorem add_off (s : Nat) (own : Nat → Prop) (kind : Int) (all : List UInt8) (A : Option Addr) (bs : List UInt8) (n c B : Nat) (w : World) (h : SumAt w s own kind all) (hn : n = bs.length) (hr : BRow w B A bs) (hoff : BOff own A bs) (hlen : all.length + bs.length ≤ 140737488355328) :
    Calls Tryz.prog 100 #[.pointer (some ⟨s, 0, none⟩), .slice A n c] w fun e w' => e = .returned (.tuple #[]) ∧ ∃ own', SumAt w' s own' kind (all ++ bs) ∧ (∀ k, own' k → own k ∨ w.heap.size ≤ k) ∧ Frm own w w' := by
  subst hn
  have q1 := neq_c
  have q2 := neq_x
  have q3 := neq_n
  have HB := Lib.hid hoff
  have HR := Lib.hid hr
  clear hoff hr
  cases h with
  | crc32 b hk hs hc ho hne =>
    have h0 : w.cell? ⟨s, 0, none⟩ = some (.iface 137 (.pointer (some ⟨b, 0, none⟩))) := by rw [hs.cell]; rfl
    have hm := meth_ca
    have HC := Lib.hid hc
    have HK := Lib.hid hk
    have HO := Lib.hid ho
    have HS := Lib.hid hs
    have HN := Lib.hid hne
    clear hk hs hc ho hne
    go_enter Tryz.func100, Tryz.ntmps100
    go_wp2_with (go_at_call 173; refine (crcAdd_off _ _ _ _ B _ _ bs _ HC.out P32_lt (c32_lt all) HR.out (fun h0 ad e e2 => HB.out h0 ad e ((HO.out _).2 (.inr e2))) (by omega)).mono ?_; rintro e w' ⟨rfl, h1, h2⟩)
    go_end0
    refine ⟨rfl, own, .crc32 b HK.out (Pts.frm HS.out h2 HN.out) (by rw [Crc.add_append]; exact h1) HO.out HN.out, fun k hk => .inl hk, h2.mono fun k _ hk => (HO.out k).2 (.inr hk)⟩
  | crc64 b hk hs hc ho hne =>
    have h0 : w.cell? ⟨s, 0, none⟩ = some (.iface 137 (.pointer (some ⟨b, 0, none⟩))) := by rw [hs.cell]; rfl
    have hm := meth_ca
    have HC := Lib.hid hc
    have HK := Lib.hid hk
    have HO := Lib.hid ho
    have HS := Lib.hid hs
    have HN := Lib.hid hne
    clear hk hs hc ho hne
    go_enter Tryz.func100, Tryz.ntmps100
    go_wp2_with (go_at_call 173; refine (crcAdd_off _ _ _ _ B _ _ bs _ HC.out P64_lt (c64_lt all) HR.out (fun h0 ad e e2 => HB.out h0 ad e ((HO.out _).2 (.inr e2))) (by omega)).mono ?_; rintro e w' ⟨rfl, h1, h2⟩)
    go_end0
    refine ⟨rfl, own, .crc64 b HK.out (Pts.frm HS.out h2 HN.out) (by rw [Crc.add_append]; exact h1) HO.out HN.out, fun k hk => .inl hk, h2.mono fun k _ hk => (HO.out k).2 (.inr hk)⟩
  | xxh64 b v hk hs hc ho hne =>
    have h0 : w.cell? ⟨s, 0, none⟩ = some (.iface 143 (.pointer (some ⟨b, 0, none⟩))) := by rw [hs.cell]; rfl
    have hm := meth_xa
    have HC := Lib.hid hc
    have HK := Lib.hid hk
    have HO := Lib.hid ho
    have HS := Lib.hid hs
    have HN := Lib.hid hne
    clear hk hs hc ho hne
    go_enter Tryz.func100, Tryz.ntmps100
    go_wp2_with (go_at_call 175; refine (xxhAdd_off _ _ all _ bs _ B _ HC.out HR.out (fun h0 ad e e2 => HB.out h0 ad e ((HO.out _).2 (.inr (.inl e2)))) hlen).mono ?_; rintro e w' ⟨rfl, v', h1, h2, h3⟩)
    go_end0
    refine ⟨rfl, fun k => k = s ∨ k = b ∨ v'.ownBlock = some k, .xxh64 b v' HK.out (Pts.frm HS.out h3 (by rintro (e | e); exact HN.out.1 e; exact HN.out.2 e)) h1 (fun _ => Iff.rfl) ⟨HN.out.1, fun e => ?_⟩, fun k hk => ?_, h3.mono fun k _ hk => (HO.out k).2 (.inr hk)⟩
    · rcases h2 s e with h | h
      · exact HN.out.2 h
      · have := HS.out.lt; omega
    · rcases hk with e | e | e
      · exact .inl ((HO.out k).2 (.inl e))
      · exact .inl ((HO.out k).2 (.inr (.inl e)))
      · rcases h2 k e with h | h
        · exact .inl ((HO.out k).2 (.inr (.inr h)))
        · exact .inr h
  | none hk hs ho =>
    have h0 : w.cell? ⟨s, 0, none⟩ = some .nilIface := by rw [hs.cell]; rfl
    have HK := Lib.hid hk
    have HO := Lib.hid ho
    have HS := Lib.hid hs
    clear hk hs ho
    go_enter Tryz.func100, Tryz.ntmps100
    go_wp2
    go_end0
    exact ⟨rfl, own, .none HK.out HS.out HO.out, fun k hk => .inl hk, Frm.refl _ _⟩
theorem add_any (s : Nat) (own : Nat → Prop) (kind : Int) (all : List UInt8) (A : Option Addr) (bs : List UInt8) (n c B : Nat) (w : World) (h : SumAt w s own kind all) (hn : n = bs.length) (hr : BRow w B A bs) (hB : ∀ k, own k → B ≤ k) (hlen : all.length + bs.length ≤ 140737488355328) :
    Calls Tryz.prog 100 #[.pointer (some ⟨s, 0, none⟩), .slice A n c] w fun e w' => e = .returned (.tuple #[]) ∧ ∃ own', SumAt w' s own' kind (all ++ bs) ∧ (∀ k, own' k → own k ∨ w.heap.size ≤ k) ∧ Frm own w w' :=
  add_off s own kind all A bs n c B w h hn hr (BOff.of_row hr hB) hlen
end Go.Proofs.YtgahfpflhhfhfaaGreat

/- New; the sums of bytes at one stroke; the reference's number of a kind; what the document says of a few bytes. -/
namespace Go.Proofs.YtgahfpflhhfhfaaGreat
open Go.RowKit

theorem new_any (kind : Int) (w : World) :
    Calls Tryz.prog 68 #[.int .i64 kind] w fun e w' => ∃ s own, e = .returned (.pointer (some ⟨s, 0, none⟩)) ∧ SumAt w' s own kind [] ∧ (∀ k, own k → w.heap.size ≤ k) ∧ Below w.heap.size w w' := by
  by_cases h1 : kind = 1
  · subst h1
    go_enter Tryz.func68, Tryz.ntmps68
    go_wp2_with (go_at_call 80; refine (newCRC_any _ _ P32 (by rfl) P32_lt _).mono ?_; rintro e w1 ⟨rfl, h1, h2⟩)
    go_ret
    have hc : w.heap.size < w1.heap.size := h1.lt
    refine ⟨w1.heap.size, fun k => k = w1.heap.size ∨ k = w.heap.size, rfl, .crc32 w.heap.size rfl (Pts.new _ _ _) (Pts.alloc h1 _) (fun _ => Iff.rfl) (by omega), ?_, h2.alloc h2.size _⟩
    rintro k (rfl | rfl)
    · omega
    · omega
  by_cases h2 : kind = 2
  · subst h2
    go_enter Tryz.func68, Tryz.ntmps68
    go_wp2_with (go_at_call 80; refine (newCRC_any _ _ P64 (by rfl) P64_lt _).mono ?_; rintro e w1 ⟨rfl, h1, h2⟩)
    go_ret
    have hc : w.heap.size < w1.heap.size := h1.lt
    refine ⟨w1.heap.size, fun k => k = w1.heap.size ∨ k = w.heap.size, rfl, .crc64 w.heap.size rfl (Pts.new _ _ _) (Pts.alloc h1 _) (fun _ => Iff.rfl) (by omega), ?_, h2.alloc h2.size _⟩
    rintro k (rfl | rfl)
    · omega
    · omega
  by_cases h3 : kind = 3
  · subst h3
    go_enter Tryz.func68, Tryz.ntmps68
    go_wp2_with (go_at_call 81; refine (newXXH_any _).mono ?_; rintro e w1 ⟨rfl, h1, h2⟩)
    go_ret
    have hc : w.heap.size < w1.heap.size := h1.1.lt
    refine ⟨w1.heap.size, fun k => k = w1.heap.size ∨ k = w.heap.size ∨ (Value.slice none 0 0).ownBlock = some k, rfl, .xxh64 w.heap.size (.slice none 0 0) rfl (Pts.new _ _ _) ⟨Pts.alloc h1.1 _, OwnB.nil _ _ _⟩ (fun _ => Iff.rfl) ⟨by omega, by simp [Value.ownBlock]⟩, ?_, h2.alloc h2.size _⟩
    rintro k (rfl | rfl | h)
    · omega
    · omega
    · simp [Value.ownBlock] at h
  · have e1 : (kind == 1) = false := by simpa using h1
    have e2 : (kind == 2) = false := by simpa using h2
    have e3 : (kind == 3) = false := by simpa using h3
    have HK := Lib.hid (show kind ≠ 1 ∧ kind ≠ 2 ∧ kind ≠ 3 from ⟨h1, h2, h3⟩)
    clear h1 h2 h3
    go_enter Tryz.func68, Tryz.ntmps68
    go_wp2
    go_ret
    exact ⟨w.heap.size, fun k => k = w.heap.size, rfl, .none HK.out (Pts.new _ _ _) (fun _ => Iff.rfl), fun k hk => by omega, (Below.refl _ _).alloc (Nat.le_refl _) _⟩

theorem of_any (kind : Int) (A : Option Addr) (bs : List UInt8) (n c : Nat) (w : World) (hn : n = bs.length) (hr : BRow w w.heap.size A bs) (hlen : bs.length ≤ 140737488355328) :
    Calls Tryz.prog 86 #[.int .i64 kind, .slice A n c] w fun e w' => e = .returned (.int .u64 (sumOf kind bs)) ∧ Below w.heap.size w w' := by
  subst hn
  have HR := Lib.hid hr
  clear hr
  go_enter Tryz.func86, Tryz.ntmps86
  go_wp2_with fail
  refine (new_any _ _).mono ?_; rintro e w1 ⟨s, own, rfl, h1, h2, h3⟩
  go_wp2_with fail
  refine (add_any s own kind [] A bs bs.length c w.heap.size _ h1 rfl (HR.out.below h3) h2 (by simpa using hlen)).mono ?_; rintro e w2 ⟨rfl, own', h4, h5, h6⟩
  have h7 := h6.below (B := w.heap.size) h3.size h2
  go_wp2_with fail
  refine (value_any s own' kind ([] ++ bs) _ h4 (by simpa using hlen)).mono ?_; rintro e w3 ⟨rfl, d, rfl⟩
  go_wp2
  go_ret
  exact ⟨rfl, below_drewN (h3.trans h7) d⟩

theorem c32_lt32 (bs : List UInt8) : crc32 bs < Num.M32 := Num.xor_lt32 (Crc.add_lt32 P32_lt32 bs _ (by decide)) (by decide)
theorem c64_lt64 (bs : List UInt8) : crc64 bs < Num.M64 := Num.xor_lt64 (c64_lt bs) (by decide)

theorem crc32_any (A : Option Addr) (bs : List UInt8) (n c : Nat) (w : World) (hn : n = bs.length) (hr : BRow w w.heap.size A bs) (hlen : bs.length ≤ 140737488355328) :
    Calls Tryz.prog 74 #[.slice A n c] w fun e w' => e = .returned (.int .u32 (crc32 bs : Int)) ∧ Below w.heap.size w w' := by
  have h32 : IntKind.u32.wrap (sumOf 1 bs) = (crc32 bs : Int) := by
    rw [show sumOf 1 bs = (crc32 bs : Int) from sumOf_1 bs, Num.wrap32, Nat.mod_eq_of_lt (c32_lt32 bs)]
  have H32 := Lib.hid h32
  subst hn
  have HR := Lib.hid hr
  clear hr h32
  go_enter Tryz.func74, Tryz.ntmps74
  go_wp2_with fail
  refine (of_any _ A bs bs.length c _ rfl HR.out hlen).mono ?_; rintro e w2 ⟨rfl, h4⟩
  go_wp2
  go_ret
  exact ⟨ret_int H32.out, h4⟩
theorem rcrc32_any' (A : Option Addr) (bs : List UInt8) (n c B : Nat) (w : World) (hn : n = bs.length) (hr : BRow w B A bs) (hlen : bs.length ≤ 140737488355328) :
    Calls Tryz.prog 52 #[.slice A n c] w fun e w' => e = .returned (.int .u32 (crc32 bs : Int)) ∧ w = w' := rcrc32_any A bs c n B w hn hr hlen
theorem rcrc64_any' (A : Option Addr) (bs : List UInt8) (n c B : Nat) (w : World) (hn : n = bs.length) (hr : BRow w B A bs) (hlen : bs.length ≤ 140737488355328) :
    Calls Tryz.prog 54 #[.slice A n c] w fun e w' => e = .returned (.int .u64 (crc64 bs : Int)) ∧ w = w' := rcrc64_any A bs c n B w hn hr hlen

end Go.Proofs.YtgahfpflhhfhfaaGreat

/- xz's reader in memory; a check's sum; a unit that is taken: the walks. -/
namespace Go.Proofs.YtgahfpflhhfhfaaGreat
open Go.RowKit
set_option linter.unusedVariables false
set_option linter.unusedSimpArgs false
/-- A reader of a member at block rb, over the source at block fb. -/
def RxAt (w : World) (rb fb bud : Nat) (put hold : Value) (kind : Int) (told : Nat) (lv : Value) : Prop :=
  Pts w rb #[.pointer (some ⟨fb, 0, none⟩), .int .i64 bud, put, hold, .int .i64 kind, .int .i64 told, lv] 62
theorem RxAt.cells {w : World} {rb fb bud : Nat} {put hold : Value} {kind : Int} {told : Nat} {lv : Value} (h : RxAt w rb fb bud put hold kind told lv) :
    w.cell? ⟨rb, 0, none⟩ = some (.pointer (some ⟨fb, 0, none⟩)) ∧ w.cell? ⟨rb, 1, none⟩ = some (.int .i64 bud) ∧ w.cell? ⟨rb, 2, none⟩ = some put ∧ w.cell? ⟨rb, 3, none⟩ = some hold ∧ w.cell? ⟨rb, 4, none⟩ = some (.int .i64 kind) ∧ w.cell? ⟨rb, 5, none⟩ = some (.int .i64 told) ∧ w.cell? ⟨rb, 6, none⟩ = some lv :=
  ⟨by rw [Pts.cell h]; rfl, by rw [Pts.cell h]; rfl, by rw [Pts.cell h]; rfl, by rw [Pts.cell h]; rfl, by rw [Pts.cell h]; rfl, by rw [Pts.cell h]; rfl, by rw [Pts.cell h]; rfl⟩
set_option maxHeartbeats 1000000 in
theorem rtake_p (rb fb bud : Nat) (put hold : Value) (kind : Int) (told : Nat) (lv : Value) (A : Option Addr) (n c used m : Nat) (w : World) (hr : RxAt w rb fb bud put hold kind told lv) (h : SrcAt w fb A n c used) (hc : n ≤ c) (hm : m ≤ n) (hu : used + m ≤ 9223372036854775807) :
    Calls Tryz.prog 29 #[.pointer (some ⟨rb, 0, none⟩), .int .i64 m] w fun e w' => e = .returned (.tuple #[.slice A m m, .int .i64 0]) ∧ SrcAt w' fb (takeA A c m) (n - m) (c - m) (used + m) ∧ Frm (· = fb) w w' := by
  have HT := Lib.hid (take_p fb A n c used m w h hc hm hu)
  have c0 := hr.cells.1
  clear hr h hc hm hu
  go_enter Tryz.func29, Tryz.ntmps29
  go_wp2_with fail
  refine HT.out.mono ?_; rintro e w1 ⟨rfl, h1, h2⟩
  have H1 := Lib.hid (And.intro h1 h2)
  clear HT h1 h2
  go_wp2
  go_ret2
  exact ⟨rfl, H1.out.1, H1.out.2⟩
set_option maxHeartbeats 1000000 in
theorem rtake_no (rb fb bud : Nat) (put hold : Value) (kind : Int) (told : Nat) (lv : Value) (A : Option Addr) (n c used m : Nat) (w : World) (hr : RxAt w rb fb bud put hold kind told lv) (h : SrcAt w fb A n c used) (hm : n < m) :
    Calls Tryz.prog 29 #[.pointer (some ⟨rb, 0, none⟩), .int .i64 m] w fun e w' => e = .returned (.tuple #[.slice none 0 0, .int .i64 10]) ∧ w = w' := by
  have HT := Lib.hid (take_no fb A n c used m w h hm)
  have c0 := hr.cells.1
  clear hr h hm
  go_enter Tryz.func29, Tryz.ntmps29
  go_wp2_with fail
  refine HT.out.mono ?_; rintro e w1 ⟨rfl, h1⟩
  subst h1
  clear HT
  go_wp2
  go_ret2
  exact ⟨rfl, rfl⟩
/-- The sum of a check. -/
def chkK (k : Int) : Int := if k = 1 then 1 else if k = 4 then 2 else 0
def chkN (k : Int) : Nat := if k = 1 then 4 else if k = 4 then 8 else 0
set_option maxHeartbeats 1000000 in
theorem check_p (kind : Int) (w : World) :
    Calls Tryz.prog 55 #[.int .i64 kind] w fun e w' => ∃ s own, e = .returned (.tuple #[.iface 111 (.pointer (some ⟨s, 0, none⟩)), .int .i64 (chkN kind)]) ∧ SumAt w' s own (chkK kind) [] ∧ (∀ k, own k → w.heap.size ≤ k) ∧ Below w.heap.size w w' := by
  by_cases h1 : kind = 1
  · subst h1
    have HN := Lib.hid (new_any 1 w)
    go_enter Tryz.func55, Tryz.ntmps55
    go_wp2_with fail
    refine HN.out.mono ?_; rintro e w1 ⟨s, own, rfl, h1, h2, h3⟩
    have H1 := Lib.hid (And.intro h1 (And.intro h2 h3))
    clear HN h1 h2 h3
    go_wp2
    go_ret2
    exact ⟨s, own, rfl, H1.out.1, H1.out.2.1, H1.out.2.2⟩
  by_cases h4 : kind = 4
  · subst h4
    have HN := Lib.hid (new_any 2 w)
    go_enter Tryz.func55, Tryz.ntmps55
    go_wp2_with fail
    refine HN.out.mono ?_; rintro e w1 ⟨s, own, rfl, h1, h2, h3⟩
    have H1 := Lib.hid (And.intro h1 (And.intro h2 h3))
    clear HN h1 h2 h3
    go_wp2
    go_ret2
    exact ⟨s, own, rfl, H1.out.1, H1.out.2.1, H1.out.2.2⟩
  · have e1 : (kind == 1) = false := by simpa using h1
    have e4 : (kind == 4) = false := by simpa using h4
    have k1 : chkK kind = 0 := by unfold chkK; rw [if_neg h1, if_neg h4]
    have k2 : chkN kind = 0 := by unfold chkN; rw [if_neg h1, if_neg h4]
    rw [k1, k2]
    have HN := Lib.hid (new_any 0 w)
    clear h1 h4 k1 k2
    go_enter Tryz.func55, Tryz.ntmps55
    go_wp2_with fail
    refine HN.out.mono ?_; rintro e w1 ⟨s, own, rfl, h1, h2, h3⟩
    have H1 := Lib.hid (And.intro h1 (And.intro h2 h3))
    clear HN h1 h2 h3
    go_wp2
    go_ret2
    exact ⟨s, own, rfl, H1.out.1, H1.out.2.1, H1.out.2.2⟩
end Go.Proofs.YtgahfpflhhfhfaaGreat

/- What a cursor gives up by, and who catches it. -/
namespace Go.Proofs.YtgahfpflhhfhfaaGreat
open Go.RowKit
set_option linter.unusedVariables false
set_option linter.unusedSimpArgs false
theorem must_ok (c : Value) (e : Int) (w : World) : Calls Tryz.prog 42 #[c, .bool true, .int .i64 e] w fun r w' => r = .returned (.tuple #[]) ∧ w = w' := by
  go_enter Tryz.func42, Tryz.ntmps42
  go_wp2
  go_end0
  exact ⟨rfl, rfl⟩
theorem must_bad (c : Value) (e : Int) (w : World) : Calls Tryz.prog 42 #[c, .bool false, .int .i64 e] w fun r w' => r = .panicked [{ v := .iface 107 (.agg #[.int .i64 e]), recovered := false }] ∧ w = w' := by
  go_enter Tryz.func42, Tryz.ntmps42
  go_wp2
  exact ⟨rfl, rfl, rfl⟩
theorem assert_wrong (V : Value) (w : World) : (Instr.typeAssert (.iface 107 V) 20 107 true).run Tryz.prog w = .ok (.tuple #[V, .bool true]) w := by kernel_rfl
theorem catch_panicking (b : Nat) (x x0 : Int) (older : List PanicEntry) (w : World) (hp : Pts w b #[.int .i64 x0] 24) :
    CallsD Tryz.prog 40 #[.pointer (some ⟨b, 0, none⟩)] (.panicking ({ v := .iface 107 (.agg #[.int .i64 x]), recovered := false } :: older)) w fun e u' w' =>
      e = .returned (.tuple #[]) ∧ u' = .panicking ({ v := .iface 107 (.agg #[.int .i64 x]), recovered := true } :: older) ∧ Pts w' b #[.int .i64 x] 24 ∧ Frm (· = b) w w' := by
  refine callsD_of_wpS Tryz.func40 rfl fun c₀ cs hu => ?_
  apply wpS_seq
  apply wpS_region
  simp [wpOpsS, go_sem, recoverD, hu, Tryz.ntmps40, Exit.thenS]
  refine wpS_of_wp ?_
  show Code.wp _ _ _ { tmps := #[.pointer (some ⟨b, 0, none⟩), undef, undef, undef, undef, .iface 107 (.agg #[.int .i64 x]), undef, undef, undef, undef, undef, undef, undef, undef, undef], defers := [] } w
  have hta := assert_wrong (.agg #[.int .i64 x])
  have hc := (hp.alloc (.cells #[.int .i64 x] 107)).cell 0
  have hz := (hp.alloc (.cells #[.int .i64 x] 107)).frozen 0
  have hr := (hp.alloc (.cells #[.int .i64 x] 107)).set 0 (.int .i64 x)
  have hf : Frm (· = b) w ((w.alloc (.cells #[.int .i64 x] 107)).setCell ⟨b, 0, none⟩ (.int .i64 x)) := ((Frm.refl _ w).alloc _).setCell (by rfl) _
  have HR := Lib.hid hr
  have HF := Lib.hid hf
  clear hr hf hp
  go_wp2
  refine ⟨rfl, _, rfl, _, results_none rfl _ _ _, rfl, rfl, HR.out, HF.out⟩
theorem catch_idle (v : Value) (w : World) : CallsD Tryz.prog 40 #[v] .returning w fun e u' w' => e = .returned (.tuple #[]) ∧ u' = .returning ∧ w' = w := by
  refine callsD_of_wpS Tryz.func40 rfl fun c₀ cs hu => ?_
  apply wpS_seq
  apply wpS_region
  simp [wpOpsS, go_sem, recoverD, hu, Tryz.ntmps40, Exit.thenS]
  refine wpS_of_wp ?_
  show Code.wp _ _ _ { tmps := #[v, undef, undef, undef, undef, .nilIface, undef, undef, undef, undef, undef, undef, undef, undef, undef], defers := [] } w
  go_wp2
  refine ⟨rfl, .returning, by cases c₀; simp at hu; subst hu; rfl, _, results_none rfl _ _ _, rfl, rfl, rfl⟩
theorem slice_fromX (A : Option Addr) (n c f : Nat) (hf : f ≤ n) (hn : n ≤ c) (w : World) :
    (Instr.sliceAt 22 (.slice A n c) (some (.int .i64 (f : Int))) none none).run Tryz.prog w = .ok (.slice (if c = f then A else A.map (·.add f)) (n - f) (c - f)) w := by
  by_cases hcf : c = f
  · simp [go_sem, hcf]
    intro h; omega
  · simp [go_sem, hcf]
    intro h; omega
theorem slice_toX (A : Option Addr) (n c m : Nat) (hf : m ≤ n) (hn : n ≤ c) (w : World) :
    (Instr.sliceAt 22 (.slice A n c) none (some (.int .i64 (m : Int))) none).run Tryz.prog w = .ok (.slice A m c) w := by
  by_cases hcf : c = 0
  · simp [go_sem, hcf]
    intro h; omega
  · simp [go_sem, hcf]
    intro h; omega
/-- A cursor at block cb: what it has still, how many bytes it took. -/
def CurAt (w : World) (cb B : Nat) (bs : List UInt8) (u : Nat) : Prop :=
  ∃ A c, Pts w cb #[.slice A bs.length c, .int .i64 (u : Int)] 77 ∧ BRow w B A bs ∧ bs.length ≤ c ∧ c ≤ maxLen ∧ B ≤ cb
theorem BRow.frm {S : Nat → Prop} {w w' : World} {B : Nat} {A : Option Addr} {bs : List UInt8} (h : BRow w B A bs) (hf : Frm S w w') (hB : B ≤ w.heap.size) (hS : ∀ k, S k → B ≤ k) : BRow w' B A bs := h.below (hf.below hB hS)
theorem CurAt.lt {w : World} {cb B u : Nat} {bs : List UInt8} (h : CurAt w cb B bs u) : cb < w.heap.size ∧ B ≤ cb := by
  obtain ⟨A, c, hp, _, _, _, h2⟩ := h
  exact ⟨hp.lt, h2⟩
theorem CurAt.frm {S : Nat → Prop} {w w' : World} {cb B u : Nat} {bs : List UInt8} (h : CurAt w cb B bs u) (hf : Frm S w w') (h1 : ¬ S cb) (hS : ∀ k, S k → B ≤ k) : CurAt w' cb B bs u := by
  have hl := h.lt
  obtain ⟨A, c, hp, hr, h3, h4, h5⟩ := h
  exact ⟨A, c, hp.frm hf h1, hr.frm hf (by omega) hS, h3, h4, h5⟩
set_option maxRecDepth 100000 in
theorem take_ok (cb B n u : Nat) (e : Int) (bs : List UInt8) (w : World) (h : CurAt w cb B bs u) (hn : n ≤ bs.length) (hu : u + n < 4611686018427387904) :
    Calls Tryz.prog 41 #[.pointer (some ⟨cb, 0, none⟩), .int .i64 (n : Int), .int .i64 e] w fun r w' => ∃ A c, r = .returned (.slice A n c) ∧ BRow w' B A (bs.take n) ∧ n ≤ c ∧ c ≤ maxLen ∧ CurAt w' cb B (bs.drop n) (u + n) ∧ Frm (· = cb) w w' := by
  have hl := h.lt
  obtain ⟨A, c, hp, hr, hc, hm, hB⟩ := h
  have hnc : n ≤ c := Nat.le_trans hn hc
  have hs1 := fun w => slice_toX A bs.length c n hn hc w
  have hs2 := fun w => slice_fromX A bs.length c n hn hc w
  obtain ⟨A', hA'⟩ : ∃ A', (if c = n then A else A.map (·.add n)) = A' := ⟨_, rfl⟩
  have hrd := hr.drop (k := n) (cap := c) hc
  rw [hA'] at hrd
  simp only [hA'] at hs2
  have hrt := hr.take n
  have hcm : c - n ≤ maxLen := by omega
  have c0 : w.cell? ⟨cb, 0, none⟩ = some (.slice A bs.length c) := hp.cell 0
  have z0 := hp.frozen 0
  have c1 : w.cell? ⟨cb, 1, none⟩ = some (.int .i64 (u : Int)) := hp.cell 1
  have z1 := hp.frozen 1
  have hp2 := (hp.set 0 (.slice A' (bs.length - n) (c - n))).set 1 (.int .i64 ((u : Int) + (n : Int)))
  have hf2 : Frm (· = cb) w ((w.setCell ⟨cb, 0, none⟩ (.slice A' (bs.length - n) (c - n))).setCell ⟨cb, 1, none⟩ (.int .i64 ((u : Int) + (n : Int)))) := ((Frm.refl _ w).setCell (by rfl) _).setCell (by rfl) _
  have HF2 := Lib.hid hf2
  have HP2 := Lib.hid hp2
  have HRD := Lib.hid hrd
  have HRT := Lib.hid hrt
  have hbn : (decide ((n : Int) ≤ (bs.length : Int))) = true := by simp; omega
  have hcn : bs.length - n ≤ c - n := by omega
  have HM := Lib.hid hm
  have HCM := Lib.hid hcm
  clear hf2 hp2 hrd hrt hp hr hA' hm hcm
  go_enter Tryz.func41, Tryz.ntmps41
  go_wp2_with fail
  refine (must_ok _ _ _).mono ?_; rintro r w1 ⟨rfl, rfl⟩
  go_wp2
  go_ret
  refine ⟨A, c, rfl, HRT.out.frm HF2.out (by omega) (fun k hk => by omega), hnc, HM.out, ⟨A', c - n, ?_, HRD.out.frm HF2.out (by omega) (fun k hk => by omega), by rw [List.length_drop]; omega, HCM.out, hB⟩, HF2.out⟩
  rw [List.length_drop]
  exact HP2.out
theorem take_bad (cb B n u : Nat) (e : Int) (bs : List UInt8) (w : World) (h : CurAt w cb B bs u) (hn : bs.length < n) :
    Calls Tryz.prog 41 #[.pointer (some ⟨cb, 0, none⟩), .int .i64 (n : Int), .int .i64 e] w fun r w' => r = .panicked [{ v := .iface 107 (.agg #[.int .i64 e]), recovered := false }] ∧ w = w' := by
  obtain ⟨A, c, hp, hr, hc, hm, hB⟩ := h
  have c0 : w.cell? ⟨cb, 0, none⟩ = some (.slice A bs.length c) := hp.cell 0
  have hbn : decide (n ≤ bs.length) = false := by simp; omega
  clear hp hr hm
  go_enter Tryz.func41, Tryz.ntmps41
  go_wp2_with fail
  refine (must_bad _ _ _).mono ?_; rintro r w1 ⟨rfl, rfl⟩
  go_wp2
  exact ⟨rfl, rfl, rfl⟩
end Go.Proofs.YtgahfpflhhfhfaaGreat

/- Numbers of an xz file, in plain Lean. -/
namespace Go.Proofs.YtgahfpflhhfhfaaGreat.Box
open Go.RowKit
set_option linter.unusedVariables false
set_option linter.unusedSimpArgs false
/-- A number in bytes, i of which were read, n told so far: it, how many bytes, the error. -/
def scan (i n : Nat) : List UInt8 → Nat × Nat × Int
  | [] => (0, 0, 10)
  | c :: r =>
    if (i = 8 ∧ 128 ≤ c.toNat) ∨ (0 < i ∧ c.toNat = 0) then (0, 0, 11)
    else if c.toNat < 128 then (n + c.toNat * 2 ^ (7 * i), i + 1, 0)
    else scan (i + 1) (n + c.toNat % 128 * 2 ^ (7 * i)) r
def number (bs : List UInt8) : Nat × Nat × Int := scan 0 0 bs
/-- A number's bytes. -/
def putGo : Nat → Nat → List UInt8
  | 0, n => [UInt8.ofNat n]
  | f + 1, n => if n < 128 then [UInt8.ofNat n] else UInt8.ofNat (n % 128 + 128) :: putGo f (n / 128)
def put (n : Nat) : List UInt8 := putGo 8 n
theorem ofNat_toNat {n : Nat} (h : n < 256) : (UInt8.ofNat n).toNat = n := by rw [UInt8.toNat_ofNat']; exact Nat.mod_eq_of_lt h
theorem pow_step (i : Nat) : 2 ^ (7 * (i + 1)) = 2 ^ (7 * i) * 128 := by rw [Nat.mul_succ, Nat.pow_add]
/-- What is written is read. -/
theorem scan_put : ∀ (f i n m : Nat) (r : List UInt8), f + i = 8 → m < 2 ^ (7 * (9 - i)) → (0 < i → 0 < m) → scan i n (putGo f m ++ r) = (n + m * 2 ^ (7 * i), i + (putGo f m).length, 0)
  | 0, i, n, m, r, hf, hm, hz => by
    obtain rfl : i = 8 := by omega
    have hm2 : m < 128 := hm
    have hz2 := hz (by decide)
    show scan 8 n (UInt8.ofNat m :: r) = _
    unfold scan
    rw [ofNat_toNat (by omega), if_neg (by omega), if_pos hm2]
    rfl
  | f + 1, i, n, m, r, hf, hm, hz => by
    unfold putGo
    by_cases h : m < 128
    · rw [if_pos h]
      show scan i n (UInt8.ofNat m :: r) = _
      unfold scan
      rw [ofNat_toNat (by omega), if_neg (by have := hz; omega), if_pos h]
      rfl
    · rw [if_neg h]
      show scan i n (UInt8.ofNat (m % 128 + 128) :: (putGo f (m / 128) ++ r)) = _
      unfold scan
      have e1 : (m % 128 + 128) % 128 = m % 128 := by omega
      have hp : 2 ^ (7 * (9 - i)) = 2 ^ (7 * (9 - (i + 1))) * 128 := by rw [show 9 - i = 9 - (i + 1) + 1 by omega, pow_step]
      rw [hp] at hm
      have hq : m / 128 < 2 ^ (7 * (9 - (i + 1))) := Nat.div_lt_of_lt_mul (by rw [Nat.mul_comm]; exact hm)
      rw [ofNat_toNat (by omega), if_neg (by omega), if_neg (by omega), e1, scan_put f (i + 1) _ (m / 128) r (by omega) hq (fun _ => by omega), pow_step]
      have hd := Nat.div_add_mod m 128
      generalize hA : m / 128 = A at *
      generalize hC : m % 128 = C at *
      have e2 : n + C * 2 ^ (7 * i) + A * (2 ^ (7 * i) * 128) = n + m * 2 ^ (7 * i) := by
        rw [← hd, Nat.add_mul, Nat.mul_assoc 128 A, Nat.mul_comm 128 (A * 2 ^ (7 * i)), Nat.mul_assoc A]
        omega
      rw [e2, List.length_cons]
      have e3 : i + 1 + (putGo f A).length = i + ((putGo f A).length + 1) := by omega
      rw [e3]
theorem number_put {n : Nat} (h : n < 9223372036854775808) (r : List UInt8) : number (put n ++ r) = (n, (put n).length, 0) := by
  have h1 := scan_put 8 0 0 n r rfl h (fun h => absurd h (by decide))
  unfold number put
  rw [h1]
  simp
/-- What is read is what would be written. -/
theorem scan_back : ∀ (bs : List UInt8) (i n y m : Nat), i ≤ 8 → scan i n bs = (y, m, 0) → ∃ v k, y = n + v * 2 ^ (7 * i) ∧ m = i + k ∧ 1 ≤ k ∧ k ≤ bs.length ∧ v < 2 ^ (7 * (9 - i)) ∧ putGo (8 - i) v = bs.take k ∧ (0 < i → 0 < v)
  | [], i, n, y, m, hi, h => by unfold scan at h; injection h with _ h; injection h with _ h; cases h
  | c :: r, i, n, y, m, hi, h => by
    unfold scan at h
    have hc := c.toNat_lt
    by_cases h1 : (i = 8 ∧ 128 ≤ c.toNat) ∨ (0 < i ∧ c.toNat = 0)
    · rw [if_pos h1] at h; injection h with _ h; injection h with _ h; cases h
    · rw [if_neg h1] at h
      by_cases h2 : c.toNat < 128
      · rw [if_pos h2] at h
        injection h with ha hb
        injection hb with hb _
        have hp : 128 ≤ 2 ^ (7 * (9 - i)) := by
          have : 2 ^ 7 ≤ 2 ^ (7 * (9 - i)) := Nat.pow_le_pow_right (by decide) (by omega)
          exact this
        refine ⟨c.toNat, 1, ha.symm, by omega, Nat.le_refl _, by simp, by omega, ?_, by omega⟩
        have e : UInt8.ofNat c.toNat = c := UInt8.ofNat_toNat
        cases hk : 8 - i with
        | zero => unfold putGo; rw [e]; rfl
        | succ k => unfold putGo; rw [if_pos h2, e]; rfl
      · rw [if_neg h2] at h
        have hi8 : i ≤ 7 := by omega
        obtain ⟨v, k, e1, e2, e3, e4, e5, e6, e7⟩ := scan_back r (i + 1) _ y m (by omega) h
        have hv := e7 (by omega)
        have hp : 2 ^ (7 * (9 - i)) = 2 ^ (7 * (9 - (i + 1))) * 128 := by rw [show 9 - i = 9 - (i + 1) + 1 by omega, pow_step]
        refine ⟨v * 128 + c.toNat % 128, k + 1, ?_, by omega, by omega, by simp; omega, ?_, ?_, fun _ => by omega⟩
        · rw [e1, pow_step, Nat.add_mul, Nat.mul_assoc v, Nat.mul_comm 128 (2 ^ (7 * i))]
          omega
        · rw [hp]; omega
        · rw [show 8 - i = (8 - (i + 1)) + 1 by omega]
          unfold putGo
          rw [if_neg (by omega)]
          have q1 : (v * 128 + c.toNat % 128) % 128 + 128 = c.toNat := by omega
          have q2 : (v * 128 + c.toNat % 128) / 128 = v := by omega
          rw [q1, q2, e6, UInt8.ofNat_toNat]
          rfl
theorem number_back {bs : List UInt8} {y m : Nat} (h : number bs = (y, m, 0)) : y < 9223372036854775808 ∧ 1 ≤ m ∧ m ≤ bs.length ∧ put y = bs.take m := by
  obtain ⟨v, k, e1, e2, e3, e4, e5, e6, e7⟩ := scan_back bs 0 0 y m (by decide) h
  have ey : y = v := by simpa using e1
  have em : m = k := by omega
  subst ey; subst em
  exact ⟨e5, e3, e4, e6⟩
theorem scan_bad : ∀ (bs : List UInt8) (i n : Nat), (scan i n bs).2.2 ≠ 0 → scan i n bs = (0, 0, 10) ∨ scan i n bs = (0, 0, 11)
  | [], i, n, h => .inl rfl
  | c :: r, i, n, h => by
    unfold scan at h ⊢
    by_cases h1 : (i = 8 ∧ 128 ≤ c.toNat) ∨ (0 < i ∧ c.toNat = 0)
    · rw [if_pos h1]; exact .inr rfl
    · rw [if_neg h1] at h ⊢
      by_cases h2 : c.toNat < 128
      · rw [if_pos h2] at h; exact absurd rfl h
      · rw [if_neg h2] at h ⊢
        exact scan_bad r _ _ h
theorem number_err (bs : List UInt8) : (number bs).2.2 = 0 ∨ number bs = (0, 0, 10) ∨ number bs = (0, 0, 11) := by
  by_cases h : (number bs).2.2 = 0
  · exact .inl h
  · exact .inr (scan_bad bs 0 0 h)
end Go.Proofs.YtgahfpflhhfhfaaGreat.Box

/- Numbers of an xz file: the walks. -/
namespace Go.Proofs.YtgahfpflhhfhfaaGreat
open Go.RowKit Box
set_option linter.unusedVariables false
set_option linter.unusedSimpArgs false
def errOf (t : Nat × Nat × Int) : Value := .tuple #[.int .u64 (t.1 : Int), .int .i64 (t.2.1 : Int), .int .i64 t.2.2]
theorem or_num {n X i : Nat} (hn : n < 2 ^ (7 * i)) (hX : X < 128) (hi : i ≤ 8) : bits .or .u64 (n : Int) (IntKind.u64.wrap ((X : Int) * 2 ^ (7 * i))) = ((n + X * 2 ^ (7 * i) : Nat) : Int) := by
  have hp : 2 ^ (7 * i) ≤ 2 ^ 56 := Nat.pow_le_pow_right (by decide) (by omega)
  have h56 : (2 : Nat) ^ 56 = 72057594037927936 := by decide
  have hm : X * 2 ^ (7 * i) ≤ 127 * 2 ^ (7 * i) := Nat.mul_le_mul_right _ (by omega)
  have e0 : (X : Int) * 2 ^ (7 * i) = ((X * 2 ^ (7 * i) : Nat) : Int) := by simp
  rw [e0, Go.IntWalk.u64_in _ (by omega)]
  have h1 := Num.or64 (a := n) (b := X * 2 ^ (7 * i)) (by unfold Num.M64; omega) (by unfold Num.M64; omega)
  rw [h1]
  have h3 := Nat.shiftLeft_add_eq_or_of_lt (a := X) (b := n) (i := 7 * i) hn
  rw [Nat.shiftLeft_eq] at h3
  rw [Nat.or_comm, ← h3, Nat.add_comm]
theorem and_num {X : Nat} (h : X < 256) : bits .and .u8 (X : Int) 127 = ((X % 128 : Nat) : Int) := by
  have h1 : bits .and .u8 (X : Int) ((127 : Nat) : Int) = ((X &&& 127 : Nat) : Int) := u8_and_nat X 127 h (by decide)
  rw [show (127 : Nat) = 2 ^ 7 - 1 by rfl, Nat.and_two_pow_sub_one_eq_mod] at h1
  exact h1
set_option maxRecDepth 100000 in
set_option maxHeartbeats 2000000 in
theorem number_p (A : Option Addr) (bs : List UInt8) (n c B : Nat) (w : World) (hn : n = bs.length) (hr : BRow w B A bs) (hlen : bs.length ≤ maxLen) :
    Calls Tryz.prog 73 #[.slice A n c] w fun e w' => e = .returned (errOf (number bs)) ∧ w = w' := by
  subst hn
  have HR := Lib.hid hr
  obtain ⟨R, hR⟩ : ∃ R, number bs = R := ⟨_, rfl⟩
  rw [hR]
  have HN := Lib.hid hR
  clear hr hR
  go_enter Tryz.func73, Tryz.ntmps73
  go_wp2
  go_loopw [2, 9] (fun nv iv wr => w = wr ∧ ∃ (i n : Nat), iv = .int .i64 i ∧ nv = .int .u64 n ∧ i ≤ bs.length ∧ i ≤ 8 ∧ n < 2 ^ (7 * i) ∧ scan i n (bs.drop i) = R) (fun _ iv _ => bs.length - (intOf iv).toNat)
  case atStart => exact ⟨rfl, 0, 0, rfl, rfl, by omega, by omega, by decide, HN.out⟩
  case round =>
    obtain ⟨rfl, i, n, rfl, rfl, hi, hi8, hnp, hsc⟩ := hrel
    by_cases hlt : i < bs.length
    · obtain ⟨b0, off, rfl, hb0, hcell⟩ := HR.out (by omega)
      have hc := hcell i hlt
      rw [List.drop_eq_getElem_cons hlt] at hsc
      have hg : bs.getD i 0 = bs[i] := by simp [List.getD, List.getElem?_eq_getElem hlt]
      rw [hg] at hc
      obtain ⟨x, hx⟩ : ∃ x, bs[i] = x := ⟨_, rfl⟩
      rw [hx] at hsc hc
      have hxl := x.toNat_lt
      clear hg hx hcell
      unfold scan at hsc
      unfold byteV at hc
      obtain ⟨X, hX⟩ : ∃ X, x.toNat = X := ⟨_, rfl⟩
      rw [hX] at hsc hc hxl
      clear hX
      by_cases h1 : (i = 8 ∧ 128 ≤ X) ∨ (0 < i ∧ X = 0)
      · rw [if_pos h1] at hsc
        subst hsc
        go_wp2
        all_goals
          refine bodyPost_ret (results_tmp3 rfl _ _ _) rfl ?_
          exact ⟨rfl, rfl⟩
      · rw [if_neg h1] at hsc
        have h10 : ¬ (i = 8 ∧ 128 ≤ X) := fun h => h1 (.inl h)
        have h11 : ¬ (0 < i ∧ X = 0) := fun h => h1 (.inr h)
        clear h1
        by_cases h2 : X < 128
        · rw [if_pos h2] at hsc
          have hor := or_num hnp h2 hi8
          by_cases h8 : i = 8
          · subst h8
            have hx0 : 0 < X := by omega
            have e0 : IntKind.u64.wrap ((X : Int) * 2 ^ (7 * 8)) = (X : Int) * 72057594037927936 := Go.IntWalk.u64_in _ (by omega)
            rw [e0] at hor
            clear h10 h11 hnp
            go_wp2
            refine bodyPost_ret (results_tmp3 rfl _ _ _) rfl ?_
            rw [← hsc]
            exact ⟨rfl, rfl⟩
          · have h8' : ((i : Int) == 8) = false := by simp; omega
            clear h10
            by_cases hi0 : i = 0
            · subst hi0
              have hc0 : w.cell? ⟨b0, off, none⟩ = some (.int .u8 (X : Int)) := hc
              clear h11
              have e1 : X * 2 ^ (7 * 0) = X := by simp
              have e2 : IntKind.u64.wrap ((X : Int) * 2 ^ (7 * 0)) = (X : Int) := by rw [show ((X : Int) * 2 ^ (7 * 0)) = (X : Int) by simp]; exact Go.IntWalk.u64_in _ (by omega)
              rw [e2, e1] at hor
              rw [e1] at hsc
              go_wp2
              refine bodyPost_ret (results_tmp3 rfl _ _ _) rfl ?_
              rw [← hsc]
              exact ⟨rfl, rfl⟩
            · have hx0 : 0 < X := by omega
              clear h11
              go_wp2
              refine bodyPost_ret (results_tmp3 rfl _ _ _) rfl ?_
              rw [← hsc]
              exact ⟨rfl, rfl⟩
        · rw [if_neg h2] at hsc
          have hi7 : i < 8 := by omega
          have ha := and_num hxl
          obtain ⟨Y, hY⟩ : ∃ Y, X % 128 = Y := ⟨_, rfl⟩
          rw [hY] at ha hsc
          have hY2 : Y < 128 := by omega
          have hor := or_num hnp hY2 hi8
          have hwY : IntKind.u64.wrap (Y : Int) = Y := Go.IntWalk.u64_in _ (by omega)
          have h8' : ((i : Int) == 8) = false := by simp; omega
          have hx0 : ((X : Int) == 0) = false := by simp; omega
          have hnp2 : n + Y * 2 ^ (7 * i) < 2 ^ (7 * (i + 1)) := by
            rw [pow_step]
            have hm : Y * 2 ^ (7 * i) ≤ 127 * 2 ^ (7 * i) := Nat.mul_le_mul_right _ (by omega)
            omega
          have HSC := Lib.hid hsc
          clear h10 h11 hsc hY
          go_wp2
          all_goals
            exact ⟨⟨trivial, i + 1, _, by go_num, rfl, by omega, by omega, hnp2, HSC.out⟩, by simp [intOf]; omega⟩
    · obtain rfl : i = bs.length := by omega
      rw [List.drop_length] at hsc
      subst hsc
      go_wp2
      refine bodyPost_ret (results_tmp3 rfl _ _ _) rfl ?_
      exact ⟨rfl, rfl⟩
end Go.Proofs.YtgahfpflhhfhfaaGreat

/- A number of the index that is read: the walk. -/
namespace Go.Proofs.YtgahfpflhhfhfaaGreat
open Go.RowKit Box
set_option linter.unusedVariables false
set_option linter.unusedSimpArgs false
theorem number_nil : (number []).2.2 = 10 := rfl
/-- How a number of the index is read. -/
def RnPost (fb cb base : Nat) (A : Option Addr) (n c used want : Nat) (bs got : List UInt8) (v : Value) (w : World) (e : Ending) (w' : World) : Prop :=
      if (number bs).2.2 ≠ 0 then e = .returned (.int .i64 (number bs).2.2) ∧ w = w'
      else if (number bs).1 ≠ want then e = .returned (.int .i64 11) ∧ w = w'
      else e = .returned (.int .i64 0) ∧ ∃ v', SrcAt w' fb (takeA A c (number bs).2.1) (n - (number bs).2.1) (c - (number bs).2.1) (used + (number bs).2.1) ∧ Pts w' cb #[v'] 22 ∧ OwnB w' 5 base v' (got ++ bs.take (number bs).2.1) ∧ (v'.ownBlock = v.ownBlock ∨ ∃ q, v'.ownBlock = some q ∧ w.heap.size ≤ q) ∧ Frm (fun q => q = fb ∨ q = cb ∨ v.ownBlock = some q) w w'
set_option maxRecDepth 100000 in
set_option maxHeartbeats 4000000 in
theorem xnumber_p (rb fb bud cb base B0 : Nat) (put hold : Value) (kind : Int) (told : Nat) (lv v : Value) (A : Option Addr) (n c used want : Nat) (bs got : List UInt8) (w : World) (hr : RxAt w rb fb bud put hold kind told lv) (h : SrcAt w fb A n c used) (hn : n = bs.length) (hb : BRow w B0 A bs) (hB0 : B0 ≤ w.heap.size ∧ B0 ≤ fb) (hc : n ≤ c) (hcm : c ≤ maxLen) (hu : used + n ≤ 4611686018427387904)
    (hp : Pts w cb #[v] 22) (ho : OwnB w 5 base v got) (hbs : base ≤ w.heap.size) (hne : cb ≠ fb) (hl : got.length + n ≤ 140737488355328) (hlook : ∀ k, (number (bs.take k)).2.2 ≠ 10 → number bs = number (bs.take k)) :
    Calls Tryz.prog 58 #[.pointer (some ⟨rb, 0, none⟩), .pointer (some ⟨cb, 0, none⟩), .int .u64 want] w (RnPost fb cb base A n c used want bs got v w) := by
  have HP := Lib.hid hp
  have HO := Lib.hid ho
  have HB := Lib.hid (And.intro hb (And.intro h hr))
  have HB0 := Lib.hid hB0
  have HH : Hid (n = bs.length ∧ n ≤ c ∧ c ≤ maxLen ∧ used + n ≤ 4611686018427387904 ∧ base ≤ w.heap.size ∧ cb ≠ fb ∧ got.length + n ≤ 140737488355328) := Lib.hid ⟨hn, hc, hcm, hu, hbs, hne, hl⟩
  have c0 := hr.cells.1
  have HL := Lib.hid hlook
  clear hr h hn hb hB0 hc hcm hu hp ho hbs hne hl hlook
  go_enter Tryz.func58, Tryz.ntmps58
  go_wp2
  go_loopg [7] (n + 1) (fun f sv wr => ∃ k, sv = .int .i64 ((k + 1 : Nat) : Int) ∧ f + k = n + 1 ∧ k ≤ n ∧ (number (bs.take k)).2.2 = 10 ∧ wr = w)
  case atStart => exact ⟨0, rfl, by omega, by omega, number_nil, rfl⟩
  case round =>
    obtain ⟨k, rfl, hf, hk, ht, rfl⟩ := hrel
    have HF := Lib.hid (And.intro hf hk)
    have HT := Lib.hid ht
    have HK := Lib.hid (peek_p fb A n c used (k + 1) wr HB.out.2.1 HH.out.2.1)
    clear hf hk ht
    by_cases hkn : k + 1 ≤ n
    · rw [if_pos hkn] at HK
      obtain ⟨R, hR⟩ : ∃ R, number (bs.take (k + 1)) = R := ⟨_, rfl⟩
      have HNU := Lib.hid (number_p A (bs.take (k + 1)) (k + 1) (k + 1) B0 wr (by rw [List.length_take]; have := HH.out.1; omega) (HB.out.1.take (k + 1)) (by rw [List.length_take]; have := HH.out.1; have := HH.out.2.1; have := HH.out.2.2.1; omega))
      rw [hR] at HNU
      obtain ⟨y, m, er⟩ := R
      unfold errOf at HNU
      have HR := Lib.hid hR
      have i1 : IntKind.i64.wrap (((k + 1 : Nat) : Int) + 1) = ((k + 1 + 1 : Nat) : Int) := Go.IntWalk.i64_in _ (by have := HF.out; have := HH.out.2.2.2.1; omega)
      clear hR
      obtain ⟨s1, hs1⟩ : ∃ x, k + 1 = x := ⟨_, rfl⟩
      rw [hs1] at HK HNU i1 HR hkn
      rw [hs1]
      by_cases h10 : er = 10
      · subst h10
        go_wp2_with fail
        refine HK.out.mono ?_; rintro e w1 ⟨rfl, rfl⟩
        go_wp2_with fail
        refine HNU.out.mono ?_; rintro e w1 ⟨rfl, rfl⟩
        obtain ⟨g, rfl⟩ : ∃ g, gk = g + 1 := ⟨gk - 1, by have := HF.out; omega⟩
        go_wp2
        go_roundg g
        case rel => exact ⟨s1, rfl, by have := HF.out; omega, hkn, by rw [HR.out], rfl⟩
        case measure => omega
      · have hnb : number bs = (y, m, er) := by rw [← HR.out]; exact HL.out s1 (by rw [HR.out]; exact h10)
        have e10 : (er == 10) = false := by simpa using h10
        by_cases h0 : er = 0
        · subst h0
          have hmn : 1 ≤ m ∧ m ≤ s1 := by
            obtain ⟨_, k2, k3, _⟩ := number_back (bs := bs.take s1) HR.out
            rw [List.length_take] at k3
            omega
          by_cases hy : y = want
          · subst hy
            have HTK := Lib.hid (rtake_p rb fb bud put hold kind told lv A n c used m wr HB.out.2.2 HB.out.2.1 HH.out.2.1 (by omega) (by have := HH.out.2.2.2.1; omega))
            go_wp2_with fail
            refine HK.out.mono ?_; rintro e w1 ⟨rfl, rfl⟩
            go_wp2_with fail
            refine HNU.out.mono ?_; rintro e w1 ⟨rfl, rfl⟩
            go_wp2_with fail
            refine HTK.out.mono ?_; rintro e w1 ⟨rfl, h1, h2⟩
            obtain ⟨A0, k0, rfl, -, -, -⟩ := HO.out.slice
            have hp1 := HP.out.frm h2 HH.out.2.2.2.2.2.1
            have cc : w1.cell? ⟨cb, 0, none⟩ = some (.slice A0 got.length k0) := by rw [hp1.cell]; rfl
            have zz := hp1.frozen 0
            have H1 := Lib.hid (And.intro h1 h2)
            have HP1 := Lib.hid hp1
            clear h1 h2 hp1
            have hnf : ∀ k, (Value.slice A0 got.length k0).ownBlock = some k → k ≠ fb := by
              rintro k hk rfl
              rcases HO.out.form with ⟨h3, _⟩ | ⟨g, cap, cur, h3, _, hh, _⟩
              · rw [h3] at hk; cases hk
              · rw [h3] at hk
                injection hk with hk
                subst hk
                exact Pts.ne_of (show Pts wr g _ _ from hh) (show Pts wr g _ _ from HB.out.2.1) (by decide) rfl
            have hnc : (Value.slice A0 got.length k0).ownBlock ≠ some cb := by
              intro hk
              rcases HO.out.form with ⟨h3, _⟩ | ⟨g, cap, cur, h3, _, hh, _⟩
              · rw [h3] at hk; cases hk
              · rw [h3] at hk
                injection hk with hk
                subst hk
                exact Pts.ne_of (show Pts wr g _ _ from hh) HP.out (by decide) rfl
            have HO1 := Lib.hid (HO.out.frm H1.out.2 (fun k hk e => hnf k hk e))
            have HNE := Lib.hid (And.intro hnf hnc)
            clear hnf hnc
            obtain ⟨V0, hV0⟩ : ∃ x, Value.slice A0 got.length k0 = x := ⟨_, rfl⟩
            have HV := Lib.hid hV0
            rw [hV0] at HO1 HNE HP1
            clear hV0
            go_wp2_with (at_builtin; refine wpList_append_bytes _ rfl (.tmp 52) (.tmp 53) 22 rfl 5 base Tryz.underlying22 Tryz.info_u8 (.slice A0 got.length k0) got rfl ?own2 A m m B0 (bs.take m) rfl ?lenn ?row2 ?len2 ?base2 ?next2)
            case own2 => rw [HV.out]; exact HO1.out
            case lenn => rw [List.length_take]; have := HH.out.1; omega
            case row2 => exact (HB.out.1.take m).frm H1.out.2 HB0.out.1 (fun k hk => by have := HB0.out.2; omega)
            case len2 => rw [List.length_take]; have := HH.out.2.2.2.2.2.2; omega
            case base2 => exact Nat.le_trans HH.out.2.2.2.2.1 H1.out.2.size
            case next2 =>
              intro v3 w3 hown3 hfrm3 hnew3
              rw [HV.out] at hfrm3 hnew3
              obtain ⟨A3, k3, hv3, -, -, -⟩ := hown3.slice
              have hp3 := HP1.out.frm hfrm3 HNE.out.2
              have hs3 : SrcAt w3 fb (takeA A c m) (n - m) (c - m) (used + m) := Pts.frm H1.out.1 hfrm3 (fun e => HNE.out.1 fb e rfl)
              have hne3 : v3.ownBlock ≠ some cb := by
                have := HP1.out.lt
                rcases hnew3 with e | e
                · rw [e]; exact HNE.out.2
                · rw [e]; intro h; injection h with h; omega
              have c3 : w3.cell? ⟨cb, 0, none⟩ = some (.slice A0 got.length k0) := by rw [hp3.cell, HV.out]; rfl
              have z3 := hp3.frozen 0
              have HP3 := Lib.hid (hp3.set 0 v3)
              have HO3 := Lib.hid (hown3.other (p := ⟨cb, 0, none⟩) hne3 v3)
              have HS3 : Hid (SrcAt (w3.setCell ⟨cb, 0, none⟩ v3) fb (takeA A c m) (n - m) (c - m) (used + m)) := Lib.hid (Pts.other hs3 (p := ⟨cb, 0, none⟩) (fun e => HH.out.2.2.2.2.2.1 e.symm) v3)
              have HF3 := Lib.hid (Frm.setCell (p := ⟨cb, 0, none⟩) ((H1.out.2.mono (S' := fun q => q = fb ∨ q = cb ∨ V0.ownBlock = some q) fun q _ e => .inl e).trans (hfrm3.mono (S' := fun q => q = fb ∨ q = cb ∨ V0.ownBlock = some q) fun q _ e => .inr (.inr e))) (.inr (.inl rfl)) v3)
              have HN3 := Lib.hid (And.intro hnew3 H1.out.2.size)
              clear hown3 hfrm3 hnew3 hp3 hs3 hne3
              obtain ⟨L3, hL3⟩ : ∃ L, (got ++ bs.take m).length = L := ⟨_, rfl⟩
              rw [hL3] at hv3
              subst hv3
              clear hL3
              go_wp2
              go_ret
              unfold RnPost
              rw [hnb, if_neg (by simp), if_neg (by simp), HV.out]
              refine ⟨rfl, _, HS3.out, HP3.out, HO3.out, ?_, HF3.out⟩
              rcases HN3.out.1 with e | e
              · exact .inl e
              · exact .inr ⟨_, e, HN3.out.2⟩
          · have qy : (((y : Nat) : Int) != ((want : Nat) : Int)) = true := bne_iff_ne.2 (by omega)
            go_wp2_with fail
            refine HK.out.mono ?_; rintro e w1 ⟨rfl, rfl⟩
            go_wp2_with fail
            refine HNU.out.mono ?_; rintro e w1 ⟨rfl, rfl⟩
            go_wp2
            go_ret
            unfold RnPost
            rw [hnb, if_neg (by simp), if_pos hy]
            exact ⟨rfl, rfl⟩
        · have q0 : (er != 0) = true := bne_iff_ne.2 h0
          go_wp2_with fail
          refine HK.out.mono ?_; rintro e w1 ⟨rfl, rfl⟩
          go_wp2_with fail
          refine HNU.out.mono ?_; rintro e w1 ⟨rfl, rfl⟩
          go_wp2
          go_ret
          unfold RnPost
          rw [hnb, if_pos h0]
          exact ⟨rfl, rfl⟩
    · rw [if_neg hkn] at HK
      go_wp2_with fail
      refine HK.out.mono ?_; rintro e w1 ⟨rfl, rfl⟩
      go_wp2
      go_ret
      have hkn2 : k = n := by have := HF.out; omega
      have ht := HT.out
      rw [hkn2, HH.out.1, List.take_length] at ht
      unfold RnPost
      rw [ht]
      exact ⟨rfl, rfl⟩
end Go.Proofs.YtgahfpflhhfhfaaGreat

/- Numbers of an xz file: the document's walk; writing. -/
namespace Go.Proofs.YtgahfpflhhfhfaaGreat
open Go.RowKit Box
set_option linter.unusedVariables false
set_option linter.unusedSimpArgs false
end Go.Proofs.YtgahfpflhhfhfaaGreat

/- Numbers of an xz file: writing them. -/
namespace Go.Proofs.YtgahfpflhhfhfaaGreat
open Go.RowKit Box
set_option linter.unusedVariables false
set_option linter.unusedSimpArgs false
theorem BRow.oneB (w : World) (T : TypeId) (x : UInt8) : BRow (w.alloc (.cells #[.int .u8 (x.toNat : Int)] T (0, 0))) (w.heap.size + 1) (some ⟨w.heap.size, 0, none⟩) [x] := by
  intro _
  refine ⟨w.heap.size, 0, rfl, by omega, fun k hk => ?_⟩
  obtain rfl : k = 0 := by simpa using hk
  rw [(Pts.new _ _ _).cell]; rfl
theorem putGo_len : ∀ (f m : Nat), 1 ≤ (putGo f m).length ∧ (putGo f m).length ≤ f + 1
  | 0, m => by unfold putGo; simp
  | f + 1, m => by
    have := putGo_len f (m / 128)
    unfold putGo
    by_cases h : m < 128
    · rw [if_pos h]; simp
    · rw [if_neg h]; simp; omega
theorem put_len (m : Nat) : 1 ≤ (put m).length ∧ (put m).length ≤ 9 := putGo_len 8 m
theorem low_byte (m : Nat) : IntKind.u8.wrap (m : Int) = ((m % 256 : Nat) : Int) := by rw [IntKind.wrap_u8']; omega
theorem or_byte (m : Nat) : bits .or .u8 ((m % 256 : Nat) : Int) 128 = ((UInt8.ofNat (m % 128 + 128)).toNat : Int) := by
  have h1 : bits .or .u8 ((m % 256 : Nat) : Int) ((128 : Nat) : Int) = ((m % 256 ||| 128 : Nat) : Int) := u8_or_nat _ _ (Nat.mod_lt _ (by decide)) (by decide)
  rw [ofNat_toNat (by omega)]
  refine h1.trans ?_
  congr 1
  rcases Nat.lt_or_ge (m % 256) 128 with h | h
  · have := Nat.two_pow_add_eq_or_of_lt (i := 7) (b := m % 256) h 1
    rw [show (2 : Nat) ^ 7 * 1 = 128 by rfl] at this
    rw [Nat.or_comm, ← this]; omega
  · have h2 := Nat.two_pow_add_eq_or_of_lt (i := 7) (b := m % 256 - 128) (by have : (2 : Nat) ^ 7 = 128 := rfl; omega) 1
    rw [show (2 : Nat) ^ 7 * 1 = 128 by rfl] at h2
    have e : m % 256 = 128 ||| (m % 256 - 128) := by omega
    rw [e, Nat.or_comm 128, Nat.or_assoc, Nat.or_self, Nat.or_comm, ← h2]; omega
theorem last_byte {m : Nat} (h : m < 128) : IntKind.u8.wrap (m : Int) = ((UInt8.ofNat m).toNat : Int) := by rw [low_byte, ofNat_toNat (by omega)]; omega
theorem putGo_small {f m : Nat} (h : m < 128) : putGo f m = [UInt8.ofNat m] := by
  cases f with
  | zero => rfl
  | succ f => unfold putGo; rw [if_pos h]
theorem Tryz.info_byte : (Tryz.prog.info? 5).map (fun i => (i.zero, i.size, i.bytes)) = some (some (.int .u8 0), 1, 1) := by kernel_rfl
/-- What writing a number leaves. -/
def PutPost (n : Nat) (w : World) (e : Ending) (w' : World) : Prop :=
  (n < 9223372036854775808 → ∃ v, e = .returned (.tuple #[v, .int .i64 0]) ∧ OwnB w' 5 w.heap.size v (put n)) ∧ (9223372036854775808 ≤ n → e = .returned (.tuple #[.slice none 0 0, .int .i64 2])) ∧ Below w.heap.size w w'
set_option maxRecDepth 100000 in
set_option maxHeartbeats 2000000 in
theorem rputNumber_p (n : Nat) (w : World) (hn : n < 18446744073709551616) : Calls Tryz.prog 53 #[.int .u64 (n : Int)] w (PutPost n w) := by
  by_cases hbig : 9223372036854775808 ≤ n
  · have hge : decide ((9223372036854775808 : Int) ≤ (n : Int)) = true := decide_eq_true (by omega)
    have hge2 : ((n : Int) / 9223372036854775808 != 0) = true := by have : (n : Int) / 9223372036854775808 = 1 := by omega
                                                                    rw [this]; rfl
    have HB := Lib.hid hbig
    clear hbig hn
    go_enter Tryz.func53, Tryz.ntmps53
    go_wp2
    refine bodyPost_ret (results_tmp2 rfl _ _ _) rfl ?_
    exact ⟨fun h => by have := HB.out; omega, fun _ => rfl, Below.refl _ _⟩
  · have hsm : n < 9223372036854775808 := by omega
    have h63 : ((n : Int) / 9223372036854775808) = 0 := by omega
    obtain ⟨R, hR⟩ : ∃ R, put n = R := ⟨_, rfl⟩
    have HPUT := Lib.hid hR
    have hge : decide ((9223372036854775808 : Int) ≤ (n : Int)) = false := decide_eq_false (by omega)
    have HSM := Lib.hid hsm
    clear hR hsm hbig hn
    go_enter Tryz.func53, Tryz.ntmps53
    go_wp2
    go_loopw [0, 4] (fun nv bv wr => ∃ (f m : Nat) (o : List UInt8), nv = .int .u64 m ∧ OwnB wr 5 w.heap.size bv o ∧ o ++ putGo f m = R ∧ m < 2 ^ (7 * (f + 1)) ∧ f ≤ 8 ∧ o.length + f = 8 ∧ Below w.heap.size w wr) (fun nv _ _ => (intOf nv).toNat)
    case atStart => exact ⟨8, n, [], rfl, OwnB.nil _ _ _, HPUT.out, HSM.out, by omega, rfl, Below.refl _ _⟩
    case round =>
      obtain ⟨f, m, o, rfl, hown, ho, hm, hf8, hol, hbe⟩ := hrel
      have OW := Lib.hid hown
      have BE := Lib.hid hbe
      have HO := Lib.hid ho
      have HOL := Lib.hid hol
      have hp56 : 2 ^ (7 * (f + 1)) ≤ 2 ^ 63 := Nat.pow_le_pow_right (by decide) (by omega)
      have h63' : (2 : Nat) ^ 63 = 9223372036854775808 := by decide
      have hm64 : m < 9223372036854775808 := by omega
      have HM := Lib.hid hm
      clear hown hbe ho hol hm hp56 h63'
      by_cases h : m < 128
      · have hw8 := last_byte h
        rw [putGo_small h] at HO
        obtain ⟨u, hu⟩ : ∃ u, UInt8.ofNat m = u := ⟨_, rfl⟩
        rw [hu] at hw8 HO
        clear hu
        go_wp2_with (at_builtin; refine wpList_append_bytes _ rfl (.tmp 17) (.tmp 20) 22 rfl 5 w.heap.size Tryz.underlying22 Tryz.info_byte u4 o rfl ?own2 (some ⟨wr.heap.size, 0, none⟩) 1 1 (wr.heap.size + 1) [u] rfl rfl ?row2 ?len2 ?base2 ?next2)
        case own2 => exact OW.out.alloc _
        case row2 => exact BRow.oneB wr _ u
        case len2 => have := HOL.out; simp; omega
        case base2 => have := BE.out.size; simp; omega
        case next2 =>
          intro v3 w3 hown3 hfrm3 hnew3
          have hb3 : Below w.heap.size w w3 := (BE.out.alloc BE.out.size _).trans (hfrm3.below (B := w.heap.size) (BE.out.alloc BE.out.size _).size (fun q hq => (OW.out.lt hq).1))
          have B3 := Lib.hid hb3
          have O3 := Lib.hid hown3
          clear hown3 hfrm3 hnew3 hb3
          go_wp2
          refine bodyPost_ret (results_tmp2 rfl _ _ _) rfl ?_
          refine ⟨fun _ => ⟨v3, rfl, ?_⟩, fun h => by have := HSM.out; omega, B3.out⟩
          have := O3.out
          rw [HO.out] at this
          rw [HPUT.out]
          exact this
      · cases f with
        | zero => exact absurd HM.out (by show ¬ m < 128; exact h)
        | succ f =>
          have hw8 := low_byte m
          have hor := or_byte m
          have HO2 : o ++ [UInt8.ofNat (m % 128 + 128)] ++ putGo f (m / 128) = R := by
            rw [← HO.out, List.append_assoc]; congr 1; conv => rhs; unfold putGo
            rw [if_neg h]; rfl
          have HO3 := Lib.hid HO2
          clear HO2
          obtain ⟨y, hy⟩ : ∃ y, m % 256 = y := ⟨_, rfl⟩
          obtain ⟨u, hu⟩ : ∃ u, UInt8.ofNat (m % 128 + 128) = u := ⟨_, rfl⟩
          rw [hy] at hw8 hor
          rw [hu] at hor HO3
          have hmm : m / 128 < 2 ^ (7 * (f + 1)) := Nat.div_lt_of_lt_mul (by have h9 := HM.out; rw [pow_step (f + 1)] at h9; omega)
          have HMM := Lib.hid hmm
          clear hu hy HO hmm
          go_wp2_with (at_builtin; refine wpList_append_bytes _ rfl (.tmp 9) (.tmp 13) 22 rfl 5 w.heap.size Tryz.underlying22 Tryz.info_byte u4 o rfl ?own1 (some ⟨wr.heap.size, 0, none⟩) 1 1 (wr.heap.size + 1) [u] rfl rfl ?row1 ?len1 ?base1 ?next1)
          case own1 => exact OW.out.alloc _
          case row1 => exact BRow.oneB wr _ u
          case len1 => have := HOL.out; simp; omega
          case base1 => have := BE.out.size; simp; omega
          case next1 =>
            intro v3 w3 hown3 hfrm3 hnew3
            have hb3 : Below w.heap.size w w3 := (BE.out.alloc BE.out.size _).trans (hfrm3.below (B := w.heap.size) (BE.out.alloc BE.out.size _).size (fun q hq => (OW.out.lt hq).1))
            have B3 := Lib.hid hb3
            have O3 := Lib.hid hown3
            clear hown3 hfrm3 hnew3 hb3
            go_wp2
            exact ⟨⟨f, m / 128, _, by go_num, O3.out, HO3.out, HMM.out, by omega, by have := HOL.out; simp; omega, B3.out⟩, by simp [intOf]; omega⟩
end Go.Proofs.YtgahfpflhhfhfaaGreat
