/- The walk of LedgerMany. -/
import Derived.Test.YtlllfolajlfibaaLedgerSum
import Derived.Laws.BitsAllLaws
import Derived.Laws.BitsLemmas
import Derived.Deep.OwnRows
namespace Go.Proofs.Ytlllfolajlfibaa
open Go.RowKit

theorem i64_and_65535 (x : Int) : bits .and .i64 x 65535 = x % 65536 := by
  show IntKind.i64.wrap ((BitVec.ofInt 64 x &&& BitVec.ofInt 64 65535).toNat : Int) = _
  have h : ((BitVec.ofInt 64 x &&& BitVec.ofInt 64 65535).toNat : Int) = x % 65536 := by
    rw [BitVec.toNat_and, show (BitVec.ofInt 64 65535).toNat = 2 ^ 16 - 1 from rfl, Nat.and_two_pow_sub_one_eq_mod, BitVec.toNat_ofInt]
    omega
  rw [h, IntKind.wrap_i64]
  omega

def sumTo (z : List Int) : Int := z.foldr (· + ·) 0
theorem sumTo_nonneg (z : List Int) (hz : ∀ x ∈ z, 0 ≤ x) : 0 ≤ sumTo z := by
  induction z with
  | nil => simp [sumTo]
  | cons a z ih =>
    have h1 := hz a (by simp)
    have h2 := ih (fun x hx => hz x (by simp [hx]))
    simp only [sumTo, List.foldr_cons] at *
    omega
theorem sumTo_set (z : List Int) (k : Nat) (h : k < z.length) (v : Int) : sumTo (z.set k v) = sumTo z - z.getD k 0 + v := by
  induction z generalizing k with
  | nil => simp at h
  | cons a z ih =>
    cases k with
    | zero => simp [sumTo]; omega
    | succ k =>
      have := ih k (by simpa using h)
      simp only [List.set_cons_succ, List.getD_cons_succ, sumTo, List.foldr_cons] at *
      omega
theorem sumTo_get (z : List Int) (hz : ∀ x ∈ z, 0 ≤ x) (k : Nat) (h : k < z.length) : 0 ≤ z.getD k 0 ∧ z.getD k 0 ≤ sumTo z := by
  induction z generalizing k with
  | nil => simp at h
  | cons a z ih =>
    have ha := hz a (by simp)
    have hzz : ∀ x ∈ z, 0 ≤ x := fun x hx => hz x (by simp [hx])
    have hs := sumTo_nonneg z hzz
    cases k with
    | zero => simp only [List.getD_cons_zero, sumTo, List.foldr_cons] at *; omega
    | succ k =>
      have := ih hzz k (by simpa using h)
      simp only [List.getD_cons_succ, sumTo, List.foldr_cons] at *
      omega
theorem sumTo_take (z : List Int) (k : Nat) (h : k < z.length) : sumTo (z.take (k + 1)) = sumTo (z.take k) + z.getD k 0 := by
  induction z generalizing k with
  | nil => simp at h
  | cons a z ih =>
    cases k with
    | zero => simp [sumTo]
    | succ k =>
      have := ih k (by simpa using h)
      simp only [List.take_succ_cons, List.getD_cons_succ, sumTo, List.foldr_cons] at *
      omega
theorem set_nonneg (z : List Int) (hz : ∀ x ∈ z, 0 ≤ x) (k : Nat) (v : Int) (hv : 0 ≤ v) : ∀ x ∈ z.set k v, 0 ≤ x := by
  intro x hx
  rcases List.mem_or_eq_of_mem_set hx with h | rfl
  · exact hz x h
  · exact hv
theorem getD_set_self (z : List Int) (k : Nat) (h : k < z.length) (v : Int) : (z.set k v).getD k 0 = v := by
  simp [List.getD, h]

theorem Try.info_int : (Try.prog.info? 3).map (fun i => (i.zero, i.size, i.bytes)) = some (some (.int .i64 0), 1, 8) := by kernel_rfl

/-- A row of numbers of the call's own. -/
def Got (w : World) (b : Nat) (z : List Int) : Prop := Pts w b (z.map (Value.int .i64)).toArray 3
theorem Got.at_ {w : World} {b : Nat} {z : List Int} (h : Got w b z) (k : Nat) (hk : k < z.length) : w.cell? ⟨b, k, none⟩ = some (.int .i64 (z.getD k 0)) := by
  rw [Pts.cell h k]; simp [List.getD, hk]
theorem Got.set {w : World} {b : Nat} {z : List Int} (h : Got w b z) (k : Nat) (v : Int) : Got (w.setCell ⟨b, k, none⟩ (.int .i64 v)) b (z.set k v) := by
  have := Pts.set h k (.int .i64 v)
  unfold Got
  rw [show ((z.set k v).map (Value.int .i64)).toArray = ((z.map (Value.int .i64)).toArray).setIfInBounds k (.int .i64 v) by simp [List.map_set]]
  exact this

theorem many_of (x : Int) (h0 : -9223372036854775808 ≤ x) (h1 : x ≤ 9223372036854775807) : ∃ M : Nat, wrap64 (1 + (wrap64 (x.tmod 8 + 8)).tmod 8) = (M : Int) ∧ 1 ≤ M ∧ M ≤ 8 := by
  have a1 := Int.tmod_lt_of_pos x (show (0 : Int) < 8 by omega)
  have a2 := Int.lt_tmod_of_pos x (show (0 : Int) < 8 by omega)
  have e1 : wrap64 (x.tmod 8 + 8) = x.tmod 8 + 8 := by unfold wrap64; omega
  rw [e1]
  generalize x.tmod 8 = r at *
  have e2 : (r + 8).tmod 8 = (r + 8) % 8 := Int.tmod_eq_emod_of_nonneg (by omega)
  rw [e2]
  refine ⟨(1 + (r + 8) % 8).toNat, ?_, by omega, by omega⟩
  unfold wrap64; omega

/-- What holds at each round's head: what each has got, together, is what is held. -/
def MInv (w wr : World) (lb gb M : Nat) (C : Int) : Prop :=
  ∃ (z : List Int) (m : Int), z.length = M ∧ (∀ x ∈ z, 0 ≤ x) ∧ 0 ≤ sumTo z ∧ sumTo z ≤ m ∧ m ≤ C ∧ Led wr lb C (sumTo z) m ∧ Got wr gb z ∧ Below lb w wr

theorem sumTo_rep (M : Nat) : sumTo (List.replicate M 0) = 0 := by
  induction M with
  | zero => rfl
  | succ M ih => simp only [List.replicate_succ, sumTo, List.foldr_cons] at *; omega
theorem got_new (w : World) (M : Nat) : Got (w.alloc (.cells (madeCells #[.int .i64 0] M) 3)) w.heap.size (List.replicate M 0) := by
  have h := Pts.new w (madeCells #[.int .i64 0] M) 3
  unfold Got
  rw [show ((List.replicate M (0 : Int)).map (Value.int .i64)).toArray = madeCells #[.int .i64 0] M by
    apply Array.ext
    · simp [madeCells]
    · intro i h1 h2; simp [madeCells, Nat.mod_one]]
  exact h

set_option maxHeartbeats 4000000 in
theorem lawMany04 (B many : Int) (A : Option Addr) (len cap : Nat) (f : Nat → Int) (g : Nat → Bool) (w : World) (_hB : -9223372036854775808 ≤ B ∧ B ≤ 9223372036854775807) (hmany : -9223372036854775808 ≤ many ∧ many ≤ 9223372036854775807) (hlc : len ≤ cap) (hcap : cap ≤ maxLen) (ha : ActsAt w w.heap.size A len f g)
    (hf : ∀ k, k < len → -9223372036854775808 ≤ f k ∧ f k ≤ 9223372036854775807) :
    Calls Try.prog 6 #[.int .i64 B, .int .i64 many, .slice A len cap] w fun e w' => e = .returned (.bool true) ∧ Below w.heap.size w w' := by
  unfold maxLen at hcap
  have HA := Lib.hid ha
  clear ha hf
  obtain ⟨hm0, hm1⟩ := hmany
  by_cases h200 : 200 < len
  · go_enter Try.func6, Try.ntmps6
    go_wp2_with fail
    refine (wakes04 _).mono ?_; rintro e w1 ⟨rfl, h1⟩
    go_wp2
    go_ret
    exact ⟨rfl, h1⟩
  · obtain ⟨C, hC⟩ : ∃ C, bud B = C := ⟨_, rfl⟩
    have hC1 : C ≤ min (max B 0) 16777216 := by rw [← hC]; unfold bud; omega
    have hC2 : min (max B 0) 16777216 ≤ C := by rw [← hC]; unfold bud; omega
    have HC := Lib.hid hC
    clear hC
    obtain ⟨M, hM, hM1, hM8⟩ := many_of many hm0 hm1
    have hmk := run_make_row' (P := Try.prog) 38 3 (.int .i64 0) 8 Try.underlying38 Try.info_int rfl .i64 .i64 M (by omega) (by omega)
    go_enter Try.func6, Try.ntmps6
    go_wp2_with fail
    refine (new_num _ C _ HC.out).mono ?_; rintro e w1 ⟨rfl, h1, b1⟩
    go_wp2_with fail
    have hi0 := i64_and_65535
    have HI := Lib.hid hi0
    clear hmk hM hi0
    have hlb : w.heap.size < w1.heap.size := h1.lt
    generalize hgb : w1.heap.size = gb at *
    have hstart : MInv w (w1.alloc (.cells (madeCells #[.int .i64 0] M) 3)) w.heap.size gb M C := by
      refine ⟨List.replicate M 0, 0, by simp, fun x hx => by simp [List.mem_replicate] at hx; omega, by rw [sumTo_rep]; omega, by rw [sumTo_rep]; omega, by omega, ?_, ?_, b1.alloc b1.size _⟩
      · rw [sumTo_rep]; exact Pts.alloc h1 _
      · rw [← hgb]; exact got_new w1 M
    have HS := Lib.hid hstart
    clear hstart h1 b1 hgb
    go_loopw [9] (fun i wr => ∃ k : Nat, k ≤ len ∧ i = .int .i64 k ∧ MInv w wr w.heap.size gb M C)
      (fun i _ => len - (intOf i).toNat)
    case atStart => exact ⟨0, by omega, rfl, HS.out⟩
    case round =>
      obtain ⟨i, hi, rfl, hinv⟩ := hrel
      have HV := Lib.hid hinv
      clear hinv HS
      by_cases hlt : i < len
      · go_wp2_with fail
        obtain ⟨wo', rfl⟩ : ∃ wo' : World, wo' = wr := ⟨_, rfl⟩
        go_loopw [10] (fun j wr => ∃ k : Nat, k ≤ M ∧ j = .int .i64 k ∧ MInv w wr w.heap.size gb M C)
          (fun j _ => M - (intOf j).toNat)
        case atStart => exact ⟨0, by omega, rfl, HV.out⟩
        case round =>
          obtain ⟨k, hk, rfl, hinv⟩ := hrel
          by_cases hkt : k < M
          · obtain ⟨ab, aoff, hA, hab, hcell⟩ := HA.out (by omega)
            subst hA
            obtain ⟨z, m, hzl, hz0, hs0, hsm, hmC, hl, hgt, hb⟩ := hinv
            have hc1 := (hb.cell (p := ⟨ab, aoff + i * 2, none⟩) hab).trans (hcell i hlt).1
            have hc2 := (hb.cell (p := ⟨ab, aoff + i * 2 + 1, none⟩) hab).trans (hcell i hlt).2
            have hx := HI.out (f i)
            have hy0 := Int.emod_nonneg (f i) (show (65536 : Int) ≠ 0 by omega)
            have hy1 := Int.emod_lt_of_pos (f i) (show (0 : Int) < 65536 by omega)
            clear hcell
            generalize f i % 65536 = y at *
            generalize f i = x at *
            have hzk := sumTo_get z hz0 k (by omega)
            have hss := sumTo_set z k (by omega)
            generalize hzkv : z.getD k 0 = v at *
            obtain ⟨hv0, hv1⟩ := hzk
            have HZL := Lib.hid hzl
            have HZ0 := Lib.hid hz0
            have HSS := Lib.hid hss
            have HZK := Lib.hid hzkv
            have HL := Lib.hid hl
            have HG := Lib.hid hgt
            have HB := Lib.hid hb
            clear hzl hz0 hss hzkv hl hgt hb
            by_cases hov : C - sumTo z < y
            · go_wp2_with fail
              refine (charge_num _ _ _ _ _ 40 (sumTo z) m _ HL.out (by omega) (by omega) (by omega) (ch_over m (by omega) hov)).mono ?_; rintro e w2 ⟨rfl, h2, f2⟩
              have hg2 := Pts.frm HG.out f2 (by show ¬ _ = _; omega)
              have c2 := Lib.hid (HB.out.trans (f2.below HB.out.size (by intro k hk; omega)))
              have g2 := Got.at_ hg2 k (by have := HZL.out; omega)
              rw [HZK.out] at g2
              have hc2' := (c2.out.cell (p := ⟨ab, _, none⟩) hab).trans ((HB.out.cell (p := ⟨ab, _, none⟩) hab).symm.trans hc2)
              have fz := Pts.frozen hg2 k
              have H2 := Lib.hid h2
              have HG2 := Lib.hid hg2
              clear f2 h2 hg2
              have hn2 : ¬ ab = gb := by omega
              cases hgi : g i
              · rw [hgi] at hc2 hc2'
                go_wp2_with fail
                exact ⟨⟨k + 1, by omega, by go_num, z, m, HZL.out, HZ0.out, hs0, hsm, hmC, H2.out, HG2.out, c2.out⟩, by simp [intOf]; omega⟩
              · rw [hgi] at hc2 hc2'
                go_wp2_with fail
                refine (release_num _ _ _ _ _ 0 (sumTo z - v) _ H2.out (by omega) (by omega) (re_ok (by omega) (by omega))).mono ?_; rintro e w4 ⟨rfl, h4, f4⟩
                have hg4 := Pts.frm HG2.out f4 (by show ¬ _ = _; omega)
                have c4 := Lib.hid (c2.out.trans (f4.below c2.out.size (by intro k hk; omega)))
                have g4 := Got.at_ hg4 k (by have := HZL.out; omega)
                have fz4 := Pts.frozen hg4 k
                have H4 := Lib.hid h4
                have HG4 := Lib.hid hg4
                clear f4 h4 hg4
                go_wp2_with fail
                refine ⟨⟨k + 1, by omega, by go_num, z.set k 0, m, by rw [List.length_set]; exact HZL.out, set_nonneg z HZ0.out k 0 (by omega), by rw [HSS.out]; omega, by rw [HSS.out]; omega, by omega, ?_, Got.set HG4.out k 0, c4.out.setCell (by show _ ≤ gb; omega) _⟩, by simp [intOf]; omega⟩
                rw [HSS.out, show sumTo z - v + 0 = sumTo z - v by omega]
                exact Pts.other H4.out (by show _ ≠ gb; omega) _
            · obtain ⟨m', hm', hm1, hm2⟩ : ∃ m', max m (sumTo z + y) = m' ∧ sumTo z + y ≤ m' ∧ m' ≤ C := ⟨_, rfl, by omega, by omega⟩
              have hok := ch_ok (B := C) (n := sumTo z) (k := y) m (by omega) hov
              rw [hm'] at hok
              have HOK := Lib.hid hok
              clear hok hm'
              go_wp2_with fail
              refine (charge_num _ _ _ _ _ 0 (sumTo z + y) m' _ HL.out (by omega) (by omega) (by omega) HOK.out).mono ?_; rintro e w2 ⟨rfl, h2, f2⟩
              have hg2 := Pts.frm HG.out f2 (by show ¬ _ = _; omega)
              have c2 := Lib.hid (HB.out.trans (f2.below HB.out.size (by intro k hk; omega)))
              have g2 := Got.at_ hg2 k (by have := HZL.out; omega)
              rw [HZK.out] at g2
              have hc2' := (c2.out.cell (p := ⟨ab, _, none⟩) hab).trans ((HB.out.cell (p := ⟨ab, _, none⟩) hab).symm.trans hc2)
              have fz := Pts.frozen hg2 k
              have H2 := Lib.hid h2
              have HG2 := Lib.hid hg2
              clear f2 h2 hg2
              have hn2 : ¬ ab = gb := by omega
              cases hgi : g i
              · rw [hgi] at hc2 hc2'
                go_wp2_with fail
                refine ⟨⟨k + 1, by omega, by go_num, z.set k (v + y), m', by rw [List.length_set]; exact HZL.out, set_nonneg z HZ0.out k _ (by omega), by rw [HSS.out]; omega, by rw [HSS.out]; omega, by omega, ?_, Got.set HG2.out k _, c2.out.setCell (by show _ ≤ gb; omega) _⟩, by simp [intOf]; omega⟩
                rw [HSS.out, show sumTo z - v + (v + y) = sumTo z + y by omega]
                exact Pts.other H2.out (by show _ ≠ gb; omega) _
              · rw [hgi] at hc2 hc2'
                go_wp2_with fail
                have h3 : Led (w2.setCell ⟨gb, k, none⟩ (.int .i64 (v + y))) w.heap.size C (sumTo z + y) m' := Pts.other H2.out (by show _ ≠ gb; omega) _
                have hg3 := Got.set HG2.out k (v + y)
                have c3 := Lib.hid (c2.out.setCell (p := ⟨gb, k, none⟩) (by show _ ≤ gb; omega) (.int .i64 (v + y)))
                refine (release_num _ _ _ _ _ 0 (sumTo z - v) _ h3 (by omega) (by omega) (by have h := re_ok (n := sumTo z + y) (k := v + y) (by omega) (by omega); rw [show sumTo z + y - (v + y) = sumTo z - v by omega] at h; exact h)).mono ?_; rintro e w4 ⟨rfl, h4, f4⟩
                have hg4 := Pts.frm hg3 f4 (by show ¬ _ = _; omega)
                have c4 := Lib.hid (c3.out.trans (f4.below c3.out.size (by intro k hk; omega)))
                have g4 := Got.at_ hg4 k (by rw [List.length_set]; have := HZL.out; omega)
                have fz4 := Pts.frozen hg4 k
                have H4 := Lib.hid h4
                have HG4 := Lib.hid hg4
                clear f4 h4 hg4 h3 hg3
                go_wp2_with fail
                have hset : (z.set k (v + y)).set k 0 = z.set k 0 := by simp
                refine ⟨⟨k + 1, by omega, by go_num, z.set k 0, m', by rw [List.length_set]; exact HZL.out, set_nonneg z HZ0.out k 0 (by omega), by rw [HSS.out]; omega, by rw [HSS.out]; omega, by omega, ?_, by rw [← hset]; exact Got.set HG4.out k 0, c4.out.setCell (by show _ ≤ gb; omega) _⟩, by simp [intOf]; omega⟩
                rw [HSS.out, show sumTo z - v + 0 = sumTo z - v by omega]
                exact Pts.other H4.out (by show _ ≠ gb; omega) _
          · go_wp2
            exact ⟨⟨i + 1, by omega, by go_num, hinv⟩, by simp [intOf]; omega⟩
      · have h := HV.out
        obtain ⟨z, m, hzl, hz0, hs0, hsm, hmC, hl, hgt, hb⟩ := h
        have HZL := Lib.hid hzl
        have HL := Lib.hid hl
        have HG := Lib.hid hgt
        have HB := Lib.hid hb
        clear hzl hl hgt hb
        have hss := sumTo_take z
        have htl : sumTo (z.take M) = sumTo z := by rw [List.take_of_length_le (by have := HZL.out; omega)]
        have HT := Lib.hid htl
        have hpre : ∀ k, k ≤ M → 0 ≤ sumTo (z.take k) ∧ sumTo (z.take k) ≤ 16777216 := by
          intro k hk
          have h1 := sumTo_nonneg (z.take k) (fun x hx => hz0 x (List.mem_of_mem_take hx))
          have h2 := sumTo_nonneg (z.drop k) (fun x hx => hz0 x (List.mem_of_mem_drop hx))
          have h3 : sumTo z = sumTo (z.take k) + sumTo (z.drop k) := by
            have : ∀ a b : List Int, sumTo (a ++ b) = sumTo a + sumTo b := by
              intro a b
              induction a with
              | nil => simp [sumTo]
              | cons x a ih => simp only [List.cons_append, sumTo, List.foldr_cons] at *; omega
            rw [← this, List.take_append_drop]
          omega
        have HP := Lib.hid hpre
        have HSS := Lib.hid hss
        clear hss htl hpre hz0
        go_wp2_with fail
        go_loop [12, 13] (fun s j => ∃ k : Nat, k ≤ M ∧ j = .int .i64 k ∧ s = .int .i64 (sumTo (z.take k))) (fun _ j => M - (intOf j).toNat)
        case atStart => exact ⟨0, by omega, rfl, rfl⟩
        case round =>
          obtain ⟨k, hk, rfl, rfl⟩ := hrel
          obtain ⟨hp0, hp1⟩ := HP.out k hk
          by_cases hkt : k < M
          · have gk := Got.at_ HG.out k (by have := HZL.out; omega)
            have hs := HSS.out k (by have := HZL.out; omega)
            obtain ⟨hq0, hq1⟩ := HP.out (k + 1) (by omega)
            rw [hs] at hq0 hq1
            have HS' := Lib.hid hs
            clear hs
            generalize z.getD k 0 = v at *
            generalize sumTo (z.take k) = t at *
            go_wp2
            exact ⟨⟨k + 1, by omega, by go_num, by rw [HS'.out]⟩, by simp [intOf]; omega⟩
          · have hkM : k = M := by omega
            subst hkM
            have ht := HT.out
            generalize sumTo (z.take k) = t at *
            subst ht
            go_wp2_with fail
            refine (held_led _ _ _ _ _ HL.out).mono ?_; rintro e w3 ⟨rfl, d, rfl⟩
            go_wp2_with fail
            all_goals
              refine (wakes04 _).mono ?_; rintro e w4 ⟨rfl, h4⟩
              go_wp2
              go_ret
              exact ⟨rfl, (below_drewN HB.out d).trans (h4.mono HB.out.size)⟩
end Go.Proofs.Ytlllfolajlfibaa
