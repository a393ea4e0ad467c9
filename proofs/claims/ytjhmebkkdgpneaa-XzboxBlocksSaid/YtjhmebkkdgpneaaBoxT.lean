/- Seals: are the last four bytes those of the others? -/
import Derived.Test.YtjhmebkkdgpneaaBoxS
import Derived.OwnWalk
import Derived.Deep.RegionWith
namespace Go.Proofs.Ytjhmebkkdgpneaa
open Go.RowKit Box
set_option linter.unusedVariables false
set_option linter.unusedSimpArgs false
/-- Do the last four bytes seal the others? -/
def sealedB (bs : List UInt8) : Bool := sealB (bs.take (bs.length - 4)) == bs.drop (bs.length - 4)
set_option maxRecDepth 100000 in
set_option maxHeartbeats 1000000 in
theorem sealed_p (A : Option Addr) (bs : List UInt8) (n c : Nat) (w : World) (hn : n = bs.length) (h4 : 4 ≤ n) (hc : n ≤ c) (hr : BRow w w.heap.size A bs) (hlen : bs.length ≤ 140737488355328) :
    Calls Try.prog 24 #[.slice A n c] w fun e w' => e = .returned (.bool (sealedB bs)) ∧ Below w.heap.size w w' := by
  obtain ⟨m, hm⟩ : ∃ m, n - 4 = m := ⟨_, rfl⟩
  have e1 : (n : Int) - 4 = (m : Int) := by omega
  have hs1 := fun w => slice_toX A n c m (by omega) hc w
  have hs2 := fun w => slice_fromX A n c m (by omega) hc w
  obtain ⟨A', hA'⟩ : ∃ A', (if c = m then A else A.map (·.add m)) = A' := ⟨_, rfl⟩
  simp only [hA'] at hs2
  have hrd := hr.drop (k := m) (cap := c) (by omega)
  rw [hA'] at hrd
  have hrt := hr.take m
  obtain ⟨R, hR⟩ : ∃ R, sealedB bs = R := ⟨_, rfl⟩
  have hR2 := hR
  unfold sealedB at hR2
  rw [← hn, hm] at hR2
  rw [hR]
  obtain ⟨T, hT⟩ : ∃ T, bs.take m = T := ⟨_, rfl⟩
  obtain ⟨D, hD⟩ : ∃ D, bs.drop m = D := ⟨_, rfl⟩
  have lT : m = T.length := by rw [← hT, List.length_take]; omega
  have lD : n - m = D.length := by rw [← hD, List.length_drop]; omega
  rw [hT, hD] at hR2
  rw [hT] at hrt
  rw [hD] at hrd
  have hl2 : T.length ≤ 140737488355328 := by omega
  have hc0 : c - m = c - m := rfl
  have HT := Lib.hid hrt
  have HD := Lib.hid hrd
  have HR2 := Lib.hid hR2
  have LT := Lib.hid lT
  have LD := Lib.hid lD
  have HL := Lib.hid hl2
  obtain ⟨q, hq⟩ : ∃ q, n - m = q := ⟨_, rfl⟩
  rw [hq] at LD
  simp only [hq] at hs2
  have hS := seal_p A T m c w.drew LT.out HT.out HL.out
  have HS := Lib.hid hS
  clear hS
  have hwm : IntKind.i64.wrap (m : Int) = (m : Int) := Go.IntWalk.i64_in _ (by omega)
  clear hrt hrd hR2 hR hT hD hl2 lT lD hr hA' hn hlen hc hm hq
  go_enter Try.func24, Try.ntmps24
  go_wp2
  go_region_with (first
    | (go_at_call 29; refine Calls.mono HS.out ?_; rintro e w1 ⟨v, rfl, hO, hB⟩; obtain ⟨A1, k1, rfl, hc1, hm1, hr1⟩ := hO.slice; have B1 := Lib.hid hB; have R1 := Lib.hid hr1; clear hO hB hr1 hc1 hm1)
    | (go_at_call 28; (refine Calls.mono (equal_p _ _ (sealB T) D _ _ _ _ w1.heap.size _ rfl R1.out LD.out ((BRow.below (w := w.drew) HD.out B1.out).more B1.out.size)) ?_; rintro e w' ⟨rfl, rfl⟩)))
  all_goals
    go_wp2
    go_ret
    rw [HR2.out]
    exact ⟨rfl, ((Below.refl w.heap.size w).drew).trans B1.out⟩
theorem last4 {l : List UInt8} (h : l.length = 4) : ∃ a b c d, l = [a, b, c, d] := by
  match l, h with
  | [a, b, c, d], _ => exact ⟨a, b, c, d, rfl⟩
theorem four_ne {y0 y1 y2 y3 a b c d : UInt8} (h : ¬ (a = y0 ∧ b = y1 ∧ c = y2 ∧ d = y3)) : ([y0, y1, y2, y3] == [a, b, c, d]) = false := by
  rw [beq_eq_false_iff_ne]
  intro e
  simp only [List.cons.injEq, and_true] at e
  exact h ⟨e.1.symm, e.2.1.symm, e.2.2.1.symm, e.2.2.2.symm⟩
theorem byte_eq {a b : UInt8} (h : a = b) : ((a.toNat : Int) == (b.toNat : Int)) = true := by subst h; simp
theorem byte_ne {a b : UInt8} (h : ¬ a = b) : ((a.toNat : Int) == (b.toNat : Int)) = false := by
  rw [beq_eq_false_iff_ne]
  intro e
  exact h (UInt8.toNat_inj.1 (by omega))
set_option maxRecDepth 100000 in
set_option maxHeartbeats 1000000 in
theorem rsealed_p (A : Option Addr) (bs : List UInt8) (n c B : Nat) (w : World) (hn : n = bs.length) (h4 : 4 ≤ n) (hc : n ≤ c) (hr : BRow w B A bs) (hlen : bs.length ≤ 140737488355328) :
    Calls Try.prog 26 #[.slice A n c] w fun e w' => e = .returned (.bool (sealedB bs)) ∧ w = w' := by
  obtain ⟨m, hm⟩ : ∃ m, n - 4 = m := ⟨_, rfl⟩
  have e1 : (n : Int) - 4 = (m : Int) := by omega
  have hs1 := fun w => slice_toX A n c m (by omega) hc w
  have hrt := hr.take m
  obtain ⟨T, hT⟩ : ∃ T, bs.take m = T := ⟨_, rfl⟩
  have lT : m = T.length := by rw [← hT, List.length_take]; omega
  rw [hT] at hrt
  obtain ⟨a, b, c', d, hD⟩ := last4 (l := bs.drop m) (by rw [List.length_drop]; omega)
  have hq := rcrc32_any' A T m c B w lT hrt (by omega)
  have hR2 : sealedB bs = (four (crc32 T) == [a, b, c', d]) := by
    unfold sealedB sealB
    rw [← hn, hm, hT, hD]
  rw [hR2]
  obtain ⟨x, hx⟩ : ∃ x, crc32 T = x := ⟨_, rfl⟩
  rw [hx] at hq ⊢
  unfold four
  obtain ⟨b0, off, rfl, hb0, hcell⟩ := hr (by omega)
  have hget : ∀ k, bs.getD (m + k) 0 = (bs.drop m).getD k 0 := fun k => by simp [List.getD]
  have k0 : w.cell? ⟨b0, off + m, none⟩ = some (.int .u8 (a.toNat : Int)) := by rw [hcell m (by omega), show m = m + 0 by rfl, hget, hD]; rfl
  have k1 : w.cell? ⟨b0, off + (m + 1), none⟩ = some (.int .u8 (b.toNat : Int)) := by rw [hcell (m + 1) (by omega), hget, hD]; rfl
  have k2 : w.cell? ⟨b0, off + (m + 2), none⟩ = some (.int .u8 (c'.toNat : Int)) := by rw [hcell (m + 2) (by omega), hget, hD]; rfl
  have k3 : w.cell? ⟨b0, off + (m + 3), none⟩ = some (.int .u8 (d.toNat : Int)) := by rw [hcell (m + 3) (by omega), hget, hD]; rfl
  have g0 := byte_of x
  have g1 : IntKind.u8.wrap ((x : Int) / 256) = _ := byte_div x 256
  have g2 : IntKind.u8.wrap ((x : Int) / 65536) = _ := byte_div x 65536
  have g3 : IntKind.u8.wrap ((x : Int) / 16777216) = _ := byte_div x 16777216
  obtain ⟨y0, h0⟩ : ∃ y, UInt8.ofNat x = y := ⟨_, rfl⟩
  obtain ⟨y1, h1⟩ : ∃ y, UInt8.ofNat (x / 256) = y := ⟨_, rfl⟩
  obtain ⟨y2, h2⟩ : ∃ y, UInt8.ofNat (x / 65536) = y := ⟨_, rfl⟩
  obtain ⟨y3, h3⟩ : ∃ y, UInt8.ofNat (x / 16777216) = y := ⟨_, rfl⟩
  simp only [h0, h1, h2, h3] at g0 g1 g2 g3 ⊢
  have HQ := Lib.hid hq
  have hm3 : m + 4 = n := by omega
  have hwm : IntKind.i64.wrap (m : Int) = (m : Int) := Go.IntWalk.i64_in _ (by omega)
  have hmx : m ≤ 140737488355328 := by omega
  clear hq hx hcell hget hrt hR2 hT hD lT hn hlen hm hr h0 h1 h2 h3 hc h4
  by_cases q0 : a = y0
  · have p0 := byte_eq q0
    by_cases q1 : b = y1
    · have p1 := byte_eq q1
      by_cases q2 : c' = y2
      · have p2 := byte_eq q2
        by_cases q3 : d = y3
        · have p3 := byte_eq q3
          have e : ([y0, y1, y2, y3] == [a, b, c', d]) = true := by rw [q0, q1, q2, q3]; simp
          rw [e]
          clear q0 q1 q2 q3 e
          go_enter Try.func26, Try.ntmps26
          go_wp2_with fail
          refine HQ.out.mono ?_; rintro r w1 ⟨rfl, rfl⟩
          go_wp2
          go_ret
          exact ⟨rfl, rfl⟩
        · have p3 := byte_ne q3
          have e : ([y0, y1, y2, y3] == [a, b, c', d]) = false := four_ne fun h => q3 h.2.2.2
          rw [e]
          clear q0 q1 q2 q3 e
          go_enter Try.func26, Try.ntmps26
          go_wp2_with fail
          refine HQ.out.mono ?_; rintro r w1 ⟨rfl, rfl⟩
          go_wp2
          go_ret
          exact ⟨rfl, rfl⟩
      · have p2 := byte_ne q2
        have e : ([y0, y1, y2, y3] == [a, b, c', d]) = false := four_ne fun h => q2 h.2.2.1
        rw [e]
        clear q0 q1 q2 e
        go_enter Try.func26, Try.ntmps26
        go_wp2_with fail
        refine HQ.out.mono ?_; rintro r w1 ⟨rfl, rfl⟩
        go_wp2
        go_ret
        exact ⟨rfl, rfl⟩
    · have p1 := byte_ne q1
      have e : ([y0, y1, y2, y3] == [a, b, c', d]) = false := four_ne fun h => q1 h.2.1
      rw [e]
      clear q0 q1 e
      go_enter Try.func26, Try.ntmps26
      go_wp2_with fail
      refine HQ.out.mono ?_; rintro r w1 ⟨rfl, rfl⟩
      go_wp2
      go_ret
      exact ⟨rfl, rfl⟩
  · have p0 := byte_ne q0
    have e : ([y0, y1, y2, y3] == [a, b, c', d]) = false := four_ne fun h => q0 h.1
    rw [e]
    clear q0 e
    go_enter Try.func26, Try.ntmps26
    go_wp2_with fail
    refine HQ.out.mono ?_; rintro r w1 ⟨rfl, rfl⟩
    go_wp2
    go_ret
    exact ⟨rfl, rfl⟩
end Go.Proofs.Ytjhmebkkdgpneaa
