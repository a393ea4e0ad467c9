/- Numbers of an xz file: writing them. -/
import Derived.Test.YtjhmebkkdgpneaaBoxQ
namespace Go.Proofs.Ytjhmebkkdgpneaa
open Go.RowKit Box
set_option linter.unusedVariables false
set_option linter.unusedSimpArgs false
theorem BRow.oneB (w : World) (T : TypeId) (x : UInt8) : BRow (w.alloc (.cells #[.int .u8 (x.toNat : Int)] T (0, 0))) (w.heap.size + 1) (some ⟨w.heap.size, 0, none⟩) [x] := by
  intro _
  refine ⟨w.heap.size, 0, rfl, by omega, fun k hk => ?_⟩
  obtain rfl : k = 0 := by simpa using hk
  rw [(Pts.new _ _ _).cell]; rfl
theorem putGo_len : ∀ (f m : Nat), 1 ≤ (putGo f m).length ∧ (putGo f m).length ≤ f + 1
  | 0, m => by unfold putGo; simp
  | f + 1, m => by
    have := putGo_len f (m / 128)
    unfold putGo
    by_cases h : m < 128
    · rw [if_pos h]; simp
    · rw [if_neg h]; simp; omega
theorem put_len (m : Nat) : 1 ≤ (put m).length ∧ (put m).length ≤ 9 := putGo_len 8 m
theorem low_byte (m : Nat) : IntKind.u8.wrap (m : Int) = ((m % 256 : Nat) : Int) := by rw [IntKind.wrap_u8']; omega
theorem or_byte (m : Nat) : bits .or .u8 ((m % 256 : Nat) : Int) 128 = ((UInt8.ofNat (m % 128 + 128)).toNat : Int) := by
  have h1 : bits .or .u8 ((m % 256 : Nat) : Int) ((128 : Nat) : Int) = ((m % 256 ||| 128 : Nat) : Int) := u8_or_nat _ _ (Nat.mod_lt _ (by decide)) (by decide)
  rw [ofNat_toNat (by omega)]
  refine h1.trans ?_
  congr 1
  rcases Nat.lt_or_ge (m % 256) 128 with h | h
  · have := Nat.two_pow_add_eq_or_of_lt (i := 7) (b := m % 256) h 1
    rw [show (2 : Nat) ^ 7 * 1 = 128 by rfl] at this
    rw [Nat.or_comm, ← this]; omega
  · have h2 := Nat.two_pow_add_eq_or_of_lt (i := 7) (b := m % 256 - 128) (by have : (2 : Nat) ^ 7 = 128 := rfl; omega) 1
    rw [show (2 : Nat) ^ 7 * 1 = 128 by rfl] at h2
    have e : m % 256 = 128 ||| (m % 256 - 128) := by omega
    rw [e, Nat.or_comm 128, Nat.or_assoc, Nat.or_self, Nat.or_comm, ← h2]; omega
theorem last_byte {m : Nat} (h : m < 128) : IntKind.u8.wrap (m : Int) = ((UInt8.ofNat m).toNat : Int) := by rw [low_byte, ofNat_toNat (by omega)]; omega
theorem putGo_small {f m : Nat} (h : m < 128) : putGo f m = [UInt8.ofNat m] := by
  cases f with
  | zero => rfl
  | succ f => unfold putGo; rw [if_pos h]
theorem Try.info_byte : (Try.prog.info? 5).map (fun i => (i.zero, i.size, i.bytes)) = some (some (.int .u8 0), 1, 1) := by kernel_rfl
/-- What writing a number leaves. -/
def PutPost (n : Nat) (w : World) (e : Ending) (w' : World) : Prop :=
  (n < 9223372036854775808 → ∃ v, e = .returned (.tuple #[v, .int .i64 0]) ∧ OwnB w' 5 w.heap.size v (put n)) ∧ (9223372036854775808 ≤ n → e = .returned (.tuple #[.slice none 0 0, .int .i64 2])) ∧ Below w.heap.size w w'
set_option maxRecDepth 100000 in
set_option maxHeartbeats 2000000 in
theorem putNumber_p (n : Nat) (w : World) (hn : n < 18446744073709551616) : Calls Try.prog 15 #[.int .u64 (n : Int)] w (PutPost n w) := by
  by_cases hbig : 9223372036854775808 ≤ n
  · have hge : decide ((9223372036854775808 : Int) ≤ (n : Int)) = true := decide_eq_true (by omega)
    have hge2 : ((n : Int) / 9223372036854775808 != 0) = true := by have : (n : Int) / 9223372036854775808 = 1 := by omega
                                                                    rw [this]; rfl
    have HB := Lib.hid hbig
    clear hbig hn
    go_enter Try.func15, Try.ntmps15
    go_wp2
    refine bodyPost_ret (results_tmp2 rfl _ _ _) rfl ?_
    exact ⟨fun h => by have := HB.out; omega, fun _ => rfl, Below.refl _ _⟩
  · have hsm : n < 9223372036854775808 := by omega
    have h63 : ((n : Int) / 9223372036854775808) = 0 := by omega
    obtain ⟨R, hR⟩ : ∃ R, put n = R := ⟨_, rfl⟩
    have HPUT := Lib.hid hR
    have hge : decide ((9223372036854775808 : Int) ≤ (n : Int)) = false := decide_eq_false (by omega)
    have HSM := Lib.hid hsm
    clear hR hsm hbig hn
    go_enter Try.func15, Try.ntmps15
    go_wp2
    go_loopw [0, 2] (fun nv bv wr => ∃ (f m : Nat) (o : List UInt8), nv = .int .u64 m ∧ OwnB wr 5 w.heap.size bv o ∧ o ++ putGo f m = R ∧ m < 2 ^ (7 * (f + 1)) ∧ f ≤ 8 ∧ o.length + f = 8 ∧ Below w.heap.size w wr) (fun nv _ _ => (intOf nv).toNat)
    case atStart => exact ⟨8, n, [], rfl, OwnB.nil _ _ _, HPUT.out, HSM.out, by omega, rfl, Below.refl _ _⟩
    case round =>
      obtain ⟨f, m, o, rfl, hown, ho, hm, hf8, hol, hbe⟩ := hrel
      have OW := Lib.hid hown
      have BE := Lib.hid hbe
      have HO := Lib.hid ho
      have HOL := Lib.hid hol
      have hp56 : 2 ^ (7 * (f + 1)) ≤ 2 ^ 63 := Nat.pow_le_pow_right (by decide) (by omega)
      have h63' : (2 : Nat) ^ 63 = 9223372036854775808 := by decide
      have hm64 : m < 9223372036854775808 := by omega
      have HM := Lib.hid hm
      clear hown hbe ho hol hm hp56 h63'
      by_cases h : m < 128
      · have hw8 := last_byte h
        rw [putGo_small h] at HO
        obtain ⟨u, hu⟩ : ∃ u, UInt8.ofNat m = u := ⟨_, rfl⟩
        rw [hu] at hw8 HO
        clear hu
        go_wp2_with (at_builtin; refine wpList_append_bytes _ rfl (.tmp 17) (.tmp 20) 22 rfl 5 w.heap.size Try.underlying22 Try.info_byte u2 o rfl ?own2 (some ⟨wr.heap.size, 0, none⟩) 1 1 (wr.heap.size + 1) [u] rfl rfl ?row2 ?len2 ?base2 ?next2)
        case own2 => exact OW.out.alloc _
        case row2 => exact BRow.oneB wr _ u
        case len2 => have := HOL.out; simp; omega
        case base2 => have := BE.out.size; simp; omega
        case next2 =>
          intro v3 w3 hown3 hfrm3 hnew3
          have hb3 : Below w.heap.size w w3 := (BE.out.alloc BE.out.size _).trans (hfrm3.below (B := w.heap.size) (BE.out.alloc BE.out.size _).size (fun q hq => (OW.out.lt hq).1))
          have B3 := Lib.hid hb3
          have O3 := Lib.hid hown3
          clear hown3 hfrm3 hnew3 hb3
          go_wp2
          refine bodyPost_ret (results_tmp2 rfl _ _ _) rfl ?_
          refine ⟨fun _ => ⟨v3, rfl, ?_⟩, fun h => by have := HSM.out; omega, B3.out⟩
          have := O3.out
          rw [HO.out] at this
          rw [HPUT.out]
          exact this
      · cases f with
        | zero => exact absurd HM.out (by show ¬ m < 128; exact h)
        | succ f =>
          have hw8 := low_byte m
          have hor := or_byte m
          have HO2 : o ++ [UInt8.ofNat (m % 128 + 128)] ++ putGo f (m / 128) = R := by
            rw [← HO.out, List.append_assoc]; congr 1; conv => rhs; unfold putGo
            rw [if_neg h]; rfl
          have HO3 := Lib.hid HO2
          clear HO2
          obtain ⟨y, hy⟩ : ∃ y, m % 256 = y := ⟨_, rfl⟩
          obtain ⟨u, hu⟩ : ∃ u, UInt8.ofNat (m % 128 + 128) = u := ⟨_, rfl⟩
          rw [hy] at hw8 hor
          rw [hu] at hor HO3
          have hmm : m / 128 < 2 ^ (7 * (f + 1)) := Nat.div_lt_of_lt_mul (by have h9 := HM.out; rw [pow_step (f + 1)] at h9; omega)
          have HMM := Lib.hid hmm
          clear hu hy HO hmm
          go_wp2_with (at_builtin; refine wpList_append_bytes _ rfl (.tmp 11) (.tmp 15) 22 rfl 5 w.heap.size Try.underlying22 Try.info_byte u2 o rfl ?own1 (some ⟨wr.heap.size, 0, none⟩) 1 1 (wr.heap.size + 1) [u] rfl rfl ?row1 ?len1 ?base1 ?next1)
          case own1 => exact OW.out.alloc _
          case row1 => exact BRow.oneB wr _ u
          case len1 => have := HOL.out; simp; omega
          case base1 => have := BE.out.size; simp; omega
          case next1 =>
            intro v3 w3 hown3 hfrm3 hnew3
            have hb3 : Below w.heap.size w w3 := (BE.out.alloc BE.out.size _).trans (hfrm3.below (B := w.heap.size) (BE.out.alloc BE.out.size _).size (fun q hq => (OW.out.lt hq).1))
            have B3 := Lib.hid hb3
            have O3 := Lib.hid hown3
            clear hown3 hfrm3 hnew3 hb3
            go_wp2
            exact ⟨⟨f, m / 128, _, by go_num, O3.out, HO3.out, HMM.out, by omega, by have := HOL.out; simp; omega, B3.out⟩, by simp [intOf]; omega⟩
set_option maxRecDepth 100000 in
set_option maxHeartbeats 2000000 in
theorem rputNumber_p (n : Nat) (w : World) (hn : n < 18446744073709551616) : Calls Try.prog 16 #[.int .u64 (n : Int)] w (PutPost n w) := by
  by_cases hbig : 9223372036854775808 ≤ n
  · have hge : decide ((9223372036854775808 : Int) ≤ (n : Int)) = true := decide_eq_true (by omega)
    have hge2 : ((n : Int) / 9223372036854775808 != 0) = true := by have : (n : Int) / 9223372036854775808 = 1 := by omega
                                                                    rw [this]; rfl
    have HB := Lib.hid hbig
    clear hbig hn
    go_enter Try.func16, Try.ntmps16
    go_wp2
    refine bodyPost_ret (results_tmp2 rfl _ _ _) rfl ?_
    exact ⟨fun h => by have := HB.out; omega, fun _ => rfl, Below.refl _ _⟩
  · have hsm : n < 9223372036854775808 := by omega
    have h63 : ((n : Int) / 9223372036854775808) = 0 := by omega
    obtain ⟨R, hR⟩ : ∃ R, put n = R := ⟨_, rfl⟩
    have HPUT := Lib.hid hR
    have hge : decide ((9223372036854775808 : Int) ≤ (n : Int)) = false := decide_eq_false (by omega)
    have HSM := Lib.hid hsm
    clear hR hsm hbig hn
    go_enter Try.func16, Try.ntmps16
    go_wp2
    go_loopw [0, 4] (fun nv bv wr => ∃ (f m : Nat) (o : List UInt8), nv = .int .u64 m ∧ OwnB wr 5 w.heap.size bv o ∧ o ++ putGo f m = R ∧ m < 2 ^ (7 * (f + 1)) ∧ f ≤ 8 ∧ o.length + f = 8 ∧ Below w.heap.size w wr) (fun nv _ _ => (intOf nv).toNat)
    case atStart => exact ⟨8, n, [], rfl, OwnB.nil _ _ _, HPUT.out, HSM.out, by omega, rfl, Below.refl _ _⟩
    case round =>
      obtain ⟨f, m, o, rfl, hown, ho, hm, hf8, hol, hbe⟩ := hrel
      have OW := Lib.hid hown
      have BE := Lib.hid hbe
      have HO := Lib.hid ho
      have HOL := Lib.hid hol
      have hp56 : 2 ^ (7 * (f + 1)) ≤ 2 ^ 63 := Nat.pow_le_pow_right (by decide) (by omega)
      have h63' : (2 : Nat) ^ 63 = 9223372036854775808 := by decide
      have hm64 : m < 9223372036854775808 := by omega
      have HM := Lib.hid hm
      clear hown hbe ho hol hm hp56 h63'
      by_cases h : m < 128
      · have hw8 := last_byte h
        rw [putGo_small h] at HO
        obtain ⟨u, hu⟩ : ∃ u, UInt8.ofNat m = u := ⟨_, rfl⟩
        rw [hu] at hw8 HO
        clear hu
        go_wp2_with (at_builtin; refine wpList_append_bytes _ rfl (.tmp 17) (.tmp 20) 22 rfl 5 w.heap.size Try.underlying22 Try.info_byte u4 o rfl ?own2 (some ⟨wr.heap.size, 0, none⟩) 1 1 (wr.heap.size + 1) [u] rfl rfl ?row2 ?len2 ?base2 ?next2)
        case own2 => exact OW.out.alloc _
        case row2 => exact BRow.oneB wr _ u
        case len2 => have := HOL.out; simp; omega
        case base2 => have := BE.out.size; simp; omega
        case next2 =>
          intro v3 w3 hown3 hfrm3 hnew3
          have hb3 : Below w.heap.size w w3 := (BE.out.alloc BE.out.size _).trans (hfrm3.below (B := w.heap.size) (BE.out.alloc BE.out.size _).size (fun q hq => (OW.out.lt hq).1))
          have B3 := Lib.hid hb3
          have O3 := Lib.hid hown3
          clear hown3 hfrm3 hnew3 hb3
          go_wp2
          refine bodyPost_ret (results_tmp2 rfl _ _ _) rfl ?_
          refine ⟨fun _ => ⟨v3, rfl, ?_⟩, fun h => by have := HSM.out; omega, B3.out⟩
          have := O3.out
          rw [HO.out] at this
          rw [HPUT.out]
          exact this
      · cases f with
        | zero => exact absurd HM.out (by show ¬ m < 128; exact h)
        | succ f =>
          have hw8 := low_byte m
          have hor := or_byte m
          have HO2 : o ++ [UInt8.ofNat (m % 128 + 128)] ++ putGo f (m / 128) = R := by
            rw [← HO.out, List.append_assoc]; congr 1; conv => rhs; unfold putGo
            rw [if_neg h]; rfl
          have HO3 := Lib.hid HO2
          clear HO2
          obtain ⟨y, hy⟩ : ∃ y, m % 256 = y := ⟨_, rfl⟩
          obtain ⟨u, hu⟩ : ∃ u, UInt8.ofNat (m % 128 + 128) = u := ⟨_, rfl⟩
          rw [hy] at hw8 hor
          rw [hu] at hor HO3
          have hmm : m / 128 < 2 ^ (7 * (f + 1)) := Nat.div_lt_of_lt_mul (by have h9 := HM.out; rw [pow_step (f + 1)] at h9; omega)
          have HMM := Lib.hid hmm
          clear hu hy HO hmm
          go_wp2_with (at_builtin; refine wpList_append_bytes _ rfl (.tmp 9) (.tmp 13) 22 rfl 5 w.heap.size Try.underlying22 Try.info_byte u4 o rfl ?own1 (some ⟨wr.heap.size, 0, none⟩) 1 1 (wr.heap.size + 1) [u] rfl rfl ?row1 ?len1 ?base1 ?next1)
          case own1 => exact OW.out.alloc _
          case row1 => exact BRow.oneB wr _ u
          case len1 => have := HOL.out; simp; omega
          case base1 => have := BE.out.size; simp; omega
          case next1 =>
            intro v3 w3 hown3 hfrm3 hnew3
            have hb3 : Below w.heap.size w w3 := (BE.out.alloc BE.out.size _).trans (hfrm3.below (B := w.heap.size) (BE.out.alloc BE.out.size _).size (fun q hq => (OW.out.lt hq).1))
            have B3 := Lib.hid hb3
            have O3 := Lib.hid hown3
            clear hown3 hfrm3 hnew3 hb3
            go_wp2
            exact ⟨⟨f, m / 128, _, by go_num, O3.out, HO3.out, HMM.out, by omega, by have := HOL.out; simp; omega, B3.out⟩, by simp [intOf]; omega⟩
end Go.Proofs.Ytjhmebkkdgpneaa
