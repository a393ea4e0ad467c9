/- Texts of this proof, put together: WinE, WinF. -/
import Derived.Test.YtffehfpbdcokbaaDoorBu12
set_option linter.unusedVariables false
set_option linter.unusedSimpArgs false
/- The contracts of the window: Put in one, no window, New, Held, Clear, Drop. -/
namespace Go.Proofs.YtffehfpbdcokbaaDoor
open Go.RowKit Win
set_option linter.unusedVariables false
set_option linter.unusedSimpArgs false

theorem put_any (base b k S a c B n : Nat) (v : Value) (R : List UInt8) (A : Option Addr) (bs : List UInt8) (w : World) (hw : WinAt w base b k S v R a) (hn : n = bs.length) (hr : BRow w B A bs) (hoff : BOff (fun x => x = b ∨ v.ownBlock = some x) A bs) (hc : bs.length ≤ c) (hcm : c ≤ maxLen) (hlen : bs.length ≤ 16777216) (hbase : base ≤ w.heap.size)
    (hS2 : S ≤ 16777216) (hB : B ≤ w.heap.size) :
    Calls Tryd.prog 38 #[.pointer (some ⟨b, 0, none⟩), .slice A n c] w fun e w' => ∃ (v' : Value) (R' : List UInt8) (a' : Nat), e = .returned (.tuple #[]) ∧ WinAt w' base b k S v' R' a' ∧ content R' a' = lastN S (content R a ++ bs) ∧
      Frm (fun x => x = b ∨ v.ownBlock = some x) w w' ∧ (v'.ownBlock = v.ownBlock ∨ v'.ownBlock = some w.heap.size) := by
  subst hn
  by_cases hS : S ≤ bs.length
  · refine (put_big_any base b k S a c B v R A bs w hw hr hc hcm hlen hbase hS (by have := hw.lt; omega) hB).mono ?_
    rintro e w' ⟨v', rfl, h1, h2, h3⟩
    exact ⟨v', _, 0, rfl, h1, by rw [content_zero, put_big hS], h2, h3⟩
  · exact put_small_any base b k S a c B v R A bs w hw hr hoff hc hcm hlen hbase (by omega) hS2 hB

theorem put_nil (A : Option Addr) (n c : Nat) (w : World) :
    Calls Tryd.prog 38 #[.pointer none, .slice A n c] w fun e w' => e = .returned (.tuple #[]) ∧ w = w' := by
  go_enter Tryd.func38, Tryd.ntmps38
  go_wp2
  refine bodyPost_ret (results_none rfl _ _ _) rfl ?_
  exact ⟨rfl, rfl⟩
theorem copy_nil (back n : Int) (w : World) : Calls Tryd.prog 27 #[.pointer none, .int .i64 back, .int .i64 n] w fun e w' => e = .returned (.tuple #[.slice none 0 0, .int .i64 1]) ∧ w = w' := by
  go_enter Tryd.func27, Tryd.ntmps27
  go_wp2
  go_ret2
  exact ⟨rfl, rfl⟩
theorem at_nil (back : Int) (w : World) : Calls Tryd.prog 36 #[.pointer none, .int .i64 back] w fun e w' => e = .returned (.tuple #[.int .u8 0, .bool false]) ∧ w = w' := by
  go_enter Tryd.func36, Tryd.ntmps36
  go_wp2
  go_ret2
  exact ⟨rfl, rfl⟩
theorem new_nil (S : Nat) (w : World) (h1 : 1 ≤ S) (h2 : S ≤ 16777216) : Calls Tryd.prog 11 #[.int .i64 S, .pointer none] w fun e w' => e = .returned (.tuple #[.pointer none, .int .i64 1]) ∧ w = w' := by
  go_enter Tryd.func11, Tryd.ntmps11
  go_wp2_with (go_at_call 19; refine (charge_nil _ _).mono ?_; rintro e w1 ⟨rfl, rfl⟩)
  go_ret2
  exact ⟨rfl, rfl⟩
/-- A window of a size that may be, and what the ledger answers. -/
theorem new_win (k S : Nat) (B n m : Int) (w : World) (hl : Led w k B n m) (hB : 0 ≤ B ∧ B ≤ 16777216) (hn : 0 ≤ n ∧ n ≤ B) (hm : n ≤ m ∧ m ≤ B) (h1 : 1 ≤ S) (h2 : S ≤ 16777216) (hc : chE B n S = 0) :
    Calls Tryd.prog 11 #[.int .i64 S, .pointer (some ⟨k, 0, none⟩)] w fun e w' => ∃ b, e = .returned (.tuple #[.pointer (some ⟨b, 0, none⟩), .int .i64 0]) ∧ WinAt w' w.heap.size b k S (.slice none 0 0) [] 0 ∧ w.heap.size ≤ b ∧
      Led w' k B (chN B n S) (chM B n m S) ∧ Frm (· = k) w w' := by
  have HL := Lib.hid hl
  have HC := Lib.hid hc
  have klt := Pts.lt hl
  clear hl hc
  go_enter Tryd.func11, Tryd.ntmps11
  go_wp2_with (go_at_call 19; refine (charge_led _ B n m _ _ HL.out hB hn hm).mono ?_; rintro e w1 ⟨rfl, hL1, hF1⟩; rw [HC.out])
  go_ret2
  have hp := Pts.new w1 #[.slice none 0 0, .int .i64 ((0 : Nat) : Int), .int .i64 S, .pointer (some ⟨k, 0, none⟩)] 77
  exact ⟨w1.heap.size, rfl, ⟨hp, OwnB.nil _ _ _, Nat.zero_le _, by omega, fun _ => rfl⟩, hF1.size, Pts.alloc hL1 _, hF1.alloc _⟩
end Go.Proofs.YtffehfpbdcokbaaDoor

/- The contract of the window's Copy. -/
namespace Go.Proofs.YtffehfpbdcokbaaDoor
open Go.RowKit Win
set_option linter.unusedVariables false
set_option linter.unusedSimpArgs false

/-- The bytes that a copy tells: the last back ones of C, over and over. -/
def cyc (C : List UInt8) (back n : Nat) : List UInt8 := (List.range n).map fun t => C.getD (C.length - back + t % back) 0
theorem cyc_length (C : List UInt8) (back n : Nat) : (cyc C back n).length = n := by simp [cyc]
theorem cyc_snoc {C : List UInt8} {back t : Nat} (h : t < back) : cyc C back t ++ [C.getD (C.length - back + t) 0] = cyc C back (t + 1) := by
  unfold cyc
  rw [List.range_succ, List.map_append]
  simp [Nat.mod_eq_of_lt h]
theorem cyc_more {C : List UInt8} {back L k : Nat} (h0 : 0 < back) (hL : L % back = 0) (hk : k ≤ L) : cyc C back L ++ (cyc C back L).take k = cyc C back (L + k) := by
  apply List.ext_getElem
  · simp [cyc]; omega
  · intro j h1 h2
    simp only [List.length_append, List.length_take, cyc_length] at h1 h2
    by_cases hj : j < L
    · rw [List.getElem_append_left (by rw [cyc_length]; exact hj)]
      simp [cyc]
    · rw [List.getElem_append_right (by rw [cyc_length]; omega)]
      simp only [cyc, List.length_map, List.length_range, List.getElem_take, List.getElem_map, List.getElem_range]
      congr 2
      obtain ⟨q, hq⟩ := Nat.dvd_of_mod_eq_zero hL
      have e : j = (j - L) + back * q := by omega
      conv => rhs; rw [e, Nat.add_mul_mod_self_left]
theorem make_bytes (n : Nat) (hn : n ≤ 16777216) (w : World) :
    (Instr.makeSlice 22 (.int .i64 0) (.int .i64 (n : Int))).run Tryd.prog w = .ok (.slice (some ⟨w.heap.size, 0, none⟩) 0 n) (w.alloc (.cells (madeCells #[.int .u8 0] n) 5)) := by
  obtain ⟨i, hi, hz⟩ := Option.map_eq_some_iff.1 Tryd.info_u8
  simp only [Prod.mk.injEq] at hz
  have h := run_make (P := Tryd.prog) w 22 5 i (.int .u8 0) Tryd.underlying22 hi hz.1 .i64 .i64 0 n (by omega) (by omega) (by rw [hz.2.2]; omega) (by omega)
  rw [hz.2.1] at h
  simp only [Int.toNat_natCast, Nat.mul_one] at h
  exact h
theorem OwnB.madeN (w : World) (T base n : Nat) (hb : base ≤ w.heap.size) (hn : n ≤ 16777216) : OwnB (w.alloc (.cells (madeCells #[.int .u8 0] n) T)) T base (.slice (some ⟨w.heap.size, 0, none⟩) 0 n) [] :=
  World.ownsRow_made w _ n hb (by unfold maxLen; omega) (by rw [size_madeCells]; simp)

theorem at_num (b k a S cap back : Nat) (A : Option Addr) (R : List UInt8) (z : Int) (w : World) (hp : Pts w b #[.slice A R.length cap, .int .i64 a, .int .i64 S, .pointer (some ⟨k, 0, none⟩)] 77) (hr : BRow w w.heap.size A R)
    (hR : R.length ≤ 16777216) (ha : a ≤ 16777216) (h1 : 1 ≤ back) (h2 : back ≤ R.length) (hz : z = (back : Int)) :
    Calls Tryd.prog 36 #[.pointer (some ⟨b, 0, none⟩), .int .i64 z] w fun e w' => e = .returned (.tuple #[.int .u8 ((R.getD ((a + R.length - back) % R.length) 0).toNat : Int), .bool true]) ∧ ∃ d, w' = w.drewN d := by
  subst hz
  exact at_in b k a S cap back A R w hp hr hR ha h1 h2
set_option maxRecDepth 100000 in
set_option maxHeartbeats 2000000 in
theorem copy_any (base b k S a back n : Nat) (v : Value) (R : List UInt8) (w : World) (hw : WinAt w base b k S v R a) (hbase : base ≤ w.heap.size) (hS2 : S ≤ 16777216) (hn : n ≤ 16777216) (h1 : 1 ≤ back) (h2 : back ≤ R.length) :
    Calls Tryd.prog 27 #[.pointer (some ⟨b, 0, none⟩), .int .i64 back, .int .i64 n] w fun e w' => ∃ (ov v' : Value) (R' : List UInt8) (a' : Nat), e = .returned (.tuple #[ov, .int .i64 0]) ∧ WinAt w' base b k S v' R' a' ∧
      content R' a' = lastN S (content R a ++ cyc (content R a) back n) ∧ OwnB w' 5 w.heap.size ov (cyc (content R a) back n) ∧ Frm (fun x => x = b ∨ v.ownBlock = some x) w w' ∧
      (v'.ownBlock = v.ownBlock ∨ ∃ g, v'.ownBlock = some g ∧ w.heap.size ≤ g ∧ ov.ownBlock ≠ some g) := by
  obtain ⟨A0, k0, rfl, hc0, hm0, hr0⟩ := hw.o.slice
  have c0 : w.cell? ⟨b, 0, none⟩ = some (.slice A0 R.length k0) := by rw [hw.p.cell]; rfl
  have hRS := hw.n
  have haS := hw.lt
  have HW := Lib.hid hw
  have HR := Lib.hid hr0
  obtain ⟨m, hm⟩ : ∃ m : Nat, min (back : Int) (n : Int) = m := ⟨min back n, by omega⟩
  have f1 := fun w => min2_int (P := Tryd.prog) #[3, 3] 3 _ _ _ hm w
  have hmb : m ≤ back ∧ m ≤ n ∧ (m < n → m = back) := by omega
  have hmk := make_bytes n hn
  clear hm hw hr0
  obtain ⟨m1, m2, m3⟩ := hmb
  have hbl : w.heap.size ≤ (w.alloc (.cells (madeCells #[.int .u8 0] n) 5)).heap.size := by simp
  have O1 := Lib.hid (OwnB.madeN w 5 w.heap.size n (Nat.le_refl _) hn)
  have M0 := Lib.hid hm0
  clear hm0
  have hdq : decide (R.length < back) = false := decide_eq_false (by omega)
  go_enter Tryd.func27, Tryd.ntmps27
  go_wp2_with (go_at_call 44; refine (dropped_no _ _ _ _ _ _ HW.out.p).mono ?_; rintro e w1 ⟨rfl, rfl⟩)
  have B1 := Lib.hid ((Below.refl w.heap.size w).alloc (Nat.le_refl _) (.cells (madeCells #[.int .u8 0] n) 5))
  go_loopw [8, 9] (fun ov iv wr => ∃ t d : Nat, d + t = m ∧ iv = .int .i64 d ∧ OwnB wr 5 w.heap.size ov (cyc (content R a) back t) ∧ Below w.heap.size w wr) (fun _ iv _ => (intOf iv).toNat)
  case atStart => exact ⟨0, m, by omega, rfl, by simpa [cyc] using O1.out, B1.out⟩
  case round =>
    obtain ⟨t, d, htd, rfl, hown, hbe⟩ := hrel
    have OW := Lib.hid hown
    have BE := Lib.hid hbe
    have hbt : b < w.heap.size := HW.out.p.lt
    clear hown hbe hmk O1 B1 hbl
    by_cases hd : 0 < d
    · have PW := Lib.hid (HW.out.p.below BE.out hbt)
      have RW := Lib.hid ((HR.out.below BE.out).more BE.out.size)
      have hx : R.getD ((a + R.length - (back - t)) % R.length) 0 = (content R a).getD ((content R a).length - back + t) 0 := by
        rw [content_at (by have := HW.out.z; by_cases hh : R.length < S; have := this hh; omega; omega) (by omega) (by omega), content_length]
        congr 1; omega
      have HX := Lib.hid hx
      have hdpos : (0 : Int) < (d : Int) := by omega
      have hcl : t < back := by omega
      clear hx
      go_wp2_with (first
        | (go_at_call 36
           refine (at_num b k a S k0 (back - t) A0 R _ wr PW.out RW.out (by omega) (by omega) (by omega) (by omega) (by omega)).mono ?_
           rintro e w2 ⟨rfl, dd, rfl⟩
           rw [HX.out])
        | (at_builtin; refine wpList_append_bytes _ rfl (.tmp 59) (.tmp 61) 22 rfl 5 w.heap.size Tryd.underlying22 Tryd.info_u8 u8 (cyc (content R a) back t) rfl ?own1 (some ⟨wr.heap.size, 0, none⟩) 1 1 (wr.heap.size + 1) [(content R a).getD ((content R a).length - back + t) 0] rfl rfl ?row1 ?len1 ?base1 ?next1)
        | go_in)
      case own1 => exact (OW.out.drewN _).alloc _
      case row1 => intro _; exact ⟨wr.heap.size, 0, rfl, by simp, fun j hj => by
          obtain rfl : j = 0 := by simpa using hj
          refine ((Pts.new (wr.drewN _) _ _).cell 0).trans ?_; simp [byteV]⟩
      case len1 => rw [cyc_length]; simp; omega
      case base1 => have := BE.out.size; simp; omega
      case next1 =>
        intro v3 w3 hown3 hfrm3 hnew3
        have hb3 : Below w.heap.size w w3 := ((below_drewN BE.out _).alloc BE.out.size _).trans (hfrm3.below (B := w.heap.size) ((below_drewN BE.out _).alloc BE.out.size _).size (fun q hq => (OW.out.lt hq).1))
        have ecs := cyc_snoc (C := content R a) hcl
        rw [List.getD_eq_getElem?_getD] at ecs
        rw [ecs] at hown3
        clear ecs
        have B3 := Lib.hid hb3
        have O3 := Lib.hid hown3
        clear hown3 hfrm3 hnew3 hb3
        go_wp2
        exact ⟨⟨t + 1, d - 1, by omega, by go_num, O3.out, B3.out⟩, by simp [intOf]; omega⟩
    · have hd1 : (d : Int) ≤ 0 := by omega
      have htm : t = m := by omega
      have O2 := Lib.hid (htm ▸ OW.out)
      clear f1 OW
      go_wp2
      go_loopg [8] n (fun gn ov wq => ∃ L : Nat, n - L ≤ gn ∧ m ≤ L ∧ L ≤ n ∧ (L < n → L % back = 0) ∧ OwnB wq 5 w.heap.size ov (cyc (content R a) back L) ∧ Below w.heap.size w wq)
      case atStart => exact ⟨m, by omega, Nat.le_refl _, m2, fun h => by rw [m3 h]; exact Nat.mod_self _, O2.out, BE.out⟩
      case round =>
        obtain ⟨L, hgn, hmL, hLn, hLm, hown, hbe⟩ := hrel
        have OL := Lib.hid hown
        have BL := Lib.hid hbe
        obtain ⟨A2, c2, rfl, hc2, hm2, hr2⟩ := hown.slice
        rw [cyc_length] at hc2 hown OL
        rw [cyc_length]
        have R2 := Lib.hid hr2
        have M2 := Lib.hid hm2
        have LM := Lib.hid hLm
        clear hown hbe hr2 hm2 hLm BE O2
        by_cases hlt : L < n
        · have hmod := LM.out hlt
          have hbL : back ≤ L := by have := m3 (by omega); omega
          obtain ⟨x, hx⟩ : ∃ x : Nat, min (L : Int) ((n : Int) - L) = x := ⟨min L (n - L), by omega⟩
          have f2 := fun w => min2_int (P := Tryd.prog) #[3, 3] 3 _ _ _ hx w
          obtain ⟨Q, hQ⟩ : ∃ Q, x / back = Q := ⟨_, rfl⟩
          obtain ⟨K, hK⟩ : ∃ K, Q * back = K := ⟨_, rfl⟩
          have hKx : K ≤ x := by rw [← hK, ← hQ]; exact Nat.div_mul_le_self _ _
          have hq0 : (x : Int) / (back : Int) = (Q : Int) := by rw [← hQ]; exact (Int.natCast_ediv x back).symm
          have hq1 : (Q : Int) * (back : Int) = (K : Int) := by rw [← hK]; exact (Int.natCast_mul Q back).symm
          have hQx : Q ≤ x := by rw [← hQ]; exact Nat.div_le_self _ _
          have hne : ((back : Int) == 0) = false := beq_eq_false_iff_ne.2 (by omega)
          have hKm : K % back = 0 := by rw [← hK]; exact Nat.mul_mod_left _ _
          have KM := Lib.hid hKm
          have hK0 : K = 0 → n - L < back := by
            intro h
            rw [← hK] at h
            rcases Nat.mul_eq_zero.1 h with h | h
            · rw [h] at hQ
              have := (Nat.div_eq_zero_iff_lt (by omega)).1 hQ
              omega
            · omega
          have K0 := Lib.hid hK0
          have HM := Lib.hid hmod
          have hxle : x ≤ L ∧ x ≤ n - L := by omega
          clear hQ hK hx hKm hK0 hmod
          by_cases hKz : K = 0
          · obtain ⟨y, hy⟩ : ∃ y : Nat, min (back : Int) ((n : Int) - L) = y := ⟨min back (n - L), by omega⟩
            have f3 := fun w => min2_int (P := Tryd.prog) #[3, 3] 3 _ _ _ hy w
            have hy2 : y = n - L := by have := K0.out hKz; omega
            have hyL : y ≤ L := by omega
            have hsl := fun w => slice_to A2 L c2 y hyL hc2 w
            have hk1 : ((K : Int) == 0) = true := beq_iff_eq.2 (by omega)
            have htk : y = ((cyc (content R a) back L).take y).length := by rw [List.length_take, cyc_length]; omega
            have HTK := Lib.hid htk
            have Y2 := Lib.hid hy2
            clear hy htk hy2
            go_wp2_with (at_builtin; refine wpList_append_bytes _ rfl (.tmp 86) (.tmp 89) 22 rfl 5 w.heap.size Tryd.underlying22 Tryd.info_u8 (.slice A2 L c2) (cyc (content R a) back L) rfl ?own2 A2 y c2 wr.heap.size ((cyc (content R a) back L).take y) rfl HTK.out ?row2 ?len2 ?base2 ?next2)
            case own2 => exact OL.out
            case row2 => exact R2.out.take y
            case len2 => rw [← HTK.out, cyc_length]; omega
            case base2 => exact BL.out.size
            case next2 =>
              intro v3 w3 hown3 hfrm3 hnew3
              have hb3 := BL.out.trans (hfrm3.below (B := w.heap.size) BL.out.size (fun q hq => (OL.out.lt hq).1))
              rw [cyc_more (by omega) HM.out hyL] at hown3
              obtain ⟨A3, c3, rfl, hc3, hm3, hr3⟩ := hown3.slice
              rw [cyc_length] at hown3
              have B3 := Lib.hid hb3
              have O3 := Lib.hid hown3
              clear hown3 hfrm3 hnew3 hb3 hr3
              rw [cyc_length]
              go_wp2
              go_roundg (n - (L + y))
              case measure => have := Y2.out; omega
              case rel => exact ⟨L + y, by omega, by omega, by have := Y2.out; omega, fun h => by have := Y2.out; omega, O3.out, B3.out⟩
          · have hk1 : ((K : Int) == 0) = false := beq_eq_false_iff_ne.2 (by omega)
            have hsl := fun w => slice_to A2 L c2 K (by omega) hc2 w
            have htk : K = ((cyc (content R a) back L).take K).length := by rw [List.length_take, cyc_length]; omega
            have HTK := Lib.hid htk
            clear htk
            go_wp2_with (at_builtin; refine wpList_append_bytes _ rfl (.tmp 86) (.tmp 89) 22 rfl 5 w.heap.size Tryd.underlying22 Tryd.info_u8 (.slice A2 L c2) (cyc (content R a) back L) rfl ?own3 A2 K c2 wr.heap.size ((cyc (content R a) back L).take K) rfl HTK.out ?row3 ?len3 ?base3 ?next3)
            case own3 => exact OL.out
            case row3 => exact R2.out.take K
            case len3 => rw [← HTK.out, cyc_length]; omega
            case base3 => exact BL.out.size
            case next3 =>
              intro v3 w3 hown3 hfrm3 hnew3
              have hb3 := BL.out.trans (hfrm3.below (B := w.heap.size) BL.out.size (fun q hq => (OL.out.lt hq).1))
              rw [cyc_more (by omega) HM.out (by omega)] at hown3
              obtain ⟨A3, c3, rfl, hc3, hm3, hr3⟩ := hown3.slice
              rw [cyc_length] at hown3
              have B3 := Lib.hid hb3
              have O3 := Lib.hid hown3
              clear hown3 hfrm3 hnew3 hb3 hr3
              rw [cyc_length]
              go_wp2
              go_roundg (n - (L + K))
              case measure => omega
              case rel => exact ⟨L + K, by omega, by omega, by omega, fun h => by rw [Nat.add_mod, HM.out, KM.out]; simp, O3.out, B3.out⟩
        · obtain rfl : L = n := by omega
          have hfB : Frm (fun _ => False) w wr := Frm.of_below BL.out
          have hWB : WinAt wr base b k S (.slice A0 R.length k0) R a := ⟨HW.out.p.frm hfB (by simp), HW.out.o.frm hfB (by simp), HW.out.n, HW.out.lt, HW.out.z⟩
          have hOff : BOff (fun x => x = b ∨ (Value.slice A0 R.length k0).ownBlock = some x) A2 (cyc (content R a) back L) := by
            intro h0 ad e hk
            have h5 := (OL.out.lt (k := ad.block) (by rw [e]; rfl)).1
            rcases hk with hk | hk
            · omega
            · have := (HW.out.o.lt hk).2; omega
          have WB := Lib.hid hWB
          have FB := Lib.hid hfB
          have OF := Lib.hid hOff
          clear hWB hfB hOff
          go_wp2_with (go_at_call 38
                       refine (put_any base b k S a c2 wr.heap.size L (.slice A0 R.length k0) R A2 (cyc (content R a) back L) wr WB.out (cyc_length _ _ _).symm R2.out OF.out (by rw [cyc_length]; exact hc2) M2.out (by rw [cyc_length]; exact hn) (Nat.le_trans hbase BL.out.size) hS2 (Nat.le_refl _)).mono ?_
                       rintro e w5 ⟨v', R', a', rfl, hw5, hc5, hf5, hn5⟩)
          go_ret2
          refine ⟨_, v', R', a', rfl, hw5, hc5, OL.out.frm hf5 (fun q hq hk => ?_), (FB.out.mono (fun _ _ h => h.elim)).trans hf5, ?_⟩
          · have h5 := (OL.out.lt hq).1
            rcases hk with hk | hk
            · omega
            · have := (HW.out.o.lt hk).2; omega
          · rcases hn5 with h | h
            · exact .inl h
            · exact .inr ⟨_, h, BL.out.size, fun e => by have := (OL.out.lt e).2; omega⟩
end Go.Proofs.YtffehfpbdcokbaaDoor
