/- Texts of this proof, put together: MaW, MaX, MaY, MaZ. -/
import Derived.Test.YtefbjamepbkklaaBu5
import Derived.Lib.SlBytesConst
set_option linter.unusedVariables false
set_option linter.unusedSimpArgs false
/- What the document says of three plain bytes; a window of no size. -/
namespace Go.Proofs.Ytefbjamepbkklaa
open Go.RowKit Rng Win Lz Fnd
set_option linter.unusedVariables false
set_option linter.unusedSimpArgs false
theorem enc_arg (A : Option Addr) (n c : Nat) (fr level : Int) (w : World) (h : fr < 0 ∨ (n : Int) < fr) : Calls Try.prog 8 #[.slice A n c, .int .i64 fr, .int .i64 level] w fun e w' => e = .returned (.tuple #[.slice none 0 0, .int .i64 2]) ∧ w = w' := by
  have h3 : fr < 0 ∨ (0 ≤ fr ∧ (n : Int) < fr) := by omega
  clear h
  rcases h3 with h | ⟨h, h4⟩
  all_goals
    go_enter Try.func8, Try.ntmps8
    go_wp2
    go_ret2
    exact ⟨rfl, rfl⟩
theorem dec_ok {S m u : Nat} {bs T r : List UInt8} {w w' : World} {e : Ending} (h : DecEnd S bs w e w') (hd : d2P S 16777216 bs = (T, .inr r)) (hm : T.length = m) (hu : bs.length - r.length = u) :
    ∃ A c, e = .returned (.tuple #[.slice A m c, .int .i64 (u : Int), .int .i64 0]) ∧ OwnB w' 5 w.heap.size (.slice A m c) T ∧ BRow w' w'.heap.size A T ∧ Below w.heap.size w w' := by
  subst hm; subst hu
  obtain ⟨v, h1, h2, h3⟩ := h
  rw [hd] at h1 h3
  obtain ⟨A, c, rfl, -, -, hr⟩ := h1.slice
  exact ⟨A, c, h3.2, h1, hr, h2⟩
theorem dec_err {S z m : Nat} {bs T : List UInt8} {w w' : World} {e : Ending} (h : DecEnd S bs w e w') (hd : d2P S 16777216 bs = (T, .inl z)) (hm : T.length = m) :
    ∃ A c, e = .returned (.tuple #[.slice A m c, .int .i64 0, .int .i64 ((z : Nat) : Int)]) ∧ OwnB w' 5 w.heap.size (.slice A m c) T ∧ BRow w' w'.heap.size A T ∧ Below w.heap.size w w' ∧ z ≠ 0 := by
  subst hm
  obtain ⟨v, h1, h2, h3⟩ := h
  rw [hd] at h1 h3
  obtain ⟨A, c, rfl, -, -, hr⟩ := h1.slice
  exact ⟨A, c, h3.2, h1, hr, h2, h3.1⟩
theorem dec_row (w : World) (bs : List UInt8) (cs : Array Value) (k S : Nat) (h : cs = (bs.map byteV).toArray) (hk : k = bs.length) (hb : bs.length ≤ 1000) (h1 : 1 ≤ S) (h2 : S ≤ 16777216) :
    Calls Try.prog 9 #[.slice (some ⟨w.heap.size, 0, none⟩) k k, .int .i64 (S : Int)] (w.alloc (.cells cs 5)) (DecEnd S bs (w.alloc (.cells cs 5))) :=
  decode_p _ bs k k S _ hk (by rw [World.size_alloc]; exact row_cells w _ bs _ h) (Nat.le_refl _) (by unfold maxLen; omega) (by omega) h1 h2
theorem row_cellsF (w : World) (T : TypeId) (fz : Nat × Nat) (bs : List UInt8) (cs : Array Value) (h : cs = (bs.map byteV).toArray) : BRow (w.alloc (.cells cs T fz)) (w.heap.size + 1) (some ⟨w.heap.size, 0, none⟩) bs := by
  intro _
  subst h
  refine ⟨w.heap.size, 0, rfl, Nat.lt_succ_self _, fun j hj => ?_⟩
  have hp := World.alloc_heap_new w (.cells (bs.map byteV).toArray T fz)
  have h : (w.alloc (.cells (bs.map byteV).toArray T fz)).cell? ⟨w.heap.size, 0 + j, none⟩ = (bs.map byteV).toArray[0 + j]? := by unfold World.cell?; simp only; rw [hp]; rfl
  rw [h, Nat.zero_add, List.getElem?_toArray, List.getElem?_map, List.getElem?_eq_getElem hj, List.getD_eq_getElem?_getD, List.getElem?_eq_getElem hj]
  rfl
def wk1 : List UInt8 := [1, 0, 2, 97, 98, 99, 0]
def wk2 : List UInt8 := [1, 0, 2, 97, 98]
def wk3 : List UInt8 := [2, 0, 2, 97, 98, 99, 0]
def abcM : List UInt8 := [97, 98, 99]
theorem wk1_d : d2P 9 16777216 wk1 = (abcM, .inr []) := by kernel_rfl
theorem wk2_d : d2P 9 16777216 wk2 = ([], .inl 10) := by kernel_rfl
theorem wk3_d : d2P 9 16777216 wk3 = ([], .inl 11) := by kernel_rfl
theorem wk4_d {x : List UInt8} (h : IsEnc abcM 0 x) : d2P 9 16777216 (x ++ [0]) = (abcM, .inr []) := by
  have := pieces_read 9 16777216 (b := abcM) (by decide) (by decide) (by decide) [x] ⟨3, by decide, by decide, h, rfl⟩
  simpa using this
set_option maxRecDepth 100000 in
set_option maxHeartbeats 4000000 in
theorem wakes16 (w : World) : Calls Try.prog 7 #[] w fun e w' => e = .returned (.bool true) ∧ Below w.heap.size w w' := by
  have hcv := fun (w : World) (C : Array Value) (n c : Nat) => Lib.run_convert_bytes_const (P := Try.prog) w 22 5 C n c Try.underlying22 Try.underlying5
  go_enter Try.func7, Try.ntmps7
  go_wp2_with fail
  refine (dec_row w wk1 _ 7 9 rfl rfl (by decide) (by omega) (by omega)).mono ?_; rintro e w1 hd
  obtain ⟨A1, c1, rfl, -, hr1, hb1⟩ := dec_ok (m := 3) (u := 7) hd wk1_d rfl rfl
  have R1 := Lib.hid hr1
  have B1 := Lib.hid ((below_alloc w _).trans (hb1.mono (below_alloc w _).size))
  clear hd hr1 hb1
  go_wp2_with fail
  refine (dec_row w1 wk2 _ 5 9 rfl rfl (by decide) (by omega) (by omega)).mono ?_; rintro e w2 hd
  obtain ⟨A2, c2, rfl, -, -, hb2, -⟩ := dec_err (m := 0) hd wk2_d rfl
  have hb := (below_alloc w1 (.cells #[.int .u8 1, .int .u8 0, .int .u8 2, .int .u8 97, .int .u8 98] 5)).trans (hb2.mono (below_alloc w1 _).size)
  have R2 := Lib.hid (R1.out.below hb)
  have B2 := Lib.hid (B1.out.trans (hb.mono B1.out.size))
  have Z2 := Lib.hid hb.size
  clear hd hb2 hb
  go_wp2_with fail
  refine (dec_row w2 wk3 _ 7 9 rfl rfl (by decide) (by omega) (by omega)).mono ?_; rintro e w3 hd
  obtain ⟨A3, c3, rfl, -, -, hb3, -⟩ := dec_err (m := 0) hd wk3_d rfl
  have hb := (below_alloc w2 (.cells #[.int .u8 2, .int .u8 0, .int .u8 2, .int .u8 97, .int .u8 98, .int .u8 99, .int .u8 0] 5)).trans (hb3.mono (below_alloc w2 _).size)
  have R3 := Lib.hid ((R2.out.more Z2.out).below hb)
  have B3 := Lib.hid (B2.out.trans (hb.mono B2.out.size))
  have Z3 := Lib.hid hb.size
  clear hd hb3 hb
  go_wp2_with fail
  refine (encode_p (some ⟨w3.heap.size, 0, none⟩) abcM 3 3 0 1 _ rfl (by decide) (by unfold maxLen; omega) (by rw [World.size_alloc]; exact row_cellsF w3 _ _ abcM _ rfl) (by decide) (by decide)).mono ?_
  rintro e w4 ⟨v, x, rfl, ho, hx, hb⟩
  have hb' := (below_alloc w3 (.cells #[.int .u8 97, .int .u8 98, .int .u8 99] 5 (3, 4))).trans (hb.mono (below_alloc w3 _).size)
  obtain ⟨A4, c4, rfl, hc4, hm4, hr4⟩ := ho.slice
  have R4 := Lib.hid ((R3.out.more Z3.out).below hb')
  have B4 := Lib.hid (B3.out.trans (hb'.mono B3.out.size))
  have Z4 := Lib.hid hb'.size
  have X4 := Lib.hid hx
  have RX := Lib.hid hr4
  obtain ⟨L, hL⟩ : ∃ L, x.length = L := ⟨_, rfl⟩
  have hLb : L ≤ 6 := by have := (isEnc_len hx).1; have h3 : abcM.length = 3 := rfl; omega
  rw [hL]
  have HL := Lib.hid hL
  clear ho hx hb hb' hc4 hm4 hr4 hL
  go_wp2_with (at_builtin; refine wpList_append_bytes _ rfl (.tmp 40) (.tmp 41) 22 rfl 5 w.heap.size Try.underlying22 Try.info_u8 (.slice (some ⟨w4.heap.size, 0, none⟩) 0 0) [] rfl ?own1 A4 L c4 w4.heap.size x rfl HL.out.symm ?row1 ?len1 ?base1 ?next1)
  case own1 => exact OwnB.made w4 _ _ (by have := B4.out.size; omega)
  case row1 => exact RX.out.below (below_alloc w4 _)
  case len1 => rw [HL.out]; simp; omega
  case base1 => have := B4.out.size; simp; omega
  case next1 =>
    intro v5 w5 hown5 hfrm5 hnew5
    have hb5 : Below w4.heap.size w4 w5 := (below_alloc w4 _).trans (hfrm5.below (by simp) (fun q hq => by have e : some w4.heap.size = some q := hq; injection e with e; omega))
    obtain ⟨A5, c5, hv5, -, -, -⟩ := hown5.slice
    rw [HL.out] at hv5
    subst hv5
    have O5 := Lib.hid hown5
    have O5n := Lib.hid hnew5
    have B5 := Lib.hid hb5
    clear hown5 hfrm5 hnew5 hb5
    go_wp2_with (at_builtin; refine wpList_append_bytes _ rfl (.tmp 42) (.tmp 43) 22 rfl 5 w.heap.size Try.underlying22 Try.info_u8 _ x rfl ?own2 (some ⟨w5.heap.size, 0, none⟩) 1 1 (w5.heap.size + 1) [0] rfl rfl ?row2 ?len2 ?base2 ?next2)
    case own2 => exact O5.out.alloc _
    case row2 => exact row_cells w5 _ [0] _ rfl
    case len2 => rw [HL.out]; simp; omega
    case base2 => have := B4.out.size; have := B5.out.size; simp; omega
    case next2 =>
      intro v6 w6 hown6 hfrm6 hnew6
      have hb6 : Below w4.heap.size w4 w6 := (B5.out.trans ((below_alloc w5 _).mono B5.out.size)).trans (hfrm6.below (by have := B5.out.size; simp; omega) (fun q hq => by
        rcases O5n.out with e | e
        · rw [e] at hq; have e2 : some w4.heap.size = some q := hq; injection e2 with e2; omega
        · rw [e] at hq; have e2 : w4.heap.size + 1 = q := Option.some.inj hq
          omega))
      obtain ⟨A6, c6, hv6, hc6, hm6, hr6⟩ := hown6.slice
      have e6 : (x ++ [0]).length = L + 1 := by rw [List.length_append, HL.out]; rfl
      obtain ⟨L1, hL1⟩ : ∃ L1, L + 1 = L1 := ⟨_, rfl⟩
      rw [e6, hL1] at hv6
      subst hv6
      have hB6 := B4.out.trans (hb6.mono B4.out.size)
      have R6 := Lib.hid ((R4.out.more Z4.out).below hb6)
      have B6 := Lib.hid hB6
      have Z6 := Lib.hid hb6.size
      have HD := Lib.hid (decode_p A6 (x ++ [0]) L1 c6 9 w6 (by rw [e6, hL1]) hr6 (by rw [← hL1, ← e6]; exact hc6) hm6 (by omega) (by omega) (by omega))
      have E6 := Lib.hid (And.intro e6 hL1)
      clear hown6 hfrm6 hnew6 hb6 hc6 hm6 hr6 hB6 e6 hL1
      go_wp2_with fail
      refine HD.out.mono ?_; rintro e w7 hd
      obtain ⟨A7, c7, rfl, -, hr7, hb7⟩ := dec_ok (m := 3) (u := L1) hd (wk4_d X4.out) rfl (by rw [E6.out.1, E6.out.2]; rfl)
      have R7 := Lib.hid ((R6.out.more Z6.out).below hb7)
      have B7 := Lib.hid (B6.out.trans (hb7.mono B6.out.size))
      have RD7 := Lib.hid hr7
      clear hd hr7 hb7
      have k1 := run_conv_bytes (P := Try.prog) w7 22 9 5 Try.underlying22 Try.underlying5 Try.underlying9 A1 3 c1 _ abcM rfl R7.out
      have k2 := run_conv_bytes (P := Try.prog) w7 22 9 5 Try.underlying22 Try.underlying5 Try.underlying9 A7 3 c7 _ abcM rfl RD7.out
      have e3 : abcM.toArray = #[97, 98, 99] := rfl
      rw [e3] at k1 k2
      clear e3
      have j1 : (L : Int) + 1 = (L1 : Int) := by have := E6.out.2; omega
      have v1 : IntKind.i64.wrap (L1 : Int) = (L1 : Int) := Go.IntWalk.i64_in _ (by have := E6.out.2; omega)
      go_wp2
      go_ret
      exact ⟨rfl, B7.out⟩
set_option maxHeartbeats 2000000 in
theorem lawSizes16 (A : Option Addr) (n c : Nat) (f : Nat → Int) (S : Int) (w : World) (hl : n ≤ c) (hm : c ≤ maxLen) (hr0 : Opn.RowAt w w.heap.size A n (fun i => .int .u8 (f i))) (hf : ∀ i, i < n → 0 ≤ f i ∧ f i ≤ 255)
    (hx : -9223372036854775808 ≤ S ∧ S ≤ 9223372036854775807) :
    Calls Try.prog 6 #[.slice A n c, .int .i64 S] w fun e w' => e = .returned (.bool true) ∧ Below w.heap.size w w' := by
  clear hr0 hf hl hm
  have h3 : S < 1 ∨ (1 ≤ S ∧ S ≤ 16777216) ∨ (1 ≤ S ∧ 16777216 < S) := by omega
  rcases h3 with h | ⟨h, h2⟩ | ⟨h, h2⟩
  · have HD := Lib.hid (decode_arg A n c S w (.inl h))
    go_enter Try.func6, Try.ntmps6
    go_wp2_with fail
    refine HD.out.mono ?_; rintro e w1 ⟨rfl, hb1⟩
    have B1 := Lib.hid hb1
    clear hb1
    go_wp2_with fail
    refine (wakes16 w1).mono ?_; rintro e w2 ⟨rfl, hb2⟩
    have B2 := Lib.hid (B1.out.trans (hb2.mono B1.out.size))
    clear hb2
    go_wp2
    go_ret
    exact ⟨rfl, B2.out⟩
  · obtain ⟨T, hT⟩ : ∃ T, -S = T := ⟨_, rfl⟩
    have hw : IntKind.i64.wrap T = T := Go.IntWalk.i64_in _ (by omega)
    have HD := Lib.hid (decode_arg A n c T w (.inl (by omega)))
    go_enter Try.func6, Try.ntmps6
    go_wp2_with fail
    refine HD.out.mono ?_; rintro e w1 ⟨rfl, hb1⟩
    have B1 := Lib.hid hb1
    clear hb1
    go_wp2_with fail
    refine (wakes16 w1).mono ?_; rintro e w2 ⟨rfl, hb2⟩
    have B2 := Lib.hid (B1.out.trans (hb2.mono B1.out.size))
    clear hb2
    go_wp2
    go_ret
    exact ⟨rfl, B2.out⟩
  · have HD := Lib.hid (decode_arg A n c S w (.inr h2))
    go_enter Try.func6, Try.ntmps6
    go_wp2_with fail
    refine HD.out.mono ?_; rintro e w1 ⟨rfl, hb1⟩
    have B1 := Lib.hid hb1
    clear hb1
    go_wp2_with fail
    refine (wakes16 w1).mono ?_; rintro e w2 ⟨rfl, hb2⟩
    have B2 := Lib.hid (B1.out.trans (hb2.mono B1.out.size))
    clear hb2
    go_wp2
    go_ret
    exact ⟨rfl, B2.out⟩
end Go.Proofs.Ytefbjamepbkklaa

/- What is encoded is small. -/
namespace Go.Proofs.Ytefbjamepbkklaa
open Go.RowKit Rng Win Lz Fnd
set_option linter.unusedVariables false
set_option linter.unusedSimpArgs false
set_option maxRecDepth 8000 in
set_option maxHeartbeats 4000000 in
theorem lawSmall16 (A : Option Addr) (n c : Nat) (f : Nat → Int) (fr lvl : Int) (w : World) (hl : n ≤ c) (hm : c ≤ maxLen) (hr0 : Opn.RowAt w w.heap.size A n (fun i => .int .u8 (f i))) (hf : ∀ i, i < n → 0 ≤ f i ∧ f i ≤ 255)
    (hx : -9223372036854775808 ≤ fr ∧ fr ≤ 9223372036854775807) (hy : -9223372036854775808 ≤ lvl ∧ lvl ≤ 9223372036854775807) :
    Calls Try.prog 4 #[.slice A n c, .int .i64 fr, .int .i64 lvl] w fun e w' => e = .returned (.bool true) ∧ Below w.heap.size w w' := by
  obtain ⟨bs, hbs, hr⟩ := BRow.of_row hr0 hf
  have HR := Lib.hid hr
  have HN := Lib.hid hbs.symm
  have HLC : Hid (bs.length ≤ c ∧ c ≤ maxLen) := Lib.hid ⟨by omega, hm⟩
  clear hr0 hf hr hbs hm hx hy
  by_cases hn : 16384 < n
  · have q1 : (16384 : Int) < (n : Int) := by omega
    clear hn hl
    go_enter Try.func4, Try.ntmps4
    go_wp2_with fail
    refine (wakes16 w).mono ?_; rintro e w2 ⟨rfl, hb2⟩
    have B2 := Lib.hid hb2
    clear hb2
    go_wp2
    go_ret
    exact ⟨rfl, B2.out⟩
  · have q1 : (n : Int) ≤ 16384 := by omega
    have HB := Lib.hid (show bs.length ≤ 16384 by have := HN.out; omega)
    have h3 : (fr < 0 ∨ (0 ≤ fr ∧ (n : Int) < fr)) ∨ (0 ≤ fr ∧ fr ≤ (n : Int)) := by omega
    clear hn hl
    rcases h3 with h3 | ⟨h3, h4⟩
    · have HE := Lib.hid (enc_arg A n c fr lvl w (by omega))
      rcases h3 with h5 | ⟨h5, h6⟩
      all_goals
        go_enter Try.func4, Try.ntmps4
        go_wp2_with fail
        refine HE.out.mono ?_; rintro e w1 ⟨rfl, hw⟩
        subst hw
        go_wp2_with fail
        refine (wakes16 w).mono ?_; rintro e w2 ⟨rfl, hb2⟩
        have B2 := Lib.hid hb2
        clear hb2
        go_wp2
        go_ret
        exact ⟨rfl, B2.out⟩
    · obtain ⟨q, rfl⟩ : ∃ q : Nat, fr = (q : Int) := ⟨fr.toNat, by omega⟩
      have HE := Lib.hid (encode_p A bs n c q lvl w HN.out HLC.out.1 HLC.out.2 HR.out HB.out (by have := HN.out; omega))
      obtain ⟨N, hN⟩ : ∃ N : Nat, n - q = N := ⟨_, rfl⟩
      have iN : (n : Int) - (q : Int) = (N : Int) := by omega
      have wN : IntKind.i64.wrap (N : Int) = (N : Int) := Go.IntWalk.i64_in _ (by omega)
      have HNN := Lib.hid (And.intro hN (show q ≤ n by omega))
      obtain ⟨D, hD⟩ : ∃ D : Nat, N / 1000 = D := ⟨_, rfl⟩
      have iD : (N : Int) / 1000 = (D : Int) := by omega
      have iD2 : (N : Int).tdiv 1000 = (D : Int) := by rw [Int.tdiv_eq_ediv_of_nonneg (by omega)]; exact iD
      obtain ⟨M1, hM1⟩ : ∃ x, N + D = x := ⟨_, rfl⟩
      obtain ⟨M2, hM2⟩ : ∃ x, M1 + 16 = x := ⟨_, rfl⟩
      have j1 : (N : Int) + (D : Int) = (M1 : Int) := by omega
      have j2 : (M1 : Int) + 16 = (M2 : Int) := by omega
      have v0 : IntKind.i64.wrap (D : Int) = (D : Int) := Go.IntWalk.i64_in _ (by omega)
      have v1 : IntKind.i64.wrap (M1 : Int) = (M1 : Int) := Go.IntWalk.i64_in _ (by omega)
      have v2 : IntKind.i64.wrap (M2 : Int) = (M2 : Int) := Go.IntWalk.i64_in _ (by omega)
      have HM := Lib.hid (And.intro hM1 hM2)
      clear hN hD hM1 hM2
      go_enter Try.func4, Try.ntmps4
      go_wp2_with fail
      refine HE.out.mono ?_; rintro e w1 ⟨v, x, rfl, ho, hx, hb⟩
      obtain ⟨A1, c1, hv, hc1, hm1, hr1⟩ := ho.slice
      obtain ⟨L, hL⟩ : ∃ L, x.length = L := ⟨_, rfl⟩
      have hle := (isEnc_len hx).1
      have htold := told_enc (by have := HB.out; omega) hx
      rw [hL] at hle hv hc1
      subst hv
      have HT := Lib.hid (told_p A1 x L c1 w1 hL.symm hr1 hc1 (by have := HN.out; have := HB.out; omega))
      rw [htold, show bs.length - q = N by have := HN.out; have := HNN.out; omega] at HT
      have qL : (L : Int) ≤ (M2 : Int) := by have := HM.out; have := HN.out; have := HNN.out; omega
      have B1 := Lib.hid hb
      clear ho hx hb hr1 hL hle htold hc1 hm1
      go_wp2_with fail
      refine HT.out.mono ?_; rintro e w2 ⟨rfl, hb2⟩
      have B2 := Lib.hid (B1.out.trans (hb2.mono B1.out.size))
      clear hb2
      go_wp2_with fail
      refine (wakes16 w2).mono ?_; rintro e w3 ⟨rfl, hb3⟩
      have B3 := Lib.hid (B2.out.trans (hb3.mono B2.out.size))
      clear hb3
      go_wp2
      go_ret
      exact ⟨rfl, B3.out⟩
end Go.Proofs.Ytefbjamepbkklaa

/- Chunks that are taken, cut anywhere; with something behind. -/
namespace Go.Proofs.Ytefbjamepbkklaa
open Go.RowKit Rng Win Lz
set_option linter.unusedVariables false
set_option linter.unusedSimpArgs false
theorem mod_idx16 (x : Int) (L : Nat) (h0 : 0 < L) (hL : L ≤ 4194304) : ∃ (r : Int) (k : Nat), x.tmod (L : Int) = r ∧ -4194305 ≤ r ∧ 0 ≤ r + L ∧ r ≤ 4194305 ∧ (r + (L : Int)) % (L : Int) = k ∧ k < L := by
  have a1 := Int.tmod_lt_of_pos x (show (0 : Int) < (L : Int) by omega)
  have a2 := Int.lt_tmod_of_pos x (show (0 : Int) < (L : Int) by omega)
  have h := Int.emod_nonneg (x.tmod (L : Int) + (L : Int)) (show (L : Int) ≠ 0 by omega)
  have h2 := Int.emod_lt_of_pos (x.tmod (L : Int) + (L : Int)) (show (0 : Int) < (L : Int) by omega)
  exact ⟨_, ((x.tmod (L : Int) + (L : Int)) % (L : Int)).toNat, rfl, by omega, by omega, by omega, by omega, by omega⟩
set_option maxRecDepth 8000 in
set_option maxHeartbeats 8000000 in
theorem lawCut16 (A : Option Addr) (n c : Nat) (f : Nat → Int) (S cut : Int) (w : World) (hl : n ≤ c) (hm : c ≤ maxLen) (hr0 : Opn.RowAt w w.heap.size A n (fun i => .int .u8 (f i))) (hf : ∀ i, i < n → 0 ≤ f i ∧ f i ≤ 255)
    (hx : -9223372036854775808 ≤ S ∧ S ≤ 9223372036854775807) (hy : -9223372036854775808 ≤ cut ∧ cut ≤ 9223372036854775807) :
    Calls Try.prog 5 #[.slice A n c, .int .i64 S, .int .i64 cut] w fun e w' => e = .returned (.bool true) ∧ Below w.heap.size w w' := by
  obtain ⟨bs, hbs, hr⟩ := BRow.of_row hr0 hf
  have HR := Lib.hid hr
  have HN := Lib.hid hbs.symm
  have HLC : Hid (n ≤ c ∧ c ≤ maxLen) := Lib.hid ⟨hl, hm⟩
  clear hr0 hf hr hbs hm hx hl
  by_cases hn : 16384 < n
  · have q1 : (16384 : Int) < (n : Int) := by omega
    clear hn
    go_enter Try.func5, Try.ntmps5
    go_wp2_with fail
    refine (wakes16 w).mono ?_; rintro e w2 ⟨rfl, hb2⟩
    have B2 := Lib.hid hb2
    clear hb2
    go_wp2
    go_ret
    exact ⟨rfl, B2.out⟩
  · have q1 : (n : Int) ≤ 16384 := by omega
    have HB := Lib.hid (show n ≤ 16384 by omega)
    have HT := Lib.hid (told_p A bs n c w HN.out HR.out HLC.out.1 (by omega))
    obtain ⟨R, hR⟩ : ∃ R, toldP bs = R := ⟨_, rfl⟩
    rw [hR] at HT
    clear hn hR
    by_cases hbig : 131072 < R
    · have q2 : (131072 : Int) < (R : Int) := by omega
      clear hbig
      go_enter Try.func5, Try.ntmps5
      go_wp2_with fail
      refine HT.out.mono ?_; rintro e w1 ⟨rfl, hb1⟩
      have B1 := Lib.hid hb1
      clear hb1
      go_wp2_with fail
      refine (wakes16 w1).mono ?_; rintro e w2 ⟨rfl, hb2⟩
      have B2 := Lib.hid (B1.out.trans (hb2.mono B1.out.size))
      clear hb2
      go_wp2
      go_ret
      exact ⟨rfl, B2.out⟩
    · have q2 : (R : Int) ≤ 131072 := by omega
      clear hbig
      by_cases hS : S < 1 ∨ 16777216 < S
      · have HA := Lib.hid hS
        clear hS
        go_enter Try.func5, Try.ntmps5
        go_wp2_with fail
        refine HT.out.mono ?_; rintro e w1 ⟨rfl, hb1⟩
        have B1 := Lib.hid hb1
        clear hb1
        go_wp2_with fail
        refine (decode_arg A n c S w1 HA.out).mono ?_; rintro e w2 ⟨rfl, hb2⟩
        have B2 := Lib.hid (B1.out.trans (hb2.mono B1.out.size))
        clear hb2
        go_wp2_with fail
        refine (wakes16 w2).mono ?_; rintro e w3 ⟨rfl, hb3⟩
        have B3 := Lib.hid (B2.out.trans (hb3.mono B2.out.size))
        clear hb3
        go_wp2
        go_ret
        exact ⟨rfl, B3.out⟩
      · obtain ⟨sz, rfl⟩ : ∃ sz : Nat, S = (sz : Int) := ⟨S.toNat, by omega⟩
        have HSZ := Lib.hid (show 1 ≤ sz ∧ sz ≤ 16777216 by omega)
        clear hS
        cases hd2 : d2P sz 16777216 bs with
        | mk T Rr =>
          cases Rr with
          | inl z =>
            go_enter Try.func5, Try.ntmps5
            go_wp2_with fail
            refine HT.out.mono ?_; rintro e w1 ⟨rfl, hb1⟩
            have B1 := Lib.hid hb1
            clear hb1
            go_wp2_with fail
            refine (decode_p A bs n c sz w1 HN.out ((HR.out.below B1.out).more B1.out.size) HLC.out.1 HLC.out.2 (by have := HB.out; omega) HSZ.out.1 HSZ.out.2).mono ?_; rintro e w2 hdd
            obtain ⟨A2, c2, rfl, -, -, hb2, hz⟩ := dec_err (m := T.length) hdd hd2 rfl
            have qz : ((z : Int) != 0) = true := bne_iff_ne.2 (by omega)
            have B2 := Lib.hid (B1.out.trans (hb2.mono B1.out.size))
            clear hb2 hz hdd hd2
            go_wp2_with fail
            refine (wakes16 w2).mono ?_; rintro e w3 ⟨rfl, hb3⟩
            have B3 := Lib.hid (B2.out.trans (hb3.mono B2.out.size))
            clear hb3
            go_wp2
            go_ret
            exact ⟨rfl, B3.out⟩
          | inr r =>
            obtain ⟨N, hN1, hN2, hrN, hcutk, hmore⟩ := d2P_cut hd2
            obtain ⟨u, hu⟩ : ∃ u, bs.length - r.length = u := ⟨_, rfl⟩
            have huN : u = N := by rw [← hu, hrN, List.length_drop]; omega
            subst huN
            obtain ⟨rr, k, hmod, hr1, hr2, hr3, hidx, hk⟩ := mod_idx16 cut u (by omega) (by have := HB.out; have := HN.out; omega)
            obtain ⟨r5, hr5⟩ : ∃ r5 : Int, rr + (u : Int) = r5 := ⟨_, rfl⟩
            rw [hr5] at hidx hr2
            have hr5w : IntKind.i64.wrap r5 = r5 := Go.IntWalk.i64_in _ (by have := HB.out; have := HN.out; omega)
            have hrw : IntKind.i64.wrap rr = rr := Go.IntWalk.i64_in _ (by omega)
            have hkw : IntKind.i64.wrap (k : Int) = (k : Int) := Go.IntWalk.i64_in _ (by have := HB.out; have := HN.out; omega)
            obtain ⟨T', more, hT', hTm⟩ := hcutk k hk
            have hM := hmore bs
            have hu0 : ((u : Int) == 0) = false := beq_eq_false_iff_ne.2 (by omega)
            have hu1 : (1 : Int) ≤ (u : Int) := by omega
            have hu2 : (u : Int) ≤ (n : Int) := by have := HN.out; omega
            have hk0 : (k : Int) ≤ (n : Int) := by have := HN.out; omega
            obtain ⟨Lx, hLx⟩ : ∃ L, T.length = L := ⟨_, rfl⟩
            obtain ⟨Ly, hLy⟩ : ∃ L, T'.length = L := ⟨_, rfl⟩
            have hLxy : (Ly : Int) ≤ (Lx : Int) := by rw [← hLx, ← hLy, hTm, List.length_append]; omega
            have hTt : T.take Ly = T' := by rw [hTm, ← hLy, List.take_append_of_le_length (Nat.le_refl _), List.take_length]
            have HTT := Lib.hid (And.intro hTt (And.intro hLx hLy))
            have HD1 := Lib.hid hd2
            have HD2 := Lib.hid hT'
            have HD3 := Lib.hid hM
            have HU := Lib.hid (And.intro hN1 (And.intro hN2 (And.intro hu hk)))
            clear hd2 hT' hM hTm hTt hLx hLy hcutk hmore hrN hN1 hN2 hu hk
            have hsl := fun w => slice_to A n c u (by have := HN.out; have := HU.out; omega) HLC.out.1 w
            have hslk := fun w => slice_to A n c k (by have := HN.out; have := HU.out; omega) HLC.out.1 w
            go_enter Try.func5, Try.ntmps5
            go_wp2_with fail
            refine HT.out.mono ?_; rintro e w1 ⟨rfl, hb1⟩
            have B1 := Lib.hid hb1
            clear hb1
            go_wp2_with fail
            refine (decode_p A bs n c sz w1 HN.out ((HR.out.below B1.out).more B1.out.size) HLC.out.1 HLC.out.2 (by have := HB.out; omega) HSZ.out.1 HSZ.out.2).mono ?_; rintro e w2 hdd
            obtain ⟨Ax, cx, rfl, hox, hrx, hb2⟩ := dec_ok (m := Lx) (u := u) hdd HD1.out HTT.out.2.1 HU.out.2.2.1
            have B2 := Lib.hid (B1.out.trans (hb2.mono B1.out.size))
            have RX := Lib.hid hrx
            have hcx : Lx ≤ cx := by
              obtain ⟨A0, c0, e0, h0, -, -⟩ := hox.slice
              injection e0 with e1 e2 e3
              rw [HTT.out.2.1] at h0
              omega
            clear hb2 hdd hox hrx
            go_wp2_with fail
            refine (decode_p A (bs.take k) k c sz w2 (by rw [List.length_take]; have := HU.out; omega) (((HR.out.below B2.out).more B2.out.size).take k) (by have := HLC.out; have := HU.out; have := HN.out; omega) HLC.out.2 (by have := HB.out; have := HU.out; have := HN.out; omega) HSZ.out.1 HSZ.out.2).mono ?_; rintro e w3 hdd
            obtain ⟨Ay, cy, rfl, -, hry, hb3, -⟩ := dec_err (m := Ly) hdd HD2.out HTT.out.2.2
            have B3 := Lib.hid (B2.out.trans (hb3.mono B2.out.size))
            have RX3 := Lib.hid (RX.out.below hb3)
            have RY3 := Lib.hid hry
            have Z3 := Lib.hid hb3.size
            clear hb3 hdd hry
            go_wp2_with (at_builtin; refine wpList_append_bytes _ rfl (.tmp 65) (.tmp 68) 22 rfl 5 w.heap.size Try.underlying22 Try.info_u8 (.slice (some ⟨w3.heap.size, 0, none⟩) 0 0) [] rfl ?own1 A u c w.heap.size (bs.take u) rfl ?lenn ?row1 ?len1 ?base1 ?next1)
            case own1 => exact OwnB.made w3 _ _ (by have := B3.out.size; omega)
            case lenn => rw [List.length_take]; have := HU.out; omega
            case row1 => exact ((HR.out.below B3.out).below ((below_alloc w3 _).mono B3.out.size)).take u
            case len1 => rw [List.length_take]; have := HU.out; have := HB.out; have := HN.out; simp; omega
            case base1 => have := B3.out.size; simp; omega
            case next1 =>
              intro v4 w4 hown4 hfrm4 hnew4
              have hb4 : Below w3.heap.size w3 w4 := (below_alloc w3 _).trans (hfrm4.below (by simp) (fun q hq => by have e : some w3.heap.size = some q := hq; injection e with e; omega))
              obtain ⟨A4, c4, hv4, -, -, -⟩ := hown4.slice
              have e4 : (bs.take u).length = u := by rw [List.length_take]; have := HU.out; omega
              rw [e4] at hv4
              subst hv4
              have O4 := Lib.hid hown4
              have O4n : Hid (∀ q, (Value.slice A4 u c4).ownBlock = some q → w3.heap.size ≤ q) := Lib.hid (by
                intro q hq
                rcases hnew4 with e | e
                · rw [e] at hq; have e2 : some w3.heap.size = some q := hq; injection e2 with e2; omega
                · rw [e] at hq; have e2 : w3.heap.size + 1 = q := Option.some.inj hq; omega)
              have B4 := Lib.hid hb4
              have E4 := Lib.hid e4
              clear hown4 hfrm4 hnew4 hb4 e4
              go_wp2_with (at_builtin; refine wpList_append_bytes _ rfl (.tmp 69) (.tmp 70) 22 rfl 5 w.heap.size Try.underlying22 Try.info_u8 _ (bs.take u) rfl ?own2 A n c w.heap.size bs rfl HN.out ?row2 ?len2 ?base2 ?next2)
              case own2 => exact O4.out
              case row2 => exact (HR.out.below B3.out).below (B4.out.mono B3.out.size)
              case len2 => rw [E4.out]; have := HU.out; have := HB.out; have := HN.out; omega
              case base2 => exact Nat.le_trans B3.out.size B4.out.size
              case next2 =>
                intro v5 w5 hown5 hfrm5 hnew5
                have hb5 : Below w3.heap.size w3 w5 := B4.out.trans (hfrm5.below B4.out.size (fun q hq => O4n.out q hq))
                obtain ⟨A5, c5, hv5, hc5, hm5, hr5x⟩ := hown5.slice
                obtain ⟨L5, hL5⟩ : ∃ L5, u + n = L5 := ⟨_, rfl⟩
                have e5 : (bs.take u ++ bs).length = L5 := by rw [List.length_append, E4.out]; have := HN.out; omega
                rw [e5] at hv5 hc5
                subst hv5
                have hb5' : Below w.heap.size w w5 := B3.out.trans (hb5.mono B3.out.size)
                have B5 := Lib.hid hb5'
                have RX5 := Lib.hid ((RX3.out.more Z3.out).below hb5)
                have RY5 := Lib.hid (RY3.out.below hb5)
                have Z5 := Lib.hid hb5.size
                have HD := Lib.hid (decode_p A5 (bs.take u ++ bs) L5 c5 sz w5 e5.symm hr5x hc5 hm5 (by have := HU.out; have := HB.out; have := HN.out; omega) HSZ.out.1 HSZ.out.2)
                have E5 := Lib.hid (And.intro e5 hL5)
                clear hown5 hfrm5 hnew5 hb5 hb5' hc5 hm5 hr5x e5 hL5
                go_wp2_with fail
                refine HD.out.mono ?_; rintro e w6 hdd
                obtain ⟨A6, c6, rfl, -, hr6, hb6⟩ := dec_ok (m := Lx) (u := u) hdd HD3.out HTT.out.2.1 (by rw [E5.out.1]; have := HN.out; have := E5.out.2; omega)
                have B6 := Lib.hid (B5.out.trans (hb6.mono B5.out.size))
                have RX6 := Lib.hid ((RX5.out.more Z5.out).below hb6)
                have RY6 := Lib.hid ((RY5.out.more Z5.out).below hb6)
                have RM6 := Lib.hid hr6
                clear hb6 hdd hr6
                have hLy2 : Ly ≤ Lx := by omega
                have hss := fun w => slice_to Ax Lx cx Ly hLy2 hcx w
                have k1 := fun dd => run_conv_bytes (P := Try.prog) (w6.drewN dd) 22 9 5 Try.underlying22 Try.underlying5 Try.underlying9 Ay Ly cy _ T' HTT.out.2.2.symm (BRow.drewN RY6.out dd)
                have k2 := fun dd => run_conv_bytes (P := Try.prog) (w6.drewN dd) 22 9 5 Try.underlying22 Try.underlying5 Try.underlying9 Ax Ly cx _ T' HTT.out.2.2.symm (BRow.drewN (by have := RX6.out.take Ly; rw [HTT.out.1] at this; exact this) dd)
                have k3 := fun dd => run_conv_bytes (P := Try.prog) (w6.drewN dd) 22 9 5 Try.underlying22 Try.underlying5 Try.underlying9 Ax Lx cx _ T HTT.out.2.1.symm (BRow.drewN RX6.out dd)
                have k4 := fun dd => run_conv_bytes (P := Try.prog) (w6.drewN dd) 22 9 5 Try.underlying22 Try.underlying5 Try.underlying9 A6 Lx c6 _ T HTT.out.2.1.symm (BRow.drewN RM6.out dd)
                obtain ⟨s1, hs1⟩ : ∃ s, T'.toArray = s := ⟨_, rfl⟩
                obtain ⟨s2, hs2⟩ : ∃ s, T.toArray = s := ⟨_, rfl⟩
                rw [hs1] at k1 k2
                rw [hs2] at k3 k4
                clear hs1 hs2 hLy2
                go_wp2
                refine QTail.wp_region_qtail_lit 40 (by kernel_rfl) (by kernel_rfl) ?_
                simp only [List.take_succ_cons, List.take_zero, List.drop_succ_cons, List.drop_zero]
                repeat (go_big_quiet_step (fail))
                refine wpQuiet_nil ?_
                rintro w' ⟨nq, rfl⟩
                go_wp2_with fail
                refine (wakes16 _).mono ?_; rintro e w7 ⟨rfl, b7⟩
                have B7 := Lib.hid ((below_drewN B6.out nq).trans (b7.mono (below_drewN B6.out nq).size))
                clear b7
                go_wp2
                go_ret
                exact ⟨rfl, B7.out⟩
end Go.Proofs.Ytefbjamepbkklaa

/- What is encoded is read as it was, however the text is cut. -/
namespace Go.Proofs.Ytefbjamepbkklaa
open Go.RowKit Rng Win Lz
set_option linter.unusedVariables false
set_option linter.unusedSimpArgs false
/-- Stretches of a text, from one place tq9 another. -/
def Chain (b : List UInt8) : Nat → Nat → List (List UInt8) → Prop
  | a, e, [] => a = e
  | a, e, x :: xs => ∃ m, a ≤ m ∧ m ≤ b.length ∧ IsEnc (b.take m) a x ∧ Chain b m e xs
theorem chain_snoc {b : List UInt8} {e m : Nat} {y : List UInt8} (h1 : e ≤ m) (h2 : m ≤ b.length) (hy : IsEnc (b.take m) e y) : ∀ (xs : List (List UInt8)) (a : Nat), Chain b a e xs → Chain b a m (xs ++ [y])
  | [], a, h => by
    have h : a = e := h
    subst h
    exact ⟨m, h1, h2, hy, rfl⟩
  | x :: xs, a, ⟨k, k1, k2, k3, k4⟩ => ⟨k, k1, k2, k3, chain_snoc h1 h2 hy xs k k4⟩
theorem chain_pieces {b : List UInt8} : ∀ (xs : List (List UInt8)) (a : Nat), Chain b a b.length xs → Pieces b a xs
  | [], a, h => h
  | x :: xs, a, ⟨k, k1, k2, k3, k4⟩ => ⟨k, k1, k2, k3, chain_pieces xs k k4⟩
theorem nums_cell {w w' : World} {A : Option Addr} {n : Nat} {f : Nat → Int} (h : Opn.RowAt w w.heap.size A n (fun i => .int .i64 (f i))) (hb : Below w.heap.size w w') {i : Nat} (hi : i < n) :
    ∃ b off, A = some ⟨b, off, none⟩ ∧ w'.cell? ⟨b, off + i, none⟩ = some (.int .i64 (f i)) := by
  obtain ⟨b, off, rfl, hlt, hc⟩ := h (by omega)
  exact ⟨b, off, rfl, (World.cell?_of_block (hb.block b hlt)).trans (hc i hi)⟩
set_option maxRecDepth 8000 in
set_option maxHeartbeats 8000000 in
theorem lawBack16 (A : Option Addr) (n c : Nat) (f : Nat → Int) (A1 : Option Addr) (n1 c1 : Nat) (f1 : Nat → Int) (A2 : Option Addr) (n2 c2 : Nat) (f2 : Nat → Int) (w : World)
    (hl : n ≤ c) (hm : c ≤ maxLen) (hr0 : Opn.RowAt w w.heap.size A n (fun i => .int .u8 (f i))) (hf : ∀ i, i < n → 0 ≤ f i ∧ f i ≤ 255)
    (hl1 : n1 ≤ c1) (hm1 : c1 ≤ maxLen) (hr1 : Opn.RowAt w w.heap.size A1 n1 (fun i => .int .i64 (f1 i))) (hf1 : ∀ i, i < n1 → -9223372036854775808 ≤ f1 i ∧ f1 i ≤ 9223372036854775807)
    (hl2 : n2 ≤ c2) (hm2 : c2 ≤ maxLen) (hr2 : Opn.RowAt w w.heap.size A2 n2 (fun i => .int .i64 (f2 i))) (hf2 : ∀ i, i < n2 → -9223372036854775808 ≤ f2 i ∧ f2 i ≤ 9223372036854775807) :
    Calls Try.prog 3 #[.slice A n c, .slice A1 n1 c1, .slice A2 n2 c2] w fun e w' => e = .returned (.bool true) ∧ Below w.heap.size w w' := by
  obtain ⟨bs, hbs, hr⟩ := BRow.of_row hr0 hf
  have HR := Lib.hid hr
  have HN := Lib.hid hbs.symm
  have HLC : Hid (n ≤ c ∧ c ≤ maxLen) := Lib.hid ⟨hl, hm⟩
  have HR1 := Lib.hid hr1
  have HR2 := Lib.hid hr2
  clear hr0 hf hr hbs hm hl hl1 hm1 hf1 hl2 hm2 hf2 hr1 hr2
  by_cases hbig : 16384 < n ∨ 6 < n2 ∨ 7 < n1
  · have h3 : (16384 : Int) < (n : Int) ∨ ((n : Int) ≤ 16384 ∧ (6 : Int) < (n2 : Int)) ∨ ((n : Int) ≤ 16384 ∧ (n2 : Int) ≤ 6 ∧ (7 : Int) < (n1 : Int)) := by omega
    clear hbig
    rcases h3 with h | ⟨h, h2⟩ | ⟨h, h2, h3⟩
    all_goals
      go_enter Try.func3, Try.ntmps3
      go_wp2_with fail
      refine (wakes16 w).mono ?_; rintro e w2 ⟨rfl, hb2⟩
      have B2 := Lib.hid hb2
      clear hb2
      go_wp2
      go_ret
      exact ⟨rfl, B2.out⟩
  · have q1 : (n : Int) ≤ 16384 := by omega
    have q2 : (n2 : Int) ≤ 6 := by omega
    have q3 : (n1 : Int) ≤ 7 := by omega
    have HB := Lib.hid (show n ≤ 16384 ∧ n2 ≤ 6 ∧ n1 ≤ 7 by omega)
    clear hbig
    go_enter Try.func3, Try.ntmps3
    go_wp2
    clear q1 q2 q3
    go_loopg [7, 8, 9] (n2 + 1) (fun gf ov av iv wr => ∃ (i a : Nat) (xs : List (List UInt8)), av = .int .i64 a ∧ iv = .int .i64 i ∧ i + gf = n2 + 1 ∧ a ≤ n ∧ OwnB wr 5 w.heap.size ov xs.flatten ∧ Chain bs 0 a xs ∧ Below w.heap.size w wr ∧ (i = n2 + 1 → a = n) ∧ xs.flatten.length ≤ 16387 * i)
    case atStart => exact ⟨0, 0, [], rfl, rfl, by omega, Nat.zero_le _, OwnB.nil _ _ _, rfl, Below.refl _ _, by omega, by simp⟩
    case round =>
      obtain ⟨i, a, xs, rfl, rfl, hig, han, ho, hch, hb, hlast, hlen⟩ := hrel
      obtain ⟨Av, cv, hv, -, -, -⟩ := ho.slice
      obtain ⟨Lv, hLv⟩ : ∃ L, xs.flatten.length = L := ⟨_, rfl⟩
      rw [hLv] at hv
      subst hv
      have O := Lib.hid ho
      have CH := Lib.hid hch
      have B := Lib.hid hb
      have HI := Lib.hid (And.intro hig (And.intro han (And.intro hlast (And.intro hlen hLv))))
      clear hig han ho hch hb hlast hlen hLv
      by_cases hi : i ≤ n2
      · have qi : (i : Int) ≤ (n2 : Int) := by omega
        have HIn := Lib.hid hi
        clear hi
        iterate 40 (first | (with_reducible show Code.wp _ (Code.seq (Code.region 9 _ _) _) _ _ _) | go_values | go_guarded | go_step | go_upon)
        go_cut [10] from 153 (fun ev wx => wx = wr ∧ ∃ E : Nat, ev = .int .i64 E ∧ a ≤ E ∧ E ≤ n ∧ (i = n2 → E = n))
        case first =>
          by_cases hc2 : i < n2
          · have qc : (i : Int) < (n2 : Int) := by omega
            obtain ⟨xb, xo, rfl, hcell⟩ := nums_cell HR2.out B.out hc2
            obtain ⟨D, hD⟩ : ∃ D : Nat, n - a + 1 = D := ⟨_, rfl⟩
            obtain ⟨rr, k, hmod, hr1, hr2, hr3, hidx, hk⟩ := mod_idx16 (f2 i) D (by omega) (by have := HB.out; omega)
            obtain ⟨d0, hd0⟩ : ∃ x : Nat, n - a = x := ⟨_, rfl⟩
            have i0 : (n : Int) - (a : Int) = (d0 : Int) := by have := HI.out; omega
            have i1 : (d0 : Int) + 1 = (D : Int) := by omega
            have v0 : IntKind.i64.wrap (d0 : Int) = (d0 : Int) := Go.IntWalk.i64_in _ (by have := HB.out; omega)
            have v1 : IntKind.i64.wrap (D : Int) = (D : Int) := Go.IntWalk.i64_in _ (by have := HB.out; omega)
            have vr : IntKind.i64.wrap rr = rr := Go.IntWalk.i64_in _ (by omega)
            obtain ⟨z1, hz1⟩ : ∃ z : Int, rr + (n : Int) = z := ⟨_, rfl⟩
            obtain ⟨z2, hz2⟩ : ∃ z : Int, z1 - (a : Int) = z := ⟨_, rfl⟩
            obtain ⟨z3, hz3⟩ : ∃ z : Int, z2 + 1 = z := ⟨_, rfl⟩
            have y1 : IntKind.i64.wrap z1 = z1 := Go.IntWalk.i64_in _ (by have := HB.out; omega)
            have y2 : IntKind.i64.wrap z2 = z2 := Go.IntWalk.i64_in _ (by have := HB.out; have := HI.out; omega)
            have y3 : IntKind.i64.wrap z3 = z3 := Go.IntWalk.i64_in _ (by have := HB.out; have := HI.out; omega)
            have hzz : rr + (D : Int) = z3 := by omega
            rw [hzz] at hidx hr2
            have hkw : IntKind.i64.wrap (k : Int) = (k : Int) := Go.IntWalk.i64_in _ (by have := HB.out; omega)
            obtain ⟨E, hE⟩ : ∃ E : Nat, a + k = E := ⟨_, rfl⟩
            have iE : (a : Int) + (k : Int) = (E : Int) := by omega
            have vE : IntKind.i64.wrap (E : Int) = (E : Int) := Go.IntWalk.i64_in _ (by have := HB.out; have := HI.out; omega)
            have hD0 : ((D : Int) == 0) = false := beq_eq_false_iff_ne.2 (by omega)
            have HE := Lib.hid (show a ≤ E ∧ E ≤ n ∧ (i = n2 → E = n) by have := HI.out; omega)
            clear hc2 hD hd0 hzz hE hk hr3
            go_wp2
            go_meet
            case rel => exact ⟨rfl, E, rfl, HE.out⟩
          · have qc : (n2 : Int) ≤ (i : Int) := by omega
            have HE := Lib.hid (show i = n2 by have := HIn.out; omega)
            clear hc2
            go_wp2
            go_meet
            case rel => exact ⟨rfl, n, rfl, HI.out.2.1, Nat.le_refl _, fun _ => rfl⟩
        case rest =>
          obtain ⟨hwc, E, rfl, hE1, hE2, hE3⟩ := hcut
          have hwc' : wr = wc := hwc.symm
          subst hwc'
          clear hwc
          have HE := Lib.hid (And.intro hE1 (And.intro hE2 hE3))
          clear hE1 hE2 hE3
          iterate 40 (first | (with_reducible show Code.wp _ (Code.seq (Code.region 12 _ _) _) _ _ _) | go_values | go_guarded | go_step | go_upon)
          go_cut [11] from 153 (fun lv wx => wx = wr ∧ ∃ l : Int, lv = .int .i64 l)
          case first =>
            by_cases hc2 : i < n1
            · have qc : (i : Int) < (n1 : Int) := by omega
              obtain ⟨xb, xo, rfl, hcell⟩ := nums_cell HR1.out B.out hc2
              clear hc2
              go_wp2
              go_meet
              case rel => exact ⟨rfl, _, rfl⟩
            · have qc : (n1 : Int) ≤ (i : Int) := by omega
              clear hc2
              go_wp2
              go_meet
              case rel => exact ⟨rfl, _, rfl⟩
          case rest =>
            obtain ⟨hwc, l, rfl⟩ := hcut
            have hwc' : wr = wc := hwc.symm
            subst hwc'
            clear hwc
            have hsl := fun w => slice_to A n c E (by have := HE.out; omega) HLC.out.1 w
            go_wp2_with (at_builtin; refine wpList_append_bytes _ rfl (.tmp 76) (.tmp 79) 22 rfl 5 wr.heap.size Try.underlying22 Try.info_u8 (.slice (some ⟨wr.heap.size, 0, none⟩) 0 0) [] rfl ?own1 A E c w.heap.size (bs.take E) rfl ?lenn ?row1 ?len1 ?base1 ?next1)
            case own1 => exact OwnB.made wr _ _ (Nat.le_refl _)
            case lenn => rw [List.length_take]; have := HE.out; have := HN.out; omega
            case row1 => exact ((HR.out.below B.out).below ((below_alloc wr _).mono B.out.size)).take E
            case len1 => rw [List.length_take]; have := HE.out; have := HB.out; have := HN.out; simp; omega
            case base1 => simp
            case next1 =>
              intro v4 w4 hown4 hfrm4 hnew4
              have hb4 : Below wr.heap.size wr w4 := (below_alloc wr _).trans (hfrm4.below (by simp) (fun q hq => by have e : some wr.heap.size = some q := hq; injection e with e; omega))
              obtain ⟨A4, c4, hv4, hc4, hm4, hr4⟩ := hown4.slice
              have e4 : (bs.take E).length = E := by rw [List.length_take]; have := HE.out; have := HN.out; omega
              rw [e4] at hv4 hc4
              subst hv4
              have B4 := Lib.hid hb4
              have R4 := Lib.hid hr4
              have E4 := Lib.hid e4
              have HEN := Lib.hid (encode_p A4 (bs.take E) E c4 a l w4 e4.symm (by rw [e4]; exact hc4) hm4 hr4 (by rw [e4]; have := HE.out; have := HB.out; omega) (by rw [e4]; exact HE.out.1))
              clear hown4 hfrm4 hnew4 hb4 hc4 hm4 hr4 e4
              go_wp2_with fail
              refine HEN.out.mono ?_; rintro e w5 ⟨v, x, rfl, hox, hx, hb5⟩
              obtain ⟨Ax, cx, hvx, hcx, hmx, hrx⟩ := hox.slice
              obtain ⟨Lx, hLx⟩ : ∃ L, x.length = L := ⟨_, rfl⟩
              rw [hLx] at hvx
              subst hvx
              have hil := isEnc_len hx
              rw [hLx, E4.out] at hil
              have HX := Lib.hid hx
              have HIL := Lib.hid (And.intro hil hLx)
              have hb5' := B4.out.trans (hb5.mono B4.out.size)
              have B5 := Lib.hid hb5'
              have O5 := Lib.hid (O.out.frm (Frm.of_below (S := fun _ => False) hb5') (fun _ _ h => h))
              have RX5 := Lib.hid hrx
              have R5 := Lib.hid (R4.out.below hb5)
              have RB5 := Lib.hid ((HR.out.below B.out).below (hb5'.mono B.out.size))
              have Z5 := Lib.hid hb5.size
              clear hox hx hb5 hcx hmx hrx hLx hil hb5'
              have hlE : E = (bs.take E).length := E4.out.symm
              have k1 := fun dd => run_conv_bytes (P := Try.prog) (w5.drewN dd) 22 9 5 Try.underlying22 Try.underlying5 Try.underlying9 A4 E c4 _ (bs.take E) hlE (BRow.drewN R5.out dd)
              have k2 := fun dd => run_conv_bytes (P := Try.prog) (w5.drewN dd) 22 9 5 Try.underlying22 Try.underlying5 Try.underlying9 A E c _ (bs.take E) hlE (BRow.drewN (RB5.out.take E) dd)
              obtain ⟨s1, hs1⟩ : ∃ s, (bs.take E).toArray = s := ⟨_, rfl⟩
              rw [hs1] at k1 k2
              obtain ⟨N, hN⟩ : ∃ N : Nat, E - a = N := ⟨_, rfl⟩
              have iN : (E : Int) - (a : Int) = (N : Int) := by have := HE.out; omega
              have wN : IntKind.i64.wrap (N : Int) = (N : Int) := Go.IntWalk.i64_in _ (by have := HE.out; have := HB.out; omega)
              obtain ⟨D, hD⟩ : ∃ D : Nat, N / 1000 = D := ⟨_, rfl⟩
              have iD : (N : Int) / 1000 = (D : Int) := by omega
              have iD2 : (N : Int).tdiv 1000 = (D : Int) := by rw [Int.tdiv_eq_ediv_of_nonneg (by omega)]; exact iD
              obtain ⟨M1, hM1⟩ : ∃ x, N + D = x := ⟨_, rfl⟩
              obtain ⟨M2, hM2⟩ : ∃ x, M1 + 16 = x := ⟨_, rfl⟩
              have j1 : (N : Int) + (D : Int) = (M1 : Int) := by omega
              have j2 : (M1 : Int) + 16 = (M2 : Int) := by omega
              have v0 : IntKind.i64.wrap (D : Int) = (D : Int) := Go.IntWalk.i64_in _ (by have := HE.out; have := HB.out; omega)
              have v1 : IntKind.i64.wrap (M1 : Int) = (M1 : Int) := Go.IntWalk.i64_in _ (by have := HE.out; have := HB.out; omega)
              have v2 : IntKind.i64.wrap (M2 : Int) = (M2 : Int) := Go.IntWalk.i64_in _ (by have := HE.out; have := HB.out; omega)
              have qL : (Lx : Int) ≤ (M2 : Int) := by have := HIL.out.1.1; omega
              have hcc : (((Lx : Int) == 0) = true ∧ ((a : Int) == (E : Int)) = true) ∨ (((Lx : Int) == 0) = false ∧ ((a : Int) == (E : Int)) = false) := by
                have h2 := HIL.out.1.2
                by_cases h : a = E
                · exact .inl ⟨beq_iff_eq.2 (by have := h2.2 h; omega), beq_iff_eq.2 (by omega)⟩
                · exact .inr ⟨beq_eq_false_iff_ne.2 (by intro h3; exact h (h2.1 (by omega))), beq_eq_false_iff_ne.2 (by omega)⟩
              clear hlE hs1 hN hD hM1 hM2
              go_upto_region 16 with fail
              rcases hcc with ⟨q5, q6⟩ | ⟨q5, q6⟩
              all_goals
                go_quiet (fail)
                go_wp2_with (at_builtin; refine wpList_append_bytes _ rfl (.tmp 122) (.tmp 123) 22 rfl 5 w.heap.size Try.underlying22 Try.info_u8 _ xs.flatten rfl ?own2 Ax Lx cx w5.heap.size x rfl HIL.out.2.symm ?row2 ?len2 ?base2 ?next2)
                case own2 => exact O5.out.drewN nq
                case row2 => exact RX5.out.drewN nq
                case len2 =>
                  have h1 := HIL.out
                  have h2 := HI.out
                  have h3 := HB.out
                  have h4 := HE.out
                  have h5 := HIn.out
                  omega
                case base2 => have := B.out.size; have := B5.out.size; show w.heap.size ≤ w5.heap.size; omega
                case next2 =>
                  intro v6 w6 hown6 hfrm6 hnew6
                  have hb6 : Below w.heap.size w w6 := (below_drewN (B.out.trans (B5.out.mono B.out.size)) nq).trans (hfrm6.below (by have := B.out.size; have := B5.out.size; show w.heap.size ≤ w5.heap.size; omega) (fun q hq => (O5.out.lt hq).1))
                  have O6 := Lib.hid hown6
                  have B6 := Lib.hid hb6
                  clear hown6 hfrm6 hnew6 hb6
                  obtain ⟨i1, hi1⟩ : ∃ x, i + 1 = x := ⟨_, rfl⟩
                  have ji : (i : Int) + 1 = (i1 : Int) := by omega
                  have vi : IntKind.i64.wrap (i1 : Int) = (i1 : Int) := Go.IntWalk.i64_in _ (by have := HIn.out; have := HB.out; omega)
                  have HI1 := Lib.hid hi1
                  clear hi1
                  go_wp2
                  go_roundg (gk - 1)
                  case rel =>
                    have h1 := HI.out
                    have h2 := HE.out
                    have h3 := HIn.out
                    have h4 := HI1.out
                    refine ⟨i1, E, xs ++ [x], rfl, rfl, by omega, h2.2.1, by rw [List.flatten_append]; simpa using O6.out, chain_snoc h2.1 (by have := HN.out; omega) HX.out xs 0 CH.out, B6.out, fun h => h2.2.2 (by omega), ?_⟩
                    rw [List.flatten_append, List.length_append]
                    have h6 := HIL.out
                    have h7 : ([x] : List (List UInt8)).flatten.length = x.length := by simp
                    rw [h7]
                    have h8 := HB.out
                    rw [← h4]
                    omega
                  case measure => have := HI.out; have := HIn.out; omega
      · have qi : (n2 : Int) < (i : Int) := by omega
        have HLS := Lib.hid (show i = n2 + 1 ∧ a = n by have := HI.out; omega)
        clear hi
        go_wp2_with (at_builtin; refine wpList_append_bytes _ rfl (.tmp 126) (.tmp 127) 22 rfl 5 w.heap.size Try.underlying22 Try.info_u8 _ xs.flatten rfl ?own3 (some ⟨wr.heap.size, 0, none⟩) 1 1 (wr.heap.size + 1) [0] rfl rfl ?row3 ?len3 ?base3 ?next3)
        case own3 => exact O.out.alloc _
        case row3 => exact row_cells wr _ [0] _ rfl
        case len3 => have h2 := HI.out; have h3 := HB.out; have := HLS.out; have h1 : ([0] : List UInt8).length = 1 := rfl; omega
        case base3 => have := B.out.size; simp; omega
        case next3 =>
          intro v4 w4 hown4 hfrm4 hnew4
          have hb4 : Below w.heap.size w w4 := (B.out.trans ((below_alloc wr _).mono B.out.size)).trans (hfrm4.below (by have := B.out.size; simp; omega) (fun q hq => (O.out.lt hq).1))
          obtain ⟨A4, c4, hv4, hc4, hm4, hr4⟩ := hown4.slice
          obtain ⟨L4, hL4⟩ : ∃ L, (xs.flatten ++ [0]).length = L := ⟨_, rfl⟩
          rw [hL4] at hv4 hc4
          subst hv4
          have hd2 : d2P 16384 16777216 (xs.flatten ++ [0]) = (bs, .inr []) := pieces_read 16384 16777216 (by have := HB.out; have := HN.out; omega) (by have := HB.out; have := HN.out; omega) (by have := HB.out; have := HN.out; omega) xs (chain_pieces xs 0 (by have := CH.out; rw [HLS.out.2, HN.out] at this; exact this))
          have HD := Lib.hid (decode_p A4 (xs.flatten ++ [0]) L4 c4 16384 w4 hL4.symm hr4 hc4 hm4 (by rw [← hL4, List.length_append]; have h2 := HI.out; have h3 := HB.out; have := HLS.out; have h1 : ([0] : List UInt8).length = 1 := rfl; omega) (by omega) (by omega))
          have HD2 := Lib.hid hd2
          have B4 := Lib.hid hb4
          have RB4 := Lib.hid (HR.out.below hb4)
          have HL4 := Lib.hid hL4
          clear hown4 hfrm4 hnew4 hb4 hc4 hm4 hr4 hd2 hL4
          go_wp2_with fail
          refine HD.out.mono ?_; rintro e w5 hdd
          obtain ⟨A5, c5, rfl, -, hr5, hb5⟩ := dec_ok (m := n) (u := L4) hdd HD2.out HN.out.symm (by rw [HL4.out]; rfl)
          have RB5 := Lib.hid ((RB4.out.more (B4.out.size)).below hb5)
          have R5 := Lib.hid hr5
          have B5 := Lib.hid (B4.out.trans (hb5.mono B4.out.size))
          clear hdd hr5 hb5
          have k1 := fun dd => run_conv_bytes (P := Try.prog) (w5.drewN dd) 22 9 5 Try.underlying22 Try.underlying5 Try.underlying9 A5 n c5 _ bs HN.out (BRow.drewN R5.out dd)
          have k2 := fun dd => run_conv_bytes (P := Try.prog) (w5.drewN dd) 22 9 5 Try.underlying22 Try.underlying5 Try.underlying9 A n c _ bs HN.out (BRow.drewN RB5.out dd)
          obtain ⟨s1, hs1⟩ : ∃ s, bs.toArray = s := ⟨_, rfl⟩
          rw [hs1] at k1 k2
          clear hs1
          have k1w := k1 0
          have k2w := k2 0
          change (convert 22 9 (.slice A5 n c5)).run Try.prog w5 = _ at k1w
          change (convert 22 9 (.slice A n c)).run Try.prog w5 = _ at k2w
          go_wp2_with fail
          refine (wakes16 _).mono ?_; rintro e w7 ⟨rfl, b7⟩
          have B7 := Lib.hid ((below_drewN B5.out 0).trans (b7.mono (below_drewN B5.out 0).size))
          clear b7
          go_wp2
          go_ret
          exact ⟨rfl, B7.out⟩
end Go.Proofs.Ytefbjamepbkklaa
