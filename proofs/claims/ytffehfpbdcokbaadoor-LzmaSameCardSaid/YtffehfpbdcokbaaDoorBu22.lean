/- Texts of this proof, put together: LcD. -/
import Derived.Test.YtffehfpbdcokbaaDoorBu21
set_option linter.unusedVariables false
set_option linter.unusedSimpArgs false
/- A chunk, whatever it is; a room; what the document says of six noughts; LzmaNil. -/
namespace Go.Proofs.YtffehfpbdcokbaaDoor
open Go.RowKit Rng Lz Win
set_option linter.unusedVariables false
set_option linter.unusedSimpArgs false
theorem chunk_p (k : LK) (st : Nat) (rep : Nat → Nat) (pr : Pr) (base wb kb S : Nat) (C bs : List UInt8) (wv : Value) (A : Option Addr) (n c l total : Nat) (w : World)
    (hs : StAt w k st rep pr) (hw : WinC w base wb kb S C wv) (hb : base ≤ w.heap.size) (hS : S ≤ 16777216) (hk : k.Ok) (hst : st < 12) (hrep : ∀ j, rep j < 4294967296)
    (hl : l = bs.length) (hr : BRow w w.heap.size A bs) (hc : bs.length ≤ c) (hcm : c ≤ maxLen) (hlen : bs.length ≤ 140737488355328)
    (h1 : 1 ≤ n) (h2 : n ≤ 2097152) (ht : total < 9223372036854775808) :
    Calls Tryd.prog 7 #[.pointer (some ⟨k.sb, 0, none⟩), .pointer (some ⟨wb, 0, none⟩), .int .i64 total, .slice A l c, .int .i64 n] w fun e w' => ChunkEnd k base wb kb S wv w (chunkOf k S total n st rep pr C bs) e w' := by
  by_cases hn : newErr bs = 0
  · exact chunk_main k st rep pr base wb kb S C bs wv A n c l total w hs hw hb hS hk hst hrep hl hr hc hcm hlen h1 h2 ht hn
  · have e : chunkOf k S total n st rep pr C bs = none := by unfold chunkOf; rw [if_pos hn]
    rw [e]
    refine (chunk_bad w ⟨k.sb, 0, none⟩ ⟨wb, 0, none⟩ total n A bs l c (by omega) (by omega) (by omega) hl hr hc hcm hn).mono ?_
    rintro e w' ⟨rfl, hB⟩
    exact ⟨(Frm.of_below (S := fun _ => False) hB).mono fun _ _ h => h.elim, .inl ⟨rfl, rfl⟩⟩
theorem newK_ok (b lb : Nat) : (newK b lb).Ok := ⟨by show 3 + 0 ≤ 4; omega, by show 2 ≤ 4; omega⟩
theorem lnew_st (w : World) : Calls Tryd.prog 5 #[] w fun e w' => ∃ b lb, e = .returned (.pointer (some ⟨b, 0, none⟩)) ∧ w.heap.size ≤ b ∧ w.heap.size ≤ lb ∧ StAt w' (newK b lb) 0 (fun _ => 0) (fun _ => 1024) ∧ Below w.heap.size w w' := by
  refine (lnew_p w).mono ?_
  rintro e w' ⟨b, lb, rfl, h1, h2, h3, h4, h5, h6⟩
  exact ⟨b, lb, rfl, h1, h2, ⟨h4, h5, fun _ => (by decide : 1024 < 65536), h3⟩, h6⟩
theorem room_p (S : Nat) (w : World) (h1 : 1 ≤ S) (h2 : S ≤ 16777216) : Calls Tryd.prog 6 #[.int .i64 S] w fun e w' => ∃ wb kb, e = .returned (.pointer (some ⟨wb, 0, none⟩)) ∧ w.heap.size ≤ wb ∧ WinC w' w.heap.size wb kb S [] (.slice none 0 0) ∧ Below w.heap.size w w' := by
  have h1i : (1 : Int) ≤ (S : Int) := by omega
  have hch : chE 16777216 0 S = 0 := (ch_ok 0 (by omega) (by omega)).1
  have HC := Lib.hid hch
  clear hch
  go_enter Tryd.func6, Tryd.ntmps6
  go_wp2_with fail
  refine (new_led 16777216 _).mono ?_; rintro e w1 ⟨rfl, hL1, b1⟩
  rw [show bud 16777216 = 16777216 by decide] at hL1
  have L1 := Lib.hid hL1
  have B1 := Lib.hid b1
  clear hL1 b1
  go_wp2_with fail
  refine (new_win w.heap.size S 16777216 0 0 w1 L1.out (by decide) (by decide) (by decide) h1 h2 HC.out).mono ?_; rintro e w2 ⟨b, rfl, hW2, hb, hL2, hF2⟩
  have B2 := Lib.hid (B1.out.trans (hF2.below B1.out.size (by intro k hk; omega)))
  have W2 := Lib.hid hW2
  have hb2 : w.heap.size ≤ b := Nat.le_trans B1.out.size hb
  clear hW2 hL2 hF2
  go_wp2
  go_ret
  refine ⟨b, w.heap.size, rfl, hb2, ⟨[], 0, ?_, rfl⟩, B2.out⟩
  have hW := W2.out
  exact ⟨hW.p, World.ownsRow.mono hW.o B1.out.size, hW.n, hW.lt, hW.z⟩
theorem made_bytes (n : Nat) (hn : n ≤ 16777216) (w : World) :
    (Instr.makeSlice 22 (.int .i64 (n : Int)) (.int .i64 (n : Int))).run Tryd.prog w = .ok (.slice (some ⟨w.heap.size, 0, none⟩) n n) (w.alloc (.cells (madeCells #[.int .u8 0] n) 5)) := by
  obtain ⟨i, hi, hz⟩ := Option.map_eq_some_iff.1 Tryd.info_u8
  simp only [Prod.mk.injEq] at hz
  have h := run_make (P := Tryd.prog) w 22 5 i (.int .u8 0) Tryd.underlying22 hi hz.1 .i64 .i64 n n (by omega) (by omega) (by rw [hz.2.2]; omega) (by omega)
  rw [hz.2.1] at h
  simp only [Int.toNat_natCast, Nat.mul_one] at h
  exact h
theorem noughts_row (n : Nat) (w : World) : BRow (w.alloc (.cells (madeCells #[.int .u8 0] n) 5)) (w.alloc (.cells (madeCells #[.int .u8 0] n) 5)).heap.size (some ⟨w.heap.size, 0, none⟩) (List.replicate n 0) := by
  intro _
  refine ⟨w.heap.size, 0, rfl, by simp, fun k hk => ?_⟩
  rw [Nat.zero_add, (Pts.new w (madeCells #[.int .u8 0] n) 5).cell]
  have hkn : k < n := by simpa using hk
  have h1 : (madeCells #[Value.int .u8 0] n)[k]? = some (.int .u8 0) := by simp [madeCells, hkn, Nat.mod_one]
  rw [h1]
  simp [List.getD, hkn, byteV]
theorem wk_six (b lb : Nat) : (chunkOf (newK b lb) 9 0 1 0 (fun _ => 0) (fun _ => 1024) [] (List.replicate 6 0)).map (·.1) = some [0] := by kernel_rfl
theorem wk_five (b lb : Nat) (C : List UInt8) : (chunkOf (newK b lb) 9 0 1 0 (fun _ => 0) (fun _ => 1024) C (List.replicate 5 0)).map (·.1) = none := by kernel_rfl
set_option maxRecDepth 100000 in
set_option maxHeartbeats 1000000 in
theorem props_bad (p k0 : Nat) (w : World) (hb : p ≤ 255) (h : 224 < p ∨ 4 < p % 9 + p / 9 % 5) : Calls Tryd.prog 9 #[.pointer (some ⟨k0, 0, none⟩), .int .u8 p] w fun e w' => e = .returned (.int .i64 11) ∧ w = w' := by
  obtain ⟨a, ha⟩ : ∃ a, p % 9 = a := ⟨_, rfl⟩
  obtain ⟨b1, hb1⟩ : ∃ a, p / 9 = a := ⟨_, rfl⟩
  obtain ⟨b, hbb⟩ : ∃ a, b1 % 5 = a := ⟨_, rfl⟩
  rw [ha, hb1, hbb] at h
  have e1 : (p : Int) % 9 = (a : Int) := by omega
  have e2 : (p : Int) / 9 = (b1 : Int) := by omega
  have e3 : (b1 : Int) % 5 = (b : Int) := by omega
  have ab : a ≤ 8 := by omega
  have bb : b ≤ 4 := by omega
  clear ha hb1 hbb
  have h3 : 224 < p ∨ (p ≤ 224 ∧ 4 < a + b) := by omega
  clear h
  rcases h3 with h | ⟨h, h4⟩
  · have hi : (224 : Int) < (p : Int) := by omega
    go_enter Tryd.func9, Tryd.ntmps9
    go_wp2
    go_ret
    exact ⟨rfl, rfl⟩
  · have hi : (p : Int) ≤ 224 := by omega
    have hj : (4 : Int) < (a : Int) + (b : Int) := by omega
    go_enter Tryd.func9, Tryd.ntmps9
    go_wp2
    go_ret
    exact ⟨rfl, rfl⟩
theorem StAt.later {w w' : World} {k : LK} {st : Nat} {rep : Nat → Nat} {pr : Pr} (h : StAt w k st rep pr) (hb : Below w.heap.size w w') : StAt w' k st rep pr := h.frm (Frm.of_below (S := fun _ => False) hb) id id
theorem WinC.later {w w' : World} {base wb kb S : Nat} {C : List UInt8} {v : Value} (h : WinC w base wb kb S C v) (hb : Below w.heap.size w w') : WinC w' base wb kb S C v := h.frm (Frm.of_below (S := fun _ => False) hb) id (fun _ _ h => h)
theorem below_alloc (w : World) (o : Obj) : Below w.heap.size w (w.alloc o) := (Below.refl _ w).alloc (Nat.le_refl _) o
theorem WinC.drew {w : World} {base wb kb S : Nat} {C : List UInt8} {v : Value} (h : WinC w base wb kb S C v) : WinC w.drew base wb kb S C v := h.frm ((Frm.refl (fun _ => False) w).drew) id (fun _ _ h => h)
theorem five_p (sb lb base wb kb : Nat) (C : List UInt8) (wv : Value) (A : Option Addr) (w : World) (hs : StAt w (newK sb lb) 0 (fun _ => 0) (fun _ => 1024)) (hw : WinC w base wb kb 9 C wv) (hb : base ≤ w.heap.size) (hr : BRow w w.heap.size A (List.replicate 5 0)) :
    Calls Tryd.prog 7 #[.pointer (some ⟨sb, 0, none⟩), .pointer (some ⟨wb, 0, none⟩), .int .i64 0, .slice A 5 5, .int .i64 1] w fun e w' => e = .returned (.tuple #[.slice none 0 0, .int .i64 11]) ∧ Frm (fun q => q = sb ∨ q = lb ∨ q = wb ∨ wv.ownBlock = some q) w w' := by
  refine (chunk_p (newK sb lb) 0 (fun _ => 0) (fun _ => 1024) base wb kb 9 C (List.replicate 5 0) wv A 1 5 5 0 w hs hw hb (by omega) (newK_ok _ _) (by omega) (fun _ => by omega) (by simp) hr (by simp) (by unfold maxLen; omega) (by simp) (by omega) (by omega) (by omega)).mono ?_
  rintro e w' ⟨f, (⟨hn, rfl⟩ | ⟨told, y, tv, wv', hR, rfl, _⟩)⟩
  · exact ⟨rfl, f⟩
  · have := wk_five sb lb C
    rw [hR] at this
    cases this
theorem Frm.drew4 {w w1 w2 : World} (h1 : Below w.heap.size w.drew w1) (h2 : Below w1.heap.size w1 w2) : Frm (fun _ => False) w w2 := ((Frm.refl (fun _ => False) w).drew.trans (Frm.of_below h1)).transW (Frm.of_below (S := fun _ => False) h2) (fun _ h => h.elim)
theorem five_frm {w w2 w3 : World} {b lb wb n : Nat} {wv : Value} (h1 : n ≤ b) (h2 : n ≤ lb) (hn : w.heap.size ≤ n) (h : Frm (fun _ => False) w w2) (f : Frm (fun q => q = b ∨ q = lb ∨ q = wb ∨ wv.ownBlock = some q) w2 w3) : Frm (fun q => q = wb ∨ wv.ownBlock = some q) w w3 := by
  refine (h.mono fun _ _ h => h.elim).transW f ?_
  rintro q (e | e | e | e) hlt
  · omega
  · omega
  · exact .inl e
  · exact .inr e
theorem arg_A (w6 w5 : World) (b2 wb : Nat) (B5 : Below w6.drew.heap.size w6.drew w5) :
    Calls Tryd.prog 7 #[.pointer (some ⟨b2, 0, none⟩), .pointer (some ⟨wb, 0, none⟩), .int .i64 0, .slice (some ⟨w5.heap.size, 0, none⟩) 6 6, .int .i64 0] (w5.alloc (.cells (madeCells #[.int .u8 0] 6) 5)) fun e w' => e = .returned (.tuple #[.slice none 0 0, .int .i64 2]) ∧ Frm (fun _ => False) w6 w' := by
  refine (chunk_arg _ _ _ 0 0 _ 6 6 (by omega)).mono ?_
  rintro e w' ⟨rfl, hb⟩
  exact ⟨rfl, (Frm.drew4 B5 (below_alloc _ _)).transW (Frm.of_below (S := fun _ => False) hb) (fun _ h => h.elim)⟩
theorem arg_B (w6 w5 : World) (b2 wb : Nat) (B5 : Below (w6.drew.alloc (.cells (madeCells #[.int .u8 0] 6) 5)).heap.size (w6.drew.alloc (.cells (madeCells #[.int .u8 0] 6) 5)) w5) :
    Calls Tryd.prog 7 #[.pointer (some ⟨b2, 0, none⟩), .pointer (some ⟨wb, 0, none⟩), .int .i64 0, .slice (some ⟨w6.heap.size, 0, none⟩) 6 6, .int .i64 0] w5 fun e w' => e = .returned (.tuple #[.slice none 0 0, .int .i64 2]) ∧ Frm (fun _ => False) w6 w' := by
  refine (chunk_arg _ _ _ 0 0 _ 6 6 (by omega)).mono ?_
  rintro e w' ⟨rfl, hb⟩
  exact ⟨rfl, (Frm.drew4 (show Below w6.heap.size w6.drew (w6.drew.alloc (.cells (madeCells #[.int .u8 0] 6) 5)) from below_alloc w6.drew _) B5).transW (Frm.of_below (S := fun _ => False) hb) (fun _ h => h.elim)⟩
set_option maxRecDepth 100000 in
set_option maxHeartbeats 2000000 in
theorem wakes12 (w : World) : Calls Tryd.prog 4 #[] w fun e w' => e = .returned (.bool true) ∧ Below w.heap.size w w' := by
  have hm6 : ∀ w, (Instr.makeSlice 22 (.int .i64 6) (.int .i64 6)).run Tryd.prog w = .ok (.slice (some ⟨w.heap.size, 0, none⟩) 6 6) (w.alloc (.cells (madeCells #[.int .u8 0] 6) 5)) := fun w => made_bytes 6 (by omega) w
  have hm5 : ∀ w, (Instr.makeSlice 22 (.int .i64 5) (.int .i64 5)).run Tryd.prog w = .ok (.slice (some ⟨w.heap.size, 0, none⟩) 5 5) (w.alloc (.cells (madeCells #[.int .u8 0] 5) 5)) := fun w => made_bytes 5 (by omega) w
  go_enter Tryd.func4, Tryd.ntmps4
  go_wp2_with fail
  refine (lnew_st _).mono ?_; rintro e w1 ⟨sb, lb, rfl, g1, g2, hs1, hb1⟩
  have S1 := Lib.hid hs1
  have B1 := Lib.hid hb1
  clear hs1 hb1
  go_wp2_with fail
  refine (room_p 9 w1 (by omega) (by omega)).mono ?_; rintro e w2 ⟨wb, kb, rfl, g3, hw2, hb2⟩
  have S2 := Lib.hid (S1.out.later hb2)
  have W2 := Lib.hid hw2
  have B2 := Lib.hid (B1.out.trans (hb2.mono B1.out.size))
  have hsz := hb2.size
  clear hw2 hb2
  go_wp2_with fail
  have ha := below_alloc w2 (.cells (madeCells #[.int .u8 0] 6) 5)
  have hz := noughts_row 6 w2
  have S3 := Lib.hid (S2.out.later ha)
  have W3 := Lib.hid (W2.out.later ha)
  have B3 := Lib.hid (B2.out.trans (ha.mono B2.out.size))
  have hsz3 := ha.size
  obtain ⟨p2, hp2⟩ : ∃ p2, w2.heap.size = p2 := ⟨_, rfl⟩
  rw [hp2] at hz hsz3 hsz ⊢
  generalize w2.alloc (.cells (madeCells #[.int .u8 0] 6) 5) = w3 at *
  have HZ := Lib.hid hz
  clear ha hz
  refine (chunk_p (newK sb lb) 0 (fun _ => 0) (fun _ => 1024) w1.heap.size wb kb 9 [] (List.replicate 6 0) (.slice none 0 0) (some ⟨p2, 0, none⟩) 1 6 6 0 w3 S3.out W3.out (by omega) (by omega) (newK_ok _ _) (by omega) (fun _ => by omega) (by simp) HZ.out (by simp) (by unfold maxLen; omega) (by simp) (by omega) (by omega) (by omega)).mono ?_
  rintro e w4 ⟨f4, (⟨hn, rfl⟩ | ⟨told, y, tv, wv, hR, rfl, ho4, hs4, hw4, hm4, hne4⟩)⟩
  · have := wk_six sb lb
    rw [hn] at this
    cases this
  have htold : told = [0] := by
    have := wk_six sb lb
    rw [hR] at this
    injection this
  subst htold
  obtain ⟨A4, c4, rfl, hc4, hm4, -⟩ := ho4.slice
  obtain ⟨YC, hYC⟩ : ∃ C, y.C = C := ⟨_, rfl⟩
  rw [hYC] at hw4
  have S4 := Lib.hid hs4
  have W4 := Lib.hid hw4
  have O4 := Lib.hid ho4
  have N4 := Lib.hid hne4
  have B4 := Lib.hid (B3.out.trans (f4.below B3.out.size (by
    rintro q (e | e | e | e)
    · rw [e]; exact g1
    · rw [e]; exact g2
    · rw [e]; exact Nat.le_trans B1.out.size g3
    · cases e)))
  have Z4 := Lib.hid f4.size
  have HM4 := Lib.hid hm4
  clear hs4 hw4 ho4 hne4 f4 hm4 hYC hR
  have KB : Hid (w1.heap.size ≤ w4.heap.size) := Lib.hid (Nat.le_trans hsz (Nat.le_trans hsz3 Z4.out))
  have TA : ∀ (w5 : World) (b2 lb2 : Nat) (k1 : w4.drew.heap.size ≤ b2) (k2 : w4.drew.heap.size ≤ lb2) (S5 : StAt w5 (newK b2 lb2) 0 (fun _ => 0) (fun _ => 1024)) (B5 : Below w4.drew.heap.size w4.drew w5),
      Calls Tryd.prog 7 #[.pointer (some ⟨b2, 0, none⟩), .pointer (some ⟨wb, 0, none⟩), .int .i64 0, .slice (some ⟨w5.heap.size, 0, none⟩) 5 5, .int .i64 1] (w5.alloc (.cells (madeCells #[.int .u8 0] 5) 5)) fun e w' => e = .returned (.tuple #[.slice none 0 0, .int .i64 11]) ∧ Frm (fun q => q = wb ∨ wv.ownBlock = some q) w4 w' := by
    intro w5 b2 lb2 k1 k2 S5 B5
    refine (five_p b2 lb2 w1.heap.size wb kb YC wv _ _ (S5.later (below_alloc _ _)) (((W4.out.drew).later B5).later (below_alloc _ _)) (Nat.le_trans KB.out (Nat.le_trans B5.size (below_alloc _ _).size)) (noughts_row 5 _)).mono ?_
    rintro e w6 ⟨rfl, f6⟩
    exact ⟨rfl, five_frm k1 k2 (Nat.le_refl _) (Frm.drew4 B5 (below_alloc _ _)) f6⟩
  have TB : ∀ (w5 : World) (b2 lb2 : Nat) (k1 : (w4.drew.alloc (.cells (madeCells #[.int .u8 0] 5) 5)).heap.size ≤ b2) (k2 : (w4.drew.alloc (.cells (madeCells #[.int .u8 0] 5) 5)).heap.size ≤ lb2) (S5 : StAt w5 (newK b2 lb2) 0 (fun _ => 0) (fun _ => 1024)) (B5 : Below (w4.drew.alloc (.cells (madeCells #[.int .u8 0] 5) 5)).heap.size (w4.drew.alloc (.cells (madeCells #[.int .u8 0] 5) 5)) w5),
      Calls Tryd.prog 7 #[.pointer (some ⟨b2, 0, none⟩), .pointer (some ⟨wb, 0, none⟩), .int .i64 0, .slice (some ⟨w4.heap.size, 0, none⟩) 5 5, .int .i64 1] w5 fun e w' => e = .returned (.tuple #[.slice none 0 0, .int .i64 11]) ∧ Frm (fun q => q = wb ∨ wv.ownBlock = some q) w4 w' := by
    intro w5 b2 lb2 k1 k2 S5 B5
    refine (five_p b2 lb2 w1.heap.size wb kb YC wv _ _ S5 (((W4.out.drew).later (below_alloc _ _)).later B5) (Nat.le_trans KB.out (Nat.le_trans (below_alloc w4.drew _).size B5.size)) (((noughts_row 5 w4.drew).below B5).more B5.size)).mono ?_
    rintro e w6 ⟨rfl, f6⟩
    exact ⟨rfl, five_frm k1 k2 (below_alloc w4.drew _).size (Frm.drew4 (show Below w4.heap.size w4.drew (w4.drew.alloc (.cells (madeCells #[.int .u8 0] 5) 5)) from below_alloc w4.drew _) B5) f6⟩
  have TA' := Lib.hid TA
  have TB' := Lib.hid TB
  clear TA TB
  go_upto_region 6 with fail
  go_cut [5, 6] from 7 (fun v ev wx => v = .slice none 0 0 ∧ ev = .int .i64 11 ∧ Frm (fun q => q = wb ∨ wv.ownBlock = some q) w4 wx)
  case first =>
    go_region_with (first
      | (go_at_call 5; refine (lnew_st _).mono ?_; rintro e w5 ⟨b2, lb2, rfl, k1, k2, hs5, hb5⟩; have S5 := Lib.hid hs5; have B5 := Lib.hid hb5; clear hs5 hb5)
      | (go_at_call 7; (first | refine (TA'.out _ _ _ k1 k2 S5.out B5.out).mono ?_ | refine (TB'.out _ _ _ k1 k2 S5.out B5.out).mono ?_); rintro e w6 ⟨rfl, f6⟩; have F6 := Lib.hid f6; clear f6))
    all_goals
      go_wp2
      go_meet
      case rel => exact ⟨rfl, rfl, F6.out⟩
  case rest =>
    obtain ⟨rfl, rfl, f6⟩ := hcut
    obtain ⟨w6, hw6⟩ : ∃ w6, w6 = wc := ⟨_, rfl⟩
    subst hw6
    have S6 := Lib.hid (S4.out.frm f6 (by
      obtain ⟨lw, hwo⟩ := W4.out.own
      obtain ⟨cw, hwp⟩ := W4.out.pts
      rintro (e | e)
      · exact S4.out.m.ne_of hwp (by decide) e
      · exact own_ne hwo S4.out.m (by decide) e) (by
      obtain ⟨lw, hwo⟩ := W4.out.own
      obtain ⟨cw, hwp⟩ := W4.out.pts
      rintro (e | e)
      · exact S4.out.l.ne_of hwp (by decide) e
      · exact own_ne hwo S4.out.l (by decide) e))
    have O6 := Lib.hid (O4.out.frm f6 (by
      obtain ⟨cw, hwp⟩ := W4.out.pts
      rintro q hq (e | e)
      · subst e; exact own_ne O4.out hwp (by decide) hq
      · exact N4.out q hq e))
    have B6 := Lib.hid (B4.out.trans (f6.below B4.out.size (by
      obtain ⟨lw, hwo⟩ := W4.out.own
      rintro q (e | e)
      · rw [e]; exact Nat.le_trans B1.out.size g3
      · exact Nat.le_trans B1.out.size (hwo.lt e).1)))
    clear f6 hm5
    go_upto_region 7 with fail
    go_cut [7, 8] from 9 (fun v ev wx => v = .slice none 0 0 ∧ ev = .int .i64 2 ∧ Frm (fun _ => False) w6 wx)
    case first =>
      go_region_with (first
        | (go_at_call 5; refine (lnew_st _).mono ?_; rintro e w7 ⟨b2, lb2, rfl, k1, k2, hs7, hb7⟩; have B7 := Lib.hid hb7; clear hs7 hb7)
        | (go_at_call 7; (first | refine (arg_A w6 w7 b2 wb B7.out).mono ?_ | refine (arg_B w6 w7 b2 wb B7.out).mono ?_); rintro e w8 ⟨rfl, f8⟩; have F8 := Lib.hid f8; clear f8))
      all_goals
        go_wp2
        go_meet
        case rel => exact ⟨rfl, rfl, F8.out⟩
    case rest =>
      obtain ⟨rfl, rfl, f8⟩ := hcut
      have S8 := Lib.hid (S6.out.frm f8 id id)
      have O8 := Lib.hid (O6.out.frm f8 (fun _ _ h => h))
      have B8 := Lib.hid (B6.out.trans (f8.below B6.out.size (fun q h => h.elim)))
      obtain ⟨A8, c8, hA8, hc8, hm8, hr8⟩ := O8.out.slice
      obtain ⟨ab, off, hAe, hab, hcell⟩ := hr8 (by decide)
      have hc0 := hcell 0 (by decide)
      injection hA8 with e1 e2 e3
      subst e1
      subst hAe
      have hc1 : wc.cell? ⟨ab, off, none⟩ = some (.int .u8 0) := hc0
      clear f8 hr8 hcell hc0 hm6
      go_wp2_with fail
      refine (props_p 93 sb 3 0 2 y.st y.rep y.s.pr _ 56 wc (qcells_m (newK sb lb) y.st y.rep y.s.pr ▸ S8.out.m) ⟨_, _, _, rfl⟩ (by omega)).mono ?_; rintro e w9 ⟨rfl, f9, -⟩
      have e93 : (if 224 < 93 ∨ 4 < 93 % 9 + 93 / 9 % 5 then (11 : Int) else 0) = 0 := by decide
      have B9 := Lib.hid (B8.out.trans (f9.below B8.out.size (by rintro q e; rw [e]; exact g1)))
      clear f9
      rw [e93]
      clear e93
      go_wp2_with fail
      refine (props_bad 225 sb w9 (by omega) (by omega)).mono ?_; rintro e w10 ⟨rfl, rfl⟩
      go_wp2_with fail
      refine (props_bad 13 sb w9 (by omega) (by omega)).mono ?_; rintro e w10 ⟨rfl, rfl⟩
      go_wp2
      go_ret
      exact ⟨rfl, B9.out⟩
end Go.Proofs.YtffehfpbdcokbaaDoor
