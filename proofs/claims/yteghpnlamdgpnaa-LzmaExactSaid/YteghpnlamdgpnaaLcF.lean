/- A chunk out of a new state and a new window; LzmaExact. -/
import Derived.Test.YteghpnlamdgpnaaLcD
import Derived.Test.YteghpnlamdgpnaaLcQ
namespace Go.Proofs.Yteghpnlamdgpnaa
open Go.RowKit Rng Lz Win
set_option linter.unusedVariables false
set_option linter.unusedSimpArgs false
theorem stepOf_k {k k' : LK} (h : k.lc = k'.lc ∧ k.lp = k'.lp ∧ k.pb = k'.pb) (S total room : Nat) (x : RS) : stepOf k S total room x = stepOf k' S total room x := by
  unfold stepOf litOf
  rw [h.1, h.2.1, h.2.2]
theorem chunkGo_k {k k' : LK} (h : k.lc = k'.lc ∧ k.lp = k'.lp ∧ k.pb = k'.pb) (S total n : Nat) : ∀ (f : Nat) (told : List UInt8) (x : RS), chunkGo k S total n f told x = chunkGo k' S total n f told x
  | 0, _, _ => rfl
  | f + 1, told, x => by
    unfold chunkGo
    rw [stepOf_k h]
    split
    · rfl
    · split
      · rfl
      · exact chunkGo_k h S total n f _ _
theorem chunkOf_k {k k' : LK} (h : k.lc = k'.lc ∧ k.lp = k'.lp ∧ k.pb = k'.pb) (S total n st : Nat) (rep : Nat → Nat) (pr : Pr) (C bs : List UInt8) : chunkOf k S total n st rep pr C bs = chunkOf k' S total n st rep pr C bs := by
  unfold chunkOf
  rw [chunkGo_k h]
/-- A chunk out of a new state and a new window. -/
def fresh (S n : Nat) (bs : List UInt8) : Option (List UInt8 × RS) := chunkOf (newK 0 0) S 0 n 0 (fun _ => 0) (fun _ => 1024) [] bs
theorem fresh_k (b lb S n : Nat) (bs : List UInt8) : chunkOf (newK b lb) S 0 n 0 (fun _ => 0) (fun _ => 1024) [] bs = fresh S n bs := chunkOf_k (k := newK b lb) (k' := newK 0 0) ⟨rfl, rfl, rfl⟩ S 0 n 0 (fun _ => 0) (fun _ => 1024) [] bs
/-- Its error. -/
def exE (S : Nat) (n : Int) (bs : List UInt8) : Int := if n < 1 then 2 else if (fresh S n.toNat bs).isSome then 0 else 11
theorem ex_more {S : Nat} {n : Int} {bs : List UInt8} (m : UInt8) (h : exE S n bs = 0) : exE S n (bs ++ [m]) = 11 := by
  unfold exE at h ⊢
  by_cases hn : n < 1
  · rw [if_pos hn] at h; cases h
  · rw [if_neg hn] at h ⊢
    have h1 : fresh S n.toNat bs ≠ none := by
      intro e
      rw [e] at h
      cases h
    have h2 : fresh S n.toNat (bs ++ [m]) = none := chunk_exact _ _ _ _ _ _ _ _ _ m h1
    rw [h2]
    rfl
theorem ex_less {S : Nat} {n : Int} {bs : List UInt8} (h0 : bs ≠ []) (h : exE S n bs = 0) : exE S n bs.dropLast = 11 := by
  have hne : exE S n bs.dropLast ≠ 0 := by
    intro e
    have h2 := ex_more (bs.getLast h0) e
    rw [List.dropLast_concat_getLast h0, h] at h2
    cases h2
  unfold exE at h hne ⊢
  by_cases hn : n < 1
  · rw [if_pos hn] at h; cases h
  · rw [if_neg hn] at hne ⊢
    split
    · rename_i hs
      rw [if_pos hs] at hne
      exact absurd rfl hne
    · rfl
theorem fresh_chunk (N b lb base wb kb S l c : Nat) (n : Int) (bs : List UInt8) (A : Option Addr) (w : World) (hs : StAt w (newK b lb) 0 (fun _ => 0) (fun _ => 1024)) (hw : WinC w base wb kb S [] (.slice none 0 0)) (hb : base ≤ w.heap.size) (hS : S ≤ 16777216)
    (hl : l = bs.length) (hr : BRow w w.heap.size A bs) (hc : bs.length ≤ c) (hcm : c ≤ maxLen) (hlen : bs.length ≤ 140737488355328) (hn : n ≤ 2097152) (h1 : N ≤ b) (h2 : N ≤ lb) (h3 : N ≤ wb) (hN : N ≤ w.heap.size) :
    Calls Try.prog 7 #[.pointer (some ⟨b, 0, none⟩), .pointer (some ⟨wb, 0, none⟩), .int .i64 0, .slice A l c, .int .i64 n] w fun e w' => (∃ tv, e = .returned (.tuple #[tv, .int .i64 (exE S n bs)])) ∧ Below N w w' := by
  by_cases hn1 : n < 1
  · have e : exE S n bs = 2 := if_pos hn1
    rw [e]
    refine (chunk_arg w ⟨b, 0, none⟩ ⟨wb, 0, none⟩ 0 n A l c (.inl hn1)).mono ?_
    rintro e w' ⟨rfl, hB⟩
    exact ⟨⟨_, rfl⟩, hB.mono hN⟩
  · obtain ⟨m, rfl⟩ : ∃ m : Nat, n = m := ⟨n.toNat, by omega⟩
    refine (chunk_p (newK b lb) 0 (fun _ => 0) (fun _ => 1024) base wb kb S [] bs (.slice none 0 0) A m c l 0 w hs hw hb hS (newK_ok _ _) (by omega) (fun _ => by omega) hl hr hc hcm hlen (by omega) (by omega) (by omega)).mono ?_
    rw [fresh_k]
    have hfr : ∀ {w'}, Frm (fun q => q = (newK b lb).sb ∨ q = (newK b lb).lb ∨ q = wb ∨ (Value.slice none 0 0).ownBlock = some q) w w' → Below N w w' := by
      intro w' f
      refine f.below hN ?_
      rintro q (e | e | e | e)
      · rw [e]; exact h1
      · rw [e]; exact h2
      · rw [e]; exact h3
      · cases e
    rintro e w' ⟨f, (⟨hR, rfl⟩ | ⟨told, y, tv, wv', hR, rfl, _⟩)⟩
    · refine ⟨⟨.slice none 0 0, ?_⟩, hfr f⟩
      have : exE S m bs = 11 := by unfold exE; rw [if_neg hn1, Int.toNat_natCast, hR]; rfl
      rw [this]
    · refine ⟨⟨tv, ?_⟩, hfr f⟩
      have : exE S m bs = 0 := by unfold exE; rw [if_neg hn1, Int.toNat_natCast, hR]; rfl
      rw [this]
theorem one_row (w : World) (x : UInt8) : BRow (w.alloc (.cells #[.int .u8 (x.toNat : Int)] 5)) (w.heap.size + 1) (some ⟨w.heap.size, 0, none⟩) [x] := by
  intro _
  refine ⟨w.heap.size, 0, rfl, by omega, fun k hk => ?_⟩
  obtain rfl : k = 0 := by simpa using hk
  exact (Pts.new w #[.int .u8 (x.toNat : Int)] 5).cell 0
theorem slice_toL (A : Option Addr) (n c m : Nat) (hf : m ≤ n) (hn : n ≤ c) (w : World) :
    (Instr.sliceAt 22 (.slice A n c) none (some (.int .i64 (m : Int))) none).run Try.prog w = .ok (.slice A m c) w := by
  by_cases hcf : c = 0
  · simp [go_sem, hcf]
    intro h; omega
  · simp [go_sem, hcf]
    intro h; omega
theorem take_sub1 (bs : List UInt8) : bs.take (bs.length - 1) = bs.dropLast := List.dropLast_eq_take.symm
set_option maxRecDepth 100000 in
set_option maxHeartbeats 4000000 in
theorem lawExact12 (A : Option Addr) (n c : Nat) (f : Nat → Int) (x m : Int) (w : World) (hl : n ≤ c) (hm : c ≤ maxLen) (hr0 : Opn.RowAt w w.heap.size A n (fun i => .int .u8 (f i))) (hf : ∀ i, i < n → 0 ≤ f i ∧ f i ≤ 255) (hx : -9223372036854775808 ≤ x ∧ x ≤ 9223372036854775807) (hb : 0 ≤ m ∧ m ≤ 255) :
    Calls Try.prog 5 #[.slice A n c, .int .i64 x, .int .u8 m] w fun e w' => e = .returned (.bool true) ∧ Below w.heap.size w w' := by
  obtain ⟨bs, hbs, hr⟩ := BRow.of_row hr0 hf
  subst hbs
  have HR := Lib.hid hr
  have HX := Lib.hid hx
  clear hr0 hf hr hx
  have h4 : 16384 < bs.length ∨ (bs.length ≤ 16384 ∧ 16384 < x) ∨ (bs.length ≤ 16384 ∧ x ≤ 16384 ∧ bs.length = 0) ∨ (bs.length ≤ 16384 ∧ x ≤ 16384 ∧ 1 ≤ bs.length) := by omega
  have h5 : (16384 < bs.length ∨ (bs.length ≤ 16384 ∧ 16384 < x) ∨ (bs.length ≤ 16384 ∧ x ≤ 16384 ∧ bs.length = 0)) ∨ (bs.length ≤ 16384 ∧ x ≤ 16384 ∧ 1 ≤ bs.length) := by omega
  clear h4
  rcases h5 with h | ⟨g1, g2, g3⟩
  · obtain ⟨L, hL⟩ : ∃ L, bs.length = L := ⟨_, rfl⟩
    rw [hL] at h ⊢
    clear HR hl hm hL
    rcases h with h | ⟨h, h2⟩ | ⟨h, h2, rfl⟩
    all_goals
      first | have hi : (16384 : Int) < (L : Int) := by omega | have hi : (L : Int) ≤ 16384 := by omega | skip
      go_enter Try.func5, Try.ntmps5
      go_wp2_with fail
      refine (wakes12 _).mono ?_; rintro e w7 ⟨rfl, hb7⟩
      have B7 := Lib.hid hb7
      clear hb7
      go_wp2
      go_ret
      exact ⟨rfl, B7.out⟩
  · obtain ⟨mm, hmm⟩ : ∃ mm : UInt8, (mm.toNat : Int) = m := ⟨UInt8.ofNat m.toNat, by rw [UInt8.toNat_ofNat']; omega⟩
    subst hmm
    obtain ⟨E, hE⟩ : ∃ E, exE 4096 x bs = E := ⟨_, rfl⟩
    have HE := Lib.hid hE
    have g1i : (bs.length : Int) ≤ 16384 := by omega
    have g3i : (1 : Int) ≤ (bs.length : Int) := by omega
    have G123 := Lib.hid (And.intro g1 (And.intro g2 g3))
    clear hE
    by_cases hE0 : E = 0
    · subst hE0
      have hne : bs ≠ [] := by intro e; rw [e] at g3; simp at g3
      have HE1 := Lib.hid (ex_more (n := x) mm HE.out)
      have HE2 := Lib.hid (ex_less (n := x) hne HE.out)
      obtain ⟨L, hL⟩ : ∃ L, bs.length = L := ⟨_, rfl⟩
      obtain ⟨L1, hL1⟩ : ∃ L1, bs.length - 1 = L1 := ⟨_, rfl⟩
      have hdl : bs.dropLast.length = L1 := by rw [List.length_dropLast, hL1]
      have hz : ((L : Int) == 0) = false := by rw [beq_eq_false_iff_ne]; omega
      have hL1i : (L : Int) - 1 = (L1 : Int) := by omega
      have hL1w : IntKind.i64.wrap (L1 : Int) = (L1 : Int) := Go.IntWalk.i64_in _ (by omega)
      have hsl : ∀ w, (Instr.sliceAt 22 (.slice A L c) none (some (.int .i64 (L1 : Int))) none).run Try.prog w = .ok (.slice A L1 c) w := fun w => slice_toL A L c L1 (by omega) (by omega) w
      have HRD : Hid (BRow w w.heap.size A bs.dropLast) := Lib.hid (by rw [← take_sub1]; exact HR.out.take _)
      have HDL := Lib.hid hdl
      have HL := Lib.hid hL
      have HLL : Hid (bs.length ≤ c ∧ L1 ≤ c ∧ L ≤ 16384 ∧ L1 ≤ 16384) := Lib.hid ⟨by omega, by omega, by omega, by omega⟩
      rw [hL] at g1i g3i ⊢
      clear hne hl hdl hL1 hL g1 g3
      go_enter Try.func5, Try.ntmps5
      go_wp2_with fail
      refine (lnew_st _).mono ?_; rintro e w1 ⟨b1, lb1, rfl, k1, k2, hs1, hB1⟩
      have S1 := Lib.hid hs1
      have B1 := Lib.hid hB1
      clear hs1 hB1
      go_wp2_with fail
      refine (room_p 4096 w1 (by omega) (by omega)).mono ?_; rintro e w2 ⟨wb, kb, rfl, k3, hw2, hB2⟩
      have S2 := Lib.hid (S1.out.later hB2)
      have W2 := Lib.hid hw2
      have B2 := Lib.hid (B1.out.trans (hB2.mono B1.out.size))
      have Z2 := Lib.hid hB2.size
      clear hw2 hB2
      go_wp2_with fail
      refine (fresh_chunk w.heap.size b1 lb1 w1.heap.size wb kb 4096 L c x bs A w2 S2.out W2.out Z2.out (by omega) HL.out.symm ((HR.out.below B2.out).more B2.out.size) HLL.out.1 hm (by have := HLL.out; have := HL.out; omega) (by omega) k1 k2 (Nat.le_trans B1.out.size k3) B2.out.size).mono ?_; rintro e w3 ⟨⟨tv, rfl⟩, hB3⟩
      rw [HE.out]
      have B3 := Lib.hid (B2.out.trans hB3)
      clear hB3
      go_wp2_with fail
      refine (lnew_st _).mono ?_; rintro e w4 ⟨b4, lb4, rfl, k4, k5, hs4, hB4⟩
      have S4 := Lib.hid hs4
      have B4 := Lib.hid (B3.out.trans (hB4.mono B3.out.size))
      have k4' := Nat.le_trans B3.out.size k4
      have k5' := Nat.le_trans B3.out.size k5
      clear hs4 hB4
      go_wp2_with fail
      refine (room_p 4096 w4 (by omega) (by omega)).mono ?_; rintro e w5 ⟨wb5, kb5, rfl, k6, hw5, hB5⟩
      have S5 := Lib.hid (S4.out.later hB5)
      have W5 := Lib.hid hw5
      have B5 := Lib.hid (B4.out.trans (hB5.mono B4.out.size))
      have Z5 := Lib.hid hB5.size
      have k6' := Nat.le_trans B4.out.size k6
      clear hw5 hB5
      go_wp2_with (at_builtin; refine wpList_append_bytes _ rfl (.tmp 40) (.tmp 41) 22 rfl 5 w5.heap.size Try.underlying22 Try.info_u8 (.slice (some ⟨w5.heap.size, 0, none⟩) 0 0) [] rfl ?own1 A L c w.heap.size bs rfl HL.out.symm ?row1 ?len1 ?base1 ?next1)
      case own1 => exact OwnB.made w5 _ _ (Nat.le_refl _)
      case row1 => exact (HR.out.below B5.out).below ((Below.refl _ w5).alloc B5.out.size _)
      case len1 => have := HLL.out; have := HL.out; simp; omega
      case base1 => simp
      case next1 =>
        intro v6 w6 hown6 hfrm6 hnew6
        have F6 := Lib.hid ((below_alloc w5 _).trans (hfrm6.below (by simp) (fun q hq => by obtain rfl := Option.some.inj hq; exact Nat.le_refl _)))
        obtain ⟨A6, c6, rfl, -, -, -⟩ := hown6.slice
        rw [HL.out] at hown6 ⊢
        have O6 := Lib.hid hown6
        clear hown6 hfrm6 hnew6
        go_wp2_with (at_builtin; refine wpList_append_bytes _ rfl (.tmp 42) (.tmp 44) 22 rfl 5 w5.heap.size Try.underlying22 Try.info_u8 (.slice A6 L c6) bs rfl ?own2 (some ⟨w6.heap.size, 0, none⟩) 1 1 (w6.heap.size + 1) [mm] rfl rfl ?row2 ?len2 ?base2 ?next2)
        case own2 => exact O6.out.alloc _
        case row2 => exact one_row w6 mm
        case len2 => have := HLL.out; have := HL.out; simp; omega
        case base2 => have := F6.out.size; simp; omega
        case next2 =>
          intro v7 w7 hown7 hfrm7 hnew7
          have F7 := Lib.hid ((F6.out.trans ((below_alloc w6 _).mono F6.out.size)).trans (hfrm7.below (by have := F6.out.size; simp; omega) (fun q hq => (O6.out.lt hq).1)))
          obtain ⟨A7, c7, rfl, hc7, hm7, hr7⟩ := hown7.slice
          obtain ⟨M, hM⟩ : ∃ M, (bs ++ [mm]).length = M := ⟨_, rfl⟩
          have hMb : M ≤ 16385 := by rw [← hM, List.length_append, HL.out]; have := HLL.out; simp; omega
          rw [hM] at hc7 ⊢
          have HM := Lib.hid hM
          have R7 := Lib.hid hr7
          clear hown7 hfrm7 hnew7 hr7 hM
          go_wp2_with fail
          refine (fresh_chunk w.heap.size b4 lb4 w4.heap.size wb5 kb5 4096 M c7 x (bs ++ [mm]) A7 w7 (S5.out.later F7.out) (W5.out.later F7.out) (Nat.le_trans Z5.out F7.out.size) (by omega) HM.out.symm R7.out (by rw [HM.out]; exact hc7) hm7 (by rw [HM.out]; omega) (by omega) k4' k5' k6' (Nat.le_trans B5.out.size F7.out.size)).mono ?_; rintro e w8 ⟨⟨tv2, rfl⟩, hB8⟩
          rw [HE1.out]
          have B8 := Lib.hid ((B5.out.trans (F7.out.mono B5.out.size)).trans hB8)
          clear hB8 hc7 hm7 hMb
          go_upto_region 7 with fail
          go_cut [12] from 13 (fun ev wx => ev = .int .i64 11 ∧ Below w.heap.size w wx)
          case first =>
            have BD := Lib.hid (B8.out.drew)
            go_region_with (first
              | (go_at_call 9; refine (lnew_st _).mono ?_; rintro e w9 ⟨b9, lb9, rfl, j1, j2, hs9, hB9⟩; have S9 := Lib.hid hs9; have B9 := Lib.hid (BD.out.trans (hB9.mono BD.out.size)); have J1 := Lib.hid (Nat.le_trans BD.out.size j1); have J2 := Lib.hid (Nat.le_trans BD.out.size j2); clear hs9 hB9)
              | (go_at_call 8; refine (room_p 4096 _ (by omega) (by omega)).mono ?_; rintro e w10 ⟨wb9, kb9, rfl, j3, hw9, hB10⟩; have S10 := Lib.hid (S9.out.later hB10); have W10 := Lib.hid hw9; have B10 := Lib.hid (B9.out.trans (hB10.mono B9.out.size)); have Z10 := Lib.hid hB10.size; have J3 := Lib.hid (Nat.le_trans B9.out.size j3); clear hw9 hB10)
              | (go_at_call 7; refine (fresh_chunk w.heap.size b9 lb9 w9.heap.size wb9 kb9 4096 L1 c x bs.dropLast A w10 S10.out W10.out Z10.out (by omega) HDL.out.symm ((HRD.out.below B10.out).more B10.out.size) (by rw [HDL.out]; exact HLL.out.2.1) hm (by rw [HDL.out]; have := HLL.out; omega) (by omega) J1.out J2.out J3.out B10.out.size).mono ?_; rintro e w11 ⟨⟨tv3, rfl⟩, hB11⟩; rw [HE2.out]; have B11 := Lib.hid (B10.out.trans hB11); clear hB11))
            all_goals
              go_wp2
              go_meet
              case rel => exact ⟨rfl, B11.out⟩
          case rest =>
            obtain ⟨rfl, hB12⟩ := hcut
            have B12 := Lib.hid hB12
            clear hB12
            go_wp2_with fail
            refine (wakes12 _).mono ?_; rintro e w13 ⟨rfl, hb13⟩
            have B13 := Lib.hid (B12.out.trans (hb13.mono B12.out.size))
            clear hb13
            go_wp2
            go_ret
            exact ⟨rfl, B13.out⟩
    · have hq1 : (E == 0) = false := by rw [beq_eq_false_iff_ne]; exact hE0
      have hq2 : (E != 0) = true := by rw [bne_iff_ne]; exact hE0
      have hz : ((bs.length : Int) == 0) = false := by rw [beq_eq_false_iff_ne]; omega
      clear hE0
      go_enter Try.func5, Try.ntmps5
      go_wp2_with fail
      refine (lnew_st _).mono ?_; rintro e w1 ⟨b1, lb1, rfl, k1, k2, hs1, hB1⟩
      have S1 := Lib.hid hs1
      have B1 := Lib.hid hB1
      clear hs1 hB1
      go_wp2_with fail
      refine (room_p 4096 w1 (by omega) (by omega)).mono ?_; rintro e w2 ⟨wb, kb, rfl, k3, hw2, hB2⟩
      have S2 := Lib.hid (S1.out.later hB2)
      have W2 := Lib.hid hw2
      have B2 := Lib.hid (B1.out.trans (hB2.mono B1.out.size))
      have Z2 := Lib.hid hB2.size
      clear hw2 hB2
      go_wp2_with fail
      refine (fresh_chunk w.heap.size b1 lb1 w1.heap.size wb kb 4096 bs.length c x bs A w2 S2.out W2.out Z2.out (by omega) rfl ((HR.out.below B2.out).more B2.out.size) hl hm (by omega) (by omega) k1 k2 (Nat.le_trans B1.out.size k3) B2.out.size).mono ?_; rintro e w3 ⟨⟨tv, rfl⟩, hB3⟩
      rw [HE.out]
      have B3 := Lib.hid (B2.out.trans hB3)
      clear hB3
      go_wp2_with fail
      refine (wakes12 _).mono ?_; rintro e w7 ⟨rfl, hb7⟩
      have B7 := Lib.hid (B3.out.trans (hb7.mono B3.out.size))
      clear hb7
      go_wp2
      go_ret
      exact ⟨rfl, B7.out⟩
end Go.Proofs.Yteghpnlamdgpnaa
