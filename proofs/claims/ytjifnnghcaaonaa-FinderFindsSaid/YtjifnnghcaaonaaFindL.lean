/- The contract of the longest match. -/
import Derived.Test.YtjifnnghcaaonaaChecked
import Derived.Test.YtjifnnghcaaonaaFindC
import Derived.WalkMore
import Derived.Deep.LoopGhost
namespace Go.Proofs.Ytjifnnghcaaonaa
open Go.RowKit Fnd
set_option linter.unusedVariables false
set_option linter.unusedSimpArgs false

/-- A match of a place: none, or one that does stand there. -/
def MatchOk (bs : List UInt8) (win i size back : Nat) : Prop :=
  (size = 0 ∧ back = 0) ∨ (1 ≤ back ∧ back ≤ win ∧ back ≤ i ∧ ∀ k, k < size → bs.getD (i + k) 0 = bs.getD (i + k - back) 0)
/-- The last place of a like key has all that is asked for. -/
def Whole (bs : List UInt8) (key win lim i : Nat) (f : Int → Option Int) : Prop :=
  i + key ≤ bs.length ∧ ∃ p : Nat, f (keyAt bs key i) = some (p : Int) ∧ p < i ∧ i - p ≤ win ∧ ∀ j, j < lim → bs.getD (p + j) 0 = bs.getD (i + j) 0
structure Longest (bs : List UInt8) (key win least most i : Nat) (f : Int → Option Int) (size back : Nat) : Prop where
  ok : MatchOk bs win i size back
  lim : size ≤ min most (bs.length - i)
  lo : size = 0 ∨ least ≤ size
  whole : Whole bs key win (min most (bs.length - i)) i f → least ≤ min most (bs.length - i) → size = min most (bs.length - i)

theorem long_no {bs : List UInt8} {key win least most i lim : Nat} {f : Int → Option Int} (hl : min most (bs.length - i) = lim) {sz : Nat} (h : Whole bs key win lim i f → least ≤ lim → sz = lim) (hs : sz < least) : Longest bs key win least most i f 0 0 :=
  ⟨.inl ⟨rfl, rfl⟩, Nat.zero_le _, .inl rfl, fun h1 h2 => by rw [hl] at *; have := h h1 h2; omega⟩
theorem long_yes {bs : List UInt8} {key win least most i lim : Nat} {f : Int → Option Int} (hl : min most (bs.length - i) = lim) {sz bk : Nat} (h0 : MatchOk bs win i sz bk) (h1 : sz ≤ lim) (h : Whole bs key win lim i f → least ≤ lim → sz = lim) (hs : least ≤ sz) : Longest bs key win least most i f sz bk :=
  ⟨h0, by omega, .inr hs, fun h1 h2 => by rw [hl] at *; exact h h1 h2⟩
theorem match_new {bs : List UInt8} {win i q t : Nat} (hq : q < i) (hw : i - q ≤ win) (h : ∀ j, j < t → bs.getD (q + j) 0 = bs.getD (i + j) 0) : MatchOk bs win i t (i - q) :=
  .inr ⟨by omega, hw, by omega, fun k hk => by rw [show i + k - (i - q) = q + k by omega]; exact (h k hk).symm⟩

set_option maxRecDepth 100000 in
set_option maxHeartbeats 1000000 in
theorem longest_any (B bc bp bm : Nat) (A : Option Addr) (cap : Nat) (bs : List UInt8) (key cnt i win least most tries : Nat) (lazy : Bool) (f : Int → Option Int) (prev : List Int) (w : World) (hC : ChainAt w B bc bp bm A cap bs key cnt f prev)
    (hcap : bs.length ≤ cap) (hcm : cap ≤ maxLen) (hb : bs.length ≤ 1048576) (hk : key ≤ 4) (hi : i ≤ bs.length) (hf : ∀ k p, f k = some p → 0 ≤ p ∧ p < i)
    (hprev : ∀ j, j < bs.length → -1 ≤ prev.getD j 0 ∧ prev.getD j 0 ≤ j) (hw1 : 1 ≤ win) (hw2 : win ≤ 16777216) (hl2 : 2 ≤ least) (hlm : least ≤ most) (hm : most ≤ 65536) (ht : 1 ≤ tries) (ht2 : tries ≤ 1000) :
    Calls Try.prog 18 #[.pointer (some ⟨bc, 0, none⟩), .int .i64 i, .agg #[.int .i64 win, .int .i64 least, .int .i64 most, .int .i64 tries, .bool lazy]] w fun e w' =>
      ∃ size back : Nat, e = .returned (.tuple #[.int .i64 size, .int .i64 back]) ∧ Longest bs key win least most i f size back ∧ Below w.heap.size w w' := by
  obtain ⟨l1, l2, l3⟩ := hC.lt
  have hc1 : Pts (w.alloc (.cells #[.int .i64 win, .int .i64 least, .int .i64 most, .int .i64 tries, .bool lazy] 42)) bc _ _ := hC.c.alloc _
  have PC := Lib.hid hc1
  have hbel : Below w.heap.size w (w.alloc (.cells #[.int .i64 win, .int .i64 least, .int .i64 most, .int .i64 tries, .bool lazy] 42)) := (Below.refl _ _).alloc (Nat.le_refl _) _
  have BE := Lib.hid hbel
  clear hc1 hbel
  by_cases hik : i + key ≤ bs.length
  · obtain ⟨D, hD, hM⟩ := hC.m
    have hrow1 : BRow (w.alloc (.cells #[.int .i64 win, .int .i64 least, .int .i64 most, .int .i64 tries, .bool lazy] 42)) w.heap.size A bs := (hC.row.more (Nat.le_trans hC.hc (Nat.le_of_lt l1))).below BE.out
    have hmap1 := World.ownsMap.alloc hD (.cells #[.int .i64 win, .int .i64 least, .int .i64 most, .int .i64 tries, .bool lazy] 42)
    have ROW := Lib.hid hrow1
    have HMAP := Lib.hid hmap1
    have HF := Lib.hid hf
    have hPP := Lib.hid hC.p
    have HN := Lib.hid hC.n
    have HPREV := Lib.hid hprev
    have hkl : keyAt bs key i < 4294967296 := keyFold_lt _
    have hkey : keyOf Try.prog 51 (.int .u32 (keyAt bs key i)) = some (.int .u32 (keyAt bs key i)) := Go.Maps.keyOf_int_mk Try.underlying51 (wf_u32 (by omega) (by omega))
    have HAT := Lib.hid (fun (w : World) hc hr => at_any bc A bs cap key i (.map (some bm)) (.slice (some ⟨bp, 0, none⟩) bs.length bs.length) w hc hr hcap hcm hik hb)
    have hkk : ∃ kk, keyAt bs key i = kk := ⟨_, rfl⟩
    obtain ⟨kk, hkk⟩ := hkk
    have HKK := Lib.hid hkk
    rw [hkk] at hkl hkey
    have HAT2 : ∀ (w : World), Pts w bc #[.slice A bs.length cap, .int .i64 key, .map (some bm), .slice (some ⟨bp, 0, none⟩) bs.length bs.length] 46 → BRow w w.heap.size A bs → Calls Try.prog 19 #[.pointer (some ⟨bc, 0, none⟩), .int .i64 i] w fun e w' => e = .returned (.tuple #[.int .u32 kk, .bool true]) ∧ ∃ d, w' = w.drewN d := by rw [← hkk]; exact HAT.out
    have HAT3 := Lib.hid HAT2
    obtain ⟨hh, hv⟩ := hM.2 kk
    have x2 : (w.alloc (.cells #[.int .i64 win, .int .i64 least, .int .i64 most, .int .i64 tries, .bool lazy] 42)).cell? ⟨bc, 2, none⟩ = some (.map (some bm)) := by rw [PC.out.cell]; rfl
    have x0 : (w.alloc (.cells #[.int .i64 win, .int .i64 least, .int .i64 most, .int .i64 tries, .bool lazy] 42)).cell? ⟨bc, 0, none⟩ = some (.slice A bs.length cap) := by rw [PC.out.cell]; rfl
    have hlim : ∃ lim, min most (bs.length - i) = lim := ⟨_, rfl⟩
    obtain ⟨lim, hlim⟩ := hlim
    have hmin : min (most : Int) ((bs.length : Int) - i) = lim := by omega
    have HLIM := Lib.hid hlim
    have hlimle : i + lim ≤ bs.length := by omega
    have hlimm : lim ≤ most := by omega
    have hmin2 := fun w => min2_int (P := Try.prog) #[3, 3] 3 most ((bs.length : Int) - i) lim hmin w
    clear hlim hmin hkk HAT2 HAT hC hrow1 hmap1 hf hprev hM hD
    cases hfk : f kk with
    | none =>
      rw [hfk] at hh
      simp only [Option.isSome_none] at hh
      have HFK := Lib.hid hfk
      clear hv hfk
      go_enter Try.func18, Try.ntmps18
      go_wp2
      go_step3
      go_wp2_with (first
        | (go_at_call 19; refine (HAT3.out _ PC.out (ROW.out.more (by simp))).mono ?_; rintro e w1 ⟨rfl, d, rfl⟩)
        | (at_lookup; refine Go.wpList_lookup_own_ok_int _ rfl (.tmp 27) (.tmp 28) 44 rfl 51 3 .i64 Try.law_u32 Try.underlying44 Try.underlying3 (Try.zero_int _) bm cnt D rfl HMAP.out _ _ rfl hkey ?_; intro c hat hwc)
        | go_in)
      go_quiet (fail)
      go_wp2
      go_step3
      go_wp2
      refine wp_loop_once ?_
      go_wp2
      rw [Exit.noGoto_ret]
      go_ret2
      exact ⟨0, 0, rfl, ⟨.inl ⟨rfl, rfl⟩, Nat.zero_le _, .inl rfl, fun h => by obtain ⟨_, p, hp, _⟩ := h; rw [HKK.out, HFK.out] at hp; cases hp⟩, below_drewN BE.out _⟩
    | some p =>
      rw [hfk] at hh
      simp only [Option.isSome_some] at hh
      obtain ⟨hp0, hp1⟩ := HF.out _ _ hfk
      obtain ⟨p0, rfl⟩ : ∃ p0 : Nat, p = p0 := ⟨p.toNat, by omega⟩
      have HV := Lib.hid (hv p0 hfk)
      have hwh : ∀ q, f (keyAt bs key i) = some q → q = p0 := by intro q hq; rw [HKK.out, hfk] at hq; injection hq with hq; exact hq.symm
      have HWH := Lib.hid hwh
      have hpi : p0 < i := by omega
      have PP : Pts (w.alloc (.cells #[.int .i64 win, .int .i64 least, .int .i64 most, .int .i64 tries, .bool lazy] 42)) bp _ _ := hPP.out.alloc _
      have PPH := Lib.hid PP
      have x3 : (w.alloc (.cells #[.int .i64 win, .int .i64 least, .int .i64 most, .int .i64 tries, .bool lazy] 42)).cell? ⟨bc, 3, none⟩ = some (.slice (some ⟨bp, 0, none⟩) bs.length bs.length) := by rw [PC.out.cell]; rfl
      have y0 : (w.alloc (.cells #[.int .i64 win, .int .i64 least, .int .i64 most, .int .i64 tries, .bool lazy] 42)).cell? ⟨w.heap.size, 0, none⟩ = some (.int .i64 win) := by rw [(Pts.new w _ _).cell]; rfl
      have y1 : (w.alloc (.cells #[.int .i64 win, .int .i64 least, .int .i64 most, .int .i64 tries, .bool lazy] 42)).cell? ⟨w.heap.size, 1, none⟩ = some (.int .i64 least) := by rw [(Pts.new w _ _).cell]; rfl
      have y3 : (w.alloc (.cells #[.int .i64 win, .int .i64 least, .int .i64 most, .int .i64 tries, .bool lazy] 42)).cell? ⟨w.heap.size, 3, none⟩ = some (.int .i64 tries) := by rw [(Pts.new w _ _).cell]; rfl
      clear hv hfk hwh hp0 hp1 PP
      go_enter Try.func18, Try.ntmps18
      go_wp2
      go_step3
      go_wp2_with (first
        | (go_at_call 19; refine (HAT3.out _ PC.out (ROW.out.more (by simp))).mono ?_; rintro e w1 ⟨rfl, d, rfl⟩)
        | (at_lookup; refine Go.wpList_lookup_own_ok_int _ rfl (.tmp 27) (.tmp 28) 44 rfl 51 3 .i64 Try.law_u32 Try.underlying44 Try.underlying3 (Try.zero_int _) bm cnt D rfl HMAP.out _ _ rfl hkey ?_; intro c hat hwc; obtain rfl : c = p0 := by { have e := hat.symm.trans HV.out; injection e with e; injection e }; clear hat HV)
        | go_in)
      go_quiet (fail)
      go_wp2
      go_step3
      go_wp2
      generalize w.alloc (.cells #[.int .i64 win, .int .i64 least, .int .i64 most, .int .i64 tries, .bool lazy] 42) = w1 at *
      obtain ⟨b, off, rfl, hblt, hcells⟩ := ROW.out (by omega)
      have CELLS := Lib.hid hcells
      clear hcells hmin2 ROW HMAP HAT3
      go_loopw [6, 7, 10, 13] (fun sv kv pv nv wr => ∃ (sz bk nn : Nat) (q : Int), sv = .int .i64 sz ∧ kv = .int .i64 bk ∧ pv = .int .i64 q ∧ nv = .int .i64 nn ∧ nn ≤ tries ∧ -1 ≤ q ∧ q < i ∧ MatchOk bs win i sz bk ∧ sz ≤ lim ∧
          (nn = 0 → sz = 0 ∧ q = p0) ∧ (0 < nn → Whole bs key win lim i f → least ≤ lim → False) ∧ ∃ dd, wr = w1.drewN dd) (fun _ _ _ nv _ => tries - (intOf nv).toNat)
      case atStart => exact ⟨0, 0, 0, p0, rfl, rfl, rfl, rfl, by omega, by omega, by omega, .inl ⟨rfl, rfl⟩, by omega, fun _ => ⟨rfl, rfl⟩, fun h => absurd h (by omega), by first | exact ⟨_, rfl⟩ | exact ⟨_, World.drewN_drewN _ _ _⟩⟩
      case round =>
        obtain ⟨sz, bk, nn, q, rfl, rfl, rfl, rfl, hnn, hq1, hqi, hmo, hszl, hst, hnw, dd, rfl⟩ := hrel
        have MO := Lib.hid hmo
        have ST := Lib.hid hst
        have NW := Lib.hid hnw
        clear hmo hst hnw
        by_cases hend : q < 0 ∨ tries ≤ nn ∨ (win : Int) < i - q
        · have hfin : Whole bs key win lim i f → least ≤ lim → sz = lim := by
            intro h1 h2
            by_cases h0 : 0 < nn
            · exact (NW.out h0 h1 h2).elim
            · obtain ⟨_, rfl⟩ := ST.out (by omega)
              obtain ⟨_, p, hp, hp2, hp3, _⟩ := h1
              have := HWH.out _ hp
              omega
          have FIN := Lib.hid hfin
          clear hfin
          have h3 : q < 0 ∨ (0 ≤ q ∧ tries ≤ nn) ∨ (0 ≤ q ∧ nn < tries ∧ (win : Int) < i - q) := by omega
          clear hend
          by_cases hsl : sz < least
          · have LN := Lib.hid (long_no HLIM.out FIN.out hsl)
            rcases h3 with h | ⟨h, h2⟩ | ⟨h, h2, h4⟩
            all_goals
              go_wp2
              try rw [Exit.noGoto_ret]
              go_ret2
              exact ⟨0, 0, rfl, LN.out, below_drewN BE.out _⟩
          · have LY := Lib.hid (long_yes HLIM.out MO.out hszl FIN.out (by omega))
            rcases h3 with h | ⟨h, h2⟩ | ⟨h, h2, h4⟩
            all_goals
              go_wp2
              try rw [Exit.noGoto_ret]
              go_ret2
              exact ⟨sz, bk, rfl, LY.out, below_drewN BE.out _⟩
        · obtain ⟨Q, rfl⟩ : ∃ Q : Nat, q = Q := ⟨q.toNat, by omega⟩
          have hQi : Q < i := by omega
          have hQw : ((i : Int) - Q) ≤ win := by omega
          have hnt : nn < tries := by omega
          have hcast : ((i - Q : Nat) : Int) = i - Q := by omega
          have HCAST := Lib.hid hcast
          have hpv : w1.cell? ⟨bp, Q, none⟩ = some (.int .i64 (prev.getD Q 0)) := by rw [PPH.out.cell, prevCells_get _ _ (by rw [HN.out]; omega)]
          have PV := Lib.hid (HPREV.out Q (by omega))
          clear hcast
          clear hend
          go_wp2
          go_loopw [14] (fun mv wr => ∃ t : Nat, t ≤ lim ∧ mv = .int .i64 t ∧ (∀ j, j < t → bs.getD (Q + j) 0 = bs.getD (i + j) 0) ∧ ∃ dd, wr = w1.drewN dd) (fun mv _ => lim - (intOf mv).toNat)
          case atStart => exact ⟨0, by omega, rfl, fun j h => absurd h (by omega), _, rfl⟩
          case round =>
            obtain ⟨t, htl, rfl, hall, d2, rfl⟩ := hrel
            have ALL := Lib.hid hall
            clear hall
            by_cases htlt : t < lim
            · have e1 := CELLS.out (Q + t) (by omega)
              have e2 := CELLS.out (i + t) (by omega)
              unfold byteV at e1 e2
              by_cases hbb : bs.getD (Q + t) 0 = bs.getD (i + t) 0
              · have HBB := Lib.hid hbb
                rw [hbb] at e1
                clear hbb
                generalize bs.getD (i + t) 0 = x at e1 e2
                go_wp2
                go_quiet (fail)
                go_wp2
                exact ⟨⟨t + 1, by omega, by go_num, fun j hj => by
                  rcases Nat.lt_or_ge j t with h | h
                  · exact ALL.out j h
                  · obtain rfl : j = t := by omega
                    exact HBB.out, by first | exact ⟨_, rfl⟩ | exact ⟨_, World.drewN_drewN _ _ _⟩⟩, by simp [intOf]; omega⟩
              · have hEX : t = lim ∨ bs.getD (Q + t) 0 ≠ bs.getD (i + t) 0 := .inr hbb
                have EX := Lib.hid hEX
                clear hEX
                generalize bs.getD (Q + t) 0 = x at e1 hbb
                generalize bs.getD (i + t) 0 = y at e2 hbb
                have hne2 : ((x.toNat : Int) == (y.toNat : Int)) = false := beq_eq_false_iff_ne.2 (fun e => hbb (UInt8.toNat_inj.1 (by omega)))
                clear hbb
                by_cases hts : sz < t
                · have MO2 := Lib.hid (match_new (win := win) hQi (by omega) ALL.out)
                  by_cases htL : t = lim
                  · omega
                  · have hnL : decide ((t : Int) = lim) = false := decide_eq_false (by omega)
                    have hnL2 : ((t : Int) == (lim : Int)) = false := beq_eq_false_iff_ne.2 (by omega)
                    have NW2 := Lib.hid (fun (h1 : Whole bs key win lim i f) (h2 : least ≤ lim) => show False from by
                      by_cases h0 : 0 < nn
                      · exact NW.out h0 h1 h2
                      · obtain ⟨h3, h4⟩ := ST.out (by omega)
                        obtain ⟨_, p, hp, hp2, hp3, hp4⟩ := h1
                        have h5 := HWH.out _ hp
                        obtain rfl : p = Q := by omega
                        rcases EX.out with h6 | h6
                        · exact htL h6
                        · exact h6 (hp4 t (by omega)))
                    go_wp2
                    go_quiet (fail)
                    go_wp2
                    go_quiet (fail)
                    go_wp2
                    exact ⟨⟨t, i - Q, nn + 1, prev.getD Q 0, rfl, by rw [HCAST.out], rfl, by go_num, by omega, PV.out.1, by have := PV.out.2; omega, MO2.out, by omega, fun h => absurd h (by omega), fun _ => NW2.out, by first | exact ⟨_, rfl⟩ | exact ⟨_, World.drewN_drewN _ _ _⟩⟩, by simp [intOf]; omega⟩
                · by_cases htL : sz = lim
                  · have hd : decide ((sz : Int) = lim) = true := decide_eq_true (by omega)
                    have hd2 : ((sz : Int) == (lim : Int)) = true := beq_iff_eq.2 (by omega)
                    by_cases hsl : sz < least
                    · have LN := Lib.hid (long_no HLIM.out (f := f) (key := key) (win := win) (least := least) (fun _ _ => htL) hsl)
                      go_wp2
                      go_quiet (fail)
                      go_wp2
                      try rw [Exit.noGoto_ret]
                      go_ret2
                      exact ⟨0, 0, rfl, LN.out, below_drewN BE.out _⟩
                    · have LY := Lib.hid (long_yes HLIM.out (f := f) (key := key) (win := win) (least := least) (sz := sz) MO.out (by omega) (fun _ _ => htL) (by omega))
                      go_wp2
                      go_quiet (fail)
                      go_wp2
                      try rw [Exit.noGoto_ret]
                      go_ret2
                      exact ⟨sz, bk, rfl, LY.out, below_drewN BE.out _⟩
                  · have hnL : decide ((sz : Int) = lim) = false := decide_eq_false (by omega)
                    have hnL2 : ((sz : Int) == (lim : Int)) = false := beq_eq_false_iff_ne.2 (by omega)
                    have NW2 := Lib.hid (fun (h1 : Whole bs key win lim i f) (h2 : least ≤ lim) => show False from by
                      by_cases h0 : 0 < nn
                      · exact NW.out h0 h1 h2
                      · obtain ⟨h3, h4⟩ := ST.out (by omega)
                        obtain ⟨_, p, hp, hp2, hp3, hp4⟩ := h1
                        have h5 := HWH.out _ hp
                        obtain rfl : p = Q := by omega
                        rcases EX.out with h6 | h6
                        · omega
                        · exact h6 (hp4 t (by omega)))
                    go_wp2
                    go_quiet (fail)
                    go_wp2
                    go_quiet (fail)
                    go_wp2
                    exact ⟨⟨sz, bk, nn + 1, prev.getD Q 0, rfl, rfl, rfl, by go_num, by omega, PV.out.1, by have := PV.out.2; omega, MO.out, by omega, fun h => absurd h (by omega), fun _ => NW2.out, by first | exact ⟨_, rfl⟩ | exact ⟨_, World.drewN_drewN _ _ _⟩⟩, by simp [intOf]; omega⟩
            · have hEX : t = lim ∨ bs.getD (Q + t) 0 ≠ bs.getD (i + t) 0 := .inl (by omega)
              have EX := Lib.hid hEX
              clear hEX
              by_cases hts : sz < t
              · have MO2 := Lib.hid (match_new (win := win) hQi (by omega) ALL.out)
                by_cases htL : t = lim
                · have hd : decide ((t : Int) = lim) = true := decide_eq_true (by omega)
                  have hd2 : ((t : Int) == (lim : Int)) = true := beq_iff_eq.2 (by omega)
                  by_cases hsl : t < least
                  · have LN := Lib.hid (long_no HLIM.out (f := f) (key := key) (win := win) (least := least) (fun _ _ => htL) hsl)
                    go_wp2
                    go_quiet (fail)
                    go_wp2
                    try rw [Exit.noGoto_ret]
                    go_ret2
                    exact ⟨0, 0, rfl, LN.out, below_drewN BE.out _⟩
                  · have LY := Lib.hid (long_yes HLIM.out (f := f) (key := key) (win := win) (least := least) (sz := t) MO2.out (by omega) (fun _ _ => htL) (by omega))
                    go_wp2
                    go_quiet (fail)
                    go_wp2
                    try rw [Exit.noGoto_ret]
                    go_ret2
                    exact ⟨t, i - Q, by rw [HCAST.out]; rfl, LY.out, below_drewN BE.out _⟩
                · omega
              · by_cases htL : sz = lim
                · have hd : decide ((sz : Int) = lim) = true := decide_eq_true (by omega)
                  have hd2 : ((sz : Int) == (lim : Int)) = true := beq_iff_eq.2 (by omega)
                  by_cases hsl : sz < least
                  · have LN := Lib.hid (long_no HLIM.out (f := f) (key := key) (win := win) (least := least) (fun _ _ => htL) hsl)
                    go_wp2
                    go_quiet (fail)
                    go_wp2
                    try rw [Exit.noGoto_ret]
                    go_ret2
                    exact ⟨0, 0, rfl, LN.out, below_drewN BE.out _⟩
                  · have LY := Lib.hid (long_yes HLIM.out (f := f) (key := key) (win := win) (least := least) (sz := sz) MO.out (by omega) (fun _ _ => htL) (by omega))
                    go_wp2
                    go_quiet (fail)
                    go_wp2
                    try rw [Exit.noGoto_ret]
                    go_ret2
                    exact ⟨sz, bk, rfl, LY.out, below_drewN BE.out _⟩
                · omega
  · clear hf hprev hC
    go_enter Try.func18, Try.ntmps18
    go_wp2
    go_step3
    go_wp2_with (go_at_call 19; refine (at_no _ _ _ _ _ _ _ _ _ PC.out (by omega) hcap hcm (by omega) hk hb).mono ?_; rintro e w1 ⟨rfl, d, rfl⟩)
    try rw [Exit.noGoto_ret]
    go_ret2
    exact ⟨0, 0, rfl, ⟨.inl ⟨rfl, rfl⟩, Nat.zero_le _, .inl rfl, fun h => absurd h.1 hik⟩, below_drewN BE.out d⟩
end Go.Proofs.Ytjifnnghcaaonaa
