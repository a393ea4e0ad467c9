/- A repeat that is read: the walk. -/
import Derived.Test.YteghpnlamdgpnaaLzS
namespace Go.Proofs.Yteghpnlamdgpnaa
open Go.RowKit Rng Lz Win
set_option linter.unusedVariables false
set_option linter.unusedSimpArgs false
/-- A repeat: its length, the state, the distances, what is then. -/
def repOf {σ : Type} (co : Cod σ) (st p : Nat) (rep : Nat → Nat) (s : CP σ) : Nat × Nat × (Nat → Nat) × CP σ :=
  let a := bitAt co (212 + st) 0 s
  if a.1 = 0 then
    let b := bitAt co (248 + st * 16 + p) 0 a.2
    if b.1 = 0 then (1, behS st 3, rep, b.2)
    else ((lenAt co 1354 2 p b.2).1, behS st 2, rep, (lenAt co 1354 2 p b.2).2)
  else
    let c := bitAt co (224 + st) 0 a.2
    if c.1 = 1 then
      let d := bitAt co (236 + st) 0 c.2
      ((lenAt co 1354 2 p d.2).1, behS st 2, takeS rep (2 + d.1), (lenAt co 1354 2 p d.2).2)
    else ((lenAt co 1354 2 p c.2).1, behS st 2, takeS rep 1, (lenAt co 1354 2 p c.2).2)
theorem RdAt.st3 {Z : Nat → Prop} {w0 w : World} {k : LK} {g : RB} {total : Int} {st : Nat} {rep : Nat → Nat} {s : CP Dec} {C told : List UInt8} {wv tv : Value} (h : RdAt Z w0 w k g total st rep s C told wv tv) : w.cell? ⟨k.sb, 3, none⟩ = some (.int .i64 st) := (h.lz.hdr (i := 3) (by omega)).1
set_option maxRecDepth 100000 in
set_option maxHeartbeats 2000000 in
theorem repeated_p (Z : Nat → Prop) (w0 w : World) (k : LK) (g : RB) (total : Int) (st p : Nat) (rep : Nat → Nat) (s : CP Dec) (C told : List UInt8) (wv tv : Value) (h : RdAt Z w0 w k g total st rep s C told wv tv)
    (hst : st < 12) (hp : p < 16) :
    Calls Try.prog 29 #[.pointer (some ⟨g.xb, 0, none⟩), .int .i64 p] w fun e w' => e = .returned (.int .i64 ((repOf outC st p rep s).1 : Nat)) ∧ RdAt Z w0 w' k g total (repOf outC st p rep s).2.1 (repOf outC st p rep s).2.2.1 (repOf outC st p rep s).2.2.2 C told wv tv := by
  obtain ⟨R, hR⟩ : ∃ R, repOf outC st p rep s = R := ⟨_, rfl⟩
  rw [hR]
  unfold repOf at hR
  obtain ⟨⟨a, sa⟩, ha⟩ : ∃ x, bitAt outC (212 + st) 0 s = x := ⟨_, rfl⟩
  rw [ha] at hR
  dsimp only at hR
  have HR := Lib.hid hR
  have HA := Lib.hid ha
  have HH := Lib.hid h
  obtain ⟨d0, d1, d2, -, -, -⟩ := h.cells
  have d3 := h.st3
  have HD := Lib.hid h.drew
  have P0 := Lib.hid (plm k (i := 212 + st) (by omega) (by omega))
  have hsti : (st : Int) < 12 := by omega
  have hpi : (p : Int) < 16 := by omega
  clear h hR ha
  go_enter Try.func29, Try.ntmps29
  go_upto_region 2 with fail
  go_cut [27] from 7 (fun v wx => ∃ β : Bool, v = .bool β ∧ (β = true ↔ a = 0) ∧ RdAt Z w0 wx k g total st rep sa C told wv tv)
  case first =>
    go_region_with (first
      | (go_at_call 27; refine (lz_bit (obit_any g.db g.rb) HD.out.lz (212 + st) k.sb (212 + st) 0 _ trivial P0.out.1 P0.out.2).mono ?_; rintro e w2 ⟨rfl, h2, f2⟩; rw [HA.out] at h2 ⊢))
    all_goals
      have H2 := Lib.hid (HD.out.lzStep h2 f2)
      clear h2 f2
      go_wp2
      go_meet
      case rel => exact ⟨_, rfl, by simp, H2.out⟩
  case rest =>
    obtain ⟨β, rfl, hβ, h2⟩ := hcut
    have H2 := Lib.hid h2
    clear d0 d1 d2 d3 HD HH
    obtain ⟨d0, d1, d2, -, -, -⟩ := h2.cells
    have d3 := h2.st3
    have HD := Lib.hid h2.drew
    clear h2
    go_upto_if 27 with fail
    go_cut [6] from 7 (fun v wx => ∃ (rep' : Nat → Nat) (s' : CP Dec), ((lenAt outC 1354 2 p s').1, behS st 2, rep', (lenAt outC 1354 2 p s').2) = R ∧ RdAt Z w0 wx k g total st rep' s' C told wv tv)
    case first =>
      by_cases ha0 : a = 0
      · obtain rfl : β = true := hβ.2 ha0
        have hR := HR.out
        rw [if_pos ha0] at hR
        obtain ⟨⟨b, sb⟩, hb⟩ : ∃ x, bitAt outC (248 + st * 16 + p) 0 sa = x := ⟨_, rfl⟩
        rw [hb] at hR
        dsimp only at hR
        have HB := Lib.hid hb
        have HR2 := Lib.hid hR
        have P1 := Lib.hid (plm k (i := 248 + st * 16 + p) (by omega) (by omega))
        clear hR hb hβ ha0 HR
        go_upto_region 3 with fail
        go_cut [43] from 7 (fun v wx => ∃ β : Bool, v = .bool β ∧ (β = true ↔ b = 0) ∧ RdAt Z w0 wx k g total st rep sb C told wv tv)
        case first =>
          go_region_with (first
            | (go_at_call 27; refine (lz_bit (obit_any g.db g.rb) HD.out.lz (248 + st * 16 + p) k.sb (248 + st * 16 + p) 0 _ trivial P1.out.1 P1.out.2).mono ?_; rintro e w2 ⟨rfl, h2, f2⟩; rw [HB.out] at h2 ⊢))
          all_goals
            have H3 := Lib.hid (HD.out.lzStep h2 f2)
            clear h2 f2
            go_wp2
            go_meet
            case rel => exact ⟨_, rfl, by simp, H3.out⟩
        case rest =>
          obtain ⟨β, rfl, hβ, h3⟩ := hcut
          have H3 := Lib.hid h3
          clear d0 d1 d2 d3 HD H2 h3
          by_cases hb0 : b = 0
          · obtain rfl : β = true := hβ.2 hb0
            have hR := HR2.out
            rw [if_pos hb0] at hR
            have HR3 := Lib.hid hR
            clear hR hβ hb0 HR2
            go_wp2_with fail
            refine (behind_any (DC.keep g.db g.rb) 57 k st 3 rep sb _ H3.out.lz hst (by omega)).mono ?_; rintro e w7 ⟨rfl, h7, f7⟩
            have H7 := Lib.hid (H3.out.lzStep h7 f7)
            clear h7 f7
            go_wp2
            go_ret
            rw [← HR3.out]
            exact ⟨rfl, H7.out⟩
          · obtain rfl : β = false := by cases β; rfl; exact absurd (hβ.1 rfl) hb0
            have hR := HR2.out
            rw [if_neg hb0] at hR
            have HR3 := Lib.hid hR
            clear hR hβ hb0 HR2
            go_wp2
            go_meet
            case rel => exact ⟨rep, sb, HR3.out, H3.out⟩
      · obtain rfl : β = false := by cases β; rfl; exact absurd (hβ.1 rfl) ha0
        have hR := HR.out
        rw [if_neg ha0] at hR
        obtain ⟨⟨c, sc⟩, hc⟩ : ∃ x, bitAt outC (224 + st) 0 sa = x := ⟨_, rfl⟩
        rw [hc] at hR
        dsimp only at hR
        have HC := Lib.hid hc
        have HR2 := Lib.hid hR
        have P1 := Lib.hid (plm k (i := 224 + st) (by omega) (by omega))
        clear hR hc hβ ha0 HR
        go_upto_region 7 with fail
        go_cut [60] from 7 (fun v wx => ∃ β : Bool, v = .bool β ∧ (β = true ↔ c = 1) ∧ RdAt Z w0 wx k g total st rep sc C told wv tv)
        case first =>
          go_region_with (first
            | (go_at_call 27; refine (lz_bit (obit_any g.db g.rb) HD.out.lz (224 + st) k.sb (224 + st) 0 _ trivial P1.out.1 P1.out.2).mono ?_; rintro e w2 ⟨rfl, h2, f2⟩; rw [HC.out] at h2 ⊢))
          all_goals
            have H3 := Lib.hid (HD.out.lzStep h2 f2)
            clear h2 f2
            go_wp2
            go_meet
            case rel => exact ⟨_, rfl, by simp; omega, H3.out⟩
        case rest =>
          obtain ⟨β, rfl, hβ, h3⟩ := hcut
          have H3 := Lib.hid h3
          clear d0 d1 d2 d3 HD H2
          obtain ⟨d0, d1, d2, -, -, -⟩ := h3.cells
          have d3 := h3.st3
          have HD := Lib.hid h3.drew
          clear h3
          go_upto_if 60 with fail
          go_cut [6] from 7 (fun v wx => ∃ (n : Nat) (s' : CP Dec), v = .int .i64 n ∧ 1 ≤ n ∧ n ≤ 3 ∧ ((lenAt outC 1354 2 p s').1, behS st 2, takeS rep n, (lenAt outC 1354 2 p s').2) = R ∧ RdAt Z w0 wx k g total st rep s' C told wv tv)
          case first =>
            by_cases hc1 : c = 1
            · obtain rfl : β = true := hβ.2 hc1
              have hR := HR2.out
              rw [if_pos hc1] at hR
              obtain ⟨⟨d, sd⟩, hd⟩ : ∃ x, bitAt outC (236 + st) 0 sc = x := ⟨_, rfl⟩
              rw [hd] at hR
              dsimp only at hR
              have hdl : d ≤ 1 := by have := bitAt_le outC (236 + st) 0 sc; rw [hd] at this; exact this
              have hdw : IntKind.i64.wrap ((2 : Int) + (d : Int)) = (2 : Int) + (d : Int) := Go.IntWalk.i64_in _ (by omega)
              have HDD := Lib.hid hd
              have HR3 := Lib.hid hR
              have P2 := Lib.hid (plm k (i := 236 + st) (by omega) (by omega))
              clear hR hd hβ hc1 HR2
              go_wp2_with fail
              go_region_with (first
                | (go_at_call 27; refine (lz_bit (obit_any g.db g.rb) HD.out.lz (236 + st) k.sb (236 + st) 0 _ trivial P2.out.1 P2.out.2).mono ?_; rintro e w2 ⟨rfl, h2, f2⟩; rw [HDD.out] at h2 ⊢))
              all_goals
                have H4 := Lib.hid (HD.out.lzStep h2 f2)
                clear h2 f2
                go_wp2
                go_meet
                case rel => exact ⟨2 + d, sd, by go_num, by omega, by omega, HR3.out, H4.out⟩
            · obtain rfl : β = false := by cases β; rfl; exact absurd (hβ.1 rfl) hc1
              have hR := HR2.out
              rw [if_neg hc1] at hR
              have HR3 := Lib.hid hR
              clear hR hβ hc1 HR2
              go_wp2
              go_meet
              case rel => exact ⟨1, sc, rfl, by omega, by omega, HR3.out, H3.out⟩
          case rest =>
            obtain ⟨n, s4, rfl, n1, n3, hR, h4⟩ := hcut
            have H4 := Lib.hid h4
            have HR4 := Lib.hid hR
            clear d0 d1 d2 d3 HD H3 hR h4
            go_wp2_with fail
            refine (take_any (DC.keep g.db g.rb) 57 k st n rep s4 _ H4.out.lz ⟨n1, n3⟩).mono ?_; rintro e w5 ⟨rfl, h5, f5⟩
            have H5 := Lib.hid (H4.out.lzStep h5 f5)
            clear h5 f5
            go_wp2
            go_meet
            case rel => exact ⟨_, s4, HR4.out, H5.out⟩
    case rest =>
      obtain ⟨rep5, s5, hR, h5⟩ := hcut
      have HR5 := Lib.hid hR
      have H5 := Lib.hid h5
      clear d0 d1 d2 d3 HD H2 hβ HR hR
      obtain ⟨d0, d1, d2, -, -, -⟩ := h5.cells
      have HD := Lib.hid h5.drew
      obtain ⟨⟨sz, s6⟩, hsz⟩ : ∃ x, lenAt outC 1354 2 p s5 = x := ⟨_, rfl⟩
      have HSZ := Lib.hid hsz
      clear h5 hsz
      go_upto_region 10 with fail
      go_cut [4] from 7 (fun v wx => v = .int .i64 sz ∧ RdAt Z w0 wx k g total st rep5 s6 C told wv tv)
      case first =>
        go_region_with (first
          | (go_at_call 30; refine (lens_p g.db g.rb 57 k st rep5 s5 1354 p _ HD.out.lz (.inr rfl) hp).mono ?_; rintro e w2 ⟨rfl, h2, f2⟩; rw [HSZ.out] at h2 ⊢))
        all_goals
          have H6 := Lib.hid (HD.out.lzStep h2 f2)
          clear h2 f2
          go_wp2
          go_meet
          case rel => exact ⟨rfl, H6.out⟩
      case rest =>
        obtain ⟨rfl, h6⟩ := hcut
        have H6 := Lib.hid h6
        clear d0 d1 d2 HD H5 h6
        go_wp2_with fail
        refine (behind_any (DC.keep g.db g.rb) 57 k st 2 rep5 s6 _ H6.out.lz hst (by omega)).mono ?_; rintro e w7 ⟨rfl, h7, f7⟩
        have H7 := Lib.hid (H6.out.lzStep h7 f7)
        have hR := HR5.out
        rw [HSZ.out] at hR
        clear h7 f7
        go_wp2
        go_ret
        rw [← hR]
        exact ⟨rfl, H7.out⟩
end Go.Proofs.Yteghpnlamdgpnaa
