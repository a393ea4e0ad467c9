/- Texts of this proof, put together: LzT, LzU, LzW. -/
import Derived.Defers
import Derived.Recover
import Derived.WalkSmall
import Derived.Laws.Pointers
import Derived.Test.YtffehfpbdcokbaaDoorBu15
import Derived.Test.YtffehfpbdcokbaaDoorBu16
set_option linter.unusedVariables false
set_option linter.unusedSimpArgs false
/- A repeat that is read: the walk. -/
namespace Go.Proofs.YtffehfpbdcokbaaDoor
open Go.RowKit Rng Lz Win
set_option linter.unusedVariables false
set_option linter.unusedSimpArgs false
/-- A repeat: its length, the state, the distances, what is then. -/
def repOf {σ : Type} (co : Cod σ) (st p : Nat) (rep : Nat → Nat) (s : CP σ) : Nat × Nat × (Nat → Nat) × CP σ :=
  let a := bitAt co (212 + st) 0 s
  if a.1 = 0 then
    let b := bitAt co (248 + st * 16 + p) 0 a.2
    if b.1 = 0 then (1, behS st 3, rep, b.2)
    else ((lenAt co 1354 2 p b.2).1, behS st 2, rep, (lenAt co 1354 2 p b.2).2)
  else
    let c := bitAt co (224 + st) 0 a.2
    if c.1 = 1 then
      let d := bitAt co (236 + st) 0 c.2
      ((lenAt co 1354 2 p d.2).1, behS st 2, takeS rep (2 + d.1), (lenAt co 1354 2 p d.2).2)
    else ((lenAt co 1354 2 p c.2).1, behS st 2, takeS rep 1, (lenAt co 1354 2 p c.2).2)
theorem RdAt.st3 {Z : Nat → Prop} {w0 w : World} {k : LK} {g : RB} {total : Int} {st : Nat} {rep : Nat → Nat} {s : CP Dec} {C told : List UInt8} {wv tv : Value} (h : RdAt Z w0 w k g total st rep s C told wv tv) : w.cell? ⟨k.sb, 3, none⟩ = some (.int .i64 st) := (h.lz.hdr (i := 3) (by omega)).1
set_option maxRecDepth 100000 in
set_option maxHeartbeats 2000000 in
theorem repeated_p (Z : Nat → Prop) (w0 w : World) (k : LK) (g : RB) (total : Int) (st p : Nat) (rep : Nat → Nat) (s : CP Dec) (C told : List UInt8) (wv tv : Value) (h : RdAt Z w0 w k g total st rep s C told wv tv)
    (hst : st < 12) (hp : p < 16) :
    Calls Tryd.prog 23 #[.pointer (some ⟨g.xb, 0, none⟩), .int .i64 p] w fun e w' => e = .returned (.int .i64 ((repOf outC st p rep s).1 : Nat)) ∧ RdAt Z w0 w' k g total (repOf outC st p rep s).2.1 (repOf outC st p rep s).2.2.1 (repOf outC st p rep s).2.2.2 C told wv tv := by
  obtain ⟨R, hR⟩ : ∃ R, repOf outC st p rep s = R := ⟨_, rfl⟩
  rw [hR]
  unfold repOf at hR
  obtain ⟨⟨a, sa⟩, ha⟩ : ∃ x, bitAt outC (212 + st) 0 s = x := ⟨_, rfl⟩
  rw [ha] at hR
  dsimp only at hR
  have HR := Lib.hid hR
  have HA := Lib.hid ha
  have HH := Lib.hid h
  obtain ⟨d0, d1, d2, -, -, -⟩ := h.cells
  have d3 := h.st3
  have HD := Lib.hid h.drew
  have P0 := Lib.hid (plm k (i := 212 + st) (by omega) (by omega))
  have hsti : (st : Int) < 12 := by omega
  have hpi : (p : Int) < 16 := by omega
  clear h hR ha
  go_enter Tryd.func23, Tryd.ntmps23
  go_upto_region 2 with fail
  go_cut [27] from 7 (fun v wx => ∃ β : Bool, v = .bool β ∧ (β = true ↔ a = 0) ∧ RdAt Z w0 wx k g total st rep sa C told wv tv)
  case first =>
    go_region_with (first
      | (go_at_call 21; refine (lz_bit (obit_any g.db g.rb) HD.out.lz (212 + st) k.sb (212 + st) 0 _ trivial P0.out.1 P0.out.2).mono ?_; rintro e w2 ⟨rfl, h2, f2⟩; rw [HA.out] at h2 ⊢))
    all_goals
      have H2 := Lib.hid (HD.out.lzStep h2 f2)
      clear h2 f2
      go_wp2
      go_meet
      case rel => exact ⟨_, rfl, by simp, H2.out⟩
  case rest =>
    obtain ⟨β, rfl, hβ, h2⟩ := hcut
    have H2 := Lib.hid h2
    clear d0 d1 d2 d3 HD HH
    obtain ⟨d0, d1, d2, -, -, -⟩ := h2.cells
    have d3 := h2.st3
    have HD := Lib.hid h2.drew
    clear h2
    go_upto_if 27 with fail
    go_cut [6] from 7 (fun v wx => ∃ (rep' : Nat → Nat) (s' : CP Dec), ((lenAt outC 1354 2 p s').1, behS st 2, rep', (lenAt outC 1354 2 p s').2) = R ∧ RdAt Z w0 wx k g total st rep' s' C told wv tv)
    case first =>
      by_cases ha0 : a = 0
      · obtain rfl : β = true := hβ.2 ha0
        have hR := HR.out
        rw [if_pos ha0] at hR
        obtain ⟨⟨b, sb⟩, hb⟩ : ∃ x, bitAt outC (248 + st * 16 + p) 0 sa = x := ⟨_, rfl⟩
        rw [hb] at hR
        dsimp only at hR
        have HB := Lib.hid hb
        have HR2 := Lib.hid hR
        have P1 := Lib.hid (plm k (i := 248 + st * 16 + p) (by omega) (by omega))
        clear hR hb hβ ha0 HR
        go_upto_region 3 with fail
        go_cut [43] from 7 (fun v wx => ∃ β : Bool, v = .bool β ∧ (β = true ↔ b = 0) ∧ RdAt Z w0 wx k g total st rep sb C told wv tv)
        case first =>
          go_region_with (first
            | (go_at_call 21; refine (lz_bit (obit_any g.db g.rb) HD.out.lz (248 + st * 16 + p) k.sb (248 + st * 16 + p) 0 _ trivial P1.out.1 P1.out.2).mono ?_; rintro e w2 ⟨rfl, h2, f2⟩; rw [HB.out] at h2 ⊢))
          all_goals
            have H3 := Lib.hid (HD.out.lzStep h2 f2)
            clear h2 f2
            go_wp2
            go_meet
            case rel => exact ⟨_, rfl, by simp, H3.out⟩
        case rest =>
          obtain ⟨β, rfl, hβ, h3⟩ := hcut
          have H3 := Lib.hid h3
          clear d0 d1 d2 d3 HD H2 h3
          by_cases hb0 : b = 0
          · obtain rfl : β = true := hβ.2 hb0
            have hR := HR2.out
            rw [if_pos hb0] at hR
            have HR3 := Lib.hid hR
            clear hR hβ hb0 HR2
            go_wp2_with fail
            refine (behind_any (DC.keep g.db g.rb) 56 k st 3 rep sb _ H3.out.lz hst (by omega)).mono ?_; rintro e w7 ⟨rfl, h7, f7⟩
            have H7 := Lib.hid (H3.out.lzStep h7 f7)
            clear h7 f7
            go_wp2
            go_ret
            rw [← HR3.out]
            exact ⟨rfl, H7.out⟩
          · obtain rfl : β = false := by cases β; rfl; exact absurd (hβ.1 rfl) hb0
            have hR := HR2.out
            rw [if_neg hb0] at hR
            have HR3 := Lib.hid hR
            clear hR hβ hb0 HR2
            go_wp2
            go_meet
            case rel => exact ⟨rep, sb, HR3.out, H3.out⟩
      · obtain rfl : β = false := by cases β; rfl; exact absurd (hβ.1 rfl) ha0
        have hR := HR.out
        rw [if_neg ha0] at hR
        obtain ⟨⟨c, sc⟩, hc⟩ : ∃ x, bitAt outC (224 + st) 0 sa = x := ⟨_, rfl⟩
        rw [hc] at hR
        dsimp only at hR
        have HC := Lib.hid hc
        have HR2 := Lib.hid hR
        have P1 := Lib.hid (plm k (i := 224 + st) (by omega) (by omega))
        clear hR hc hβ ha0 HR
        go_upto_region 7 with fail
        go_cut [60] from 7 (fun v wx => ∃ β : Bool, v = .bool β ∧ (β = true ↔ c = 1) ∧ RdAt Z w0 wx k g total st rep sc C told wv tv)
        case first =>
          go_region_with (first
            | (go_at_call 21; refine (lz_bit (obit_any g.db g.rb) HD.out.lz (224 + st) k.sb (224 + st) 0 _ trivial P1.out.1 P1.out.2).mono ?_; rintro e w2 ⟨rfl, h2, f2⟩; rw [HC.out] at h2 ⊢))
          all_goals
            have H3 := Lib.hid (HD.out.lzStep h2 f2)
            clear h2 f2
            go_wp2
            go_meet
            case rel => exact ⟨_, rfl, by simp; omega, H3.out⟩
        case rest =>
          obtain ⟨β, rfl, hβ, h3⟩ := hcut
          have H3 := Lib.hid h3
          clear d0 d1 d2 d3 HD H2
          obtain ⟨d0, d1, d2, -, -, -⟩ := h3.cells
          have d3 := h3.st3
          have HD := Lib.hid h3.drew
          clear h3
          go_upto_if 60 with fail
          go_cut [6] from 7 (fun v wx => ∃ (n : Nat) (s' : CP Dec), v = .int .i64 n ∧ 1 ≤ n ∧ n ≤ 3 ∧ ((lenAt outC 1354 2 p s').1, behS st 2, takeS rep n, (lenAt outC 1354 2 p s').2) = R ∧ RdAt Z w0 wx k g total st rep s' C told wv tv)
          case first =>
            by_cases hc1 : c = 1
            · obtain rfl : β = true := hβ.2 hc1
              have hR := HR2.out
              rw [if_pos hc1] at hR
              obtain ⟨⟨d, sd⟩, hd⟩ : ∃ x, bitAt outC (236 + st) 0 sc = x := ⟨_, rfl⟩
              rw [hd] at hR
              dsimp only at hR
              have hdl : d ≤ 1 := by have := bitAt_le outC (236 + st) 0 sc; rw [hd] at this; exact this
              have hdw : IntKind.i64.wrap ((2 : Int) + (d : Int)) = (2 : Int) + (d : Int) := Go.IntWalk.i64_in _ (by omega)
              have HDD := Lib.hid hd
              have HR3 := Lib.hid hR
              have P2 := Lib.hid (plm k (i := 236 + st) (by omega) (by omega))
              clear hR hd hβ hc1 HR2
              go_wp2_with fail
              go_region_with (first
                | (go_at_call 21; refine (lz_bit (obit_any g.db g.rb) HD.out.lz (236 + st) k.sb (236 + st) 0 _ trivial P2.out.1 P2.out.2).mono ?_; rintro e w2 ⟨rfl, h2, f2⟩; rw [HDD.out] at h2 ⊢))
              all_goals
                have H4 := Lib.hid (HD.out.lzStep h2 f2)
                clear h2 f2
                go_wp2
                go_meet
                case rel => exact ⟨2 + d, sd, by go_num, by omega, by omega, HR3.out, H4.out⟩
            · obtain rfl : β = false := by cases β; rfl; exact absurd (hβ.1 rfl) hc1
              have hR := HR2.out
              rw [if_neg hc1] at hR
              have HR3 := Lib.hid hR
              clear hR hβ hc1 HR2
              go_wp2
              go_meet
              case rel => exact ⟨1, sc, rfl, by omega, by omega, HR3.out, H3.out⟩
          case rest =>
            obtain ⟨n, s4, rfl, n1, n3, hR, h4⟩ := hcut
            have H4 := Lib.hid h4
            have HR4 := Lib.hid hR
            clear d0 d1 d2 d3 HD H3 hR h4
            go_wp2_with fail
            refine (take_any (DC.keep g.db g.rb) 56 k st n rep s4 _ H4.out.lz ⟨n1, n3⟩).mono ?_; rintro e w5 ⟨rfl, h5, f5⟩
            have H5 := Lib.hid (H4.out.lzStep h5 f5)
            clear h5 f5
            go_wp2
            go_meet
            case rel => exact ⟨_, s4, HR4.out, H5.out⟩
    case rest =>
      obtain ⟨rep5, s5, hR, h5⟩ := hcut
      have HR5 := Lib.hid hR
      have H5 := Lib.hid h5
      clear d0 d1 d2 d3 HD H2 hβ HR hR
      obtain ⟨d0, d1, d2, -, -, -⟩ := h5.cells
      have HD := Lib.hid h5.drew
      obtain ⟨⟨sz, s6⟩, hsz⟩ : ∃ x, lenAt outC 1354 2 p s5 = x := ⟨_, rfl⟩
      have HSZ := Lib.hid hsz
      clear h5 hsz
      go_upto_region 10 with fail
      go_cut [4] from 7 (fun v wx => v = .int .i64 sz ∧ RdAt Z w0 wx k g total st rep5 s6 C told wv tv)
      case first =>
        go_region_with (first
          | (go_at_call 24; refine (lens_p g.db g.rb 56 k st rep5 s5 1354 p _ HD.out.lz (.inr rfl) hp).mono ?_; rintro e w2 ⟨rfl, h2, f2⟩; rw [HSZ.out] at h2 ⊢))
        all_goals
          have H6 := Lib.hid (HD.out.lzStep h2 f2)
          clear h2 f2
          go_wp2
          go_meet
          case rel => exact ⟨rfl, H6.out⟩
      case rest =>
        obtain ⟨rfl, h6⟩ := hcut
        have H6 := Lib.hid h6
        clear d0 d1 d2 HD H5 h6
        go_wp2_with fail
        refine (behind_any (DC.keep g.db g.rb) 56 k st 2 rep5 s6 _ H6.out.lz hst (by omega)).mono ?_; rintro e w7 ⟨rfl, h7, f7⟩
        have H7 := Lib.hid (H6.out.lzStep h7 f7)
        have hR := HR5.out
        rw [HSZ.out] at hR
        clear h7 f7
        go_wp2
        go_ret
        rw [← hR]
        exact ⟨rfl, H7.out⟩
end Go.Proofs.YtffehfpbdcokbaaDoor

/- An operation that is read: plain, and the walk's beginning. -/
namespace Go.Proofs.YtffehfpbdcokbaaDoor
open Go.RowKit Rng Lz Win
set_option linter.unusedVariables false
set_option linter.unusedSimpArgs false
/-- An operation behind the first bit (1): its length, the state, the distances, what is then. -/
def opOf {σ : Type} (co : Cod σ) (st p : Nat) (rep : Nat → Nat) (s : CP σ) : Nat × Nat × (Nat → Nat) × CP σ :=
  let b := bitAt co (200 + st) 0 s
  if b.1 = 1 then repOf co st p rep b.2
  else
    let l := lenAt co 840 2 p b.2
    let d := distAt co 0 l.1 l.2
    (l.1, behS st 1, (fun j => if j = 0 then d.1 else shiftN rep 3 j), d.2)
theorem lenAt_lt {σ : Type} (co : Cod σ) (base n p : Nat) (s : CP σ) : 2 ≤ (lenAt co base n p s).1 ∧ (lenAt co base n p s).1 ≤ 300 := by
  unfold lenAt
  simp only
  split
  · have := treeAt_lt co (base + 2 + p * 8) 3 (n - 2) (bitAt co base (b2n (decide (10 ≤ n))) s).2 (by omega)
    simp only; omega
  · split
    · have := treeAt_lt co (base + 130 + p * 8) 3 (n - 10) (bitAt co (base + 1) (b2n (decide (18 ≤ n))) (bitAt co base (b2n (decide (10 ≤ n))) s).2).2 (by omega)
      simp only; omega
    · have := treeAt_lt co (base + 258) 8 (n - 18) (bitAt co (base + 1) (b2n (decide (18 ≤ n))) (bitAt co base (b2n (decide (10 ≤ n))) s).2).2 (by omega)
      simp only; omega
set_option maxRecDepth 100000 in
set_option maxHeartbeats 2000000 in
theorem step_lit (Z : Nat → Prop) (w0 w : World) (k : LK) (g : RB) (total st : Nat) (room : Int) (rep : Nat → Nat) (s sa : CP Dec) (C told : List UInt8) (wv tv : Value) (h : RdAt Z w0 w k g (total : Int) st rep s C told wv tv)
    (hk : k.Ok) (ht : total < 4611686018427387904) (hst : st < 12) (hrep : rep 0 < 4294967296) (hS : g.S ≤ 16777216) (hlen : told.length ≤ 100000000) (p : Nat) (hp : total % 2 ^ k.pb = p) (ha : bitAt outC (8 + st * 16 + p) 0 s = (0, sa)) :
    Calls Tryd.prog 15 #[.pointer (some ⟨g.xb, 0, none⟩), .int .i64 room] w fun e w' => e = .returned (.tuple #[]) ∧ ∃ wv' tv', RdAt Z w0 w' k g (total : Int) (behS st 0) rep (litOf outC k st total rep C sa).2 (lastN g.S (C ++ [UInt8.ofNat (litOf outC k st total rep C sa).1])) (told ++ [UInt8.ofNat (litOf outC k st total rep C sa).1]) wv' tv' := by
  have hp16 : p < 16 := by
    have h1 : 2 ^ k.pb ≤ 2 ^ 4 := Nat.pow_le_pow_right (by omega) hk.b
    have h2 : total % 2 ^ k.pb < 2 ^ k.pb := Nat.mod_lt _ (Nat.lt_of_lt_of_le (by omega) (Nat.one_le_two_pow))
    omega
  have HA := Lib.hid ha
  have HH := Lib.hid h
  have HK := Lib.hid hk
  have HPL := Lib.hid (place_any 56 k st total rep s w h.lz hk ht)
  rw [hp] at HPL
  obtain ⟨d0, d1, d2, dt, -, -⟩ := h.cells
  have d3 := h.st3
  have HD := Lib.hid h.drew
  have P0 := Lib.hid (plm k (i := 8 + st * 16 + p) (by omega) (by omega))
  have hsti : (st : Int) < 12 := by omega
  have hpi : (p : Int) < 16 := by omega
  clear h ha hk hp
  go_enter Tryd.func15, Tryd.ntmps15
  go_wp2_with fail
  refine HPL.out.mono ?_; rintro e w1 ⟨rfl, rfl⟩
  go_upto_region 2 with fail
  go_cut [36] from 9 (fun v wx => v = .bool true ∧ RdAt Z w0 wx k g (total : Int) st rep sa C told wv tv)
  case first =>
    go_region_with (first
      | (go_at_call 21; refine (lz_bit (obit_any g.db g.rb) HD.out.lz (8 + st * 16 + p) k.sb (8 + st * 16 + p) 0 _ trivial P0.out.1 P0.out.2).mono ?_; rintro e w2 ⟨rfl, h2, f2⟩; rw [HA.out] at h2 ⊢))
    all_goals
      have H2 := Lib.hid (HD.out.lzStep h2 f2)
      clear h2 f2
      go_wp2
      go_meet
      case rel => exact ⟨by simp, H2.out⟩
  case rest =>
    obtain ⟨rfl, h2⟩ := hcut
    have H2 := Lib.hid h2
    clear h2 d0 d1 d2 d3 dt HD HH
    go_wp2_with fail
    refine (literal_p Z w0 _ k g total st rep sa C told wv tv H2.out HK.out ht hst hrep hS hlen).mono ?_; rintro e w3 ⟨rfl, h3⟩
    have H3 := Lib.hid h3
    clear h3
    go_wp2
    first | go_end0 | (refine bodyPost_ret (results_none rfl _ _ _) rfl ?_)
    exact ⟨rfl, H3.out⟩
end Go.Proofs.YtffehfpbdcokbaaDoor

/- What a chunk leaves by: the deferred function, and plain chunks. -/
namespace Go.Proofs.YtffehfpbdcokbaaDoor
open Go.RowKit Rng Lz Win
set_option linter.unusedVariables false
set_option linter.unusedSimpArgs false
/-- A panic that says that a chunk is none. -/
def wrongP (x : Int) : List PanicEntry := [{ v := .iface 65 (.agg #[.int .i64 x]), recovered := false }]
set_option maxRecDepth 100000 in
theorem assert_lzwrong (V : Value) (w : World) : (Instr.typeAssert (.iface 65 V) 20 65 true).run Tryd.prog w = .ok (.tuple #[V, .bool true]) w := rfl
set_option maxRecDepth 100000 in
theorem chunk_caught (b c : Nat) (x x0 : Int) (tv : Value) (older : List PanicEntry) (w : World) (hb : Pts w b #[tv] 22) (hc : Pts w c #[.int .i64 x0] 29) :
    CallsD Tryd.prog 14 #[.pointer (some ⟨b, 0, none⟩), .pointer (some ⟨c, 0, none⟩)] (.panicking ({ v := .iface 65 (.agg #[.int .i64 x]), recovered := false } :: older)) w fun e u' w' =>
      e = .returned (.tuple #[]) ∧ u' = .panicking ({ v := .iface 65 (.agg #[.int .i64 x]), recovered := true } :: older) ∧ Pts w' b #[.slice none 0 0] 22 ∧ Pts w' c #[.int .i64 11] 29 ∧ Frm (fun q => q = b ∨ q = c) w w' := by
  refine callsD_of_wpS Tryd.func14 rfl fun c₀ cs hu => ?_
  apply wpS_seq
  apply wpS_region
  simp [wpOpsS, go_sem, recoverD, hu, Tryd.ntmps14, Exit.thenS]
  refine wpS_of_wp ?_
  show Code.wp _ _ _ { tmps := #[.pointer (some ⟨b, 0, none⟩), .pointer (some ⟨c, 0, none⟩), undef, undef, undef, .iface 65 (.agg #[.int .i64 x]), undef, undef, undef, undef, undef], defers := [] } w
  have hta := assert_lzwrong (.agg #[.int .i64 x])
  have hne : c ≠ b := hc.ne_of hb (by decide)
  have h1 := hb.alloc (.cells #[.int .i64 x] 65)
  have h2 := hc.alloc (.cells #[.int .i64 x] 65)
  have z1 := h1.frozen 0
  have c1 := h1.cell 0
  have h3 := h2.other (p := ⟨b, 0, none⟩) hne (.slice none 0 0)
  have z3 := h3.frozen 0
  have c3 := h3.cell 0
  have hr1 := (h1.set 0 (.slice none 0 0)).other (p := ⟨c, 0, none⟩) hne.symm (.int .i64 11)
  have hr2 := h3.set 0 (.int .i64 11)
  have hf : Frm (fun q => q = b ∨ q = c) w (((w.alloc (.cells #[.int .i64 x] 65)).setCell ⟨b, 0, none⟩ (.slice none 0 0)).setCell ⟨c, 0, none⟩ (.int .i64 11)) := (((Frm.refl _ w).alloc _).setCell (.inl rfl) _).setCell (.inr rfl) _
  have HR1 := Lib.hid hr1
  have HR2 := Lib.hid hr2
  have HF := Lib.hid hf
  clear h1 h2 h3 hr1 hr2 hf hb hc
  go_wp2
  refine ⟨rfl, _, rfl, _, results_none rfl _ _ _, rfl, rfl, HR1.out, HR2.out, HF.out⟩
set_option maxRecDepth 100000 in
theorem chunk_idle (b c : Nat) (w : World) : CallsD Tryd.prog 14 #[.pointer (some ⟨b, 0, none⟩), .pointer (some ⟨c, 0, none⟩)] .returning w fun e u' w' => e = .returned (.tuple #[]) ∧ u' = .returning ∧ w' = w := by
  refine callsD_of_wpS Tryd.func14 rfl fun c₀ cs hu => ?_
  apply wpS_seq
  apply wpS_region
  simp [wpOpsS, go_sem, recoverD, hu, Tryd.ntmps14, Exit.thenS]
  refine wpS_of_wp ?_
  show Code.wp _ _ _ { tmps := #[.pointer (some ⟨b, 0, none⟩), .pointer (some ⟨c, 0, none⟩), undef, undef, undef, .nilIface, undef, undef, undef, undef, undef], defers := [] } w
  go_wp2
  refine ⟨rfl, .returning, by cases c₀; simp at hu; subst hu; rfl, _, results_none rfl _ _ _, rfl, rfl, rfl⟩
end Go.Proofs.YtffehfpbdcokbaaDoor
