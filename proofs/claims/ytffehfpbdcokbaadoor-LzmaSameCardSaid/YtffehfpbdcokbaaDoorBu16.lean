/- Texts of this proof, put together: LzS. -/
import Derived.Test.YtffehfpbdcokbaaDoorBu15
set_option linter.unusedVariables false
set_option linter.unusedSimpArgs false
/- A byte that is read: the walk. -/
namespace Go.Proofs.YtffehfpbdcokbaaDoor
open Go.RowKit Rng Lz Win
set_option linter.unusedVariables false
set_option linter.unusedSimpArgs false
theorem farGo_lt {σ : Type} (co : Cod σ) (base x far : Nat) : ∀ (n m : Nat) (s : CP σ), (farGo co base x far n m s).1 < 2 ^ n * (m + 1)
  | 0, m, s => by show m < 2 ^ 0 * (m + 1); omega
  | n + 1, m, s => by
    have hb := bitAt_le co (base + (1 + far / 2 ^ n % 2) * 256 + m) (x / 2 ^ n % 2) s
    have h1 := farGo_lt co base x far n (2 * m + (bitAt co (base + (1 + far / 2 ^ n % 2) * 256 + m) (x / 2 ^ n % 2) s).1) (bitAt co (base + (1 + far / 2 ^ n % 2) * 256 + m) (x / 2 ^ n % 2) s).2
    have h2 := treeGo_lt co base x n (2 * m + (bitAt co (base + (1 + far / 2 ^ n % 2) * 256 + m) (x / 2 ^ n % 2) s).1) (bitAt co (base + (1 + far / 2 ^ n % 2) * 256 + m) (x / 2 ^ n % 2) s).2
    have h3 : 2 ^ n * (2 * m + (bitAt co (base + (1 + far / 2 ^ n % 2) * 256 + m) (x / 2 ^ n % 2) s).1 + 1) ≤ 2 ^ (n + 1) * (m + 1) := by
      rw [Nat.pow_succ, Nat.mul_assoc]
      exact Nat.mul_le_mul_left _ (by omega)
    unfold farGo
    simp only
    split
    · exact Nat.lt_of_lt_of_le h1 h3
    · exact Nat.lt_of_lt_of_le h2 h3
theorem litAt_lt {σ : Type} (co : Cod σ) (lc lp st total ahead far x : Nat) (s : CP σ) : (litAt co lc lp st total ahead far x s).1 < 256 := by
  unfold litAt
  simp only
  split
  · have := farGo_lt co (4096 + 768 * (total % 2 ^ lp * 2 ^ lc + ahead / 2 ^ (8 - lc))) x far 8 1 s; omega
  · have := treeGo_lt co (4096 + 768 * (total % 2 ^ lp * 2 ^ lc + ahead / 2 ^ (8 - lc))) x 8 1 s; omega
/-- The byte that is read, and what is then. -/
def litOf {σ : Type} (co : Cod σ) (k : LK) (st total : Nat) (rep : Nat → Nat) (C : List UInt8) (s : CP σ) : Nat × CP σ :=
  litAt co k.lc k.lp st total (if 0 < total then (atB C 1).toNat else 0) (if rep 0 < 16777216 then (atB C (rep 0 + 1)).toNat else 0) 0 s
section
variable {Z : Nat → Prop} {w0 w w' : World} {k : LK} {g : RB} {total : Int} {st : Nat} {rep : Nat → Nat} {s : CP Dec} {C told : List UInt8} {wv tv : Value}
theorem RdAt.drew (h : RdAt Z w0 w k g total st rep s C told wv tv) : RdAt Z w0 w.drew k g total st rep s C told wv tv := h.frmOut ((Frm.refl (fun _ => False) w).drew) (fun _ h => h.elim)
theorem RdAt.cells (h : RdAt Z w0 w k g total st rep s C told wv tv) : w.cell? ⟨g.xb, 0, none⟩ = some (.pointer (some ⟨k.sb, 0, none⟩)) ∧ w.cell? ⟨g.xb, 1, none⟩ = some (.pointer (some ⟨g.wb, 0, none⟩)) ∧ w.cell? ⟨g.xb, 2, none⟩ = some (.pointer (some ⟨g.db, 0, none⟩)) ∧
    w.cell? ⟨g.xb, 3, none⟩ = some (.int .i64 total) ∧ w.cell? ⟨g.xb, 4, none⟩ = some tv ∧ w.cell? ⟨k.sb, 4, none⟩ = some (.int .u32 (rep 0)) := by
  refine ⟨by rw [h.p.cell]; rfl, by rw [h.p.cell]; rfl, by rw [h.p.cell]; rfl, by rw [h.p.cell]; rfl, by rw [h.p.cell]; rfl, ?_⟩
  exact (h.lz.hdr (i := 4) (by omega)).1
end
set_option maxRecDepth 100000 in
set_option maxHeartbeats 2000000 in
theorem literal_p (Z : Nat → Prop) (w0 w : World) (k : LK) (g : RB) (total st : Nat) (rep : Nat → Nat) (s : CP Dec) (C told : List UInt8) (wv tv : Value) (h : RdAt Z w0 w k g (total : Int) st rep s C told wv tv)
    (hk : k.Ok) (ht : total < 4611686018427387904) (hst : st < 12) (hrep : rep 0 < 4294967296) (hS : g.S ≤ 16777216) (hlen : told.length ≤ 100000000) :
    Calls Tryd.prog 22 #[.pointer (some ⟨g.xb, 0, none⟩)] w fun e w' => e = .returned (.tuple #[]) ∧ ∃ wv' tv', RdAt Z w0 w' k g (total : Int) (behS st 0) rep (litOf outC k st total rep C s).2 (lastN g.S (C ++ [UInt8.ofNat (litOf outC k st total rep C s).1])) (told ++ [UInt8.ofNat (litOf outC k st total rep C s).1]) wv' tv' := by
  obtain ⟨AH, hAH⟩ : ∃ a, (if 0 < total then (atB C 1).toNat else 0) = a := ⟨_, rfl⟩
  obtain ⟨FA, hFA⟩ : ∃ a, (if rep 0 < 16777216 then (atB C (rep 0 + 1)).toNat else 0) = a := ⟨_, rfl⟩
  obtain ⟨⟨b, s2⟩, hL⟩ : ∃ x, litOf outC k st total rep C s = x := ⟨_, rfl⟩
  have hbl : b < 256 := by
    have := litAt_lt outC k.lc k.lp st total (if 0 < total then (atB C 1).toNat else 0) (if rep 0 < 16777216 then (atB C (rep 0 + 1)).toNat else 0) 0 s
    unfold litOf at hL
    rw [hL] at this
    exact this
  rw [hL]
  dsimp only
  obtain ⟨bb, hbb⟩ : ∃ x : UInt8, UInt8.ofNat b = x := ⟨_, rfl⟩
  have HBN : Hid (bb.toNat = b) := Lib.hid (by rw [← hbb, UInt8.toNat_ofNat']; omega)
  rw [hbb]
  clear hbb
  unfold litOf at hL
  rw [hAH, hFA] at hL
  have hah : AH < 256 := by rw [← hAH]; split; exact (atB C 1).toNat_lt; omega
  have hfa : FA < 256 := by rw [← hFA]; split; exact (atB C (rep 0 + 1)).toNat_lt; omega
  have HH := Lib.hid h
  have HAH := Lib.hid hAH
  have HFA := Lib.hid hFA
  have HL := Lib.hid hL
  have HK := Lib.hid hk
  obtain ⟨d0, d1, d2, d3, d4, d5⟩ := h.cells
  obtain ⟨r0, hr0⟩ : ∃ r, rep 0 = r := ⟨_, rfl⟩
  rw [hr0] at d5 hrep
  have HR0 := Lib.hid hr0
  clear h hAH hFA hL hk hr0
  go_enter Tryd.func22, Tryd.ntmps22
  go_upto_if 9 with fail
  go_cut [2] from 5 (fun v wx => v = .int .u8 AH ∧ RdAt Z w0 wx k g (total : Int) st rep s C told wv tv)
  case first =>
    by_cases h0 : 0 < total
    · have h0i : (0 : Int) < (total : Int) := by omega
      have hA := HAH.out
      rw [if_pos h0] at hA
      go_wp2_with fail
      refine (at_c g.bw g.wb g.kb g.S 1 1 C wv w HH.out.win hS rfl).mono ?_; rintro e w1 ⟨⟨ok, rfl⟩, d, rfl⟩
      rw [hA]
      have H1 := Lib.hid (HH.out.drewN d)
      go_wp2
      go_meet
      case rel => exact ⟨rfl, H1.out⟩
    · have h0i : (total : Int) = 0 := by omega
      have hA := HAH.out
      rw [if_neg h0] at hA
      have h0d : decide (0 < total) = false := decide_eq_false h0
      subst hA
      go_wp2
      go_meet
      case rel => exact ⟨rfl, HH.out⟩
  case rest =>
    obtain ⟨rfl, h1⟩ := hcut
    have H1 := Lib.hid h1
    clear d0 d1 d2 d3 d4 d5
    obtain ⟨d0, d1, d2, d3, d4, d5⟩ := h1.cells
    rw [HR0.out] at d5
    clear h1 HH
    go_upto_if 27 with fail
    go_cut [3] from 5 (fun v wx => v = .int .u8 FA ∧ RdAt Z w0 wx k g (total : Int) st rep s C told wv tv)
    case first =>
      by_cases h0 : r0 < 16777216
      · have h0i : (r0 : Int) < 16777216 := by omega
        have hA := HFA.out
        rw [HR0.out, if_pos h0] at hA
        have hr1 : (r0 : Int) + 1 = ((r0 + 1 : Nat) : Int) := by omega
        obtain ⟨r1, hr1e⟩ : ∃ r1, r0 + 1 = r1 := ⟨_, rfl⟩
        rw [hr1e] at hr1 hA
        have hr1w : IntKind.i64.wrap (r1 : Int) = (r1 : Int) := Go.IntWalk.i64_in _ (by omega)
        have hr0w : IntKind.i64.wrap (r0 : Int) = (r0 : Int) := Go.IntWalk.i64_in _ (by omega)
        have hr1b : r1 ≤ 16777216 := by omega
        have HD := Lib.hid H1.out.drew
        have h0i2 : decide ((r0 : Int) < 16777216) = true := decide_eq_true h0i
        simp only [h0i2]
        clear hr1e h0i h0 h0i2
        go_wp2_with fail
        go_region_with (first
          | (go_at_call 36; refine (at_c g.bw g.wb g.kb g.S r1 r1 C wv _ HD.out.win hS rfl).mono ?_; rintro e w2 ⟨⟨ok, rfl⟩, d, rfl⟩; rw [hA]))
        all_goals
          have H2 := Lib.hid (H1.out.drewN (1 + d))
          go_wp2
          go_meet
          case rel => exact ⟨rfl, H2.out⟩
      · have h0i : ¬ ((r0 : Int) < 16777216) := by omega
        have hA := HFA.out
        rw [HR0.out, if_neg h0] at hA
        subst hA
        have h0i2 : decide ((r0 : Int) < 16777216) = false := decide_eq_false h0i
        simp only [h0i2]
        clear h0i h0
        go_wp2
        go_meet
        case rel => exact ⟨rfl, H1.out⟩
    case rest =>
      obtain ⟨rfl, h2⟩ := hcut
      have H2 := Lib.hid h2
      clear d0 d1 d2 d3 d4 d5
      obtain ⟨d0, d1, d2, d3, d4, d5⟩ := h2.cells
      have HD := Lib.hid h2.drew
      clear h2 H1
      go_upto_region 5 with fail
      go_cut [4] from 5 (fun v wx => ∃ nb : Nat, v = .slice (some ⟨nb, 0, none⟩) 1 1 ∧ RdAt Z w0 wx k g (total : Int) st rep s2 C told wv tv ∧ Pts wx nb #[.int .u8 (b : Int)] 5 ∧ wv.ownBlock ≠ some nb ∧ tv.ownBlock ≠ some nb)
      case first =>
        go_region_with (first
          | (go_at_call 37; refine (lit_p g.db g.rb 56 k st total AH FA rep s _ HD.out.lz HK.out ht hah hfa).mono ?_; rintro e w2 ⟨rfl, h2, f2⟩; rw [HL.out] at h2 ⊢))
        all_goals
          have h3 := HD.out.lzStep h2 f2
          obtain ⟨lw, hwo⟩ := h3.win.own
          have hto := h3.o
          have n1 : wv.ownBlock ≠ some w2.heap.size := fun e => by have := (hwo.lt e).2; omega
          have n2 : tv.ownBlock ≠ some w2.heap.size := fun e => by have := (hto.lt e).2; omega
          have H3 := Lib.hid h3
          clear h2 f2 h3 hwo hto
          go_wp2
          go_meet
          case rel => exact ⟨w2.heap.size, rfl, H3.out.alloc _, Pts.new w2 _ _, n1, n2⟩
      case rest =>
        obtain ⟨nb, rfl, h3, hnb, n1, n2⟩ := hcut
        have H3 := Lib.hid h3
        have NB := Lib.hid hnb
        clear d0 d1 d2 d3 d4 d5 HD H2
        have hbn := HBN.out
        have hrow : ∀ w9 : World, Pts w9 nb #[.int .u8 (b : Int)] 5 → BRow w9 w9.heap.size (some ⟨nb, 0, none⟩) [bb] := fun w9 hp _ => ⟨nb, 0, rfl, hp.lt, fun j hj => by
          obtain rfl : j = 0 := by simpa using hj
          refine (hp.cell 0).trans ?_
          show some (Value.int .u8 (b : Int)) = some (Value.int .u8 (bb.toNat : Int))
          rw [hbn]⟩
        obtain ⟨cw, hwp⟩ := h3.win.pts
        have nw : nb ≠ g.wb := hnb.ne_of hwp (by decide)
        have nx : nb ≠ g.xb := hnb.ne_of h3.p (by decide)
        have hoff : BOff (fun x => x = g.wb ∨ wv.ownBlock = some x) (some ⟨nb, 0, none⟩) [bb] := by
          intro _ ad had
          injection had with had
          subst had
          rintro (e | e)
          · exact nw e
          · exact n1 e
        have OF := Lib.hid hoff
        have HROW := Lib.hid hrow
        have N12 := Lib.hid (And.intro n1 n2)
        obtain ⟨d0, d1, d2, d3, d4, d5⟩ := h3.cells
        clear h3 hnb hwp hoff hrow n1 n2 hbn d2 d3 d5
        go_wp2_with fail
        refine (put_c g.bw g.wb g.kb g.S 1 _ 1 C wv _ [bb] wc H3.out.win rfl (HROW.out _ NB.out) OF.out (by simp) (by unfold maxLen; omega) (by simp) H3.out.bs.1 hS (Nat.le_refl _)).mono ?_; rintro e w4 ⟨rfl, wv4, hw4, f4, m4⟩
        have H4 := Lib.hid (H3.out.winStep hw4 f4 m4)
        have NB4 := Lib.hid (NB.out.frm f4 (by rintro (e | e); exact nw e; exact N12.out.1 e))
        clear hw4 f4 m4 d0 d1 d4
        obtain ⟨d0, d1, d2, d3, d4, d5⟩ := H4.out.cells
        have hxz := H4.out.p.frozen 4
        obtain ⟨A5, c5, htv, hc5, hm5, _⟩ := H4.out.o.slice
        subst htv
        clear d1 d2 d3 d5
        go_wp2_with (at_builtin; refine wpList_append_bytes _ rfl (.tmp 76) (.tmp 77) 22 rfl 5 g.bt Tryd.underlying22 Tryd.info_u8 (.slice A5 told.length c5) told rfl ?own5 (some ⟨nb, 0, none⟩) 1 1 w4.heap.size [bb] rfl rfl ?row5 ?len5 ?base5 ?next5)
        case own5 => exact H4.out.o
        case row5 => exact HROW.out _ NB4.out
        case len5 => simp; omega
        case base5 => exact H4.out.bs.2
        case next5 =>
          intro v5 w5 hown5 hfrm5 hnew5
          obtain ⟨A6, c6, rfl, -, -, -⟩ := hown5.slice
          have h6 := H4.out.toldStep hown5 hfrm5 hnew5
          have hp5 := H4.out.p.frm hfrm5 (own_ne H4.out.o H4.out.p (by decide))
          have e4 : w5.cell? ⟨g.xb, 4, none⟩ = some (.slice A5 told.length c5) := by rw [hp5.cell]; rfl
          have z4 := hp5.frozen 4
          obtain ⟨L6, hL6⟩ : ∃ L, (told ++ [bb]).length = L := ⟨_, rfl⟩
          rw [hL6] at h6 ⊢
          have H6 := Lib.hid h6
          obtain ⟨q0, -, -, -, -, -⟩ := h6.cells
          clear hown5 hfrm5 hnew5 hp5 h6 hL6 d0 d4
          go_wp2_with fail
          refine (behind_any (DC.keep g.db g.rb) 56 k st 0 rep s2 _ H6.out.lz hst (by omega)).mono ?_; rintro e w7 ⟨rfl, h7, f7⟩
          have H7 := Lib.hid (H6.out.lzStep h7 f7)
          clear h7 f7
          go_wp2
          go_end0
          exact ⟨rfl, wv4, _, H7.out⟩
end Go.Proofs.YtffehfpbdcokbaaDoor
