/- Texts of this proof, put together: LcC. -/
import Derived.Test.YtffehfpbdcokbaaDoorBu20
set_option linter.unusedVariables false
set_option linter.unusedSimpArgs false
/- A chunk that begins as one: the walk. -/
namespace Go.Proofs.YtffehfpbdcokbaaDoor
open Go.RowKit Rng Lz Win
set_option linter.unusedVariables false
set_option linter.unusedSimpArgs false
theorem and15 (t : Nat) (h : t < 9223372036854775808) : bits .and .i64 (t : Int) 15 = ((t % 16 : Nat) : Int) := by
  have e : (15 : Int) = ((15 : Nat) : Int) := rfl
  show IntKind.i64.wrap ((BitVec.ofInt 64 (t : Int) &&& BitVec.ofInt 64 15).toNat : Int) = _
  rw [BitVec.toNat_and, ofInt_u64 t (by omega), e, ofInt_u64 15 (by omega), show (15 : Nat) = 2 ^ 4 - 1 by rfl, Nat.and_two_pow_sub_one_eq_mod]
  exact Go.IntWalk.i64_in _ (by omega)
theorem LzAt.coder {σ : Type} {CA : World → σ → Prop} {own : Nat → Prop} {T : TypeId} {w w' : World} {k : LK} {st : Nat} {rep : Nat → Nat} {s : CP σ} {d : σ} (h : LzAt CA own T w k st rep s) (hc : CA w' d) (hf : Frm own w w') : LzAt CA own T w' k st rep ⟨d, s.pr⟩ ∧ Frm (Wr own k) w w' :=
  ⟨⟨hc, h.m.frm hf h.ne.1, h.l.frm hf h.ne.2.1, h.fit, h.ne⟩, hf.mono fun q _ e => .inl e⟩
set_option maxRecDepth 100000 in
set_option maxHeartbeats 4000000 in
theorem chunk_main (k : LK) (st : Nat) (rep : Nat → Nat) (pr : Pr) (base wb kb S : Nat) (C bs : List UInt8) (wv : Value) (A : Option Addr) (n c l total : Nat) (w : World)
    (hs : StAt w k st rep pr) (hw : WinC w base wb kb S C wv) (hb : base ≤ w.heap.size) (hS : S ≤ 16777216) (hk : k.Ok) (hst : st < 12) (hrep : ∀ j, rep j < 4294967296)
    (hl : l = bs.length) (hr : BRow w w.heap.size A bs) (hc : bs.length ≤ c) (hcm : c ≤ maxLen) (hlen : bs.length ≤ 140737488355328)
    (h1 : 1 ≤ n) (h2 : n ≤ 2097152) (ht : total < 9223372036854775808) (hnew : newErr bs = 0) :
    Calls Tryd.prog 7 #[.pointer (some ⟨k.sb, 0, none⟩), .pointer (some ⟨wb, 0, none⟩), .int .i64 total, .slice A l c, .int .i64 n] w fun e w' => ChunkEnd k base wb kb S wv w (chunkOf k S total n st rep pr C bs) e w' := by
  subst hl
  obtain ⟨R, hR⟩ : ∃ R, chunkOf k S total n st rep pr C bs = R := ⟨_, rfl⟩
  rw [hR]
  unfold chunkOf at hR
  rw [if_neg (fun h => h hnew)] at hR
  obtain ⟨T, hT⟩ : ∃ T, totOf total = T := ⟨_, rfl⟩
  rw [hT] at hR
  have hTb : T < 1099511627792 := by rw [← hT]; exact totOf_lt total
  obtain ⟨GO, hGO⟩ : ∃ GO, chunkGo k S T n (n + 1) [] ⟨st, rep, ⟨newDec bs, pr⟩, C⟩ = GO := ⟨_, rfl⟩
  rw [hGO] at hR
  obtain ⟨p0, p1, hbl, hsz⟩ := two_new w (.slice none 0 0) (.int .i64 0) 22 29
  have HND := Lib.hid (dnew_p A bs bs.length c _ rfl ((hr.below hbl).more (Nat.le_of_lt (by rw [hsz]; omega))) hc hcm hlen hnew)
  have P0 := Lib.hid p0
  have P1 := Lib.hid p1
  have BL := Lib.hid hbl
  have SZ := Lib.hid hsz
  have HR := Lib.hid hR
  have HT := Lib.hid hT
  have HG := Lib.hid hGO
  have HS := Lib.hid hs
  have HW := Lib.hid hw
  have HK := Lib.hid hk
  have HREP := Lib.hid hrep
  have h1i : (1 : Int) ≤ (n : Int) := by omega
  have h2i : (n : Int) ≤ 2097152 := by omega
  clear hR hT hGO p0 p1 hbl hsz hs hw hk hr hrep hnew
  go_enter_defers Tryd.func7, Tryd.ntmps7
  go_wp2
  go_step3
  go_wp2_with fail
  refine Calls.mono HND.out ?_; rintro e w3 ⟨db, rb, rfl, hd3, hdb, hrb, hB3⟩
  rw [SZ.out] at hdb hrb hB3
  have q0 := P0.out.below hB3 (by omega)
  have q1 := P1.out.below hB3 (by omega)
  have b3 := BL.out.trans (hB3.mono (by omega))
  have Q0 := Lib.hid (q0.other (p := ⟨w.heap.size + 1, 0, none⟩) (by simp) (.int .i64 0))
  have Q1 := Lib.hid (q1.set 0 (.int .i64 0))
  have B4 := Lib.hid (b3.setCell (p := ⟨w.heap.size + 1, 0, none⟩) (by simp) (.int .i64 0))
  have f4 : Frm (· = w.heap.size + 1) w3 (w3.setCell ⟨w.heap.size + 1, 0, none⟩ (.int .i64 0)) := Frm.setCell (S := fun x => x = w.heap.size + 1) (Frm.refl _ w3) (p := ⟨w.heap.size + 1, 0, none⟩) (by rfl) _
  have D4 := Lib.hid (DecAt.frm hd3 f4 (by omega) (by omega))
  have c11 := q1.cell 0
  have z11 := q1.frozen 0
  clear hd3 hB3 q0 q1 b3 f4
  go_upto_if 43 with fail
  obtain ⟨w4, hw4⟩ : ∃ w4, w3.setCell ⟨w.heap.size + 1, 0, none⟩ (.int .i64 0) = w4 := ⟨_, rfl⟩
  rw [hw4] at Q0 Q1 B4 D4 ⊢
  have hkb := HS.out.m.lt
  have hlb := HS.out.l.lt
  obtain ⟨cw, hwp⟩ := HW.out.pts
  have hwl := hwp.lt
  obtain ⟨lw, hwo⟩ := HW.out.own
  have S4 := Lib.hid (HS.out.frm (Frm.of_below (S := fun _ => False) B4.out) id id)
  have W4 := Lib.hid (HW.out.frm (Frm.of_below (S := fun _ => False) B4.out) id (fun _ _ h => h))
  have HWL := Lib.hid (fun q (h : wv.ownBlock = some q) => (hwo.lt h).2)
  clear hw4 c11 z11 hwp hwo
  go_cut [2] from 13 (fun v wx => v = .int .i64 T ∧ wx = w4)
  case first =>
    by_cases hbig : 1099511627776 < total
    · have hi : (1099511627776 : Int) < (total : Int) := by omega
      have ha := and15 total ht
      obtain ⟨m, hm⟩ : ∃ m, total % 16 = m := ⟨_, rfl⟩
      have hTe := HT.out
      unfold totOf at hTe
      rw [if_pos hbig, hm] at hTe
      rw [hm] at ha
      have hmb : m < 16 := by omega
      have hTi : (1099511627776 : Int) + (m : Int) = (T : Int) := by omega
      have hTw : IntKind.i64.wrap (T : Int) = (T : Int) := Go.IntWalk.i64_in _ (by omega)
      clear hm hTe hbig hmb
      go_wp2
      go_meet
      case rel => exact ⟨rfl, rfl⟩
    · have hi : (total : Int) ≤ 1099511627776 := by omega
      have hTe := HT.out
      unfold totOf at hTe
      rw [if_neg hbig] at hTe
      subst hTe
      clear hbig
      go_wp2
      go_meet
      case rel => exact ⟨rfl, rfl⟩
  case rest =>
    obtain ⟨rfl, rfl⟩ := hcut
    have hwn : w.heap.size + 2 ≤ wc.heap.size := by have := Q1.out.lt; omega
    obtain ⟨rb', hrd, hrb'⟩ := RdAt.start wc k st rep pr base wb kb S (w.heap.size + 2) (w.heap.size + 2) C wv db rb (newDec bs) T S4.out W4.out D4.out ⟨by omega, by omega⟩ (fun q h => by have := HWL.out q h; omega) (by omega) hdb hrb hwn (by omega)
    have RD := Lib.hid hrd
    clear hrd
    go_wp2
    go_step3
    go_wp2
    go_loopg [54] (n + 1) (fun gn s54 wr => ∃ (told : List UInt8) (x : RS) (wv1 tv1 : Value) (tot : Int), RdAt (ChZ k wb db rb' wv) wc wr k ⟨db, rb', wb, kb, wc.heap.size, S, base, w.heap.size + 2⟩ tot x.st x.rep x.s x.C told wv1 tv1 ∧ x.Ok ∧ told.length ≤ n ∧ n + 1 ≤ gn + told.length ∧ chunkGo k S T n gn told x = GO)
    case atStart => exact ⟨[], ⟨st, rep, ⟨newDec bs, pr⟩, C⟩, wv, _, T, RD.out, ⟨hst, HREP.out⟩, by simp, by simp, HG.out⟩
    case round =>
      obtain ⟨told, x, wv1, tv1, tot, hrd, hx, htl, hgk, hgo⟩ := hrel
      have HX := Lib.hid hx
      have HGK := Lib.hid hgk
      have HRD := Lib.hid hrd
      obtain ⟨d0, d1, d2, d3, d4, -⟩ := hrd.cells
      obtain ⟨A5, c5, htv, hc5, hm5, -⟩ := hrd.o.slice
      subst htv
      clear RD HG hrd hx hgk
      have hnz : ∀ b, w.heap.size ≤ b → b < w.heap.size + 2 → ¬ ChZ k wb db rb' wv b := by
        rintro b h1 h2 (e | e | e | e | e | e)
        · omega
        · omega
        · omega
        · omega
        · omega
        · have := HWL.out b e; omega
      have HNZ := Lib.hid hnz
      clear hnz
      by_cases hn : n ≤ told.length
      · have hni : (n : Int) ≤ ((told.length : Nat) : Int) := by omega
        have hR := HR.out
        obtain ⟨g, rfl⟩ : ∃ g, gk = g + 1 := ⟨gk - 1, by have := HGK.out; omega⟩
        unfold chunkGo at hgo
        rw [if_pos hn] at hgo
        rw [← hgo] at hR
        simp only at hR
        have HEND := dend_c db rb' x.s.d wr HRD.out.lz.c
        obtain ⟨⟨f1, f2⟩, hf⟩ : ∃ p, x.s.d.fin = p := ⟨_, rfl⟩
        rw [hf] at hR HEND
        simp only at HEND
        have HE := Lib.hid HEND
        have h3 : (f2 ≠ 0) ∨ (f2 = 0 ∧ f1 ≠ 0) ∨ (f2 = 0 ∧ f1 = 0) := by omega
        clear HEND hf hgo hn
        rcases h3 with h3 | ⟨rfl, h3⟩ | ⟨rfl, rfl⟩
        · have hR2 : none = R := by rw [if_neg (fun e => h3 (by injection e))] at hR; exact hR
          subst hR2
          have hf2 : ((f2 : Int) == 0) = false := by rw [beq_eq_false_iff_ne]; omega
          have hf3 : ((f2 : Int) != 0) = true := by rw [bne_iff_ne]; omega
          clear hR h3
          go_wp2_with fail
          refine HE.out.mono ?_; rintro e w6 ⟨rfl, hd6, f6⟩
          have h6 := HRD.out.lz.coder hd6 f6
          have H6 := Lib.hid (HRD.out.lzStep h6.1 h6.2)
          have e0 := Q0.out.frm H6.out.f (HNZ.out _ (Nat.le_refl _) (by omega))
          have e1 := Q1.out.frm H6.out.f (HNZ.out _ (by omega) (by omega))
          have E0 := Lib.hid e0
          have E1 := Lib.hid e1
          have c0 := e0.cell 0
          have z0 := e0.frozen 0
          have e2 := e1.other (p := ⟨w.heap.size, 0, none⟩) (by simp) (.slice none 0 0)
          have c1 := e2.cell 0
          have z1 := e2.frozen 0
          have r0 := (e0.set 0 (.slice none 0 0)).other (p := ⟨w.heap.size + 1, 0, none⟩) (by simp) (.int .i64 11)
          have r1 := e2.set 0 (.int .i64 11)
          have FF : Hid (Frm (fun q => q = w.heap.size ∨ q = w.heap.size + 1) w6 ((w6.setCell ⟨w.heap.size, 0, none⟩ (.slice none 0 0)).setCell ⟨w.heap.size + 1, 0, none⟩ (.int .i64 11))) := Lib.hid (((Frm.refl _ w6).setCell (p := ⟨w.heap.size, 0, none⟩) (.inl rfl) _).setCell (p := ⟨w.heap.size + 1, 0, none⟩) (.inr rfl) _)
          have R0 := Lib.hid r0
          have R1 := Lib.hid r1
          clear e0 e1 e2 r0 r1 hd6 f6 h6 d0 d1 d2 d3 d4
          go_wp2
          simp only [Exit.noGoto_ret]
          go_wp2
          refine leaves_cons (f := 14) (args := #[.pointer (some ⟨w.heap.size, 0, none⟩), .pointer (some ⟨w.heap.size + 1, 0, none⟩)]) (by simp) (by simp [go_sem]) ?_
          refine (chunk_idle _ _ _).mono ?_
          rintro e u' w'' ⟨rfl, rfl, rfl⟩
          have k0 := R0.out.cell 0
          have k1 := R1.out.cell 0
          simp [Leaves, settle, results, Tryd.results7, go_sem, k0, k1]
          exact chunk_none B4.out H6.out.f hdb hrb' FF.out
        · have hR2 : none = R := by rw [if_neg (fun e => h3 (by injection e))] at hR; exact hR
          subst hR2
          have hf2 : ((f1 : Int) == 0) = false := by rw [beq_eq_false_iff_ne]; omega
          have hf3 : ((f1 : Int) != 0) = true := by rw [bne_iff_ne]; omega
          clear hR h3
          go_wp2_with fail
          refine HE.out.mono ?_; rintro e w6 ⟨rfl, hd6, f6⟩
          have h6 := HRD.out.lz.coder hd6 f6
          have H6 := Lib.hid (HRD.out.lzStep h6.1 h6.2)
          have e0 := Q0.out.frm H6.out.f (HNZ.out _ (Nat.le_refl _) (by omega))
          have e1 := Q1.out.frm H6.out.f (HNZ.out _ (by omega) (by omega))
          have E0 := Lib.hid e0
          have E1 := Lib.hid e1
          have c0 := e0.cell 0
          have z0 := e0.frozen 0
          have e2 := e1.other (p := ⟨w.heap.size, 0, none⟩) (by simp) (.slice none 0 0)
          have c1 := e2.cell 0
          have z1 := e2.frozen 0
          have r0 := (e0.set 0 (.slice none 0 0)).other (p := ⟨w.heap.size + 1, 0, none⟩) (by simp) (.int .i64 11)
          have r1 := e2.set 0 (.int .i64 11)
          have FF : Hid (Frm (fun q => q = w.heap.size ∨ q = w.heap.size + 1) w6 ((w6.setCell ⟨w.heap.size, 0, none⟩ (.slice none 0 0)).setCell ⟨w.heap.size + 1, 0, none⟩ (.int .i64 11))) := Lib.hid (((Frm.refl _ w6).setCell (p := ⟨w.heap.size, 0, none⟩) (.inl rfl) _).setCell (p := ⟨w.heap.size + 1, 0, none⟩) (.inr rfl) _)
          have R0 := Lib.hid r0
          have R1 := Lib.hid r1
          clear e0 e1 e2 r0 r1 hd6 f6 h6 d0 d1 d2 d3 d4
          go_wp2
          simp only [Exit.noGoto_ret]
          go_wp2
          refine leaves_cons (f := 14) (args := #[.pointer (some ⟨w.heap.size, 0, none⟩), .pointer (some ⟨w.heap.size + 1, 0, none⟩)]) (by simp) (by simp [go_sem]) ?_
          refine (chunk_idle _ _ _).mono ?_
          rintro e u' w'' ⟨rfl, rfl, rfl⟩
          have k0 := R0.out.cell 0
          have k1 := R1.out.cell 0
          simp [Leaves, settle, results, Tryd.results7, go_sem, k0, k1]
          exact chunk_none B4.out H6.out.f hdb hrb' FF.out
        · have hR2 : some (told, x) = R := by rw [if_pos rfl] at hR; exact hR
          subst hR2
          clear hR
          go_wp2_with fail
          refine HE.out.mono ?_; rintro e w6 ⟨rfl, hd6, f6⟩
          have h6 := HRD.out.lz.coder hd6 f6
          have H6 := Lib.hid (HRD.out.lzStep h6.1 h6.2)
          have e0 := Q0.out.frm H6.out.f (HNZ.out _ (Nat.le_refl _) (by omega))
          have e1 := Q1.out.frm H6.out.f (HNZ.out _ (by omega) (by omega))
          have E0 := Lib.hid e0
          have E1 := Lib.hid e1
          have c0 := e0.cell 0
          have z0 := e0.frozen 0
          have e2 := e1.other (p := ⟨w.heap.size, 0, none⟩) (by simp) (.slice A5 told.length c5)
          have c1 := e2.cell 0
          have z1 := e2.frozen 0
          have r0 := (e0.set 0 (.slice A5 told.length c5)).other (p := ⟨w.heap.size + 1, 0, none⟩) (by simp) (.int .i64 0)
          have r1 := e2.set 0 (.int .i64 0)
          have FF : Hid (Frm (fun q => q = w.heap.size ∨ q = w.heap.size + 1) w6 ((w6.setCell ⟨w.heap.size, 0, none⟩ (.slice A5 told.length c5)).setCell ⟨w.heap.size + 1, 0, none⟩ (.int .i64 0))) := Lib.hid (((Frm.refl _ w6).setCell (p := ⟨w.heap.size, 0, none⟩) (.inl rfl) _).setCell (p := ⟨w.heap.size + 1, 0, none⟩) (.inr rfl) _)
          have R0 := Lib.hid r0
          have R1 := Lib.hid r1
          obtain ⟨-, -, -, -, k4, -⟩ := H6.out.cells
          have k4z := k4
          clear e0 e1 e2 r0 r1 hd6 f6 h6 d0 d1 d2 d3 d4
          go_wp2
          simp only [Exit.noGoto_ret]
          go_wp2
          refine leaves_cons (f := 14) (args := #[.pointer (some ⟨w.heap.size, 0, none⟩), .pointer (some ⟨w.heap.size + 1, 0, none⟩)]) (by simp) (by simp [go_sem]) ?_
          refine (chunk_idle _ _ _).mono ?_
          rintro e u' w'' ⟨rfl, rfl, rfl⟩
          have k0 := R0.out.cell 0
          have k1 := R1.out.cell 0
          simp [Leaves, settle, results, Tryd.results7, go_sem, k0, k1]
          exact chunk_some B4.out H6.out hdb hrb' FF.out E0.out E1.out
      · have hni : ((told.length : Nat) : Int) < (n : Int) := by omega
        obtain ⟨g, rfl⟩ : ∃ g, gk = g + 1 := ⟨gk - 1, by have := HGK.out; omega⟩
        unfold chunkGo at hgo
        rw [if_neg hn] at hgo
        obtain ⟨L, hL⟩ : ∃ L, told.length = L := ⟨_, rfl⟩
        obtain ⟨tl, htl2⟩ : ∃ tl, T + L = tl := ⟨_, rfl⟩
        obtain ⟨rm, hrm⟩ : ∃ rm, n - L = rm := ⟨_, rfl⟩
        obtain ⟨SR, hSR⟩ : ∃ SR, stepOf k S tl rm x = SR := ⟨_, rfl⟩
        rw [hL] at hni hc5 d4 htl hgo hn
        rw [htl2, hrm, hSR] at hgo
        have htli : (T : Int) + (L : Int) = (tl : Int) := by omega
        have htlw : IntKind.i64.wrap (tl : Int) = (tl : Int) := Go.IntWalk.i64_in _ (by omega)
        have hrmi : (n : Int) - (L : Int) = (rm : Int) := by omega
        have hrmw : IntKind.i64.wrap (rm : Int) = (rm : Int) := Go.IntWalk.i64_in _ (by omega)
        have h7 := HRD.out.setTotal tl
        rw [hL] at h7
        have z3 := HRD.out.p.frozen 3
        obtain ⟨q0, q1, q2, q3, q4, -⟩ := h7.cells
        have HSTEP := Lib.hid (step_any (ChZ k wb db rb' wv) wc _ k ⟨db, rb', wb, kb, wc.heap.size, S, base, w.heap.size + 2⟩ tl rm x told wv1 _ h7 HK.out (by omega) HX.out hS (by omega) (by omega))
        have HSR := Lib.hid hSR
        have HGO := Lib.hid hgo
        have HL := Lib.hid hL
        have HB1 : Hid (T + L = tl ∧ n - L = rm) := Lib.hid ⟨htl2, hrm⟩
        clear h7 hSR hgo hL htl2 hrm
        go_wp2_with fail
        refine HSTEP.out.mono ?_; rintro e w6 (⟨b, y, wv2, tv2, hR2, rfl, h8⟩ | ⟨hR2, ⟨xp, rfl⟩, st9, rep9, s9, C9, told9, wv9, tv9, h9⟩)
        · have hR3 : stepOf k S tl rm x = some (b, y) := hR2
          have hgo := HGO.out
          have h1 := HSR.out
          rw [hR3] at h1
          rw [← h1] at hgo
          have hi := stepOf_inv HX.out (by have := HB1.out; omega) hR3
          have H8 := Lib.hid h8
          have HI := Lib.hid hi
          have HGO2 := Lib.hid hgo
          clear hR2 hR3 hgo h1 hi h8 HGO HSR HSTEP q0 q1 q2 q3 q4 z3 d0 d1 d2 d3 d4
          go_wp2
          go_roundg g
          case measure => omega
          case rel =>
            refine ⟨told ++ b, y, wv2, tv2, tl, H8.out, HI.out.1, ?_, ?_, HGO2.out⟩
            · have := HB1.out; have := HI.out.2; have := HL.out; rw [List.length_append]; omega
            · have := HB1.out; have := HI.out.2; have := HL.out; have := HGK.out; rw [List.length_append]; omega
        · have hR3 : stepOf k S tl rm x = none := hR2
          have hgo := HGO.out
          have h1 := HSR.out
          rw [hR3] at h1
          rw [← h1] at hgo
          have hR := HR.out
          rw [← hgo] at hR
          have hR4 : none = R := hR
          subst hR4
          have H9 := Lib.hid h9
          have E0 := Lib.hid (Q0.out.frm h9.f (HNZ.out _ (Nat.le_refl _) (by omega)))
          have E1 := Lib.hid (Q1.out.frm h9.f (HNZ.out _ (by omega) (by omega)))
          clear hR2 hR3 hgo h1 hR h9 HR HGO HSR HSTEP q0 q1 q2 q3 q4 z3 d0 d1 d2 d3 d4
          go_wp2
          refine leaves_cons (f := 14) (args := #[.pointer (some ⟨w.heap.size, 0, none⟩), .pointer (some ⟨w.heap.size + 1, 0, none⟩)]) (by simp) (by simp [go_sem]) ?_
          refine (chunk_caught _ _ xp _ _ _ _ E0.out E1.out).mono ?_
          rintro e u' w'' ⟨rfl, rfl, k0, k1, kf⟩
          have c0 := k0.cell 0
          have c1 := k1.cell 0
          simp [Leaves, settle, results, Tryd.results7, go_sem, c0, c1]
          exact chunk_none B4.out H9.out.f hdb hrb' kf
end Go.Proofs.YtffehfpbdcokbaaDoor
