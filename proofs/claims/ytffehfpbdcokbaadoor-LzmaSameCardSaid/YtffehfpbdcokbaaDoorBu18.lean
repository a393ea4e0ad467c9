/- Texts of this proof, put together: LzV, Step. -/
import Derived.Deep.RegionLaw
import Derived.Test.YtffehfpbdcokbaaDoorBu1
import Derived.Test.YtffehfpbdcokbaaDoorBu17
set_option linter.unusedVariables false
set_option linter.unusedSimpArgs false
/- An operation that is read behind its first bit (1): the walk. -/
namespace Go.Proofs.YtffehfpbdcokbaaDoor
open Go.RowKit Rng Lz Win
set_option linter.unusedVariables false
set_option linter.unusedSimpArgs false
/-- How a step ends: it is an operation, or it is none. -/
def StepEnd (Z : Nat → Prop) (w0 : World) (k : LK) (g : RB) (total : Int) (good : Prop) (st' : Nat) (rep' : Nat → Nat) (s' : CP Dec) (C' told' : List UInt8) (e : Ending) (w' : World) : Prop :=
  (good ∧ e = .returned (.tuple #[]) ∧ ∃ wv' tv', RdAt Z w0 w' k g total st' rep' s' C' told' wv' tv') ∨
  (¬ good ∧ (∃ x, e = .panicked (wrongP x)) ∧ ∃ st rep s C told wv tv, RdAt Z w0 w' k g total st rep s C told wv tv)
set_option maxRecDepth 100000 in
set_option maxHeartbeats 2000000 in
theorem step_op (Z : Nat → Prop) (w0 w : World) (k : LK) (g : RB) (total st room : Nat) (rep : Nat → Nat) (s sa : CP Dec) (C told : List UInt8) (wv tv : Value) (h : RdAt Z w0 w k g (total : Int) st rep s C told wv tv)
    (hk : k.Ok) (ht : total < 4611686018427387904) (hst : st < 12) (hS : g.S ≤ 16777216) (hlen : told.length ≤ 100000000) (hroom : room ≤ 2097152) (p : Nat) (hp : total % 2 ^ k.pb = p) (ha : bitAt outC (8 + st * 16 + p) 0 s = (1, sa))
    (sz st' : Nat) (rep' : Nat → Nat) (s' : CP Dec) (ho : opOf outC st p rep sa = (sz, st', rep', s')) :
    Calls Tryd.prog 15 #[.pointer (some ⟨g.xb, 0, none⟩), .int .i64 room] w fun e w' => StepEnd Z w0 k g (total : Int) (sz ≤ room ∧ rep' 0 + 1 ≤ C.length) st' rep' s' (lastN g.S (C ++ cyc C (rep' 0 + 1) sz)) (told ++ cyc C (rep' 0 + 1) sz) e w' := by
  have hp16 : p < 16 := by
    have h1 : 2 ^ k.pb ≤ 2 ^ 4 := Nat.pow_le_pow_right (by omega) hk.b
    have h2 : total % 2 ^ k.pb < 2 ^ k.pb := Nat.mod_lt _ (Nat.lt_of_lt_of_le (by omega) (Nat.one_le_two_pow))
    omega
  have HA := Lib.hid ha
  have HH := Lib.hid h
  have HPL := Lib.hid (place_any 56 k st total rep s w h.lz hk ht)
  rw [hp] at HPL
  obtain ⟨d0, d1, d2, dt, -, -⟩ := h.cells
  have d3 := h.st3
  have HD := Lib.hid h.drew
  have P0 := Lib.hid (plm k (i := 8 + st * 16 + p) (by omega) (by omega))
  have P1 := Lib.hid (plm k (i := 200 + st) (by omega) (by omega))
  have hsti : (st : Int) < 12 := by omega
  have hpi : (p : Int) < 16 := by omega
  unfold opOf at ho
  obtain ⟨⟨b, sb⟩, hb⟩ : ∃ x, bitAt outC (200 + st) 0 sa = x := ⟨_, rfl⟩
  rw [hb] at ho
  dsimp only at ho
  have HB := Lib.hid hb
  have HO := Lib.hid ho
  obtain ⟨r1, hr1⟩ : ∃ r1, rep' 0 + 1 = r1 := ⟨_, rfl⟩
  rw [hr1]
  obtain ⟨Y, hY⟩ : ∃ Y, cyc C r1 sz = Y := ⟨_, rfl⟩
  have hYl : Y.length = sz := by rw [← hY]; exact cyc_length _ _ _
  rw [hY]
  have HE := Lib.hid hr1
  have HY := Lib.hid hY
  have HYL := Lib.hid hYl
  clear h ha hk hp hb ho hr1 hY hYl
  go_enter Tryd.func15, Tryd.ntmps15
  go_wp2_with fail
  refine HPL.out.mono ?_; rintro e w1 ⟨rfl, rfl⟩
  go_upto_region 2 with fail
  go_cut [36] from 9 (fun v wx => v = .bool false ∧ RdAt Z w0 wx k g (total : Int) st rep sa C told wv tv)
  case first =>
    go_region_with (first
      | (go_at_call 21; refine (lz_bit (obit_any g.db g.rb) HD.out.lz (8 + st * 16 + p) k.sb (8 + st * 16 + p) 0 _ trivial P0.out.1 P0.out.2).mono ?_; rintro e w2 ⟨rfl, h2, f2⟩; rw [HA.out] at h2 ⊢))
    all_goals
      have H2 := Lib.hid (HD.out.lzStep h2 f2)
      clear h2 f2
      go_wp2
      go_meet
      case rel => exact ⟨by simp, H2.out⟩
  case rest =>
    obtain ⟨rfl, h2⟩ := hcut
    have H2 := Lib.hid h2
    clear d0 d1 d2 d3 dt HD HH
    obtain ⟨d0, d1, d2, -, -, -⟩ := h2.cells
    have d3 := h2.st3
    have HD := Lib.hid h2.drew
    clear h2
    go_upto_region 5 with fail
    go_cut [52] from 9 (fun v wx => ∃ β : Bool, v = .bool β ∧ (β = true ↔ b = 1) ∧ RdAt Z w0 wx k g (total : Int) st rep sb C told wv tv)
    case first =>
      go_region_with (first
        | (go_at_call 21; refine (lz_bit (obit_any g.db g.rb) HD.out.lz (200 + st) k.sb (200 + st) 0 _ trivial P1.out.1 P1.out.2).mono ?_; rintro e w2 ⟨rfl, h2, f2⟩; rw [HB.out] at h2 ⊢))
      all_goals
        have H3 := Lib.hid (HD.out.lzStep h2 f2)
        clear h2 f2
        go_wp2
        go_meet
        case rel => exact ⟨_, rfl, by simp; omega, H3.out⟩
    case rest =>
      obtain ⟨β, rfl, hβ, h3⟩ := hcut
      have H3 := Lib.hid h3
      clear d0 d1 d2 d3 HD H2
      obtain ⟨d0, d1, d2, -, -, -⟩ := h3.cells
      have d3 := h3.st3
      have HD := Lib.hid h3.drew
      clear h3
      go_upto_if 52 with fail
      go_cut [6] from 9 (fun v wx => v = .int .i64 sz ∧ RdAt Z w0 wx k g (total : Int) st' rep' s' C told wv tv)
      case first =>
        by_cases hb1 : b = 1
        · obtain rfl : β = true := hβ.2 hb1
          have hO := HO.out
          rw [if_pos hb1] at hO
          have HO2 := Lib.hid hO
          clear hO hβ hb1 HO
          go_wp2_with fail
          refine (repeated_p Z w0 _ k g total st p rep sb C told wv tv H3.out hst hp16).mono ?_; rintro e w4 ⟨rfl, h4⟩
          rw [HO2.out] at h4 ⊢
          have H4 := Lib.hid h4
          clear h4
          go_wp2
          go_meet
          case rel => exact ⟨rfl, H4.out⟩
        · obtain rfl : β = false := by cases β; rfl; exact absurd (hβ.1 rfl) hb1
          have hO := HO.out
          rw [if_neg hb1] at hO
          obtain ⟨⟨l, sl⟩, hl⟩ : ∃ x, lenAt outC 840 2 p sb = x := ⟨_, rfl⟩
          have hll := lenAt_lt outC 840 2 p sb
          rw [hl] at hO hll
          dsimp only at hO hll
          obtain ⟨⟨dd, sd⟩, hd⟩ : ∃ x, distAt outC 0 l sl = x := ⟨_, rfl⟩
          rw [hd] at hO
          dsimp only at hO
          simp only [Prod.mk.injEq] at hO
          obtain ⟨rfl, rfl, rfl, rfl⟩ := hO
          have HLL := Lib.hid hl
          have HDD := Lib.hid hd
          clear hβ hb1 HO hl hd
          go_wp2_with fail
          refine QTail.wp_region_qtail_lit 8 (by kernel_rfl) (by kernel_rfl) ?_
          simp only [List.take_succ_cons, List.take_zero, List.drop_succ_cons, List.drop_zero]
          repeat (go_big_quiet_step (fail))
          refine wpQuiet_nil ?_
          rintro w' ⟨nr, rfl⟩
          have h4 := H3.out.drewN nr
          obtain ⟨w5, hrun, h5, f5⟩ := rep_copy (DC.keep g.db g.rb) h4.lz 3 3 4 3 (by omega)
          have H5 := Lib.hid (h4.lzStep h5 f5)
          clear h4 h5 f5 d0 d1 d2 d3 HD
          obtain ⟨d0, d1, d2, -, -, -⟩ := H5.out.cells
          have HD := Lib.hid H5.out.drew
          go_upto_region 8 with fail
          go_cut [6] from 9 (fun v wx => v = .int .i64 l ∧ RdAt Z w0 wx k g (total : Int) st (shiftN rep 3) sl C told wv tv)
          case first =>
            go_region_with (first
              | (go_at_call 24; refine (lens_p g.db g.rb 56 k st (shiftN rep 3) sb 840 p _ HD.out.lz (.inl rfl) hp16).mono ?_; rintro e w6 ⟨rfl, h6, f6⟩; rw [HLL.out] at h6 ⊢))
            all_goals
              have H6 := Lib.hid (HD.out.lzStep h6 f6)
              clear h6 f6
              go_wp2
              go_meet
              case rel => exact ⟨rfl, H6.out⟩
          case rest =>
            obtain ⟨rfl, h6⟩ := hcut
            have H6 := Lib.hid h6
            clear d0 d1 d2 HD H5 h6
            go_wp2_with fail
            refine (behind_any (DC.keep g.db g.rb) 56 k st 1 (shiftN rep 3) sl _ H6.out.lz hst (by omega)).mono ?_; rintro e w7 ⟨rfl, h7, f7⟩
            have H7 := Lib.hid (H6.out.lzStep h7 f7)
            clear h7 f7
            obtain ⟨d0, d1, d2, -, -, -⟩ := H7.out.cells
            have HD := Lib.hid H7.out.drew
            go_wp2_with fail
            go_region_with (first
              | (go_at_call 26; refine (dist_p g.db g.rb 56 k (behS st 1) (shiftN rep 3) sl l _ HD.out.lz hll.1 hll.2).mono ?_; rintro e w8 ⟨rfl, h8, f8⟩; rw [HDD.out] at h8 ⊢; have z8 := (h8.hdr (i := 4) (by omega)).1; have y8 := (h8.hdr (i := 4) (by omega)).2; simp only [mcell, Nat.reduceEqDiff, if_false, Nat.reduceLT, if_true, Nat.reduceSub] at z8))
            all_goals
              have h9 := h8.putRep 0 dd (by omega) (DC.keep g.db g.rb)
              have H9 := Lib.hid ((HD.out.lzStep h8 f8).lzStep h9.1 h9.2)
              clear h8 f8 h9
              go_wp2
              go_meet
              case rel => exact ⟨rfl, H9.out⟩
      case rest =>
        obtain ⟨rfl, h4⟩ := hcut
        have H4 := Lib.hid h4
        clear d0 d1 d2 d3 HD H3 hβ HO
        obtain ⟨d0, d1, d2, -, -, d5⟩ := h4.cells
        have HD := Lib.hid h4.drew
        have hcl := h4.win.len
        obtain ⟨r0, hr0⟩ : ∃ r, rep' 0 = r := ⟨_, rfl⟩
        have hr1e := HE.out
        rw [hr0] at d5 hr1e
        clear h4 hr0
        by_cases h1 : sz ≤ room
        case neg =>
          have hq1 : (room : Int) < (sz : Int) := by omega
          have hng : ¬ (sz ≤ room ∧ r1 ≤ C.length) := fun h => h1 h.1
          clear h1 hr1e hcl
          have HNG := Lib.hid hng
          clear hng
          go_wp2
          exact ⟨rfl, Or.inr ⟨HNG.out, ⟨_, rfl⟩, _, _, _, _, _, _, _, H4.out⟩⟩
        have h1i : (sz : Int) ≤ (room : Int) := by omega
        have HQ1 : Hid (decide (room < sz) = false) := Lib.hid (decide_eq_false (by omega))
        by_cases h2 : r0 < 16777216
        case neg =>
          have hq2 : decide ((16777216 : Int) ≤ (r0 : Int)) = true := decide_eq_true (by omega)
          have hng : ¬ (sz ≤ room ∧ r1 ≤ C.length) := fun h => h2 (by omega)
          have HNG := Lib.hid hng
          have HQ2 := Lib.hid hq2
          clear h1 hr1e hcl h2 hng hq2
          go_upto_if 99 with fail
          simp only [HQ2.out, HQ1.out, Bool.or_true, Bool.false_or]
          go_wp2
          exact ⟨rfl, Or.inr ⟨HNG.out, ⟨_, rfl⟩, _, _, _, _, _, _, _, H4.out⟩⟩
        have hr1 : (r0 : Int) + 1 = (r1 : Int) := by omega
        have hr1w : IntKind.i64.wrap (r1 : Int) = (r1 : Int) := Go.IntWalk.i64_in _ (by omega)
        have hr0w : IntKind.i64.wrap (r0 : Int) = (r0 : Int) := Go.IntWalk.i64_in _ (by omega)
        have hq2 : decide ((16777216 : Int) ≤ (r0 : Int)) = false := decide_eq_false (by omega)
        have HQ2 := Lib.hid hq2
        have hr1p : 1 ≤ r1 := by omega
        clear hr1e hcl hq2
        go_upto_if 99 with fail
        simp only [HQ2.out, HQ1.out, Bool.or_false]
        by_cases h3 : r1 ≤ C.length
        case neg =>
          have hng : ¬ (sz ≤ room ∧ r1 ≤ C.length) := fun h => h3 h.2
          have HNG := Lib.hid hng
          have H3N := Lib.hid h3
          clear hng h3 h2 h1
          go_upto_region 13 with fail
          go_cut [7, 8] from 9 (fun v ev wx => v = .slice none 0 0 ∧ ev = .int .i64 11 ∧ RdAt Z w0 wx k g (total : Int) st' rep' s' C told wv tv)
          case first =>
            go_region_with (first
              | (go_at_call 27; refine (copy_c g.bw g.wb g.kb g.S r1 sz r1 sz C wv _ HD.out.win HD.out.bs.1 hS (by omega) rfl rfl hr1p).mono ?_; rintro e w2 ⟨-, hno⟩; obtain ⟨rfl, rfl⟩ := hno H3N.out; clear hno))
            all_goals
              go_wp2
              go_meet
              case rel => exact ⟨rfl, rfl, HD.out⟩
          case rest =>
            obtain ⟨rfl, rfl, h5⟩ := hcut
            have H5 := Lib.hid h5
            clear h5
            go_wp2
            exact ⟨rfl, Or.inr ⟨HNG.out, ⟨_, rfl⟩, _, _, _, _, _, _, _, H5.out⟩⟩
        have HGO : Hid (sz ≤ room ∧ r1 ≤ C.length) := Lib.hid ⟨h1, h3⟩
        have HLE := Lib.hid h3
        clear h3 h2 h1
        go_upto_region 13 with fail
        go_cut [7, 8] from 9 (fun v ev wx => ∃ (Ao : Option Addr) (co : Nat) (wv' : Value), v = .slice Ao sz co ∧ ev = .int .i64 0 ∧ RdAt Z w0 wx k g (total : Int) st' rep' s' (lastN g.S (C ++ Y)) told wv' tv ∧ BRow wx wx.heap.size Ao Y)
        case first =>
          go_region_with (first
            | (go_at_call 27; refine (copy_c g.bw g.wb g.kb g.S r1 sz r1 sz C wv _ HD.out.win HD.out.bs.1 hS (by omega) rfl rfl hr1p).mono ?_; rintro e w2 ⟨hok, -⟩; obtain ⟨ov, wv2, rfl, hw2, ho2, f2, m2, -⟩ := hok HLE.out; rw [HY.out] at hw2 ho2; obtain ⟨Ao, co, hov, -, -, hro⟩ := ho2.slice; rw [HYL.out] at hov; subst hov; have H5 := Lib.hid (HD.out.winStep hw2 f2 m2); have RO := Lib.hid hro; clear hok hw2 ho2 f2 m2 hro))
          all_goals
            go_wp2
            go_meet
            case rel => exact ⟨Ao, co, wv2, rfl, rfl, H5.out, RO.out⟩
        case rest =>
          obtain ⟨Ao, co, wv2, rfl, rfl, h5, hro⟩ := hcut
          have H5 := Lib.hid h5
          have RO := Lib.hid hro
          clear d0 d1 d2 d5 HD H4 hro
          obtain ⟨d0, d1, d2, -, d4, -⟩ := h5.cells
          obtain ⟨A5, c5, htv, hc5, hm5, _⟩ := h5.o.slice
          subst htv
          clear h5
          have hxz := H5.out.p.frozen 4
          have hroomi := hroom
          have hyl := HYL.out.symm
          have hszr := HGO.out.1
          clear d0 d1 d2
          go_wp2_with (at_builtin; refine wpList_append_bytes _ rfl (.tmp 127) (.tmp 128) 22 rfl 5 g.bt Tryd.underlying22 Tryd.info_u8 (.slice A5 told.length c5) told rfl ?own5 Ao sz co wc.heap.size Y rfl hyl ?row5 ?len5 ?base5 ?next5)
          case own5 => exact H5.out.o
          case row5 => exact RO.out
          case len5 => omega
          case base5 => exact H5.out.bs.2
          case next5 =>
            intro v5 w5 hown5 hfrm5 hnew5
            obtain ⟨A6, c6, rfl, -, -, -⟩ := hown5.slice
            have h6 := H5.out.toldStep hown5 hfrm5 hnew5
            have hp5 := H5.out.p.frm hfrm5 (own_ne H5.out.o H5.out.p (by decide))
            have e4 : w5.cell? ⟨g.xb, 4, none⟩ = some (.slice A5 told.length c5) := by rw [hp5.cell]; rfl
            have z4 := hp5.frozen 4
            obtain ⟨L6, hL6⟩ : ∃ L, (told ++ Y).length = L := ⟨_, rfl⟩
            rw [hL6] at h6 ⊢
            have H6 := Lib.hid h6
            clear hown5 hfrm5 hnew5 hp5 h6 hL6 d4 hroomi hszr hyl
            go_wp2
            go_end0
            exact Or.inl ⟨HGO.out, rfl, wv2, _, H6.out⟩
end Go.Proofs.YtffehfpbdcokbaaDoor

/- append of bytes, as one step of a region that draws its order. Over any program. -/
namespace Go.Proofs.YtffehfpbdcokbaaDoor
open Go.RowKit
theorem stepR_append_bytes {P : Program} (w : World) {ops : Array Oper} {o : Oper} {a : Act} {K : Act → World → Prop} {Q : Exit → Act → World → Prop} {E : Prop} (hg : o.guard = none) (s x : Operand) (t : TypeId)
    (ho : o.op = .call { callee := .builtin .append, args := #[s, x], argTypes := #[t, t] })
    (T base : Nat) (ht : P.underlying t = some (.slice T)) (hinfo : (P.info? T).map (fun i => (i.zero, i.size, i.bytes)) = some (some (.int .u8 0), 1, 1))
    (v : Value) (bs : List UInt8) (hs : a.eval s = v) (hown : OwnB w T base v bs) (A : Option Addr) (m c B : Nat) (news : List UInt8) (hx : a.eval x = .slice A m c) (hm : m = news.length) (hnews : BRow w B A news)
    (hlen : bs.length + news.length ≤ 140737488355328) (hbase : base ≤ w.heap.size)
    (h : ∀ v' w', OwnB w' T base v' (bs ++ news) → Frm (fun k => v.ownBlock = some k) w w' → (v'.ownBlock = v.ownBlock ∨ v'.ownBlock = some w.heap.size) → K (a.put o.dst v') w') :
    if Region.wanted o (yielded ops a.tmps) = true then Oper.wp P o a w K Q else E := by
  have hw : Region.wanted o (yielded ops a.tmps) = true := by simp [Region.wanted, hg]
  rw [if_pos hw]
  exact wp_append_bytes w s x t ho T base ht hinfo v bs hs hown A m c B news hx hm hnews hlen hbase h
end Go.Proofs.YtffehfpbdcokbaaDoor
