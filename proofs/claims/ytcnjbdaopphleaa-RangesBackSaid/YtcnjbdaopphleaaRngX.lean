/- The walk of RangesBack. -/
import Derived.Test.YtcnjbdaopphleaaRngW
namespace Go.Proofs.Ytcnjbdaopphleaa
open Go.RowKit Rng
set_option linter.unusedVariables false
set_option linter.unusedSimpArgs false
theorem and1_mod {x : Nat} (h : x < 4294967296) : bits .and .u32 (x : Int) 1 = ((x % 2 : Nat) : Int) := by
  have e1 : x < Num.M32 := h
  have e2 : (1 : Nat) < Num.M32 := by decide
  have h1 := Num.and32 e1 e2
  have h2 : x &&& 1 = x % 2 := Nat.and_one_is_mod x
  rw [h2] at h1
  exact h1
theorem est_dir {l : List RAct} {pl : List Nat} {i : Nat} {x : RAct} (hx : l.getD i default = x) (hm : 0 < x.many) : est l pl (i + 1) = (Enc.direct x.n (count x.many) (est l pl i).1, (est l pl i).2) := by
  show estep _ _ = _
  unfold estep
  rw [hx, if_pos hm]
theorem est_bit {l : List RAct} {pl : List Nat} {i J : Nat} {x : RAct} {one : Bool} (hx : l.getD i default = x) (hm : ¬ 0 < x.many) (hJ : jdx x.at' pl.length = J) (ho : (x.n % 2 == 1) = one) :
    est l pl (i + 1) = ((est l pl i).1.bit (fair ((est l pl i).2.getD J 0)) one, (est l pl i).2.set J (learn (fair ((est l pl i).2.getD J 0)) one)) := by
  show estep _ _ = _
  unfold estep
  rw [hx, if_neg hm, est_len, hJ, ho]
theorem one_of {z : Nat} (h : z < 2) : decide ((z : Int) ≠ 0) = (z == 1) := by
  rcases (show z = 0 ∨ z = 1 by omega) with rfl | rfl <;> rfl
theorem back_dir' {l : List RAct} {pl : List Nat} {i n : Nat} {d : Dec} {B : List UInt8} {x : RAct} (hB : (est l pl n).1.close.out = B) (hx : l.getD i default = x) (hi : i < n) (hm : 0 < x.many) (k : Like B (est l pl i).1 d.order) :
    (d.direct (count x.many) 0).1 = x.n % 2 ^ count x.many ∧ Like B (est l pl (i + 1)).1 (d.direct (count x.many) 0).2.order ∧ (est l pl (i + 1)).2 = (est l pl i).2 := by
  subst hB; subst hx
  obtain ⟨h1, h2, h3, _⟩ := back_dir l pl hi hm k
  exact ⟨h1, h2, h3⟩
theorem back_bit' {l : List RAct} {pl ql : List Nat} {i n J : Nat} {d : Dec} {B : List UInt8} {x : RAct} {one : Bool} (hB : (est l pl n).1.close.out = B) (hx : l.getD i default = x) (hi : i < n) (hm : ¬ 0 < x.many)
    (hJ : jdx x.at' pl.length = J) (ho : (x.n % 2 == 1) = one) (hq : (est l pl i).2 = ql) (k : Like B (est l pl i).1 d.order) :
    (d.bit (fair (ql.getD J 0))).1 = one ∧ Like B (est l pl (i + 1)).1 (d.bit (fair (ql.getD J 0))).2.order ∧ (est l pl (i + 1)).2 = ql.set J (learn (fair (ql.getD J 0)) one) := by
  subst hB; subst hx; subst hJ; subst ho; subst hq
  obtain ⟨h1, h2, h3, _⟩ := back_bit l pl hi hm k
  exact ⟨h1, h2, h3⟩
theorem want_eq {nx K : Nat} (hn : nx < 4294967296) (hK : K ≤ 32) : bits .and .u64 (IntKind.u64.wrap (nx : Int)) (IntKind.u64.wrap (IntKind.u64.wrap (2 ^ K) - 1)) % 4294967296 = ((nx % 2 ^ K : Nat) : Int) := by
  have hp : 2 ^ K ≤ 2 ^ 32 := Nat.pow_le_pow_right (by decide) hK
  have h0 : 0 < 2 ^ K := Nat.pow_pos (by decide)
  have h32 : (2 : Nat) ^ 32 = 4294967296 := by decide
  have e0 : ((2 : Int) ^ K) = ((2 ^ K : Nat) : Int) := by simp
  have hm := Nat.mod_lt nx h0
  rw [e0]
  have h1 : nx &&& (2 ^ K - 1) = nx % 2 ^ K := Nat.and_two_pow_sub_one_eq_mod nx K
  have e4 : bits .and .u64 (nx : Int) ((2 ^ K - 1 : Nat) : Int) = ((nx &&& (2 ^ K - 1) : Nat) : Int) := Num.and64 (by unfold Num.M64; omega) (by unfold Num.M64; omega)
  rw [h1] at e4
  generalize nx % 2 ^ K = R at *
  generalize 2 ^ K = P at *
  have e1 : IntKind.u64.wrap (nx : Int) = nx := Go.IntWalk.u64_in _ (by omega)
  have e2 : IntKind.u64.wrap (P : Int) = P := Go.IntWalk.u64_in _ (by omega)
  have e3 : IntKind.u64.wrap ((P : Int) - 1) = ((P - 1 : Nat) : Int) := by rw [Go.IntWalk.u64_in _ (by omega)]; omega
  rw [e1, e2, e3, e4]
  omega
theorem bitV_of {z : Nat} {one : Bool} (h : (z == 1) = one) (hz : z < 2) : bitV one = (z : Int) := by
  subst h
  rcases (show z = 0 ∨ z = 1 by omega) with rfl | rfl <;> rfl
set_option maxRecDepth 100000 in
set_option maxHeartbeats 100000000 in
theorem lawBack10 (A1 : Option Addr) (n1 c1 : Nat) (f1 : Nat → Int) (A2 : Option Addr) (l : List RAct) (n2 c2 : Nat) (w : World)
    (j1 : n1 ≤ c1) (j2 : c1 ≤ maxLen) (j3 : Opn.RowAt w w.heap.size A1 n1 fun i => .int .u16 (f1 i)) (j4 : ∀ i, i < n1 → 0 ≤ f1 i ∧ f1 i ≤ 65535)
    (k1 : n2 = l.length) (k2 : l.length ≤ c2) (k3 : c2 ≤ maxLen) (k4 : RActRow w w.heap.size A2 l) (k5 : ∀ s ∈ l, s.Fits) :
    Calls Try.prog 5 #[.slice A1 n1 c1, .slice A2 n2 c2] w fun e w' => e = .returned (.bool true) ∧ Below w.heap.size w w' := by
  obtain ⟨cl, rfl, hq, hcb⟩ := HRow.of_row j3 j4
  subst k1
  have HQ := Lib.hid hq
  have HCB := Lib.hid hcb
  have HA := Lib.hid k4
  have HF := Lib.hid k5
  clear j3 j4 hq hcb k4 k5
  by_cases hmain : cl.length ≤ 200 ∧ l.length ≤ 2000
  · obtain ⟨m2, m3⟩ := hmain
    go_enter Try.func5, Try.ntmps5
    go_wp2_with fail
    refine (enew_p _).mono ?_; rintro r w1 ⟨rfl, hE1, hB1⟩
    have hl1 := hE1.p.lt
    have hs1 := hB1.size
    have E1 := Lib.hid hE1
    have B1 := Lib.hid hB1
    clear hE1 hB1
    go_wp2_with fail
    refine (chances_any A1 cl _ c1 w1 rfl (HRow.more (HQ.out.below B1.out) B1.out.size) m2).mono ?_; rintro e w4 ⟨v4, rfl, ho4, hb4⟩
    obtain ⟨g, cg, curg, rfl, hgb, hgp, hgc, hgm, _⟩ := ho4.block (by simp)
    have hlen1 : (cl ++ [1024]).length = cl.length + 1 := by simp
    have hbnd : ∀ x ∈ cl ++ [1024], x < 65536 := by
      intro x hx
      rcases List.mem_append.1 hx with hx | hx
      · exact HCB.out x hx
      · simp at hx; omega
    have hf4 := Frm.of_below (S := fun _ => False) hb4
    have PL := Lib.hid (show BEnc w w4 w.heap.size g cg none (.slice none 0 0) newEnc (cl ++ [1024]) from
      ⟨E1.out.frm hf4 (fun h => h) (fun _ _ h => h), ho4.base (by omega), hbnd, by omega, by omega, (fun b c e => by cases e), B1.out.trans (hb4.mono hs1)⟩)
    have HBND := Lib.hid hbnd
    clear ho4 hb4 hgp hf4 E1 B1 hbnd
    go_wp2
    obtain ⟨P0, hP0⟩ : ∃ P0, cl ++ [1024] = P0 := ⟨_, rfl⟩
    obtain ⟨N, hN⟩ : ∃ N, cl.length + 1 = N := ⟨_, rfl⟩
    have hN2 : 0 < N ∧ N ≤ 201 := by omega
    simp only [hN]
    rw [hN, hP0] at hlen1
    rw [hP0] at PL HBND
    have HN := Lib.hid hN
    have HP0 := Lib.hid hP0
    clear hN hP0
    go_loopw [7] (fun iv wr => ∃ (i : Nat) (e : Enc) (pl : List Nat) (v : Value), iv = .int .i64 i ∧ i ≤ l.length ∧ pl.length = N ∧ BEnc w wr w.heap.size g cg none v e pl ∧ est l P0 i = (e, pl)) (fun iv _ => l.length - (intOf iv).toNat)
    case atStart => exact ⟨0, newEnc, P0, _, rfl, by omega, hlen1, PL.out, rfl⟩
    case round =>
      obtain ⟨i, e, pl, v, rfl, hi2, hpl, hplay, hest⟩ := hrel
      have hok := est_ok l P0 i
      rw [hest] at hok
      have OK := Lib.hid hok
      have HEST := Lib.hid hest
      clear PL hok hest
      by_cases hlt2 : i < l.length
      · obtain ⟨b0, off, rfl, hb0, hcell⟩ := HA.out (by omega)
        obtain ⟨c0, c1', c2'⟩ := hcell i hlt2
        have hx : l.getD i default ∈ l := by rw [List.getD, List.getElem?_eq_getElem hlt2]; exact List.getElem_mem hlt2
        have hfit := HF.out _ hx
        obtain ⟨⟨ax, nx, mx⟩, hxx⟩ : ∃ x, l.getD i default = x := ⟨_, rfl⟩
        rw [hxx] at c0 c1' c2' hfit
        have HXX := Lib.hid hxx
        simp only at c0 c1' c2'
        have hm := hfit.m
        have ha := hfit.a
        have hnx := hfit.n
        simp only at hm ha hnx
        have x0 := (hplay.b.cell (p := ⟨b0, off + i * 3, none⟩) hb0).trans c0
        have x1 := (hplay.b.cell (p := ⟨b0, off + i * 3 + 1, none⟩) hb0).trans c1'
        have x2 := (hplay.b.cell (p := ⟨b0, off + i * 3 + 2, none⟩) hb0).trans c2'
        have PLX := Lib.hid (hplay.act #[.int .i64 ax, .int .u32 nx, .int .i64 mx])
        have HNX := Lib.hid hnx
        have h3 := and1_mod hnx
        obtain ⟨z, hz⟩ : ∃ z, nx % 2 = z := ⟨_, rfl⟩
        rw [hz] at h3
        have hz4 : z < 2 := by omega
        have HZ := Lib.hid hz
        clear hcell hfit hxx hx c0 c1' c2' hplay hnx hz
        by_cases hmany : 0 < mx
        · have he := est_dir (pl := P0) HXX.out hmany
          rw [HEST.out] at he
          have HE := Lib.hid he
          clear he
          go_wp2_with fail
          obtain ⟨xb, hxb⟩ : ∃ xb, wr.heap.size = xb := ⟨_, rfl⟩
          rw [hxb] at PLX
          generalize wr.alloc (.cells #[.int .i64 ax, .int .u32 nx, .int .i64 mx] 36) = wx at *
          simp only [hxb]
          clear x0 x1 x2 hxb
          refine (benc_dir nx mx _ PLX.out (by have := OK.out.2.2.2; omega) OK.out.1 OK.out.2.2.1 HNX.out _ rfl).mono ?_; rintro r w6 ⟨rfl, v6, hP6⟩
          have P6 := Lib.hid hP6.free
          clear hP6 PLX
          go_wp2
          exact ⟨⟨i + 1, _, pl, v6, by go_num, by omega, hpl, P6.out, HE.out⟩, by simp [intOf]; omega⟩
        · obtain ⟨t, s, J, ht, hts, hs, hss, hJ1, hJ2, hJ⟩ := modR ax N (by omega) (by omega)
          have hjdx : jdx ax P0.length = J := by unfold jdx; rw [hlen1, ht, hs, hJ1]; rfl
          obtain ⟨one, hone⟩ : ∃ one : Bool, (z == 1) = one := ⟨_, rfl⟩
          have he := est_bit (pl := P0) (one := one) HXX.out hmany hjdx (by rw [← hone, ← HZ.out])
          rw [HEST.out] at he
          obtain ⟨⟨e7, pl7⟩, hE7⟩ : ∃ q, est l P0 (i + 1) = q := ⟨_, rfl⟩
          rw [hE7] at he
          injection he with he1 he2
          have hpl7 : pl7.length = N := by have := est_len l P0 (i + 1); rw [hE7, hlen1] at this; exact this
          have HE1 := Lib.hid he1
          have HE2 := Lib.hid he2
          have HE7 := Lib.hid hE7
          have HONE := Lib.hid hone
          have hJi : (J : Int) < (N : Int) := by omega
          have hJ0 : 0 ≤ (J : Int) := by omega
          have hJp : J < pl.length := by rw [hpl]; exact hJ
          have HJP := Lib.hid hJp
          clear hJp hjdx he1 he2 hE7 hone
          go_wp2
          obtain ⟨xb, hxb⟩ : ∃ xb, wr.heap.size = xb := ⟨_, rfl⟩
          rw [hxb] at PLX
          generalize wr.alloc (.cells #[.int .i64 ax, .int .u32 nx, .int .i64 mx] 36) = wx at *
          simp only [hxb]
          have y0 : wx.cell? ⟨xb, 0, none⟩ = some (.int .i64 ax) := by rw [(PLX.out.x _ _ rfl).1.cell]; rfl
          have y1 : wx.cell? ⟨xb, 1, none⟩ = some (.int .u32 nx) := by rw [(PLX.out.x _ _ rfl).1.cell]; rfl
          clear x0 x1 x2 hxb
          refine QTail.wp_region_qtail_lit 18 (by kernel_rfl) (by kernel_rfl) ?_
          simp only [List.take_succ_cons, List.take_zero, List.drop_succ_cons, List.drop_zero]
          repeat (go_big_quiet_step (fail))
          refine wpQuiet_nil ?_
          rintro w' ⟨nr, rfl⟩
          go_wp2_with fail
          refine (benc_bit J z one _ (PLX.out.still (drawnFrm _ _)) (by have := OK.out.2.2.2; omega) OK.out.1 OK.out.2.2.1 HJP.out (by rw [one_of hz4]; exact HONE.out.symm) _ HE1.out.symm _ HE2.out.symm).mono ?_; rintro r w6 ⟨rfl, v6, hP6⟩
          have P6 := Lib.hid hP6.free
          clear hP6 PLX
          go_wp2
          exact ⟨⟨i + 1, e7, pl7, v6, by go_num, by omega, hpl7, P6.out, HE7.out⟩, by simp [intOf]; omega⟩
      · obtain rfl : i = l.length := by omega
        have htold := est_told l P0 l.length
        have hstart := back_start l P0 l.length
        have hfinal : est l P0 l.length = (e, pl) := HEST.out
        obtain ⟨B, hB⟩ : ∃ B, e.close.out = B := ⟨_, rfl⟩
        rw [hfinal] at htold hstart
        simp only at htold hstart
        rw [hB] at htold hstart
        have hcnt : e.cnt ≤ 32 * l.length := OK.out.2.2.2
        have hBl : B.length = e.cnt + 5 := htold.l
        have hB5 : 5 ≤ B.length ∧ B.length ≤ 140000 := by omega
        have hB0 : B.getD 0 0 = 0 := by
          have h1 := hstart.1
          unfold newErr at h1
          rw [if_neg (by omega)] at h1
          by_cases h2 : B.getD 0 0 = 0
          · exact h2
          · rw [if_neg h2] at h1; cases h1
        have HT := Lib.hid htold
        have HS := Lib.hid hstart
        have HB0 := Lib.hid hB0
        have PL := Lib.hid hplay
        have hcn : e.cnt + 5 < 1000000 := by omega
        clear hplay htold hstart hB0 hfinal hBl hcnt
        go_wp2_with fail
        refine (eclose_p _ _ _ e _ PL.out.d PL.out.b.size hcn).mono ?_; rintro r w6 ⟨v6, rv6, rfl, hE6, hF6, hM6, hO6, hN6⟩
        rw [hB] at hO6
        have P6 := Lib.hid (PL.out.frm hE6 hF6)
        rcases hO6.form with ⟨_, e0⟩ | ⟨g0, c6, cur, rfl, hg0, hpg, hc6, hm6, _, hcell6⟩
        · rw [e0] at hB5; simp at hB5
        have hr6 : BRow w6 w6.heap.size (some ⟨g0, 0, none⟩) B := by
          obtain ⟨A', c', e, _, _, hr⟩ := hO6.slice
          injection e with e1 e2 e3
          rw [← e1] at hr
          exact hr
        have hz0 : w6.cell? ⟨g0, 0, none⟩ = some (.int .u8 0) := by
          rw [hpg.cell, hcell6 0 (by omega), HB0.out]; rfl
        have R6 := Lib.hid hr6
        clear hE6 hF6 hM6 hO6 hN6 hr6 PL hpg hcell6
        go_wp2_with fail
        refine (dnew_p (some ⟨g0, 0, none⟩) B _ c6 w6 rfl R6.out hc6 hm6 (by omega) HS.out.1).mono ?_; rintro r w7 ⟨db, rb, rfl, hd7, hdb, hrb, hB7⟩
        have D7 := Lib.hid hd7
        have P7 := Lib.hid (P6.out.p.frm (Frm.of_below (S := fun _ => False) hB7) (fun _ _ h => h))
        have B7 := Lib.hid (P6.out.b.trans (hB7.mono P6.out.b.size))
        have hgl : g < w6.heap.size := by obtain ⟨cur, hp, _⟩ := P6.out.p.gblk; exact hp.lt
        have hdl := hd7.lt
        have hgw := P6.out.m
        clear hd7 hz0 P6 R6 hB7
        go_wp2_with fail
        refine (chances_any A1 cl _ c1 w7 rfl (HRow.more (HQ.out.below B7.out) B7.out.size) m2).mono ?_; rintro r w8 ⟨v8, rfl, ho8, hb8⟩
        obtain ⟨h, ch, curh, rfl, hhb, hhp, hhc, hhm, _⟩ := ho8.block (by simp)
        have hf8 := Frm.of_below (S := fun _ => False) hb8
        rw [HP0.out] at ho8
        have PD := Lib.hid (show BDec w w8 db rb g cg h ch none (newDec B) pl P0 from
          ⟨D7.out.frm hf8 (fun h => h) (fun h => h), P7.out.frm hf8 (fun _ _ h => h), ho8.base B7.out.size, HBND.out, by omega, by have := B7.out.size; omega, (fun b c e => by cases e), B7.out.trans (hb8.mono B7.out.size)⟩)
        clear ho8 hb8 hhp hf8 D7 P7 B7
        have hcl1 : (cl ++ [1024]).length = N := by rw [HP0.out]; exact hlen1
        have HL0 := Lib.hid HS.out.2
        have HBE := Lib.hid (show (est l P0 l.length).1.close.out = B by rw [HEST.out]; exact hB)
        have HPL := Lib.hid (show (est l P0 l.length).2 = pl by rw [HEST.out])
        have HE0 := Lib.hid (show (est l P0 l.length).1 = e by rw [HEST.out])
        clear hB HEST HS OK
        obtain ⟨wo, rfl⟩ : ∃ wo, wo = wr := ⟨_, rfl⟩
        go_wp2
        try simp only [hcl1]
        go_loopw [13] (fun iv wr => ∃ (i : Nat) (d : Dec) (ql : List Nat), iv = .int .i64 i ∧ i ≤ l.length ∧ ql.length = N ∧ BDec w wr db rb g cg h ch none d pl ql ∧ (est l P0 i).2 = ql ∧ Like B (est l P0 i).1 d.order) (fun iv _ => l.length - (intOf iv).toNat)
        case atStart => exact ⟨0, newDec B, P0, rfl, by omega, hlen1, PD.out, rfl, HL0.out⟩
        case round =>
          obtain ⟨i, d, ql, rfl, hi3, hql, hplay, hest, hlike⟩ := hrel
          clear PD HL0
          have HLIKE := Lib.hid hlike
          have HEST := Lib.hid hest
          clear hlike hest
          by_cases hlt3 : i < l.length
          · obtain ⟨b0, off, rfl, hb0, hcell⟩ := HA.out (by omega)
            obtain ⟨c0, c1', c2'⟩ := hcell i hlt3
            have hx : l.getD i default ∈ l := by rw [List.getD, List.getElem?_eq_getElem hlt3]; exact List.getElem_mem hlt3
            have hfit := HF.out _ hx
            obtain ⟨⟨ax, nx, mx⟩, hxx⟩ : ∃ x, l.getD i default = x := ⟨_, rfl⟩
            rw [hxx] at c0 c1' c2' hfit
            have HXX := Lib.hid hxx
            simp only at c0 c1' c2'
            have hm := hfit.m
            have ha := hfit.a
            have hnx := hfit.n
            simp only at hm ha hnx
            have x0 := (hplay.b.cell (p := ⟨b0, off + i * 3, none⟩) hb0).trans c0
            have x1 := (hplay.b.cell (p := ⟨b0, off + i * 3 + 1, none⟩) hb0).trans c1'
            have x2 := (hplay.b.cell (p := ⟨b0, off + i * 3 + 2, none⟩) hb0).trans c2'
            have PLX := Lib.hid (hplay.act #[.int .i64 ax, .int .u32 nx, .int .i64 mx])
            have HNX := Lib.hid hnx
            clear hcell hfit hxx hx c0 c1' c2' hplay hnx
            by_cases hmany : 0 < mx
            · obtain ⟨r1, r2, r3⟩ := back_dir' HBE.out HXX.out hlt3 hmany HLIKE.out
              simp only at r1 r2
              obtain ⟨K, hK⟩ : ∃ K, count mx = K := ⟨_, rfl⟩
              have hK2 : min mx 32 = (K : Int) := by rw [← hK]; unfold count; omega
              have hK3 : K ≤ 32 := by omega
              have fmin := fun w => min2_num (P := Try.prog) .i64 #[3, 3] 3 mx 32 (K : Int) hK2 w
              rw [hK] at r1 r2
              have R2 := Lib.hid r2
              have R3 := Lib.hid r3
              have R1 := Lib.hid r1
              have HK := Lib.hid hK
              clear r1 r2 r3 hK hK2
              go_wp2
              obtain ⟨xb, hxb⟩ : ∃ xb, wr.heap.size = xb := ⟨_, rfl⟩
              rw [hxb] at PLX
              generalize wr.alloc (.cells #[.int .i64 ax, .int .u32 nx, .int .i64 mx] 36) = wx at *
              simp only [hxb]
              have y2 : wx.cell? ⟨xb, 2, none⟩ = some (.int .i64 mx) := by rw [(PLX.out.x _ _ rfl).1.cell]; rfl
              have y1 : wx.cell? ⟨xb, 1, none⟩ = some (.int .u32 nx) := by rw [(PLX.out.x _ _ rfl).1.cell]; rfl
              clear x0 x1 x2 hxb
              refine QTail.wp_region_qtail_lit 8 (by kernel_rfl) (by kernel_rfl) ?_
              simp only [List.take_succ_cons, List.take_zero, List.drop_succ_cons, List.drop_zero]
              repeat (go_big_quiet_step (fail))
              refine wpQuiet_nil ?_
              rintro w' ⟨nr, rfl⟩
              go_wp2_with fail
              simp only [want_eq HNX.out hK3]
              obtain ⟨V, hV⟩ : ∃ V, nx % 2 ^ K = V := ⟨_, rfl⟩
              simp only [hV]
              have hVR : ((d.direct (count mx) 0).1 : Int) = (V : Int) := by rw [HK.out, R1.out, hV]
              have hVD : (d.direct (count mx) 0).2 = (d.direct K 0).2 := by rw [HK.out]
              clear hV
              refine (bdec_dir mx _ (PLX.out.still (drawnFrm _ _)) (V : Int) _ hVR hVD).mono ?_; rintro r w9 ⟨rfl, hP9⟩
              have P9 := Lib.hid hP9.free
              clear hP9 PLX hVR hVD y1 y2
              go_wp2
              exact ⟨⟨i + 1, _, ql, by go_num, by omega, hql, P9.out, by rw [R3.out]; exact HEST.out, R2.out⟩, by simp [intOf]; omega⟩
            · obtain ⟨t, s, J, ht, hts, hs, hss, hJ1, hJ2, hJ⟩ := modR ax N (by omega) (by omega)
              have hjdx : jdx ax P0.length = J := by unfold jdx; rw [hlen1, ht, hs, hJ1]; rfl
              have h3 := and1_mod HNX.out
              obtain ⟨z, hz⟩ : ∃ z, nx % 2 = z := ⟨_, rfl⟩
              rw [hz] at h3
              have hz4 : z < 2 := by omega
              obtain ⟨one, hone⟩ : ∃ one : Bool, (z == 1) = one := ⟨_, rfl⟩
              obtain ⟨r1, r2, r3⟩ := back_bit' (one := one) HBE.out HXX.out hlt3 hmany hjdx (by rw [← hone, ← hz]) HEST.out HLIKE.out
              have hbv := bitV_of hone hz4
              obtain ⟨D7, hD7⟩ : ∃ D, (d.bit (fair (ql.getD J 0))).2 = D := ⟨_, rfl⟩
              obtain ⟨ql7, hq7⟩ : ∃ D, ql.set J (learn (fair (ql.getD J 0)) one) = D := ⟨_, rfl⟩
              have hX := Lib.hid (show bitV (d.bit (fair (ql.getD J 0))).1 = (z : Int) by rw [r1, hbv])
              have hQ := Lib.hid (show ql.set J (learn (fair (ql.getD J 0)) (d.bit (fair (ql.getD J 0))).1) = ql7 by rw [r1, hq7])
              rw [hD7] at r2
              rw [hq7] at r3
              have hl7 : ql7.length = N := by rw [← hq7, List.length_set]; exact hql
              have hJi : (J : Int) < (N : Int) := by omega
              have hJ0 : 0 ≤ (J : Int) := by omega
              have hJp : J < ql.length := by rw [hql]; exact hJ
              have HJP := Lib.hid hJp
              have R2 := Lib.hid r2
              have R3 := Lib.hid r3
              have HD7 := Lib.hid hD7
              clear hJp hjdx hbv hone r1 r2 r3 hD7 hq7 hz
              go_wp2
              obtain ⟨xb, hxb⟩ : ∃ xb, wr.heap.size = xb := ⟨_, rfl⟩
              rw [hxb] at PLX
              generalize wr.alloc (.cells #[.int .i64 ax, .int .u32 nx, .int .i64 mx] 36) = wx at *
              simp only [hxb]
              have y0 : wx.cell? ⟨xb, 0, none⟩ = some (.int .i64 ax) := by rw [(PLX.out.x _ _ rfl).1.cell]; rfl
              have y1 : wx.cell? ⟨xb, 1, none⟩ = some (.int .u32 nx) := by rw [(PLX.out.x _ _ rfl).1.cell]; rfl
              clear x0 x1 x2 hxb
              have hw1 : IntKind.i64.wrap s = s := by rw [Go.IntWalk.i64_in _ (by omega)]
              have hw3 : IntKind.i64.wrap (z : Int) = z := Go.IntWalk.i64_in _ (by omega)
              have hw2 : IntKind.i64.wrap (t + (N : Int)) = s := by rw [hs, hw1]
              go_region_with (first
                | (go_at_call 14; refine Calls.mono (bdec_bit (w0 := w) (xo := some (xb, #[.int .i64 ax, .int .u32 nx, .int .i64 mx])) (d := d) (pl := pl) (ql := ql) J _ (by first | exact PLX.out.drew | exact PLX.out) HJP.out (z : Int) D7 ql7 hX.out HD7.out hQ.out) ?_; rintro e w' ⟨rfl, hPP⟩; have y1' : w'.cell? ⟨xb, 1, none⟩ = some (.int .u32 nx) := by rw [(hPP.x _ _ rfl).1.cell]; rfl))
              all_goals
                have QQ := Lib.hid hPP
                clear hPP y1'
                go_wp2
                exact ⟨⟨i + 1, D7, ql7, by go_num, by omega, hl7, QQ.out.free, R3.out, R2.out⟩, by simp [intOf]; omega⟩
          · obtain rfl : i = l.length := by omega
            have hfin := told_end HT.out (by rw [← HE0.out]; exact HLIKE.out)
            have hqp : ql = pl := by rw [← HPL.out, ← HEST.out]
            subst hqp
            have PD := Lib.hid hplay
            have HFIN := Lib.hid hfin
            clear hplay hfin HLIKE HEST
            go_wp2_with fail
            refine (bdec_end _ PD.out HFIN.out).mono ?_; rintro r w9 ⟨rfl, hP9⟩
            have P9 := Lib.hid hP9
            clear hP9 PD HFIN
            go_wp2
            go_loopw [18] (fun iv wr => ∃ (i : Nat), iv = .int .i64 i ∧ i ≤ N ∧ BDec w wr db rb g cg h ch none d.order ql ql) (fun iv _ => N - (intOf iv).toNat)
            case atStart => exact ⟨0, rfl, by omega, P9.out⟩
            case round =>
              obtain ⟨k, rfl, hk, hplay⟩ := hrel
              have PK := Lib.hid hplay
              clear P9
              by_cases hltk : k < N
              · have x1 := hplay.cell_p (j := k) (by omega)
                have x2 := hplay.cell_q (j := k) (by omega)
                obtain ⟨V, hV⟩ : ∃ V, ql.getD k 0 = V := ⟨_, rfl⟩
                rw [hV] at x1 x2
                clear hplay hV
                go_wp2
                go_quiet (fail)
                go_wp2
                exact ⟨⟨k + 1, by go_num, by omega, PK.out.still (drawnFrm _ _)⟩, by simp [intOf]; omega⟩
              · obtain rfl : k = N := by omega
                have B9 := Lib.hid hplay.b
                clear hplay PK
                go_wp2_with fail
                refine (wakes10 _).mono ?_; rintro r w10 ⟨rfl, h10⟩
                have B10 := Lib.hid (B9.out.trans (h10.mono B9.out.size))
                clear h10
                go_wp2
                go_ret
                exact ⟨rfl, B10.out⟩
  · have h5 : 200 < cl.length ∨ (cl.length ≤ 200 ∧ 2000 < l.length) := by omega
    clear hmain
    rcases h5 with h1 | ⟨h1, h2⟩
    all_goals
      go_enter Try.func5, Try.ntmps5
      go_wp2_with fail
      refine (wakes10 _).mono ?_; rintro e w1 ⟨rfl, h1⟩
      go_wp2
      go_ret
      exact ⟨rfl, h1⟩
end Go.Proofs.Ytcnjbdaopphleaa
