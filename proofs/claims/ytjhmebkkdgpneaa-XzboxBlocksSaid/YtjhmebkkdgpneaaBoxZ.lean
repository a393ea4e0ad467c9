/- An index: the walk. -/
import Derived.Test.YtjhmebkkdgpneaaBoxY
import Derived.Test.YtjhmebkkdgpneaaPanic
namespace Go.Proofs.Ytjhmebkkdgpneaa
open Go.RowKit Box
set_option linter.unusedVariables false
set_option linter.unusedSimpArgs false
theorem OwnPr.lower {w : World} {T base base' : Nat} {v : Value} {l : List (Nat × Nat)} (h : OwnPr w T base v l) (hb : base' ≤ base) : OwnPr w T base' v l := by
  refine ⟨h.1, ?_⟩
  rcases h.2 with h2 | ⟨g, cap, cur, rfl, hb2, r⟩
  · exact .inl h2
  · exact .inr ⟨g, cap, cur, rfl, by omega, r⟩
/-- An index that is being read. -/
structure IxAt (w0 w : World) (lv : Value) (l : List (Nat × Nat)) (r : List UInt8) (u : Nat) : Prop where
  pl : Pts w w0.heap.size #[lv] TPR
  pu : Pts w (w0.heap.size + 1) #[.int .i64 0] 3
  pe : Pts w (w0.heap.size + 2) #[.int .i64 0] 23
  cu : CurAt w (w0.heap.size + 3) w0.heap.size r u
  ho : OwnPr w 38 (w0.heap.size + 4) lv l
  be : Below w0.heap.size w0 w
section
variable {w0 w w' : World} {lv v4 : Value} {l l4 : List (Nat × Nat)} {r r' : List UInt8} {u u' : Nat}
theorem IxAt.drew (s : IxAt w0 w lv l r u) : IxAt w0 w.drew lv l r u := ⟨s.pl, s.pu, s.pe, s.cu, s.ho, s.be.drew⟩
theorem IxAt.drewN (s : IxAt w0 w lv l r u) (n : Nat) : IxAt w0 (w.drewN n) lv l r u := ⟨s.pl, s.pu, s.pe, s.cu, s.ho, below_drewN s.be n⟩
theorem IxAt.cur (s : IxAt w0 w lv l r u) (hc : CurAt w' (w0.heap.size + 3) w0.heap.size r' u') (hf : Frm (· = w0.heap.size + 3) w w') : IxAt w0 w' lv l r' u' :=
  ⟨s.pl.frm hf (by omega), s.pu.frm hf (by omega), s.pe.frm hf (by omega), hc, s.ho.frm hf (fun k hk e => by have := (s.ho.lt hk).1; omega), s.be.trans (hf.below s.be.size (fun k hk => by omega))⟩
theorem IxAt.still (s : IxAt w0 w lv l r u) (hb : Below w.heap.size w w') : IxAt w0 w' lv l r u :=
  ⟨s.pl.below hb s.pl.lt, s.pu.below hb s.pu.lt, s.pe.below hb s.pe.lt, s.cu.frm (S := fun _ => False) (Frm.of_below hb) (fun h => h) (fun k h => h.elim), s.ho.frm (S := fun _ => False) (Frm.of_below hb) (fun k _ h => h), s.be.trans (hb.mono s.be.size)⟩
theorem IxAt.grow (s : IxAt w0 w lv l r u) (o : Obj) (ho : OwnPr w' 38 (w0.heap.size + 4) v4 l4) (hf : Frm (fun k => lv.ownBlock = some k) (w.alloc o) w') :
    IxAt w0 (w'.setCell ⟨w0.heap.size, 0, none⟩ v4) v4 l4 r u ∧ w'.cell? ⟨w0.heap.size, 0, none⟩ = some lv ∧ w'.frozen? ⟨w0.heap.size, 0, none⟩ = false := by
  have hn : ∀ k, k < w0.heap.size + 4 → ¬ lv.ownBlock = some k := fun k hk e => by have := (s.ho.lt e).1; omega
  have p1 := (s.pl.alloc o).frm hf (hn _ (by omega))
  have hc : CurAt (w.alloc o) (w0.heap.size + 3) w0.heap.size r u := s.cu.frm (S := fun _ => False) ((Frm.refl _ w).alloc o) (fun h => h) (fun k h => h.elim)
  have hf2 : Frm (fun k => lv.ownBlock = some k ∨ k = w0.heap.size) (w.alloc o) (w'.setCell ⟨w0.heap.size, 0, none⟩ v4) := (hf.mono (fun k _ h => .inl h)).setCell (p := ⟨w0.heap.size, 0, none⟩) (.inr rfl) v4
  have hne : ∀ k, k < w0.heap.size + 4 → k ≠ w0.heap.size → ¬ (lv.ownBlock = some k ∨ k = w0.heap.size) := fun k h1 h2 h3 => by
    rcases h3 with h3 | h3
    · exact hn k h1 h3
    · exact h2 h3
  have hal : Below w0.heap.size w0 (w.alloc o) := s.be.alloc s.be.size o
  refine ⟨⟨p1.set 0 v4, (s.pu.alloc o).frm hf2 (hne _ (by omega) (by omega)), (s.pe.alloc o).frm hf2 (hne _ (by omega) (by omega)), hc.frm hf2 (hne _ (by omega) (by omega)) (fun k hk => ?_), ?_, hal.trans (hf2.below hal.size (fun k hk => ?_))⟩, p1.cell 0, p1.frozen 0⟩
  · rcases hk with hk | hk
    · have := (s.ho.lt hk).1; omega
    · omega
  · refine ho.frm (S := fun k => k = w0.heap.size) ((Frm.refl _ _).setCell (p := ⟨w0.heap.size, 0, none⟩) (by rfl) v4) (fun k hk e => ?_)
    have := (ho.lt hk).1; omega
  · rcases hk with hk | hk
    · have := (s.ho.lt hk).1; omega
    · omega
end
set_option maxRecDepth 100000 in
set_option maxHeartbeats 4000000 in
theorem index_p (A : Option Addr) (bs : List UInt8) (n c : Nat) (w : World) (hn : n = bs.length) (hc : n ≤ c) (hcm : c ≤ maxLen) (hr : BRow w w.heap.size A bs) (hlen : bs.length ≤ 1000000000) :
    Calls Try.prog 18 #[.slice A n c] w (IxPost (indexOf bs) w) := by
  subst hn
  have hmf : ∀ (fn : Fn) (first cap : Array Value) (w : World), (Instr.makeFunc fn first cap).run Try.prog w = .ok (.func fn first cap) w := fun _ _ _ _ => rfl
  have s1 : ∃ w1, (((w.alloc (.cells #[.slice none 0 0] TPR)).alloc (.cells #[.int .i64 0] 3)).alloc (.cells #[.int .i64 0] 23)).alloc (.cells #[.slice A bs.length c, .int .i64 0] 49) = w1 ∧ IxAt w w1 (.slice none 0 0) [] bs 0 := by
    have sz1 : (w.alloc (.cells #[.slice none 0 0] TPR)).heap.size = w.heap.size + 1 := by show (w.heap.push _).size = _; rw [Array.size_push]
    have sz2 : ((w.alloc (.cells #[.slice none 0 0] TPR)).alloc (.cells #[.int .i64 0] 3)).heap.size = w.heap.size + 2 := by show (Array.push _ _).size = _; rw [Array.size_push, sz1]
    have sz3 : (((w.alloc (.cells #[.slice none 0 0] TPR)).alloc (.cells #[.int .i64 0] 3)).alloc (.cells #[.int .i64 0] 23)).heap.size = w.heap.size + 3 := by show (Array.push _ _).size = _; rw [Array.size_push, sz2]
    have b3 : Below w.heap.size w (((w.alloc (.cells #[.slice none 0 0] TPR)).alloc (.cells #[.int .i64 0] 3)).alloc (.cells #[.int .i64 0] 23)) :=
      (((Below.refl _ w).alloc (Nat.le_refl _) _).alloc (by rw [sz1]; omega) _).alloc (by rw [sz2]; omega) _
    have q1 := Pts.new w #[.slice none 0 0] TPR
    have q2 := Pts.new (w.alloc (.cells #[.slice none 0 0] TPR)) #[.int .i64 0] 3
    have q3 := Pts.new ((w.alloc (.cells #[.slice none 0 0] TPR)).alloc (.cells #[.int .i64 0] 3)) #[.int .i64 0] 23
    have q4 := CurAt.fresh (w := ((w.alloc (.cells #[.slice none 0 0] TPR)).alloc (.cells #[.int .i64 0] 3)).alloc (.cells #[.int .i64 0] 23)) w hc hcm hr b3 (by rw [sz3]; omega)
    rw [sz1] at q2
    rw [sz2] at q3
    rw [sz3] at q4
    exact ⟨_, rfl, ((q1.alloc _).alloc _).alloc _, (q2.alloc _).alloc _, q3.alloc _, q4, OwnPr.nil _ _ _, b3.alloc (by rw [sz3]; omega) _⟩
  obtain ⟨w1, hw1, s1⟩ := s1
  have S1 := Lib.hid s1
  have CAP := Lib.hid hc
  have ROW := Lib.hid hr
  clear s1 hr
  obtain ⟨R, hR⟩ : ∃ R, indexOf bs = R := ⟨_, rfl⟩
  rw [hR]
  cases bs with
  | nil =>
    have hR : ([], 0, 10) = R := hR
    subst hR
    simp only [List.length_nil] at hw1
    go_enter_defers Try.func18, Try.ntmps18
    go_wp2_with fail
    refine (take_bad (w.heap.size + 3) w.heap.size 1 0 10 [] w1 S1.out.cu (by decide)).mono ?_; rintro r w2 ⟨rfl, rfl⟩
    go_wp2
    exact ix_door _ (by decide) _ w w1 _ rfl S1.out.pl S1.out.pu S1.out.pe S1.out.be _ rfl rfl rfl
  | cons b r0 =>
    have hRb := hR
    unfold indexOf at hRb
    simp only at hRb
    obtain ⟨bs, hbs⟩ : ∃ bs, b :: r0 = bs := ⟨_, rfl⟩
    have hbl : bs.length = r0.length + 1 := by rw [← hbs]; rfl
    have ht1 : bs.take 1 = [b] := by rw [← hbs]; rfl
    have hd1 : bs.drop 1 = r0 := by rw [← hbs]; rfl
    rw [hbs] at S1 hRb hw1 CAP ROW hlen hc ⊢
    clear hR
    have HT1 := Lib.hid ht1
    have HD1 := Lib.hid hd1
    have HBL := Lib.hid hbl
    have HLEN := Lib.hid hlen
    clear ht1 hd1 hbl hbs hlen hc
    by_cases hb : b = 0
    · rw [if_neg (fun h => h hb)] at hRb
      subst hb
      obtain ⟨⟨y0, m0, z0⟩, hnum⟩ : ∃ p, number r0 = p := ⟨_, rfl⟩
      rw [hnum] at hRb
      simp only at hRb
      have HNUM := Lib.hid hnum
      have HRR := Lib.hid hRb
      clear hnum hRb
      go_enter_defers Try.func18, Try.ntmps18
      go_wp2_with fail
      refine (take_ok (w.heap.size + 3) w.heap.size 1 0 10 bs w1 S1.out.cu (by have := HBL.out; omega) (by decide)).mono ?_; rintro r w2 ⟨A2, c2, rfl, hr2, hc2, hm2, hcu2, hf2⟩
      rw [HT1.out] at hr2
      rw [HD1.out] at hcu2
      have S2 := Lib.hid (S1.out.cur hcu2 hf2)
      obtain ⟨b0, off, rfl, hb0, hcell⟩ := hr2 (by simp)
      have k0 : w2.cell? ⟨b0, off, none⟩ = some (byteV (0)) := hcell 0 (by simp)
      unfold byteV at k0
      clear hr2 hcell hcu2 hf2 hm2
      go_wp2_with fail
      refine (must_ok _ _ _).mono ?_; rintro r w3 ⟨rfl, rfl⟩
      go_wp2_with fail
      by_cases hz : z0 = 0
      · subst hz
        have hR := HRR.out
        rw [if_neg (fun h => h rfl)] at hR
        obtain ⟨hy0, h10, hm0, _⟩ := number_back HNUM.out
        have HB0 := Lib.hid (And.intro hy0 (And.intro h10 hm0))
        clear hy0 h10 hm0
        refine (cnum_ok (w.heap.size + 3) w.heap.size 1 y0 m0 r0 w2 S2.out.cu (by have := HBL.out; have := HLEN.out; omega) HNUM.out (by have := HBL.out; have := HLEN.out; have := HB0.out; omega)).mono ?_; rintro r w3 ⟨rfl, hcu3, hf3⟩
        have S3 := Lib.hid (S2.out.cur hcu3 hf3)
        have RUN := Lib.hid hR
        clear HRR hR hcu3 hf3
        go_wp2
        go_loopw [6] (fun nv wr => ∃ (N : Nat) (l : List (Nat × Nat)) (lv : Value) (r : List UInt8) (u : Nat), nv = .int .u64 N ∧ N < 9223372036854775808 ∧ IxAt w wr lv l r u ∧ ixRun bs N l r u = R ∧ u + r.length = bs.length ∧ l.length ≤ u) (fun nv _ => (intOf nv).toNat)
        case atStart => exact ⟨y0, [], _, _, _, rfl, HB0.out.1, S3.out, RUN.out, by rw [List.length_drop]; have := HBL.out; have := HB0.out; omega, by simp⟩
        case round =>
          obtain ⟨N, l, lv, r, u, rfl, hN, hs, hrun, hur, hlu⟩ := hrel
          clear S1 S2 S3 RUN hw1
          have S := Lib.hid hs
          have RUN := Lib.hid hrun
          have HUR := Lib.hid hur
          have HLU := Lib.hid hlu
          have HNB := Lib.hid hN
          clear hs hrun hur hlu hN
          by_cases hN0 : N = 0
          · subst hN0
            obtain ⟨Al, kl, hlv, _, _, _⟩ := S.out.ho.slice
            subst hlv
            have hrun := RUN.out
            unfold ixRun ixTail at hrun
            simp only at hrun
            obtain ⟨pad, hpad⟩ : ∃ pad, (4 - u % 4) % 4 = pad := ⟨_, rfl⟩
            rw [hpad] at hrun
            have hp3 : bits .and .i64 (-(u : Int)) 3 = (pad : Int) := by rw [i64_and3]; omega
            have hp4 : pad < 4 := by omega
            have cu1 : ∃ A5 c5, wr.cell? ⟨w.heap.size + 3, 0, none⟩ = some (.slice A5 r.length c5) ∧ wr.cell? ⟨w.heap.size + 3, 1, none⟩ = some (.int .i64 (u : Int)) := by
              obtain ⟨A5, c5, hp, _⟩ := S.out.cu
              exact ⟨A5, c5, hp.cell 0, hp.cell 1⟩
            obtain ⟨A5, c5, cu0, cu1⟩ := cu1
            have huw : IntKind.i64.wrap (-(u : Int)) = -(u : Int) := Go.IntWalk.i64_in _ (by have := HUR.out; have := HLEN.out; omega)
            have hp44 : ((pad : Int) + 4) = ((pad + 4 : Nat) : Int) := by omega
            obtain ⟨q, hq⟩ : ∃ q, pad + 4 = q := ⟨_, rfl⟩
            rw [hq] at hp44 hrun
            have hqw : IntKind.i64.wrap (q : Int) = (q : Int) := Go.IntWalk.i64_in _ (by omega)
            have HRN := Lib.hid hrun
            have HQ := Lib.hid hq
            clear hrun RUN hpad hq
            by_cases hsh : r.length < q
            · have hrun := HRN.out
              rw [if_pos hsh] at hrun
              subst hrun
              have HTB := Lib.hid (take_bad (w.heap.size + 3) w.heap.size q u 10 r wr S.out.cu hsh)
              clear hsh
              go_wp2_with fail
              refine HTB.out.mono ?_; rintro r4 w4 ⟨rfl, rfl⟩
              go_wp2
              exact ix_door _ (by decide) _ w wr _ rfl S.out.pl S.out.pu S.out.pe S.out.be _ rfl rfl rfl
            · have hrun := HRN.out
              rw [if_neg hsh] at hrun
              have HTO := Lib.hid (take_ok (w.heap.size + 3) w.heap.size q u 10 r wr S.out.cu (by omega) (by have := HUR.out; have := HLEN.out; omega))
              have HSH := Lib.hid hsh
              clear HRN
              have HRN := Lib.hid hrun
              clear hsh hrun
              go_wp2_with fail
              refine HTO.out.mono ?_; rintro r4 w4 ⟨A6, c6, rfl, hr6, hc6, hm6, hcu6, hf6⟩
              have S6 := Lib.hid (S.out.cur hcu6 hf6)
              have hs6 : ∀ w, (Instr.sliceAt 22 (.slice A6 q c6) none (some (.int .i64 (pad : Int))) none).run Try.prog w = .ok (.slice A6 pad c6) w := fun w => slice_toX A6 q c6 pad (by have := HQ.out; omega) hc6 w
              have hr7 : BRow w4 w.heap.size A6 (r.take pad) := by
                have h := hr6.take pad
                rw [List.take_take, Nat.min_eq_left (by have := HQ.out; omega)] at h
                exact h
              have R7 := Lib.hid hr7
              have hlp : (r.take pad).length = pad := by rw [List.length_take]; have := HQ.out; have := HSH.out; omega
              obtain ⟨P, hP⟩ : ∃ P, r.take pad = P := ⟨_, rfl⟩
              rw [hP] at R7 HRN hlp
              have HLP := Lib.hid hlp
              have hu6 : w4.cell? ⟨w.heap.size + 3, 1, none⟩ = some (.int .i64 ((u + q : Nat) : Int)) := by obtain ⟨_, _, hp, _⟩ := hcu6; exact hp.cell 1
              obtain ⟨t, ht⟩ : ∃ t, u + q = t := ⟨_, rfl⟩
              rw [ht] at hu6 S6 HRN
              have htn : t ≤ bs.length := by have := HUR.out; have := HSH.out; omega
              have HTN := Lib.hid (And.intro htn (show 4 ≤ t by have := HQ.out; omega))
              clear hr6 hc6 hm6 hcu6 hf6 hr7 hlp hP ht htn
              go_wp2
              go_loopw [56] (fun jv wx => w4 = wx ∧ ∃ j : Nat, jv = .int .i64 j ∧ j ≤ pad ∧ ∀ x ∈ P.take j, x = 0) (fun jv _ => pad - (intOf jv).toNat)
              case atStart => exact ⟨rfl, 0, rfl, by omega, by simp⟩
              case round =>
                obtain ⟨hwx, j, rfl, hj, hall⟩ := hrel
                subst hwx
                by_cases hjp : j < pad
                · obtain ⟨b1, off1, hA1, hb1, hcell1⟩ := R7.out (by have := HLP.out; omega)
                  subst hA1
                  have hjl : j < P.length := by have := HLP.out; omega
                  have k1 := hcell1 j hjl
                  unfold byteV at k1
                  have hg : P.getD j 0 = P[j] := by simp [List.getD, List.getElem?_eq_getElem hjl]
                  rw [hg] at k1
                  by_cases hx : P[j] = 0
                  · rw [hx] at k1
                    have k1 : w4.cell? ⟨b1, off1 + j, none⟩ = some (.int .u8 0) := k1
                    have hall2 : ∀ x ∈ P.take (j + 1), x = 0 := by
                      rw [List.take_succ_eq_append_getElem hjl]
                      intro x hx2
                      rcases List.mem_append.1 hx2 with h | h
                      · exact hall x h
                      · rw [List.mem_singleton.1 h, hx]
                    have HA2 := Lib.hid hall2
                    clear hall hall2 hcell1 hg hx
                    go_wp2_with fail
                    refine (must_ok _ _ _).mono ?_; rintro r8 w8 ⟨rfl, rfl⟩
                    go_wp2
                    exact ⟨⟨trivial, j + 1, by go_num, by omega, HA2.out⟩, by simp [intOf]; omega⟩
                  · have hq0 : ((P[j].toNat : Int) == 0) = false := nat_ne (k := 0) (by decide) hx
                    have hrun := HRN.out
                    rw [if_pos (fun h => hx (h _ (List.getElem_mem hjl)))] at hrun
                    subst hrun
                    generalize P[j].toNat = xv at *
                    clear hall hcell1 hg hx HRN
                    go_wp2_with fail
                    refine (must_bad _ _ _).mono ?_; rintro r8 w8 ⟨rfl, rfl⟩
                    go_wp2
                    exact ix_door _ (by decide) _ w w4 _ rfl S6.out.pl S6.out.pu S6.out.pe S6.out.be _ rfl rfl rfl
                · obtain rfl : j = pad := by omega
                  rw [List.take_of_length_le (by have := HLP.out; omega)] at hall
                  have hrun := HRN.out
                  rw [if_neg (fun h => h hall)] at hrun
                  have hs7 : ∀ w, (Instr.sliceAt 22 (.slice A bs.length c) none (some (.int .i64 (t : Int))) none).run Try.prog w = .ok (.slice A t c) w := fun w => slice_toX A bs.length c t HTN.out.1 CAP.out w
                  have HSL := Lib.hid (sealed_p A (bs.take t) t c w4 (by rw [List.length_take]; have := HTN.out; omega) HTN.out.2 (Nat.le_trans HTN.out.1 CAP.out) (((ROW.out.take t).below S6.out.be).more S6.out.be.size) (by rw [List.length_take]; have := HLEN.out; omega))
                  by_cases hse : sealedB (bs.take t) = true
                  · rw [if_pos hse] at hrun
                    subst hrun
                    clear HRN hall
                    go_wp2_with fail
                    refine HSL.out.mono ?_; rintro r8 w8 ⟨rfl, hb8⟩
                    rw [hse]
                    have S8 := Lib.hid (S6.out.still hb8)
                    have u8 : w8.cell? ⟨w.heap.size + 3, 1, none⟩ = some (.int .i64 (t : Int)) := by obtain ⟨_, _, hp, _⟩ := S8.out.cu; exact hp.cell 1
                    have l8 : w8.cell? ⟨w.heap.size, 0, none⟩ = some (.slice Al l.length kl) := S8.out.pl.cell 0
                    have z8 := S8.out.pl.frozen 0
                    have uu8 : w8.cell? ⟨w.heap.size + 1, 0, none⟩ = some (.int .i64 0) := S8.out.pu.cell 0
                    have zu8 := S8.out.pu.frozen 0
                    have e8 : w8.cell? ⟨w.heap.size + 2, 0, none⟩ = some (.int .i64 0) := S8.out.pe.cell 0
                    have ze8 := S8.out.pe.frozen 0
                    clear hb8
                    go_wp2_with fail
                    refine (must_ok _ _ _).mono ?_; rintro r9 w9 ⟨rfl, rfl⟩
                    go_wp2
                    have q1 : Pts ((((w8.drewN 1).setCell ⟨w.heap.size, 0, none⟩ (.slice Al l.length kl)).setCell ⟨w.heap.size + 1, 0, none⟩ (.int .i64 (t : Int))).setCell ⟨w.heap.size + 2, 0, none⟩ (.int .i64 0)) w.heap.size #[.slice Al l.length kl] TPR :=
                      (((S8.out.pl.drewN 1).set 0 _).other (p := ⟨w.heap.size + 1, 0, none⟩) (by show w.heap.size ≠ w.heap.size + 1; omega) _).other (p := ⟨w.heap.size + 2, 0, none⟩) (by show w.heap.size ≠ w.heap.size + 2; omega) _
                    have q2 : Pts ((((w8.drewN 1).setCell ⟨w.heap.size, 0, none⟩ (.slice Al l.length kl)).setCell ⟨w.heap.size + 1, 0, none⟩ (.int .i64 (t : Int))).setCell ⟨w.heap.size + 2, 0, none⟩ (.int .i64 0)) (w.heap.size + 1) #[.int .i64 (t : Int)] 3 :=
                      (((S8.out.pu.drewN 1).other (p := ⟨w.heap.size, 0, none⟩) (by show w.heap.size + 1 ≠ w.heap.size; omega) _).set 0 _).other (p := ⟨w.heap.size + 2, 0, none⟩) (by show w.heap.size + 1 ≠ w.heap.size + 2; omega) _
                    have q3 : Pts ((((w8.drewN 1).setCell ⟨w.heap.size, 0, none⟩ (.slice Al l.length kl)).setCell ⟨w.heap.size + 1, 0, none⟩ (.int .i64 (t : Int))).setCell ⟨w.heap.size + 2, 0, none⟩ (.int .i64 0)) (w.heap.size + 2) #[.int .i64 0] 23 :=
                      (((S8.out.pe.drewN 1).other (p := ⟨w.heap.size, 0, none⟩) (by show w.heap.size + 2 ≠ w.heap.size; omega) _).other (p := ⟨w.heap.size + 1, 0, none⟩) (by show w.heap.size + 2 ≠ w.heap.size + 1; omega) _).set 0 _
                    have q4 : Frm (fun k => w.heap.size ≤ k ∧ k < w.heap.size + 3) w8 ((((w8.drewN 1).setCell ⟨w.heap.size, 0, none⟩ (.slice Al l.length kl)).setCell ⟨w.heap.size + 1, 0, none⟩ (.int .i64 (t : Int))).setCell ⟨w.heap.size + 2, 0, none⟩ (.int .i64 0)) :=
                      ((((Frm.refl _ w8).drewN 1).setCell (p := ⟨w.heap.size, 0, none⟩) (show w.heap.size ≤ w.heap.size ∧ w.heap.size < w.heap.size + 3 by omega) _).setCell (p := ⟨w.heap.size + 1, 0, none⟩) (show w.heap.size ≤ w.heap.size + 1 ∧ w.heap.size + 1 < w.heap.size + 3 by omega) _).setCell (p := ⟨w.heap.size + 2, 0, none⟩) (show w.heap.size ≤ w.heap.size + 2 ∧ w.heap.size + 2 < w.heap.size + 3 by omega) _
                    have u8s : ∀ v, (w8.setCell ⟨w.heap.size, 0, none⟩ v).cell? ⟨w.heap.size + 3, 1, none⟩ = some (.int .i64 (t : Int)) := fun v => by
                      obtain ⟨_, _, hp, _⟩ := S8.out.cu
                      exact (hp.other (p := ⟨w.heap.size, 0, none⟩) (by show w.heap.size + 3 ≠ w.heap.size; omega) v).cell 1
                    have Q1 := Lib.hid q1
                    have Q2 := Lib.hid q2
                    have Q3 := Lib.hid q3
                    have Q4 := Lib.hid q4
                    clear q1 q2 q3 q4
                    refine wp_region_noPanic ?_
                    refine wp_region_any (by kernel_rfl) ?_
                    change wpAny _ _ _ _ _ _ _ (World.drew _)
                    refine wpAny_take (i := 1) rfl (by kernel_rfl) (by kernel_rfl) (by kernel_rfl) (fun _ _ _ h => h) (Or.inl ⟨by rfl, by (intro w; go_simp; try with_reducible rfl)⟩) ?_
                    refine wpAny_take (i := 2) rfl (by kernel_rfl) (by kernel_rfl) (by kernel_rfl) (fun _ _ _ h => h) (Or.inl ⟨by rfl, by (intro w; go_simp; try with_reducible rfl)⟩) ?_
                    refine wpAny_take (i := 3) rfl (by kernel_rfl) (by kernel_rfl) (by kernel_rfl) (fun _ _ _ h => h) (Or.inl ⟨by rfl, by (intro w; go_simp; try with_reducible rfl)⟩) ?_
                    refine wpAny_ready (rs := [0, 4]) (by kernel_rfl) (by simp) ?_
                    refine AllReady.cons rfl (fun K hK => ?_) (AllReady.cons rfl (fun K hK => ?_) AllReady.nil)
                    · go_simp
                      refine hK _ _ ?_; clear hK K
                      refine wpAny_ready (rs := [4, 5]) (by kernel_rfl) (by simp) ?_
                      refine AllReady.cons rfl (fun K hK => ?_) (AllReady.cons rfl (fun K hK => ?_) AllReady.nil)
                      · go_simp
                        refine hK _ _ ?_; clear hK K
                        refine wpAny_ready (rs := [5]) (by kernel_rfl) (by simp) ?_
                        refine AllReady.cons rfl (fun K hK => ?_) AllReady.nil
                        go_simp
                        refine hK _ _ ?_; clear hK K
                        refine wpAny_ready (rs := [6]) (by kernel_rfl) (by simp) ?_
                        refine AllReady.cons rfl (fun K hK => ?_) AllReady.nil
                        go_simp
                        refine hK _ _ ?_; clear hK K
                        refine wpAny_ready (rs := [7]) (by kernel_rfl) (by simp) ?_
                        refine AllReady.cons rfl (fun K hK => ?_) AllReady.nil
                        go_simp
                        refine hK _ _ ?_; clear hK K
                        refine wpAny_done (by kernel_rfl) ?_ _
                        refine NoPanic.normal ?_
                        go_wp2
                        exact ix_end t l _ w _ _ rfl Q1.out Q2.out Q3.out ((S8.out.ho.frm Q4.out (fun k hk e => by have := (S8.out.ho.lt hk).1; omega)).lower (by omega)) (S8.out.be.trans (Q4.out.below S8.out.be.size (fun k hk => hk.1))) _ rfl rfl rfl
                      · go_simp
                        refine hK _ _ ?_; clear hK K
                        refine wpAny_ready (rs := [4]) (by kernel_rfl) (by simp) ?_
                        refine AllReady.cons rfl (fun K hK => ?_) AllReady.nil
                        go_simp
                        refine hK _ _ ?_; clear hK K
                        refine wpAny_ready (rs := [6]) (by kernel_rfl) (by simp) ?_
                        refine AllReady.cons rfl (fun K hK => ?_) AllReady.nil
                        go_simp
                        refine hK _ _ ?_; clear hK K
                        refine wpAny_ready (rs := [7]) (by kernel_rfl) (by simp) ?_
                        refine AllReady.cons rfl (fun K hK => ?_) AllReady.nil
                        go_simp
                        refine hK _ _ ?_; clear hK K
                        refine wpAny_done (by kernel_rfl) ?_ _
                        refine NoPanic.normal ?_
                        go_wp2
                        exact ix_end t l _ w _ _ rfl Q1.out Q2.out Q3.out ((S8.out.ho.frm Q4.out (fun k hk e => by have := (S8.out.ho.lt hk).1; omega)).lower (by omega)) (S8.out.be.trans (Q4.out.below S8.out.be.size (fun k hk => hk.1))) _ rfl rfl rfl
                    · go_simp
                      refine hK _ _ ?_; clear hK K
                      refine wpAny_ready (rs := [0]) (by kernel_rfl) (by simp) ?_
                      refine AllReady.cons rfl (fun K hK => ?_) AllReady.nil
                      go_simp
                      refine hK _ _ ?_; clear hK K
                      refine wpAny_ready (rs := [5]) (by kernel_rfl) (by simp) ?_
                      refine AllReady.cons rfl (fun K hK => ?_) AllReady.nil
                      go_simp
                      refine hK _ _ ?_; clear hK K
                      refine wpAny_ready (rs := [6]) (by kernel_rfl) (by simp) ?_
                      refine AllReady.cons rfl (fun K hK => ?_) AllReady.nil
                      go_simp
                      refine hK _ _ ?_; clear hK K
                      refine wpAny_ready (rs := [7]) (by kernel_rfl) (by simp) ?_
                      refine AllReady.cons rfl (fun K hK => ?_) AllReady.nil
                      go_simp
                      refine hK _ _ ?_; clear hK K
                      refine wpAny_done (by kernel_rfl) ?_ _
                      refine NoPanic.normal ?_
                      go_wp2
                      exact ix_end t l _ w _ _ rfl Q1.out Q2.out Q3.out ((S8.out.ho.frm Q4.out (fun k hk e => by have := (S8.out.ho.lt hk).1; omega)).lower (by omega)) (S8.out.be.trans (Q4.out.below S8.out.be.size (fun k hk => hk.1))) _ rfl rfl rfl
                  · rw [if_neg hse] at hrun
                    subst hrun
                    have hse : sealedB (bs.take t) = false := by simpa using hse
                    clear HRN hall
                    go_wp2_with fail
                    refine HSL.out.mono ?_; rintro r8 w8 ⟨rfl, hb8⟩
                    rw [hse]
                    have S8 := Lib.hid (S6.out.still hb8)
                    clear hb8
                    go_wp2_with fail
                    refine (must_bad _ _ _).mono ?_; rintro r9 w9 ⟨rfl, rfl⟩
                    go_wp2
                    exact ix_door _ (by decide) _ w w8 _ rfl S8.out.pl S8.out.pu S8.out.pe S8.out.be _ rfl rfl rfl
          · obtain ⟨k, hk⟩ : ∃ k, N = k + 1 := ⟨N - 1, by omega⟩
            have hrun := RUN.out
            rw [hk] at hrun
            unfold ixRun at hrun
            have hNp : (0 : Int) < (N : Int) := by omega
            have hNk : (N : Int) - 1 = (k : Int) := by omega
            have hNw : IntKind.u64.wrap (k : Int) = (k : Int) := Go.IntWalk.u64_in _ (by have := HNB.out; omega)
            obtain ⟨⟨y1, m1, z1⟩, hnum1⟩ : ∃ p, number r = p := ⟨_, rfl⟩
            rw [hnum1] at hrun
            simp only at hrun
            have HN1 := Lib.hid hnum1
            have HK := Lib.hid hk
            have HRN := Lib.hid hrun
            clear hrun hnum1 RUN hk hN0
            by_cases hz1 : z1 = 0
            · subst hz1
              obtain ⟨hy1, h11, hm1, _⟩ := number_back HN1.out
              have HB1 := Lib.hid (And.intro hy1 (And.intro h11 hm1))
              clear hy1 h11 hm1
              have hrun := HRN.out
              rw [if_neg (fun h => h rfl)] at hrun
              have HC1 := Lib.hid (cnum_ok (w.heap.size + 3) w.heap.size u y1 m1 r wr S.out.cu (by have := HUR.out; have := HLEN.out; omega) HN1.out (by have := HUR.out; have := HLEN.out; have := HB1.out; omega))
              by_cases h5 : y1 < 5
              · rw [if_pos h5] at hrun
                subst hrun
                clear HRN
                have h5d : decide ((5 : Int) ≤ (y1 : Int)) = false := decide_eq_false (by omega)
                clear h5
                go_wp2_with fail
                refine HC1.out.mono ?_; rintro r4 w4 ⟨rfl, hcu4, hf4⟩
                have S4 := Lib.hid (S.out.cur hcu4 hf4)
                clear hcu4 hf4
                go_wp2_with fail
                refine (must_bad _ _ _).mono ?_; rintro r5 w5 ⟨rfl, rfl⟩
                go_wp2
                exact ix_door _ (by decide) _ w w4 _ rfl S4.out.pl S4.out.pu S4.out.pe S4.out.be _ rfl rfl rfl
              · rw [if_neg h5] at hrun
                have h5d : decide ((5 : Int) ≤ (y1 : Int)) = true := decide_eq_true (by omega)
                obtain ⟨r1, hr1⟩ : ∃ r1, r.drop m1 = r1 := ⟨_, rfl⟩
                have hl1 : u + m1 + r1.length = bs.length := by rw [← hr1, List.length_drop]; have := HUR.out; have := HB1.out; omega
                obtain ⟨u1, hu1⟩ : ∃ u1, u + m1 = u1 := ⟨_, rfl⟩
                rw [hu1] at hl1
                rw [hr1, hu1] at hrun
                rw [hr1, hu1] at HC1
                have hlu1 : l.length + 1 ≤ u1 := by have := HLU.out; have := HB1.out; omega
                obtain ⟨⟨y2, m2, z2⟩, hnum2⟩ : ∃ p, number r1 = p := ⟨_, rfl⟩
                rw [hnum2] at hrun
                simp only at hrun
                have HN2 := Lib.hid hnum2
                have HL1 := Lib.hid hl1
                have HLU1 := Lib.hid hlu1
                clear HRN hl1 hlu1 hnum2 h5 hr1 hu1
                by_cases hz2 : z2 = 0
                · subst hz2
                  rw [if_neg (fun h => h rfl)] at hrun
                  obtain ⟨hy2, h12, hm2, _⟩ := number_back HN2.out
                  have HB2 := Lib.hid (And.intro hy2 (And.intro h12 hm2))
                  have HRN := Lib.hid hrun
                  clear hy2 h12 hm2 hrun
                  go_wp2_with fail
                  refine HC1.out.mono ?_; rintro r4 w4 ⟨rfl, hcu4, hf4⟩
                  have S4 := Lib.hid (S.out.cur hcu4 hf4)
                  clear hcu4 hf4
                  go_wp2_with fail
                  refine (must_ok _ _ _).mono ?_; rintro r5 w5 ⟨rfl, rfl⟩
                  go_wp2
                  have HC2 := Lib.hid (cnum_ok (w.heap.size + 3) w.heap.size u1 y2 m2 r1 w4.drew S4.out.cu (by have := HL1.out; have := HLEN.out; omega) HN2.out (by have := HL1.out; have := HLEN.out; have := HB2.out; omega))
                  have c4 : w4.cell? ⟨w.heap.size, 0, none⟩ = some lv := S4.out.pl.cell 0
                  refine wp_region_noPanic ?_
                  refine wp_region_any (by kernel_rfl) ?_
                  change wpAny _ _ _ _ _ _ _ (World.drew _)
                  refine wpAny_take (i := 1) rfl (by kernel_rfl) (by kernel_rfl) (by kernel_rfl) (fun _ _ _ h => h) (Or.inl ⟨by rfl, by (intro w; go_simp; try with_reducible rfl)⟩) ?_
                  refine wpAny_take (i := 2) rfl (by kernel_rfl) (by kernel_rfl) (by kernel_rfl) (fun _ _ _ h => h) (Or.inl ⟨by rfl, by (intro w; go_simp; try with_reducible rfl)⟩) ?_
                  refine wpAny_ready (rs := [0, 3]) (by kernel_rfl) (by simp) ?_
                  refine AllReady.cons rfl (fun K hK => ?_) (AllReady.cons rfl (fun K hK => ?_) AllReady.nil)
                  · go_simp
                    refine hK _ _ ?_; clear hK K
                    refine wpAny_ready (rs := [3]) (by kernel_rfl) (by simp) ?_
                    refine AllReady.cons rfl (fun K hK => ?_) AllReady.nil
                    go_simp
                    go_wp2_with (go_at_call 33; refine Calls.mono HC2.out ?_; rintro e w6 ⟨rfl, hcu6, hf6⟩; have S6 := Lib.hid (S4.out.drew.cur hcu6 hf6); have c6 : w6.cell? ⟨w.heap.size, 0, none⟩ = some lv := S6.out.pl.cell 0; have c6a : ∀ o, (w6.alloc o).cell? ⟨w.heap.size, 0, none⟩ = some lv := fun o => (S6.out.pl.alloc o).cell 0; clear hcu6 hf6)
                    refine wpAny_take (i := 4) rfl (by kernel_rfl) (by kernel_rfl) (by kernel_rfl) (fun _ _ _ h => h) (Or.inl ⟨by rfl, by (intro w; go_simp; try with_reducible rfl)⟩) ?_
                    refine wpAny_ready (rs := [5]) (by kernel_rfl) (by simp) ?_
                    refine AllReady.cons rfl (fun K hK => ?_) AllReady.nil
                    go_simp
                    refine hK _ _ ?_; clear hK K
                    refine wpAny_ready (rs := [6]) (by kernel_rfl) (by simp) ?_
                    refine AllReady.cons rfl (fun K hK => ?_) AllReady.nil
                    refine stepR_append_pr _ rfl (.tmp 35) (.tmp 40) 37 rfl 38 (w.heap.size + 4) Try.underlying37 Try.info_pair lv l rfl (S6.out.ho.alloc _) w6.heap.size 1 (y1, y2) rfl (Pts.new _ _ _) (by have := HLU1.out; have := HL1.out; have := HLEN.out; omega) (by show w.heap.size + 4 ≤ (w6.heap.push _).size; rw [Array.size_push]; have := S6.out.cu.lt.1; omega) ?_
                    intro v7 w7 hown7 hfrm7 hnew7
                    obtain ⟨A7, k7, rfl, _, _, _⟩ := hown7.slice
                    obtain ⟨s8, c7, z7⟩ := S6.out.grow _ hown7 hfrm7
                    have hll : (l ++ [(y1, y2)]).length = l.length + 1 := by simp
                    rw [hll] at s8
                    have S8 := Lib.hid s8
                    refine hK _ _ ?_
                    clear hK K s8 hown7 hfrm7 hnew7
                    refine wpAny_ready (rs := [7]) (by kernel_rfl) (by simp) ?_
                    refine AllReady.cons rfl (fun K hK => ?_) AllReady.nil
                    go_simp
                    refine hK _ _ ?_; clear hK K
                    refine wpAny_done (by kernel_rfl) ?_ _
                    refine NoPanic.normal ?_
                    go_wp2
                    exact ⟨⟨k, _, _, _, _, by go_num, by have := HNB.out; have := HK.out; omega, S8.out, HRN.out, by rw [List.length_drop]; have := HL1.out; have := HB2.out; omega, by rw [List.length_append]; have := HLU1.out; simp; omega⟩, by simp [intOf]; omega⟩
                  · go_simp
                    go_wp2_with (go_at_call 33; refine Calls.mono HC2.out ?_; rintro e w6 ⟨rfl, hcu6, hf6⟩; have S6 := Lib.hid (S4.out.drew.cur hcu6 hf6); have c6 : w6.cell? ⟨w.heap.size, 0, none⟩ = some lv := S6.out.pl.cell 0; have c6a : ∀ o, (w6.alloc o).cell? ⟨w.heap.size, 0, none⟩ = some lv := fun o => (S6.out.pl.alloc o).cell 0; clear hcu6 hf6)
                    refine wpAny_take (i := 4) rfl (by kernel_rfl) (by kernel_rfl) (by kernel_rfl) (fun _ _ _ h => h) (Or.inl ⟨by rfl, by (intro w; go_simp; try with_reducible rfl)⟩) ?_
                    refine wpAny_ready (rs := [0, 5]) (by kernel_rfl) (by simp) ?_
                    refine AllReady.cons rfl (fun K hK => ?_) (AllReady.cons rfl (fun K hK => ?_) AllReady.nil)
                    · go_simp
                      refine hK _ _ ?_; clear hK K
                      refine wpAny_ready (rs := [5]) (by kernel_rfl) (by simp) ?_
                      refine AllReady.cons rfl (fun K hK => ?_) AllReady.nil
                      go_simp
                      refine hK _ _ ?_; clear hK K
                      refine wpAny_ready (rs := [6]) (by kernel_rfl) (by simp) ?_
                      refine AllReady.cons rfl (fun K hK => ?_) AllReady.nil
                      refine stepR_append_pr _ rfl (.tmp 35) (.tmp 40) 37 rfl 38 (w.heap.size + 4) Try.underlying37 Try.info_pair lv l rfl (S6.out.ho.alloc _) w6.heap.size 1 (y1, y2) rfl (Pts.new _ _ _) (by have := HLU1.out; have := HL1.out; have := HLEN.out; omega) (by show w.heap.size + 4 ≤ (w6.heap.push _).size; rw [Array.size_push]; have := S6.out.cu.lt.1; omega) ?_
                      intro v7 w7 hown7 hfrm7 hnew7
                      obtain ⟨A7, k7, rfl, _, _, _⟩ := hown7.slice
                      obtain ⟨s8, c7, z7⟩ := S6.out.grow _ hown7 hfrm7
                      have hll : (l ++ [(y1, y2)]).length = l.length + 1 := by simp
                      rw [hll] at s8
                      have S8 := Lib.hid s8
                      refine hK _ _ ?_
                      clear hK K s8 hown7 hfrm7 hnew7
                      refine wpAny_ready (rs := [7]) (by kernel_rfl) (by simp) ?_
                      refine AllReady.cons rfl (fun K hK => ?_) AllReady.nil
                      go_simp
                      refine hK _ _ ?_; clear hK K
                      refine wpAny_done (by kernel_rfl) ?_ _
                      refine NoPanic.normal ?_
                      go_wp2
                      exact ⟨⟨k, _, _, _, _, by go_num, by have := HNB.out; have := HK.out; omega, S8.out, HRN.out, by rw [List.length_drop]; have := HL1.out; have := HB2.out; omega, by rw [List.length_append]; have := HLU1.out; simp; omega⟩, by simp [intOf]; omega⟩
                    · go_simp
                      refine hK _ _ ?_; clear hK K
                      refine wpAny_ready (rs := [0]) (by kernel_rfl) (by simp) ?_
                      refine AllReady.cons rfl (fun K hK => ?_) AllReady.nil
                      go_simp
                      refine hK _ _ ?_; clear hK K
                      refine wpAny_ready (rs := [6]) (by kernel_rfl) (by simp) ?_
                      refine AllReady.cons rfl (fun K hK => ?_) AllReady.nil
                      refine stepR_append_pr _ rfl (.tmp 35) (.tmp 40) 37 rfl 38 (w.heap.size + 4) Try.underlying37 Try.info_pair lv l rfl (S6.out.ho.alloc _) w6.heap.size 1 (y1, y2) rfl (Pts.new _ _ _) (by have := HLU1.out; have := HL1.out; have := HLEN.out; omega) (by show w.heap.size + 4 ≤ (w6.heap.push _).size; rw [Array.size_push]; have := S6.out.cu.lt.1; omega) ?_
                      intro v7 w7 hown7 hfrm7 hnew7
                      obtain ⟨A7, k7, rfl, _, _, _⟩ := hown7.slice
                      obtain ⟨s8, c7, z7⟩ := S6.out.grow _ hown7 hfrm7
                      have hll : (l ++ [(y1, y2)]).length = l.length + 1 := by simp
                      rw [hll] at s8
                      have S8 := Lib.hid s8
                      refine hK _ _ ?_
                      clear hK K s8 hown7 hfrm7 hnew7
                      refine wpAny_ready (rs := [7]) (by kernel_rfl) (by simp) ?_
                      refine AllReady.cons rfl (fun K hK => ?_) AllReady.nil
                      go_simp
                      refine hK _ _ ?_; clear hK K
                      refine wpAny_done (by kernel_rfl) ?_ _
                      refine NoPanic.normal ?_
                      go_wp2
                      exact ⟨⟨k, _, _, _, _, by go_num, by have := HNB.out; have := HK.out; omega, S8.out, HRN.out, by rw [List.length_drop]; have := HL1.out; have := HB2.out; omega, by rw [List.length_append]; have := HLU1.out; simp; omega⟩, by simp [intOf]; omega⟩
                · rw [if_pos hz2] at hrun
                  subst hrun
                  go_wp2_with fail
                  refine HC1.out.mono ?_; rintro r4 w4 ⟨rfl, hcu4, hf4⟩
                  have S4 := Lib.hid (S.out.cur hcu4 hf4)
                  clear hcu4 hf4
                  go_wp2_with fail
                  refine (must_ok _ _ _).mono ?_; rintro r5 w5 ⟨rfl, rfl⟩
                  go_wp2
                  have hb2 := number_bad (bs := r1) (by rw [HN2.out]; exact hz2)
                  rw [HN2.out] at hb2
                  have HC2 := Lib.hid (cnum_bad (w.heap.size + 3) w.heap.size u1 z2 r1 w4.drew S4.out.cu (by have := HL1.out; have := HLEN.out; omega) (HN2.out.trans hb2) hz2)
                  have c4 : w4.cell? ⟨w.heap.size, 0, none⟩ = some lv := S4.out.pl.cell 0
                  have HZ2 := Lib.hid hz2
                  clear hz2 hb2
                  refine Pan.wp_only_panic [{ v := .iface 66 (.agg #[.int .i64 z2]), recovered := false }] (fun w6 => IxAt w w6 lv l r1 u1) [.slice A bs.length c, undef, .pointer (some ⟨w.heap.size, 0, none⟩), .pointer (some ⟨w.heap.size + 1, 0, none⟩), .pointer (some ⟨w.heap.size + 2, 0, none⟩)] [caughtD (w.heap.size + 2), ixcloD w.heap.size (w.heap.size + 1) (w.heap.size + 2)] (fun a w6 hS hK => ?pan) ?reg
                  case reg =>
                    refine wp_region_any (by kernel_rfl) ?_
                    change wpAny _ _ _ _ _ _ _ (World.drew _)
                    refine wpAny_take (i := 1) rfl (by kernel_rfl) (by kernel_rfl) (by kernel_rfl) (fun _ _ _ h => ⟨h.1, h.2.1, h.2.2.unput (Nat.le_of_ble_eq_true rfl)⟩) (Or.inl ⟨by rfl, by (intro w; go_simp; try with_reducible rfl)⟩) ?_
                    refine wpAny_take (i := 2) rfl (by kernel_rfl) (by kernel_rfl) (by kernel_rfl) (fun _ _ _ h => ⟨h.1, h.2.1, h.2.2.unput (Nat.le_of_ble_eq_true rfl)⟩) (Or.inl ⟨by rfl, by (intro w; go_simp; try with_reducible rfl)⟩) ?_
                    refine wpAny_ready (rs := [0, 3]) (by kernel_rfl) (by simp) ?_
                    refine AllReady.cons rfl (fun K hK => ?_) (AllReady.cons rfl (fun K hK => ?_) AllReady.nil)
                    · go_simp
                      refine hK _ _ ?_; clear hK K
                      refine wpAny_ready (rs := [3]) (by kernel_rfl) (by simp) ?_
                      refine AllReady.cons rfl (fun K hK => ?_) AllReady.nil
                      go_simp
                      go_wp2_with (go_at_call 33; refine Calls.mono HC2.out ?_; rintro e w6 ⟨rfl, rfl⟩)
                      exact ⟨rfl, S4.out.drew, rfl, rfl⟩
                    · go_simp
                      go_wp2_with (go_at_call 33; refine Calls.mono HC2.out ?_; rintro e w6 ⟨rfl, rfl⟩)
                      exact ⟨rfl, S4.out.drew, rfl, rfl⟩
                  obtain ⟨tmps, dfs⟩ := a
                  have hd : dfs = _ := hK.2
                  subst hd
                  exact ix_door _ HZ2.out lv w w6 _ rfl hS.pl hS.pu hS.pe hS.be tmps (hK.get 2 (by simp)) (hK.get 3 (by simp)) (hK.get 4 (by simp))
            · have hrun := HRN.out
              rw [if_pos hz1] at hrun
              subst hrun
              have hb1 := number_bad (bs := r) (by rw [HN1.out]; exact hz1)
              rw [HN1.out] at hb1
              have HC1 := Lib.hid (cnum_bad (w.heap.size + 3) w.heap.size u z1 r wr S.out.cu (by have := HUR.out; have := HLEN.out; omega) (HN1.out.trans hb1) hz1)
              clear hb1
              have HZ1 := Lib.hid hz1
              clear hz1
              go_wp2_with fail
              refine HC1.out.mono ?_; rintro r4 w4 ⟨rfl, rfl⟩
              go_wp2
              exact ix_door _ HZ1.out lv w wr _ rfl S.out.pl S.out.pu S.out.pe S.out.be _ rfl rfl rfl
      · have hR := HRR.out
        rw [if_pos hz] at hR
        have hb0 := number_bad (bs := r0) (by rw [HNUM.out]; exact hz)
        rw [HNUM.out] at hb0
        have HZ := Lib.hid hz
        refine (cnum_bad (w.heap.size + 3) w.heap.size 1 z0 r0 w2 S2.out.cu (by have := HBL.out; have := HLEN.out; omega) (HNUM.out.trans hb0) hz).mono ?_; rintro r w3 ⟨rfl, rfl⟩
        subst hR
        clear hb0 hz
        go_wp2
        exact ix_door _ HZ.out _ w w2 _ rfl S2.out.pl S2.out.pu S2.out.pe S2.out.be _ rfl rfl rfl
    · rw [if_pos hb] at hRb
      subst hRb
      have hq := nat_ne (k := 0) (by decide) hb
      have hq : ((b.toNat : Int) == 0) = false := hq
      clear hb
      go_enter_defers Try.func18, Try.ntmps18
      go_wp2_with fail
      refine (take_ok (w.heap.size + 3) w.heap.size 1 0 10 bs w1 S1.out.cu (by have := HBL.out; omega) (by decide)).mono ?_; rintro r w2 ⟨A2, c2, rfl, hr2, hc2, hm2, hcu2, hf2⟩
      rw [HT1.out] at hr2
      rw [HD1.out] at hcu2
      have S2 := Lib.hid (S1.out.cur hcu2 hf2)
      obtain ⟨b0, off, rfl, hb0, hcell⟩ := hr2 (by simp)
      have k0 : w2.cell? ⟨b0, off, none⟩ = some (byteV (b)) := hcell 0 (by simp)
      unfold byteV at k0
      clear hr2 hcell hcu2 hf2 hm2
      go_wp2_with fail
      refine (must_bad _ _ _).mono ?_; rintro r w3 ⟨rfl, rfl⟩
      go_wp2
      exact ix_door _ (by decide) _ w w2 _ rfl S2.out.pl S2.out.pu S2.out.pe S2.out.be _ rfl rfl rfl
end Go.Proofs.Ytjhmebkkdgpneaa
