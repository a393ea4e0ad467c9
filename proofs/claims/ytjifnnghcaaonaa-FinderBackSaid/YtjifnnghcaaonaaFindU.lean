/- The contract of the document's own Back. -/
import Derived.Test.YtjifnnghcaaonaaFindX
namespace Go.Proofs.Ytjifnnghcaaonaa
open Go.RowKit Fnd
set_option linter.unusedVariables false
set_option linter.unusedSimpArgs false

theorem backGo_big : ∀ (l : List Sq) (out rest : List UInt8), maxC < out.length → backGo l out rest = none
  | [], out, rest, h => by rw [backGo, if_pos h]
  | s :: l, out, rest, h => by
    rw [backGo]
    by_cases h1 : Bad1 s rest.length
    · rw [if_pos h1]
    · rw [if_neg h1, if_pos]
      unfold Bad1 at h1
      unfold Bad2
      rw [List.length_append]
      omega

set_option maxRecDepth 100000 in
set_option maxHeartbeats 4000000 in
theorem refback_any (A : Option Addr) (bs : List UInt8) (n c : Nat) (fr : Int) (B : Option Addr) (l : List Sq) (m d : Nat) (w : World) (hn : n = bs.length) (hc : bs.length ≤ c) (hcm : c ≤ maxLen) (hr : BRow w w.heap.size A bs) (hlen : bs.length ≤ 1048576)
    (hm : m = l.length) (hmd : l.length ≤ d) (hl : SqRow w w.heap.size B l) (hml : l.length ≤ 140737488355328) (hfit : ∀ s ∈ l, s.fits) :
    Calls Try.prog 10 #[.slice A n c, .int .i64 fr, .slice B m d] w fun e w' => ∃ v en, e = .returned (.tuple #[v, .int .i64 en]) ∧ TaleBy w w' v en (back bs fr l) ∧ Below w.heap.size w w' := by
  subst hn; subst hm
  have HR := Lib.hid hr
  have HL := Lib.hid hl
  have HF := Lib.hid hfit
  unfold maxLen at hcm
  clear hr hl hfit
  by_cases hfr : fr < 0 ∨ (bs.length : Int) < fr
  · have hbk : back bs fr l = .arg := if_pos hfr
    have HK := Lib.hid hbk
    clear hbk
    have h3 : fr < 0 ∨ (0 ≤ fr ∧ (bs.length : Int) < fr) := by omega
    clear hfr
    rcases h3 with hfr | ⟨h0, hfr⟩
    all_goals
      go_enter Try.func10, Try.ntmps10
      go_wp2
      go_ret2
      exact ⟨_, _, rfl, by rw [HK.out]; exact ⟨rfl, rfl⟩, Below.refl _ _⟩
  · obtain ⟨f, rfl⟩ : ∃ f : Nat, fr = f := ⟨fr.toNat, by omega⟩
    have hf : f ≤ bs.length := by omega
    have hbk : back bs f l = taleGo (backGo l (bs.take f) (bs.drop f)) := by
      unfold back
      rw [if_neg hfr]
      show (match backGo l (bs.take f) (bs.drop f) with | none => Tale.malformed | some out => Tale.ok out) = _
      cases backGo l (bs.take f) (bs.drop f) <;> rfl
    have HK := Lib.hid hbk
    have htl : f = (bs.take f).length := by rw [List.length_take]; omega
    have HTL := Lib.hid htl
    clear hbk htl hfr
    obtain ⟨res, hres⟩ : ∃ res, backGo l (bs.take f) (bs.drop f) = res := ⟨_, rfl⟩
    have HRES := Lib.hid hres
    clear hres
    have hs1 := fun w => slice_to A bs.length c f hf hc w
    go_enter Try.func10, Try.ntmps10
    go_wp2_with (at_builtin; refine wpList_append_bytes _ rfl (.tmp 21) (.tmp 24) 22 rfl 5 w.heap.size Try.underlying22 Try.info_u8 (.slice none 0 0) [] rfl ?own0 A f c w.heap.size (bs.take f) rfl HTL.out ?row0 ?len0 ?base0 ?next0)
    case own0 => exact OwnB.nil _ _ _
    case row0 => exact HR.out.take f
    case len0 => simp; omega
    case base0 => exact Nat.le_refl _
    case next0 =>
    intro v1 w1 hown1 hfrm1 hnew1
    have hb1 : Below w.heap.size w w1 := hfrm1.below (Nat.le_refl _) (by intro k hk; simp [Value.ownBlock] at hk)
    have O1 := Lib.hid hown1
    have B1 := Lib.hid hb1
    clear hown1 hfrm1 hnew1 hb1 hs1
    go_wp2
    go_loopw [8, 9, 10] (fun ov av iv wr => ∃ (k a : Nat) (out : List UInt8), k ≤ l.length ∧ iv = .int .i64 k ∧ av = .int .i64 a ∧ a ≤ bs.length ∧
        OwnB wr 5 w.heap.size ov out ∧ backGo (l.drop k) out (bs.drop a) = res ∧ out.length + (bs.length - a) ≤ 17825792 ∧ Below w.heap.size w wr) (fun _ _ iv _ => l.length - (intOf iv).toNat)
    case atStart => exact ⟨0, f, bs.take f, by omega, rfl, rfl, hf, by simpa using O1.out, HRES.out, by rw [← HTL.out]; omega, B1.out⟩
    case round =>
      obtain ⟨k, a, out, hk, rfl, rfl, ha, hown, hgo, hol, hbel⟩ := hrel
      have HOWN := Lib.hid hown
      have HGO := Lib.hid hgo
      have HB := Lib.hid hbel
      have hrl : (bs.drop a).length = bs.length - a := List.length_drop
      have HRL := Lib.hid hrl
      clear hown hgo hbel hrl
      by_cases hkl : k < l.length
      · obtain ⟨b, off, hB, hb, hcell⟩ := HL.out (by omega)
        subst hB
        obtain ⟨c0, c1, c2⟩ := hcell k hkl
        obtain ⟨s, hs⟩ : ∃ s, l.getD k default = s := ⟨_, rfl⟩
        rw [hs] at c0 c1 c2
        have hdrop : l.drop k = s :: l.drop (k + 1) := by
          rw [List.drop_eq_getElem_cons hkl, ← hs]
          simp [List.getD, hkl]
        have x0 := (HB.out.cell (p := ⟨b, off + k * 3, none⟩) hb).trans c0
        have x1 := (HB.out.cell (p := ⟨b, off + k * 3 + 1, none⟩) hb).trans c1
        have x2 := (HB.out.cell (p := ⟨b, off + k * 3 + 2, none⟩) hb).trans c2
        obtain ⟨⟨s0, s1⟩, ⟨s2, s3⟩, s4, s5⟩ := HF.out s (by rw [← hs]; simp [List.getD, hkl])
        have HDR := Lib.hid hdrop
        clear hcell c0 c1 c2 hs hdrop
        obtain ⟨sl, sm, sb⟩ := s
        simp only at x0 x1 x2 s0 s1 s2 s3 s4 s5
        have hg := HGO.out
        rw [HDR.out, backGo] at hg
        clear HGO HDR
        by_cases hbad : Bad1 ⟨sl, sm, sb⟩ (bs.drop a).length
        · rw [if_pos hbad] at hg
          have HG := Lib.hid hg
          clear hg
          unfold Bad1 at hbad
          rw [HRL.out] at hbad
          simp only at hbad
          have h4 : sl < 0 ∨ (0 ≤ sl ∧ sm < 0) ∨ (0 ≤ sl ∧ 0 ≤ sm ∧ sb < 0) ∨ (0 ≤ sl ∧ 0 ≤ sm ∧ 0 ≤ sb ∧ (bs.length : Int) - a < sl) := by omega
          clear hbad
          rcases h4 with h | ⟨h, h5⟩ | ⟨h, h5, h6⟩ | ⟨h, h5, h6, h7⟩
          all_goals
            go_wp2
            go_ret2
            exact ⟨_, _, rfl, by rw [HK.out, HRES.out, ← HG.out]; exact ⟨rfl, rfl⟩, HB.out.alloc HB.out.size _⟩
        · rw [if_neg hbad] at hg
          unfold Bad1 at hbad
          rw [HRL.out] at hbad
          simp only at hbad
          obtain ⟨L, rfl⟩ : ∃ L : Nat, sl = L := ⟨sl.toNat, by omega⟩
          obtain ⟨M, rfl⟩ : ∃ M : Nat, sm = M := ⟨sm.toNat, by omega⟩
          obtain ⟨K, rfl⟩ : ∃ K : Nat, sb = K := ⟨sb.toNat, by omega⟩
          have hL : a + L ≤ bs.length := by omega
          have hL2 : (L : Int) ≤ (bs.length : Int) - a := by omega
          clear hbad
          simp only [Int.toNat_natCast, List.drop_drop] at hg
          have HG := Lib.hid hg
          clear hg
          obtain ⟨Ao, co, rfl, hco, hmo, hro⟩ := HOWN.out.slice
          have hLt : L = ((bs.drop a).take L).length := by rw [List.length_take, List.length_drop]; omega
          have HLT := Lib.hid hLt
          have hsl2 := fun w => slice_mid A bs.length c a L hL hc w
          have ROW := Lib.hid ((HR.out.drop (k := a) (cap := c) hc).take L)
          obtain ⟨Ad, had⟩ : ∃ Ad, (if c = a then A else A.map (·.add a)) = Ad := ⟨_, rfl⟩
          rw [had] at hsl2 ROW
          clear hLt had hro hco hmo
          go_wp2_with (at_builtin; refine wpList_append_bytes _ rfl (.tmp 59) (.tmp 66) 22 rfl 5 w.heap.size Try.underlying22 Try.info_u8 (.slice Ao out.length co) out rfl ?own1 Ad L (c - a) w.heap.size ((bs.drop a).take L) rfl HLT.out ?row1 ?len1 ?base1 ?next1)
          case own1 => exact HOWN.out.alloc _
          case row1 => exact ROW.out.below (HB.out.alloc HB.out.size _)
          case len1 => rw [← HLT.out]; omega
          case base1 => have := HB.out.size; simp; omega
          case next1 =>
            intro v2 w2 hown2 hfrm2 hnew2
            obtain ⟨A2, c2, rfl, hc2, hm2, hr2⟩ := hown2.slice
            have hp2 : Pts w2 wr.heap.size #[.int .i64 (L : Int), .int .i64 (M : Int), .int .i64 (K : Int)] 25 := (Pts.new wr _ _).frm hfrm2 (fun e => by have := (HOWN.out.lt e).2; omega)
            have hb2 : Below w.heap.size w w2 := (HB.out.alloc HB.out.size _).trans (hfrm2.below (B := w.heap.size) (HB.out.alloc HB.out.size _).size (fun q hq => (HOWN.out.lt hq).1))
            have y0 : w2.cell? ⟨wr.heap.size, 0, none⟩ = some (.int .i64 (L : Int)) := by rw [hp2.cell]; rfl
            have y1 : w2.cell? ⟨wr.heap.size, 1, none⟩ = some (.int .i64 (M : Int)) := by rw [hp2.cell]; rfl
            have y2 : w2.cell? ⟨wr.heap.size, 2, none⟩ = some (.int .i64 (K : Int)) := by rw [hp2.cell]; rfl
            have hol1 : (out ++ (bs.drop a).take L).length = out.length + L := by rw [List.length_append, ← HLT.out]
            have P2 := Lib.hid hp2
            have B2 := Lib.hid hb2
            have O2 := Lib.hid hown2
            have hg := HG.out
            generalize out ++ (bs.drop a).take L = o1 at *
            clear hown2 hfrm2 hnew2 hc2 hm2 hr2 hp2 hb2 HG hsl2
            have HO1 := Lib.hid hol1
            have hlt1 : o1.length ≤ 34603008 := by omega
            clear hol1 x0 x1 x2
            by_cases hM : 0 < M
            · have m0 : ((M : Int) == 0) = false := beq_eq_false_iff_ne.2 (by omega)
              by_cases hbad2 : Bad2 ⟨(L : Int), (M : Int), (K : Int)⟩ o1.length
              · rw [if_pos hbad2] at hg
                have HG2 := Lib.hid hg
                clear hg
                unfold Bad2 maxC at hbad2
                simp only at hbad2
                have h4 : (K : Int) = 0 ∨ (¬ (K : Int) = 0 ∧ (o1.length : Int) < K) ∨ (¬ (K : Int) = 0 ∧ (K : Int) ≤ o1.length ∧ (16777216 : Int) - o1.length < M) := by omega
                clear hbad2
                rcases h4 with h | ⟨h, h5⟩ | ⟨h, h5, h6⟩
                · have q0 : ((K : Int) == 0) = true := beq_iff_eq.2 h
                  go_wp2
                  go_ret2
                  exact ⟨_, _, rfl, by rw [HK.out, HRES.out, ← HG2.out]; exact ⟨rfl, rfl⟩, B2.out⟩
                · have q0 : ((K : Int) == 0) = false := beq_eq_false_iff_ne.2 h
                  go_wp2
                  go_ret2
                  exact ⟨_, _, rfl, by rw [HK.out, HRES.out, ← HG2.out]; exact ⟨rfl, rfl⟩, B2.out⟩
                · have q0 : ((K : Int) == 0) = false := beq_eq_false_iff_ne.2 h
                  go_wp2
                  go_ret2
                  exact ⟨_, _, rfl, by rw [HK.out, HRES.out, ← HG2.out]; exact ⟨rfl, rfl⟩, B2.out⟩
              · rw [if_neg hbad2] at hg
                have HG2 := Lib.hid hg
                clear hg
                unfold Bad2 maxC at hbad2
                simp only at hbad2
                have q0 : ((K : Int) == 0) = false := beq_eq_false_iff_ne.2 (by omega)
                have h5 : (K : Int) ≤ o1.length := by omega
                have h6 : (M : Int) ≤ (16777216 : Int) - o1.length := by omega
                have hK0 : 1 ≤ K := by omega
                have q1 : decide (o1.length < K) = false := decide_eq_false (by omega)
                have q2 : decide ((16777216 : Int) - o1.length < M) = false := decide_eq_false (by omega)
                clear hbad2
                go_wp2
                obtain ⟨wo, rfl⟩ : ∃ wo : World, wo = wr := ⟨_, rfl⟩
                go_loopw [8, 12] (fun ov iv wq => ∃ (t : Nat) (o2 : List UInt8), t ≤ M ∧ iv = .int .i64 t ∧ OwnB wq 5 w.heap.size ov o2 ∧ copyBack K (M - t) o2 = copyBack K M o1 ∧ o2.length = o1.length + t ∧
                    Pts wq wo.heap.size #[.int .i64 (L : Int), .int .i64 (M : Int), .int .i64 (K : Int)] 25 ∧ Below w.heap.size w wq) (fun _ iv _ => M - (intOf iv).toNat)
                case atStart => exact ⟨0, o1, by omega, rfl, O2.out, rfl, rfl, P2.out, B2.out⟩
                case round =>
                  obtain ⟨t, o2, ht, rfl, hw2, hcb, hl2, hp2, hb2⟩ := hrel
                  by_cases htM : t < M
                  · rcases hw2.form with ⟨_, hnil⟩ | ⟨g, cap, cur, rfl, hbg, hp, hn1, hn2, hcs, hcc⟩
                    · rw [hnil] at hl2
                      have h0 : o1.length = 0 := by simp at hl2; omega
                      omega
                    · have kg : wr.cell? ⟨g, o2.length - K, none⟩ = some (.int .u8 ((o2.getD (o2.length - K) 0).toNat : Int)) := by rw [hp.cell, hcc _ (by omega)]; rfl
                      have z1 : wr.cell? ⟨wo.heap.size, 1, none⟩ = some (.int .i64 (M : Int)) := by rw [hp2.cell]; rfl
                      have z2 : wr.cell? ⟨wo.heap.size, 2, none⟩ = some (.int .i64 (K : Int)) := by rw [hp2.cell]; rfl
                      have hgne : g ≠ wo.heap.size := by
                        rintro rfl
                        have e := hp.symm.trans hp2
                        simp at e
                      have HGN := Lib.hid hgne
                      clear hgne
                      have HCB := Lib.hid hcb
                      have HW2 := Lib.hid hw2
                      have HL2 := Lib.hid hl2
                      have HP2 := Lib.hid hp2
                      have HB2 := Lib.hid hb2
                      have hk1 : K ≤ o2.length := by omega
                      have hk3 : o2.length ≤ 140737488355320 := by omega
                      clear hcb hw2 hl2 hp2 hb2 hcc hcs hp hn1 hn2
                      go_wp2_with (at_builtin; refine wpList_append_bytes _ rfl (.tmp 99) (.tmp 108) 22 rfl 5 w.heap.size Try.underlying22 Try.info_u8 (.slice (some ⟨g, 0, none⟩) o2.length cap) o2 rfl ?own2 (some ⟨wr.heap.size, 0, none⟩) 1 1 (wr.heap.size + 1) [o2.getD (o2.length - K) 0] rfl rfl ?row2 ?len2 ?base2 ?next2)
                      case own2 => exact HW2.out.alloc _
                      case row2 => intro _; exact ⟨wr.heap.size, 0, rfl, by simp, fun j hj => by
                          obtain rfl : j = 0 := by simpa using hj
                          rw [(Pts.new wr _ _).cell]; simp [byteV]⟩
                      case len2 => simp; omega
                      case base2 => have := HB2.out.size; simp; omega
                      case next2 =>
                        intro v3 w3 hown3 hfrm3 hnew3
                        have hp3 := (HP2.out.alloc (.cells #[.int .u8 ((o2.getD (o2.length - K) 0).toNat : Int)] 5)).frm hfrm3 (fun e => by simp [Value.ownBlock] at e; exact HGN.out e)
                        have hb3 : Below w.heap.size w w3 := (HB2.out.alloc HB2.out.size _).trans (hfrm3.below (B := w.heap.size) (HB2.out.alloc HB2.out.size _).size (fun q hq => (HW2.out.lt hq).1))
                        have P3 := Lib.hid hp3
                        have B3 := Lib.hid hb3
                        have O3 := Lib.hid hown3
                        clear hown3 hfrm3 hnew3 hp3 hb3
                        go_wp2
                        exact ⟨⟨t + 1, _, by omega, by go_num, O3.out, by rw [← HCB.out, show M - t = (M - (t + 1)) + 1 by omega]; rfl, by have := HL2.out; simp; omega, P3.out, B3.out⟩, by simp [intOf]; omega⟩
                  · obtain rfl : t = M := by omega
                    have z1 : wr.cell? ⟨wo.heap.size, 1, none⟩ = some (.int .i64 (t : Int)) := by rw [hp2.cell]; rfl
                    rw [Nat.sub_self, copyBack] at hcb
                    subst hcb
                    have HW2 := Lib.hid hw2
                    have HL2 := Lib.hid hl2
                    have HB2 := Lib.hid hb2
                    clear hw2 hl2 hp2 hb2
                    go_wp2
                    exact ⟨⟨k + 1, a + L, _, hkl, by go_num, by go_num, hL, HW2.out, HG2.out, by have := HL2.out; have := HO1.out; omega, HB2.out⟩, by simp [intOf]; omega⟩
            · have hM0 : M = 0 := by omega
              subst hM0
              have hg2 : backGo (l.drop (k + 1)) o1 (bs.drop (a + L)) = res := by
                by_cases hbad2 : Bad2 ⟨(L : Int), ((0 : Nat) : Int), (K : Int)⟩ o1.length
                · rw [if_pos hbad2] at hg
                  rw [← hg]
                  unfold Bad2 at hbad2
                  simp only at hbad2
                  exact backGo_big _ _ _ (by omega)
                · rw [if_neg hbad2] at hg
                  exact hg
              have HG2 := Lib.hid hg2
              clear hg hg2
              go_wp2
              exact ⟨⟨k + 1, a + L, o1, hkl, by go_num, by go_num, hL, O2.out, HG2.out, by have := HO1.out; omega, B2.out⟩, by simp [intOf]; omega⟩
      · have hkk : k = l.length := by omega
        subst hkk
        have hg := HGO.out
        rw [List.drop_eq_nil_of_le (Nat.le_refl _), backGo] at hg
        clear HGO
        obtain ⟨Ao, co, rfl, hco, hmo, hro⟩ := HOWN.out.slice
        clear hco hmo hro
        by_cases hbig : 16777216 < out.length
        · rw [if_pos (by unfold maxC; omega)] at hg
          have HG := Lib.hid hg
          clear hg
          go_wp2
          go_ret2
          exact ⟨_, _, rfl, by rw [HK.out, HRES.out, ← HG.out]; exact ⟨rfl, rfl⟩, HB.out⟩
        · rw [if_neg (by unfold maxC; omega)] at hg
          have HG := Lib.hid hg
          clear hg
          go_wp2
          go_ret2
          exact ⟨_, _, rfl, by rw [HK.out, HRES.out, ← HG.out]; exact ⟨HOWN.out, rfl⟩, HB.out⟩
end Go.Proofs.Ytjifnnghcaaonaa
