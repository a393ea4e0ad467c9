/- The contracts of Back. -/
import Derived.Test.YtjifnnghcaaonaaChecked
import Derived.Test.YtjifnnghcaaonaaFindP
import Derived.Test.YtjifnnghcaaonaaQTail
import Derived.WalkKit
import Derived.Lib.Hide
import Derived.BigQuiet
import Derived.Deep.QuietTactic
import Derived.RegionTactic
import Derived.StillTailTactics
import Derived.OwnWalk
import Derived.Lib.SliceRun
namespace Go.Proofs.Ytjifnnghcaaonaa
open Go.RowKit Fnd
set_option linter.unusedVariables false
set_option linter.unusedSimpArgs false

theorem Try.info_u8 : (Try.prog.info? 5).map (fun i => (i.zero, i.size, i.bytes)) = some (some (.int .u8 0), 1, 1) := by kernel_rfl

theorem slice_from (A : Option Addr) (n c f : Nat) (hf : f ≤ n) (hn : n ≤ c) (w : World) :
    (Instr.sliceAt 22 (.slice A n c) (some (.int .i64 (f : Int))) none none).run Try.prog w = .ok (.slice (if c = f then A else A.map (·.add f)) (n - f) (c - f)) w := by
  by_cases hcf : c = f
  · simp [go_sem, hcf]
    intro h; omega
  · simp [go_sem, hcf]
    intro h; omega

theorem clone_any (A : Option Addr) (bs : List UInt8) (n c : Nat) (w : World) (hn : n = bs.length) (hr : BRow w w.heap.size A bs) (hlen : bs.length ≤ 140737488355328) :
    Calls Try.prog 15 #[.slice A n c] w fun e w' => ∃ v, e = .returned v ∧ OwnB w' 5 w.heap.size v bs ∧ Below w.heap.size w w' := by
  subst hn
  have HR := Lib.hid hr
  clear hr
  have hq := fun (x : Option Addr) (n c : Nat) (w : World) => Lib.run_eql_slice_nil (P := Try.prog) w 22 5 x n c 0 0 Try.underlying22
  cases A with
  | none =>
    have hb : bs = [] := by
      cases bs with
      | nil => rfl
      | cons x l => obtain ⟨b, off, e, _⟩ := HR.out (by simp); cases e
    subst hb
    go_enter Try.func15, Try.ntmps15
    go_wp2
    go_ret
    exact ⟨_, rfl, OwnB.nil _ _ _, Below.refl _ _⟩
  | some ad =>
    go_enter Try.func15, Try.ntmps15
    go_wp2_with (at_builtin; refine wpList_append_bytes _ rfl (.tmp 5) (.tmp 6) 22 rfl 5 w.heap.size Try.underlying22 Try.info_u8 (.slice (some ⟨w.heap.size, 0, none⟩) 0 0) [] rfl ?own (some ad) bs.length c w.heap.size bs rfl rfl ?row ?len ?base ?k)
    case own => exact OwnB.made _ _ _ (Nat.le_refl _)
    case row => exact HR.out.below ((Below.refl _ _).alloc (Nat.le_refl _) _)
    case len => simp; omega
    case base => simp
    case k =>
      intro v w1 hown hfrm hnew
      have hb1 : Below w.heap.size w w1 := ((Below.refl _ _).alloc (Nat.le_refl _) _).trans (hfrm.below (by simp) (by intro k hk; simp [Value.ownBlock] at hk; omega))
      have HO := Lib.hid hown
      have HB := Lib.hid hb1
      clear hown hfrm hnew hb1
      go_wp2
      go_ret
      exact ⟨_, rfl, HO.out, HB.out⟩

/-- What Back hands back. -/
def TaleBy (w w' : World) (v : Value) (en : Int) : Tale → Prop
  | .arg => v = .slice none 0 0 ∧ en = 2
  | .malformed => v = .slice none 0 0 ∧ en = 11
  | .ok out => OwnB w' 5 w.heap.size v out ∧ en = 0
def taleGo : Option (List UInt8) → Tale
  | none => .malformed
  | some out => .ok out

set_option maxRecDepth 100000 in
set_option maxHeartbeats 4000000 in
theorem back_any (A : Option Addr) (bs : List UInt8) (n c : Nat) (fr : Int) (B : Option Addr) (l : List Sq) (m d : Nat) (w : World) (hn : n = bs.length) (hc : bs.length ≤ c) (hcm : c ≤ maxLen) (hr : BRow w w.heap.size A bs) (hlen : bs.length ≤ 1048576)
    (hm : m = l.length) (hmd : l.length ≤ d) (hl : SqRow w w.heap.size B l) (hml : l.length ≤ 140737488355328) (hfit : ∀ s ∈ l, s.fits) :
    Calls Try.prog 9 #[.slice A n c, .int .i64 fr, .slice B m d] w fun e w' => ∃ v en, e = .returned (.tuple #[v, .int .i64 en]) ∧ TaleBy w w' v en (back bs fr l) ∧ Below w.heap.size w w' := by
  subst hn; subst hm
  have HR := Lib.hid hr
  have HL := Lib.hid hl
  have HF := Lib.hid hfit
  unfold maxLen at hcm
  clear hr hl hfit
  by_cases hfr : fr < 0 ∨ (bs.length : Int) < fr
  · have hbk : back bs fr l = .arg := if_pos hfr
    have HK := Lib.hid hbk
    clear hbk
    rcases hfr with hfr | hfr
    · go_enter Try.func9, Try.ntmps9
      go_wp2
      go_ret2
      exact ⟨_, _, rfl, by rw [HK.out]; exact ⟨rfl, rfl⟩, Below.refl _ _⟩
    · have h0 : 0 ≤ fr := by omega
      go_enter Try.func9, Try.ntmps9
      go_wp2
      go_ret2
      exact ⟨_, _, rfl, by rw [HK.out]; exact ⟨rfl, rfl⟩, Below.refl _ _⟩
  · obtain ⟨f, rfl⟩ : ∃ f : Nat, fr = f := ⟨fr.toNat, by omega⟩
    have hf : f ≤ bs.length := by omega
    have hbk : back bs f l = taleGo (backGo l (bs.take f) (bs.drop f)) := by
      unfold back
      rw [if_neg hfr]
      show (match backGo l (bs.take f) (bs.drop f) with | none => Tale.malformed | some out => Tale.ok out) = _
      cases backGo l (bs.take f) (bs.drop f) <;> rfl
    have HK := Lib.hid hbk
    have htl : f = (bs.take f).length := by rw [List.length_take]; omega
    have hdl : (bs.drop f).length = bs.length - f := List.length_drop
    have HTL := Lib.hid htl
    have HDL := Lib.hid hdl
    clear hbk htl hdl hfr
    have HT := Lib.hid (HR.out.take f)
    have HD := Lib.hid (HR.out.drop (k := f) (cap := c) hc)
    obtain ⟨res, hres⟩ : ∃ res, backGo l (bs.take f) (bs.drop f) = res := ⟨_, rfl⟩
    have HRES := Lib.hid hres
    clear hres
    have hfc : (f : Int) ≤ c := by omega
    have hsl := fun w => slice_from A bs.length c f hf hc w
    generalize (if c = f then A else A.map (·.add f)) = Ar at *
    · go_enter Try.func9, Try.ntmps9
      go_wp2_with fail
      refine (clone_any A (bs.take f) _ c w HTL.out HT.out (by rw [← HTL.out]; omega)).mono ?_; rintro e w1 ⟨v, rfl, h1, h2⟩
      have H1 := Lib.hid h1
      have H2 := Lib.hid h2
      clear h1 h2
      go_wp2_with fail
      clear hsl
      go_loopw [0, 8, 28] (fun bv ov iv wr => ∃ (k : Nat) (out rest : List UInt8) (Aq : Option Addr) (cq : Nat), k ≤ l.length ∧ iv = .int .i64 k ∧ bv = .slice Aq rest.length cq ∧ rest.length ≤ cq ∧ cq ≤ 9223372036854775807 ∧ BRow w w.heap.size Aq rest ∧
          OwnB wr 5 w.heap.size ov out ∧ backGo (l.drop k) out rest = res ∧ rest.length ≤ 1048576 ∧ out.length + rest.length ≤ 17825792 ∧ Below w.heap.size w wr) (fun _ _ iv _ => l.length - (intOf iv).toNat)
      case atStart => exact ⟨0, bs.take f, bs.drop f, Ar, c - f, by omega, rfl, by rw [HDL.out], by rw [HDL.out]; omega, by omega, HD.out, H1.out, HRES.out, by rw [HDL.out]; omega, by rw [HDL.out, ← HTL.out]; omega, H2.out⟩
      case round =>
        obtain ⟨k, out, rest, Aq, cq, hk, rfl, rfl, hq1, hq2, hrow, hown, hgo, hrl, hol, hbel⟩ := hrel
        have HROW := Lib.hid hrow
        have HOWN := Lib.hid hown
        have HGO := Lib.hid hgo
        have HB := Lib.hid hbel
        clear hrow hown hgo hbel
        by_cases hkl : k < l.length
        · obtain ⟨b, off, hB, hb, hcell⟩ := HL.out (by omega)
          subst hB
          obtain ⟨c0, c1, c2⟩ := hcell k hkl
          have hs : ∃ s, l.getD k default = s := ⟨_, rfl⟩
          obtain ⟨s, hs⟩ := hs
          rw [hs] at c0 c1 c2
          have hdrop : l.drop k = s :: l.drop (k + 1) := by
            rw [List.drop_eq_getElem_cons hkl, ← hs]
            simp [List.getD, hkl]
          have x0 := (HB.out.cell (p := ⟨b, off + k * 3, none⟩) hb).trans c0
          have x1 := (HB.out.cell (p := ⟨b, off + k * 3 + 1, none⟩) hb).trans c1
          have x2 := (HB.out.cell (p := ⟨b, off + k * 3 + 2, none⟩) hb).trans c2
          obtain ⟨⟨s0, s1⟩, ⟨s2, s3⟩, s4, s5⟩ := HF.out s (by rw [← hs]; simp [List.getD, hkl])
          have HDR := Lib.hid hdrop
          clear hcell c0 c1 c2 hs hdrop
          obtain ⟨sl, sm, sb⟩ := s
          simp only at x0 x1 x2 s0 s1 s2 s3 s4 s5
          obtain ⟨mn, hmn⟩ : ∃ mn, min sl (min sm sb) = mn := ⟨_, rfl⟩
          have hmin := fun w => min3_int (P := Try.prog) #[3, 3, 3] 3 sl sm sb mn hmn w
          have hg := HGO.out
          rw [HDR.out, backGo] at hg
          clear HGO HDR
          by_cases hneg : mn < 0
          · rw [if_pos (by show Bad1 _ _; unfold Bad1; simp only; omega)] at hg
            have HG := Lib.hid hg
            clear hg hmn
            go_wp2
            go_ret2
            exact ⟨_, _, rfl, by rw [HK.out, HRES.out, ← HG.out]; exact ⟨rfl, rfl⟩, HB.out.alloc HB.out.size _⟩
          · by_cases hlong : (rest.length : Int) < sl
            · rw [if_pos (by show Bad1 _ _; unfold Bad1; simp only; omega)] at hg
              have HG := Lib.hid hg
              clear hg hmn
              have h0 : 0 ≤ mn := by omega
              go_wp2
              go_ret2
              exact ⟨_, _, rfl, by rw [HK.out, HRES.out, ← HG.out]; exact ⟨rfl, rfl⟩, HB.out.alloc HB.out.size _⟩
            · rw [if_neg (by show ¬ Bad1 _ _; unfold Bad1; simp only; omega)] at hg
              obtain ⟨L, rfl⟩ : ∃ L : Nat, sl = L := ⟨sl.toNat, by omega⟩
              obtain ⟨M, rfl⟩ : ∃ M : Nat, sm = M := ⟨sm.toNat, by omega⟩
              obtain ⟨K, rfl⟩ : ∃ K : Nat, sb = K := ⟨sb.toNat, by omega⟩
              clear hmn
              have h0 : 0 ≤ mn := by omega
              have hL : L ≤ rest.length := by omega
              simp only [Int.toNat_natCast] at hg
              have HG := Lib.hid hg
              clear hg
              obtain ⟨Ao, co, rfl, hco, hmo, hro⟩ := HOWN.out.slice
              have hLt : L = (rest.take L).length := by rw [List.length_take]; omega
              have HLT := Lib.hid hLt
              have hsl2 := fun w => slice_from Aq rest.length cq L hL hq1 w
              have HROW2 := Lib.hid (HROW.out.drop (k := L) (cap := cq) hq1)
              have hgen : ∃ Ad, (if cq = L then Aq else Aq.map (·.add L)) = Ad := ⟨_, rfl⟩
              obtain ⟨Ad, had⟩ := hgen
              rw [had] at hsl2 HROW2
              have hLc : (L : Int) ≤ cq := by omega
              clear hLt had hro hco hmo
              go_wp2_with (at_builtin; refine wpList_append_bytes _ rfl (.tmp 47) (.tmp 51) 22 rfl 5 w.heap.size Try.underlying22 Try.info_u8 (.slice Ao out.length co) out rfl ?own1 Aq L cq w.heap.size (rest.take L) rfl HLT.out ?row1 ?len1 ?base1 ?next1)
              case own1 => exact HOWN.out.alloc _
              case row1 => exact (HROW.out.take L).below (HB.out.alloc HB.out.size _)
              case len1 => omega
              case base1 => have := HB.out.size; simp; omega
              case next1 =>
                intro v2 w2 hown2 hfrm2 hnew2
                obtain ⟨A2, c2, rfl, hc2, hm2, hr2⟩ := hown2.slice
                have hp2 : Pts w2 wr.heap.size #[.int .i64 (L : Int), .int .i64 (M : Int), .int .i64 (K : Int)] 25 := (Pts.new wr _ _).frm hfrm2 (fun e => by have := (HOWN.out.lt e).2; omega)
                have hb2 : Below w.heap.size w w2 := (HB.out.alloc HB.out.size _).trans (hfrm2.below (B := w.heap.size) (HB.out.alloc HB.out.size _).size (fun q hq => (HOWN.out.lt hq).1))
                have y0 : w2.cell? ⟨wr.heap.size, 0, none⟩ = some (.int .i64 (L : Int)) := by rw [hp2.cell]; rfl
                have y1 : w2.cell? ⟨wr.heap.size, 1, none⟩ = some (.int .i64 (M : Int)) := by rw [hp2.cell]; rfl
                have y2 : w2.cell? ⟨wr.heap.size, 2, none⟩ = some (.int .i64 (K : Int)) := by rw [hp2.cell]; rfl
                have hol1 : (out ++ rest.take L).length = out.length + L := by rw [List.length_append, ← HLT.out]
                have P2 := Lib.hid hp2
                have B2 := Lib.hid hb2
                have O2 := Lib.hid hown2
                have hg := HG.out
                generalize out ++ rest.take L = o1 at *
                clear hown2 hfrm2 hnew2 hc2 hm2 hr2 hp2 hb2 HG
                have HO1 := Lib.hid hol1
                have hlt1 : o1.length ≤ 34603008 := by omega
                clear hol1 x0 x1 x2 hmin
                by_cases hM : 0 < M
                · by_cases hK0 : K = 0
                  · rw [if_pos (by show Bad2 _ _; unfold Bad2 maxC; simp only; omega)] at hg
                    have HG2 := Lib.hid hg
                    clear hg
                    have q0 : ((K : Int) == 0) = true := beq_iff_eq.2 (by omega)
                    go_wp2
                    go_ret2
                    exact ⟨_, _, rfl, by rw [HK.out, HRES.out, ← HG2.out]; exact ⟨rfl, rfl⟩, B2.out⟩
                  · have q0 : ((K : Int) == 0) = false := beq_eq_false_iff_ne.2 (by omega)
                    by_cases hKl : o1.length < K
                    · rw [if_pos (by show Bad2 _ _; unfold Bad2 maxC; simp only; omega)] at hg
                      have HG2 := Lib.hid hg
                      clear hg
                      go_wp2
                      go_ret2
                      exact ⟨_, _, rfl, by rw [HK.out, HRES.out, ← HG2.out]; exact ⟨rfl, rfl⟩, B2.out⟩
                    · by_cases hmx : (16777216 : Int) - o1.length < M
                      · rw [if_pos (by show Bad2 _ _; unfold Bad2 maxC; simp only; omega)] at hg
                        have HG2 := Lib.hid hg
                        clear hg
                        go_wp2
                        go_ret2
                        exact ⟨_, _, rfl, by rw [HK.out, HRES.out, ← HG2.out]; exact ⟨rfl, rfl⟩, B2.out⟩
                      · rw [if_neg (by show ¬ Bad2 _ _; unfold Bad2 maxC; simp only; omega)] at hg
                        have HG2 := Lib.hid hg
                        clear hg
                        go_wp2_with fail
                        clear hsl2
                        obtain ⟨wo, rfl⟩ : ∃ wo : World, wo = wr := ⟨_, rfl⟩
                        go_loopw [8, 82] (fun ov iv wq => ∃ (t : Nat) (o2 : List UInt8), t ≤ M ∧ iv = .int .i64 t ∧ OwnB wq 5 w.heap.size ov o2 ∧ copyBack K (M - t) o2 = copyBack K M o1 ∧ o2.length = o1.length + t ∧
                            Pts wq wo.heap.size #[.int .i64 (L : Int), .int .i64 (M : Int), .int .i64 (K : Int)] 25 ∧ Below w.heap.size w wq) (fun _ iv _ => M - (intOf iv).toNat)
                        case atStart => exact ⟨0, o1, by omega, rfl, O2.out, rfl, rfl, P2.out, B2.out⟩
                        case round =>
                          obtain ⟨t, o2, ht, rfl, hw2, hcb, hl2, hp2, hb2⟩ := hrel
                          by_cases htM : t < M
                          · rcases hw2.form with ⟨_, hnil⟩ | ⟨g, cap, cur, rfl, hbg, hp, hn1, hn2, hcs, hcc⟩
                            · rw [hnil] at hl2
                              have h0 : o1.length = 0 := by simp at hl2; omega
                              omega
                            · have kg : wr.cell? ⟨g, o2.length - K, none⟩ = some (.int .u8 ((o2.getD (o2.length - K) 0).toNat : Int)) := by rw [hp.cell, hcc _ (by omega)]; rfl
                              have z2 : wr.cell? ⟨wo.heap.size, 2, none⟩ = some (.int .i64 (K : Int)) := by rw [hp2.cell]; rfl
                              have hgne : g ≠ wo.heap.size := by
                                rintro rfl
                                have e := hp.symm.trans hp2
                                simp at e
                              have HGN := Lib.hid hgne
                              clear hgne
                              have HCB := Lib.hid hcb
                              have HW2 := Lib.hid hw2
                              have HL2 := Lib.hid hl2
                              have HP2 := Lib.hid hp2
                              have HB2 := Lib.hid hb2
                              have hk1 : K ≤ o2.length := by omega
                              have hk3 : o2.length ≤ 140737488355320 := by omega
                              clear hcb hw2 hl2 hp2 hb2 hcc hcs hp hn1 hn2
                              go_wp2_with (at_builtin; refine wpList_append_bytes _ rfl (.tmp 84) (.tmp 93) 22 rfl 5 w.heap.size Try.underlying22 Try.info_u8 (.slice (some ⟨g, 0, none⟩) o2.length cap) o2 rfl ?own2 (some ⟨wr.heap.size, 0, none⟩) 1 1 (wr.heap.size + 1) [o2.getD (o2.length - K) 0] rfl rfl ?row2 ?len2 ?base2 ?next2)
                              case own2 => exact HW2.out.alloc _
                              case row2 => intro _; exact ⟨wr.heap.size, 0, rfl, by simp, fun j hj => by
                                  obtain rfl : j = 0 := by simpa using hj
                                  rw [(Pts.new wr _ _).cell]; simp [byteV]⟩
                              case len2 => simp; omega
                              case base2 => have := HB2.out.size; simp; omega
                              case next2 =>
                                intro v3 w3 hown3 hfrm3 hnew3
                                have hp3 := (HP2.out.alloc (.cells #[.int .u8 ((o2.getD (o2.length - K) 0).toNat : Int)] 5)).frm hfrm3 (fun e => by simp [Value.ownBlock] at e; exact HGN.out e)
                                have hb3 : Below w.heap.size w w3 := (HB2.out.alloc HB2.out.size _).trans (hfrm3.below (B := w.heap.size) (HB2.out.alloc HB2.out.size _).size (fun q hq => (HW2.out.lt hq).1))
                                have P3 := Lib.hid hp3
                                have B3 := Lib.hid hb3
                                have O3 := Lib.hid hown3
                                clear hown3 hfrm3 hnew3 hp3 hb3
                                go_wp2
                                exact ⟨⟨t + 1, _, by omega, by go_num, O3.out, by rw [← HCB.out, show M - t = (M - (t + 1)) + 1 by omega]; rfl, by have := HL2.out; simp; omega, P3.out, B3.out⟩, by simp [intOf]; omega⟩
                          · obtain rfl : t = M := by omega
                            rw [Nat.sub_self, copyBack] at hcb
                            subst hcb
                            have HW2 := Lib.hid hw2
                            have HL2 := Lib.hid hl2
                            have HB2 := Lib.hid hb2
                            clear hw2 hl2 hp2 hb2
                            go_wp2
                            have hdl := List.length_drop (i := L) (l := rest)
                            exact ⟨⟨k + 1, _, rest.drop L, Ad, cq - L, hkl, by go_num, by rw [hdl], by rw [hdl]; omega, by omega, HROW2.out, HW2.out, HG2.out, by rw [hdl]; omega, by have := HL2.out; have := HO1.out; rw [hdl]; omega, HB2.out⟩, by simp [intOf]; omega⟩
                · by_cases hmx : (16777216 : Int) - o1.length < M
                  · rw [if_pos (by show Bad2 _ _; unfold Bad2 maxC; simp only; omega)] at hg
                    have HG2 := Lib.hid hg
                    clear hg
                    go_wp2
                    go_ret2
                    exact ⟨_, _, rfl, by rw [HK.out, HRES.out, ← HG2.out]; exact ⟨rfl, rfl⟩, B2.out⟩
                  · rw [if_neg (by show ¬ Bad2 _ _; unfold Bad2 maxC; simp only; omega)] at hg
                    have HG2 := Lib.hid hg
                    clear hg
                    go_wp2_with fail
                    clear hsl2
                    obtain ⟨wo, rfl⟩ : ∃ wo : World, wo = wr := ⟨_, rfl⟩
                    go_loopw [8, 82] (fun ov iv wq => ∃ (t : Nat) (o2 : List UInt8), t ≤ M ∧ iv = .int .i64 t ∧ OwnB wq 5 w.heap.size ov o2 ∧ copyBack K (M - t) o2 = copyBack K M o1 ∧ o2.length = o1.length + t ∧
                        Pts wq wo.heap.size #[.int .i64 (L : Int), .int .i64 (M : Int), .int .i64 (K : Int)] 25 ∧ Below w.heap.size w wq) (fun _ iv _ => M - (intOf iv).toNat)
                    case atStart => exact ⟨0, o1, by omega, rfl, O2.out, rfl, rfl, P2.out, B2.out⟩
                    case round =>
                      obtain ⟨t, o2, ht, rfl, hw2, hcb, hl2, hp2, hb2⟩ := hrel
                      by_cases htM : t < M
                      · omega
                      · obtain rfl : t = M := by omega
                        rw [Nat.sub_self, copyBack] at hcb
                        subst hcb
                        have HW2 := Lib.hid hw2
                        have HL2 := Lib.hid hl2
                        have HB2 := Lib.hid hb2
                        clear hw2 hl2 hp2 hb2
                        go_wp2
                        have hdl := List.length_drop (i := L) (l := rest)
                        exact ⟨⟨k + 1, _, rest.drop L, Ad, cq - L, hkl, by go_num, by rw [hdl], by rw [hdl]; omega, by omega, HROW2.out, HW2.out, HG2.out, by rw [hdl]; omega, by have := HL2.out; have := HO1.out; rw [hdl]; omega, HB2.out⟩, by simp [intOf]; omega⟩
        · have hkk : k = l.length := by omega
          subst hkk
          have hg := HGO.out
          rw [List.drop_eq_nil_of_le (Nat.le_refl _), backGo] at hg
          clear HGO
          obtain ⟨Ao, co, rfl, hco, hmo, hro⟩ := HOWN.out.slice
          clear hco hmo hro
          by_cases hbig : 16777216 < out.length
          · rw [if_pos (by unfold maxC; omega)] at hg
            have HG := Lib.hid hg
            clear hg
            go_wp2
            go_ret2
            exact ⟨_, _, rfl, by rw [HK.out, HRES.out, ← HG.out]; exact ⟨rfl, rfl⟩, HB.out⟩
          · rw [if_neg (by unfold maxC; omega)] at hg
            have HG := Lib.hid hg
            clear hg
            go_wp2
            go_ret2
            exact ⟨_, _, rfl, by rw [HK.out, HRES.out, ← HG.out]; exact ⟨HOWN.out, rfl⟩, HB.out⟩
end Go.Proofs.Ytjifnnghcaaonaa
