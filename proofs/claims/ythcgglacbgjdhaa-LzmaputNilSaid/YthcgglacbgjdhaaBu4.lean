/- Texts of this proof, put together: FindB, LpU, LpS, SqOpen, LpEnd. -/
import Derived.Test.YthcgglacbgjdhaaChecked
import Derived.WalkKit
import Derived.Lib.Hide
import Derived.BigQuiet
import Derived.Deep.QuietTactic
import Derived.RegionTactic
import Derived.StillTailTactics
import Derived.OwnWalk
import Derived.Lib.SliceRun
import Derived.Test.YthcgglacbgjdhaaOpen
import Derived.Test.YthcgglacbgjdhaaBu1
import Derived.Test.YthcgglacbgjdhaaBu2
import Derived.Test.YthcgglacbgjdhaaBu3
/- The contracts of Back. -/
namespace Go.Proofs.Ythcgglacbgjdhaa
open Go.RowKit Fnd
set_option linter.unusedVariables false
set_option linter.unusedSimpArgs false

theorem Try.info_u8 : (Try.prog.info? 5).map (fun i => (i.zero, i.size, i.bytes)) = some (some (.int .u8 0), 1, 1) := by kernel_rfl

theorem slice_from (A : Option Addr) (n c f : Nat) (hf : f ≤ n) (hn : n ≤ c) (w : World) :
    (Instr.sliceAt 22 (.slice A n c) (some (.int .i64 (f : Int))) none none).run Try.prog w = .ok (.slice (if c = f then A else A.map (·.add f)) (n - f) (c - f)) w := by
  by_cases hcf : c = f
  · simp [go_sem, hcf]
    intro h; omega
  · simp [go_sem, hcf]
    intro h; omega

theorem clone_any (A : Option Addr) (bs : List UInt8) (n c : Nat) (w : World) (hn : n = bs.length) (hr : BRow w w.heap.size A bs) (hlen : bs.length ≤ 140737488355328) :
    Calls Try.prog 21 #[.slice A n c] w fun e w' => ∃ v, e = .returned v ∧ OwnB w' 5 w.heap.size v bs ∧ Below w.heap.size w w' := by
  subst hn
  have HR := Lib.hid hr
  clear hr
  have hq := fun (x : Option Addr) (n c : Nat) (w : World) => Lib.run_eql_slice_nil (P := Try.prog) w 22 5 x n c 0 0 Try.underlying22
  cases A with
  | none =>
    have hb : bs = [] := by
      cases bs with
      | nil => rfl
      | cons x l => obtain ⟨b, off, e, _⟩ := HR.out (by simp); cases e
    subst hb
    go_enter Try.func21, Try.ntmps21
    go_wp2
    go_ret
    exact ⟨_, rfl, OwnB.nil _ _ _, Below.refl _ _⟩
  | some ad =>
    go_enter Try.func21, Try.ntmps21
    go_wp2_with (at_builtin; refine wpList_append_bytes _ rfl (.tmp 5) (.tmp 6) 22 rfl 5 w.heap.size Try.underlying22 Try.info_u8 (.slice (some ⟨w.heap.size, 0, none⟩) 0 0) [] rfl ?own (some ad) bs.length c w.heap.size bs rfl rfl ?row ?len ?base ?k)
    case own => exact OwnB.made _ _ _ (Nat.le_refl _)
    case row => exact HR.out.below ((Below.refl _ _).alloc (Nat.le_refl _) _)
    case len => simp; omega
    case base => simp
    case k =>
      intro v w1 hown hfrm hnew
      have hb1 : Below w.heap.size w w1 := ((Below.refl _ _).alloc (Nat.le_refl _) _).trans (hfrm.below (by simp) (by intro k hk; simp [Value.ownBlock] at hk; omega))
      have HO := Lib.hid hown
      have HB := Lib.hid hb1
      clear hown hfrm hnew hb1
      go_wp2
      go_ret
      exact ⟨_, rfl, HO.out, HB.out⟩

/-- What Back hands back. -/
def TaleBy (w w' : World) (v : Value) (en : Int) : Tale → Prop
  | .arg => v = .slice none 0 0 ∧ en = 2
  | .malformed => v = .slice none 0 0 ∧ en = 11
  | .ok out => OwnB w' 5 w.heap.size v out ∧ en = 0
def taleGo : Option (List UInt8) → Tale
  | none => .malformed
  | some out => .ok out

set_option maxRecDepth 100000 in
set_option maxHeartbeats 4000000 in
theorem back_any (A : Option Addr) (bs : List UInt8) (n c : Nat) (fr : Int) (B : Option Addr) (l : List Sq) (m d : Nat) (w : World) (hn : n = bs.length) (hc : bs.length ≤ c) (hcm : c ≤ maxLen) (hr : BRow w w.heap.size A bs) (hlen : bs.length ≤ 1048576)
    (hm : m = l.length) (hmd : l.length ≤ d) (hl : SqRow w w.heap.size B l) (hml : l.length ≤ 140737488355328) (hfit : ∀ s ∈ l, s.fits) :
    Calls Try.prog 11 #[.slice A n c, .int .i64 fr, .slice B m d] w fun e w' => ∃ v en, e = .returned (.tuple #[v, .int .i64 en]) ∧ TaleBy w w' v en (back bs fr l) ∧ Below w.heap.size w w' := by
  subst hn; subst hm
  have HR := Lib.hid hr
  have HL := Lib.hid hl
  have HF := Lib.hid hfit
  unfold maxLen at hcm
  clear hr hl hfit
  by_cases hfr : fr < 0 ∨ (bs.length : Int) < fr
  · have hbk : back bs fr l = .arg := if_pos hfr
    have HK := Lib.hid hbk
    clear hbk
    rcases hfr with hfr | hfr
    · go_enter Try.func11, Try.ntmps11
      go_wp2
      go_ret2
      exact ⟨_, _, rfl, by rw [HK.out]; exact ⟨rfl, rfl⟩, Below.refl _ _⟩
    · have h0 : 0 ≤ fr := by omega
      go_enter Try.func11, Try.ntmps11
      go_wp2
      go_ret2
      exact ⟨_, _, rfl, by rw [HK.out]; exact ⟨rfl, rfl⟩, Below.refl _ _⟩
  · obtain ⟨f, rfl⟩ : ∃ f : Nat, fr = f := ⟨fr.toNat, by omega⟩
    have hf : f ≤ bs.length := by omega
    have hbk : back bs f l = taleGo (backGo l (bs.take f) (bs.drop f)) := by
      unfold back
      rw [if_neg hfr]
      show (match backGo l (bs.take f) (bs.drop f) with | none => Tale.malformed | some out => Tale.ok out) = _
      cases backGo l (bs.take f) (bs.drop f) <;> rfl
    have HK := Lib.hid hbk
    have htl : f = (bs.take f).length := by rw [List.length_take]; omega
    have hdl : (bs.drop f).length = bs.length - f := List.length_drop
    have HTL := Lib.hid htl
    have HDL := Lib.hid hdl
    clear hbk htl hdl hfr
    have HT := Lib.hid (HR.out.take f)
    have HD := Lib.hid (HR.out.drop (k := f) (cap := c) hc)
    obtain ⟨res, hres⟩ : ∃ res, backGo l (bs.take f) (bs.drop f) = res := ⟨_, rfl⟩
    have HRES := Lib.hid hres
    clear hres
    have hfc : (f : Int) ≤ c := by omega
    have hsl := fun w => slice_from A bs.length c f hf hc w
    generalize (if c = f then A else A.map (·.add f)) = Ar at *
    · go_enter Try.func11, Try.ntmps11
      go_wp2_with fail
      refine (clone_any A (bs.take f) _ c w HTL.out HT.out (by rw [← HTL.out]; omega)).mono ?_; rintro e w1 ⟨v, rfl, h1, h2⟩
      have H1 := Lib.hid h1
      have H2 := Lib.hid h2
      clear h1 h2
      go_wp2_with fail
      clear hsl
      go_loopw [0, 8, 28] (fun bv ov iv wr => ∃ (k : Nat) (out rest : List UInt8) (Aq : Option Addr) (cq : Nat), k ≤ l.length ∧ iv = .int .i64 k ∧ bv = .slice Aq rest.length cq ∧ rest.length ≤ cq ∧ cq ≤ 9223372036854775807 ∧ BRow w w.heap.size Aq rest ∧
          OwnB wr 5 w.heap.size ov out ∧ backGo (l.drop k) out rest = res ∧ rest.length ≤ 1048576 ∧ out.length + rest.length ≤ 17825792 ∧ Below w.heap.size w wr) (fun _ _ iv _ => l.length - (intOf iv).toNat)
      case atStart => exact ⟨0, bs.take f, bs.drop f, Ar, c - f, by omega, rfl, by rw [HDL.out], by rw [HDL.out]; omega, by omega, HD.out, H1.out, HRES.out, by rw [HDL.out]; omega, by rw [HDL.out, ← HTL.out]; omega, H2.out⟩
      case round =>
        obtain ⟨k, out, rest, Aq, cq, hk, rfl, rfl, hq1, hq2, hrow, hown, hgo, hrl, hol, hbel⟩ := hrel
        have HROW := Lib.hid hrow
        have HOWN := Lib.hid hown
        have HGO := Lib.hid hgo
        have HB := Lib.hid hbel
        clear hrow hown hgo hbel
        by_cases hkl : k < l.length
        · obtain ⟨b, off, hB, hb, hcell⟩ := HL.out (by omega)
          subst hB
          obtain ⟨c0, c1, c2⟩ := hcell k hkl
          have hs : ∃ s, l.getD k default = s := ⟨_, rfl⟩
          obtain ⟨s, hs⟩ := hs
          rw [hs] at c0 c1 c2
          have hdrop : l.drop k = s :: l.drop (k + 1) := by
            rw [List.drop_eq_getElem_cons hkl, ← hs]
            simp [List.getD, hkl]
          have x0 := (HB.out.cell (p := ⟨b, off + k * 3, none⟩) hb).trans c0
          have x1 := (HB.out.cell (p := ⟨b, off + k * 3 + 1, none⟩) hb).trans c1
          have x2 := (HB.out.cell (p := ⟨b, off + k * 3 + 2, none⟩) hb).trans c2
          obtain ⟨⟨s0, s1⟩, ⟨s2, s3⟩, s4, s5⟩ := HF.out s (by rw [← hs]; simp [List.getD, hkl])
          have HDR := Lib.hid hdrop
          clear hcell c0 c1 c2 hs hdrop
          obtain ⟨sl, sm, sb⟩ := s
          simp only at x0 x1 x2 s0 s1 s2 s3 s4 s5
          obtain ⟨mn, hmn⟩ : ∃ mn, min sl (min sm sb) = mn := ⟨_, rfl⟩
          have hmin := fun w => min3_int (P := Try.prog) #[3, 3, 3] 3 sl sm sb mn hmn w
          have hg := HGO.out
          rw [HDR.out, backGo] at hg
          clear HGO HDR
          by_cases hneg : mn < 0
          · rw [if_pos (by show Bad1 _ _; unfold Bad1; simp only; omega)] at hg
            have HG := Lib.hid hg
            clear hg hmn
            go_wp2
            go_ret2
            exact ⟨_, _, rfl, by rw [HK.out, HRES.out, ← HG.out]; exact ⟨rfl, rfl⟩, HB.out.alloc HB.out.size _⟩
          · by_cases hlong : (rest.length : Int) < sl
            · rw [if_pos (by show Bad1 _ _; unfold Bad1; simp only; omega)] at hg
              have HG := Lib.hid hg
              clear hg hmn
              have h0 : 0 ≤ mn := by omega
              go_wp2
              go_ret2
              exact ⟨_, _, rfl, by rw [HK.out, HRES.out, ← HG.out]; exact ⟨rfl, rfl⟩, HB.out.alloc HB.out.size _⟩
            · rw [if_neg (by show ¬ Bad1 _ _; unfold Bad1; simp only; omega)] at hg
              obtain ⟨L, rfl⟩ : ∃ L : Nat, sl = L := ⟨sl.toNat, by omega⟩
              obtain ⟨M, rfl⟩ : ∃ M : Nat, sm = M := ⟨sm.toNat, by omega⟩
              obtain ⟨K, rfl⟩ : ∃ K : Nat, sb = K := ⟨sb.toNat, by omega⟩
              clear hmn
              have h0 : 0 ≤ mn := by omega
              have hL : L ≤ rest.length := by omega
              simp only [Int.toNat_natCast] at hg
              have HG := Lib.hid hg
              clear hg
              obtain ⟨Ao, co, rfl, hco, hmo, hro⟩ := HOWN.out.slice
              have hLt : L = (rest.take L).length := by rw [List.length_take]; omega
              have HLT := Lib.hid hLt
              have hsl2 := fun w => slice_from Aq rest.length cq L hL hq1 w
              have HROW2 := Lib.hid (HROW.out.drop (k := L) (cap := cq) hq1)
              have hgen : ∃ Ad, (if cq = L then Aq else Aq.map (·.add L)) = Ad := ⟨_, rfl⟩
              obtain ⟨Ad, had⟩ := hgen
              rw [had] at hsl2 HROW2
              have hLc : (L : Int) ≤ cq := by omega
              clear hLt had hro hco hmo
              go_wp2_with (at_builtin; refine wpList_append_bytes _ rfl (.tmp 47) (.tmp 51) 22 rfl 5 w.heap.size Try.underlying22 Try.info_u8 (.slice Ao out.length co) out rfl ?own1 Aq L cq w.heap.size (rest.take L) rfl HLT.out ?row1 ?len1 ?base1 ?next1)
              case own1 => exact HOWN.out.alloc _
              case row1 => exact (HROW.out.take L).below (HB.out.alloc HB.out.size _)
              case len1 => omega
              case base1 => have := HB.out.size; simp; omega
              case next1 =>
                intro v2 w2 hown2 hfrm2 hnew2
                obtain ⟨A2, c2, rfl, hc2, hm2, hr2⟩ := hown2.slice
                have hp2 : Pts w2 wr.heap.size #[.int .i64 (L : Int), .int .i64 (M : Int), .int .i64 (K : Int)] 31 := (Pts.new wr _ _).frm hfrm2 (fun e => by have := (HOWN.out.lt e).2; omega)
                have hb2 : Below w.heap.size w w2 := (HB.out.alloc HB.out.size _).trans (hfrm2.below (B := w.heap.size) (HB.out.alloc HB.out.size _).size (fun q hq => (HOWN.out.lt hq).1))
                have y0 : w2.cell? ⟨wr.heap.size, 0, none⟩ = some (.int .i64 (L : Int)) := by rw [hp2.cell]; rfl
                have y1 : w2.cell? ⟨wr.heap.size, 1, none⟩ = some (.int .i64 (M : Int)) := by rw [hp2.cell]; rfl
                have y2 : w2.cell? ⟨wr.heap.size, 2, none⟩ = some (.int .i64 (K : Int)) := by rw [hp2.cell]; rfl
                have hol1 : (out ++ rest.take L).length = out.length + L := by rw [List.length_append, ← HLT.out]
                have P2 := Lib.hid hp2
                have B2 := Lib.hid hb2
                have O2 := Lib.hid hown2
                have hg := HG.out
                generalize out ++ rest.take L = o1 at *
                clear hown2 hfrm2 hnew2 hc2 hm2 hr2 hp2 hb2 HG
                have HO1 := Lib.hid hol1
                have hlt1 : o1.length ≤ 34603008 := by omega
                clear hol1 x0 x1 x2 hmin
                by_cases hM : 0 < M
                · by_cases hK0 : K = 0
                  · rw [if_pos (by show Bad2 _ _; unfold Bad2 maxC; simp only; omega)] at hg
                    have HG2 := Lib.hid hg
                    clear hg
                    have q0 : ((K : Int) == 0) = true := beq_iff_eq.2 (by omega)
                    go_wp2
                    go_ret2
                    exact ⟨_, _, rfl, by rw [HK.out, HRES.out, ← HG2.out]; exact ⟨rfl, rfl⟩, B2.out⟩
                  · have q0 : ((K : Int) == 0) = false := beq_eq_false_iff_ne.2 (by omega)
                    by_cases hKl : o1.length < K
                    · rw [if_pos (by show Bad2 _ _; unfold Bad2 maxC; simp only; omega)] at hg
                      have HG2 := Lib.hid hg
                      clear hg
                      go_wp2
                      go_ret2
                      exact ⟨_, _, rfl, by rw [HK.out, HRES.out, ← HG2.out]; exact ⟨rfl, rfl⟩, B2.out⟩
                    · by_cases hmx : (16777216 : Int) - o1.length < M
                      · rw [if_pos (by show Bad2 _ _; unfold Bad2 maxC; simp only; omega)] at hg
                        have HG2 := Lib.hid hg
                        clear hg
                        go_wp2
                        go_ret2
                        exact ⟨_, _, rfl, by rw [HK.out, HRES.out, ← HG2.out]; exact ⟨rfl, rfl⟩, B2.out⟩
                      · rw [if_neg (by show ¬ Bad2 _ _; unfold Bad2 maxC; simp only; omega)] at hg
                        have HG2 := Lib.hid hg
                        clear hg
                        go_wp2_with fail
                        clear hsl2
                        obtain ⟨wo, rfl⟩ : ∃ wo : World, wo = wr := ⟨_, rfl⟩
                        go_loopw [8, 82] (fun ov iv wq => ∃ (t : Nat) (o2 : List UInt8), t ≤ M ∧ iv = .int .i64 t ∧ OwnB wq 5 w.heap.size ov o2 ∧ copyBack K (M - t) o2 = copyBack K M o1 ∧ o2.length = o1.length + t ∧
                            Pts wq wo.heap.size #[.int .i64 (L : Int), .int .i64 (M : Int), .int .i64 (K : Int)] 31 ∧ Below w.heap.size w wq) (fun _ iv _ => M - (intOf iv).toNat)
                        case atStart => exact ⟨0, o1, by omega, rfl, O2.out, rfl, rfl, P2.out, B2.out⟩
                        case round =>
                          obtain ⟨t, o2, ht, rfl, hw2, hcb, hl2, hp2, hb2⟩ := hrel
                          by_cases htM : t < M
                          · rcases hw2.form with ⟨_, hnil⟩ | ⟨g, cap, cur, rfl, hbg, hp, hn1, hn2, hcs, hcc⟩
                            · rw [hnil] at hl2
                              have h0 : o1.length = 0 := by simp at hl2; omega
                              omega
                            · have kg : wr.cell? ⟨g, o2.length - K, none⟩ = some (.int .u8 ((o2.getD (o2.length - K) 0).toNat : Int)) := by rw [hp.cell, hcc _ (by omega)]; rfl
                              have z2 : wr.cell? ⟨wo.heap.size, 2, none⟩ = some (.int .i64 (K : Int)) := by rw [hp2.cell]; rfl
                              have hgne : g ≠ wo.heap.size := by
                                rintro rfl
                                have e := hp.symm.trans hp2
                                simp at e
                              have HGN := Lib.hid hgne
                              clear hgne
                              have HCB := Lib.hid hcb
                              have HW2 := Lib.hid hw2
                              have HL2 := Lib.hid hl2
                              have HP2 := Lib.hid hp2
                              have HB2 := Lib.hid hb2
                              have hk1 : K ≤ o2.length := by omega
                              have hk3 : o2.length ≤ 140737488355320 := by omega
                              clear hcb hw2 hl2 hp2 hb2 hcc hcs hp hn1 hn2
                              go_wp2_with (at_builtin; refine wpList_append_bytes _ rfl (.tmp 84) (.tmp 93) 22 rfl 5 w.heap.size Try.underlying22 Try.info_u8 (.slice (some ⟨g, 0, none⟩) o2.length cap) o2 rfl ?own2 (some ⟨wr.heap.size, 0, none⟩) 1 1 (wr.heap.size + 1) [o2.getD (o2.length - K) 0] rfl rfl ?row2 ?len2 ?base2 ?next2)
                              case own2 => exact HW2.out.alloc _
                              case row2 => intro _; exact ⟨wr.heap.size, 0, rfl, by simp, fun j hj => by
                                  obtain rfl : j = 0 := by simpa using hj
                                  rw [(Pts.new wr _ _).cell]; simp [byteV]⟩
                              case len2 => simp; omega
                              case base2 => have := HB2.out.size; simp; omega
                              case next2 =>
                                intro v3 w3 hown3 hfrm3 hnew3
                                have hp3 := (HP2.out.alloc (.cells #[.int .u8 ((o2.getD (o2.length - K) 0).toNat : Int)] 5)).frm hfrm3 (fun e => by simp [Value.ownBlock] at e; exact HGN.out e)
                                have hb3 : Below w.heap.size w w3 := (HB2.out.alloc HB2.out.size _).trans (hfrm3.below (B := w.heap.size) (HB2.out.alloc HB2.out.size _).size (fun q hq => (HW2.out.lt hq).1))
                                have P3 := Lib.hid hp3
                                have B3 := Lib.hid hb3
                                have O3 := Lib.hid hown3
                                clear hown3 hfrm3 hnew3 hp3 hb3
                                go_wp2
                                exact ⟨⟨t + 1, _, by omega, by go_num, O3.out, by rw [← HCB.out, show M - t = (M - (t + 1)) + 1 by omega]; rfl, by have := HL2.out; simp; omega, P3.out, B3.out⟩, by simp [intOf]; omega⟩
                          · obtain rfl : t = M := by omega
                            rw [Nat.sub_self, copyBack] at hcb
                            subst hcb
                            have HW2 := Lib.hid hw2
                            have HL2 := Lib.hid hl2
                            have HB2 := Lib.hid hb2
                            clear hw2 hl2 hp2 hb2
                            go_wp2
                            have hdl := List.length_drop (i := L) (l := rest)
                            exact ⟨⟨k + 1, _, rest.drop L, Ad, cq - L, hkl, by go_num, by rw [hdl], by rw [hdl]; omega, by omega, HROW2.out, HW2.out, HG2.out, by rw [hdl]; omega, by have := HL2.out; have := HO1.out; rw [hdl]; omega, HB2.out⟩, by simp [intOf]; omega⟩
                · by_cases hmx : (16777216 : Int) - o1.length < M
                  · rw [if_pos (by show Bad2 _ _; unfold Bad2 maxC; simp only; omega)] at hg
                    have HG2 := Lib.hid hg
                    clear hg
                    go_wp2
                    go_ret2
                    exact ⟨_, _, rfl, by rw [HK.out, HRES.out, ← HG2.out]; exact ⟨rfl, rfl⟩, B2.out⟩
                  · rw [if_neg (by show ¬ Bad2 _ _; unfold Bad2 maxC; simp only; omega)] at hg
                    have HG2 := Lib.hid hg
                    clear hg
                    go_wp2_with fail
                    clear hsl2
                    obtain ⟨wo, rfl⟩ : ∃ wo : World, wo = wr := ⟨_, rfl⟩
                    go_loopw [8, 82] (fun ov iv wq => ∃ (t : Nat) (o2 : List UInt8), t ≤ M ∧ iv = .int .i64 t ∧ OwnB wq 5 w.heap.size ov o2 ∧ copyBack K (M - t) o2 = copyBack K M o1 ∧ o2.length = o1.length + t ∧
                        Pts wq wo.heap.size #[.int .i64 (L : Int), .int .i64 (M : Int), .int .i64 (K : Int)] 31 ∧ Below w.heap.size w wq) (fun _ iv _ => M - (intOf iv).toNat)
                    case atStart => exact ⟨0, o1, by omega, rfl, O2.out, rfl, rfl, P2.out, B2.out⟩
                    case round =>
                      obtain ⟨t, o2, ht, rfl, hw2, hcb, hl2, hp2, hb2⟩ := hrel
                      by_cases htM : t < M
                      · omega
                      · obtain rfl : t = M := by omega
                        rw [Nat.sub_self, copyBack] at hcb
                        subst hcb
                        have HW2 := Lib.hid hw2
                        have HL2 := Lib.hid hl2
                        have HB2 := Lib.hid hb2
                        clear hw2 hl2 hp2 hb2
                        go_wp2
                        have hdl := List.length_drop (i := L) (l := rest)
                        exact ⟨⟨k + 1, _, rest.drop L, Ad, cq - L, hkl, by go_num, by rw [hdl], by rw [hdl]; omega, by omega, HROW2.out, HW2.out, HG2.out, by rw [hdl]; omega, by have := HL2.out; have := HO1.out; rw [hdl]; omega, HB2.out⟩, by simp [intOf]; omega⟩
        · have hkk : k = l.length := by omega
          subst hkk
          have hg := HGO.out
          rw [List.drop_eq_nil_of_le (Nat.le_refl _), backGo] at hg
          clear HGO
          obtain ⟨Ao, co, rfl, hco, hmo, hro⟩ := HOWN.out.slice
          clear hco hmo hro
          by_cases hbig : 16777216 < out.length
          · rw [if_pos (by unfold maxC; omega)] at hg
            have HG := Lib.hid hg
            clear hg
            go_wp2
            go_ret2
            exact ⟨_, _, rfl, by rw [HK.out, HRES.out, ← HG.out]; exact ⟨rfl, rfl⟩, HB.out⟩
          · rw [if_neg (by unfold maxC; omega)] at hg
            have HG := Lib.hid hg
            clear hg
            go_wp2
            go_ret2
            exact ⟨_, _, rfl, by rw [HK.out, HRES.out, ← HG.out]; exact ⟨HOWN.out, rfl⟩, HB.out⟩
end Go.Proofs.Ythcgglacbgjdhaa

/- LzmaputSteps. -/
namespace Go.Proofs.Ythcgglacbgjdhaa
open Go.RowKit Rng Win Lz Fnd
set_option linter.unusedVariables false
set_option linter.unusedSimpArgs false
theorem fback_num (A : Option Addr) (bs : List UInt8) (n c : Nat) (fr : Int) (B : Option Addr) (l : List Sq) (m d : Nat) (t : Tale) (w : World) (ht : back bs fr l = t) (hn : n = bs.length) (hc : bs.length ≤ c) (hcm : c ≤ maxLen) (hr : BRow w w.heap.size A bs) (hlen : bs.length ≤ 1048576)
    (hm : m = l.length) (hmd : l.length ≤ d) (hl : SqRow w w.heap.size B l) (hml : l.length ≤ 140737488355328) (hfit : ∀ s ∈ l, s.fits) :
    Calls Try.prog 11 #[.slice A n c, .int .i64 fr, .slice B m d] w fun e w' => ∃ v en, e = .returned (.tuple #[v, .int .i64 en]) ∧ TaleBy w w' v en t ∧ Below w.heap.size w w' := by
  subst ht
  exact back_any A bs n c fr B l m d w hn hc hcm hr hlen hm hmd hl hml hfit
theorem opsB_chunk (b lb : Nat) {bs : List UInt8} {l : List Sq} (total : Nat) (hr : rightGo bs l 0 = some bs.length) (hb : bs.length ≤ 65536) : Reads total bs.length (opsB (newK b lb) bs 0 total 0 (fun _ => 0) (fun _ => 1024) (opsOf l)) bs ∧ (opsB (newK b lb) bs 0 total 0 (fun _ => 0) (fun _ => 1024) (opsOf l)).length ≤ costOps (opsOf l) + 5 := by
  have hok := right_ops l 0 (Nat.zero_le _) hr
  exact ⟨reads_ops b lb bs total _ hok hb, opsB_len (newK b lb) bs 0 total 0 _ _ _ (by omega) hok⟩
set_option maxRecDepth 100000 in
set_option maxHeartbeats 8000000 in
theorem lawSteps14 (A : Option Addr) (n c : Nat) (f : Nat → Int) (B : Option Addr) (l : List Sq) (m d : Nat) (x : Int) (w : World)
    (h1 : n ≤ c) (h2 : c ≤ maxLen) (h3 : Opn.RowAt w w.heap.size A n fun i => .int .u8 (f i)) (h4 : ∀ i, i < n → 0 ≤ f i ∧ f i ≤ 255)
    (l1 : m = l.length) (l2 : l.length ≤ d) (_l3 : d ≤ maxLen) (l4 : SqRow w w.heap.size B l) (l5 : ∀ s ∈ l, s.fits) (hx : -9223372036854775808 ≤ x ∧ x ≤ 9223372036854775807) :
    Calls Try.prog 5 #[.slice A n c, .slice B m d, .int .i64 x] w fun e w' => e = .returned (.bool true) ∧ Below w.heap.size w w' := by
  obtain ⟨bs, rfl, hr⟩ := BRow.of_row h3 h4
  subst l1
  have HR := Lib.hid hr
  have HM := Lib.hid (And.intro h1 (And.intro h2 l2))
  have HL := Lib.hid l4
  have HF := Lib.hid l5
  have hlm : l.length ≤ 9223372036854775807 := by unfold maxLen at _l3; omega
  have hbm : bs.length ≤ 9223372036854775807 := by unfold maxLen at h2; omega
  clear hr h3 h4 l4 l5 h1 h2 l2 _l3
  by_cases hbig : 4096 < bs.length ∨ 300 < l.length ∨ x < 0 ∨ 1099511627776 < x
  · have hc : (4096 : Int) < (bs.length : Int) ∨ ((bs.length : Int) ≤ 4096 ∧ (300 : Int) < (l.length : Int)) ∨ ((bs.length : Int) ≤ 4096 ∧ (l.length : Int) ≤ 300 ∧ x < 0) ∨ ((bs.length : Int) ≤ 4096 ∧ (l.length : Int) ≤ 300 ∧ 0 ≤ x ∧ 1099511627776 < x) := by omega
    clear hbig
    rcases hc with h | ⟨h, h1⟩ | ⟨h, h1, h2⟩ | ⟨h, h1, h2, h3⟩
    all_goals
      go_enter Try.func5, Try.ntmps5
      go_wp2_with fail
      refine (wakes14 _).mono ?_; rintro e w7 ⟨rfl, hb7⟩
      have B7 := Lib.hid hb7
      clear hb7
      go_wp2
      go_ret
      exact ⟨rfl, B7.out⟩
  · have hb1 : (bs.length : Int) ≤ 4096 := by omega
    have hb2 : (l.length : Int) ≤ 300 := by omega
    have hb3 : 0 ≤ x := by omega
    have hb4 : x ≤ 1099511627776 := by omega
    have HBIG := Lib.hid (show bs.length ≤ 4096 ∧ l.length ≤ 300 by omega)
    obtain ⟨X, rfl⟩ : ∃ X : Nat, x = X := ⟨x.toNat, by omega⟩
    have HXB := Lib.hid (show X ≤ 1099511627776 by omega)
    obtain ⟨tl, htl⟩ : ∃ tl, back bs 0 l = tl := ⟨_, rfl⟩
    have HT := Lib.hid htl
    clear hbig htl hlm hbm
    go_enter Try.func5, Try.ntmps5
    go_wp2
    go_loopw [7, 8] (fun nv iv wr => ∃ k q : Nat, nv = .int .i64 q ∧ iv = .int .i64 k ∧ k ≤ l.length ∧ q = sumM (l.take k) ∧ q ≤ 273 * k ∧ (∀ j, j < k → 0 ≤ (l.getD j default).mat ∧ (l.getD j default).mat ≠ 1 ∧ (l.getD j default).mat ≤ 273) ∧ wr = w) (fun _ iv _ => l.length - (intOf iv).toNat)
    case atStart => exact ⟨0, 0, rfl, rfl, by omega, by simp [sumM], by omega, fun j hj => absurd hj (by omega), by first | rfl | trivial⟩
    case round =>
      obtain ⟨k, q, rfl, rfl, hk, hq, hq2, hmat, hwr⟩ := hrel
      obtain rfl : w = wr := hwr.symm
      have HMAT := Lib.hid hmat
      have HQ := Lib.hid (And.intro hq hq2)
      clear hmat hq hq2
      by_cases hkl : k < l.length
      · obtain ⟨b, off, hB, hb, hcell⟩ := HL.out (by omega)
        subst hB
        obtain ⟨_, c1, _⟩ := hcell k hkl
        obtain ⟨z, hz⟩ : ∃ z, (l.getD k default).mat = z := ⟨_, rfl⟩
        rw [hz] at c1
        have HZ := Lib.hid hz
        clear hcell hz
        have hqi : (q : Int) ≤ 81900 := by have := HQ.out; have := HBIG.out; omega
        by_cases hbad : z < 0 ∨ z = 1 ∨ 273 < z
        · have hc : z < 0 ∨ (0 ≤ z ∧ z = 1) ∨ (0 ≤ z ∧ (z == 1) = false ∧ 273 < z) := by
            by_cases h0 : z < 0
            · exact .inl h0
            · by_cases h1 : z = 1
              · exact .inr (.inl ⟨by omega, h1⟩)
              · exact .inr (.inr ⟨by omega, beq_eq_false_iff_ne.2 h1, by omega⟩)
          clear hbad
          rcases hc with h0 | ⟨h0, h1⟩ | ⟨h0, h1, h2⟩
          · go_wp2_with fail
            refine (wakes14 _).mono ?_; rintro e w7 ⟨rfl, hb7⟩
            have B7 := Lib.hid hb7
            clear hb7
            go_wp2
            go_ret
            exact ⟨rfl, B7.out⟩
          · subst h1
            go_wp2_with fail
            refine (wakes14 _).mono ?_; rintro e w7 ⟨rfl, hb7⟩
            have B7 := Lib.hid hb7
            clear hb7
            go_wp2
            go_ret
            exact ⟨rfl, B7.out⟩
          · go_wp2_with fail
            refine (wakes14 _).mono ?_; rintro e w7 ⟨rfl, hb7⟩
            have B7 := Lib.hid hb7
            clear hb7
            go_wp2
            go_ret
            exact ⟨rfl, B7.out⟩
        · have h0 : 0 ≤ z := by omega
          have h1 : (z == 1) = false := beq_eq_false_iff_ne.2 (by omega)
          have h2 : z ≤ 273 := by omega
          have HZ1 := Lib.hid (show z ≠ 1 by omega)
          clear hbad
          obtain ⟨Z, rfl⟩ : ∃ Z : Nat, z = Z := ⟨z.toNat, by omega⟩
          obtain ⟨q1, hq1⟩ : ∃ q1, q + Z = q1 := ⟨_, rfl⟩
          have hqz : (q : Int) + (Z : Int) = (q1 : Int) := by omega
          have hqw : IntKind.i64.wrap (q1 : Int) = (q1 : Int) := Go.IntWalk.i64_in _ (by omega)
          have HQ1 := Lib.hid hq1
          clear hq1
          go_wp2
          refine ⟨⟨k + 1, q1, by go_num, by go_num, by omega, ?_, ?_, ?_, by first | rfl | trivial⟩, by simp [intOf]; omega⟩
          · rw [sumM_take hkl, HZ.out, Int.toNat_natCast, ← HQ.out.1, HQ1.out]
          · have := HQ.out; have := HQ1.out; omega
          · intro j hj
            by_cases hjk : j = k
            · subst hjk
              rw [HZ.out]
              have := HZ1.out
              exact ⟨by omega, by omega, by omega⟩
            · exact HMAT.out j (by omega)
      · obtain rfl : k = l.length := by omega
        have hq := HQ.out.1
        rw [List.take_length] at hq
        have HS := Lib.hid hq
        have HOK : Hid (∀ s ∈ l, s.mat ≠ 1 ∧ s.mat ≤ 273) := Lib.hid (fun s hs => by
          obtain ⟨j, hj, e⟩ := List.getElem_of_mem hs
          have h := HMAT.out j hj
          rw [List.getD_eq_getElem?_getD, List.getElem?_eq_getElem hj] at h
          simp only [Option.getD_some] at h
          rw [e] at h
          exact h.2)
        have hqi : (q : Int) ≤ 81900 := by have := HQ.out; have := HBIG.out; omega
        clear hq hk hkl HMAT
        go_wp2_with fail
        refine (fback_num A bs _ c 0 B l _ d tl w HT.out rfl HM.out.1 HM.out.2.1 HR.out (by have := HBIG.out; omega) rfl HM.out.2.2 HL.out (by have := HBIG.out; omega) HF.out).mono ?_; rintro e w1 ⟨v1, en1, rfl, ht1, b1⟩
        have B1 := Lib.hid b1
        clear b1
        have hbadc : (v1 = .slice none 0 0 ∧ (en1 != 0) = true) ∨ ∃ out, tl = .ok out ∧ OwnB w1 5 w.heap.size v1 out ∧ en1 = 0 := by
          cases tl with
          | arg => obtain ⟨e1, e2⟩ := ht1; subst e2; exact .inl ⟨e1, rfl⟩
          | malformed => obtain ⟨e1, e2⟩ := ht1; subst e2; exact .inl ⟨e1, rfl⟩
          | ok out => exact .inr ⟨out, rfl, ht1.1, ht1.2⟩
        clear ht1
        rcases hbadc with ⟨rfl, hen⟩ | ⟨out, htl, ho, rfl⟩
        · go_wp2_with fail
          refine (wakes14 _).mono ?_; rintro e w7 ⟨rfl, hb7⟩
          have B7 := Lib.hid (B1.out.trans (hb7.mono B1.out.size))
          clear hb7
          go_wp2
          go_ret
          exact ⟨rfl, B7.out⟩
        · obtain ⟨A2, c2, rfl, hc2, hm2, hr2⟩ := ho.slice
          have hmx : out.length ≤ 9223372036854775807 := by unfold maxLen at hm2; omega
          have R2 := Lib.hid hr2
          have HC2 := Lib.hid (And.intro hc2 hm2)
          subst htl
          clear hr2 hc2 hm2 ho
          by_cases hz : out.length = 0 ∨ 16384 < q
          · have hc : ((out.length : Int) == 0) = true ∨ (((out.length : Int) == 0) = false ∧ (16384 : Int) < (q : Int)) := by
              by_cases h0 : out.length = 0
              · exact .inl (by rw [h0]; rfl)
              · exact .inr ⟨beq_eq_false_iff_ne.2 (by omega), by omega⟩
            clear hz
            rcases hc with h0 | ⟨h0, h1⟩
            · go_wp2_with fail
              refine (wakes14 _).mono ?_; rintro e w7 ⟨rfl, hb7⟩
              have B7 := Lib.hid (B1.out.trans (hb7.mono B1.out.size))
              clear hb7
              go_wp2
              go_ret
              exact ⟨rfl, B7.out⟩
            · go_wp2_with fail
              refine (wakes14 _).mono ?_; rintro e w7 ⟨rfl, hb7⟩
              have B7 := Lib.hid (B1.out.trans (hb7.mono B1.out.size))
              clear hb7
              go_wp2
              go_ret
              exact ⟨rfl, B7.out⟩
          · have h0 : ((out.length : Int) == 0) = false := beq_eq_false_iff_ne.2 (by omega)
            have h1 : (q : Int) ≤ 16384 := by omega
            obtain ⟨p1, p2, p3, p4, p5⟩ := back_right HT.out HOK.out (by omega)
            have hol : out.length ≤ 20480 := by have := HS.out; have := HBIG.out; omega
            have hcost : costOps (opsOf l) ≤ 66864 := by have := HBIG.out; omega
            have HP := Lib.hid (And.intro p1 (And.intro p2 (And.intro hol hcost)))
            have HO1 := Lib.hid (show 1 ≤ out.length by omega)
            clear hz p1 p2 p3 p4 p5 hcost
            go_wp2_with fail
            refine (pnew32 w1).mono ?_; rintro e w2 ⟨sb, lb, rfl, g1, g2, hs2, hb2⟩
            have S2 := Lib.hid hs2
            have B2 := Lib.hid (B1.out.trans (hb2.mono B1.out.size))
            have R3 := Lib.hid ((R2.out.below hb2).more hb2.size)
            have HOF := Lib.hid (BOff.of_row (N := KZ (newK sb lb)) (R2.out.below hb2) (fun q hq => by
              rcases hq with e | e
              · rw [e]; exact g1
              · rw [e]; exact g2))
            have HLO : Hid (∀ ad, B = some ad → ¬ KZ (newK sb lb) ad.block) := Lib.hid (fun ad e hq => by
              have h0 : 0 < l.length := by
                cases l with
                | nil =>
                  have h := HP.out.2.1
                  have h2 := HO1.out
                  unfold rightGo at h
                  injection h with h
                  omega
                | cons s l => simp
              obtain ⟨b, off, e2, hlt, _⟩ := HL.out h0
              rw [e] at e2
              injection e2 with e2
              subst e2
              have := B1.out.size
              rcases hq with e3 | e3
              · have : b = sb := e3
                omega
              · have : b = lb := e3
                omega)
            have HL2 := Lib.hid ((HL.out.below B2.out).more B2.out.size)
            clear hs2 hb2
            go_wp2_with fail
            refine (putchunk_main (newK sb lb) 0 (fun _ => 0) (fun _ => 1024) A2 out out.length c2 0 X B l l.length d w2 S2.out (newK_ok _ _) (by omega) (fun _ => by omega) rfl HC2.out.1 R3.out HOF.out (by have := HP.out; omega) rfl HM.out.2.2 HL2.out HLO.out (by have := HBIG.out; omega) HF.out (Nat.zero_le _) (by have := HP.out; omega) (by have := HXB.out; omega) HP.out.1 (by have := HP.out; omega)).mono ?_
            rintro e w3 ⟨v3, rfl, o3, s3, f3⟩
            obtain ⟨hre, hlen⟩ := opsB_chunk sb lb X HP.out.2.1 (by have := HP.out; omega)
            obtain ⟨cs, hcs⟩ : ∃ cs, opsB (newK sb lb) out 0 X 0 (fun _ => 0) (fun _ => 1024) (opsOf l) = cs := ⟨_, rfl⟩
            rw [hcs] at hre hlen o3
            obtain ⟨A3, c3, rfl, hc3, hm3, hr3⟩ := o3.slice
            obtain ⟨L, hL⟩ : ∃ L, cs.length = L := ⟨_, rfl⟩
            rw [hL] at hc3 ⊢
            have B3 := Lib.hid (B2.out.trans (f3.below (B := w.heap.size) B2.out.size (by
              have := B1.out.size
              rintro q (e | e)
              · rw [e]; show w.heap.size ≤ sb; omega
              · rw [e]; show w.heap.size ≤ lb; omega)))
            have Z3 := Lib.hid f3.size
            have RE := Lib.hid hre
            have HC3 := Lib.hid (And.intro hL (And.intro (show L ≤ 66869 by have := HP.out; omega) (And.intro hc3 hm3)))
            have RX := Lib.hid hr3
            have R4 := Lib.hid (show BRow w3 w2.heap.size A2 out from R3.out.apart (HOF.out) f3)
            clear hre hlen hcs o3 hr3 hL hc3 hm3 f3 s3 S2 HLO HL2 HT R2 R3 HOF
            go_wp2_with fail
            refine (props14_p w3).mono ?_; rintro e w4 ⟨rfl, hw4⟩
            subst hw4
            go_wp2_with fail
            obtain ⟨p0, p1, b4, z4⟩ := two_new w3 (.slice A3 L c3) (.int .i64 out.length) 22 3
            have C4 := Lib.hid (And.intro ((p0.cell 0).trans rfl) ((p1.cell 0).trans rfl))
            have RX4 := Lib.hid ((RX.out.below b4).more b4.size)
            have B4 := Lib.hid (B3.out.trans (b4.mono B3.out.size))
            have R5 := Lib.hid (R4.out.more Z3.out |>.below b4)
            have Z4 := Lib.hid b4.size
            obtain ⟨h3, hh3⟩ : ∃ h, w3.heap.size = h := ⟨_, rfl⟩
            rw [hh3] at C4 R5 Z4 ⊢
            generalize (w3.alloc (.cells #[.slice A3 L c3] 22)).alloc (.cells #[.int .i64 out.length] 3) = w4 at *
            clear p0 p1 b4 z4 hh3 RX R4
            refine (read_p cs out A3 L c3 out.length X h3 (h3 + 1) w4 HC3.out.1.symm RX4.out (by have := HC3.out; omega) HC3.out.2.2.2 (by have := HC3.out; omega) C4.out.1 C4.out.2 HO1.out (by have := HP.out; omega) (by have := HXB.out; omega) RE.out (by have := HP.out; omega)).mono ?_; rintro e w5 ⟨rfl, b5⟩
            have B5 := Lib.hid (B4.out.trans (b5.mono B4.out.size))
            have e2 := run_conv_bytes (P := Try.prog) w5 22 9 5 Try.underlying22 Try.underlying5 Try.underlying9 A2 out.length c2 _ out rfl ((R5.out.more (Nat.le_refl _)).below (b5.mono Z4.out))
            have hl16 : (out.length : Int) ≤ 65536 := by have := HP.out; omega
            clear b5 RX4 C4 R5
            go_wp2_with fail
            refine (wakes14 _).mono ?_; rintro e w7 ⟨rfl, hb7⟩
            have B7 := Lib.hid (B5.out.trans (hb7.mono B5.out.size))
            clear hb7
            go_wp2
            go_ret
            exact ⟨rfl, B7.out⟩
end Go.Proofs.Ythcgglacbgjdhaa

/- LzmaputNil. -/
namespace Go.Proofs.Ythcgglacbgjdhaa
open Go.RowKit Rng Win Lz Fnd
set_option linter.unusedVariables false
set_option linter.unusedSimpArgs false
theorem right_none (bs : List UInt8) (fr : Nat) : rightP bs fr [] = false := by
  unfold rightP rightGo rightEnd
  simp only
  rw [decide_eq_false]
  omega
theorem put_from (p : Addr) (A : Option Addr) (bs : List UInt8) (n c : Nat) (x z : Int) (w : World) (hn : n = bs.length) (hc : bs.length ≤ c) (hr : BRow w w.heap.size A bs) (hlen : bs.length ≤ 4096) (hz : z = if x < 0 ∨ (n : Int) < x then 2 else 11) :
    Calls Try.prog 9 #[.pointer (some p), .slice A n c, .int .i64 x, .int .i64 0, .slice none 0 0] w fun e w' => e = .returned (.tuple #[.slice none 0 0, .int .i64 z]) ∧ Below w.heap.size w w' := by
  by_cases h : x < 0 ∨ (n : Int) < x
  · rw [if_pos h] at hz
    subst hz
    refine (put_arg p A n c x 0 none 0 0 w (by omega)).mono ?_
    rintro e w' ⟨rfl, rfl⟩
    exact ⟨rfl, Below.refl _ _⟩
  · rw [if_neg h] at hz
    subst hz
    obtain ⟨f, rfl⟩ : ∃ f : Nat, x = f := ⟨x.toNat, by omega⟩
    exact put_bad p A bs n c f 0 none [] 0 0 w hn hc hr (by omega) rfl (by decide) (fun h => absurd h (by decide)) (by decide) (fun s hs => by cases hs) (by omega) (right_none _ _)
set_option maxRecDepth 100000 in
set_option maxHeartbeats 2000000 in
theorem lawNil14 (A : Option Addr) (n c : Nat) (f : Nat → Int) (x : Int) (w : World) (hl : n ≤ c) (hm : c ≤ maxLen) (hr0 : Opn.RowAt w w.heap.size A n (fun i => .int .u8 (f i))) (hf : ∀ i, i < n → 0 ≤ f i ∧ f i ≤ 255) (hx : -9223372036854775808 ≤ x ∧ x ≤ 9223372036854775807) :
    Calls Try.prog 4 #[.slice A n c, .int .i64 x] w fun e w' => e = .returned (.bool true) ∧ Below w.heap.size w w' := by
  obtain ⟨bs, hbs, hr⟩ := BRow.of_row hr0 hf
  have HR := Lib.hid hr
  have HN := Lib.hid hbs.symm
  have HLC : Hid (bs.length ≤ c) := Lib.hid (by omega)
  clear hr0 hf hr hbs hl hm
  by_cases hn : 4096 < n
  · have hi : (4096 : Int) < (n : Int) := by omega
    clear hn
    go_enter Try.func4, Try.ntmps4
    go_wp2_with fail
    refine (wakes14 _).mono ?_; rintro e w7 ⟨rfl, hb7⟩
    have B7 := Lib.hid hb7
    clear hb7
    go_wp2
    go_ret
    exact ⟨rfl, B7.out⟩
  · have hi : (n : Int) ≤ 4096 := by omega
    obtain ⟨z, hz⟩ : ∃ z : Int, z = if x < 0 ∨ (n : Int) < x then 2 else 11 := ⟨_, rfl⟩
    have HZ := Lib.hid hz
    have HB := Lib.hid (show bs.length ≤ 4096 by have := HN.out; omega)
    have h3 : (x < 0 ∧ z = 2) ∨ (0 ≤ x ∧ (n : Int) < x ∧ z = 2) ∨ (0 ≤ x ∧ x ≤ (n : Int) ∧ z = 11) := by
      by_cases h : x < 0 ∨ (n : Int) < x
      · rw [if_pos h] at hz
        by_cases h2 : x < 0
        · exact .inl ⟨h2, hz⟩
        · exact .inr (.inl ⟨by omega, by omega, hz⟩)
      · rw [if_neg h] at hz
        exact .inr (.inr ⟨by omega, by omega, hz⟩)
    clear hz hn
    rcases h3 with ⟨h, rfl⟩ | ⟨h, h2, rfl⟩ | ⟨h, h2, rfl⟩
    all_goals
      go_enter Try.func4, Try.ntmps4
      go_wp2_with fail
      refine (putreset_nil _).mono ?_; rintro e w1 ⟨rfl, hw⟩
      subst hw
      go_wp2_with fail
      refine (putc_nil A n c 0 0 none 0 0 w).mono ?_; rintro e w1 ⟨rfl, hw⟩
      subst hw
      go_wp2_with fail
      refine (pnew_p 0 0 0 (by omega) (by omega) w).mono ?_; rintro e w1 ⟨sb, lb, rfl, g1, g2, hs1, hb1⟩
      have B1 := Lib.hid hb1
      clear hs1 hb1
      go_wp2_with fail
      refine (put_from ⟨sb, 0, none⟩ A bs n c x _ w1 HN.out HLC.out ((HR.out.below B1.out).more B1.out.size) HB.out HZ.out).mono ?_; rintro e w2 ⟨rfl, hb2⟩
      have B2 := Lib.hid (B1.out.trans (hb2.mono B1.out.size))
      clear hb2
      go_wp2_with fail
      refine (put_arg ⟨sb, 0, none⟩ A n c 0 (-1) none 0 0 w2 (by omega)).mono ?_; rintro e w3 ⟨rfl, hw⟩
      subst hw
      go_wp2_with fail
      refine (wakes14 _).mono ?_; rintro e w7 ⟨rfl, hb7⟩
      have B7 := Lib.hid (B2.out.trans (hb7.mono B2.out.size))
      clear hb7
      go_wp2
      go_ret
      exact ⟨rfl, B7.out⟩
end Go.Proofs.Ythcgglacbgjdhaa

/- A slice of steps that came in. -/
namespace Go.Proofs.Ythcgglacbgjdhaa.Opn
open Go.ChangeShapes Go.WideShapes Go.Deep Go.RowKit Fnd
set_option linter.unusedVariables false
set_option linter.unusedSimpArgs false
section
variable {H : Type} {enc : TypeId × Value → H} {P : Program} {w : World}
theorem open_sqs {t e t0 : TypeId} {f0 f1 f2 : Field} {A : Option Addr} {len cap : Nat} {d : DataW H} {p : List MemPlace} (ht : P.underlying t = some (.slice e)) (he : P.underlying e = some (.struct #[f0, f1, f2]))
    (hone : oneCellFields P #[f0, f1, f2] = true) (hC : P.cellsOf e = 3) (e0 : f0.type = t0) (e1 : f1.type = t0) (e2 : f2.type = t0) (h0 : P.underlying t0 = some (.int .i64))
    (h : DataW.Trod enc P w 0 (fun _ => true) true t (.slice A len cap) d p) :
    ∃ l : List Sq, len = l.length ∧ l.length ≤ cap ∧ cap ≤ maxLen ∧ SqRow w w.heap.size A l ∧ ∀ s ∈ l, s.fits := by
  obtain ⟨fuel, hf⟩ := h
  rcases open_slice_fields ht he hone hC hf with ⟨hcs, _⟩ | ⟨x, l, c, m, hcs, hl, hm, hmm, hcell⟩
  · simp [Value.cells] at hcs
    obtain ⟨rfl, rfl, rfl⟩ := hcs
    exact ⟨[], rfl, Nat.le_refl _, Nat.zero_le _, fun h => absurd h (by simp), fun s hs => absurd hs (by simp)⟩
  · simp [Value.cells] at hcs
    obtain ⟨rfl, rfl, rfl⟩ := hcs
    simp only [if_true] at hmm
    subst hmm
    have key : ∀ i, i < len → ∃ z : Sq, w.cell? (x.add (i * 3)) = some (.int .i64 z.lits) ∧ w.cell? (x.add (i * 3 + 1)) = some (.int .i64 z.mat) ∧ w.cell? (x.add (i * 3 + 2)) = some (.int .i64 z.back) ∧ z.fits := by
      intro i hi
      obtain ⟨n, hn⟩ := hcell i (by omega)
      obtain ⟨v0, y0, hc0, ht0⟩ := hn 0 f0 rfl
      obtain ⟨v1, y1, hc1, ht1⟩ := hn 1 f1 rfl
      obtain ⟨v2, y2, hc2, ht2⟩ := hn 2 f2 rfl
      rw [e0] at ht0; rw [e1] at ht1; rw [e2] at ht2
      obtain ⟨z0, hz0, _, hw0⟩ := DataW.trod_int h0 ht0
      obtain ⟨z1, hz1, _, hw1⟩ := DataW.trod_int h0 ht1
      obtain ⟨z2, hz2, _, hw2⟩ := DataW.trod_int h0 ht2
      simp only [List.cons.injEq, and_true] at hz0 hz1 hz2
      subst hz0; subst hz1; subst hz2
      exact ⟨⟨z0, z1, z2⟩, hc0, hc1, hc2, bounds_i64 hw0, bounds_i64 hw1, bounds_i64 hw2⟩
    obtain ⟨q, hq⟩ := pick key
    refine ⟨(List.range len).map q, by simp, by simpa using hl, hm, fun hn => ?_, fun s hs => ?_⟩
    · simp only [List.length_map, List.length_range] at hn
      have hx0 := (hq 0 hn).1
      have hx := add_plain hx0
      refine ⟨x.block, x.off, by rw [← hx], lt_of_cell (a := x) (by simpa [Addr.add] using hx0), fun j hj => ?_⟩
      simp only [List.length_map, List.length_range] at hj
      obtain ⟨k0, k1, k2, _⟩ := hq j hj
      rw [hx, add_at] at k0 k1 k2
      have e : ((List.range len).map q).getD j default = q j := by simp [List.getD, hj]
      rw [e]
      exact ⟨k0, by rw [Nat.add_assoc]; exact k1, by rw [Nat.add_assoc]; exact k2⟩
    · obtain ⟨i, hi, rfl⟩ := List.mem_map.1 hs
      exact (hq i (List.mem_range.1 hi)).2.2.2
end
end Go.Proofs.Ythcgglacbgjdhaa.Opn

/- The laws of lzmaput, together. -/
namespace Go.Proofs.Ythcgglacbgjdhaa
end Go.Proofs.Ythcgglacbgjdhaa
