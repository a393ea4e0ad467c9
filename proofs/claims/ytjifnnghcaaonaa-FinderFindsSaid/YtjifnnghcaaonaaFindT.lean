/- The contract of lits. -/
import Derived.Test.YtjifnnghcaaonaaChecked
import Derived.Test.YtjifnnghcaaonaaFindR
import Derived.Test.YtjifnnghcaaonaaFindB
namespace Go.Proofs.Ytjifnnghcaaonaa
open Go.RowKit Fnd
set_option linter.unusedVariables false
set_option linter.unusedSimpArgs false

theorem slice_to (A : Option Addr) (n c m : Nat) (hf : m ≤ n) (hn : n ≤ c) (w : World) :
    (Instr.sliceAt 22 (.slice A n c) none (some (.int .i64 (m : Int))) none).run Try.prog w = .ok (.slice A m c) w := by
  simp [go_sem]
  intro h; omega

set_option maxRecDepth 100000 in
set_option maxHeartbeats 1000000 in
theorem lits_any (A : Option Addr) (bs : List UInt8) (n c : Nat) (at_ win lo hi : Nat) (B : Option Addr) (l : List Sq) (m d : Nat) (w : World) (hn : n = bs.length) (hc : bs.length ≤ c) (hcm : c ≤ maxLen) (hr : BRow w w.heap.size A bs) (hlen : bs.length ≤ 1048576)
    (hm : m = l.length) (hl : SqRow w w.heap.size B l) (hml : l.length ≤ 140737488355328) (hR : Right bs win lo hi l at_) :
    Calls Try.prog 14 #[.slice A n c, .int .i64 at_, .slice B m d] w fun e w' => ∃ v, e = .returned v ∧ OwnB w' 5 w.heap.size v (bs.take at_ ++ litsGo bs l at_) ∧ Below w.heap.size w w' := by
  subst hn; subst hm
  have HR := Lib.hid hr
  have HL := Lib.hid hl
  have RI := Lib.hid hR
  have hat := hR.le
  have hs1 := fun w => slice_to A bs.length c at_ hat hc w
  have htk : (bs.take at_).length = at_ := by rw [List.length_take]; omega
  have HTK := Lib.hid htk
  unfold maxLen at hcm
  clear hr hl hR htk
  go_enter Try.func14, Try.ntmps14
  go_wp2_with (at_builtin; refine wpList_append_bytes _ rfl (.tmp 10) (.tmp 13) 22 rfl 5 w.heap.size Try.underlying22 Try.info_u8 (.slice (some ⟨w.heap.size, 0, none⟩) 0 0) [] rfl ?own1 A at_ c w.heap.size (bs.take at_) rfl HTK.out.symm ?row1 ?len1 ?base1 ?next1)
  case own1 => exact OwnB.made _ _ _ (Nat.le_refl _)
  case row1 => exact (HR.out.take at_).below ((Below.refl _ _).alloc (Nat.le_refl _) _)
  case len1 => simp; omega
  case base1 => simp
  case next1 =>
    intro v1 w1 hown1 hfrm1 hnew1
    have hb1 : Below w.heap.size w w1 := ((Below.refl _ _).alloc (Nat.le_refl _) _).trans (hfrm1.below (by simp) (by intro k hk; simp [Value.ownBlock] at hk; omega))
    have O1 := Lib.hid hown1
    have B1 := Lib.hid hb1
    clear hown1 hfrm1 hnew1 hb1 hs1
    go_wp2
    go_loopw [7, 8, 9] (fun ov av iv wr => ∃ (k a : Nat) (o : List UInt8), iv = .int .i64 k ∧ av = .int .i64 a ∧ k ≤ l.length ∧ Right bs win lo hi (l.drop k) a ∧ OwnB wr 5 w.heap.size ov o ∧ o ++ litsGo bs (l.drop k) a = bs.take at_ ++ litsGo bs l at_ ∧ o.length ≤ a ∧ Below w.heap.size w wr) (fun _ _ iv _ => l.length - (intOf iv).toNat)
    case atStart => exact ⟨0, at_, bs.take at_, rfl, rfl, by omega, RI.out, by simpa using O1.out, rfl, by rw [HTK.out]; exact Nat.le_refl _, B1.out⟩
    case round =>
      obtain ⟨k, a, o, rfl, rfl, hk, hri, hown, heq, hol, hbe⟩ := hrel
      have BE := Lib.hid hbe
      have OW := Lib.hid hown
      have hale := hri.le
      clear hbe hown
      by_cases hkl : k < l.length
      · obtain ⟨b, off, hB, hb, hcell⟩ := HL.out (by omega)
        subst hB
        obtain ⟨c0, c1, c2⟩ := hcell k hkl
        obtain ⟨s, hs⟩ : ∃ s, l.getD k default = s := ⟨_, rfl⟩
        rw [hs] at c0 c1 c2
        have hdrop : l.drop k = s :: l.drop (k + 1) := by
          rw [List.drop_eq_getElem_cons hkl, ← hs]
          simp [List.getD, hkl]
        have x0 := (BE.out.cell (p := ⟨b, off + k * 3, none⟩) hb).trans c0
        rw [hdrop] at hri
        have hLM : ∃ L M : Nat, s.lits = L ∧ s.mat = M ∧ a + L + M ≤ bs.length ∧ Right bs win lo hi (l.drop (k + 1)) (a + L + M) := by
          rcases hri with ⟨e, ⟨L, M, K, rfl, h1, h2, h3, h4, h5, h6, h7, h8⟩, hnext⟩ | ⟨hnil, L, rfl, h1, h2⟩
          · exact ⟨L, M, rfl, rfl, by omega, by rw [h1]; exact hnext⟩
          · exact ⟨L, 0, rfl, rfl, by omega, by rw [hnil]; exact h2⟩
        obtain ⟨L, M, e1, e2, h3, h4⟩ := hLM
        have heq2 : (o ++ (bs.drop a).take L) ++ litsGo bs (l.drop (k + 1)) (a + L + M) = bs.take at_ ++ litsGo bs l at_ := by
          rw [← heq, hdrop, litsGo, e1, e2]
          simp
        rw [e1] at x0 c0
        rw [e2] at c1
        have EQ := Lib.hid heq2
        have NX := Lib.hid h4
        have hs2 := fun w => slice_mid A bs.length c a L (by omega) hc w
        have ROW := Lib.hid ((HR.out.drop (k := a) (cap := c) hc).take L)
        have hlL : ((bs.drop a).take L).length = L := by rw [List.length_take, List.length_drop]; omega
        have HLL := Lib.hid hlL
        have C0 := Lib.hid c0
        have C1 := Lib.hid c1
        obtain ⟨Ad, had⟩ : ∃ Ad, (if c = a then A else A.map (·.add a)) = Ad := ⟨_, rfl⟩
        rw [had] at hs2 ROW
        clear hcell c0 c1 c2 hs hri heq heq2 h4 hlL hdrop e1 e2 had
        generalize (bs.drop a).take L = nw at *
        go_wp2_with (at_builtin; refine wpList_append_bytes _ rfl (.tmp 22) (.tmp 32) 22 rfl 5 w.heap.size Try.underlying22 Try.info_u8 u7 o rfl ?own2 Ad L (c - a) w.heap.size nw rfl HLL.out.symm ?row2 ?len2 ?base2 ?next2)
        case own2 => exact OW.out
        case row2 => exact ROW.out.below BE.out
        case len2 => rw [HLL.out]; omega
        case base2 => exact BE.out.size
        case next2 =>
          intro v2 w2 hown2 hfrm2 hnew2
          have hb2 : Below w.heap.size w w2 := BE.out.trans (hfrm2.below BE.out.size (fun q hq => (OW.out.lt hq).1))
          have O2 := Lib.hid hown2
          have B2 := Lib.hid hb2
          have z0 := (hb2.cell (p := ⟨b, off + k * 3, none⟩) hb).trans C0.out
          have z1 := (hb2.cell (p := ⟨b, off + k * 3 + 1, none⟩) hb).trans C1.out
          clear hown2 hfrm2 hnew2 hb2 hs2 x0
          go_wp2
          go_quiet (fail)
          go_wp2
          exact ⟨⟨k + 1, a + L + M, _, by go_num, by go_num, by omega, NX.out, O2.out.drewN _, EQ.out, by rw [List.length_append, HLL.out]; omega, below_drewN B2.out _⟩, by simp [intOf]; omega⟩
      · have hk2 : k = l.length := by omega
        subst hk2
        rw [List.drop_eq_nil_of_le (Nat.le_refl _)] at heq
        have heq2 : o = bs.take at_ ++ litsGo bs l at_ := by rw [← heq]; simp [litsGo]
        have EQ := Lib.hid heq2
        clear heq heq2 hri
        go_wp2
        go_ret
        exact ⟨_, rfl, by rw [← EQ.out]; exact OW.out, BE.out⟩
end Go.Proofs.Ytjifnnghcaaonaa
