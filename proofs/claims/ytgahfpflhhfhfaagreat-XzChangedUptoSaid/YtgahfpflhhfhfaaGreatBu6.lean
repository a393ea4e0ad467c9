/- Texts of this proof, put together: XzW, XzO, RowsOpen, XzZ, XzMa, XzMb, XzMc, XzMd, XzMe, XzMf, XzMg, XzX, XzY, XzMh. -/
import Derived.Test.YtgahfpflhhfhfaaGreatRows
import Derived.Deep.Matrix
import Derived.ArgAppend
import Derived.Lib.SlBytesConst
import Derived.Test.YtgahfpflhhfhfaaGreatBu1
import Derived.Test.YtgahfpflhhfhfaaGreatBu2
import Derived.Test.YtgahfpflhhfhfaaGreatBu3
import Derived.Test.YtgahfpflhhfhfaaGreatBu4
import Derived.Test.YtgahfpflhhfhfaaGreatBu5
set_option linter.unusedVariables false
set_option linter.unusedSimpArgs false
/- A member that is made of plain blocks: its index, its foot, all of it: plain. -/
namespace Go.Proofs.YtgahfpflhhfhfaaGreat
open Go.RowKit Rng Win Lz Box
set_option linter.unusedVariables false
set_option linter.unusedSimpArgs false
def fits63 (l : List (Nat × Nat)) : Prop := ∀ p ∈ l, p.1 < 9223372036854775808 ∧ p.2 < 9223372036854775808
theorem xNum_put {n : Nat} (h : n < 9223372036854775808) (r : List UInt8) : xNum n (put n ++ r) = .inr r := by
  unfold xNum
  rw [number_put h r, if_neg (by simp), if_neg (by simp), List.drop_append_of_le_length (Nat.le_refl _), List.drop_length, List.nil_append]
theorem xNums_recs (r : List UInt8) : ∀ (l : List (Nat × Nat)), fits63 l → xNums (l.flatMap fun p => [p.1, p.2]) (recsB l ++ r) = .inr r
  | [], _ => rfl
  | p :: l, h => by
    have hp := h p (by simp)
    have e1 : (p :: l).flatMap (fun p => [p.1, p.2]) = p.1 :: p.2 :: l.flatMap (fun p => [p.1, p.2]) := rfl
    have e2 : recsB (p :: l) ++ r = put p.1 ++ (put p.2 ++ (recsB l ++ r)) := by
      unfold recsB
      rw [List.flatMap_cons]
      simp only [List.append_assoc]
    rw [e1, e2]
    unfold xNums
    rw [xNum_put hp.1]
    simp only
    unfold xNums
    rw [xNum_put hp.2]
    exact xNums_recs r l (fun q hq => h q (List.mem_cons_of_mem _ hq))
/-- An index. -/
def idxRaw (recs : List (Nat × Nat)) : List UInt8 := headB recs ++ recsB recs
def idxPad (recs : List (Nat × Nat)) : List UInt8 := idxRaw recs ++ zs (idxRaw recs).length
def idxB (recs : List (Nat × Nat)) : List UInt8 := sealOn (idxPad recs)
theorem idxRaw_len (recs : List (Nat × Nat)) : 2 ≤ (idxRaw recs).length ∧ (idxRaw recs).length ≤ 10 + 18 * recs.length := by
  have h1 := put_len recs.length
  have h2 := recsB_len recs
  unfold idxRaw headB
  rw [List.length_append, List.length_cons]
  omega
theorem idxB_len (recs : List (Nat × Nat)) : (idxB recs).length = (idxRaw recs).length + padOf (idxRaw recs).length + 4 ∧ (idxB recs).length % 4 = 0 := by
  have h := padOf_mod (idxRaw recs).length
  unfold idxB sealOn idxPad
  rw [List.length_append, List.length_append, zs_len, sealB_len]
  omega
theorem xIndex_made (recs : List (Nat × Nat)) (hn : recs.length < 9223372036854775808) (hf : fits63 recs) (r : List UInt8) : xIndex recs (idxB recs ++ r) = .inr ((idxB recs).length, r) := by
  have hl := idxRaw_len recs
  have hb := idxB_len recs
  have hc : idxB recs ++ r = 0 :: (put recs.length ++ (recsB recs ++ (zs (idxRaw recs).length ++ (sealB (idxPad recs) ++ r)))) := by
    have hi : idxPad recs = 0 :: (put recs.length ++ (recsB recs ++ zs (idxRaw recs).length)) := by
      show (0 :: put recs.length) ++ recsB recs ++ zs (idxRaw recs).length = _
      simp only [List.append_assoc, List.cons_append]
    have h2 : idxB recs ++ r = idxPad recs ++ (sealB (idxPad recs) ++ r) := by
      show (idxPad recs ++ sealB (idxPad recs)) ++ r = _
      rw [List.append_assoc]
    refine h2.trans ((congrArg (· ++ (sealB (idxPad recs) ++ r)) hi).trans ?_)
    simp only [List.append_assoc, List.cons_append]
  have hlen : (idxB recs ++ r).length - (zs (idxRaw recs).length ++ (sealB (idxPad recs) ++ r)).length = (idxRaw recs).length := by
    rw [List.length_append, List.length_append, List.length_append, zs_len, sealB_len]
    omega
  have htake : (idxB recs ++ r).take ((idxRaw recs).length + padOf (idxRaw recs).length) = idxPad recs := by
    have hpl : (idxPad recs).length = (idxRaw recs).length + padOf (idxRaw recs).length := by unfold idxPad; rw [List.length_append, zs_len]
    unfold idxB sealOn
    rw [List.append_assoc, List.take_append_of_le_length (by omega)]
    exact List.take_of_length_le (by omega)
  unfold xIndex recN
  have hd : (idxB recs ++ r).drop 1 = put recs.length ++ (recsB recs ++ (zs (idxRaw recs).length ++ (sealB (idxPad recs) ++ r))) := by rw [hc]; rfl
  rw [hd]
  unfold xNums
  rw [xNum_put hn]
  simp only
  rw [xNums_recs _ recs hf]
  simp only
  rw [hlen, if_neg (by rw [List.length_append, List.length_append, zs_len, sealB_len]; omega), zs_take, zs_drop, htake, List.take_append_of_le_length (by rw [sealB_len]; omega), List.take_of_length_le (by rw [sealB_len]; omega), if_neg (by simp)]
  have e : (zs (idxRaw recs).length ++ (sealB (idxPad recs) ++ r)).drop (padOf (idxRaw recs).length + 4) = r := by
    rw [← List.drop_drop, zs_drop, List.drop_append_of_le_length (by rw [sealB_len]; omega), List.drop_of_length_le (by rw [sealB_len]; omega), List.nil_append]
  rw [e, hb.1]
/-- A head. -/
def headM (kc : UInt8) : List UInt8 := magic ++ sealOn [0, kc]
theorem headM_ok {kc : UInt8} (h : kc = 0 ∨ kc = 1 ∨ kc = 4) : headOf (headM kc) = ((kc.toNat : Int), 0) ∧ (headM kc).length = 12 := by
  have hl : (headM kc).length = 12 := rfl
  refine ⟨?_, hl⟩
  have hs := sealed_seal [0, kc]
  unfold headOf
  rw [if_neg (by omega)]
  have e1 : (headM kc).take 6 = magic := rfl
  have e2 : ((headM kc).take 12).drop 6 = sealOn [0, kc] := rfl
  have e3 : (headM kc).getD 6 0 = 0 := rfl
  have e4 : (headM kc).getD 7 0 = kc := rfl
  rw [e1, e2, e3, e4, if_neg (by rw [hs]; simp), if_neg (by unfold flagsOk; simp [h])]
/-- A foot. -/
def footM (k : Nat) (kc : UInt8) : List UInt8 := sealB (four k ++ [0, kc]) ++ (four k ++ [0, kc]) ++ [89, 90]
theorem footM_ok {kc : UInt8} (h : kc = 0 ∨ kc = 1 ∨ kc = 4) {k : Nat} (hk : k < 4294967296) : footOf (footM k kc) = ((kc.toNat : Int), (k + 1) * 4, 0) ∧ (footM k kc).length = 12 := by
  have hl : (footM k kc).length = 12 := rfl
  refine ⟨?_, hl⟩
  unfold footOf
  rw [if_neg (by omega)]
  have e1 : ((footM k kc).drop 4).take 6 = four k ++ [0, kc] := rfl
  have e2 : (footM k kc).take 4 = sealB (four k ++ [0, kc]) := rfl
  have e3 : ((footM k kc).take 12).drop 10 = [89, 90] := rfl
  have e4 : (footM k kc).getD 8 0 = 0 := rfl
  have e5 : (footM k kc).getD 9 0 = kc := rfl
  have e6 : hiNum (footM k kc) 4 = ((((0 * 256 + (UInt8.ofNat (k / 16777216)).toNat) * 256 + (UInt8.ofNat (k / 65536)).toNat) * 256 + (UInt8.ofNat (k / 256)).toNat) * 256 + (UInt8.ofNat k).toNat) := rfl
  have e7 : hiNum (footM k kc) 4 = k := by
    rw [e6, UInt8.toNat_ofNat', UInt8.toNat_ofNat', UInt8.toNat_ofNat', UInt8.toNat_ofNat']
    omega
  rw [e1, e2, e3, e4, e5, e7, if_neg (by simp), if_neg (by unfold flagsOk; simp [h])]
/-- A member of plain blocks. -/
def madeX (kc : UInt8) (numbers : Bool) (code : UInt8) (l : List (List UInt8)) : List UInt8 :=
  headM kc ++ (blocksB (kc.toNat : Int) numbers code l ++ (idxB (recsX (kc.toNat : Int) numbers code l) ++ footM ((idxB (recsX (kc.toNat : Int) numbers code l)).length / 4 - 1) kc))
theorem recsX_fits (kind : Int) (numbers : Bool) (code : UInt8) (l : List (List UInt8)) (hl : ∀ b ∈ l, b.length ≤ 65536) : fits63 (recsX kind numbers code l) := by
  intro p hp
  obtain ⟨b, hb, rfl⟩ := List.mem_map.1 hp
  have h1 := hl b hb
  have h2 := hdB_len numbers b code
  have h3 := hdPad_len numbers b code
  have h4 := bodyB_len h1
  have h5 : chkLen kind ≤ 8 := by
    unfold chkLen
    split
    · omega
    · split <;> omega
  unfold recB
  simp only
  omega
theorem idxB_head (recs : List (Nat × Nat)) (r : List UInt8) : (idxB recs ++ r).getD 0 0 = 0 := rfl
theorem madeX_read {kc : UInt8} (hk : kc = 0 ∨ kc = 1 ∨ kc = 4) (numbers : Bool) {code : UInt8} (h : code.toNat ≤ 40) {budget : Nat} {l : List (List UInt8)} (hw : l = [] ∨ winOf code.toNat ≤ budget) (hl : ∀ b ∈ l, b.length ≤ 65536) (ht : l.flatten.length ≤ 16777216) (hn : l.length ≤ 1000) (r : List UInt8) :
    xMem budget (madeX kc numbers code l ++ r) = (l.flatten, .inr r) := by
  obtain ⟨h1, h2⟩ := headM_ok hk
  obtain ⟨R, hR⟩ : ∃ R, recsX (kc.toNat : Int) numbers code l = R := ⟨_, rfl⟩
  have hRl : R.length = l.length := by rw [← hR]; unfold recsX; rw [List.length_map]
  have hRf : fits63 R := by rw [← hR]; exact recsX_fits _ _ _ _ hl
  have hi1 := idxB_len R
  have hi2 := idxRaw_len R
  obtain ⟨s, hs⟩ : ∃ s, idxB R ++ (footM ((idxB R).length / 4 - 1) kc ++ r) = s := ⟨_, rfl⟩
  have hs1 : 1 ≤ s.length := by rw [← hs, List.length_append]; omega
  have hs0 : s.getD 0 0 = 0 := by rw [← hs]; exact idxB_head R _
  have hc : madeX kc numbers code l ++ r = headM kc ++ (blocksB (kc.toNat : Int) numbers code l ++ s) := by
    unfold madeX
    rw [hR, ← hs]
    simp only [List.append_assoc]
  rw [hc]
  unfold xMem
  rw [if_neg (by rw [List.length_append]; omega), List.take_append_of_le_length (by omega), List.take_of_length_le (by omega), h1, if_neg (by simp), List.drop_append_of_le_length (by omega), List.drop_of_length_le (by omega), List.nil_append]
  have hx : xBlocks budget (kc.toNat : Int) ((headM kc ++ (blocksB (kc.toNat : Int) numbers code l ++ s)).length + 1) [] [] (blocksB (kc.toNat : Int) numbers code l ++ s) = (l.flatten, .inr (R, s)) := by
    rcases hw with rfl | hw
    · have hR0 : R = [] := by rw [← hR]; rfl
      subst hR0
      show xBlocks budget (kc.toNat : Int) _ [] [] s = _
      unfold xBlocks
      rw [if_neg (by omega), if_pos hs0]
      rfl
    · rw [xBlocks_made budget (kc.toNat : Int) numbers h hw s hs1 hs0 l _ [] [] hl (by simpa using ht) (by rw [@List.length_append _ (headM kc)]; omega), hR]
      rfl
  rw [hx]
  simp only
  unfold xEnd
  rw [← hs, xIndex_made R (by omega) hRf]
  simp only
  obtain ⟨k, hk2⟩ : ∃ k, (idxB R).length / 4 - 1 = k := ⟨_, rfl⟩
  rw [hk2]
  have hpl := padOf_lt (idxRaw R).length
  obtain ⟨f1, f2⟩ := footM_ok hk (k := k) (by omega)
  rw [if_neg (by rw [List.length_append]; omega), List.take_append_of_le_length (by omega), List.take_of_length_le (by omega), f1, if_neg (by simp), if_neg (by simp only; omega), List.drop_append_of_le_length (by omega), List.drop_of_length_le (by omega), List.nil_append]
/-- With a budget below the blocks' window. -/
theorem madeX_over {kc : UInt8} (hk : kc = 0 ∨ kc = 1 ∨ kc = 4) (numbers : Bool) {code : UInt8} (h : code.toNat ≤ 40) {budget : Nat} {b : List UInt8} {l : List (List UInt8)} (hw : (budget : Int) < winOf code.toNat) (hb : b.length ≤ 65536) (r : List UInt8) :
    xMem budget (madeX kc numbers code (b :: l) ++ r) = ([], .inl 40) := by
  obtain ⟨h1, h2⟩ := headM_ok hk
  obtain ⟨s, hs⟩ : ∃ s, blocksB (kc.toNat : Int) numbers code l ++ (idxB (recsX (kc.toNat : Int) numbers code (b :: l)) ++ (footM ((idxB (recsX (kc.toNat : Int) numbers code (b :: l))).length / 4 - 1) kc ++ r)) = s := ⟨_, rfl⟩
  have hc : madeX kc numbers code (b :: l) ++ r = headM kc ++ (blockB (kc.toNat : Int) numbers b code ++ s) := by
    unfold madeX
    rw [← hs]
    conv => lhs; unfold blocksB; rw [List.flatMap_cons]
    simp only [List.append_assoc]
    rfl
  rw [hc]
  unfold xMem
  rw [if_neg (by rw [List.length_append]; omega), List.take_append_of_le_length (by omega), List.take_of_length_le (by omega), h1, if_neg (by simp), List.drop_append_of_le_length (by omega), List.drop_of_length_le (by omega), List.nil_append]
  obtain ⟨b1, b2⟩ := blockB_head (kc.toNat : Int) numbers b s code
  unfold xBlocks
  rw [if_neg (by rw [List.length_append]; omega), if_neg b1, xBlock_over budget (kc.toNat : Int) _ numbers h hb hw s]
  rfl
end Go.Proofs.YtgahfpflhhfhfaaGreat

/- The document's small makers: a number, plain chunks, a check's bytes: the walks. -/
namespace Go.Proofs.YtgahfpflhhfhfaaGreat
open Go.RowKit Rng Win Lz Box
set_option linter.unusedVariables false
set_option linter.unusedSimpArgs false
theorem row_cellsX (w : World) (T : TypeId) (bs : List UInt8) (cs : Array Value) (h : cs = (bs.map byteV).toArray) : BRow (w.alloc (.cells cs T)) (w.heap.size + 1) (some ⟨w.heap.size, 0, none⟩) bs := by
  intro _
  subst h
  refine ⟨w.heap.size, 0, rfl, Nat.lt_succ_self _, fun j hj => ?_⟩
  have hp := Pts.new w (bs.map byteV).toArray T
  rw [hp.cell, Nat.zero_add, List.getElem?_toArray, List.getElem?_map, List.getElem?_eq_getElem hj, List.getD_eq_getElem?_getD, List.getElem?_eq_getElem hj]
  rfl
theorem number20_p (m : Nat) (w : World) (hm : m < 9223372036854775808) : Calls Tryz.prog 26 #[.int .u64 (m : Int)] w fun e w' => ∃ v, e = .returned v ∧ OwnB w' 5 w.heap.size v (put m) ∧ Below w.heap.size w w' := by
  have HN := Lib.hid (rputNumber_p m w (by omega))
  have HM := Lib.hid hm
  clear hm
  go_enter Tryz.func26, Tryz.ntmps26
  go_wp2_with fail
  refine HN.out.mono ?_; rintro e w1 ⟨h1, h2, h3⟩
  obtain ⟨v, rfl, ho⟩ := h1 HM.out
  have HO := Lib.hid (And.intro ho h3)
  clear h1 h2 h3 ho
  go_wp2
  go_ret
  exact ⟨_, rfl, HO.out.1, HO.out.2⟩
set_option maxHeartbeats 1000000 in
theorem chunks_p (A : Option Addr) (bs : List UInt8) (n c B : Nat) (w : World) (hn : n = bs.length) (hr : BRow w B A bs) (hB : B ≤ w.heap.size) (hc : n ≤ c) (hl : n ≤ 65536) :
    Calls Tryz.prog 27 #[.slice A n c] w fun e w' => ∃ v, e = .returned v ∧ OwnB w' 5 w.heap.size v (bodyB bs) ∧ Below w.heap.size w w' := by
  by_cases h0 : n = 0
  · have hbs : bs = [] := List.eq_nil_of_length_eq_zero (by omega)
    subst h0
    subst hbs
    clear hn hr hc hl
    go_enter Tryz.func27, Tryz.ntmps27
    go_wp2
    refine wp_loop_rounds 1 ?_
    rw [rounds_succ]
    go_wp2_with (at_builtin; refine wpList_append_bytes _ rfl (.tmp 31) (.tmp 32) 22 rfl 5 w.heap.size Tryz.underlying22 Tryz.info_u8 (.slice none 0 0) [] rfl ?own1 (some ⟨w.heap.size, 0, none⟩) 1 1 (w.heap.size + 1) [0] rfl rfl ?row1 ?len1 ?base1 ?next1)
    case own1 => exact OwnB.nil _ _ _
    case row1 => exact BRow.oneB w _ 0
    case len1 => decide
    case base1 => simp
    case next1 =>
      intro v1 w1 hown1 hfrm1 hnew1
      have H1 : Hid (OwnB w1 5 w.heap.size v1 ([] ++ [0]) ∧ Below w.heap.size w w1) := Lib.hid ⟨hown1, ((Below.refl _ w).alloc (Nat.le_refl _) _).trans (hfrm1.below (by simp) (fun q hq => by cases hq))⟩
      clear hown1 hfrm1 hnew1
      go_wp2
      go_ret
      exact ⟨_, rfl, H1.out.1, H1.out.2⟩
  · obtain ⟨N1, hN1⟩ : ∃ N1, n - 1 = N1 := ⟨_, rfl⟩
    have hn1 : (n : Int) - 1 = (N1 : Int) := by omega
    have hn1w : IntKind.i64.wrap (N1 : Int) = (N1 : Int) := Go.IntWalk.i64_in _ (by omega)
    obtain ⟨h1, hh1⟩ : ∃ x, UInt8.ofNat (N1 / 256) = x := ⟨_, rfl⟩
    obtain ⟨h2, hh2⟩ : ∃ x, UInt8.ofNat N1 = x := ⟨_, rfl⟩
    have sh : (N1 : Int) / 256 = ((N1 / 256 : Nat) : Int) := by omega
    have b1 := u8_wrap_nat (N1 / 256)
    have b2 := u8_wrap_nat N1
    rw [hh1, ← sh] at b1
    rw [hh2] at b2
    have hBB : bodyB bs = 1 :: h1 :: h2 :: (bs ++ [0]) := by
      unfold bodyB
      rw [if_neg (by omega), show bs.length - 1 = N1 by omega, hh1, hh2]
    have hmin : min (n : Int) 65536 = (n : Int) := by omega
    have f1 := fun w => Fnd.min2_int (P := Tryz.prog) #[3, 3] 3 _ _ _ hmin w
    have hnp : (0 : Int) < (n : Int) := by omega
    have hs1 := fun w => slice_toX A n c n (Nat.le_refl _) hc w
    have hs2 := fun w => slice_fromX A n c n (Nat.le_refl _) hc w
    rw [Nat.sub_self] at hs2
    obtain ⟨A', hA'⟩ : ∃ A', (if c = n then A else A.map (·.add n)) = A' := ⟨_, rfl⟩
    obtain ⟨c', hc'⟩ : ∃ c', c - n = c' := ⟨_, rfl⟩
    simp only [hA', hc'] at hs2
    have HR := Lib.hid hr
    have HBB := Lib.hid hBB
    have HN := Lib.hid (And.intro hn (And.intro hB hl))
    clear hr hBB hn hB sh hh1 hh2 hN1 hA' hc' h0 hmin hc
    go_enter Tryz.func27, Tryz.ntmps27
    go_wp2
    refine wp_loop_rounds 2 ?_
    rw [rounds_succ]
    go_wp2_with (at_builtin; refine wpList_append_bytes _ rfl (.tmp 12) (.tmp 21) 22 rfl 5 w.heap.size Tryz.underlying22 Tryz.info_u8 (.slice none 0 0) [] rfl ?own1 (some ⟨w.heap.size, 0, none⟩) 3 3 (w.heap.size + 1) [1, h1, h2] rfl rfl ?row1 ?len1 ?base1 ?next1)
    case own1 => exact OwnB.nil _ _ _
    case row1 => exact row_cellsX w _ [1, h1, h2] _ rfl
    case len1 => simp
    case base1 => simp
    case next1 =>
      intro v1 w1 hown1 hfrm1 hnew1
      have hb1 : Below w.heap.size w w1 := ((Below.refl _ w).alloc (Nat.le_refl _) _).trans (hfrm1.below (by simp) (fun q hq => by cases hq))
      obtain ⟨A3, k3, rfl, -, -, -⟩ := hown1.slice
      have O1 := Lib.hid hown1
      have B1 := Lib.hid hb1
      clear hown1 hfrm1 hnew1 hb1
      go_wp2_with (at_builtin; refine wpList_append_bytes _ rfl (.tmp 23) (.tmp 26) 22 rfl 5 w.heap.size Tryz.underlying22 Tryz.info_u8 _ ([] ++ [1, h1, h2]) rfl ?own2 A n c B bs rfl ?lenn ?row2 ?len2 ?base2 ?next2)
      case own2 => exact O1.out
      case lenn => exact HN.out.1
      case row2 => exact HR.out.below (B1.out.mono HN.out.2.1)
      case len2 => have := HN.out.1; have := HN.out.2.2; simp; omega
      case base2 => exact B1.out.size
      case next2 =>
        intro v2 w2 hown2 hfrm2 hnew2
        have hb2 : Below w.heap.size w w2 := B1.out.trans (hfrm2.below B1.out.size (fun q hq => (O1.out.lt hq).1))
        obtain ⟨A4, k4, rfl, -, -, -⟩ := hown2.slice
        have O2 := Lib.hid hown2
        have B2 := Lib.hid hb2
        clear hown2 hfrm2 hnew2 hb2
        go_wp2
        rw [rounds_succ]
        go_wp2_with (at_builtin; refine wpList_append_bytes _ rfl (.tmp 31) (.tmp 32) 22 rfl 5 w.heap.size Tryz.underlying22 Tryz.info_u8 _ ([] ++ [1, h1, h2] ++ bs) rfl ?own3 (some ⟨w2.heap.size, 0, none⟩) 1 1 (w2.heap.size + 1) [0] rfl rfl ?row3 ?len3 ?base3 ?next3)
        case own3 => exact O2.out.alloc _
        case row3 => exact BRow.oneB w2 _ 0
        case len3 => have := HN.out.1; have := HN.out.2.2; simp; omega
        case base3 => have := B2.out.size; simp; omega
        case next3 =>
          intro v3 w3 hown3 hfrm3 hnew3
          have H3 : Hid (OwnB w3 5 w.heap.size v3 (bodyB bs) ∧ Below w.heap.size w w3) := Lib.hid ⟨by rw [HBB.out]; simpa [List.append_assoc] using hown3, (B2.out.alloc B2.out.size _).trans (hfrm3.below (by have := B2.out.size; simp; omega) (fun q hq => (O2.out.lt hq).1))⟩
          clear hown3 hfrm3 hnew3
          go_wp2
          go_ret
          exact ⟨_, rfl, H3.out.1, H3.out.2⟩
theorem chk_sum2 (k : Int) (bs : List UInt8) : ∃ X : Nat, X < 18446744073709551616 ∧ chkB k bs = leB X (chkLen k) ∧ ((k = 1 ∧ chkLen k = 4 ∧ X = crc32 bs) ∨ (k = 4 ∧ chkLen k = 8 ∧ X = crc64 bs) ∨ (k ≠ 1 ∧ k ≠ 4 ∧ chkLen k = 0 ∧ X = 0)) := by
  unfold chkB chkLen
  by_cases h1 : k = 1
  · rw [if_pos h1, if_pos h1]
    exact ⟨crc32 bs, Nat.lt_of_lt_of_le (c32_lt32 bs) (by decide), rfl, .inl ⟨h1, rfl, rfl⟩⟩
  · rw [if_neg h1, if_neg h1]
    by_cases h4 : k = 4
    · rw [if_pos h4, if_pos h4]
      exact ⟨crc64 bs, c64_lt64 bs, rfl, .inr (.inl ⟨h4, rfl, rfl⟩)⟩
    · rw [if_neg h4, if_neg h4]
      exact ⟨0, by decide, rfl, .inr (.inr ⟨h1, h4, rfl, rfl⟩)⟩
set_option maxHeartbeats 2000000 in
theorem sum20_p (k : Int) (A : Option Addr) (bs : List UInt8) (n c B : Nat) (w : World) (hn : n = bs.length) (hr : BRow w B A bs) (hl : bs.length ≤ 140737488355328) :
    Calls Tryz.prog 28 #[.int .i64 k, .slice A n c] w fun e w' => ∃ v, e = .returned v ∧ OwnB w' 5 w.heap.size v (chkB k bs) ∧ Below w.heap.size w w' := by
  obtain ⟨X, hX, hchk, hcase⟩ := chk_sum2 k bs
  obtain ⟨N, hN⟩ : ∃ N, chkLen k = N := ⟨_, rfl⟩
  rw [hN] at hchk hcase
  rw [hchk]
  have H32 := Lib.hid (rcrc32_any' A bs n c B w hn hr hl)
  have H64 := Lib.hid (rcrc64_any' A bs n c B w hn hr hl)
  have HX := Lib.hid hX
  have hN8 : N ≤ 8 := by rw [← hN]; exact chkLen_le k
  clear hn hr hl hN hchk hX
  go_enter Tryz.func28, Tryz.ntmps28
  iterate 40 (first | (with_reducible show Code.wp _ (Code.block 0 _) _ _ _) | go_values | go_guarded | go_step | go_upon | go_at_K | skip)
  go_cut [5, 6] from 9 to 19 (fun nv xv wx => nv = .int .i64 (N : Int) ∧ xv = .int .u64 (X : Int) ∧ wx = w)
  case first =>
    rcases hcase with ⟨rfl, rfl, rfl⟩ | ⟨rfl, rfl, rfl⟩ | ⟨h1, h4, rfl, rfl⟩
    · have hw : IntKind.u64.wrap (crc32 bs : Int) = (crc32 bs : Int) := Go.IntWalk.u64_in _ (by have := HX.out; omega)
      go_wp2_with (go_at_call 52; refine H32.out.mono ?_; rintro e w1 ⟨rfl, rfl⟩)
      go_meet
      case rel => exact ⟨rfl, rfl, rfl⟩
    · go_wp2_with (go_at_call 54; refine H64.out.mono ?_; rintro e w1 ⟨rfl, rfl⟩)
      go_meet
      case rel => exact ⟨rfl, rfl, rfl⟩
    · have q1 : (k == 1) = false := beq_eq_false_iff_ne.2 h1
      have q4 : (k == 4) = false := beq_eq_false_iff_ne.2 h4
      clear h1 h4
      go_wp2
      go_meet
      case rel => exact ⟨rfl, rfl, rfl⟩
  case rest =>
    obtain ⟨rfl, rfl, hwx⟩ := hcut
    rw [hwx]
    clear hcase H32 H64 hwx
    go_wp2
    go_loopw [7, 8] (fun vv iv wr => ∃ i : Nat, iv = .int .i64 (i : Int) ∧ i ≤ N ∧ OwnB wr 5 w.heap.size vv (leB X i) ∧ Below w.heap.size w wr) (fun _ iv _ => N - (intOf iv).toNat)
    case atStart => exact ⟨0, rfl, Nat.zero_le _, OwnB.nil _ _ _, Below.refl _ _⟩
    case round =>
      obtain ⟨i, rfl, hi, ho, hb⟩ := hrel
      obtain ⟨Av, kv, rfl, -, -, -⟩ := ho.slice
      have HO := Lib.hid (And.intro ho hb)
      clear ho hb
      by_cases hlt : i < N
      · have i8 : (8 : Int) * (i : Int) = ((8 * i : Nat) : Int) := by omega
        obtain ⟨I8, hI8⟩ : ∃ I8, 8 * i = I8 := ⟨_, rfl⟩
        rw [hI8] at i8
        have i8w : IntKind.i64.wrap (I8 : Int) = (I8 : Int) := Go.IntWalk.i64_in _ (by omega)
        have i8n : (I8 : Int).toNat = I8 := by omega
        obtain ⟨y, hy⟩ : ∃ y, UInt8.ofNat (X / 256 ^ i) = y := ⟨_, rfl⟩
        have hyv : (X : Int) / 2 ^ I8 % 256 = ((y.toNat : Nat) : Int) := by
          have q : (UInt8.ofNat (X / 256 ^ i)).toNat = X / 2 ^ I8 % 256 := by
            rw [← hI8, Nat.pow_mul]
            simp
          rw [← hy, q]
          simp
        obtain ⟨yn, hyn⟩ : ∃ yn, y.toNat = yn := ⟨_, rfl⟩
        rw [hyn] at hyv
        have hls := leB_snoc i X
        rw [hy] at hls
        have HLS := Lib.hid hls
        clear hls
        obtain ⟨L, hL⟩ : ∃ L, (leB X i).length = L := ⟨_, rfl⟩
        have hL' : L = i := by rw [← hL]; exact leB_len i X
        go_wp2_with (at_builtin; refine wpList_append_bytes _ rfl (.tmp 24) (.tmp 30) 22 rfl 5 w.heap.size Tryz.underlying22 Tryz.info_u8 (.slice Av (leB X i).length kv) (leB X i) rfl ?own (some ⟨wr.heap.size, 0, none⟩) 1 1 (wr.heap.size + 1) [y] rfl rfl ?row ?len ?base ?next)
        case own => exact HO.out.1.alloc _
        case row => rw [← hyn]; exact BRow.oneB wr _ y
        case len => rw [leB_len]; simp; omega
        case base => have := HO.out.2.size; simp; omega
        case next =>
          intro v4 w4 hown4 hfrm4 hnew4
          have H4 : Hid (OwnB w4 5 w.heap.size v4 (leB X (i + 1)) ∧ Below w.heap.size w w4) := Lib.hid ⟨by rw [HLS.out]; exact hown4, (HO.out.2.alloc HO.out.2.size _).trans (hfrm4.below (by have := HO.out.2.size; simp; omega) (fun q hq => (HO.out.1.lt (by rw [leB_len]; exact hq)).1))⟩
          clear hown4 hfrm4 hnew4
          go_wp2
          exact ⟨⟨i + 1, rfl, by omega, H4.out.1, H4.out.2⟩, by simp only [intOf]; omega⟩
      · obtain rfl : i = N := by omega
        clear hlt hi
        go_wp2
        go_ret
        exact ⟨_, rfl, HO.out.1, HO.out.2⟩
end Go.Proofs.YtgahfpflhhfhfaaGreat

/- A slice of rows of bytes that came in; and what the bound of the second form says of its rows' lengths. -/
namespace Go.Proofs.YtgahfpflhhfhfaaGreat
open Go.ChangeShapes Go.WideShapes Go.Deep Go.RowKit

structure ByteRow where
  A : Option Addr
  bs : List UInt8
  cap : Nat
instance : Inhabited ByteRow := ⟨⟨none, [], 0⟩⟩
def ByteRow.v (r : ByteRow) : Value := .slice r.A r.bs.length r.cap

theorem bulk_one_le {H : Type} (d : DataW H) : 1 ≤ Rows.uptoBulk d := by
  cases d with
  | lit l => cases l <;> simp [Rows.uptoBulk]
  | nil => simp [Rows.uptoBulk]
  | ptr d => simp [Rows.uptoBulk]
  | slice elems spare => simp [Rows.uptoBulk]
  | agg parts => simp [Rows.uptoBulk]
  | iface t d => simp [Rows.uptoBulk]
  | map entries => simp [Rows.uptoBulk]
  | held h => simp [Rows.uptoBulk]
theorem bulk_part_le {H : Type} {d : DataW H} {l : List (DataW H)} (h : d ∈ l) : Rows.uptoBulk d ≤ Rows.uptoBulkAll l := by
  induction l with
  | nil => cases h
  | cons x r ih =>
    simp only [Rows.uptoBulkAll]
    cases List.mem_cons.1 h with
    | inl e => subst e; omega
    | inr e => have := ih e; omega
theorem bulk_length_le {H : Type} (l : List (DataW H)) : l.length ≤ Rows.uptoBulkAll l := by
  induction l with
  | nil => simp [Rows.uptoBulkAll]
  | cons x r ih => have := bulk_one_le x; simp only [Rows.uptoBulkAll, List.length_cons]; omega
theorem bulk_small {H : Type} {l : List (DataW H)} (hk : Rows.uptoSmall H l = true) : Rows.uptoBulkAll l ≤ 1048576 := of_decide_eq_true hk

section
variable {H : Type} {enc : TypeId × Value → H} {P : Program} {w : World}

theorem open_byte_rows {t e q : TypeId} {A : Option Addr} {len cap : Nat} {d : DataW H} {p : List MemPlace} (ht : P.underlying t = some (.slice e)) (he : P.underlying e = some (.slice q)) (hq : P.underlying q = some (.int .u8))
    (ce : P.cellsOf e = 1) (cq : P.cellsOf q = 1) (h : DataW.Trod enc P w 0 (fun _ => true) true t (.slice A len cap) d p) :
    len ≤ cap ∧ cap ≤ maxLen ∧ ∃ R : Nat → ByteRow, Opn.RowAt w w.heap.size A len (fun i => (R i).v) ∧
      (∀ i, i < len → (R i).bs.length ≤ (R i).cap ∧ (R i).cap ≤ maxLen ∧ BRow w w.heap.size (R i).A (R i).bs) ∧ len ≤ Rows.uptoBulk d ∧ ∀ i, i < len → (R i).bs.length ≤ Rows.uptoBulk d := by
  obtain ⟨fuel, hf⟩ := h
  rcases open_int_rows ht he hq ce cq hf with ⟨hcs, _⟩ | ⟨x, l, c, AA, L, C, Z, hcs, _, hl, hm, hx, hr⟩
  · simp [Value.cells] at hcs
    obtain ⟨rfl, rfl, rfl⟩ := hcs
    exact ⟨Nat.le_refl _, Nat.zero_le _, fun _ => default, fun h => absurd h (by omega), fun i h => absurd h (by omega), Nat.zero_le _, fun i h => absurd h (by omega)⟩
  · simp [Value.cells] at hcs
    obtain ⟨rfl, rfl, rfl⟩ := hcs
    simp only [Prod.mk.injEq] at hx
    obtain ⟨hd, _⟩ := hx
    have key : ∀ i, i < len → ∃ r : ByteRow, r.A = AA i ∧ r.bs.length = L i ∧ r.cap = C i ∧ BRow w w.heap.size r.A r.bs := by
      intro i hi
      obtain ⟨_, hLC, _, hZ, hwz, _, hcell⟩ := hr i (by omega)
      have hrow : Opn.RowAt w w.heap.size (AA i) (L i) (fun k => .int .u8 ((Z i).getD k 0)) := by
        intro h0
        cases hA : AA i with
        | none =>
          obtain ⟨_, _, _, _, _, hn, _⟩ := hr i (by omega)
          have := hn hA
          omega
        | some a' =>
          have hc := (hcell a' hA).2
          have h1 := hc 0 (by omega)
          have hx := Opn.add_plain h1
          refine ⟨a'.block, a'.off, by rw [← hx], Opn.lt_of_cell (a := a') (by simpa [Addr.add] using h1), fun k hk => ?_⟩
          have := hc k (by omega)
          rw [hx, Opn.add_at] at this
          exact this
      obtain ⟨bs, hbl, hb⟩ := BRow.of_row hrow (fun k hk => bounds_u8 (hwz _ (by
        have : k < (Z i).length := by omega
        simp [List.getD, List.getElem?_eq_getElem this])))
      exact ⟨⟨AA i, bs, C i⟩, rfl, hbl, rfl, hb⟩
    obtain ⟨R, hR⟩ := Opn.pick key
    refine ⟨hl, hm, R, fun h0 => ?_, fun i hi => ?_, ?_, fun i hi => ?_⟩
    · have h1 := (hr 0 (by omega)).1
      have hx := Opn.add_plain h1
      refine ⟨x.block, x.off, by rw [← hx], Opn.lt_of_cell (a := x) (by simpa [Addr.add] using h1), fun k hk => ?_⟩
      have := (hr k (by omega)).1
      rw [hx, Opn.add_at] at this
      obtain ⟨e1, e2, e3, _⟩ := hR k hk
      show w.cell? _ = some (.slice (R k).A (R k).bs.length (R k).cap)
      rw [e1, e2, e3]
      exact this
    · obtain ⟨e1, e2, e3, hb⟩ := hR i hi
      obtain ⟨_, hLC, hC, _⟩ := hr i (by omega)
      exact ⟨by omega, by omega, hb⟩
    · rw [hd]
      simp only [Rows.uptoBulk]
      have := bulk_length_le ((List.range len).map fun r => intRow (H := H) IntKind.u8 (AA r) (L r) (Z r))
      simp only [List.length_map, List.length_range] at this
      omega
    · rw [hd]
      simp only [Rows.uptoBulk]
      have h1 := bulk_part_le (List.mem_map.2 ⟨i, List.mem_range.2 hi, rfl⟩ : intRow (H := H) IntKind.u8 (AA i) (L i) (Z i) ∈ (List.range len).map fun r => intRow (H := H) IntKind.u8 (AA r) (L r) (Z r))
      obtain ⟨e1, e2, e3, hb⟩ := hR i hi
      obtain ⟨_, hLC, _, hZ, _, hn, _⟩ := hr i (by omega)
      have h2 : L i ≤ Rows.uptoBulk (intRow (H := H) IntKind.u8 (AA i) (L i) (Z i)) := by
        cases hA : AA i with
        | none => have := hn hA; omega
        | some a' =>
          simp only [intRow, Rows.uptoBulk]
          have := bulk_length_le (lits (H := H) IntKind.u8 ((Z i).take (L i)))
          have h3 : (lits (H := H) IntKind.u8 ((Z i).take (L i))).length = L i := by simp [lits]; omega
          omega
      omega
end
end Go.Proofs.YtgahfpflhhfhfaaGreat

/- Two lists of bytes of one's own beside each other; rows of bytes as lists; the parts of a made member, one block more. -/
namespace Go.Proofs.YtgahfpflhhfhfaaGreat
open Go.RowKit Rng Win Lz Box
set_option linter.unusedVariables false
set_option linter.unusedSimpArgs false
theorem OwnB.rowZ {w : World} {T base : Nat} {A : Option Addr} {n c : Nat} {bs : List UInt8} (h : OwnB w T base (.slice A n c) bs) : BRow w w.heap.size A bs := by
  obtain ⟨A', c', e, _, _, hr⟩ := h.slice
  injection e with e1 e2 e3
  subst e1
  exact hr
theorem OwnB.lowZ {w : World} {T base base' : Nat} {v : Value} {bs : List UInt8} (h : OwnB w T base v bs) (hb : base' ≤ base) : OwnB w T base' v bs := by
  refine ⟨h.1, ?_⟩
  rcases h.2 with h2 | ⟨g, cap, cur, rfl, hb2, r⟩
  · exact .inl h2
  · exact .inr ⟨g, cap, cur, rfl, by omega, r⟩
theorem OwnB.keepZ {w w' : World} {T base : Nat} {v : Value} {bs : List UInt8} (h : OwnB w T base v bs) (hb : Below w.heap.size w w') : OwnB w' T base v bs :=
  h.frm (S := fun _ => False) (Frm.of_below hb) (fun _ _ h => h)
/-- Two lists of bytes of its own, in blocks apart, made since w0. -/
structure Two (T : Nat) (w0 w : World) (vo vi : Value) (o i : List UInt8) : Prop where
  oo : OwnB w T w0.heap.size vo o
  oi : OwnB w T w0.heap.size vi i
  ne : ∀ q, vo.ownBlock = some q → vi.ownBlock ≠ some q
  be : Below w0.heap.size w0 w
theorem Two.drew {T : Nat} {w0 w : World} {vo vi : Value} {o i : List UInt8} (h : Two T w0 w vo vi o i) : Two T w0 w.drew vo vi o i := ⟨h.oo, h.oi, h.ne, h.be.drew⟩
theorem Two.keep {T : Nat} {w0 w w' : World} {vo vi : Value} {o i : List UInt8} (h : Two T w0 w vo vi o i) (hb : Below w.heap.size w w') : Two T w0 w' vo vi o i :=
  ⟨h.oo.keepZ hb, h.oi.keepZ hb, h.ne, h.be.trans (hb.mono h.be.size)⟩
theorem Two.start {T : Nat} {w0 w w' : World} {vo vi : Value} {o i : List UInt8} (ho : OwnB w T w0.heap.size vo o) (hi : OwnB w' T w.heap.size vi i) (hb : Below w.heap.size w w') (be : Below w0.heap.size w0 w) : Two T w0 w' vo vi o i :=
  ⟨ho.keepZ hb, hi.lowZ be.size, fun q h1 h2 => by have := (ho.lt h1).2; have := (hi.lt h2).1; omega, be.trans (hb.mono be.size)⟩
theorem Two.swap {T : Nat} {w0 w : World} {vo vi : Value} {o i : List UInt8} (h : Two T w0 w vo vi o i) : Two T w0 w vi vo i o := ⟨h.oi, h.oo, fun q h1 h2 => h.ne q h2 h1, h.be⟩
theorem Two.idx {T : Nat} {w0 w w' : World} {vo vi v' : Value} {o i i' : List UInt8} (h : Two T w0 w vo vi o i) (hown : OwnB w' T w0.heap.size v' i') (hfrm : Frm (fun k => vi.ownBlock = some k) w w') (hnew : v'.ownBlock = vi.ownBlock ∨ v'.ownBlock = some w.heap.size) : Two T w0 w' vo v' o i' :=
  ⟨h.oo.frm hfrm (fun k hk hS => h.ne k hk hS), hown, fun q h1 h2 => by
    rcases hnew with hn | hn
    · exact h.ne q h1 (by rw [← hn]; exact h2)
    · rw [hn] at h2
      obtain rfl := Option.some.inj h2
      exact absurd (h.oo.lt h1).2 (Nat.lt_irrefl _), h.be.trans (hfrm.below h.be.size (fun q hq => (h.oi.lt hq).1))⟩
theorem Two.out {T : Nat} {w0 w w' : World} {vo vi v' : Value} {o i o' : List UInt8} (h : Two T w0 w vo vi o i) (hown : OwnB w' T w0.heap.size v' o') (hfrm : Frm (fun k => vo.ownBlock = some k) w w') (hnew : v'.ownBlock = vo.ownBlock ∨ v'.ownBlock = some w.heap.size) : Two T w0 w' v' vi o' i :=
  (h.swap.idx hown hfrm hnew).swap
theorem Two.set {T : Nat} {w0 w : World} {vo : Value} {g n cap : Nat} {o i : List UInt8} (h : Two T w0 w vo (.slice (some ⟨g, 0, none⟩) n cap) o i) (k : Nat) (hk : k < i.length) (y : UInt8) :
    Two T w0 (w.setCell ⟨g, k, none⟩ (byteV y)) vo (.slice (some ⟨g, 0, none⟩) n cap) o (i.set k y) :=
  ⟨h.oo.other (fun e => h.ne g e rfl) _, h.oi.set k hk y, h.ne, h.be.setCell (h.oi.lt (k := g) rfl).1 _⟩
/-- A number, beside the two. -/
theorem num_two {w0 W : World} {vo vi : Value} {o i : List UInt8} (m L : Nat) (hm : m < 9223372036854775808) (hL : (put m).length = L) (h : Two 5 w0 W vo vi o i) :
    Calls Tryz.prog 26 #[.int .u64 (m : Int)] W fun e w' => ∃ A c, e = .returned (.slice A L c) ∧ BRow w' w'.heap.size A (put m) ∧ Two 5 w0 w' vo vi o i := by
  refine (number20_p m W hm).mono ?_; rintro e w' ⟨v, rfl, h1, h2⟩
  obtain ⟨A, c, rfl, -, -, hr⟩ := h1.slice
  exact ⟨A, c, by rw [hL], hr, h.keep h2⟩
/-- The first k rows, as lists. -/
def rowsL (R : Nat → ByteRow) : Nat → List (List UInt8)
  | 0 => []
  | k + 1 => rowsL R k ++ [(R k).bs]
theorem rowsL_len (R : Nat → ByteRow) : ∀ k, (rowsL R k).length = k
  | 0 => rfl
  | k + 1 => by rw [rowsL, List.length_append, rowsL_len R k]; rfl
theorem rowsL_all {R : Nat → ByteRow} {p : List UInt8 → Prop} : ∀ {k : Nat}, (∀ i, i < k → p (R i).bs) → ∀ b ∈ rowsL R k, p b
  | 0, _, b, hb => by simp [rowsL] at hb
  | k + 1, h, b, hb => by
    rw [rowsL, List.mem_append] at hb
    rcases hb with hb | hb
    · exact rowsL_all (fun i hi => h i (by omega)) b hb
    · rw [List.mem_singleton.1 hb]
      exact h k (by omega)
theorem blocksB_snoc (kind : Int) (numbers : Bool) (code : UInt8) (l : List (List UInt8)) (b : List UInt8) : blocksB kind numbers code (l ++ [b]) = blocksB kind numbers code l ++ blockB kind numbers b code := by
  unfold blocksB
  simp [List.flatMap_append]
theorem recsX_snoc (kind : Int) (numbers : Bool) (code : UInt8) (l : List (List UInt8)) (b : List UInt8) : recsX kind numbers code (l ++ [b]) = recsX kind numbers code l ++ [recB kind numbers b code] := by
  unfold recsX
  simp
theorem recsB_snocX (l : List (Nat × Nat)) (p : Nat × Nat) : recsB (l ++ [p]) = recsB l ++ (put p.1 ++ put p.2) := by
  unfold recsB
  simp [List.flatMap_append]
theorem pad_step {L j : Nat} (hj : j ≤ padOf L) (h : (L + j) % 4 ≠ 0) : j + 1 ≤ padOf L := by
  have h2 : j ≠ padOf L := fun e => h (by rw [e]; exact padOf_mod L)
  omega
theorem pad_done {L j : Nat} (hj : j ≤ padOf L) (h : (L + j) % 4 = 0) : j = padOf L := by
  unfold padOf at *
  omega
end Go.Proofs.YtgahfpflhhfhfaaGreat

/- The document's maker of members: its walk. -/
namespace Go.Proofs.YtgahfpflhhfhfaaGreat
open Go.RowKit Rng Win Lz Box
set_option linter.unusedVariables false
set_option linter.unusedSimpArgs false
def slenX : Value → Nat
  | .slice _ n _ => n
  | _ => 0
theorem blocksB_len_le (kind : Int) (numbers : Bool) (code : UInt8) : ∀ l : List (List UInt8), (∀ b ∈ l, b.length ≤ 65536) → (blocksB kind numbers code l).length ≤ 65600 * l.length
  | [], _ => by simp [blocksB]
  | b :: l, h => by
    have h1 := blocksB_len_le kind numbers code l (fun q hq => h q (List.mem_cons_of_mem _ hq))
    have hb := h b (by simp)
    have h2 := (hdPad_len numbers b code).2.1
    have h3 := hdB_len numbers b code
    have h4 := (bodyB_len hb).2
    have h5 := chkLen_le kind
    have h6 := padOf_lt ((hdB numbers b code).length + (bodyB b).length)
    have e : blocksB kind numbers code (b :: l) = blockB kind numbers b code ++ blocksB kind numbers code l := rfl
    rw [e, List.length_append, List.length_cons]
    unfold blockB
    rw [List.length_append, List.length_append, List.length_append, zs_len, chkB_len]
    omega
theorem rowsX_len (R : Nat → ByteRow) (kind : Int) (numbers : Bool) (code : UInt8) (kc : UInt8) (n i : Nat) (hi : i ≤ 12) (hr : ∀ k, k < i → (R k).bs.length ≤ 65536) :
    (headM kc ++ blocksB kind numbers code (rowsL R i)).length ≤ 1000000 ∧ ((0 :: put n) ++ recsB (recsX kind numbers code (rowsL R i))).length ≤ 1000 := by
  have h1 := blocksB_len_le kind numbers code (rowsL R i) (rowsL_all hr)
  have h2 := recsB_len (recsX kind numbers code (rowsL R i))
  have h3 : (recsX kind numbers code (rowsL R i)).length = i := by unfold recsX; rw [List.length_map, rowsL_len]
  have h4 := (put_len n).2
  have h5 : (headM kc).length = 12 := rfl
  rw [rowsL_len] at h1
  rw [List.length_append, List.length_append, List.length_cons, h5]
  omega
set_option maxRecDepth 100000 in
set_option maxHeartbeats 4000000 in
theorem made_p (A : Option Addr) (n c : Nat) (R : Nat → ByteRow) (kc code : UInt8) (numbers : Bool) (B : Nat) (w : World) (hk : kc = 0 ∨ kc = 1 ∨ kc = 4) (hn : n ≤ 12) (hr : Opn.RowAt w B A n fun i => (R i).v) (hB : B ≤ w.heap.size)
    (hb : ∀ i, i < n → (R i).bs.length ≤ (R i).cap ∧ BRow w B (R i).A (R i).bs ∧ (R i).bs.length ≤ 65536) :
    Calls Tryz.prog 13 #[.slice A n c, .int .i64 (kc.toNat : Int), .int .u8 (code.toNat : Int), .bool numbers] w fun e w' => ∃ v, e = .returned v ∧ OwnB w' 5 w.heap.size v (madeX kc numbers code (rowsL R n)) ∧ Below w.heap.size w w' := by
  obtain ⟨kn, hkn⟩ : ∃ kn, kc.toNat = kn := ⟨_, rfl⟩
  have hk4 : kn ≤ 4 := by rcases hk with rfl | rfl | rfl <;> (rw [← hkn]; decide)
  obtain ⟨cn, hcn⟩ : ∃ cn, code.toNat = cn := ⟨_, rfl⟩
  rw [hkn, hcn]
  have HR := Lib.hid hr
  have HB := Lib.hid hb
  have HBB := Lib.hid hB
  have HKN := Lib.hid (And.intro hkn (And.intro hk4 (And.intro hcn hn)))
  have HLL : Hid (∀ i, i ≤ n → (headM kc ++ blocksB (kc.toNat : Int) numbers code (rowsL R i)).length ≤ 1000000 ∧ ((0 :: put n) ++ recsB (recsX (kc.toNat : Int) numbers code (rowsL R i))).length ≤ 1000) := Lib.hid (fun i hi => rowsX_len R _ _ _ _ _ i (by omega) (fun k hk => (hb k (by omega)).2.2))
  have kw : IntKind.u8.wrap (kn : Int) = (kn : Int) := Go.IntWalk.u8_in _ (by omega)
  have nw : IntKind.u64.wrap (n : Int) = (n : Int) := Go.IntWalk.u64_in _ (by omega)
  have HM : Hid (Two 5 w ((w.alloc (.cells #[.int .u8 0, .int .u8 (kn : Int)] 5)).alloc (.cells #[.int .u8 253, .int .u8 55, .int .u8 122, .int .u8 88, .int .u8 90, .int .u8 0] 5)) (.slice (some ⟨w.heap.size, 0, none⟩) 2 2) (.slice (some ⟨w.heap.size + 1, 0, none⟩) 6 6) [0, kc] magic) := by
    have o1 : OwnB (w.alloc (.cells #[.int .u8 0, .int .u8 (kn : Int)] 5)) 5 w.heap.size (.slice (some ⟨w.heap.size, 0, none⟩) 2 2) [0, kc] := by
      rw [← hkn]
      exact OwnB.of_cells w 5 w.heap.size [0, kc] (Nat.le_refl _) (by simp [maxLen])
    have hb1 : Below w.heap.size w (w.alloc (.cells #[.int .u8 0, .int .u8 (kn : Int)] 5)) := (Below.refl _ w).alloc (Nat.le_refl _) _
    have hz : (w.alloc (.cells #[.int .u8 0, .int .u8 (kn : Int)] 5)).heap.size = w.heap.size + 1 := by simp
    have o2 := OwnB.of_cells (w.alloc (.cells #[.int .u8 0, .int .u8 (kn : Int)] 5)) 5 _ magic (Nat.le_refl _) (by decide)
    have t := Two.start o1 o2 ((Below.refl _ _).alloc (Nat.le_refl _) _) hb1
    rw [hz] at t
    exact Lib.hid t
  obtain ⟨LN, hLN⟩ : ∃ LN, (put n).length = LN := ⟨_, rfl⟩
  have HLN := Lib.hid hLN
  have HKR := Lib.hid hk
  clear hr hb hB hkn hk4 hk hcn hn hLN
  go_enter Tryz.func13, Tryz.ntmps13
  go_wp2_with (at_builtin; refine wpList_append_bytes _ rfl (.tmp 23) (.tmp 24) 22 rfl 5 w.heap.size Tryz.underlying22 Tryz.info_u8 (.slice (some ⟨w.heap.size + 1, 0, none⟩) 6 6) magic rfl ?own (some ⟨w.heap.size, 0, none⟩) 2 2 (w.heap.size + 2) [0, kc] rfl rfl ?row ?len ?base ?next)
  case own => exact HM.out.oi
  case row => have q := HM.out.oo.rowZ; simp only [Go.World.alloc, Array.size_push] at q; exact q
  case len => simp [magic]
  case base => simp; omega
  case next =>
    intro v3 w3 hown3 hfrm3 hnew3
    have t3 := HM.out.idx hown3 hfrm3 (by simpa using hnew3)
    obtain ⟨A3, k3, rfl, -, -, -⟩ := hown3.slice
    have T3 := Lib.hid t3
    clear hown3 hfrm3 hnew3 t3 HM
    go_wp2_with fail
    refine (rseal_p _ [0, kc] 2 _ w3 rfl T3.out.oo.rowZ (by simp)).mono ?_; rintro e w4 ⟨v4, rfl, ho4, hb4⟩
    have T4 := Lib.hid (T3.out.keep hb4)
    obtain ⟨A4, k4, rfl, -, -, hr4⟩ := ho4.slice
    have R4 := Lib.hid hr4
    clear T3 ho4 hb4 hr4
    go_wp2_with (at_builtin; refine wpList_append_bytes _ rfl (.tmp 26) (.tmp 28) 22 rfl 5 w.heap.size Tryz.underlying22 Tryz.info_u8 _ (magic ++ [0, kc]) rfl ?own A4 4 k4 w4.heap.size (sealB [0, kc]) rfl rfl ?row ?len ?base ?next)
    case own => exact T4.out.oi
    case row => exact R4.out
    case len => simp [magic, sealB_len]
    case base => exact T4.out.be.size
    case next =>
      intro v5 w5 hown5 hfrm5 hnew5
      have t5 := T4.out.idx hown5 hfrm5 hnew5
      have hh : magic ++ 0 :: kc :: sealB [0, kc] = headM kc := rfl
      rw [hh] at t5 hown5
      have HT : Hid (Two 5 w (w5.alloc (.cells #[.int .u8 0] 5)) v5 (.slice (some ⟨w5.heap.size, 0, none⟩) 1 1) (headM kc) [0]) := Lib.hid (Two.start t5.oi (OwnB.of_cells w5 5 _ [0] (Nat.le_refl _) (by decide)) ((Below.refl _ _).alloc (Nat.le_refl _) _) t5.be)
      obtain ⟨A5, k5, rfl, -, -, -⟩ := hown5.slice
      clear hown5 hfrm5 hnew5 t5 hh T4 R4
      go_wp2_with fail
      refine (num_two n LN (by have := HKN.out; omega) HLN.out HT.out).mono ?_; rintro e w6 ⟨A6, k6, rfl, hr6, t6⟩
      have R6 := Lib.hid hr6
      have T6 := Lib.hid t6
      clear hr6 t6 HT
      go_wp2_with (at_builtin; refine wpList_append_bytes _ rfl (.tmp 30) (.tmp 34) 22 rfl 5 w.heap.size Tryz.underlying22 Tryz.info_u8 _ [0] rfl ?own A6 LN k6 w6.heap.size (put n) rfl HLN.out.symm ?row ?len ?base ?next)
      case own => exact T6.out.oi
      case row => exact R6.out
      case len => have := (put_len n).2; simp; omega
      case base => exact T6.out.be.size
      case next =>
        intro v7 w7 hown7 hfrm7 hnew7
        have T7 := Lib.hid (T6.out.idx hown7 hfrm7 hnew7)
        obtain ⟨A7, k7, e7, -, -, -⟩ := hown7.slice
        obtain ⟨L7, hL7⟩ : ∃ L, (0 :: put n).length = L := ⟨_, rfl⟩
        rw [hL7] at e7
        subst e7
        clear hown7 hfrm7 hnew7 R6 T6 hL7
        go_wp2
        go_loopw [10, 11, 12] (fun ov xv iv wr => ∃ i : Nat, iv = .int .i64 (i : Int) ∧ i ≤ n ∧ Two 5 w wr ov xv (headM kc ++ blocksB (kc.toNat : Int) numbers code (rowsL R i)) ((0 :: put n) ++ recsB (recsX (kc.toNat : Int) numbers code (rowsL R i)))) (fun _ _ iv _ => n - (intOf iv).toNat)
        case atStart => exact ⟨0, rfl, Nat.zero_le _, by simpa [rowsL, blocksB, recsX, recsB] using T7.out⟩
        case round =>
          obtain ⟨i, rfl, hi, t⟩ := hrel
          obtain ⟨wk, hwk⟩ : ∃ wk, wk = wr := ⟨_, rfl⟩
          subst hwk
          obtain ⟨Ao, ko, rfl, -, -, -⟩ := t.oo.slice
          obtain ⟨Ax, kx, rfl, -, -, -⟩ := t.oi.slice
          obtain ⟨lo, hlo⟩ : ∃ lo, headM kc ++ blocksB (kc.toNat : Int) numbers code (rowsL R i) = lo := ⟨_, rfl⟩
          obtain ⟨lx, hlx⟩ : ∃ lx, (0 :: put n) ++ recsB (recsX (kc.toNat : Int) numbers code (rowsL R i)) = lx := ⟨_, rfl⟩
          rw [hlo, hlx] at t
          rw [hlo, hlx]
          have HLO := Lib.hid hlo
          have HLX := Lib.hid hlx
          have HT := Lib.hid t
          clear t hlo hlx T7
          by_cases hlt : i < n
          · obtain ⟨b, off, hA, hbB, hcl⟩ := HR.out (by omega)
            subst hA
            have hcc : ∀ W, Below wk.heap.size wk W → W.cell? ⟨b, off + i, none⟩ = some (.slice (R i).A (R i).bs.length (R i).cap) := fun W hW => by
              have e1 := hW.cell (p := ⟨b, off + i, none⟩) (by have := HT.out.be.size; have := HBB.out; simp only; omega)
              have e2 := HT.out.be.cell (p := ⟨b, off + i, none⟩) (by have := HBB.out; simp only; omega)
              rw [e1, e2]
              exact hcl i hlt
            have hcw : ∀ W, Below w.heap.size w W → W.cell? ⟨b, off + i, none⟩ = some (.slice (R i).A (R i).bs.length (R i).cap) := fun W hW => by
              rw [hW.cell (p := ⟨b, off + i, none⟩) (by have := HBB.out; simp only; omega)]
              exact hcl i hlt
            obtain ⟨g1, g2, g3⟩ := HB.out i hlt
            have hrow := g2.below (HT.out.be.mono HBB.out)
            have hsn : rowsL R (i + 1) = rowsL R i ++ [(R i).bs] := rfl
            obtain ⟨bs, hbs⟩ : ∃ bs, (R i).bs = bs := ⟨_, rfl⟩
            obtain ⟨rA, hrA⟩ : ∃ rA, (R i).A = rA := ⟨_, rfl⟩
            obtain ⟨rk, hrk⟩ : ∃ rk, (R i).cap = rk := ⟨_, rfl⟩
            rw [hbs] at hsn hrow g1 g3
            rw [hrA] at hrow
            rw [hrk] at g1
            simp only [hbs, hrA, hrk] at hcc hcw
            obtain ⟨lb, hlb⟩ : ∃ lb, bs.length = lb := ⟨_, rfl⟩
            simp only [hlb] at hcc hcw
            have HCW := Lib.hid hcw
            clear hcw
            rw [hlb] at g1 g3
            have HCC := Lib.hid hcc
            have HSN := Lib.hid hsn
            have HRW := Lib.hid hrow
            have HLB := Lib.hid (And.intro hlb (And.intro g1 g3))
            have hx := HCC.out wk (Below.refl _ _)
            have hbl := bodyB_len (b := bs) (by omega)
            clear hcc hsn hrow hbs hrA hrk hlb g2 hcl g1
            obtain ⟨LB, hLB⟩ : ∃ LB, (bodyB bs).length = LB := ⟨_, rfl⟩
            rw [hLB] at hbl
            have HBL := Lib.hid (And.intro hLB hbl)
            go_wp2_with fail
            refine (chunks_p rA bs lb rk B wk HLB.out.1.symm HRW.out (Nat.le_trans HBB.out HT.out.be.size) HLB.out.2.1 HLB.out.2.2).mono ?_; rintro e w1 ⟨v1, rfl, ho1, hb1⟩
            have HT2 : Hid (Two 5 wk (w1.alloc (.cells #[.int .u8 0, .int .u8 0] 5)) v1 (.slice (some ⟨w1.heap.size, 0, none⟩) 2 2) (bodyB bs) [0, 0]) := Lib.hid (Two.start ho1 (OwnB.of_cells w1 5 _ [0, 0] (Nat.le_refl _) (by decide)) ((Below.refl _ _).alloc (Nat.le_refl _) _) hb1)
            have HT3 : Hid (Two 5 wk (w1.alloc (.cells #[.int .u8 0, .int .u8 192] 5)) v1 (.slice (some ⟨w1.heap.size, 0, none⟩) 2 2) (bodyB bs) [0, 192]) := Lib.hid (Two.start ho1 (OwnB.of_cells w1 5 _ [0, 192] (Nat.le_refl _) (by decide)) ((Below.refl _ _).alloc (Nat.le_refl _) _) hb1)
            obtain ⟨A1, k1, rfl, -, -, -⟩ := ho1.slice
            simp only [hLB]
            rw [hLB] at HT2 HT3
            clear ho1 hb1 hx hLB
            go_upto_if 48 with fail
            go_cut [14] from 49 to 64 (fun hv wx => Two 5 wk wx (.slice A1 LB k1) hv (bodyB bs) (0 :: (if numbers then 192 :: (put LB ++ put lb) else [0])))
            case first =>
              cases numbers
              · go_wp2
                go_meet
                case rel => exact HT2.out
              · clear HT2
                obtain ⟨L1, hL1⟩ : ∃ L1, (put LB).length = L1 := ⟨_, rfl⟩
                obtain ⟨L2, hL2⟩ : ∃ L2, (put lb).length = L2 := ⟨_, rfl⟩
                have HL1 := Lib.hid hL1
                have HL2 := Lib.hid hL2
                have lbw : IntKind.u64.wrap (lb : Int) = (lb : Int) := Go.IntWalk.u64_in _ (by omega)
                have LBw : IntKind.u64.wrap (LB : Int) = (LB : Int) := Go.IntWalk.u64_in _ (by omega)
                clear hL1 hL2
                go_wp2
                generalize w1.alloc (.cells #[.int .u8 0, .int .u8 192] 5) = w2 at *
                have hc2 := HCC.out w2 HT3.out.be
                go_region_held3 (fun w' => w'.cell? ⟨b, off + i, none⟩ = some (.slice rA lb rk)) (first | assumption | exact hcd_ | exact hcc_ | exact hcb_ | exact hca_ | exact hc2)
                  (first
                  | (go_at_call 26; have hh := num_two (w0 := wk) LB L1 (by have := HBL.out; omega) HL1.out HT3.out.drew; with_reducible refine Calls.mono hh ?_; rintro e wa_ ⟨Aa_, ka_, rfl, hra_, hta_⟩; have hca_ := HCC.out wa_ hta_.be)
                  | (go_at_call 26; have hh := num_two (w0 := wk) lb L2 (by have := HLB.out; omega) HL2.out htb_; with_reducible refine Calls.mono hh ?_; rintro e wc_ ⟨Ac_, kc_, rfl, hrc_, htc_⟩; have hcc_ := HCC.out wc_ htc_.be)
                  | (refine stepR_append_bytes _ rfl (.tmp 51) (.tmp 55) 22 rfl 5 wk.heap.size Tryz.underlying22 Tryz.info_u8 (.slice (some ⟨w1.heap.size, 0, none⟩) 2 2) [0, 192] rfl ?_ Aa_ L1 ka_ wa_.heap.size (put LB) rfl ?_ ?_ ?_ ?_ ?_; exact hta_.oi; exact HL1.out.symm; exact hra_; (have := (put_len LB).2; simp; omega); exact hta_.be.size; (intro vb_ wb_ hownb_ hfrmb_ hnewb_; have htb_ := (Two.idx (w := wa_) hta_ hownb_ hfrmb_ hnewb_); obtain ⟨Ab_, kb_, rfl, -, -, -⟩ := hownb_.slice; have hcb_ := HCC.out wb_ htb_.be))
                  | (refine stepR_append_bytes _ rfl (.tmp 56) (.tmp 63) 22 rfl 5 wk.heap.size Tryz.underlying22 Tryz.info_u8 (.slice Ab_ _ kb_) ([0, 192] ++ put LB) rfl ?_ Ac_ L2 kc_ wc_.heap.size (put lb) rfl ?_ ?_ ?_ ?_ ?_; exact htc_.oi; exact HL2.out.symm; exact hrc_; (have := (put_len LB).2; have := (put_len lb).2; simp; omega); exact htc_.be.size; (intro vd_ wd_ hownd_ hfrmd_ hnewd_; have htd_ := (Two.idx (w := wc_) htc_ hownd_ hfrmd_ hnewd_); obtain ⟨Ad_, kd_, rfl, -, -, -⟩ := hownd_.slice; have hcd_ := HCC.out wd_ htd_.be))
                  | fail)
                go_wp2
                go_meet
                case rel => simpa using htd_
            case rest =>
              clear HT2 HT3
              obtain ⟨Ah, kh, rfl, -, -, -⟩ := hcut.oi.slice
              obtain ⟨hq, hhq⟩ : ∃ hq, (0 :: (if numbers then 192 :: (put LB ++ put lb) else [0]) : List UInt8) = hq := ⟨_, rfl⟩
              rw [hhq] at hcut
              simp only [hhq]
              have hhl : hq.length ≤ 20 := by
                rw [← hhq]
                have := (put_len LB).2
                have := (put_len lb).2
                cases numbers <;> simp <;> omega
              have hh2 : 0 :: hdRaw numbers bs code = hq ++ [33, 1, code] := by
                rw [← hhq]
                unfold hdRaw
                rw [HBL.out.1, HLB.out.1]
                rfl
              have HH2 := Lib.hid hh2
              have HHL := Lib.hid hhl
              have H10 := Lib.hid hcut
              clear hcut hhl hh2 hhq
              go_wp2_with (at_builtin; refine wpList_append_bytes _ rfl (.tmp 65) (.tmp 67) 22 rfl 5 wk.heap.size Tryz.underlying22 Tryz.info_u8 _ hq rfl ?own (some ⟨wc.heap.size, 0, none⟩) 3 3 (wc.heap.size + 1) [33, 1, code] rfl rfl ?row ?len ?base ?next)
              case own => exact H10.out.oi.alloc _
              case row => exact row_cellsX wc _ [33, 1, code] _ (by have := HKN.out.2.2.1; simp [byteV, this])
              case len => have := HHL.out; simp; omega
              case base => have := H10.out.be.size; simp; omega
              case next =>
                intro v11 w11 hown11 hfrm11 hnew11
                have t11 := (H10.out.keep ((Below.refl _ _).alloc (Nat.le_refl _) (.cells #[.int .u8 33, .int .u8 1, .int .u8 (cn : Int)] 5))).idx hown11 hfrm11 (by simpa using hnew11)
                rw [← HH2.out] at t11 hown11
                obtain ⟨hr, hhr⟩ : ∃ hr, hdRaw numbers bs code = hr := ⟨_, rfl⟩
                have hrl := hdRaw_len numbers bs code
                rw [hhr] at t11 hown11 hrl
                have HHR := Lib.hid hhr
                have HRL := Lib.hid hrl
                have T11 := Lib.hid t11
                obtain ⟨A11, k11, rfl, -, -, -⟩ := hown11.slice
                clear hown11 hfrm11 hnew11 t11 HH2 H10 HHL hhr hrl
                go_wp2
                go_loopw [14] (fun v wz => ∃ j : Nat, j ≤ padOf (1 + hr.length) ∧ Two 5 wk wz (.slice A1 LB k1) v (bodyB bs) (0 :: hr ++ List.replicate j 0)) (fun v _ => 1000 - slenX v)
                case atStart => exact ⟨0, Nat.zero_le _, by simpa using T11.out⟩
                case round =>
                  obtain ⟨j, hj, t⟩ := hrel
                  obtain ⟨Av, kv, rfl, -, -, -⟩ := t.oi.slice
                  obtain ⟨M, hM⟩ : ∃ M, (0 :: hr ++ List.replicate j 0).length = M := ⟨_, rfl⟩
                  have hMj : M = 1 + hr.length + j := by rw [← hM]; simp; omega
                  have hpl := padOf_lt (1 + hr.length)
                  have hMM : M ≤ 30 := by have := HRL.out; omega
                  rw [hM]
                  rw [hM] at t
                  have HJ := Lib.hid (And.intro hj (And.intro hMj hM))
                  have HT3 := Lib.hid t
                  clear hj hMj hM t hpl
                  have hM0 : 0 < M := by have := HJ.out.2.1; omega
                  by_cases h4 : M % 4 = 0
                  · have hz4 : ((M : Int) % 4 != 0) = false := by
                      have : (M : Int) % 4 = 0 := by omega
                      rw [this]; rfl
                    have hjp : j = padOf (1 + hr.length) := pad_done HJ.out.1 (by rw [← HJ.out.2.1]; exact h4)
                    have hhp : (0 : UInt8) :: hr ++ List.replicate j 0 = 0 :: hdPad numbers bs code := by
                      unfold hdPad zs
                      rw [HHR.out, ← hjp]
                      rfl
                    have HT4 := HT3.out
                    rw [hhp] at HT4
                    have hML : 1 + (hdPad numbers bs code).length = M := by rw [← HJ.out.2.2, hhp]; simp; omega
                    rcases HT4.oi.form with ⟨_, e⟩ | ⟨g, cap, cur, e, hg1, hg2, -⟩
                    · simp at e
                    · injection e with e1 e2 e3
                      subst e1
                      subst e3
                      have hg0 : wr.cell? ⟨g, 0, none⟩ = some (.int .u8 0) := by
                        have q := HT4.oi.rowZ.addr (k := 0) (by simp)
                        simpa [byteV] using q
                      have hg3 := hg2.frozen 0
                      have HT5 := HT4.set 0 (by simp) (UInt8.ofNat (M / 4))
                      have hML4 : (UInt8.ofNat (M / 4)).toNat = M / 4 := by simp; omega
                      have hMw : IntKind.u8.wrap ((M : Int) / 4) = (M : Int) / 4 := Go.IntWalk.u8_in _ (by omega)
                      have HT6 : Hid (Two 5 wk (wr.setCell ⟨g, 0, none⟩ (.int .u8 ((M : Int) / 4))) (.slice A1 LB k1) (.slice (some ⟨g, 0, none⟩) M kv) (bodyB bs) (UInt8.ofNat (M / 4) :: hdPad numbers bs code)) := Lib.hid (by
                        have q := HT5
                        unfold byteV at q
                        rw [hML4, show ((M / 4 : Nat) : Int) = (M : Int) / 4 by omega] at q
                        exact q)
                      have HML := Lib.hid hML
                      clear HT3 HT4 HT5 hhp hjp HJ hML hML4 hg1 hg2 e2 h4
                      obtain ⟨H, hH⟩ : ∃ H, UInt8.ofNat (M / 4) :: hdPad numbers bs code = H := ⟨_, rfl⟩
                      have hHl : H.length = M := by rw [← hH, ← HML.out]; simp; omega
                      have hHB : H ++ sealB H = hdB numbers bs code := by rw [← hH, ← HML.out]; rfl
                      rw [hH] at HT6
                      have HHl := Lib.hid hHl
                      have HHB := Lib.hid hHB
                      clear hH hHl hHB HML T11
                      go_wp2_with fail
                      generalize wr.setCell ⟨g, 0, none⟩ (.int .u8 ((M : Int) / 4)) = wh at *
                      refine (rseal_p (some ⟨g, 0, none⟩) H M kv wh HHl.out.symm HT6.out.oi.rowZ (by rw [HHl.out]; omega)).mono ?_; rintro e w14 ⟨v14, rfl, ho14, hb14⟩
                      have T14 := Lib.hid (HT6.out.keep hb14)
                      obtain ⟨A14, k14, rfl, -, -, hr14⟩ := ho14.slice
                      have R14 := Lib.hid hr14
                      clear ho14 hb14 hr14 HT6
                      go_wp2_with (at_builtin; refine wpList_append_bytes _ rfl (.tmp 82) (.tmp 84) 22 rfl 5 wk.heap.size Tryz.underlying22 Tryz.info_u8 (.slice (some ⟨g, 0, none⟩) M kv) H rfl ?own A14 4 k14 w14.heap.size (sealB H) rfl rfl ?row ?len ?base ?next)
                      case own => exact T14.out.oi
                      case row => exact R14.out
                      case len => rw [HHl.out, sealB_len]; omega
                      case base => exact T14.out.be.size
                      case next =>
                        intro v15 w15 hown15 hfrm15 hnew15
                        have t15 := T14.out.idx hown15 hfrm15 hnew15
                        rw [HHB.out] at t15 hown15
                        obtain ⟨HB, hHB⟩ : ∃ HB, hdB numbers bs code = HB := ⟨_, rfl⟩
                        have hHBl : HB.length ≤ 30 := by
                          rw [← hHB, hdB_len]
                          have := (hdPad_len numbers bs code).2.1
                          omega
                        rw [hHB] at t15 hown15
                        obtain ⟨A15, k15, rfl, -, -, -⟩ := hown15.slice
                        have HHB2 := Lib.hid hHB
                        have HHBl := Lib.hid hHBl
                        have T15 := Lib.hid t15
                        clear hown15 hfrm15 hnew15 t15 hHB hHBl HHB HHl T14 R14
                        go_wp2_with (at_builtin; refine wpList_append_bytes _ rfl (.tmp 86) (.tmp 87) 22 rfl 5 wk.heap.size Tryz.underlying22 Tryz.info_u8 (.slice A15 HB.length k15) HB rfl ?own A1 LB k1 w15.heap.size (bodyB bs) rfl HBL.out.1.symm ?row ?len ?base ?next)
                        case own => exact T15.out.oi
                        case row => exact T15.out.oo.rowZ
                        case len => rw [HBL.out.1]; have := HHBl.out; omega
                        case base => exact T15.out.be.size
                        case next =>
                          intro v16 w16 hown16 hfrm16 hnew16
                          have t16 := T15.out.idx hown16 hfrm16 hnew16
                          obtain ⟨X, hX⟩ : ∃ X, HB ++ bodyB bs = X := ⟨_, rfl⟩
                          have hXl : X.length = HB.length + LB := by rw [← hX, List.length_append, HBL.out.1]
                          obtain ⟨SX, hSX⟩ : ∃ SX, X.length = SX := ⟨_, rfl⟩
                          rw [hSX] at hXl
                          have hSXb : SX ≤ 65600 := by have := HHBl.out; omega
                          rw [hX] at t16 hown16
                          obtain ⟨A16, k16, rfl, -, -, -⟩ := hown16.slice
                          rw [hSX] at t16
                          simp only [hSX]
                          have HX := Lib.hid (And.intro hX (And.intro hSX hXl))
                          have T16 := Lib.hid t16
                          clear hown16 hfrm16 hnew16 t16 hX hSX hXl T15
                          go_wp2
                          go_loopw [15] (fun v wz => ∃ j : Nat, j ≤ padOf SX ∧ Two 5 wk wz (.slice A1 LB k1) v (bodyB bs) (X ++ List.replicate j 0)) (fun v _ => 100000 - slenX v)
                          case atStart => exact ⟨0, Nat.zero_le _, by simpa using T16.out⟩
                          case round =>
                            obtain ⟨j, hj, t⟩ := hrel
                            obtain ⟨Av, kv, rfl, -, -, -⟩ := t.oi.slice
                            obtain ⟨M, hM⟩ : ∃ M, (X ++ List.replicate j 0).length = M := ⟨_, rfl⟩
                            have hMj : M = SX + j := by rw [← hM, List.length_append, HX.out.2.1]; simp
                            have hpl := padOf_lt SX
                            have hMM : M ≤ 65610 := by omega
                            rw [hM]
                            rw [hM] at t
                            have HJ := Lib.hid (And.intro hj (And.intro hMj hM))
                            have HT3 := Lib.hid t
                            clear hj hMj hM t hpl
                            by_cases h4 : M % 4 = 0
                            · have hz4 : ((M : Int) % 4 != 0) = false := by
                                have : (M : Int) % 4 = 0 := by omega
                                rw [this]; rfl
                              have hjp : j = padOf SX := pad_done HJ.out.1 (by rw [← HJ.out.2.1]; exact h4)
                              have hZX : X ++ List.replicate j 0 = X ++ zs SX := by unfold zs; rw [← hjp]
                              rw [hZX] at HT3
                              clear HJ hZX hjp h4
                              have hx := HCC.out wr HT3.out.be
                              obtain ⟨ZX, hZX⟩ : ∃ ZX, X ++ zs SX = ZX := ⟨_, rfl⟩
                              rw [hZX] at HT3
                              have HZX := Lib.hid hZX
                              have HML2 := Lib.hid (show ZX.length = M by
                                obtain ⟨Aq, kq, e, -, -, -⟩ := HT3.out.oi.slice
                                injection e with e1 e2 e3
                                exact e2.symm)
                              clear hZX
                              go_wp2_with fail
                              refine (sum20_p (kn : Int) rA bs lb rk B wr HLB.out.1.symm (HRW.out.below (HT3.out.be.mono (Nat.le_trans HBB.out HT.out.be.size))) (by rw [HLB.out.1]; omega)).mono ?_; rintro e w20 ⟨v20, rfl, ho20, hb20⟩
                              obtain ⟨lt, hlt2⟩ : ∃ lt, chkB (kn : Int) bs = lt := ⟨_, rfl⟩
                              have hltl : lt.length = chkLen (kn : Int) := by rw [← hlt2]; exact chkB_len _ _
                              have hlt8 := chkLen_le (kn : Int)
                              obtain ⟨CL, hCL⟩ : ∃ CL, lt.length = CL := ⟨_, rfl⟩
                              rw [hCL] at hltl
                              have hC8 : CL ≤ 8 := by omega
                              have U20 := Lib.hid (HT3.out.keep hb20)
                              have V20 := Lib.hid ((HT.out.keep HT3.out.be).keep hb20)
                              rw [hlt2] at ho20
                              have hol := (fun q (hq : (Value.slice Ao lo.length ko).ownBlock = some q) => Nat.lt_of_lt_of_le (HT.out.oo.lt hq).2 HT3.out.be.size)
                              have HOL := Lib.hid hol
                              obtain ⟨A20, k20, rfl, -, -, -⟩ := ho20.slice
                              have O20 := Lib.hid ho20
                              simp only [hCL]
                              have HCL := Lib.hid (And.intro hlt2 (And.intro hCL hltl))
                              rw [hCL] at O20
                              clear ho20 hb20 HT3 hlt2 hCL hltl hlt8 hol hx
                              have hlob : lo.length ≤ 100000000 := by have := (HLL.out i (by omega)).1; rw [HLO.out] at this; omega
                              have HLOB := Lib.hid hlob
                              clear hlob
                              go_wp2_with (at_builtin; refine wpList_append_bytes _ rfl (.tmp 104) (.tmp 105) 22 rfl 5 w.heap.size Tryz.underlying22 Tryz.info_u8 (.slice Ao lo.length ko) lo rfl ?own Av M kv w20.heap.size ZX rfl HML2.out.symm ?row ?len ?base ?next)
                              case own => exact V20.out.oo
                              case row => exact U20.out.oi.rowZ
                              case len => rw [HML2.out]; have := HLOB.out; omega
                              case base => exact V20.out.be.size
                              case next =>
                                intro v21 w21 hown21 hfrm21 hnew21
                                have V21 := Lib.hid (V20.out.out hown21 hfrm21 hnew21)
                                have O21 := Lib.hid (O20.out.frm hfrm21 (fun k hk hS => by
                                  have q1 := HOL.out k hS
                                  have q2 := (O20.out.lt hk).1
                                  omega))
                                obtain ⟨A21, k21, rfl, -, -, -⟩ := hown21.slice
                                have q := V21.out
                                rw [List.length_append] at q
                                have V21s := Lib.hid q
                                clear q hown21 hfrm21 hnew21 V20 O20 U20 HOL
                                go_wp2_with (at_builtin; refine wpList_append_bytes _ rfl (.tmp 106) (.tmp 107) 22 rfl 5 w.heap.size Tryz.underlying22 Tryz.info_u8 _ (lo ++ ZX) rfl ?own A20 CL k20 w21.heap.size lt rfl HCL.out.2.1.symm ?row ?len ?base ?next)
                                case own => exact V21.out.oo
                                case row => exact O21.out.rowZ
                                case len => rw [List.length_append, HML2.out, HCL.out.2.1]; have := HLOB.out; omega
                                case base => exact V21.out.be.size
                                case next =>
                                  intro v22 w22 hown22 hfrm22 hnew22
                                  have V22 := Lib.hid (V21s.out.out hown22 hfrm22 hnew22)
                                  obtain ⟨A22, k22, rfl, -, -, -⟩ := hown22.slice
                                  clear hown22 hfrm22 hnew22 V21 V21s O21
                                  obtain ⟨lo2, hlo2⟩ : ∃ lo2, lo ++ (ZX ++ lt) = lo2 := ⟨_, rfl⟩
                                  have q22 := V22.out
                                  rw [hlo2] at q22
                                  clear V22
                                  have V22 := Lib.hid q22
                                  clear q22
                                  simp only [hlo2]
                                  have HLO2 := Lib.hid hlo2
                                  obtain ⟨UM, hUM⟩ : ∃ UM, SX + CL = UM := ⟨_, rfl⟩
                                  have hus : (SX : Int) + (CL : Int) = (UM : Int) := by omega
                                  have huw1 : IntKind.i64.wrap (UM : Int) = (UM : Int) := Go.IntWalk.i64_in _ (by omega)
                                  have huw2 : IntKind.u64.wrap (UM : Int) = (UM : Int) := Go.IntWalk.u64_in _ (by omega)
                                  have lbw : IntKind.u64.wrap (lb : Int) = (lb : Int) := Go.IntWalk.u64_in _ (by omega)
                                  obtain ⟨L1, hL1⟩ : ∃ L1, (put UM).length = L1 := ⟨_, rfl⟩
                                  obtain ⟨L2, hL2⟩ : ∃ L2, (put lb).length = L2 := ⟨_, rfl⟩
                                  have HL1 := Lib.hid hL1
                                  have HL2 := Lib.hid hL2
                                  have HUM := Lib.hid (And.intro hUM (show UM ≤ 100000 by omega))
                                  have hlxb : lx.length ≤ 100000000 := by have := (HLL.out i (by omega)).2; rw [HLX.out] at this; omega
                                  have HLXB := Lib.hid hlxb
                                  have hc2 := HCW.out w22 V22.out.be
                                  clear hL1 hL2 hUM hlo2 hlxb
                                  go_wp2
                                  go_region_held3 (fun w' => w'.cell? ⟨b, off + i, none⟩ = some (.slice rA lb rk)) (first | assumption | exact hcd_ | exact hcc_ | exact hcb_ | exact hca_ | exact hc2)
                                    (first
                                    | (go_at_call 26; have hh := num_two (w0 := w) UM L1 (by have := HUM.out; omega) HL1.out V22.out.drew; with_reducible refine Calls.mono hh ?_; rintro e wa_ ⟨Aa_, ka_, rfl, hra_, hta_⟩; have hca_ := HCW.out wa_ hta_.be)
                                    | (go_at_call 26; have hh := num_two (w0 := w) lb L2 (by have := HLB.out; omega) HL2.out htb_; with_reducible refine Calls.mono hh ?_; rintro e wc_ ⟨Ac_, kc_, rfl, hrc_, htc_⟩; have hcc_ := HCW.out wc_ htc_.be)
                                    | (refine stepR_append_bytes _ rfl (.tmp 109) (.tmp 115) 22 rfl 5 w.heap.size Tryz.underlying22 Tryz.info_u8 (.slice Ax lx.length kx) lx rfl ?_ Aa_ L1 ka_ wa_.heap.size (put UM) rfl ?_ ?_ ?_ ?_ ?_; exact hta_.oi; exact HL1.out.symm; exact hra_; (have := (put_len UM).2; have := HLXB.out; omega); exact hta_.be.size; (intro vb_ wb_ hownb_ hfrmb_ hnewb_; have htb_ := (Two.idx (w := wa_) hta_ hownb_ hfrmb_ hnewb_); obtain ⟨Ab_, kb_, rfl, -, -, -⟩ := hownb_.slice; rw [List.length_append] at htb_; have hcb_ := HCW.out wb_ htb_.be))
                                    | (refine stepR_append_bytes _ rfl (.tmp 116) (.tmp 123) 22 rfl 5 w.heap.size Tryz.underlying22 Tryz.info_u8 (.slice Ab_ _ kb_) (lx ++ put UM) rfl ?_ Ac_ L2 kc_ wc_.heap.size (put lb) rfl ?_ ?_ ?_ ?_ ?_; exact htc_.oi; exact HL2.out.symm; exact hrc_; (have := (put_len UM).2; have := (put_len lb).2; have := HLXB.out; rw [List.length_append]; omega); exact htc_.be.size; (intro vd_ wd_ hownd_ hfrmd_ hnewd_; have htd_ := (Two.idx (w := wc_) htc_ hownd_ hfrmd_ hnewd_); obtain ⟨Ad_, kd_, rfl, -, -, -⟩ := hownd_.slice; have hcd_ := HCW.out wd_ htd_.be))
                                    | fail)
                                  have e1 : headM kc ++ blocksB (kc.toNat : Int) numbers code (rowsL R (i + 1)) = lo2 := by
                                    rw [HSN.out, blocksB_snoc, ← List.append_assoc, HLO.out, ← HLO2.out, ← HZX.out, ← HX.out.1]
                                    unfold blockB
                                    rw [HHB2.out, HBL.out.1, ← HX.out.2.2, HKN.out.1, HCL.out.1]
                                    simp only [List.append_assoc]
                                  have e2 : (0 :: put n) ++ recsB (recsX (kc.toNat : Int) numbers code (rowsL R (i + 1))) = lx ++ put UM ++ put lb := by
                                    rw [HSN.out, recsX_snoc, recsB_snocX, ← List.append_assoc, HLX.out]
                                    unfold recB
                                    rw [HHB2.out, HBL.out.1, ← HX.out.2.2, HKN.out.1, ← HCL.out.2.2, HUM.out.1, HLB.out.1]
                                    simp only [List.append_assoc]
                                  have E1 := Lib.hid e1
                                  have E2 := Lib.hid e2
                                  clear e1 e2
                                  have HTD := Lib.hid htd_
                                  clear htd_ hta_ htb_ htc_
                                  have hi12 : i < 12 := by have := HKN.out; omega
                                  go_wp2
                                  have q := HTD.out
                                  rw [show (lx ++ put UM ++ put lb).length = lx.length + ((put UM).length + (put lb).length) by simp [Nat.add_assoc]] at q
                                  exact ⟨⟨i + 1, rfl, by omega, by rw [E1.out, E2.out]; exact q⟩, by simp only [intOf]; omega⟩
                            · have hz4 : ((M : Int) % 4 != 0) = true := by
                                have : ¬ (M : Int) % 4 = 0 := by omega
                                simp [this]
                              have H4 := Lib.hid h4
                              clear h4
                              go_wp2_with (at_builtin; refine wpList_append_bytes _ rfl (.tmp 95) (.tmp 96) 22 rfl 5 wk.heap.size Tryz.underlying22 Tryz.info_u8 (.slice Av M kv) (X ++ List.replicate j 0) rfl ?own (some ⟨wr.heap.size, 0, none⟩) 1 1 (wr.heap.size + 1) [0] rfl rfl ?row ?len ?base ?next)
                              case own => exact HT3.out.oi.alloc _
                              case row => exact BRow.oneB wr _ 0
                              case len => rw [HJ.out.2.2]; simp; omega
                              case base => have := HT3.out.be.size; simp; omega
                              case next =>
                                intro v12 w12 hown12 hfrm12 hnew12
                                have t12 := (HT3.out.keep ((Below.refl _ _).alloc (Nat.le_refl _) (.cells #[.int .u8 0] 5))).idx hown12 hfrm12 (by simpa using hnew12)
                                have HT7 : Hid (Two 5 wk w12 (.slice A1 LB k1) v12 (bodyB bs) (X ++ List.replicate (j + 1) 0)) := Lib.hid (by rw [List.replicate_succ']; simpa using t12)
                                clear hown12 hfrm12 hnew12 t12
                                go_wp2
                                refine ⟨⟨j + 1, pad_step HJ.out.1 (by rw [← HJ.out.2.1]; exact H4.out), HT7.out⟩, ?_⟩
                                obtain ⟨A13, k13, e13, -, -, -⟩ := HT7.out.oi.slice
                                show 100000 - slenX v12 < 100000 - M
                                rw [e13]
                                show 100000 - (X ++ List.replicate (j + 1) 0).length < 100000 - M
                                have := HJ.out.2.1
                                have := HX.out.2.1
                                simp
                                omega
                  · have hz4 : ((M : Int) % 4 != 0) = true := by
                      have : ¬ (M : Int) % 4 = 0 := by omega
                      simp [this]
                    have H4 := Lib.hid h4
                    clear h4
                    go_wp2_with (at_builtin; refine wpList_append_bytes _ rfl (.tmp 73) (.tmp 74) 22 rfl 5 wk.heap.size Tryz.underlying22 Tryz.info_u8 (.slice Av M kv) (0 :: hr ++ List.replicate j 0) rfl ?own (some ⟨wr.heap.size, 0, none⟩) 1 1 (wr.heap.size + 1) [0] rfl rfl ?row ?len ?base ?next)
                    case own => exact HT3.out.oi.alloc _
                    case row => exact BRow.oneB wr _ 0
                    case len => rw [HJ.out.2.2]; simp; omega
                    case base => have := HT3.out.be.size; simp; omega
                    case next =>
                      intro v12 w12 hown12 hfrm12 hnew12
                      have t12 := (HT3.out.keep ((Below.refl _ _).alloc (Nat.le_refl _) (.cells #[.int .u8 0] 5))).idx hown12 hfrm12 (by simpa using hnew12)
                      have HT7 : Hid (Two 5 wk w12 (.slice A1 LB k1) v12 (bodyB bs) (0 :: hr ++ List.replicate (j + 1) 0)) := Lib.hid (by rw [List.replicate_succ']; simpa using t12)
                      clear hown12 hfrm12 hnew12 t12
                      go_wp2
                      refine ⟨⟨v12, _, _, _, _, _, _, _, ⟨j + 1, pad_step HJ.out.1 (by rw [← HJ.out.2.1]; exact H4.out), HT7.out⟩, rfl⟩, ?_⟩
                      obtain ⟨A13, k13, e13, -, -, -⟩ := HT7.out.oi.slice
                      show 1000 - slenX v12 < 1000 - M
                      rw [e13]
                      show 1000 - (0 :: hr ++ List.replicate (j + 1) 0).length < 1000 - M
                      have := HJ.out.2.1
                      simp
                      omega
          · obtain rfl : i = n := by omega
            obtain ⟨recs, hrecs⟩ : ∃ r, recsX (kc.toNat : Int) numbers code (rowsL R i) = r := ⟨_, rfl⟩
            have hrl : recs.length = i := by rw [← hrecs]; unfold recsX; rw [List.length_map, rowsL_len]
            have hlxi : lx = idxRaw recs := by
              rw [← HLX.out, hrecs]
              unfold idxRaw headB
              rw [hrl]
            have hSXb := HLL.out i (Nat.le_refl _)
            rw [HLO.out, HLX.out] at hSXb
            obtain ⟨SX, hSX⟩ : ∃ SX, lx.length = SX := ⟨_, rfl⟩
            rw [hSX] at hSXb
            have HT0 := HT.out
            rw [hSX] at HT0
            clear HT
            have HT := Lib.hid HT0
            simp only [hSX]
            have HX := Lib.hid (And.intro hSX (And.intro hSXb (And.intro hrecs hlxi)))
            clear hSX hSXb hrecs hlxi hrl HT0 hlt hi HR HB HLL
            go_wp2
            go_loopw [11] (fun v wz => ∃ j : Nat, j ≤ padOf SX ∧ Two 5 w wz (.slice Ao lo.length ko) v lo (lx ++ List.replicate j 0)) (fun v _ => 100000 - slenX v)
            case atStart => exact ⟨0, Nat.zero_le _, by simpa using HT.out⟩
            case round =>
              obtain ⟨j, hj, t⟩ := hrel
              obtain ⟨Av, kv, rfl, -, -, -⟩ := t.oi.slice
              obtain ⟨M, hM⟩ : ∃ M, (lx ++ List.replicate j 0).length = M := ⟨_, rfl⟩
              have hMj : M = SX + j := by rw [← hM, List.length_append, HX.out.1]; simp
              have hpl := padOf_lt SX
              have hMM : M ≤ 1010 := by have := HX.out.2.1; omega
              rw [hM]
              rw [hM] at t
              have HJ := Lib.hid (And.intro hj (And.intro hMj hM))
              have HT3 := Lib.hid t
              clear hj hMj hM t hpl
              by_cases h4 : M % 4 = 0
              · have hz4 : ((M : Int) % 4 != 0) = false := by
                  have : (M : Int) % 4 = 0 := by omega
                  rw [this]; rfl
                have hjp : j = padOf SX := pad_done HJ.out.1 (by rw [← HJ.out.2.1]; exact h4)
                have hZX : lx ++ List.replicate j 0 = idxPad recs := by
                  unfold idxPad zs
                  rw [← HX.out.2.2.2, HX.out.1, ← hjp]
                rw [hZX] at HT3
                clear hjp
                obtain ⟨ZX, hZZ⟩ : ∃ ZX, idxPad recs = ZX := ⟨_, rfl⟩
                rw [hZZ] at HT3 hZX
                have HML : Hid (ZX.length = M) := Lib.hid (by rw [← hZX]; exact HJ.out.2.2)
                have hIB : ZX ++ sealB ZX = idxB recs := by unfold idxB sealOn; rw [hZZ]
                have HIB := Lib.hid hIB
                have H4 := Lib.hid h4
                clear hZX hZZ HJ hIB h4
                go_wp2_with fail
                refine (rseal_p Av ZX M kv wr HML.out.symm HT3.out.oi.rowZ (by rw [HML.out]; omega)).mono ?_; rintro e w14 ⟨v14, rfl, ho14, hb14⟩
                have T14 := Lib.hid (HT3.out.keep hb14)
                obtain ⟨A14, k14, rfl, -, -, hr14⟩ := ho14.slice
                have R14 := Lib.hid hr14
                clear ho14 hb14 hr14 HT3
                go_wp2_with (at_builtin; refine wpList_append_bytes _ rfl (.tmp 132) (.tmp 134) 22 rfl 5 w.heap.size Tryz.underlying22 Tryz.info_u8 (.slice Av M kv) ZX rfl ?own A14 4 k14 w14.heap.size (sealB ZX) rfl rfl ?row ?len ?base ?next)
                case own => exact T14.out.oi
                case row => exact R14.out
                case len => rw [HML.out, sealB_len]; omega
                case base => exact T14.out.be.size
                case next =>
                  intro v15 w15 hown15 hfrm15 hnew15
                  have t15 := T14.out.idx hown15 hfrm15 hnew15
                  obtain ⟨K, hK⟩ : ∃ K, M / 4 = K := ⟨_, rfl⟩
                  obtain ⟨IL, hIL⟩ : ∃ IL, M + 4 = IL := ⟨_, rfl⟩
                  obtain ⟨IB, hIB⟩ : ∃ IB, idxB recs = IB := ⟨_, rfl⟩
                  have hIBl : IB.length = IL := by rw [← hIB, ← HIB.out, List.length_append, sealB_len, HML.out, hIL]
                  have k1 : (IL : Int) / 4 = (K : Int) + 1 := by have := H4.out; omega
                  have k2 : IntKind.i64.wrap ((K : Int) + 1) = (K : Int) + 1 := Go.IntWalk.i64_in _ (by omega)
                  have k3 : IntKind.i64.wrap (K : Int) = (K : Int) := Go.IntWalk.i64_in _ (by omega)
                  have k4 : IntKind.u32.wrap (K : Int) = (K : Int) := Go.IntWalk.u32_in _ (by omega)
                  have k5 : IntKind.u8.wrap (K : Int) = (K : Int) := Go.IntWalk.u8_in _ (by omega)
                  have k6 : (K : Int) / 256 = 0 := by omega
                  have k7 : (K : Int) / 65536 = 0 := by omega
                  have k8 : (K : Int) / 16777216 = 0 := by omega
                  rw [HIB.out, hIB] at t15 hown15
                  obtain ⟨A15, k15, rfl, -, -, -⟩ := hown15.slice
                  rw [hIBl] at t15
                  simp only [hIBl]
                  obtain ⟨KB, hKB⟩ : ∃ KB : UInt8, UInt8.ofNat K = KB := ⟨_, rfl⟩
                  have hKt : KB.toNat = K := by rw [← hKB]; simp; omega
                  obtain ⟨ft, hft⟩ : ∃ ft : List UInt8, [KB, 0, 0, 0, 0, kc] = ft := ⟨_, rfl⟩
                  have hfoot : footM (IB.length / 4 - 1) kc = sealB ft ++ ft ++ [89, 90] := by
                    have q : IB.length / 4 - 1 = K := by omega
                    have q1 : K / 256 = 0 := by omega
                    have q2 : K / 65536 = 0 := by omega
                    have q3 : K / 16777216 = 0 := by omega
                    rw [q]
                    unfold footM four
                    rw [q1, q2, q3, hKB, ← hft]
                    rfl
                  have hfl : ft.length = 6 := by rw [← hft]; rfl
                  obtain ⟨W16, hW16⟩ : ∃ W, w15.alloc (.cells #[.int .u8 (K : Int), .int .u8 0, .int .u8 0, .int .u8 0, .int .u8 0, .int .u8 (kn : Int)] 5) = W := ⟨_, rfl⟩
                  have hb16 : Below w15.heap.size w15 W16 := by rw [← hW16]; exact (Below.refl _ _).alloc (Nat.le_refl _) _
                  have h16 : W16.heap.size = w15.heap.size + 1 := by rw [← hW16]; simp
                  have hown16 : OwnB W16 5 w15.heap.size (.slice (some ⟨w15.heap.size, 0, none⟩) 6 6) ft := by
                    have q := OwnB.of_cells w15 5 w15.heap.size ft (Nat.le_refl _) (by rw [hfl]; decide)
                    have e : (ft.map byteV).toArray = #[.int .u8 (K : Int), .int .u8 0, .int .u8 0, .int .u8 0, .int .u8 0, .int .u8 (kn : Int)] := by rw [← hft]; simp [byteV, hKt, HKN.out.1]
                    rw [e, hfl, hW16] at q
                    exact q
                  have TO := Lib.hid (Two.start t15.oo hown16 hb16 t15.be)
                  have R16 := Lib.hid (t15.keep hb16).oi.rowZ
                  have H16 := Lib.hid h16
                  have HF := Lib.hid (And.intro hIBl (And.intro (show IL ≤ 1014 by omega) (And.intro hfoot (And.intro hIB hfl))))
                  clear hown15 hfrm15 hnew15 t15 T14 R14 hfoot hKt hKB hIBl hIB hK hIL hft hfl hb16 h16 hown16
                  go_wp2_with (at_builtin; refine wpList_append_bytes _ rfl (.tmp 155) (.tmp 156) 22 rfl 5 w.heap.size Tryz.underlying22 Tryz.info_u8 (.slice Ao lo.length ko) lo rfl ?own A15 IL k15 W16.heap.size IB rfl HF.out.1.symm ?row ?len ?base ?next)
                  case own => exact TO.out.oo
                  case row => exact R16.out
                  case len => rw [HF.out.1]; have := HX.out.2.1.1; have := HF.out.2.1; omega
                  case base => exact TO.out.be.size
                  case next =>
                    intro v17 w17 hown17 hfrm17 hnew17
                    have T17 := Lib.hid (TO.out.out hown17 hfrm17 hnew17)
                    obtain ⟨A17, k17, e17, -, -, -⟩ := hown17.slice
                    obtain ⟨L17, hL17⟩ : ∃ L, (lo ++ IB).length = L := ⟨_, rfl⟩
                    rw [hL17] at e17
                    subst e17
                    clear hL17
                    clear hown17 hfrm17 hnew17 TO R16
                    go_wp2_with fail
                    refine (rseal_p (some ⟨w15.heap.size, 0, none⟩) ft 6 6 w17 HF.out.2.2.2.2.symm T17.out.oi.rowZ (by rw [HF.out.2.2.2.2]; omega)).mono ?_; rintro e w18 ⟨v18, rfl, ho18, hb18⟩
                    have T18 := Lib.hid (T17.out.keep hb18)
                    obtain ⟨A18, k18, rfl, -, -, hr18⟩ := ho18.slice
                    have R18 := Lib.hid hr18
                    clear ho18 hb18 hr18 T17
                    go_wp2_with (at_builtin; refine wpList_append_bytes _ rfl (.tmp 157) (.tmp 159) 22 rfl 5 w.heap.size Tryz.underlying22 Tryz.info_u8 (.slice A17 L17 k17) (lo ++ IB) rfl ?own A18 4 k18 w18.heap.size (sealB ft) rfl rfl ?row ?len ?base ?next)
                    case own => exact T18.out.oo
                    case row => exact R18.out
                    case len => rw [List.length_append, HF.out.1, sealB_len]; have := HX.out.2.1.1; have := HF.out.2.1; omega
                    case base => exact T18.out.be.size
                    case next =>
                      intro v19 w19 hown19 hfrm19 hnew19
                      have T19 := Lib.hid (T18.out.out hown19 hfrm19 hnew19)
                      obtain ⟨A19, k19, e19, -, -, -⟩ := hown19.slice
                      obtain ⟨L19, hL19⟩ : ∃ L, (lo ++ (IB ++ sealB ft)).length = L := ⟨_, rfl⟩
                      rw [hL19] at e19
                      subst e19
                      clear hL19
                      clear hown19 hfrm19 hnew19 T18 R18
                      go_wp2_with (at_builtin; refine wpList_append_bytes _ rfl (.tmp 161) (.tmp 162) 22 rfl 5 w.heap.size Tryz.underlying22 Tryz.info_u8 (.slice A19 L19 k19) (lo ++ (IB ++ sealB ft)) rfl ?own (some ⟨w15.heap.size, 0, none⟩) 6 6 w19.heap.size ft rfl HF.out.2.2.2.2.symm ?row ?len ?base ?next)
                      case own => exact T19.out.oo
                      case row => exact T19.out.oi.rowZ
                      case len => rw [List.length_append, List.length_append, HF.out.1, sealB_len, HF.out.2.2.2.2]; have := HX.out.2.1.1; have := HF.out.2.1; omega
                      case base => exact T19.out.be.size
                      case next =>
                        intro v20 w20 hown20 hfrm20 hnew20
                        have T20 := Lib.hid (And.intro hown20 (T19.out.be.trans (hfrm20.below T19.out.be.size (fun q hq => (T19.out.oo.lt hq).1))))
                        obtain ⟨A20, k20, e20, -, -, -⟩ := hown20.slice
                        obtain ⟨L20, hL20⟩ : ∃ L, (lo ++ (IB ++ (sealB ft ++ ft))).length = L := ⟨_, rfl⟩
                        rw [hL20] at e20
                        subst e20
                        clear hL20
                        clear hown20 hfrm20 hnew20 T19
                        go_wp2_with (at_builtin; refine wpList_append_bytes _ rfl (.tmp 163) (.tmp 164) 22 rfl 5 w.heap.size Tryz.underlying22 Tryz.info_u8 (.slice A20 L20 k20) (lo ++ (IB ++ (sealB ft ++ ft))) rfl ?own (some ⟨w20.heap.size, 0, none⟩) 2 2 (w20.heap.size + 1) [89, 90] rfl rfl ?row ?len ?base ?next)
                        case own => exact T20.out.1.alloc _
                        case row => exact row_cellsX w20 _ [89, 90] _ rfl
                        case len => rw [List.length_append, List.length_append, List.length_append, HF.out.1, sealB_len, HF.out.2.2.2.2]; have := HX.out.2.1.1; have := HF.out.2.1; simp; omega
                        case base => have := T20.out.2.size; simp; omega
                        case next =>
                          intro v21 w21 hown21 hfrm21 hnew21
                          have hmade : madeX kc numbers code (rowsL R i) = lo ++ (IB ++ (sealB ft ++ (ft ++ [89, 90]))) := by
                            unfold madeX
                            rw [HX.out.2.2.1, HF.out.2.2.2.1, ← List.append_assoc, HLO.out, HF.out.2.2.1]
                            simp only [List.append_assoc]
                          rw [← hmade] at hown21
                          have T21 := Lib.hid (And.intro hown21 ((T20.out.2.alloc T20.out.2.size _).trans (hfrm21.below (by have := T20.out.2.size; simp; omega) (fun q hq => (T20.out.1.lt hq).1))))
                          obtain ⟨A21, k21, rfl, -, -, -⟩ := hown21.slice
                          clear hown21 hfrm21 hnew21 hmade T20
                          go_wp2
                          go_ret
                          exact ⟨_, rfl, T21.out.1, T21.out.2⟩
              · have hz4 : ((M : Int) % 4 != 0) = true := by
                  have : ¬ (M : Int) % 4 = 0 := by omega
                  simp [this]
                have H4 := Lib.hid h4
                clear h4
                go_wp2_with (at_builtin; refine wpList_append_bytes _ rfl (.tmp 129) (.tmp 130) 22 rfl 5 w.heap.size Tryz.underlying22 Tryz.info_u8 (.slice Av M kv) (lx ++ List.replicate j 0) rfl ?own (some ⟨wr.heap.size, 0, none⟩) 1 1 (wr.heap.size + 1) [0] rfl rfl ?row ?len ?base ?next)
                case own => exact HT3.out.oi.alloc _
                case row => exact BRow.oneB wr _ 0
                case len => rw [HJ.out.2.2]; simp; omega
                case base => have := HT3.out.be.size; simp; omega
                case next =>
                  intro v12 w12 hown12 hfrm12 hnew12
                  have t12 := (HT3.out.keep ((Below.refl _ _).alloc (Nat.le_refl _) (.cells #[.int .u8 0] 5))).idx hown12 hfrm12 (by simpa using hnew12)
                  have HT7 : Hid (Two 5 w w12 (.slice Ao lo.length ko) v12 lo (lx ++ List.replicate (j + 1) 0)) := Lib.hid (by rw [List.replicate_succ']; simpa using t12)
                  clear hown12 hfrm12 hnew12 t12
                  go_wp2
                  refine ⟨⟨j + 1, pad_step HJ.out.1 (by rw [← HJ.out.2.1]; exact H4.out), HT7.out⟩, ?_⟩
                  obtain ⟨A13, k13, e13, -, -, -⟩ := HT7.out.oi.slice
                  show 100000 - slenX v12 < 100000 - M
                  rw [e13]
                  show 100000 - (lx ++ List.replicate (j + 1) 0).length < 100000 - M
                  have := HJ.out.2.1
                  have := HX.out.1
                  simp
                  omega
end Go.Proofs.YtgahfpflhhfhfaaGreat

/- What the document says of the empty member, and of three plain bytes. -/
namespace Go.Proofs.YtgahfpflhhfhfaaGreat
open Go.RowKit Rng Win Lz Box
set_option linter.unusedVariables false
set_option linter.unusedSimpArgs false
theorem mem_ok {bud m u : Nat} {bs T r : List UInt8} {w w' : World} {e : Ending} (h : MemEnd bud bs w e w') (hd : xP bud bs = (T, .inr r)) (hm : T.length = m) (hu : bs.length - r.length = u) :
    ∃ A c, e = .returned (.tuple #[.slice A m c, .int .i64 (u : Int), .int .i64 0]) ∧ OwnB w' 5 w.heap.size (.slice A m c) T ∧ BRow w' w'.heap.size A T ∧ Below w.heap.size w w' := by
  subst hm; subst hu
  obtain ⟨v, h1, h2, h3⟩ := h
  rw [hd] at h1 h3
  obtain ⟨A, c, rfl, -, -, hr⟩ := h1.slice
  exact ⟨A, c, h3.2, h1, hr, h2⟩
theorem mem_err {bud z m : Nat} {bs T : List UInt8} {w w' : World} {e : Ending} (h : MemEnd bud bs w e w') (hd : xP bud bs = (T, .inl z)) (hm : T.length = m) :
    ∃ A c, e = .returned (.tuple #[.slice A m c, .int .i64 0, .int .i64 ((z : Nat) : Int)]) ∧ OwnB w' 5 w.heap.size (.slice A m c) T ∧ BRow w' w'.heap.size A T ∧ Below w.heap.size w w' ∧ z ≠ 0 := by
  subst hm
  obtain ⟨v, h1, h2, h3⟩ := h
  rw [hd] at h1 h3
  obtain ⟨A, c, rfl, -, -, hr⟩ := h1.slice
  exact ⟨A, c, h3.2, h1, hr, h2, h3.1⟩
/-- An append tq9 a full row of bytes: the old row stays. -/
theorem wpList_append_fullB {P : Program} (w : World) {ops : Array Oper} {rest : List Oper} {o : Oper} {a : Act} {Q : Exit → Act → World → Prop}
    (hg : o.guard = none) (s x : Operand) (t : TypeId) (hop : o.op = Op.call { callee := Callee.builtin Builtin.append, args := #[s, x], argTypes := #[t, t] })
    (T : TypeId) (h1 : P.underlying t = some (.slice T)) (hinfo : (P.info? T).map (fun i => (i.zero, i.size, i.bytes)) = some (some (.int .u8 0), 1, 1))
    (ao : Addr) (n cap B : Nat) (bs : List UInt8) (hs : a.eval s = .slice (some ao) n cap) (hn : n = bs.length) (hn0 : 0 < n) (hr : BRow w B (some ao) bs)
    (ad : Addr) (m c B2 : Nat) (news : List UInt8) (hx : a.eval x = .slice (some ad) m c) (hm : m = news.length) (hm0 : 0 < m) (hc : BRow w B2 (some ad) news)
    (hfull : cap < n + m) (b1 : n + m ≤ 140737488355328)
    (hK : ∀ v' w', OwnB w' T w.heap.size v' (bs ++ news) → Below w.heap.size w w' → wpList P ops Q rest (a.put o.dst v') w') :
    wpList P ops Q (o :: rest) a w := by
  obtain ⟨i, hi, hzz⟩ := Option.map_eq_some_iff.1 hinfo
  simp only [Prod.mk.injEq] at hzz
  obtain ⟨hz, hs1, hby⟩ := hzz
  subst hn
  subst hm
  refine wpList_append_grows w hg s x t hop T i (.int .u8 0) 1 1 h1 hi hz hs1 hby rfl (by omega) (some ao) bs.length cap (bs.map byteV) hs (fun h => by cases h) (by simp) ?_ ad news.length c (news.map byteV) hx (by simp) ?_ (oneCell_byte news) hfull (by unfold maxLen; omega) (by omega) ?_
  · rintro b hb j u hj
    injection hb with hb
    subst hb
    rw [List.getElem?_map] at hj
    obtain ⟨y, hy, rfl⟩ := Option.map_eq_some_iff.1 hj
    have hjl : j < bs.length := (List.getElem?_eq_some_iff.1 hy).1
    obtain ⟨b, off, e, _, hcc⟩ := hr (by omega)
    injection e with e
    subst e
    rw [Opn.add_at, hcc j hjl]
    simp [List.getD, hy]
  · intro j u hj
    rw [List.getElem?_map] at hj
    obtain ⟨y, hy, rfl⟩ := Option.map_eq_some_iff.1 hj
    have hjl : j < news.length := (List.getElem?_eq_some_iff.1 hy).1
    obtain ⟨b, off, e, _, hcc⟩ := hc (by omega)
    injection e with e
    subst e
    rw [Opn.add_at, hcc j hjl]
    simp [List.getD, hy]
  · intro v' w' h2 h3
    refine hK v' w' ?_ ⟨h3.os, h3.tape, h3.output, h3.size, fun k hk => h3.block k hk (by simp)⟩
    unfold OwnB
    rw [List.length_append, List.map_append]
    exact h2
def emptyX : List UInt8 := [253, 55, 122, 88, 90, 0, 0, 1, 105, 34, 222, 54, 0, 0, 0, 0, 28, 223, 68, 33, 144, 66, 153, 13, 1, 0, 0, 0, 0, 1, 89, 90]
def abcX : List UInt8 := [97, 98, 99]
theorem empty_d : xP 0 emptyX = ([], .inr []) := by kernel_rfl
theorem empty_more : xP 0 (emptyX ++ [0, 0, 0, 0, 0]) = ([], .inr [0]) := by kernel_rfl
theorem empty_cut : xP 0 (emptyX.take 31) = ([], .inl 10) := by kernel_rfl
theorem empty_win : winX emptyX = (0, 0) := by kernel_rfl
theorem abc_len : (madeX 4 true 0 [abcX]).length = 60 := by kernel_rfl
theorem abc_d : xP 1048576 (madeX 4 true 0 [abcX]) = (abcX, .inr []) := by
  have h := madeX_read (kc := 4) (.inr (.inr rfl)) true (code := 0) (by decide) (budget := 1048576) (l := [abcX]) (.inr (by decide)) (by decide) (by decide) (by decide) []
  rw [List.append_nil] at h
  unfold xP
  rw [h]
  rfl
theorem mem_row {bs : List UInt8} {A : Option Addr} {B k c : Nat} {w : World} (bud : Int) (b2 : Nat) (hbu : budOf bud = b2) (hr : BRow w B A bs) (hB : B ≤ w.heap.size) (hk : k = bs.length) (hb : bs.length ≤ 1000) (hc : k ≤ c) (hcm : c ≤ maxLen) :
    Calls Tryz.prog 9 #[.slice A k c, .int .i64 bud] w (MemEnd b2 bs w) := by
  subst hbu
  exact member_p A bs k c bud w hk (hr.more hB) hc hcm (by omega)
set_option maxRecDepth 100000 in
set_option maxHeartbeats 4000000 in
theorem wakes20 (w : World) : Calls Tryz.prog 8 #[] w fun e w' => e = .returned (.bool true) ∧ Below w.heap.size w w' := by
  have hcv := fun (w : World) (C : Array Value) (n c : Nat) => Lib.run_convert_bytes_const (P := Tryz.prog) w 22 5 C n c Tryz.underlying22 Tryz.underlying5
  have hem : ∀ w : World, Calls Tryz.prog 14 #[] w fun e w' => e = .returned (.slice (some ⟨w.heap.size, 0, none⟩) 32 32) ∧ BRow w' w'.heap.size (some ⟨w.heap.size, 0, none⟩) emptyX ∧ Below w.heap.size w w' := by
    intro w
    go_enter Tryz.func14, Tryz.ntmps14
    go_wp2
    go_ret
    exact ⟨rfl, by rw [World.size_alloc]; exact row_cellsX w _ emptyX _ rfl, below_alloc _ _⟩
  go_enter Tryz.func8, Tryz.ntmps8
  go_wp2_with fail
  refine (hem w).mono ?_; rintro e w1 ⟨rfl, hr1, hb1⟩
  obtain ⟨q, hq⟩ : ∃ q, w.heap.size = q := ⟨_, rfl⟩
  have R1 := Lib.hid hr1
  have B1 := Lib.hid hb1
  rw [hq] at R1
  rw [hq]
  clear hr1 hb1
  go_wp2_with fail
  refine (mem_row 0 0 rfl R1.out (Nat.le_refl _) rfl (by decide) (Nat.le_refl _) (by decide)).mono ?_; rintro e w2 hd
  obtain ⟨A2, c2, rfl, -, hr2, hb2⟩ := mem_ok (m := 0) (u := 32) hd empty_d rfl rfl
  have R2 := Lib.hid (R1.out.below hb2)
  have B2 := Lib.hid (B1.out.trans (hb2.mono B1.out.size))
  have Z2 := Lib.hid hb2.size
  clear hd hr2 hb2
  go_wp2_with (at_builtin; refine wpList_append_fullB _ rfl (.tmp 24) (.tmp 25) 22 rfl 5 Tryz.underlying22 Tryz.info_u8 ⟨q, 0, none⟩ 32 32 (w1.heap.size) emptyX rfl rfl (by decide) ?row ⟨w2.heap.size, 0, none⟩ 5 5 (w2.heap.size + 1) [0, 0, 0, 0, 0] rfl rfl (by decide) ?news (by decide) (by decide) ?next)
  case row => exact R2.out.below (below_alloc w2 _ |>.mono Z2.out)
  case news => exact row_cellsX w2 _ [0, 0, 0, 0, 0] _ rfl
  case next =>
    intro v3 w3 hown3 hb3
    obtain ⟨A3, k3, rfl, hc3, hm3, hr3⟩ := hown3.slice
    have hb3' := (below_alloc w2 (.cells #[.int .u8 0, .int .u8 0, .int .u8 0, .int .u8 0, .int .u8 0] 5)).trans (hb3.mono (by simp))
    have R3 := Lib.hid (R2.out.below (hb3'.mono Z2.out))
    have B3 := Lib.hid (B2.out.trans (hb3'.mono B2.out.size))
    have Z3 := Lib.hid (Nat.le_trans Z2.out hb3'.size)
    have HD := Lib.hid (mem_row 0 0 rfl hr3 (Nat.le_refl _) rfl (by decide) hc3 hm3)
    have e37 : (emptyX ++ [0, 0, 0, 0, 0]).length = 37 := rfl
    rw [e37] at HD
    simp only [e37]
    clear hown3 hb3 hc3 hm3 hr3 hb3' e37
    go_wp2_with fail
    refine HD.out.mono ?_; rintro e w4 hd
    obtain ⟨A4, c4, rfl, -, -, hb4⟩ := mem_ok (m := 0) (u := 36) hd empty_more rfl rfl
    have R4 := Lib.hid (R3.out.below (hb4.mono Z3.out))
    have B4 := Lib.hid (B3.out.trans (hb4.mono B3.out.size))
    have Z4 := Lib.hid (Nat.le_trans Z3.out hb4.size)
    clear hd hb4
    have hsl := fun w => slice_toX (some ⟨q, 0, none⟩) 32 32 31 (by decide) (by decide) w
    go_wp2_with fail
    refine (mem_row 0 0 rfl (R4.out.take 31) Z4.out rfl (by decide) (by decide) (by decide)).mono ?_; rintro e w5 hd
    obtain ⟨A5, c5, rfl, -, -, hb5, -⟩ := mem_err (m := 0) hd empty_cut rfl
    have R5 := Lib.hid (R4.out.below (hb5.mono Z4.out))
    have B5 := Lib.hid (B4.out.trans (hb5.mono B4.out.size))
    have Z5 := Lib.hid (Nat.le_trans Z4.out hb5.size)
    clear hd hb5
    go_wp2_with fail
    refine (window_x (some ⟨q, 0, none⟩) emptyX 32 32 w5 rfl (R5.out.more Z5.out) (Nat.le_refl _) (by decide)).mono ?_; rintro e w6 ⟨rfl, hb6⟩
    have B6 := Lib.hid (B5.out.trans (hb6.mono B5.out.size))
    rw [empty_win]
    clear hb6
    go_wp2_with fail
    obtain ⟨W7, hW7⟩ : ∃ W, (w6.alloc (.cells #[.int .u8 97, .int .u8 98, .int .u8 99] 5 (3, 4))).alloc (.cells #[.slice (some ⟨w6.heap.size, 0, none⟩) 3 3] 22) = W := ⟨_, rfl⟩
    have h7 : W7.heap.size = w6.heap.size + 2 := by rw [← hW7]; simp
    have hb7 : Below w6.heap.size w6 W7 := by rw [← hW7]; exact ((Below.refl _ _).alloc (Nat.le_refl _) _).alloc (by simp) _
    have hp1 : W7.heap[w6.heap.size]? = some (.cells #[.int .u8 97, .int .u8 98, .int .u8 99] 5 (3, 4)) := by
      rw [← hW7, heap_alloc_old _ _ (by simp)]
      exact World.alloc_heap_new _ _
    have hp2 : W7.heap[w6.heap.size + 1]? = some (.cells #[.slice (some ⟨w6.heap.size, 0, none⟩) 3 3] 22 (0, 0)) := by
      rw [← hW7]
      have q := World.alloc_heap_new (w6.alloc (.cells #[.int .u8 97, .int .u8 98, .int .u8 99] 5 (3, 4))) (.cells #[.slice (some ⟨w6.heap.size, 0, none⟩) 3 3] 22 (0, 0))
      rw [World.size_alloc] at q
      exact q
    have hrow : Opn.RowAt W7 W7.heap.size (some ⟨w6.heap.size + 1, 0, none⟩) 1 (fun i => ((fun _ : Nat => (⟨some ⟨w6.heap.size, 0, none⟩, abcX, 3⟩ : ByteRow)) i).v) := fun _ => ⟨w6.heap.size + 1, 0, rfl, by omega, fun i hi => by
      obtain rfl : i = 0 := by omega
      unfold World.cell?
      simp only
      rw [hp2]
      rfl⟩
    have hbr : BRow W7 W7.heap.size (some ⟨w6.heap.size, 0, none⟩) abcX := fun _ => ⟨w6.heap.size, 0, rfl, by omega, fun k hk => by
      unfold World.cell?
      simp only
      rw [hp1]
      have h3 : k < 3 := hk
      rcases (by omega : k = 0 ∨ k = 1 ∨ k = 2) with rfl | rfl | rfl <;> rfl⟩
    have HM := made_p (some ⟨w6.heap.size + 1, 0, none⟩) 1 1 (fun _ => ⟨some ⟨w6.heap.size, 0, none⟩, abcX, 3⟩) 4 0 true W7.heap.size W7 (.inr (.inr rfl)) (by omega) hrow (Nat.le_refl _) (fun i hi => ⟨Nat.le_refl _, hbr, (by decide : (3 : Nat) ≤ 65536)⟩)
    change Calls _ _ #[_, .int .i64 4, .int .u8 0, .bool true] _ _ at HM
    have HMM := Lib.hid HM
    have B7 := Lib.hid (B6.out.trans (hb7.mono B6.out.size))
    clear HM hp1 hp2 hrow hbr hb7 h7
    rw [hW7]
    refine HMM.out.mono ?_; rintro e w8 ⟨v8, rfl, ho8, hb8⟩
    have hmd : madeX 4 true 0 (rowsL (fun _ => (⟨some ⟨w6.heap.size, 0, none⟩, abcX, 3⟩ : ByteRow)) 1) = madeX 4 true 0 [abcX] := rfl
    rw [hmd] at ho8
    obtain ⟨A8, c8, e8, hc8, hm8, hr8⟩ := ho8.slice
    rw [abc_len] at e8 hc8
    subst e8
    have B8 := Lib.hid (B7.out.trans (hb8.mono B7.out.size))
    have HD := Lib.hid (mem_row 1048576 1048576 rfl hr8 (Nat.le_refl _) abc_len.symm (by rw [abc_len]; decide) hc8 hm8)
    clear ho8 hb8 hmd hc8 hm8 hr8 hW7 HMM
    go_wp2_with fail
    refine HD.out.mono ?_; rintro e w9 hd
    obtain ⟨A9, c9, rfl, -, hr9, hb9⟩ := mem_ok (m := 3) (u := 60) hd abc_d rfl (by rw [abc_len]; rfl)
    have R9 := Lib.hid hr9
    have B9 := Lib.hid (B8.out.trans (hb9.mono B8.out.size))
    clear hd hr9 hb9
    have k1 := run_conv_bytes (P := Tryz.prog) w9 22 9 5 Tryz.underlying22 Tryz.underlying5 Tryz.underlying9 A9 3 c9 _ abcX rfl R9.out
    have e3 : abcX.toArray = #[97, 98, 99] := rfl
    rw [e3] at k1
    clear e3
    go_wp2
    go_ret
    exact ⟨rfl, B9.out⟩
end Go.Proofs.YtgahfpflhhfhfaaGreat

/- The window of a made member; strings put together; rows of slices in a later world: plain. -/
namespace Go.Proofs.YtgahfpflhhfhfaaGreat
open Go.RowKit Rng Win Lz Box
set_option linter.unusedVariables false
set_option linter.unusedSimpArgs false
theorem blockOf_moreX {c : UInt8} {r q : List UInt8} (h : (c.toNat + 1) * 4 ≤ (c :: r).length) : blockOf (c :: r ++ q) = blockOf (c :: r) := by
  have e : (c :: r ++ q) = c :: (r ++ q) := rfl
  rw [e]
  unfold blockOf
  simp only
  have t : (c :: (r ++ q)).take ((c.toNat + 1) * 4) = (c :: r).take ((c.toNat + 1) * 4) := by rw [← List.cons_append, List.take_append_of_le_length h]
  rw [if_neg (by rw [← List.cons_append, List.length_append]; omega), t]
  conv => rhs; rw [if_neg (by omega)]
theorem blockOf_hdX (numbers : Bool) (b : List UInt8) {code : UInt8} (h : code.toNat ≤ 40) (hb : b.length ≤ 65536) (q : List UInt8) :
    blockOf (hdB numbers b code ++ q) = blockOf (hdB numbers b code) := by
  have hp := hdPad_len numbers b code
  have hl := hdB_len numbers b code
  obtain ⟨L, hL⟩ : ∃ L, UInt8.ofNat ((1 + (hdPad numbers b code).length) / 4) = L := ⟨_, rfl⟩
  have hLn : (L.toNat + 1) * 4 = (hdB numbers b code).length := by
    rw [← hL, UInt8.toNat_ofNat', hl]
    omega
  have hc : hdB numbers b code = L :: (hdPad numbers b code ++ sealB (L :: hdPad numbers b code)) := by
    unfold hdB sealOn
    rw [hL]
    rfl
  rw [hc] at hLn ⊢
  exact blockOf_moreX (by omega)
theorem headM_front (kc : UInt8) (hk : kc = 0 ∨ kc = 1 ∨ kc = 4) (r : List UInt8) : headOf (headM kc ++ r) = ((kc.toNat : Int), 0) := by
  have hs := sealed_seal [0, kc]
  have hl : (headM kc ++ r).length = 12 + r.length := by rw [List.length_append]; rfl
  unfold headOf
  rw [if_neg (by omega)]
  have e1 : (headM kc ++ r).take 6 = magic := rfl
  have e2 : ((headM kc ++ r).take 12).drop 6 = sealOn [0, kc] := rfl
  have e3 : (headM kc ++ r).getD 6 0 = 0 := rfl
  have e4 : (headM kc ++ r).getD 7 0 = kc := rfl
  rw [e1, e2, e3, e4, if_neg (by rw [hs]; simp), if_neg (by unfold flagsOk; simp [hk])]
theorem madeX_win {kc : UInt8} (hk : kc = 0 ∨ kc = 1 ∨ kc = 4) (numbers : Bool) {code : UInt8} (h : code.toNat ≤ 40) {l : List (List UInt8)} (hl : ∀ b ∈ l, b.length ≤ 65536) :
    winX (madeX kc numbers code l) = (if l.length = 0 then 0 else winOf code.toNat, 0) := by
  unfold madeX
  obtain ⟨F, hF⟩ : ∃ F, footM ((idxB (recsX (kc.toNat : Int) numbers code l)).length / 4 - 1) kc = F := ⟨_, rfl⟩
  obtain ⟨X, hX⟩ : ∃ X, blocksB (kc.toNat : Int) numbers code l ++ (idxB (recsX (kc.toNat : Int) numbers code l) ++ F) = X := ⟨_, rfl⟩
  have hil := idxB_len (recsX (kc.toNat : Int) numbers code l)
  have hXl : 1 ≤ X.length := by rw [← hX, List.length_append, List.length_append]; omega
  rw [hF, hX]
  unfold winX
  rw [headM_front kc hk X]
  have hlen : (headM kc ++ X).length = 12 + X.length := by rw [List.length_append]; rfl
  have hg : (headM kc ++ X).getD 12 0 = X.getD 0 0 := rfl
  have hd : (headM kc ++ X).drop 12 = X := rfl
  rw [if_neg (by simp), if_neg (by omega), hg, hd]
  cases l with
  | nil =>
    have h0 : X.getD 0 0 = 0 := by rw [← hX]; rfl
    rw [if_pos h0]
    rfl
  | cons b l =>
    have e : X = hdB numbers b code ++ ((bodyB b ++ (zs ((hdB numbers b code).length + (bodyB b).length) ++ chkB (kc.toNat : Int) b)) ++ (blocksB (kc.toNat : Int) numbers code l ++ (idxB (recsX (kc.toNat : Int) numbers code (b :: l)) ++ F))) := by
      rw [← hX]
      show (blockB (kc.toNat : Int) numbers b code ++ blocksB (kc.toNat : Int) numbers code l) ++ _ = _
      unfold blockB
      simp only [List.append_assoc]
    have h0 : ¬ X.getD 0 0 = 0 := by
      rw [← hX]
      have q := (blockB_head (kc.toNat : Int) numbers b (blocksB (kc.toNat : Int) numbers code l ++ (idxB (recsX (kc.toNat : Int) numbers code (b :: l)) ++ F)) code).1
      rw [← List.append_assoc] at q
      exact q
    rw [if_neg h0, e, blockOf_hdX numbers b h (hl b (by simp)), blockOf_hd numbers b h (hl b (by simp))]
    rfl
theorem xP_made {kc : UInt8} (hk : kc = 0 ∨ kc = 1 ∨ kc = 4) (numbers : Bool) {code : UInt8} (h : code.toNat ≤ 40) {budget : Nat} {l : List (List UInt8)} (hw : l = [] ∨ winOf code.toNat ≤ budget) (hl : ∀ b ∈ l, b.length ≤ 65536) (ht : l.flatten.length ≤ 16777216) (hn : l.length ≤ 1000) :
    xP budget (madeX kc numbers code l) = (l.flatten, .inr []) := by
  have q := madeX_read hk numbers h hw hl ht hn []
  rw [List.append_nil] at q
  unfold xP
  rw [q]
  rfl
theorem rowAt_below {w w' : World} {B : Nat} {A : Option Addr} {n : Nat} {f : Nat → Value} (h : Opn.RowAt w B A n f) (hB : B ≤ w.heap.size) (hb : Below w.heap.size w w') : Opn.RowAt w' B A n f := by
  intro hn
  obtain ⟨b, off, e, hlt, hc⟩ := h hn
  exact ⟨b, off, e, hlt, fun i hi => (World.cell?_of_block (hb.block b (by omega))).trans (hc i hi)⟩
theorem rowsL_flat (R : Nat → ByteRow) (k : Nat) : (rowsL R (k + 1)).flatten = (rowsL R k).flatten ++ (R k).bs := by
  rw [rowsL, List.flatten_append]
  simp
theorem rowsL_flat_len (R : Nat → ByteRow) (M : Nat) : ∀ k, (∀ i, i < k → (R i).bs.length ≤ M) → (rowsL R k).flatten.length ≤ M * k
  | 0, _ => by simp [rowsL]
  | k + 1, h => by
    have h1 := rowsL_flat_len R M k (fun i hi => h i (by omega))
    have h2 := h k (by omega)
    rw [rowsL_flat, List.length_append, Nat.mul_succ]
    omega
end Go.Proofs.YtgahfpflhhfhfaaGreat

/- A member that is made of plain blocks tells these, one behind the other: the law's walk. -/
namespace Go.Proofs.YtgahfpflhhfhfaaGreat
open Go.RowKit Rng Win Lz Box
set_option linter.unusedVariables false
set_option linter.unusedSimpArgs false
theorem madeX_len (kc : UInt8) (numbers : Bool) (code : UInt8) (l : List (List UInt8)) (hl : ∀ b ∈ l, b.length ≤ 65536) : (madeX kc numbers code l).length ≤ 1000 + 70000 * l.length := by
  have h1 := blocksB_len_le (kc.toNat : Int) numbers code l hl
  have h2 := idxB_len (recsX (kc.toNat : Int) numbers code l)
  have h3 := (idxRaw_len (recsX (kc.toNat : Int) numbers code l)).2
  have h4 : (recsX (kc.toNat : Int) numbers code l).length = l.length := by unfold recsX; rw [List.length_map]
  have h5 := padOf_lt (idxRaw (recsX (kc.toNat : Int) numbers code l)).length
  have h6 : (headM kc).length = 12 := rfl
  have h7 : ∀ k, (footM k kc).length = 12 := fun k => rfl
  unfold madeX
  rw [List.length_append, List.length_append, List.length_append, h6, h7]
  omega
theorem tmod3 (x : Int) : ∃ (r : Int) (k : Nat), x.tmod 3 = r ∧ -3 < r ∧ r < 3 ∧ (r + 3) % 3 = k ∧ (k = 0 ∨ k = 1 ∨ k = 2) := by
  have a1 := Int.tmod_lt_of_pos x (show (0 : Int) < 3 by omega)
  have a2 := Int.lt_tmod_of_pos x (show (0 : Int) < 3 by omega)
  exact ⟨_, ((x.tmod 3 + 3) % 3).toNat, rfl, by omega, by omega, by omega, by omega⟩
set_option maxRecDepth 100000 in
set_option maxHeartbeats 8000000 in
theorem lawMade20 (A : Option Addr) (n c : Nat) (R : Nat → ByteRow) (check code : Int) (numbers : Bool) (w : World) (hl : n ≤ c) (hm : c ≤ maxLen) (hr0 : Opn.RowAt w w.heap.size A n fun i => (R i).v)
    (h4 : ∀ i, i < n → (R i).bs.length ≤ (R i).cap ∧ (R i).cap ≤ maxLen ∧ BRow w w.heap.size (R i).A (R i).bs) (hx : -9223372036854775808 ≤ check ∧ check ≤ 9223372036854775807) (hy : 0 ≤ code ∧ code ≤ 255) :
    Calls Tryz.prog 4 #[.slice A n c, .int .i64 check, .int .u8 code, .bool numbers] w fun e w' => e = .returned (.bool true) ∧ Below w.heap.size w w' := by
  have HR := Lib.hid hr0
  have H4 := Lib.hid h4
  clear hr0 h4 hl hm hx
  by_cases hbig : 12 < n
  · have hq : (12 : Int) < (n : Int) := by omega
    clear hbig hy
    go_enter Tryz.func4, Tryz.ntmps4
    go_wp2_with fail
    refine (wakes20 w).mono ?_; rintro e w2 ⟨rfl, hb2⟩
    have B2 := Lib.hid hb2
    clear hb2
    go_wp2
    go_ret
    exact ⟨rfl, B2.out⟩
  · have hn12 : (n : Int) ≤ 12 := by omega
    obtain ⟨cd, rfl⟩ : ∃ cd : Nat, code = cd := ⟨code.toNat, by omega⟩
    obtain ⟨cb, hcb⟩ : ∃ cb : UInt8, cb.toNat = cd % 25 := ⟨UInt8.ofNat (cd % 25), by simp; omega⟩
    obtain ⟨cm, hcm⟩ : ∃ cm, cb.toNat = cm := ⟨_, rfl⟩
    have icm : (cd : Int) % 25 = (cm : Int) := by omega
    have hcm25 : cm < 25 := by omega
    have HC := Lib.hid hcm
    obtain ⟨r3, k3, m1, m2, m3, m4, m5⟩ := tmod3 check
    have m6 : IntKind.i64.wrap (r3 + 3) = r3 + 3 := Go.IntWalk.i64_in _ (by omega)
    have m7 : IntKind.i64.wrap r3 = r3 := Go.IntWalk.i64_in _ (by omega)
    have HM3 := Lib.hid (And.intro m2 m3)
    clear hbig hy hcb hcm
    go_enter Tryz.func4, Tryz.ntmps4
    go_wp2
    go_loopw [9, 10] (fun sv iv wr => wr = w ∧ ∃ i : Nat, iv = .int .i64 (i : Int) ∧ i ≤ n ∧ sv = .string ⟨(rowsL R i).flatten.toArray⟩ ∧ ∀ k, k < i → (R k).bs.length ≤ 8192) (fun _ iv _ => n - (intOf iv).toNat)
    case atStart => exact ⟨rfl, 0, rfl, Nat.zero_le _, rfl, fun k hk => absurd hk (by omega)⟩
    case round =>
      obtain ⟨hwr, i, rfl, hi, rfl, hall⟩ := hrel
      subst hwr
      have HA := Lib.hid hall
      obtain ⟨X, hX⟩ : ∃ X, (rowsL R i).flatten = X := ⟨_, rfl⟩
      have HX := Lib.hid (And.intro hX (show X.length ≤ 8192 * 12 by rw [← hX]; have := rowsL_flat_len R 8192 i hall; omega))
      rw [hX]
      clear hall hX
      by_cases hlt : i < n
      · obtain ⟨b, off, rfl, hbB, hcl⟩ := HR.out (by omega)
        have hcc : wr.cell? ⟨b, off + i, none⟩ = some (.slice (R i).A (R i).bs.length (R i).cap) := hcl i hlt
        obtain ⟨g1, g2, g3⟩ := H4.out i hlt
        obtain ⟨bs, hbs⟩ : ∃ bs, (R i).bs = bs := ⟨_, rfl⟩
        obtain ⟨rA, hrA⟩ : ∃ rA, (R i).A = rA := ⟨_, rfl⟩
        obtain ⟨rk, hrk⟩ : ∃ rk, (R i).cap = rk := ⟨_, rfl⟩
        rw [hbs] at hcc g1 g3
        rw [hrA] at hcc g3
        rw [hrk] at hcc g1 g2
        obtain ⟨lb, hlb⟩ : ∃ lb, bs.length = lb := ⟨_, rfl⟩
        rw [hlb] at hcc g1
        have HBS := Lib.hid (And.intro hbs hlb)
        have HG := Lib.hid g3
        have glb : lb ≤ 9223372036854775807 := Nat.le_trans g1 g2
        clear hbs hrA hrk hlb g3 g1 g2 hcl hbB
        by_cases hbig : 8192 < lb
        · have hq : (8192 : Int) < (lb : Int) := by omega
          clear hbig
          go_wp2_with fail
          refine (wakes20 wr).mono ?_; rintro e w2 ⟨rfl, hb2⟩
          have B2 := Lib.hid hb2
          clear hb2
          go_wp2
          go_ret
          exact ⟨rfl, B2.out⟩
        · have hq : (lb : Int) ≤ 8192 := by omega
          have k1 := run_conv_bytes (P := Tryz.prog) wr 22 9 5 Tryz.underlying22 Tryz.underlying5 Tryz.underlying9 rA lb rk _ bs HBS.out.2.symm HG.out
          have hnext : (rowsL R (i + 1)).flatten = X ++ bs := by rw [rowsL_flat, HX.out.1, HBS.out.1]
          have HNX := Lib.hid hnext
          have HLB := Lib.hid hbig
          obtain ⟨s1, hs1⟩ : ∃ s, bs.toArray = s := ⟨_, rfl⟩
          obtain ⟨s2, hs2⟩ : ∃ s, X.toArray = s := ⟨_, rfl⟩
          have hsz : s2.size + s1.size ≤ 9223372036854775807 := by rw [← hs1, ← hs2]; simp; have := HX.out.2; have := HBS.out.2; omega
          rw [hs1] at k1
          rw [hs2]
          have HS := Lib.hid (And.intro hs1 hs2)
          clear hbig hs1 hs2 hnext
          go_wp2
          exact ⟨⟨trivial, i + 1, rfl, by omega, by rw [HNX.out, ← HS.out.1, ← HS.out.2, ByteArray.mk_append_mk], fun k hk => by
            by_cases h : k < i
            · exact HA.out k h
            · obtain rfl : k = i := by omega
              have := HLB.out
              rw [HBS.out.1, HBS.out.2]
              omega⟩, by simp only [intOf]; omega⟩
      · obtain rfl : i = n := by omega
        obtain ⟨SA, hSA⟩ : ∃ s, X.toArray = s := ⟨_, rfl⟩
        rw [hSA]
        have HSA := Lib.hid hSA
        clear hlt hi hSA
        go_upto_region 10 with fail
        go_cut [1] from 104 (fun v wx => ∃ kc : UInt8, v = .int .i64 (kc.toNat : Int) ∧ (kc = 0 ∨ kc = 1 ∨ kc = 4) ∧ Below wr.heap.size wr wx)
        case first =>
          rcases m5 with rfl | rfl | rfl
          · go_wp2
            go_meet
            case rel => exact ⟨0, rfl, .inl rfl, below_alloc _ _⟩
          · go_wp2
            go_meet
            case rel => exact ⟨1, rfl, .inr (.inl rfl), below_alloc _ _⟩
          · go_wp2
            go_meet
            case rel => exact ⟨4, rfl, .inr (.inr rfl), below_alloc _ _⟩
        case rest =>
          obtain ⟨kc, rfl, hkc, hbc⟩ := hcut
          have hall : ∀ b ∈ rowsL R i, b.length ≤ 65536 := rowsL_all (fun k hk => by have := HA.out k hk; omega)
          obtain ⟨M, hM⟩ : ∃ M, madeX kc numbers cb (rowsL R i) = M := ⟨_, rfl⟩
          obtain ⟨ML, hML⟩ : ∃ ML, M.length = ML := ⟨_, rfl⟩
          have hcb40 : cb.toNat ≤ 40 := by rw [HC.out]; omega
          have hMb : ML ≤ 1000000 := by
            have q := madeX_len kc numbers cb (rowsL R i) hall
            rw [hM, hML, rowsL_len] at q
            omega
          have hwb : winOf cb.toNat ≤ ((16777216 : Nat) : Int) := by
            rw [HC.out]
            unfold winOf
            rw [if_neg (by omega)]
            rcases (by omega : cm = 24 ∨ cm < 24) with rfl | h24
            · decide
            · have h1 : 2 ^ (cm / 2 + 11) ≤ 2 ^ 22 := Nat.pow_le_pow_right (by decide) (by omega)
              have h2 : (2 + cm % 2) * 2 ^ (cm / 2 + 11) ≤ 3 * 2 ^ 22 := Nat.mul_le_mul (by omega) h1
              have h3 : (3 : Nat) * 2 ^ 22 = 12582912 := by decide
              omega
          have hxp : xP 16777216 M = (X, .inr []) := by
            rw [← hM, ← HX.out.1]
            exact xP_made hkc numbers hcb40 (.inr hwb) hall (by rw [HX.out.1]; have := HX.out.2; omega) (by rw [rowsL_len]; omega)
          obtain ⟨WV, hWV⟩ : ∃ WV, (if i = 0 then 0 else winOf cm) = WV := ⟨_, rfl⟩
          have hwx : winX M = (WV, 0) := by
            rw [← hM, madeX_win hkc numbers hcb40 hall, rowsL_len, HC.out, hWV]
          have HWV := Lib.hid hWV
          have HMF := Lib.hid (And.intro hM (And.intro hML (And.intro hMb (And.intro hxp hwx))))
          have HMD := Lib.hid (made_p A i c R kc cb numbers wr.heap.size wc hkc (by omega) (rowAt_below HR.out (Nat.le_refl _) hbc) hbc.size (fun k hk => ⟨(H4.out k hk).1, (H4.out k hk).2.2.below hbc, by have := HA.out k hk; omega⟩))
          have BC := Lib.hid hbc
          rw [hM] at HMD
          rw [HC.out] at HMD
          clear hall hM hML hcb40 hMb hwb hxp hwx hkc hbc m4 m5 hWV
          go_wp2_with fail
          refine HMD.out.mono ?_; rintro e w2 ⟨v2, rfl, ho2, hb2⟩
          obtain ⟨A2, c2, e2, hc2, hm2, hr2⟩ := ho2.slice
          rw [HMF.out.2.1] at e2 hc2
          subst e2
          have B2 := Lib.hid (BC.out.trans (hb2.mono BC.out.size))
          have R2 := Lib.hid hr2
          have HC2 := Lib.hid (And.intro hc2 hm2)
          have HD := Lib.hid (member_p A2 M ML c2 16777216 w2 HMF.out.2.1.symm hr2 hc2 hm2 (by have := HMF.out.2.2.1; omega))
          rw [show budOf 16777216 = 16777216 by decide] at HD
          clear ho2 hb2 hc2 hm2 hr2 HMD
          go_wp2_with fail
          refine HD.out.mono ?_; rintro e w3 hd
          obtain ⟨XL, hXL⟩ : ∃ XL, X.length = XL := ⟨_, rfl⟩
          obtain ⟨A3, c3, rfl, -, hr3, hb3⟩ := mem_ok (m := XL) (u := ML) hd HMF.out.2.2.2.1 hXL (by rw [HMF.out.2.1]; rfl)
          have R3 := Lib.hid hr3
          have B3 := Lib.hid (B2.out.trans (hb3.mono B2.out.size))
          have R23 := Lib.hid ((R2.out.below hb3).more hb3.size)
          have HXL := Lib.hid hXL
          clear hd hr3 hb3 HD hXL
          have HW := Lib.hid (window_x A2 M ML c2 w3 HMF.out.2.1.symm R23.out HC2.out.1 HC2.out.2)
          rw [HMF.out.2.2.2.2] at HW
          simp only at HW
          go_wp2_with fail
          refine HW.out.mono ?_; rintro e w4 ⟨rfl, hb4⟩
          have B4 := Lib.hid (B3.out.trans (hb4.mono B3.out.size))
          have R4 := Lib.hid ((R3.out.below hb4).more hb4.size)
          clear hb4 HW R23 R2 R3
          go_upto_if 69 with fail
          go_cut [17] from 104 (fun v wx => v = .int .i64 WV ∧ wx = w4)
          case first =>
            by_cases h0 : i = 0
            · have q0 : (i : Int) ≤ 0 := by omega
              have H0 := Lib.hid h0
              clear h0
              go_wp2
              have h0 := H0.out
              subst h0
              go_meet
              case rel => exact ⟨by rw [← HWV.out, if_pos rfl], rfl⟩
            · have q0 : (0 : Int) < (i : Int) := by omega
              have H0 := Lib.hid h0
              have ha := (and_facts (F := cm) (by omega)).2.2.2.2
              have hwin := win_in (m := cm) (by omega)
              have hwo : winOf cm = (((2 + cm % 2) * 2 ^ (cm / 2 + 11) : Nat) : Int) := by unfold winOf; rw [if_neg (by omega)]
              obtain ⟨q, hq⟩ : ∃ q, cm % 2 = q := ⟨_, rfl⟩
              have hq2 : q < 2 := by omega
              rw [hq] at ha hwin hwo
              have hmod : (2 + (q : Int)) % 256 = 2 + (q : Int) := by omega
              obtain ⟨z, hz⟩ : ∃ z, 2 ^ (cm / 2 + 11) = z := ⟨_, rfl⟩
              have hzi : (2 : Int) ^ (cm / 2 + 11) = (z : Int) := by rw [← hz]; simp
              rw [hz] at hwin hwo
              have hp : (2 + (q : Int)) * (z : Int) = (((2 + q) * z : Nat) : Int) := by simp
              obtain ⟨W, hW⟩ : ∃ W, (2 + q) * z = W := ⟨_, rfl⟩
              rw [hW] at hp hwin hwo
              have hww : wrap64 (W : Int) = (W : Int) := by unfold wrap64; omega
              have HZI := Lib.hid (And.intro hzi (And.intro hwo (And.intro hp hww)))
              clear hwo hq hz hW hzi h0 hp hww hwin
              go_wp2
              go_meet
              case rel =>
                refine ⟨?_, rfl⟩
                rw [← HWV.out, if_neg H0.out, HZI.out.2.1]
                show Value.int .i64 (wrap64 ((2 + (q : Int)) * 2 ^ (cm / 2 + 11))) = _
                rw [HZI.out.1, HZI.out.2.2.1, HZI.out.2.2.2]
          case rest =>
            obtain ⟨hv, hwc⟩ := hcut
            subst hv
            rw [hwc]
            clear hwc
            have k1 := fun dd => run_conv_bytes (P := Tryz.prog) (w4.drewN dd) 22 9 5 Tryz.underlying22 Tryz.underlying5 Tryz.underlying9 A3 XL c3 _ X HXL.out.symm (BRow.drewN R4.out dd)
            rw [HSA.out] at k1
            have k1w := k1 0
            change (convert 22 9 (.slice A3 XL c3)).run Tryz.prog w4 = _ at k1w
            go_wp2_with fail
            refine (wakes20 _).mono ?_; rintro e w7 ⟨rfl, b7⟩
            have B7 := Lib.hid (B4.out.trans (b7.mono B4.out.size))
            clear b7
            go_wp2
            go_ret
            exact ⟨rfl, B7.out⟩
end Go.Proofs.YtgahfpflhhfhfaaGreat

/- With a greater budget a member tells the same; with one below a block's window it is over the budget: the law's walk. -/
namespace Go.Proofs.YtgahfpflhhfhfaaGreat
open Go.RowKit Rng Win Lz Box
set_option linter.unusedVariables false
set_option linter.unusedSimpArgs false
theorem xP_over {kc : UInt8} (hk : kc = 0 ∨ kc = 1 ∨ kc = 4) (numbers : Bool) {code : UInt8} (h : code.toNat ≤ 40) {budget : Nat} {l : List (List UInt8)} (hw : (budget : Int) < winOf code.toNat) (hl : ∀ b ∈ l, b.length ≤ 65536) (hn : 0 < l.length) :
    xP budget (madeX kc numbers code l) = ([], .inl 40) := by
  cases l with
  | nil => simp at hn
  | cons b l =>
    have q := madeX_over hk numbers h hw (hl b (by simp)) (l := l) []
    rw [List.append_nil] at q
    unfold xP
    rw [q]
set_option maxRecDepth 100000 in
set_option maxHeartbeats 8000000 in
theorem lawBudget20 (A : Option Addr) (n c : Nat) (R : Nat → ByteRow) (code budget : Int) (w : World) (hl : n ≤ c) (hm : c ≤ maxLen) (hr0 : Opn.RowAt w w.heap.size A n fun i => (R i).v)
    (h4 : ∀ i, i < n → (R i).bs.length ≤ (R i).cap ∧ (R i).cap ≤ maxLen ∧ BRow w w.heap.size (R i).A (R i).bs) (hy : 0 ≤ code ∧ code ≤ 255) (hx : -9223372036854775808 ≤ budget ∧ budget ≤ 9223372036854775807) :
    Calls Tryz.prog 6 #[.slice A n c, .int .u8 code, .int .i64 budget] w fun e w' => e = .returned (.bool true) ∧ Below w.heap.size w w' := by
  have HR := Lib.hid hr0
  have H4 := Lib.hid h4
  clear hr0 h4 hl hm hx
  by_cases hbig : n = 0 ∨ 8 < n
  · have hq : n = 0 ∨ (((n : Int) == 0) = false ∧ (8 : Int) < (n : Int)) := by
      rcases hbig with h | h
      · exact .inl h
      · exact .inr ⟨beq_eq_false_iff_ne.2 (by omega), by omega⟩
    clear hbig hy
    rcases hq with rfl | ⟨q1, q2⟩
    all_goals
      go_enter Tryz.func6, Tryz.ntmps6
      go_wp2_with fail
      refine (wakes20 w).mono ?_; rintro e w2 ⟨rfl, hb2⟩
      have B2 := Lib.hid hb2
      clear hb2
      go_wp2
      go_ret
      exact ⟨rfl, B2.out⟩
  · have hn12 : (n : Int) ≤ 8 := by omega
    have hn0 : ((n : Int) == 0) = false := beq_eq_false_iff_ne.2 (by omega)
    have HN0 : Hid (0 < n) := Lib.hid (by omega)
    obtain ⟨cd, rfl⟩ : ∃ cd : Nat, code = cd := ⟨code.toNat, by omega⟩
    obtain ⟨cb, hcb⟩ : ∃ cb : UInt8, cb.toNat = cd % 41 := ⟨UInt8.ofNat (cd % 41), by simp; omega⟩
    obtain ⟨cm, hcm⟩ : ∃ cm, cb.toNat = cm := ⟨_, rfl⟩
    have icm : (cd : Int) % 41 = (cm : Int) := by omega
    have hcm25 : cm < 41 := by omega
    have HC := Lib.hid hcm
    obtain ⟨bud, hbud⟩ : ∃ bud : Nat, budOf budget = bud := ⟨_, rfl⟩
    obtain ⟨bm, hbm⟩ : ∃ bm, min budget 16777216 = bm := ⟨_, rfl⟩
    have hmx : max 0 bm = (bud : Int) := by rw [← hbud]; unfold budOf; omega
    have f1 := fun w => Fnd.min2_int (P := Tryz.prog) #[3, 3] 3 _ _ _ hbm w
    have f2 := fun w => Fnd.max2_int (P := Tryz.prog) #[3, 3] 3 _ _ _ hmx w
    have HBU := Lib.hid hbud
    obtain ⟨WV, hWV⟩ : ∃ WV, winOf cm = WV := ⟨_, rfl⟩
    have HWV := Lib.hid hWV
    clear hbig hy hcb hcm hbud hbm hmx hWV
    go_enter Tryz.func6, Tryz.ntmps6
    go_wp2
    go_loopw [7, 8] (fun sv iv wr => wr = w ∧ ∃ i : Nat, iv = .int .i64 (i : Int) ∧ i ≤ n ∧ sv = .string ⟨(rowsL R i).flatten.toArray⟩ ∧ ∀ k, k < i → (R k).bs.length ≤ 4096) (fun _ iv _ => n - (intOf iv).toNat)
    case atStart => exact ⟨rfl, 0, rfl, Nat.zero_le _, rfl, fun k hk => absurd hk (by omega)⟩
    case round =>
      obtain ⟨hwr, i, rfl, hi, rfl, hall⟩ := hrel
      subst hwr
      have HA := Lib.hid hall
      obtain ⟨X, hX⟩ : ∃ X, (rowsL R i).flatten = X := ⟨_, rfl⟩
      have HX := Lib.hid (And.intro hX (show X.length ≤ 4096 * 8 by rw [← hX]; have := rowsL_flat_len R 4096 i hall; omega))
      rw [hX]
      clear hall hX
      by_cases hlt : i < n
      · obtain ⟨b, off, rfl, hbB, hcl⟩ := HR.out (by omega)
        have hcc : wr.cell? ⟨b, off + i, none⟩ = some (.slice (R i).A (R i).bs.length (R i).cap) := hcl i hlt
        obtain ⟨g1, g2, g3⟩ := H4.out i hlt
        obtain ⟨bs, hbs⟩ : ∃ bs, (R i).bs = bs := ⟨_, rfl⟩
        obtain ⟨rA, hrA⟩ : ∃ rA, (R i).A = rA := ⟨_, rfl⟩
        obtain ⟨rk, hrk⟩ : ∃ rk, (R i).cap = rk := ⟨_, rfl⟩
        rw [hbs] at hcc g1 g3
        rw [hrA] at hcc g3
        rw [hrk] at hcc g1 g2
        obtain ⟨lb, hlb⟩ : ∃ lb, bs.length = lb := ⟨_, rfl⟩
        rw [hlb] at hcc g1
        have HBS := Lib.hid (And.intro hbs hlb)
        have HG := Lib.hid g3
        have glb : lb ≤ 9223372036854775807 := Nat.le_trans g1 g2
        clear hbs hrA hrk hlb g3 g1 g2 hcl hbB
        by_cases hbig : 4096 < lb
        · have hq : (4096 : Int) < (lb : Int) := by omega
          clear hbig
          go_wp2_with fail
          refine (wakes20 wr).mono ?_; rintro e w2 ⟨rfl, hb2⟩
          have B2 := Lib.hid hb2
          clear hb2
          go_wp2
          go_ret
          exact ⟨rfl, B2.out⟩
        · have hq : (lb : Int) ≤ 4096 := by omega
          have k1 := run_conv_bytes (P := Tryz.prog) wr 22 9 5 Tryz.underlying22 Tryz.underlying5 Tryz.underlying9 rA lb rk _ bs HBS.out.2.symm HG.out
          have hnext : (rowsL R (i + 1)).flatten = X ++ bs := by rw [rowsL_flat, HX.out.1, HBS.out.1]
          have HNX := Lib.hid hnext
          have HLB := Lib.hid hbig
          obtain ⟨s1, hs1⟩ : ∃ s, bs.toArray = s := ⟨_, rfl⟩
          obtain ⟨s2, hs2⟩ : ∃ s, X.toArray = s := ⟨_, rfl⟩
          have hsz : s2.size + s1.size ≤ 9223372036854775807 := by rw [← hs1, ← hs2]; simp; have := HX.out.2; have := HBS.out.2; omega
          rw [hs1] at k1
          rw [hs2]
          have HS := Lib.hid (And.intro hs1 hs2)
          clear hbig hs1 hs2 hnext
          go_wp2
          exact ⟨⟨trivial, i + 1, rfl, by omega, by rw [HNX.out, ← HS.out.1, ← HS.out.2, ByteArray.mk_append_mk], fun k hk => by
            by_cases h : k < i
            · exact HA.out k h
            · obtain rfl : k = i := by omega
              have := HLB.out
              rw [HBS.out.1, HBS.out.2]
              omega⟩, by simp only [intOf]; omega⟩
      · obtain rfl : i = n := by omega
        obtain ⟨SA, hSA⟩ : ∃ s, X.toArray = s := ⟨_, rfl⟩
        rw [hSA]
        have HSA := Lib.hid hSA
        clear hlt hi hSA
        go_upto_if 45 with fail
        go_cut [9] from 93 (fun v wx => v = .int .i64 WV ∧ wx = wr)
        case first =>
          by_cases h40 : cm = 40
          · have q0 : (40 : Int) ≤ (cm : Int) := by omega
            have H0 := Lib.hid h40
            clear h40
            go_wp2
            go_meet
            case rel => exact ⟨by rw [← HWV.out, H0.out]; rfl, rfl⟩
          · have q0 : (cm : Int) < 40 := by omega
            have ha := (and_facts (F := cm) (by omega)).2.2.2.2
            have hwin := win_in (m := cm) (by omega)
            have hwo : winOf cm = (((2 + cm % 2) * 2 ^ (cm / 2 + 11) : Nat) : Int) := by unfold winOf; rw [if_neg h40]
            obtain ⟨q, hq⟩ : ∃ q, cm % 2 = q := ⟨_, rfl⟩
            have hq2 : q < 2 := by omega
            rw [hq] at ha hwin hwo
            have hmod : (2 + (q : Int)) % 256 = 2 + (q : Int) := by omega
            obtain ⟨z, hz⟩ : ∃ z, 2 ^ (cm / 2 + 11) = z := ⟨_, rfl⟩
            have hzi : (2 : Int) ^ (cm / 2 + 11) = (z : Int) := by rw [← hz]; simp
            rw [hz] at hwin hwo
            have hp : (2 + (q : Int)) * (z : Int) = (((2 + q) * z : Nat) : Int) := by simp
            obtain ⟨W, hW⟩ : ∃ W, (2 + q) * z = W := ⟨_, rfl⟩
            rw [hW] at hp hwin hwo
            have hww : wrap64 (W : Int) = (W : Int) := by unfold wrap64; omega
            have HZI := Lib.hid (And.intro hzi (And.intro hwo (And.intro hp hww)))
            clear hwo hq hz hW hzi h40 hp hww hwin
            go_wp2
            go_meet
            case rel =>
              refine ⟨?_, rfl⟩
              rw [← HWV.out, HZI.out.2.1]
              show Value.int .i64 (wrap64 ((2 + (q : Int)) * 2 ^ (cm / 2 + 11))) = _
              rw [HZI.out.1, HZI.out.2.2.1, HZI.out.2.2.2]
        case rest =>
          obtain ⟨rfl, hwc⟩ := hcut
          rw [hwc]
          clear hwc
          have hall : ∀ b ∈ rowsL R i, b.length ≤ 65536 := rowsL_all (fun k hk => by have := HA.out k hk; omega)
          obtain ⟨M, hM⟩ : ∃ M, madeX 4 false cb (rowsL R i) = M := ⟨_, rfl⟩
          obtain ⟨ML, hML⟩ : ∃ ML, M.length = ML := ⟨_, rfl⟩
          have hcb40 : cb.toNat ≤ 40 := by rw [HC.out]; omega
          have hMb : ML ≤ 1000000 := by
            have q := madeX_len 4 false cb (rowsL R i) hall
            rw [hM, hML, rowsL_len] at q
            omega
          have hxo : (bud : Int) < WV → xP bud M = ([], .inl 40) := fun h => by
            rw [← hM]
            exact xP_over (.inr (.inr rfl)) false hcb40 (by rw [HC.out, HWV.out]; exact h) hall (by rw [rowsL_len]; exact HN0.out)
          have hxp : WV ≤ (bud : Int) → xP bud M = (X, .inr []) := fun h => by
            rw [← hM, ← HX.out.1]
            exact xP_made (.inr (.inr rfl)) false hcb40 (.inr (by rw [HC.out, HWV.out]; exact h)) hall (by rw [HX.out.1]; have := HX.out.2; omega) (by rw [rowsL_len]; omega)
          have HMF := Lib.hid (And.intro hM (And.intro hML (And.intro hMb (And.intro hxo hxp))))
          have hmd := made_p A i c R 4 cb false wr.heap.size wr (.inr (.inr rfl)) (by omega) HR.out (Nat.le_refl _) (fun k hk => ⟨(H4.out k hk).1, (H4.out k hk).2.2, by have := HA.out k hk; omega⟩)
          rw [hM, HC.out] at hmd
          change Calls _ _ #[_, .int .i64 4, _, _] _ _ at hmd
          have HMD := Lib.hid hmd
          clear hall hM hML hcb40 hMb hxo hxp hmd
          go_wp2_with fail
          refine HMD.out.mono ?_; rintro e w2 ⟨v2, rfl, ho2, hb2⟩
          obtain ⟨A2, c2, e2, hc2, hm2, hr2⟩ := ho2.slice
          rw [HMF.out.2.1] at e2 hc2
          subst e2
          have B2 := Lib.hid hb2
          have hd2 := member_p A2 M ML c2 budget w2 HMF.out.2.1.symm hr2 hc2 hm2 (by have := HMF.out.2.2.1; omega)
          rw [HBU.out] at hd2
          have HD := Lib.hid hd2
          clear ho2 hb2 hc2 hm2 hr2 HMD hd2
          go_wp2_with fail
          refine HD.out.mono ?_; rintro e w3 hd
          rcases (by omega : (bud : Int) < WV ∨ WV ≤ (bud : Int)) with hlt | hge
          · obtain ⟨A3, c3, rfl, -, -, hb3, -⟩ := mem_err (m := 0) hd (HMF.out.2.2.2.1 hlt) rfl
            have B3 := Lib.hid (B2.out.trans (hb3.mono B2.out.size))
            clear hd hb3 HD
            go_wp2_with fail
            refine (wakes20 _).mono ?_; rintro e w7 ⟨rfl, b7⟩
            have B7 := Lib.hid (B3.out.trans (b7.mono B3.out.size))
            clear b7
            go_wp2
            go_ret
            exact ⟨rfl, B7.out⟩
          · obtain ⟨XL, hXL⟩ : ∃ XL, X.length = XL := ⟨_, rfl⟩
            obtain ⟨A3, c3, rfl, -, hr3, hb3⟩ := mem_ok (m := XL) (u := ML) hd (HMF.out.2.2.2.2 hge) hXL (by rw [HMF.out.2.1]; rfl)
            have R3 := Lib.hid hr3
            have B3 := Lib.hid (B2.out.trans (hb3.mono B2.out.size))
            have k1 := run_conv_bytes (P := Tryz.prog) w3 22 9 5 Tryz.underlying22 Tryz.underlying5 Tryz.underlying9 A3 XL c3 _ X hXL.symm R3.out
            rw [HSA.out] at k1
            clear hd hr3 hb3 HD hXL
            go_wp2_with fail
            refine (wakes20 _).mono ?_; rintro e w7 ⟨rfl, b7⟩
            have B7 := Lib.hid (B3.out.trans (b7.mono B3.out.size))
            clear b7
            go_wp2
            go_ret
            exact ⟨rfl, B7.out⟩
end Go.Proofs.YtgahfpflhhfhfaaGreat

/- A taken member's last byte, and its least length: plain. -/
namespace Go.Proofs.YtgahfpflhhfhfaaGreat
open Go.RowKit Rng Win Lz Box
set_option linter.unusedVariables false
set_option linter.unusedSimpArgs false
theorem xNums_lt {a : Nat} {l : List Nat} {s r : List UInt8} (h : xNums (a :: l) s = .inr r) : r.length + 1 ≤ s.length := by
  unfold xNums at h
  cases hd : xNum a s with
  | inl e => rw [hd] at h; simp at h
  | inr s1 =>
    rw [hd] at h
    simp only at h
    obtain ⟨m, m1, m2, m3, -⟩ := xNum_exact hd
    obtain ⟨k, k1, k2, -⟩ := xNums_exact l h
    rw [k2, m3, List.length_drop, List.length_drop]
    omega
theorem xIndex_len {recs : List (Nat × Nat)} {s r : List UInt8} {size : Nat} (h1 : 1 ≤ s.length) (h : xIndex recs s = .inr (size, r)) : 8 ≤ size ∧ size ≤ s.length ∧ r = s.drop size := by
  obtain ⟨m, m1, m2, m3, m4, -⟩ := xIndex_exact h1 h
  subst m4
  refine ⟨?_, m2, m3⟩
  unfold xIndex at h
  cases hd : xNums (recN recs) (s.drop 1) with
  | inl e => rw [hd] at h; simp at h
  | inr r2 =>
    rw [hd] at h
    simp only at h
    have hl : r2.length + 1 ≤ (s.drop 1).length := xNums_lt hd
    rw [List.length_drop] at hl
    split at h
    · simp at h
    · split at h
      · simp at h
      · simp only [Sum.inr.injEq, Prod.mk.injEq] at h
        have hp := padOf_mod (s.length - r2.length)
        have := h.1
        omega
theorem footOf_last {q : List UInt8} (hl : q.length = 12) (h : ¬ (footOf q).2.2 ≠ 0) : q.getD 11 0 = 90 := by
  unfold footOf at h
  rw [if_neg (by omega)] at h
  by_cases h1 : ¬ ((sealB ((q.drop 4).take 6) == q.take 4) = true ∧ ((q.take 12).drop 10 == ([89, 90] : List UInt8)) = true)
  · rw [if_pos h1] at h; exact absurd (by decide) h
  · have h2 := (Classical.not_not.1 h1).2
    rw [List.take_of_length_le (by omega)] at h2
    have h3 : q.drop 10 = [89, 90] := eq_of_beq h2
    have h4 : q.getD 11 0 = (q.drop 10).getD 1 0 := by
      rw [List.getD_eq_getElem?_getD, List.getD_eq_getElem?_getD, List.getElem?_drop]
    rw [h4, h3]
    rfl
theorem xMem_foot {budget : Nat} {src T r : List UInt8} (h : xMem budget src = (T, .inr r)) : ∃ m, 32 ≤ m ∧ m ≤ src.length ∧ r = src.drop m ∧ src.getD (m - 1) 0 = 90 := by
  unfold xMem at h
  by_cases h1 : src.length < 12
  · rw [if_pos h1] at h; simp at h
  rw [if_neg h1] at h
  by_cases h2 : (headOf (src.take 12)).2 ≠ 0
  · rw [if_pos h2] at h; simp at h
  rw [if_neg h2] at h
  cases hd : xBlocks budget (headOf (src.take 12)).1 (src.length + 1) [] [] (src.drop 12) with
  | mk out R =>
    rw [hd] at h
    cases R with
    | inl e => simp at h
    | inr p =>
      obtain ⟨recs, s⟩ := p
      simp only at h
      obtain ⟨k1, k2, n, n1, n2⟩ := xBlocks_src _ hd
      rw [List.length_drop] at n1
      unfold xEnd at h
      cases hx : xIndex recs s with
      | inl e => rw [hx] at h; simp at h
      | inr p =>
        obtain ⟨size, r1⟩ := p
        rw [hx] at h
        simp only at h
        obtain ⟨z1, z2, z3⟩ := xIndex_len k1 hx
        have hsl : s.length = src.length - 12 - n := by rw [n2, List.length_drop, List.length_drop]
        have hrl : r1.length = s.length - size := by rw [z3, List.length_drop]
        have hs : r1 = src.drop (12 + n + size) := by rw [z3, n2, List.drop_drop, List.drop_drop, Nat.add_assoc]
        by_cases q1 : r1.length < 12
        · rw [if_pos q1] at h; simp at h
        rw [if_neg q1] at h
        by_cases q2 : (footOf (r1.take 12)).2.2 ≠ 0
        · rw [if_pos q2] at h; simp at h
        rw [if_neg q2] at h
        by_cases q3 : (footOf (r1.take 12)).1 ≠ (headOf (src.take 12)).1 ∨ (footOf (r1.take 12)).2.1 ≠ size
        · rw [if_pos q3] at h; simp at h
        rw [if_neg q3] at h
        simp only [Prod.mk.injEq, Sum.inr.injEq] at h
        have hf := footOf_last (by rw [List.length_take]; omega) q2
        have e1 : (r1.take 12).getD 11 0 = src.getD (12 + n + size + 12 - 1) 0 := by
          rw [List.getD_eq_getElem?_getD, List.getD_eq_getElem?_getD, List.getElem?_take, if_pos (by omega), hs, List.getElem?_drop]
          congr 2
        refine ⟨12 + n + size + 12, by omega, by omega, ?_, by rw [← e1]; exact hf⟩
        rw [← h.2, hs, List.drop_drop]
/-- A taken member: where it ends. -/
theorem xP_end {budget : Nat} {src T r : List UInt8} (h : xP budget src = (T, .inr r)) : ∃ m j, 32 ≤ m ∧ m + 4 * j ≤ src.length ∧ r = src.drop (m + 4 * j) ∧ src.getD (m - 1) 0 = 90 ∧ (∀ i, m ≤ i → i < m + 4 * j → src.getD i 0 = 0) ∧
    (∀ k, k < m → ∃ T' more, xP budget (src.take k) = (T', .inl 10) ∧ T = T' ++ more) ∧ ∀ q, ¬ nil4 q → xP budget (src.take (m + 4 * j) ++ q) = (T, .inr q) := by
  obtain ⟨m, j, m1, m2, m3, m4, ⟨r', m5, m6⟩, m7, m8⟩ := xP_cut h
  obtain ⟨m', p1, p2, p3, p4⟩ := xMem_foot m5
  have hm : m' = m := by
    rw [m6] at p3
    have := congrArg List.length p3
    rw [List.length_drop, List.length_drop] at this
    omega
  subst hm
  refine ⟨m', j, p1, m2, m3, p4, fun i hi hlt => ?_, m7, m8⟩
  have e1 : src.getD i 0 = (src.take (m' + 4 * j)).getD i 0 := by
    rw [List.getD_eq_getElem?_getD, List.getD_eq_getElem?_getD, List.getElem?_take, if_pos hlt]
  rw [e1, m4, List.getD_eq_getElem?_getD, List.getElem?_append_right (by rw [List.length_take]; omega), List.getElem?_replicate]
  split <;> rfl
end Go.Proofs.YtgahfpflhhfhfaaGreat

/- A member that is taken, cut anywhere ahead of its padding, is truncated, and tells a beginning; with something behind it, it is the same: the law's walk. -/
namespace Go.Proofs.YtgahfpflhhfhfaaGreat
open Go.RowKit Rng Win Lz Box
set_option linter.unusedVariables false
set_option linter.unusedSimpArgs false
theorem mod_idxX (x : Int) (L : Nat) (h0 : 0 < L) (hL : L ≤ 4194304) : ∃ (r : Int) (k : Nat), x.tmod (L : Int) = r ∧ -4194305 ≤ r ∧ 0 ≤ r + L ∧ r ≤ 4194305 ∧ (r + (L : Int)) % (L : Int) = k ∧ k < L := by
  have a1 := Int.tmod_lt_of_pos x (show (0 : Int) < (L : Int) by omega)
  have a2 := Int.lt_tmod_of_pos x (show (0 : Int) < (L : Int) by omega)
  have h := Int.emod_nonneg (x.tmod (L : Int) + (L : Int)) (show (L : Int) ≠ 0 by omega)
  have h2 := Int.emod_lt_of_pos (x.tmod (L : Int) + (L : Int)) (show (0 : Int) < (L : Int) by omega)
  exact ⟨_, ((x.tmod (L : Int) + (L : Int)) % (L : Int)).toNat, rfl, by omega, by omega, by omega, by omega, by omega⟩
theorem BRow.at_ {w : World} {B : Nat} {b off : Nat} {bs : List UInt8} (h : BRow w B (some ⟨b, off, none⟩) bs) {k : Nat} (hk : k < bs.length) : w.cell? ⟨b, off + k, none⟩ = some (.int .u8 ((bs.getD k 0).toNat : Int)) := by
  obtain ⟨b', off', e, _, hc⟩ := h (by omega)
  injection e with e
  injection e with e1 e2
  subst e1; subst e2
  exact hc k hk
theorem nil4_iff (q : List UInt8) : nil4 q ↔ (4 ≤ q.length ∧ (q.getD 0 0).toNat = 0 ∧ (q.getD 1 0).toNat = 0 ∧ (q.getD 2 0).toNat = 0 ∧ (q.getD 3 0).toNat = 0) := by
  have hz : ∀ x : UInt8, x.toNat = 0 ↔ x = 0 := fun x => ⟨fun h => UInt8.toNat_inj.1 (h.trans rfl), fun h => by rw [h]; rfl⟩
  rw [hz, hz, hz, hz]
  unfold nil4
  match q with
  | [] => simp
  | [a] => simp
  | [a, b] => simp
  | [a, b, c] => simp
  | a :: b :: c :: d :: t => simp
set_option maxRecDepth 100000 in
set_option maxHeartbeats 8000000 in
theorem lawCut20 (A : Option Addr) (n c : Nat) (f : Nat → Int) (budget cut : Int) (A2 : Option Addr) (n2 c2 : Nat) (f2 : Nat → Int) (w : World)
    (hl : n ≤ c) (hm : c ≤ maxLen) (hr0 : Opn.RowAt w w.heap.size A n (fun i => .int .u8 (f i))) (hf : ∀ i, i < n → 0 ≤ f i ∧ f i ≤ 255)
    (hx : -9223372036854775808 ≤ budget ∧ budget ≤ 9223372036854775807) (hy : -9223372036854775808 ≤ cut ∧ cut ≤ 9223372036854775807)
    (hl2 : n2 ≤ c2) (hm2 : c2 ≤ maxLen) (hr2 : Opn.RowAt w w.heap.size A2 n2 (fun i => .int .u8 (f2 i))) (hf2 : ∀ i, i < n2 → 0 ≤ f2 i ∧ f2 i ≤ 255) :
    Calls Tryz.prog 5 #[.slice A n c, .int .i64 budget, .int .i64 cut, .slice A2 n2 c2] w fun e w' => e = .returned (.bool true) ∧ Below w.heap.size w w' := by
  obtain ⟨bs, hbs, hr⟩ := BRow.of_row hr0 hf
  obtain ⟨q2, hq2, hrq⟩ := BRow.of_row hr2 hf2
  have HR := Lib.hid hr
  have HN := Lib.hid hbs.symm
  have HR2 := Lib.hid hrq
  have HN2 := Lib.hid hq2.symm
  have HLC : Hid (n ≤ c ∧ c ≤ maxLen) := Lib.hid ⟨hl, hm⟩
  obtain ⟨bud, hbud⟩ : ∃ bud : Nat, budOf budget = bud := ⟨_, rfl⟩
  have HBU := Lib.hid hbud
  clear hr0 hf hr hbs hm hx hl hl2 hm2 hr2 hf2 hrq hq2 hbud
  by_cases hbig : 16384 < n ∨ 4096 < n2
  · have hq : (16384 : Int) < (n : Int) ∨ ((n : Int) ≤ 16384 ∧ (4096 : Int) < (n2 : Int)) := by omega
    clear hbig
    rcases hq with q1 | ⟨q1, q3⟩
    all_goals
      go_enter Tryz.func5, Tryz.ntmps5
      go_wp2_with fail
      refine (wakes20 w).mono ?_; rintro e w2 ⟨rfl, hb2⟩
      have B2 := Lib.hid hb2
      clear hb2
      go_wp2
      go_ret
      exact ⟨rfl, B2.out⟩
  · have q1 : (n : Int) ≤ 16384 := by omega
    have q3 : (n2 : Int) ≤ 4096 := by omega
    have HB := Lib.hid (show n ≤ 16384 ∧ n2 ≤ 4096 by omega)
    clear hbig
    have hd1 := member_p A bs n c budget w HN.out HR.out HLC.out.1 HLC.out.2 (by have := HB.out; omega)
    rw [HBU.out] at hd1
    have HD := Lib.hid hd1
    clear hd1
    cases hxp : xP bud bs with
    | mk T Rr =>
      cases Rr with
      | inl z =>
        go_enter Tryz.func5, Tryz.ntmps5
        go_wp2_with fail
        refine HD.out.mono ?_; rintro e w2 hdd
        obtain ⟨Ax, cx, rfl, -, -, hb2, hz⟩ := mem_err (m := T.length) hdd hxp rfl
        have qz : ((z : Int) != 0) = true := bne_iff_ne.2 (by omega)
        have B2 := Lib.hid hb2
        clear hb2 hz hdd hxp
        go_wp2_with fail
        refine (wakes20 w2).mono ?_; rintro e w3 ⟨rfl, hb3⟩
        have B3 := Lib.hid (B2.out.trans (hb3.mono B2.out.size))
        clear hb3
        go_wp2
        go_ret
        exact ⟨rfl, B3.out⟩
      | inr r =>
        obtain ⟨m, j, m1, m2, m3, m4, m5, m6, m7⟩ := xP_end hxp
        obtain ⟨u, hu⟩ : ∃ u, m + 4 * j = u := ⟨_, rfl⟩
        rw [hu] at m2 m3 m5 m7
        have hub : bs.length - r.length = u := by rw [m3, List.length_drop]; omega
        obtain ⟨rr, k, hmod, hr1, hr2, hr3, hidx, hk⟩ := mod_idxX cut m (by omega) (by have := HB.out; have := HN.out; omega)
        obtain ⟨r5, hr5⟩ : ∃ r5 : Int, rr + (m : Int) = r5 := ⟨_, rfl⟩
        rw [hr5] at hidx hr2
        have hr5w : IntKind.i64.wrap r5 = r5 := Go.IntWalk.i64_in _ (by have := HB.out; have := HN.out; omega)
        have hrw : IntKind.i64.wrap rr = rr := Go.IntWalk.i64_in _ (by omega)
        have hkw : IntKind.i64.wrap (k : Int) = (k : Int) := Go.IntWalk.i64_in _ (by have := HB.out; have := HN.out; omega)
        obtain ⟨T', more, hT', hTm⟩ := m6 k hk
        have hu0 : ((m : Int) == 0) = false := beq_eq_false_iff_ne.2 (by omega)
        have hu1 : (1 : Int) ≤ (u : Int) := by omega
        have hu2 : (u : Int) ≤ (n : Int) := by have := HN.out; omega
        obtain ⟨Lx, hLx⟩ : ∃ L, T.length = L := ⟨_, rfl⟩
        obtain ⟨Ly, hLy⟩ : ∃ L, T'.length = L := ⟨_, rfl⟩
        have hLxy : (Ly : Int) ≤ (Lx : Int) := by rw [← hLx, ← hLy, hTm, List.length_append]; omega
        have hTt : T.take Ly = T' := by rw [hTm, ← hLy, List.take_append_of_le_length (Nat.le_refl _), List.take_length]
        have HTT := Lib.hid (And.intro hTt (And.intro hLx hLy))
        have HD1 := Lib.hid hxp
        have HD2 := Lib.hid hT'
        have HD3 := Lib.hid m7
        have HU := Lib.hid (And.intro m1 (And.intro hu (And.intro m2 (And.intro hub hk))))
        have HE := Lib.hid (And.intro m4 m5)
        clear hxp hT' hTm hTt hLx hLy m6 m7 m1 m2 m3 m4 m5 hub hk hu
        go_enter Tryz.func5, Tryz.ntmps5
        go_wp2_with fail
        refine HD.out.mono ?_; rintro e w2 hdd
        obtain ⟨Ax, cx, rfl, hox, hrx, hb2⟩ := mem_ok (m := Lx) (u := u) hdd HD1.out HTT.out.2.1 HU.out.2.2.2.1
        have B2 := Lib.hid hb2
        have RX := Lib.hid hrx
        have hcx : Lx ≤ cx := by
          obtain ⟨A0, c0, e0, h0, -, -⟩ := hox.slice
          injection e0 with e1 e2 e3
          rw [HTT.out.2.1] at h0
          omega
        have HCX := Lib.hid hcx
        clear hb2 hdd hox hrx HD hcx
        go_wp2
        go_loopw [12] (fun v wr => wr = w2 ∧ ∃ E : Nat, v = .int .i64 (E : Int) ∧ m ≤ E ∧ E ≤ u) (fun v _ => (intOf v).toNat)
        case atStart => exact ⟨rfl, u, rfl, by have := HU.out; omega, Nat.le_refl _⟩
        case round =>
          obtain ⟨hwr, E, rfl, hE1, hE2⟩ := hrel
          subst hwr
          obtain ⟨b, off, rfl, -, -⟩ := HR.out (by have := HU.out; have := HN.out; omega)
          obtain ⟨E1, hEE⟩ : ∃ E1, E1 + 1 = E := ⟨E - 1, by have := HU.out; omega⟩
          have i1 : (E : Int) - 1 = (E1 : Int) := by omega
          have i2 : IntKind.i64.wrap (E1 : Int) = (E1 : Int) := Go.IntWalk.i64_in _ (by have := HB.out; have := HN.out; have := HU.out; omega)
          have i3 : (E1 : Int) < (n : Int) := by have := HN.out; have := HU.out; omega
          have hcell := (HR.out.below B2.out).at_ (k := E1) (by have := HN.out; omega)
          by_cases hgo : m < E
          · have hc0 := HE.out.2 E1 (by omega) (by omega)
            rw [hc0] at hcell
            change wr.cell? ⟨b, off + E1, none⟩ = some (.int .u8 0) at hcell
            have q5 : (32 : Int) < (E : Int) := by have := HU.out; omega
            have HEE := Lib.hid (And.intro hEE (And.intro hgo hE2))
            clear hEE hgo hE1 hE2 hc0
            go_wp2
            refine ⟨⟨trivial, E1, rfl, by have := HEE.out; omega, by have := HEE.out; omega⟩, ?_⟩
            simp only [intOf]
            have := HEE.out
            omega
          · obtain rfl : m = E := by omega
            rw [show E1 = m - 1 by omega] at i1 i2 i3
            have hc0 := HE.out.1
            rw [show E1 = m - 1 by omega, hc0] at hcell
            change wr.cell? ⟨b, off + (m - 1), none⟩ = some (.int .u8 90) at hcell
            obtain ⟨m9, hm9⟩ : ∃ m9, m - 1 = m9 := ⟨_, rfl⟩
            rw [hm9] at i1 i2 i3 hcell
            have q9 : (m : Int) ≤ 32 ∨ (32 : Int) < (m : Int) := by omega
            have hslk := fun w => slice_toX (some ⟨b, off, none⟩) n c k (by have := HN.out; have := HU.out; omega) HLC.out.1 w
            have hdk := member_p (some ⟨b, off, none⟩) (bs.take k) k c budget wr (by rw [List.length_take]; have := HN.out; have := HU.out; omega) (((HR.out.below B2.out).more B2.out.size).take k) (by have := HLC.out; have := HU.out; have := HN.out; omega) HLC.out.2 (by have := HB.out; have := HU.out; have := HN.out; omega)
            rw [HBU.out] at hdk
            have HDK := Lib.hid hdk
            clear hdk hE1 hE2 hEE hgo hc0 hm9
            have hk0 : (k : Int) ≤ (n : Int) := by have := HN.out; have := HU.out; omega
            rcases q9 with q9 | q9
            all_goals
              go_wp2_with fail
              refine HDK.out.mono ?_; rintro e w3 hdd
              obtain ⟨Ay, cy, rfl, -, hry, hb3, -⟩ := mem_err (m := Ly) hdd HD2.out HTT.out.2.2
              have B3 := Lib.hid (B2.out.trans (hb3.mono B2.out.size))
              have RX3 := Lib.hid ((RX.out.below hb3).more hb3.size)
              have RY3 := Lib.hid hry
              have hLy2 : Ly ≤ Lx := by omega
              have hss := fun w => slice_toX Ax Lx cx Ly hLy2 HCX.out w
              have k1 := fun dd => run_conv_bytes (P := Tryz.prog) (w3.drewN dd) 22 9 5 Tryz.underlying22 Tryz.underlying5 Tryz.underlying9 Ay Ly cy _ T' HTT.out.2.2.symm (BRow.drewN RY3.out dd)
              have k2 := fun dd => run_conv_bytes (P := Tryz.prog) (w3.drewN dd) 22 9 5 Tryz.underlying22 Tryz.underlying5 Tryz.underlying9 Ax Ly cx _ T' HTT.out.2.2.symm (BRow.drewN (by have := RX3.out.take Ly; rw [HTT.out.1] at this; exact this) dd)
              obtain ⟨s1, hs1⟩ : ∃ s, T'.toArray = s := ⟨_, rfl⟩
              rw [hs1] at k1 k2
              clear hs1 hLy2 hb3 hdd hry HDK hcell
              have hLB : decide (Lx < Ly) = false := decide_eq_false (by omega)
              go_upto_region 13 with fail
              go_quiet (fail)
              go_upto_region 15 with fail
              go_cut [129] from 103 (fun v wx => wx = w3.drewN nq ∧ ∃ β, v = .bool β ∧ (β = true ↔ nil4 q2))
              case first =>
                have HNI := Lib.hid (nil4_iff q2)
                rcases (by omega : n2 < 4 ∨ 4 ≤ n2) with h4 | h4
                · have t0 : (n2 : Int) < 4 := by omega
                  have hni : ¬ nil4 q2 := fun h => by have := h.1; have := HN2.out; omega
                  have HNN := Lib.hid hni
                  clear h4 hni
                  go_wp2
                  go_meet
                  case rel => exact ⟨rfl, false, rfl, by simp [HNN.out]⟩
                · obtain ⟨b2, off2, rfl, -, -⟩ := HR2.out (by have := HN2.out; omega)
                  have g := BRow.drewN (HR2.out.below B3.out) nq
                  have c0 := g.at_ (k := 0) (by have := HN2.out; omega)
                  have c1 := g.at_ (k := 1) (by have := HN2.out; omega)
                  have c2 := g.at_ (k := 2) (by have := HN2.out; omega)
                  have c3 := g.at_ (k := 3) (by have := HN2.out; omega)
                  rw [Nat.add_zero] at c0
                  obtain ⟨x0, hx0⟩ : ∃ x, (q2.getD 0 0).toNat = x := ⟨_, rfl⟩
                  obtain ⟨x1, hx1⟩ : ∃ x, (q2.getD 1 0).toNat = x := ⟨_, rfl⟩
                  obtain ⟨x2, hx2⟩ : ∃ x, (q2.getD 2 0).toNat = x := ⟨_, rfl⟩
                  obtain ⟨x3, hx3⟩ : ∃ x, (q2.getD 3 0).toNat = x := ⟨_, rfl⟩
                  rw [hx0] at c0 HNI
                  rw [hx1] at c1 HNI
                  rw [hx2] at c2 HNI
                  rw [hx3] at c3 HNI
                  have t0 : (4 : Int) ≤ (n2 : Int) := by omega
                  have HN4 : Hid (4 ≤ q2.length) := Lib.hid (by have := HN2.out; omega)
                  have hq : ((x0 : Int) == 0) = false ∨ (x0 = 0 ∧ ((x1 : Int) == 0) = false) ∨ (x0 = 0 ∧ x1 = 0 ∧ ((x2 : Int) == 0) = false) ∨ (x0 = 0 ∧ x1 = 0 ∧ x2 = 0 ∧ ((x3 : Int) == 0) = false) ∨ (x0 = 0 ∧ x1 = 0 ∧ x2 = 0 ∧ x3 = 0) := by
                    simp only [beq_eq_false_iff_ne, ne_eq]
                    omega
                  clear hx0 hx1 hx2 hx3 g h4
                  rcases hq with t1 | ⟨rfl, t1⟩ | ⟨rfl, rfl, t1⟩ | ⟨rfl, rfl, rfl, t1⟩ | ⟨rfl, rfl, rfl, rfl⟩
                  case inr.inr.inr.inr =>
                    go_wp2
                    go_meet
                    case rel => exact ⟨rfl, true, rfl, fun _ => HNI.out.2 (by simp [HN4.out]), fun _ => rfl⟩
                  all_goals
                    have T1 := Lib.hid t1
                    go_wp2
                    go_meet
                    case rel =>
                      refine ⟨rfl, false, rfl, ?_⟩
                      have t := beq_eq_false_iff_ne.1 T1.out
                      constructor
                      · intro h
                        cases h
                      · intro h
                        have q := HNI.out.1 h
                        omega
              case rest =>
                obtain ⟨hwc, β, rfl, hβ⟩ := hcut
                have hbc : Below w.heap.size w wc := by rw [hwc]; exact below_drewN B3.out nq
                have hrx : BRow wc wc.heap.size Ax T := by rw [hwc]; exact BRow.drewN RX3.out nq
                have B4 := Lib.hid hbc
                have RX4 := Lib.hid hrx
                clear hbc hrx hwc k1 k2 hss hLB B3 RX3 RY3 RX
                cases β
                · have hni : ¬ nil4 q2 := fun h => by have := hβ.2 h; cases this
                  have hmm := HD3.out q2 hni
                  have HMM := Lib.hid hmm
                  clear hβ hni hmm HD3
                  have hsl := fun w => slice_toX (some ⟨b, off, none⟩) n c u (by have := HN.out; have := HU.out; omega) HLC.out.1 w
                  go_wp2_with (at_builtin; refine wpList_append_bytes _ rfl (.tmp 132) (.tmp 135) 22 rfl 5 w.heap.size Tryz.underlying22 Tryz.info_u8 (.slice (some ⟨wc.heap.size, 0, none⟩) 0 0) [] rfl ?own1 (some ⟨b, off, none⟩) u c w.heap.size (bs.take u) rfl ?lenn ?row1 ?len1 ?base1 ?next1)
                  case own1 => exact OwnB.made wc _ _ (by have := B4.out.size; omega)
                  case lenn => rw [List.length_take]; have := HU.out; omega
                  case row1 => exact ((HR.out.below B4.out).below ((below_alloc wc _).mono B4.out.size)).take u
                  case len1 => rw [List.length_take]; have := HU.out; have := HB.out; have := HN.out; simp; omega
                  case base1 => have := B4.out.size; simp; omega
                  case next1 =>
                    intro v4 w4 hown4 hfrm4 hnew4
                    have hb4 : Below wc.heap.size wc w4 := (below_alloc wc _).trans (hfrm4.below (by simp) (fun q hq => by have e : some wc.heap.size = some q := hq; injection e with e; omega))
                    obtain ⟨A4, c4, hv4, -, -, -⟩ := hown4.slice
                    have e4 : (bs.take u).length = u := by rw [List.length_take]; have := HU.out; omega
                    rw [e4] at hv4
                    subst hv4
                    have O4 := Lib.hid hown4
                    have O4n : Hid (∀ q, (Value.slice A4 u c4).ownBlock = some q → wc.heap.size ≤ q) := Lib.hid (by
                      intro q hq
                      rcases hnew4 with e | e
                      · rw [e] at hq; have e2 : some wc.heap.size = some q := hq; injection e2 with e2; omega
                      · rw [e] at hq; have e2 : wc.heap.size + 1 = q := Option.some.inj hq; omega)
                    have B5 := Lib.hid hb4
                    have E4 := Lib.hid e4
                    clear hown4 hfrm4 hnew4 hb4 e4
                    go_wp2_with (at_builtin; refine wpList_append_bytes _ rfl (.tmp 136) (.tmp 137) 22 rfl 5 w.heap.size Tryz.underlying22 Tryz.info_u8 _ (bs.take u) rfl ?own2 A2 n2 c2 w.heap.size q2 rfl HN2.out ?row2 ?len2 ?base2 ?next2)
                    case own2 => exact O4.out
                    case row2 => exact (HR2.out.below B4.out).below (B5.out.mono B4.out.size)
                    case len2 => rw [E4.out]; have := HU.out; have := HB.out; have := HN.out; have := HN2.out; omega
                    case base2 => exact Nat.le_trans B4.out.size B5.out.size
                    case next2 =>
                      intro v5 w5 hown5 hfrm5 hnew5
                      have hb5 : Below wc.heap.size wc w5 := B5.out.trans (hfrm5.below B5.out.size (fun q hq => O4n.out q hq))
                      obtain ⟨A5, c5, hv5, hc5, hm5, hr5x⟩ := hown5.slice
                      obtain ⟨L5, hL5⟩ : ∃ L5, u + n2 = L5 := ⟨_, rfl⟩
                      have e5 : (bs.take u ++ q2).length = L5 := by rw [List.length_append, E4.out]; have := HN2.out; omega
                      rw [e5] at hv5 hc5
                      subst hv5
                      have hb5' : Below w.heap.size w w5 := B4.out.trans (hb5.mono B4.out.size)
                      have B6 := Lib.hid hb5'
                      have RX5 := Lib.hid ((RX4.out.below hb5).more hb5.size)
                      have hdq := member_p A5 (bs.take u ++ q2) L5 c5 budget w5 e5.symm hr5x hc5 hm5 (by have := HU.out; have := HB.out; have := HN.out; omega)
                      rw [HBU.out] at hdq
                      have HD := Lib.hid hdq
                      have E5 := Lib.hid (And.intro e5 hL5)
                      clear hown5 hfrm5 hnew5 hb5 hb5' hc5 hm5 hr5x e5 hL5 hdq
                      go_wp2_with fail
                      refine HD.out.mono ?_; rintro e w6 hdd
                      obtain ⟨A6, c6, rfl, -, hr6, hb6⟩ := mem_ok (m := Lx) (u := u) hdd HMM.out HTT.out.2.1 (by rw [E5.out.1]; have := HN2.out; have := E5.out.2; omega)
                      have B7 := Lib.hid (B6.out.trans (hb6.mono B6.out.size))
                      have RX6 := Lib.hid ((RX5.out.below hb6).more hb6.size)
                      have RM6 := Lib.hid hr6
                      clear hb6 hdd hr6
                      have k3 := run_conv_bytes (P := Tryz.prog) w6 22 9 5 Tryz.underlying22 Tryz.underlying5 Tryz.underlying9 Ax Lx cx _ T HTT.out.2.1.symm RX6.out
                      have k4 := run_conv_bytes (P := Tryz.prog) w6 22 9 5 Tryz.underlying22 Tryz.underlying5 Tryz.underlying9 A6 Lx c6 _ T HTT.out.2.1.symm RM6.out
                      obtain ⟨s2, hs2⟩ : ∃ s, T.toArray = s := ⟨_, rfl⟩
                      rw [hs2] at k3 k4
                      clear hs2
                      go_wp2_with fail
                      refine (wakes20 _).mono ?_; rintro e w7 ⟨rfl, b7⟩
                      have B8 := Lib.hid (B7.out.trans (b7.mono B7.out.size))
                      clear b7
                      go_wp2
                      go_ret
                      exact ⟨rfl, B8.out⟩
                · clear hβ
                  go_wp2_with fail
                  refine (wakes20 _).mono ?_; rintro e w7 ⟨rfl, b7⟩
                  have B7 := Lib.hid (B4.out.trans (b7.mono B4.out.size))
                  clear b7
                  go_wp2
                  go_ret
                  exact ⟨rfl, B7.out⟩
end Go.Proofs.YtgahfpflhhfhfaaGreat

/- A member of plain blocks with one byte of its head, its index or its foot changed is none: plain. -/
namespace Go.Proofs.YtgahfpflhhfhfaaGreat
open Go.RowKit Rng Win Lz Box
set_option linter.unusedVariables false
set_option linter.unusedSimpArgs false
theorem set_ne {l : List UInt8} {k : Nat} (hk : k < l.length) {y : UInt8} (hy : y ≠ l.getD k 0) : l.set k y ≠ l := by
  intro h
  have h3 := congrArg (fun l => l.getD k 0) h
  simp only [List.getD, List.getElem?_set, hk, if_true, Option.getD_some] at h3
  exact hy h3
theorem getD_left {p q : List UInt8} {k : Nat} (h : k < p.length) : (p ++ q).getD k 0 = p.getD k 0 := by
  rw [List.getD_eq_getElem?_getD, List.getD_eq_getElem?_getD, List.getElem?_append_left h]
theorem getD_right {p q : List UInt8} {k : Nat} (h : p.length ≤ k) : (p ++ q).getD k 0 = q.getD (k - p.length) 0 := by
  rw [List.getD_eq_getElem?_getD, List.getD_eq_getElem?_getD, List.getElem?_append_right h]
/-- Numbers that are read are those bytes. -/
theorem xNum_bytes {n : Nat} {s t : List UInt8} (h : xNum n s = .inr t) : s = put n ++ t := by
  unfold xNum at h
  split at h
  · cases h
  · rename_i h0
    split at h
    · cases h
    · rename_i h1
      injection h with h
      obtain ⟨k1, k2, k3, k4⟩ := number_back (bs := s) (y := (number s).1) (m := (number s).2.1) (by rw [show (0 : Int) = (number s).2.2 by omega])
      have hn : (number s).1 = n := by omega
      rw [hn] at k4
      rw [k4, ← h, List.take_append_drop]
theorem xNums_bytes : ∀ (l : List (Nat × Nat)) {s t : List UInt8}, xNums (l.flatMap fun p => [p.1, p.2]) s = .inr t → s = recsB l ++ t
  | [], s, t, h => by
    have h : Sum.inr s = (Sum.inr t : Nat ⊕ List UInt8) := h
    injection h
  | p :: l, s, t, h => by
    have e1 : (p :: l).flatMap (fun p => [p.1, p.2]) = p.1 :: p.2 :: l.flatMap (fun p => [p.1, p.2]) := rfl
    rw [e1] at h
    unfold xNums at h
    cases h1 : xNum p.1 s with
    | inl e => rw [h1] at h; cases h
    | inr a =>
      rw [h1] at h
      simp only at h
      unfold xNums at h
      cases h2 : xNum p.2 a with
      | inl e => rw [h2] at h; cases h
      | inr b =>
        rw [h2] at h
        simp only at h
        have h3 := xNums_bytes l h
        rw [xNum_bytes h1, xNum_bytes h2, h3]
        unfold recsB
        rw [List.flatMap_cons]
        simp only [List.append_assoc]
/-- An index that is taken is the one that would be made. -/
theorem xIndex_bytes {recs : List (Nat × Nat)} {s r : List UInt8} {size : Nat} (h1 : 1 ≤ s.length) (h0 : s.getD 0 0 = 0) (h : xIndex recs s = .inr (size, r)) : s = idxB recs ++ r := by
  unfold xIndex recN at h
  cases hd : xNums (recs.length :: recs.flatMap fun p => [p.1, p.2]) (s.drop 1) with
  | inl e => rw [hd] at h; cases h
  | inr t =>
    rw [hd] at h
    simp only at h
    unfold xNums at hd
    cases h2 : xNum recs.length (s.drop 1) with
    | inl e => rw [h2] at hd; cases hd
    | inr a =>
      rw [h2] at hd
      simp only at hd
      have hb : s = idxRaw recs ++ t := by
        cases s with
        | nil => simp at h1
        | cons x s =>
          have h0 : x = 0 := h0
          subst h0
          have e1 : s = put recs.length ++ a := xNum_bytes h2
          have e2 : a = recsB recs ++ t := xNums_bytes recs hd
          rw [e1, e2]
          unfold idxRaw headB
          simp only [List.append_assoc, List.cons_append]
      have hn : s.length - t.length = (idxRaw recs).length := by
        have := congrArg List.length hb
        rw [List.length_append] at this
        omega
      rw [hn] at h
      by_cases hl : t.length < padOf (idxRaw recs).length + 4
      · rw [if_pos hl] at h; cases h
      rw [if_neg hl] at h
      by_cases hz : t.take (padOf (idxRaw recs).length) ≠ List.replicate (padOf (idxRaw recs).length) 0 ∨ sealB (s.take ((idxRaw recs).length + padOf (idxRaw recs).length)) ≠ (t.drop (padOf (idxRaw recs).length)).take 4
      · rw [if_pos hz] at h; cases h
      rw [if_neg hz] at h
      injection h with h
      injection h with h3 h4
      have hz1 : t.take (padOf (idxRaw recs).length) = zs (idxRaw recs).length := Classical.byContradiction fun e => hz (.inl e)
      have hz2 : sealB (s.take ((idxRaw recs).length + padOf (idxRaw recs).length)) = (t.drop (padOf (idxRaw recs).length)).take 4 := Classical.byContradiction fun e => hz (.inr e)
      have hp : s.take ((idxRaw recs).length + padOf (idxRaw recs).length) = idxPad recs := by
        unfold idxPad
        rw [hb, List.take_append, List.take_of_length_le (by omega), Nat.add_sub_cancel_left, hz1]
      rw [hp] at hz2
      have ht : t = zs (idxRaw recs).length ++ (sealB (idxPad recs) ++ r) := by
        rw [← hz1, hz2, ← h4, ← List.drop_drop, List.take_append_drop, List.take_append_drop]
      conv => lhs; rw [hb, ht]
      unfold idxB sealOn
      conv => rhs; arg 1; arg 1; unfold idxPad
      simp only [List.append_assoc]
theorem cut_sum {A t z : List UInt8} (hA : A.length = 4) (ht : t.length = 6) : (A ++ (t ++ z)).take 4 = A ∧ ((A ++ (t ++ z)).drop 4).take 6 = t := by
  constructor
  · rw [List.take_append_of_le_length (by omega), List.take_of_length_le (by omega)]
  · rw [List.drop_append_of_le_length (by omega), List.drop_of_length_le (by omega), List.nil_append, List.take_append_of_le_length (by omega), List.take_of_length_le (by omega)]
/-- A foot with one byte changed. -/
theorem foot_set {kc : UInt8} {k j : Nat} (hj : j < 12) {y : UInt8} (hy : y ≠ (footM k kc).getD j 0) : (footOf ((footM k kc).set j y)).2.2 = 11 := by
  have hl : ((footM k kc).set j y).length = 12 := by rw [List.length_set]; rfl
  obtain ⟨t, ht⟩ : ∃ t, four k ++ [0, kc] = t := ⟨_, rfl⟩
  have htl : t.length = 6 := by rw [← ht]; rfl
  have hsl : (sealB t).length = 4 := sealB_len t
  have hf : footM k kc = sealB t ++ (t ++ [89, 90]) := by unfold footM; rw [ht, List.append_assoc]
  rw [hf] at hy ⊢
  rw [hf] at hl
  have hbad : ¬ ((sealB ((((sealB t ++ (t ++ [89, 90])).set j y).drop 4).take 6) == ((sealB t ++ (t ++ [89, 90])).set j y).take 4) = true ∧ ((((sealB t ++ (t ++ [89, 90])).set j y).take 12).drop 10 == ([89, 90] : List UInt8)) = true) := by
    rintro ⟨h1, h2⟩
    have h1 := eq_of_beq h1
    have h2 := eq_of_beq h2
    by_cases j4 : j < 4
    · have e : (sealB t ++ (t ++ [89, 90])).set j y = (sealB t).set j y ++ (t ++ [89, 90]) := List.set_append_left _ _ (by omega)
      rw [getD_left (by omega)] at hy
      have hc := cut_sum (A := (sealB t).set j y) (t := t) (z := [89, 90]) (by rw [List.length_set]; exact hsl) htl
      rw [e, hc.1, hc.2] at h1
      exact set_ne (by omega) hy h1.symm
    · rw [getD_right (by omega), hsl] at hy
      by_cases j10 : j < 10
      · have e : (sealB t ++ (t ++ [89, 90])).set j y = sealB t ++ (t.set (j - 4) y ++ [89, 90]) := by
          rw [List.set_append_right _ _ (by omega), hsl, List.set_append_left _ _ (by omega)]
        rw [getD_left (by omega)] at hy
        have hc := cut_sum (A := sealB t) (t := t.set (j - 4) y) (z := [89, 90]) hsl (by rw [List.length_set]; exact htl)
        rw [e, hc.1, hc.2] at h1
        exact crc32_set t (j - 4) (by omega) y hy (four_inj (c32_lt32 _) (c32_lt32 _) h1)
      · have e : (sealB t ++ (t ++ [89, 90])).set j y = (sealB t ++ t) ++ ([89, 90] : List UInt8).set (j - 10) y := by
          rw [List.set_append_right _ _ (by omega), hsl, List.set_append_right _ _ (by omega), htl, List.append_assoc, show j - 4 - 6 = j - 10 by omega]
        rw [getD_right (by omega), htl, show j - 4 - 6 = j - 10 by omega] at hy
        rw [List.take_of_length_le (by omega), e, List.drop_append_of_le_length (by rw [List.length_append]; omega), List.drop_of_length_le (by rw [List.length_append]; omega), List.nil_append] at h2
        exact set_ne (by simp; omega) hy h2
  unfold footOf
  rw [if_neg (by omega), if_pos hbad]
/-- A head with one byte changed. -/
theorem head_set {kc : UInt8} {j : Nat} (hj : j < 12) {y : UInt8} (hy : y ≠ (headM kc).getD j 0) : (headOf ((headM kc).set j y)).2 = 11 := by
  have hl : ((headM kc).set j y).length = 12 := by rw [List.length_set]; rfl
  have hml : magic.length = 6 := rfl
  have hsl : (sealOn [0, kc]).length = 6 := rfl
  have hbad : ¬ ((((headM kc).set j y).take 6 == magic) = true ∧ sealedB ((((headM kc).set j y).take 12).drop 6) = true) := by
    rintro ⟨h1, h2⟩
    have h1 := eq_of_beq h1
    unfold headM at h1 h2 hy hl
    by_cases j6 : j < 6
    · rw [List.set_append_left _ _ (by omega), List.take_append_of_le_length (by rw [List.length_set]; omega), List.take_of_length_le (by rw [List.length_set]; omega)] at h1
      rw [getD_left (by omega)] at hy
      exact set_ne (by omega) hy h1
    · rw [List.take_of_length_le (by omega), List.set_append_right _ _ (by omega), hml, List.drop_append_of_le_length (by omega), List.drop_of_length_le (by omega), List.nil_append] at h2
      rw [getD_right (by omega), hml] at hy
      rw [sealed_set [0, kc] (j - 6) (by omega) y hy] at h2
      cases h2
  unfold headOf
  rw [if_neg (by omega), if_pos hbad]
end Go.Proofs.YtgahfpflhhfhfaaGreat

/- A member of plain blocks with one byte of its head, its index or its foot changed: the whole of it, plain. -/
namespace Go.Proofs.YtgahfpflhhfhfaaGreat
open Go.RowKit Rng Win Lz Box
set_option linter.unusedVariables false
set_option linter.unusedSimpArgs false
theorem xNum_err {n : Nat} {s : List UInt8} {e : Nat} (h : xNum n s = .inl e) : e ≠ 0 := by
  unfold xNum at h
  split at h
  · injection h with h
    rcases number_err s with k | k | k
    · contradiction
    · rw [k] at h; rw [← h]; decide
    · rw [k] at h; rw [← h]; decide
  · split at h
    · injection h with h; omega
    · cases h
theorem xNums_err : ∀ (l : List Nat) {s : List UInt8} {e : Nat}, xNums l s = .inl e → e ≠ 0
  | [], s, e, h => by
    have h : Sum.inr s = (Sum.inl e : Nat ⊕ List UInt8) := h
    cases h
  | n :: l, s, e, h => by
    unfold xNums at h
    cases h1 : xNum n s with
    | inl e1 =>
      rw [h1] at h
      injection h with h
      rw [← h]
      exact xNum_err h1
    | inr a =>
      rw [h1] at h
      exact xNums_err l h
theorem xIndex_err {recs : List (Nat × Nat)} {s : List UInt8} {e : Nat} (h : xIndex recs s = .inl e) : e ≠ 0 := by
  unfold xIndex at h
  cases hd : xNums (recN recs) (s.drop 1) with
  | inl e1 =>
    rw [hd] at h
    injection h with h
    rw [← h]
    exact xNums_err _ hd
  | inr t =>
    rw [hd] at h
    simp only at h
    split at h
    · injection h with h; omega
    · split at h
      · injection h with h; omega
      · cases h
/-- Blocks that were made, and what stands behind them. -/
theorem xBlocks_skip (budget : Nat) (kind : Int) (numbers : Bool) {code : UInt8} (h : code.toNat ≤ 40) (s : List UInt8) : ∀ (l : List (List UInt8)) (f : Nat) (recs : List (Nat × Nat)) (out : List UInt8), (l = [] ∨ winOf code.toNat ≤ budget) → (∀ b ∈ l, b.length ≤ 65536) → out.length + l.flatten.length ≤ 16777216 → (blocksB kind numbers code l ++ s).length < f →
    ∃ g, s.length < g ∧ xBlocks budget kind f recs out (blocksB kind numbers code l ++ s) = xBlocks budget kind g (recs ++ recsX kind numbers code l) (out ++ l.flatten) s
  | [], f, recs, out, _, _, _, hf => ⟨f, hf, by simp [recsX, blocksB]⟩
  | b :: l, 0, _, _, _, _, _, hf => absurd hf (by omega)
  | b :: l, f + 1, recs, out, hw, hl, ho, hf => by
    have hw : winOf code.toNat ≤ budget := hw.resolve_left (by simp)
    have hb := hl b (by simp)
    have hc : blocksB kind numbers code (b :: l) ++ s = blockB kind numbers b code ++ (blocksB kind numbers code l ++ s) := by
      unfold blocksB
      rw [List.flatMap_cons, List.append_assoc]
    rw [hc] at hf ⊢
    obtain ⟨h1, h2⟩ := blockB_head kind numbers b (blocksB kind numbers code l ++ s) code
    rw [List.flatten_cons, List.length_append] at ho
    obtain ⟨g, h3, h4⟩ := xBlocks_skip budget kind numbers h s l f (recs ++ [recB kind numbers b code]) (out ++ b) (.inr hw) (fun c hc => hl c (List.mem_cons_of_mem _ hc)) (by rw [List.length_append]; omega) (by rw [List.length_append] at hf; omega)
    refine ⟨g, h3, ?_⟩
    conv => lhs; unfold xBlocks
    rw [if_neg (by rw [List.length_append]; omega), if_neg h1, xBlock_made budget kind out.length numbers h hb hw (by omega)]
    simp only
    rw [h4]
    simp [recsX]
theorem number_zero (r : List UInt8) : number (0 :: r) = (0, 1, 0) := number_put (n := 0) (by decide) r
/-- No block begins so. -/
theorem xBlock_bad (budget : Nat) (kind : Int) (told : Nat) {c F : UInt8} {t : List UInt8} (hc : c ≠ 0) (hF : F.toNat % 64 ≠ 0 ∨ (F = 0 ∧ ∃ t', t = 0 :: t')) : ∃ e, e ≠ 0 ∧ xBlock budget kind told (c :: F :: t) = .err e [] := by
  unfold xBlock
  split
  · exact ⟨10, by decide, rfl⟩
  rename_i hlen
  have hc1 : 1 ≤ c.toNat := by
    rcases Nat.eq_zero_or_pos c.toNat with h | h
    · exact absurd (UInt8.toNat_inj.1 h) hc
    · exact h
  have hh : hdLen (c :: F :: t) = (c.toNat + 1) * 4 := rfl
  obtain ⟨m, hm⟩ : ∃ m, (c.toNat + 1) * 4 = m + 8 := ⟨(c.toNat + 1) * 4 - 8, by omega⟩
  rw [hh, hm] at hlen ⊢
  have hq : (c :: F :: t).take (m + 8) = c :: F :: t.take (m + 6) := rfl
  rw [hq]
  have hb : (blockOf (c :: F :: t.take (m + 6))).2.2.2.2 = 11 ∨ (blockOf (c :: F :: t.take (m + 6))).2.2.2.2 = 12 := by
    unfold blockOf
    simp only
    rw [if_neg (by simp only [List.length_cons, List.length_take] at hlen ⊢; omega), if_neg hc]
    split
    · exact .inl rfl
    · right
      have he : (((c :: F :: t.take (m + 6)).take ((c.toNat + 1) * 4)).drop 1).take ((c.toNat + 1) * 4 - 5) = F :: (((t.take (m + 6)).take (m + 6)).take (m + 2)) := by
        rw [hm]; rfl
      rw [he]
      unfold bkBody
      simp only
      rcases hF with hF | ⟨rfl, t', rfl⟩
      · rw [if_pos hF]; rfl
      · rw [if_neg (by decide)]
        have ht : (((0 :: t').take (m + 6)).take (m + 6)).take (m + 2) = 0 :: (((t'.take (m + 5)).take (m + 5)).take (m + 1) : List UInt8) := rfl
        rw [ht]
        unfold bkPacked
        rw [if_neg (by decide)]
        unfold bkWhole
        rw [if_neg (by decide)]
        unfold bkKind
        rw [number_zero, if_neg (by decide), if_pos (by decide)]
        rfl
  unfold xBody
  rcases hb with hb | hb <;> rw [hb]
  · exact ⟨11, by decide, rfl⟩
  · exact ⟨12, by decide, rfl⟩
/-- The index behind its first byte, while there are few records. -/
theorem idx_second (recs : List (Nat × Nat)) (hn : recs.length ≤ 8) (r : List UInt8) : ∃ F t, idxB recs ++ r = 0 :: F :: t ∧ (F.toNat % 64 ≠ 0 ∨ (F = 0 ∧ ∃ t', t = 0 :: t')) := by
  have hi : idxB recs ++ r = 0 :: (put recs.length ++ (recsB recs ++ (zs (idxRaw recs).length ++ (sealB (idxPad recs) ++ r)))) := by
    unfold idxB sealOn
    conv => lhs; arg 1; arg 1; unfold idxPad
    show (((0 :: put recs.length) ++ recsB recs ++ zs (idxRaw recs).length) ++ sealB (idxPad recs)) ++ r = _
    simp only [List.append_assoc, List.cons_append]
  have hp : put recs.length = [UInt8.ofNat recs.length] := by
    unfold put putGo
    rw [if_pos (by omega)]
  rw [hp] at hi
  refine ⟨UInt8.ofNat recs.length, _, hi, ?_⟩
  cases recs with
  | nil => exact .inr ⟨rfl, _, rfl⟩
  | cons a l =>
    left
    rw [List.length_cons] at hn ⊢
    rw [UInt8.toNat_ofNat']
    omega
/-- A member with a byte changed in front of its blocks, or behind them. -/
theorem madeX_changed {kc : UInt8} (hk : kc = 0 ∨ kc = 1 ∨ kc = 4) (numbers : Bool) {code : UInt8} (h : code.toNat ≤ 40) {budget : Nat} {l : List (List UInt8)} (hw : l = [] ∨ winOf code.toNat ≤ budget) (hl : ∀ b ∈ l, b.length ≤ 65536) (ht : l.flatten.length ≤ 16777216) (hn : l.length ≤ 8)
    {p : Nat} {y : UInt8} (hp : p < 12 ∨ 12 + (blocksB (kc.toNat : Int) numbers code l).length ≤ p) (hpl : p < (madeX kc numbers code l).length) (hy : y ≠ (madeX kc numbers code l).getD p 0) :
    ∃ T e, e ≠ 0 ∧ xMem budget ((madeX kc numbers code l).set p y) = (T, .inl e) := by
  obtain ⟨h1, h2⟩ := headM_ok hk
  obtain ⟨R, hR⟩ : ∃ R, recsX (kc.toNat : Int) numbers code l = R := ⟨_, rfl⟩
  have hRl : R.length = l.length := by rw [← hR]; unfold recsX; rw [List.length_map]
  have hRf : fits63 R := by rw [← hR]; exact recsX_fits _ _ _ _ hl
  have hi1 := idxB_len R
  have hi2 := idxRaw_len R
  have hpl2 := padOf_lt (idxRaw R).length
  obtain ⟨k, hk2⟩ : ∃ k, (idxB R).length / 4 - 1 = k := ⟨_, rfl⟩
  obtain ⟨f1, f2⟩ := footM_ok hk (k := k) (by omega)
  obtain ⟨B, hB⟩ : ∃ B, blocksB (kc.toNat : Int) numbers code l = B := ⟨_, rfl⟩
  have hc : madeX kc numbers code l = headM kc ++ (B ++ (idxB R ++ footM k kc)) := by
    unfold madeX
    rw [hR, hk2, hB]
  rw [hB] at hp
  rw [hc] at hpl hy ⊢
  rw [List.length_append, List.length_append, List.length_append] at hpl
  by_cases p12 : p < 12
  · rw [List.set_append_left _ _ (by omega)]
    rw [getD_left (by omega)] at hy
    have hh := head_set p12 hy
    have hsl : ((headM kc).set p y).length = 12 := by rw [List.length_set]; exact h2
    refine ⟨[], 11, by decide, ?_⟩
    unfold xMem
    rw [if_neg (by rw [List.length_append]; omega), List.take_append_of_le_length (by omega), List.take_of_length_le (by omega), hh, if_pos (by decide)]
    rfl
  · obtain ⟨q, rfl⟩ : ∃ q, p = 12 + B.length + q := ⟨p - 12 - B.length, by omega⟩
    rw [List.set_append_right _ _ (by omega), h2, List.set_append_right _ _ (by omega), show 12 + B.length + q - 12 - B.length = q by omega]
    rw [getD_right (by omega), h2, getD_right (by omega), show 12 + B.length + q - 12 - B.length = q by omega] at hy
    obtain ⟨s, hs⟩ : ∃ s, (idxB R ++ footM k kc).set q y = s := ⟨_, rfl⟩
    have hsl : s.length = (idxB R).length + 12 := by rw [← hs, List.length_set, List.length_append, f2]
    rw [hs]
    obtain ⟨g, hg1, hg2⟩ := xBlocks_skip budget (kc.toNat : Int) numbers h s l ((headM kc ++ (B ++ s)).length + 1) [] [] hw hl (by simpa using ht) (by rw [hB, @List.length_append _ (headM kc)]; omega)
    rw [hB, hR, List.nil_append, List.nil_append] at hg2
    unfold xMem
    rw [if_neg (by rw [List.length_append]; omega), List.take_append_of_le_length (by omega), List.take_of_length_le (by omega), h1, if_neg (by simp), List.drop_append_of_le_length (by omega), List.drop_of_length_le (by omega), List.nil_append]
    simp only
    rw [hg2]
    obtain ⟨g, rfl⟩ : ∃ n, g = n + 1 := ⟨g - 1, by omega⟩
    by_cases q0 : q = 0
    · subst q0
      obtain ⟨F, t, e1, e2⟩ := idx_second R (by omega) (footM k kc)
      rw [e1] at hs hy
      have hs : s = y :: F :: t := hs.symm
      have hy : y ≠ 0 := hy
      subst hs
      obtain ⟨e, h3, h4⟩ := xBlock_bad budget (kc.toNat : Int) l.flatten.length hy e2
      refine ⟨l.flatten ++ [], e, h3, ?_⟩
      unfold xBlocks
      rw [if_neg (by simp), if_neg (show ¬ (y :: F :: t).getD 0 0 = 0 from hy), h4]
    · have hs0 : s.getD 0 0 = 0 := by
        obtain ⟨F, t, e1, e2⟩ := idx_second R (by omega) (footM k kc)
        rw [e1] at hs
        obtain ⟨j, rfl⟩ : ∃ j, q = j + 1 := ⟨q - 1, by omega⟩
        rw [← hs]
        rfl
      unfold xBlocks
      rw [if_neg (by omega), if_pos hs0]
      simp only
      unfold xEnd
      by_cases qi : q < (idxB R).length
      · rw [List.set_append_left _ _ qi] at hs
        rw [getD_left qi] at hy
        cases hx : xIndex R s with
        | inl e => exact ⟨_, e, xIndex_err hx, rfl⟩
        | inr v =>
          obtain ⟨size, r⟩ := v
          have hb := xIndex_bytes (by omega) hs0 hx
          rw [← hs] at hb
          have := (List.append_inj hb (by rw [List.length_set])).1
          exact absurd this (set_ne qi hy)
      · rw [List.set_append_right _ _ (by omega)] at hs
        rw [getD_right (by omega)] at hy
        rw [← hs, xIndex_made R (by omega) hRf]
        simp only
        have hq : q - (idxB R).length < 12 := by omega
        have hf := foot_set hq hy
        have hfl : ((footM k kc).set (q - (idxB R).length) y).length = 12 := by rw [List.length_set]; exact f2
        rw [if_neg (by omega), List.take_of_length_le (by omega), hf, if_pos (by decide)]
        exact ⟨_, 11, by decide, rfl⟩
end Go.Proofs.YtgahfpflhhfhfaaGreat

/- A member with one byte of its head, its index or its foot changed is none any more: the law's walk. -/
namespace Go.Proofs.YtgahfpflhhfhfaaGreat
open Go.RowKit Rng Win Lz Box
set_option linter.unusedVariables false
set_option linter.unusedSimpArgs false
theorem rowsL_one (R : Nat → ByteRow) : ∀ n k, k < n → (R k).bs.length ≤ (rowsL R n).flatten.length
  | 0, k, h => absurd h (by omega)
  | n + 1, k, h => by
    rw [rowsL_flat, List.length_append]
    by_cases hk : k < n
    · have := rowsL_one R n k hk
      omega
    · obtain rfl : k = n := by omega
      omega
theorem getD_rightX {l r : List UInt8} {k : Nat} (h : l.length ≤ k) : (l ++ r).getD k 0 = r.getD (k - l.length) 0 := by
  rw [List.getD_eq_getElem?_getD, List.getD_eq_getElem?_getD, List.getElem?_append_right h]
theorem madeX_tail (l : List (List UInt8)) (hl : ∀ b ∈ l, b.length ≤ 65536) (hn : l.length ≤ 8) : ∃ BL IL k : Nat, (blocksB 4 true 0 l).length = BL ∧ (madeX 4 true 0 l).length = BL + IL + 24 ∧ IL = 4 * (k + 1) ∧ k ≤ 60 ∧ BL ≤ 600000 ∧
    ((madeX 4 true 0 l).getD (BL + IL + 16) 0).toNat = k ∧ ((madeX 4 true 0 l).getD (BL + IL + 17) 0).toNat = 0 := by
  have hi := idxB_len (recsX 4 true 0 l)
  have hr := idxRaw_len (recsX 4 true 0 l)
  have hrl : (recsX 4 true 0 l).length = l.length := by unfold recsX; rw [List.length_map]
  have hp := padOf_lt (idxRaw (recsX 4 true 0 l)).length
  have hb := blocksB_len_le 4 true 0 l hl
  obtain ⟨I, hI⟩ : ∃ I, idxB (recsX 4 true 0 l) = I := ⟨_, rfl⟩
  obtain ⟨B, hB⟩ : ∃ B, blocksB 4 true 0 l = B := ⟨_, rfl⟩
  rw [hI] at hi
  rw [hB] at hb
  have hm : madeX 4 true 0 l = (headM 4 ++ B ++ I) ++ footM (I.length / 4 - 1) 4 := by
    show headM 4 ++ (blocksB 4 true 0 l ++ (idxB (recsX 4 true 0 l) ++ footM ((idxB (recsX 4 true 0 l)).length / 4 - 1) 4)) = _
    rw [hI, hB]
    simp only [List.append_assoc]
  obtain ⟨k, hk⟩ : ∃ k, I.length / 4 - 1 = k := ⟨_, rfl⟩
  rw [hk] at hm
  have h12 : (headM 4).length = 12 := rfl
  have hl3 : (headM 4 ++ B ++ I).length = 12 + B.length + I.length := by rw [List.length_append, List.length_append, h12]
  have f12 : (footM k 4).length = 12 := rfl
  refine ⟨B.length, I.length, k, by rw [hB], ?_, by omega, by omega, by omega, ?_, ?_⟩
  · rw [hm, List.length_append, hl3, f12]; omega
  · rw [hm, getD_rightX (by omega), hl3, show B.length + I.length + 16 - (12 + B.length + I.length) = 4 by omega]
    show (UInt8.ofNat k).toNat = k
    simp
    omega
  · rw [hm, getD_rightX (by omega), hl3, show B.length + I.length + 17 - (12 + B.length + I.length) = 5 by omega]
    show (UInt8.ofNat (k / 256)).toNat = 0
    rw [show k / 256 = 0 by omega]
    rfl
theorem or_zero_tab : ∀ F : Fin 256, bits .or .i64 ((F.val : Nat) : Int) 0 = (F.val : Int) := by decide +kernel
theorem xor_byte {x : UInt8} {bn : Nat} (hb : bn < 256) (h0 : bn ≠ 0) : bits .xor .u8 (x.toNat : Int) (bn : Int) = ((x ^^^ UInt8.ofNat bn).toNat : Int) ∧ x ^^^ UInt8.ofNat bn ≠ x := by
  have e1 : (UInt8.ofNat bn).toNat = bn := by simp; omega
  have e2 : (x ^^^ UInt8.ofNat bn).toNat = x.toNat ^^^ bn := by rw [UInt8.toNat_xor, e1]
  refine ⟨by rw [e2]; exact u8_xor_nat _ _ x.toNat_lt hb, fun h => ?_⟩
  rw [h] at e2
  have e3 : x.toNat ^^^ (x.toNat ^^^ bn) = bn := by rw [← Nat.xor_assoc, Nat.xor_self, Nat.zero_xor]
  rw [← e2, Nat.xor_self] at e3
  exact h0 e3.symm
set_option maxRecDepth 100000 in
set_option maxHeartbeats 8000000 in
theorem lawChanged20 (A : Option Addr) (n c : Nat) (R : Nat → ByteRow) (at_ by_ : Int) (w : World) (hl : n ≤ c) (hm : c ≤ maxLen) (hr0 : Opn.RowAt w w.heap.size A n fun i => (R i).v)
    (h4 : ∀ i, i < n → (R i).bs.length ≤ (R i).cap ∧ (R i).cap ≤ maxLen ∧ BRow w w.heap.size (R i).A (R i).bs) (h5 : ∀ i, i < n → (R i).bs.length ≤ 1048576)
    (hx : -9223372036854775808 ≤ at_ ∧ at_ ≤ 9223372036854775807) (hy : 0 ≤ by_ ∧ by_ ≤ 255) :
    Calls Tryz.prog 7 #[.slice A n c, .int .i64 at_, .int .u8 by_] w fun e w' => e = .returned (.bool true) ∧ Below w.heap.size w w' := by
  have HR := Lib.hid hr0
  have H4 := Lib.hid h4
  have H5 := Lib.hid h5
  obtain ⟨bn, rfl⟩ : ∃ bn : Nat, by_ = bn := ⟨by_.toNat, by omega⟩
  clear hr0 h4 hl hm hx h5
  by_cases hbig : 8 < n ∨ bn = 0
  · have hq : (8 : Int) < (n : Int) ∨ ((n : Int) ≤ 8 ∧ bn = 0) := by omega
    clear hbig hy
    rcases hq with q1 | ⟨q1, rfl⟩
    all_goals
      go_enter Tryz.func7, Tryz.ntmps7
      go_wp2_with fail
      refine (wakes20 w).mono ?_; rintro e w2 ⟨rfl, hb2⟩
      have B2 := Lib.hid hb2
      clear hb2
      go_wp2
      go_ret
      exact ⟨rfl, B2.out⟩
  · have hn12 : (n : Int) ≤ 8 := by omega
    have hb0 : ((bn : Int) == 0) = false := beq_eq_false_iff_ne.2 (by omega)
    have HBN : Hid (bn ≠ 0 ∧ bn < 256) := Lib.hid (by omega)
    clear hbig hy
    go_enter Tryz.func7, Tryz.ntmps7
    go_wp2
    go_loopw [7, 8] (fun sv iv wr => wr = w ∧ ∃ i : Nat, iv = .int .i64 (i : Int) ∧ i ≤ n ∧ sv = .int .i64 ((rowsL R i).flatten.length : Int)) (fun _ iv _ => n - (intOf iv).toNat)
    case atStart => exact ⟨rfl, 0, rfl, Nat.zero_le _, rfl⟩
    case round =>
      obtain ⟨hwr, i, rfl, hi, rfl⟩ := hrel
      subst hwr
      obtain ⟨X, hX⟩ : ∃ X, (rowsL R i).flatten.length = X := ⟨_, rfl⟩
      have HX := Lib.hid (And.intro hX (show X ≤ 1048576 * 8 by rw [← hX]; have := rowsL_flat_len R 1048576 i (fun k hk => H5.out k (by omega)); omega))
      rw [hX]
      clear hX
      by_cases hlt : i < n
      · obtain ⟨b, off, rfl, hbB, hcl⟩ := HR.out (by omega)
        have hcc : wr.cell? ⟨b, off + i, none⟩ = some (.slice (R i).A (R i).bs.length (R i).cap) := hcl i hlt
        have g5 := H5.out i hlt
        have hnext : (rowsL R (i + 1)).flatten.length = X + (R i).bs.length := by rw [rowsL_flat, List.length_append, HX.out.1]
        obtain ⟨lb, hlb⟩ : ∃ lb, (R i).bs.length = lb := ⟨_, rfl⟩
        rw [hlb] at hcc hnext g5
        obtain ⟨Y, hY⟩ : ∃ Y, X + lb = Y := ⟨_, rfl⟩
        rw [hY] at hnext
        have i1 : (X : Int) + (lb : Int) = (Y : Int) := by omega
        have i2 : IntKind.i64.wrap (Y : Int) = (Y : Int) := Go.IntWalk.i64_in _ (by have := HX.out.2; omega)
        have HNX := Lib.hid hnext
        clear hcl hbB hnext hY g5 hlb
        go_wp2
        exact ⟨⟨trivial, i + 1, rfl, by omega, by rw [HNX.out]⟩, by simp only [intOf]; omega⟩
      · obtain rfl : i = n := by omega
        clear hlt hi
        by_cases hX4 : 4096 < X
        · have q1 : (4096 : Int) < (X : Int) := by omega
          clear hX4
          go_wp2_with fail
          refine (wakes20 wr).mono ?_; rintro e w2 ⟨rfl, hb2⟩
          have B2 := Lib.hid hb2
          clear hb2
          go_wp2
          go_ret
          exact ⟨rfl, B2.out⟩
        · have q1 : (X : Int) ≤ 4096 := by omega
          have hrow : ∀ k, k < i → (R k).bs.length ≤ 65536 := fun k hk => by have := rowsL_one R i k hk; rw [HX.out.1] at this; omega
          have hall : ∀ b ∈ rowsL R i, b.length ≤ 65536 := rowsL_all hrow
          obtain ⟨BL, IL, K, z1, z2, z3, z4, z5, z6, z7⟩ := madeX_tail (rowsL R i) hall (by rw [rowsL_len]; omega)
          have hch : ∀ (p : Nat) (y : UInt8), (p < 12 ∨ 12 + BL ≤ p) → p < BL + IL + 24 → y ≠ (madeX 4 true 0 (rowsL R i)).getD p 0 → ∃ T e, e ≠ 0 ∧ xMem 16777216 ((madeX 4 true 0 (rowsL R i)).set p y) = (T, .inl e) := fun p y hp1 hp2 hy => by
            refine madeX_changed (kc := 4) (.inr (.inr rfl)) true (code := 0) (by decide) (budget := 16777216) (.inr (by decide)) hall (by rw [HX.out.1]; omega) (by rw [rowsL_len]; omega) (p := p) (y := y) ?_ (by rw [z2]; exact hp2) hy
            rw [show (((4 : UInt8).toNat : Nat) : Int) = 4 from rfl, z1]
            exact hp1
          have hmd := made_p A i c R 4 0 true wr.heap.size wr (.inr (.inr rfl)) (by omega) HR.out (Nat.le_refl _) (fun k hk => ⟨(H4.out k hk).1, (H4.out k hk).2.2, hrow k hk⟩)
          change Calls _ _ #[_, .int .i64 4, .int .u8 0, _] _ _ at hmd
          obtain ⟨M, hM⟩ : ∃ M, madeX 4 true 0 (rowsL R i) = M := ⟨_, rfl⟩
          rw [hM] at hmd hch z2 z6 z7
          obtain ⟨ML, hML⟩ : ∃ ML, M.length = ML := ⟨_, rfl⟩
          rw [hML] at z2
          have HMD := Lib.hid hmd
          have HCH := Lib.hid hch
          have HZ := Lib.hid (And.intro hML (And.intro z2 (And.intro z3 (And.intro z4 (And.intro z5 (And.intro z6 z7))))))
          clear hX4 hrow hall z1 z2 z3 z4 z5 z6 z7 hch hmd hM hML
          go_wp2_with fail
          refine HMD.out.mono ?_; rintro e w2 ⟨v2, rfl, ho2, hb2⟩
          rcases ho2.form with ⟨_, e⟩ | ⟨g, cap, cur, e, hg1, hg2, hg3, hg4, -⟩
          · have q := congrArg List.length e
            rw [HZ.out.1] at q
            have := HZ.out.2
            simp at q
            omega
          · rw [HZ.out.1] at e
            subst e
            have O2 := Lib.hid ho2
            have B2 := Lib.hid hb2
            have P2 := Lib.hid hg2
            have G2 := Lib.hid (And.intro hg1 (And.intro hg3 hg4))
            have e8 : (M.getD (BL + IL + 16) 0).toNat = K := HZ.out.2.2.2.2.2.1
            have e7 : (M.getD (BL + IL + 17) 0).toNat = 0 := HZ.out.2.2.2.2.2.2
            have hcc : ∀ p, p < ML → w2.cell? ⟨g, p, none⟩ = some (.int .u8 ((M.getD p 0).toNat : Int)) := fun p hp => by
              obtain ⟨g', cap', cur', e, _, hp2, _, _, _, hcl⟩ := ho2.form.resolve_left (fun h => by cases h.1)
              injection e with e1 e2 e3
              injection e1 with e1
              injection e1 with e1
              subst e1
              rw [hp2.cell, hcl p (by rw [HZ.out.1]; exact hp)]
              rfl
            have c8 := hcc (BL + IL + 16) (by have := HZ.out.2.1; omega)
            have c7 := hcc (BL + IL + 17) (by have := HZ.out.2.1; omega)
            rw [e8] at c8
            rw [e7] at c7
            change w2.cell? ⟨g, BL + IL + 17, none⟩ = some (.int .u8 0) at c7
            obtain ⟨M8, hM8⟩ : ∃ M8, BL + IL + 16 = M8 := ⟨_, rfl⟩
            obtain ⟨M7, hM7⟩ : ∃ M7, BL + IL + 17 = M7 := ⟨_, rfl⟩
            rw [hM8] at c8
            rw [hM7] at c7
            have HZ2 := HZ.out.2
            have x8 : (ML : Int) - 8 = (M8 : Int) := by omega
            have x7 : (ML : Int) - 7 = (M7 : Int) := by omega
            have y8 : IntKind.i64.wrap (M8 : Int) = (M8 : Int) := Go.IntWalk.i64_in _ (by omega)
            have y7 : IntKind.i64.wrap (M7 : Int) = (M7 : Int) := Go.IntWalk.i64_in _ (by omega)
            have l8 : (M8 : Int) < (ML : Int) := by omega
            have l7 : (M7 : Int) < (ML : Int) := by omega
            have hor : bits .or .i64 (K : Int) 0 = (K : Int) := or_zero_tab ⟨K, by omega⟩
            have yk : IntKind.i64.wrap (K : Int) = (K : Int) := Go.IntWalk.i64_in _ (by omega)
            obtain ⟨K1, hK1⟩ : ∃ K1, 1 + K = K1 := ⟨_, rfl⟩
            have xk : 1 + (K : Int) = (K1 : Int) := by omega
            have yk1 : IntKind.i64.wrap (K1 : Int) = (K1 : Int) := Go.IntWalk.i64_in _ (by omega)
            have xi : 4 * (K1 : Int) = (IL : Int) := by omega
            have yi : IntKind.i64.wrap (IL : Int) = (IL : Int) := Go.IntWalk.i64_in _ (by omega)
            clear ho2 hb2 hg1 hg2 hg3 hg4 e8 e7 hcc HZ2 hM8 hM7 hK1
            go_upto_region 11 with fail
            go_quiet (fail)
            obtain ⟨w3, hw3⟩ : ∃ W, w2.drewN nq = W := ⟨_, rfl⟩
            have ho3 : OwnB w3 5 wr.heap.size (.slice (some ⟨g, 0, none⟩) ML cap) M := by rw [← hw3]; exact O2.out.drewN nq
            have hb3 : Below wr.heap.size wr w3 := by rw [← hw3]; exact below_drewN B2.out nq
            have hp3 : Pts w3 g cur 5 := by rw [← hw3]; exact P2.out
            have O3 := Lib.hid ho3
            have B3 := Lib.hid hb3
            have P3 := Lib.hid hp3
            rw [hw3]
            clear ho3 hb3 hp3 hw3 O2 B2 P2 c8 c7 x8 x7 y8 y7 l8 l7 hor yk xk yk1 xi
            obtain ⟨D, hD⟩ : ∃ D, IL + 24 = D := ⟨_, rfl⟩
            have HZ2 := HZ.out.2
            obtain ⟨rr, k, hmod, hr1, hr2, hr3, hidx, hk⟩ := mod_idxX at_ D (by omega) (by omega)
            obtain ⟨d1, hd1⟩ : ∃ d1, 12 + IL = d1 := ⟨_, rfl⟩
            have a1 : 12 + (IL : Int) = (d1 : Int) := by omega
            have a2 : (d1 : Int) + 12 = (D : Int) := by omega
            have b1 : IntKind.i64.wrap (d1 : Int) = (d1 : Int) := Go.IntWalk.i64_in _ (by omega)
            have b2 : IntKind.i64.wrap (D : Int) = (D : Int) := Go.IntWalk.i64_in _ (by omega)
            obtain ⟨z1, hz1⟩ : ∃ z1 : Int, rr + 12 = z1 := ⟨_, rfl⟩
            obtain ⟨z2, hz2⟩ : ∃ z2 : Int, z1 + (IL : Int) = z2 := ⟨_, rfl⟩
            obtain ⟨z3, hz3⟩ : ∃ z3 : Int, z2 + 12 = z3 := ⟨_, rfl⟩
            have b3 : IntKind.i64.wrap rr = rr := Go.IntWalk.i64_in _ (by omega)
            have b4 : IntKind.i64.wrap z1 = z1 := Go.IntWalk.i64_in _ (by omega)
            have b5 : IntKind.i64.wrap z2 = z2 := Go.IntWalk.i64_in _ (by omega)
            have b6 : IntKind.i64.wrap z3 = z3 := Go.IntWalk.i64_in _ (by omega)
            rw [show rr + (D : Int) = z3 by omega] at hidx hr2
            have b7 : IntKind.i64.wrap (k : Int) = (k : Int) := Go.IntWalk.i64_in _ (by omega)
            have hD0 : ((D : Int) == 0) = false := beq_eq_false_iff_ne.2 (by omega)
            obtain ⟨p, hp⟩ : ∃ p, (k < 12 ∧ p = k) ∨ (12 ≤ k ∧ p = k + BL) := by
              by_cases h : k < 12
              · exact ⟨k, .inl ⟨h, rfl⟩⟩
              · exact ⟨k + BL, .inr ⟨by omega, rfl⟩⟩
            have HP : Hid ((p < 12 ∨ 12 + BL ≤ p) ∧ p < ML) := Lib.hid (by omega)
            have HP2 := Lib.hid hp
            have HK := Lib.hid (And.intro hk hD)
            clear HZ2 hp hd1 hD hk
            go_upto_if 72 with fail
            go_cut [1] from 103 (fun v wx => wx = w3 ∧ v = .int .i64 (p : Int))
            case first =>
              rcases HP2.out with ⟨h1, h2⟩ | ⟨h1, h2⟩
              · have t1 : (k : Int) < 12 := by omega
                have HE := Lib.hid h2
                clear h1 h2
                go_wp2
                go_meet
                case rel => exact ⟨rfl, by rw [HE.out, hidx]⟩
              · have t1 : (12 : Int) ≤ (k : Int) := by omega
                have HZ2 := HZ.out.2
                have HK2 := HK.out
                obtain ⟨y1, hy1⟩ : ∃ y1 : Int, (ML : Int) - 12 = y1 := ⟨_, rfl⟩
                obtain ⟨y2, hy2⟩ : ∃ y2 : Int, y1 - (IL : Int) = y2 := ⟨_, rfl⟩
                obtain ⟨y3, hy3⟩ : ∃ y3 : Int, y2 + (k : Int) = y3 := ⟨_, rfl⟩
                have hy4 : y3 - 12 = (p : Int) := by omega
                have v1 : IntKind.i64.wrap y1 = y1 := Go.IntWalk.i64_in _ (by omega)
                have v2 : IntKind.i64.wrap y2 = y2 := Go.IntWalk.i64_in _ (by omega)
                have v3 : IntKind.i64.wrap y3 = y3 := Go.IntWalk.i64_in _ (by omega)
                have v4 : IntKind.i64.wrap (p : Int) = (p : Int) := Go.IntWalk.i64_in _ (by omega)
                clear h1 h2 HZ2 HK2
                go_wp2
                go_meet
                case rel => exact ⟨rfl, rfl⟩
            case rest =>
              obtain ⟨hwc, rfl⟩ := hcut
              rw [hwc]
              clear hwc hmod hr1 hr2 hr3 hidx a1 a2 b1 b2 b3 b4 b5 b6 b7 hz1 hz2 hz3 yi
              obtain ⟨x, hx⟩ : ∃ x, M.getD p 0 = x := ⟨_, rfl⟩
              have hpM : p < M.length := by rw [HZ.out.1]; exact HP.out.2
              have pc : w3.cell? ⟨g, p, none⟩ = some (.int .u8 (x.toNat : Int)) := by
                obtain ⟨g', cap', cur', e, _, hp2, _, _, _, hcl⟩ := O3.out.form.resolve_left (fun h => by cases h.1)
                injection e with e1 e2 e3
                injection e1 with e1
                injection e1 with e1
                subst e1
                rw [hp2.cell, hcl p hpM, hx]
                rfl
              have pf := P3.out.frozen p
              obtain ⟨hy1, hyx⟩ := xor_byte (x := x) HBN.out.2 HBN.out.1
              obtain ⟨y, hy⟩ : ∃ y, x ^^^ UInt8.ofNat bn = y := ⟨_, rfl⟩
              rw [hy] at hy1 hyx
              obtain ⟨T, z, hz0, hxm⟩ := HCH.out p y HP.out.1 (by have := HP.out.2; have := HZ.out.2.1; omega) (by rw [hx]; exact hyx)
              obtain ⟨wn, hwn⟩ : ∃ wn, w3.setCell ⟨g, p, none⟩ (.int .u8 (y.toNat : Int)) = wn := ⟨_, rfl⟩
              have O9 : OwnB wn 5 wr.heap.size (.slice (some ⟨g, 0, none⟩) ML cap) (M.set p y) := hwn ▸ OwnB.set O3.out p hpM y
              have B9 : Below wr.heap.size wr wn := hwn ▸ B3.out.setCell (p := ⟨g, p, none⟩) G2.out.1 _
              have hl9 : (M.set p y).length = ML := by rw [List.length_set, HZ.out.1]
              have hxq : xP 16777216 (M.set p y) = (T, .inl z) := by unfold xP; rw [hxm]
              have hdq := member_p (some ⟨g, 0, none⟩) (M.set p y) ML cap 16777216 wn hl9.symm O9.rowZ (by have := G2.out.2.1; rw [HZ.out.1] at this; exact this) G2.out.2.2 (by have := HZ.out.2; omega)
              rw [show budOf 16777216 = 16777216 by decide] at hdq
              have HD := Lib.hid hdq
              have HX2 := Lib.hid hxq
              have BN := Lib.hid B9
              have qz : ((z : Int) != 0) = true := bne_iff_ne.2 (by omega)
              have hpl : (p : Int) < (ML : Int) := by have := HP.out.2; omega
              obtain ⟨yn, hyn⟩ : ∃ yn, y.toNat = yn := ⟨_, rfl⟩
              obtain ⟨xn, hxn⟩ : ∃ xn, x.toNat = xn := ⟨_, rfl⟩
              rw [hyn] at hwn hy1
              rw [hxn] at pc hy1
              clear hx hpM hyx hy hz0 hxm O9 B9 hl9 hxq hdq hyn hxn
              go_wp2_with fail
              refine HD.out.mono ?_; rintro e w4 hdd
              obtain ⟨Ay, cy, rfl, -, -, hb4, -⟩ := mem_err (m := T.length) hdd HX2.out rfl
              have B4 := Lib.hid (BN.out.trans (hb4.mono BN.out.size))
              clear hdd hb4 hwn
              go_wp2_with fail
              refine (wakes20 _).mono ?_; rintro e w7 ⟨rfl, b7⟩
              have B7 := Lib.hid (B4.out.trans (b7.mono B4.out.size))
              clear b7
              go_wp2
              go_ret
              exact ⟨rfl, B7.out⟩
end Go.Proofs.YtgahfpflhhfhfaaGreat
