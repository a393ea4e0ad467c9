/- An index that is made: it is read as its records; with one byte changed it is none, in plain Lean. -/
import Derived.Test.YtjhmebkkdgpneaaBoxB
namespace Go.Proofs.Ytjhmebkkdgpneaa
open Go.RowKit Box
set_option linter.unusedVariables false
set_option linter.unusedSimpArgs false
namespace Box
def recsB (l : List (Nat × Nat)) : List UInt8 := l.flatMap fun p => put p.1 ++ put p.2
theorem recsB_snoc (l : List (Nat × Nat)) (p : Nat × Nat) : recsB (l ++ [p]) = recsB l ++ (put p.1 ++ put p.2) := by simp [recsB]
theorem recsB_len : ∀ l : List (Nat × Nat), (recsB l).length ≤ 18 * l.length
  | [] => by simp [recsB]
  | p :: l => by
    have h := recsB_len l
    have h1 := put_len p.1
    have h2 := put_len p.2
    have e : recsB (p :: l) = (put p.1 ++ put p.2) ++ recsB l := rfl
    rw [e, List.length_append, List.length_append, List.length_cons]
    omega
def headB (l : List (Nat × Nat)) : List UInt8 := 0 :: put l.length
def sealOn (p : List UInt8) : List UInt8 := p ++ sealB p
theorem sealB_len (p : List UInt8) : (sealB p).length = 4 := rfl
theorem sealed_seal (p : List UInt8) : sealedB (sealOn p) = true := by
  unfold sealedB sealOn
  rw [List.length_append, sealB_len, Nat.add_sub_cancel, List.take_left, List.drop_left]
  simp
theorem ixRun_made (bs tl : List UInt8) : ∀ (l l0 : List (Nat × Nat)) (u : Nat), (∀ p ∈ l, 5 ≤ p.1 ∧ p.1 < 9223372036854775808 ∧ p.2 < 9223372036854775808) →
    ixRun bs l.length l0 (recsB l ++ tl) u = ixTail bs (l0 ++ l) tl (u + (recsB l).length)
  | [], l0, u, _ => by simp [recsB, ixRun]
  | p :: l, l0, u, h => by
    obtain ⟨h1, h2, h3⟩ := h p (by simp)
    have e : recsB (p :: l) ++ tl = put p.1 ++ (put p.2 ++ (recsB l ++ tl)) := by
      have e : recsB (p :: l) = (put p.1 ++ put p.2) ++ recsB l := rfl
      rw [e]; simp
    have n1 := number_put h2 (put p.2 ++ (recsB l ++ tl))
    have n2 := number_put h3 (recsB l ++ tl)
    rw [e, List.length_cons]
    unfold ixRun
    rw [n1]
    simp only
    rw [if_neg (by simp), if_neg (by omega), List.drop_left, n2]
    simp only
    rw [if_neg (by simp), List.drop_left, ixRun_made bs tl l (l0 ++ [(p.1, p.2)]) _ (fun q hq => h q (by simp [hq]))]
    have e2 : (recsB (p :: l)).length = (put p.1).length + (put p.2).length + (recsB l).length := by
      have e : recsB (p :: l) = (put p.1 ++ put p.2) ++ recsB l := rfl
      rw [e]; simp [Nat.add_assoc]
    rw [e2, List.append_assoc]
    congr 1
    omega
theorem index_made (l : List (Nat × Nat)) (z : Nat) (hl : ∀ p ∈ l, 5 ≤ p.1 ∧ p.1 < 9223372036854775808 ∧ p.2 < 9223372036854775808) (hn : l.length < 1000) (hz : z < 4) (hm : ((headB l ++ recsB l ++ List.replicate z 0 : List UInt8).length) % 4 = 0) :
    indexOf (sealOn (headB l ++ recsB l ++ List.replicate z 0)) = (l, (sealOn (headB l ++ recsB l ++ List.replicate z 0)).length, 0) := by
  obtain ⟨p, hp⟩ : ∃ p, headB l ++ recsB l ++ List.replicate z 0 = p := ⟨_, rfl⟩
  rw [hp]
  obtain ⟨bs, hbs⟩ : ∃ bs, sealOn p = bs := ⟨_, rfl⟩
  have hse := sealed_seal p
  rw [hbs] at hse ⊢
  have hb2 : bs = 0 :: (put l.length ++ (recsB l ++ (List.replicate z 0 ++ sealB p))) := by
    have e : p = 0 :: (put l.length ++ (recsB l ++ List.replicate z 0)) := by rw [← hp]; unfold headB; simp
    rw [← hbs]; unfold sealOn
    conv => lhs; lhs; rw [e]
    simp
  have hpl : p.length = 1 + (put l.length).length + (recsB l).length + z := by rw [← hp]; unfold headB; simp; omega
  have hbl : bs.length = p.length + 4 := by rw [← hbs]; unfold sealOn; rw [List.length_append, sealB_len]
  have n1 := number_put (n := l.length) (by omega) (recsB l ++ (List.replicate z 0 ++ sealB p))
  have hR := ixRun_made bs (List.replicate z 0 ++ sealB p) l [] (1 + (put l.length).length) hl
  have hi : indexOf bs = ixRun bs l.length [] (recsB l ++ (List.replicate z 0 ++ sealB p)) (1 + (put l.length).length) := by
    conv => lhs; rw [hb2]
    unfold indexOf
    simp only
    rw [if_neg (by simp), n1]
    simp only
    rw [if_neg (by simp), List.drop_left, ← hb2]
  rw [hi, hR, List.nil_append]
  rw [hp] at hm
  obtain ⟨u, hu⟩ : ∃ u, 1 + (put l.length).length + (recsB l).length = u := ⟨_, rfl⟩
  rw [hu] at hpl ⊢
  have hpad : (4 - u % 4) % 4 = z := by omega
  unfold ixTail
  simp only [hpad]
  have hln : (List.replicate z (0 : UInt8) ++ sealB p).length = z + 4 := by rw [List.length_append, sealB_len]; simp
  rw [if_neg (by rw [hln]; omega), if_neg (fun h => h (by
    intro x hx
    have hx2 : x ∈ List.replicate z (0 : UInt8) := by
      have : (List.replicate z (0 : UInt8) ++ sealB p).take z = List.replicate z 0 := by
        have := List.take_left (l₁ := List.replicate z (0 : UInt8)) (l₂ := sealB p)
        rwa [List.length_replicate] at this
      rwa [this] at hx
    exact List.eq_of_mem_replicate hx2))]
  have hall : bs.take (u + (z + 4)) = bs := List.take_of_length_le (by omega)
  rw [hall, if_pos hse]
  have : u + (z + 4) = bs.length := by omega
  rw [this]
/-- What reading tells of an index, whatever the bytes. -/
def IxOk (bs : List UInt8) (R : List (Nat × Nat) × Nat × Int) : Prop := (R.2.2 ≠ 0 → R.2.1 = 0) ∧ (R.2.2 = 0 → sealedB (bs.take R.2.1) = true)
theorem ixOk_err (bs : List UInt8) (e : Int) (he : e ≠ 0) : IxOk bs ([], 0, e) := ⟨fun _ => rfl, fun h => absurd h he⟩
theorem ixTail_ok (bs : List UInt8) (l : List (Nat × Nat)) (r : List UInt8) (u : Nat) : IxOk bs (ixTail bs l r u) := by
  unfold ixTail
  simp only
  split
  · exact ixOk_err _ _ (by decide)
  · split
    · exact ixOk_err _ _ (by decide)
    · split
      · rename_i h; exact ⟨fun h2 => absurd rfl h2, fun _ => h⟩
      · exact ixOk_err _ _ (by decide)
theorem ixRun_ok (bs : List UInt8) : ∀ (n : Nat) (l : List (Nat × Nat)) (r : List UInt8) (u : Nat), IxOk bs (ixRun bs n l r u)
  | 0, l, r, u => ixTail_ok bs l r u
  | n + 1, l, r, u => by
    unfold ixRun
    split
    · rename_i h; exact ixOk_err _ _ h
    · split
      · exact ixOk_err _ _ (by decide)
      · split
        · rename_i h; exact ixOk_err _ _ h
        · exact ixRun_ok bs n _ _ _
theorem index_ok (bs : List UInt8) : IxOk bs (indexOf bs) := by
  cases bs with
  | nil => exact ixOk_err _ _ (by decide)
  | cons b r =>
    unfold indexOf
    simp only
    split
    · exact ixOk_err _ _ (by decide)
    · split
      · rename_i h; exact ixOk_err _ _ h
      · exact ixRun_ok _ _ _ _ _
theorem crc32_set (bs : List UInt8) (k : Nat) (hk : k < bs.length) (y : UInt8) (hy : y ≠ bs.getD k 0) : crc32 (bs.set k y) ≠ crc32 bs := by
  intro h
  unfold crc32 at h
  exact Crc.add_set (B := 31) (P := P32) (n := Num.M32 - 1) (by decide) (by decide) (by decide) (by decide) bs k hk y hy (Crc.xor_cancel h.symm)
theorem byte_mod {a b : Nat} (h : UInt8.ofNat a = UInt8.ofNat b) : a % 256 = b % 256 := by
  have := congrArg UInt8.toNat h
  rw [UInt8.toNat_ofNat', UInt8.toNat_ofNat'] at this
  exact this
theorem four_inj {x y : Nat} (hx : x < 4294967296) (hy : y < 4294967296) (h : four x = four y) : x = y := by
  unfold four at h
  simp only [List.cons.injEq, and_true] at h
  obtain ⟨h0, h1, h2, h3⟩ := h
  have h0 := byte_mod h0
  have h1 := byte_mod h1
  have h2 := byte_mod h2
  have h3 := byte_mod h3
  omega
theorem sealed_set (p : List UInt8) (k : Nat) (hk : k < (sealOn p).length) (y : UInt8) (hy : y ≠ (sealOn p).getD k 0) : sealedB ((sealOn p).set k y) = false := by
  have hl : (sealOn p).length = p.length + 4 := by unfold sealOn; rw [List.length_append, sealB_len]
  unfold sealedB
  rw [List.length_set, hl, Nat.add_sub_cancel, beq_eq_false_iff_ne]
  intro h
  by_cases hkp : k < p.length
  · have e1 : (sealOn p).set k y = p.set k y ++ sealB p := by unfold sealOn; rw [List.set_append_left _ _ hkp]
    have e2 : (sealOn p).getD k 0 = p.getD k 0 := by unfold sealOn; simp [List.getD, List.getElem?_append_left hkp]
    have h1 := List.take_left (l₁ := p.set k y) (l₂ := sealB p)
    have h2 := List.drop_left (l₁ := p.set k y) (l₂ := sealB p)
    rw [List.length_set] at h1 h2
    rw [e1, h1, h2] at h
    rw [e2] at hy
    exact crc32_set p k hkp y hy (four_inj (c32_lt32 _) (c32_lt32 _) h)
  · have e1 : (sealOn p).set k y = p ++ (sealB p).set (k - p.length) y := by unfold sealOn; rw [List.set_append_right _ _ (by omega)]
    have hk4 : k - p.length < (sealB p).length := by rw [sealB_len]; omega
    have e2 : (sealOn p).getD k 0 = (sealB p).getD (k - p.length) 0 := by unfold sealOn; simp [List.getD, List.getElem?_append_right (show p.length ≤ k by omega)]
    rw [e1, List.take_left, List.drop_left] at h
    rw [e2] at hy
    have h3 := congrArg (fun l => l.getD (k - p.length) 0) h
    simp only [List.getD, List.getElem?_set, hk4, if_true, Option.getD_some] at h3
    exact hy h3.symm
end Box
end Go.Proofs.Ytjhmebkkdgpneaa
