/- Chunks, in plain Lean: an operation, all operations, the end. -/
import Derived.Test.YteghpnlamdgpnaaLzU
import Derived.Test.YteghpnlamdgpnaaRngD
namespace Go.Proofs.Yteghpnlamdgpnaa
open Go.RowKit Rng Lz Win
set_option linter.unusedVariables false
set_option linter.unusedSimpArgs false
/-- What is known behind some operations: the state, the distances, coder and chances, the window's content. -/
structure RS where
  st : Nat
  rep : Nat → Nat
  s : CP Dec
  C : List UInt8
structure RS.Ok (x : RS) : Prop where
  st : x.st < 12
  rep : ∀ j, x.rep j < 4294967296
/-- An operation: what it tells, what is then; none: it is none. -/
def stepOf (k : LK) (S total room : Nat) (x : RS) : Option (List UInt8 × RS) :=
  let a := bitAt outC (8 + x.st * 16 + total % 2 ^ k.pb) 0 x.s
  if a.1 = 0 then
    let l := litOf outC k x.st total x.rep x.C a.2
    some ([UInt8.ofNat l.1], ⟨behS x.st 0, x.rep, l.2, lastN S (x.C ++ [UInt8.ofNat l.1])⟩)
  else
    let o := opOf outC x.st (total % 2 ^ k.pb) x.rep a.2
    if o.1 ≤ room ∧ o.2.2.1 0 + 1 ≤ x.C.length then some (cyc x.C (o.2.2.1 0 + 1) o.1, ⟨o.2.1, o.2.2.1, o.2.2.2, lastN S (x.C ++ cyc x.C (o.2.2.1 0 + 1) o.1)⟩)
    else none
/-- Operations until n bytes are told. -/
def chunkGo (k : LK) (S total n : Nat) : Nat → List UInt8 → RS → Option (List UInt8 × RS)
  | 0, _, _ => none
  | f + 1, told, x =>
    if n ≤ told.length then some (told, x)
    else match stepOf k S (total + told.length) (n - told.length) x with
      | none => none
      | some (b, y) => chunkGo k S total n f (told ++ b) y
/-- The place as it counts. -/
def totOf (total : Nat) : Nat := if 1099511627776 < total then 1099511627776 + total % 16 else total
theorem totOf_lt (total : Nat) : totOf total < 1099511627792 := by unfold totOf; split <;> omega
/-- A chunk: what it tells, what is then. -/
def chunkOf (k : LK) (S total n st : Nat) (rep : Nat → Nat) (pr : Pr) (C bs : List UInt8) : Option (List UInt8 × RS) :=
  if newErr bs ≠ 0 then none
  else match chunkGo k S (totOf total) n (n + 1) [] ⟨st, rep, ⟨newDec bs, pr⟩, C⟩ with
    | none => none
    | some (told, y) => if y.s.d.fin = (0, 0) then some (told, y) else none
theorem distAt_lt {σ : Type} (co : Cod σ) (d size : Nat) (s : CP σ) : (distAt co d size s).1 < 4294967296 := by
  unfold distAt
  simp only
  split
  · rename_i h; simp only; omega
  · split
    · rename_i h1 h2
      generalize treeAt co (440 + (min size 5 - 2) * 64) 6 (slotOf d) s = t at *
      have hu := backAt_lt co (696 + (2 + t.1 % 2) * 2 ^ (t.1 / 2 - 1) - t.1) (t.1 / 2 - 1) (d - (2 + t.1 % 2) * 2 ^ (t.1 / 2 - 1)) t.2
      have hk : 2 ^ (t.1 / 2 - 1) ≤ 2 ^ 5 := Nat.pow_le_pow_right (by omega) (by omega)
      have hm : (2 + t.1 % 2) * 2 ^ (t.1 / 2 - 1) ≤ 3 * 2 ^ (t.1 / 2 - 1) := Nat.mul_le_mul_right _ (by omega)
      simp only
      omega
    · simp only; omega
theorem takeS_lt {rep : Nat → Nat} (h : ∀ j, rep j < 4294967296) (n : Nat) : ∀ j, takeS rep n j < 4294967296 := by
  intro j
  unfold takeS
  repeat' split
  all_goals first | exact h _ | (unfold shiftN; split <;> exact h _)
theorem shiftN_lt {rep : Nat → Nat} (h : ∀ j, rep j < 4294967296) (n : Nat) : ∀ j, shiftN rep n j < 4294967296 := by
  intro j
  unfold shiftN
  split <;> exact h _
theorem repOf_inv {σ : Type} (co : Cod σ) {st : Nat} (p : Nat) {rep : Nat → Nat} (s : CP σ) (hst : st < 12) (h : ∀ j, rep j < 4294967296) :
    1 ≤ (repOf co st p rep s).1 ∧ (repOf co st p rep s).1 ≤ 300 ∧ (repOf co st p rep s).2.1 < 12 ∧ ∀ j, (repOf co st p rep s).2.2.1 j < 4294967296 := by
  unfold repOf
  simp only
  split
  · split
    · exact ⟨by simp, by simp, show behS st 3 < 12 from behS_lt hst, h⟩
    · have hl := lenAt_lt co 1354 2 p (bitAt co (248 + st * 16 + p) 0 (bitAt co (212 + st) 0 s).2).2
      exact ⟨by simp only; omega, hl.2, show behS st 2 < 12 from behS_lt hst, h⟩
  · split
    · exact ⟨Nat.le_trans (by decide) (lenAt_lt co 1354 2 p _).1, (lenAt_lt co 1354 2 p _).2, show behS st 2 < 12 from behS_lt hst, takeS_lt h _⟩
    · exact ⟨Nat.le_trans (by decide) (lenAt_lt co 1354 2 p _).1, (lenAt_lt co 1354 2 p _).2, show behS st 2 < 12 from behS_lt hst, takeS_lt h _⟩
theorem opOf_inv {σ : Type} (co : Cod σ) {st : Nat} (p : Nat) {rep : Nat → Nat} (s : CP σ) (hst : st < 12) (h : ∀ j, rep j < 4294967296) :
    1 ≤ (opOf co st p rep s).1 ∧ (opOf co st p rep s).1 ≤ 300 ∧ (opOf co st p rep s).2.1 < 12 ∧ ∀ j, (opOf co st p rep s).2.2.1 j < 4294967296 := by
  unfold opOf
  simp only
  split
  · exact repOf_inv co p _ hst h
  · refine ⟨Nat.le_trans (by decide) (lenAt_lt co 840 2 p _).1, (lenAt_lt co 840 2 p _).2, show behS st 1 < 12 from behS_lt hst, fun j => ?_⟩
    simp only
    split
    · exact distAt_lt co 0 _ _
    · exact shiftN_lt h 3 j
theorem stepOf_inv {k : LK} {S total room : Nat} {x y : RS} {b : List UInt8} (hx : x.Ok) (hr : 1 ≤ room) (h : stepOf k S total room x = some (b, y)) : y.Ok ∧ 1 ≤ b.length ∧ b.length ≤ room := by
  unfold stepOf at h
  simp only at h
  split at h
  · injection h with h
    injection h with h1 h2
    subst h1; subst h2
    exact ⟨⟨show behS x.st 0 < 12 from behS_lt hx.st, hx.rep⟩, by simp, by simpa using hr⟩
  · split at h
    · rename_i hg
      injection h with h
      injection h with h1 h2
      subst h1; subst h2
      have hi := opOf_inv outC (total % 2 ^ k.pb) (rep := x.rep) (bitAt outC (8 + x.st * 16 + total % 2 ^ k.pb) 0 x.s).2 hx.st hx.rep
      rw [cyc_length]
      exact ⟨⟨hi.2.2.1, hi.2.2.2⟩, hi.1, hg.1⟩
    · cases h
theorem chunkGo_inv {k : LK} {S total n : Nat} : ∀ (f : Nat) {told t' : List UInt8} {x y : RS}, x.Ok → told.length ≤ n → chunkGo k S total n f told x = some (t', y) → y.Ok ∧ t'.length = n ∧ ∃ b, t' = told ++ b
  | 0, _, _, _, _, _, _, h => by cases h
  | f + 1, told, t', x, y, hx, hl, h => by
    unfold chunkGo at h
    split at h
    · injection h with h
      injection h with h1 h2
      subst h1; subst h2
      exact ⟨hx, by omega, [], by simp⟩
    · cases hs : stepOf k S (total + told.length) (n - told.length) x with
      | none => rw [hs] at h; cases h
      | some p =>
        obtain ⟨b, z⟩ := p
        rw [hs] at h
        simp only at h
        have hi := stepOf_inv hx (by omega) hs
        have hr := chunkGo_inv f hi.1 (by rw [List.length_append]; omega) h
        obtain ⟨h1, h2, b2, h3⟩ := hr
        exact ⟨h1, h2, b ++ b2, by rw [h3, List.append_assoc]⟩
end Go.Proofs.Yteghpnlamdgpnaa
