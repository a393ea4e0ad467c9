/- Texts of this proof, put together: LcP. -/
import Derived.Test.YtffehfpbdcokbaaDoorBu19
set_option linter.unusedVariables false
set_option linter.unusedSimpArgs false
/- Two coders side by side, in plain Lean: what one tells, the other tells, up tq9 an end that stays. -/
namespace Go.Proofs.YtffehfpbdcokbaaDoor.Lz
open Go.RowKit Rng Win
set_option linter.unusedVariables false
set_option linter.unusedSimpArgs false
/-- What stays behind each bit. -/
structure Stays {τ : Type} (co : Cod τ) (β : τ → Prop) : Prop where
  bit : ∀ t p x, β t → β (co.bit t (fair p) x).2
  dir : ∀ t x n, β t → β (co.dir t x n).2
section
variable {τ : Type} {co : Cod τ} {β : τ → Prop}
theorem stays_bitAt (K : Stays co β) (i x : Nat) {t : CP τ} (h : β t.d) : β (bitAt co i x t).2.d := K.bit _ _ _ h
theorem stays_treeGo (K : Stays co β) (base x : Nat) : ∀ (n m : Nat) {t : CP τ}, β t.d → β (treeGo co base x n m t).2.d
  | 0, _, _, h => h
  | n + 1, m, t, h => stays_treeGo K base x n _ (stays_bitAt K _ _ h)
theorem stays_treeAt (K : Stays co β) (base n x : Nat) {t : CP τ} (h : β t.d) : β (treeAt co base n x t).2.d := stays_treeGo K _ _ _ _ h
theorem stays_backGo (K : Stays co β) (base x n : Nat) : ∀ (k m o : Nat) {t : CP τ}, β t.d → β (backGo co base x n k m o t).2.d
  | 0, _, _, _, h => h
  | k + 1, m, o, t, h => stays_backGo K base x n k _ _ (stays_bitAt K _ _ h)
theorem stays_backAt (K : Stays co β) (base n x : Nat) {t : CP τ} (h : β t.d) : β (backAt co base n x t).2.d := stays_backGo K _ _ _ _ _ _ h
set_option maxRecDepth 100000 in
theorem stays_lenAt (K : Stays co β) (base n p : Nat) {t : CP τ} (h : β t.d) : β (lenAt co base n p t).2.d := by
  unfold Lz.lenAt
  simp only
  split
  · exact stays_treeAt K (base + 2 + p * 8) 3 (n - 2) (stays_bitAt K _ _ h)
  · split
    · exact stays_treeAt K (base + 130 + p * 8) 3 (n - 10) (stays_bitAt K _ _ (stays_bitAt K _ _ h))
    · exact stays_treeAt K (base + 258) 8 (n - 18) (stays_bitAt K _ _ (stays_bitAt K _ _ h))
theorem stays_distAt (K : Stays co β) (d size : Nat) {t : CP τ} (h : β t.d) : β (distAt co d size t).2.d := by
  unfold Lz.distAt
  simp only
  have h1 := stays_treeAt K (440 + (min size 5 - 2) * 64) 6 (slotOf d) h
  split
  · exact h1
  · split
    · exact stays_backAt K _ _ _ h1
    · refine stays_backAt K _ _ _ ?_
      exact K.dir _ _ _ h1
theorem stays_farGo (K : Stays co β) (base x far : Nat) : ∀ (n m : Nat) {t : CP τ}, β t.d → β (farGo co base x far n m t).2.d
  | 0, _, _, h => h
  | n + 1, m, t, h => by
    unfold Lz.farGo
    simp only
    split
    · exact stays_farGo K base x far n _ (stays_bitAt K _ _ h)
    · exact stays_treeGo K _ _ _ _ (stays_bitAt K _ _ h)
theorem stays_litAt (K : Stays co β) (lc lp st total ahead far x : Nat) {t : CP τ} (h : β t.d) : β (litAt co lc lp st total ahead far x t).2.d := by
  unfold Lz.litAt
  simp only
  split
  · exact stays_farGo K _ _ _ _ _ h
  · exact stays_treeGo K _ _ _ _ h
theorem stays_litOf (K : Stays co β) (k : LK) (st total : Nat) (rep : Nat → Nat) (C : List UInt8) {t : CP τ} (h : β t.d) : β (litOf co k st total rep C t).2.d := stays_litAt K _ _ _ _ _ _ _ h
theorem stays_repOf (K : Stays co β) (st p : Nat) (rep : Nat → Nat) {t : CP τ} (h : β t.d) : β (repOf co st p rep t).2.2.2.d := by
  unfold Go.Proofs.YtffehfpbdcokbaaDoor.repOf
  simp only
  split
  · split
    · exact stays_bitAt K _ _ (stays_bitAt K _ _ h)
    · exact stays_lenAt K _ _ _ (stays_bitAt K _ _ (stays_bitAt K _ _ h))
  · split
    · exact stays_lenAt K _ _ _ (stays_bitAt K _ _ (stays_bitAt K _ _ (stays_bitAt K _ _ h)))
    · exact stays_lenAt K _ _ _ (stays_bitAt K _ _ (stays_bitAt K _ _ h))
theorem stays_opOf (K : Stays co β) (st p : Nat) (rep : Nat → Nat) {t : CP τ} (h : β t.d) : β (opOf co st p rep t).2.2.2.d := by
  unfold Go.Proofs.YtffehfpbdcokbaaDoor.opOf
  simp only
  split
  · exact stays_repOf K _ _ _ (stays_bitAt K _ _ h)
  · exact stays_distAt K _ _ (stays_lenAt K _ _ _ (stays_bitAt K _ _ h))
end
/-- Two coders that tell the same, or the second one is at the end. -/
structure Sim {σ τ : Type} (co : Cod σ) (co' : Cod τ) (ρ : σ → τ → Prop) (β : τ → Prop) : Prop extends Stays co' β where
  two : ∀ s t p x, ρ s t → ((co.bit s (fair p) x).1 = (co'.bit t (fair p) x).1 ∧ ρ (co.bit s (fair p) x).2 (co'.bit t (fair p) x).2) ∨ β (co'.bit t (fair p) x).2
  twoDir : ∀ s t x n, ρ s t → ((co.dir s x n).1 = (co'.dir t x n).1 ∧ ρ (co.dir s x n).2 (co'.dir t x n).2) ∨ β (co'.dir t x n).2
def Pair {σ τ : Type} (ρ : σ → τ → Prop) (s : CP σ) (t : CP τ) : Prop := ρ s.d t.d ∧ s.pr = t.pr
def Res {σ τ α : Type} (ρ : σ → τ → Prop) (β : τ → Prop) (a : α × CP σ) (b : α × CP τ) : Prop := (a.1 = b.1 ∧ Pair ρ a.2 b.2) ∨ β b.2.d
section
variable {σ τ : Type} {co : Cod σ} {co' : Cod τ} {ρ : σ → τ → Prop} {β : τ → Prop}
theorem sim_bitAt (K : Sim co co' ρ β) (i x : Nat) {s : CP σ} {t : CP τ} (h : Pair ρ s t) : Res ρ β (bitAt co i x s) (bitAt co' i x t) := by
  unfold Res Pair Lz.bitAt
  simp only
  rw [← h.2]
  rcases K.two s.d t.d (s.pr i) x h.1 with ⟨h1, h2⟩ | h3
  · exact .inl ⟨by rw [h1], h2, by rw [h1]⟩
  · exact .inr h3
theorem sim_treeGo (K : Sim co co' ρ β) (base x : Nat) : ∀ (n m : Nat) {s : CP σ} {t : CP τ}, Pair ρ s t → Res ρ β (treeGo co base x n m s) (treeGo co' base x n m t)
  | 0, m, s, t, h => .inl ⟨rfl, h⟩
  | n + 1, m, s, t, h => by
    unfold Lz.treeGo
    rcases sim_bitAt K (base + m) (x / 2 ^ n % 2) h with ⟨h1, h2⟩ | h3
    · rw [h1]
      exact sim_treeGo K base x n _ h2
    · exact .inr (stays_treeGo K.toStays _ _ _ _ h3)
theorem sim_treeAt (K : Sim co co' ρ β) (base n x : Nat) {s : CP σ} {t : CP τ} (h : Pair ρ s t) : Res ρ β (treeAt co base n x s) (treeAt co' base n x t) := by
  rcases sim_treeGo K base x n 1 h with ⟨h1, h2⟩ | h3
  · exact .inl ⟨by unfold Lz.treeAt; simp only; rw [h1], h2⟩
  · exact .inr h3
theorem sim_backGo (K : Sim co co' ρ β) (base x n : Nat) : ∀ (k m o : Nat) {s : CP σ} {t : CP τ}, Pair ρ s t → Res ρ β (backGo co base x n k m o s) (backGo co' base x n k m o t)
  | 0, m, o, s, t, h => .inl ⟨rfl, h⟩
  | k + 1, m, o, s, t, h => by
    unfold Lz.backGo
    rcases sim_bitAt K (base + m) (x / 2 ^ (n - (k + 1)) % 2) h with ⟨h1, h2⟩ | h3
    · rw [h1]
      exact sim_backGo K base x n k _ _ h2
    · exact .inr (stays_backGo K.toStays _ _ _ _ _ _ h3)
theorem sim_backAt (K : Sim co co' ρ β) (base n x : Nat) {s : CP σ} {t : CP τ} (h : Pair ρ s t) : Res ρ β (backAt co base n x s) (backAt co' base n x t) := sim_backGo K _ _ _ _ _ _ h
set_option maxRecDepth 100000 in
theorem sim_lenAt (K : Sim co co' ρ β) (base n p : Nat) {s : CP σ} {t : CP τ} (h : Pair ρ s t) : Res ρ β (lenAt co base n p s) (lenAt co' base n p t) := by
  unfold Lz.lenAt
  simp only
  rcases sim_bitAt K base (b2n (decide (10 ≤ n))) h with ⟨h1, h2⟩ | h3
  · rw [h1]
    split
    · rcases sim_treeAt K (base + 2 + p * 8) 3 (n - 2) h2 with ⟨k1, k2⟩ | k3
      · exact .inl ⟨by simp only; rw [k1], k2⟩
      · exact .inr k3
    · rcases sim_bitAt K (base + 1) (b2n (decide (18 ≤ n))) h2 with ⟨g1, g2⟩ | g3
      · rw [g1]
        split
        · rcases sim_treeAt K (base + 130 + p * 8) 3 (n - 10) g2 with ⟨k1, k2⟩ | k3
          · exact .inl ⟨by simp only; rw [k1], k2⟩
          · exact .inr k3
        · rcases sim_treeAt K (base + 258) 8 (n - 18) g2 with ⟨k1, k2⟩ | k3
          · exact .inl ⟨by simp only; rw [k1], k2⟩
          · exact .inr k3
      · refine .inr ?_
        split
        · exact stays_treeAt K.toStays (base + 130 + p * 8) 3 (n - 10) g3
        · exact stays_treeAt K.toStays (base + 258) 8 (n - 18) g3
  · refine .inr ?_
    split
    · exact stays_treeAt K.toStays (base + 2 + p * 8) 3 (n - 2) h3
    · split
      · exact stays_treeAt K.toStays (base + 130 + p * 8) 3 (n - 10) (stays_bitAt K.toStays _ _ h3)
      · exact stays_treeAt K.toStays (base + 258) 8 (n - 18) (stays_bitAt K.toStays _ _ h3)
theorem sim_distAt (K : Sim co co' ρ β) (d size : Nat) {s : CP σ} {t : CP τ} (h : Pair ρ s t) : Res ρ β (distAt co d size s) (distAt co' d size t) := by
  rcases sim_treeAt K (440 + (min size 5 - 2) * 64) 6 (slotOf d) h with ⟨h1, h2⟩ | h3
  · unfold Lz.distAt
    simp only
    rw [h1]
    split
    · exact .inl ⟨rfl, h2⟩
    · split
      · rcases sim_backAt K (696 + (2 + (Lz.treeAt co' (440 + (min size 5 - 2) * 64) 6 (slotOf d) t).1 % 2) * 2 ^ ((Lz.treeAt co' (440 + (min size 5 - 2) * 64) 6 (slotOf d) t).1 / 2 - 1) - (Lz.treeAt co' (440 + (min size 5 - 2) * 64) 6 (slotOf d) t).1) ((Lz.treeAt co' (440 + (min size 5 - 2) * 64) 6 (slotOf d) t).1 / 2 - 1) (d - (2 + (Lz.treeAt co' (440 + (min size 5 - 2) * 64) 6 (slotOf d) t).1 % 2) * 2 ^ ((Lz.treeAt co' (440 + (min size 5 - 2) * 64) 6 (slotOf d) t).1 / 2 - 1)) h2 with ⟨k1, k2⟩ | k3
        · exact .inl ⟨by simp only; rw [k1], k2⟩
        · exact .inr k3
      · generalize Lz.treeAt co' (440 + (min size 5 - 2) * 64) 6 (slotOf d) t = T' at *
        generalize Lz.treeAt co (440 + (min size 5 - 2) * 64) 6 (slotOf d) s = T at *
        rcases K.twoDir T.2.d T'.2.d ((d - (2 + T'.1 % 2) * 2 ^ (T'.1 / 2 - 1)) / 16) (T'.1 / 2 - 1 - 4) h2.1 with ⟨g1, g2⟩ | g3
        · rw [g1]
          rcases sim_backAt K 824 4 (d % 16) (s := ⟨(co.dir T.2.d ((d - (2 + T'.1 % 2) * 2 ^ (T'.1 / 2 - 1)) / 16) (T'.1 / 2 - 1 - 4)).2, T.2.pr⟩) (t := ⟨(co'.dir T'.2.d ((d - (2 + T'.1 % 2) * 2 ^ (T'.1 / 2 - 1)) / 16) (T'.1 / 2 - 1 - 4)).2, T'.2.pr⟩) ⟨g2, h2.2⟩ with ⟨k1, k2⟩ | k3
          · exact .inl ⟨by simp only; rw [k1], k2⟩
          · exact .inr k3
        · exact .inr (stays_backAt K.toStays _ _ _ g3)
  · refine .inr ?_
    unfold Lz.distAt
    simp only
    split
    · exact h3
    · split
      · exact stays_backAt K.toStays _ _ _ h3
      · exact stays_backAt K.toStays _ _ _ (K.toStays.dir _ _ _ h3)
theorem sim_farGo (K : Sim co co' ρ β) (base x far : Nat) : ∀ (n m : Nat) {s : CP σ} {t : CP τ}, Pair ρ s t → Res ρ β (farGo co base x far n m s) (farGo co' base x far n m t)
  | 0, m, s, t, h => .inl ⟨rfl, h⟩
  | n + 1, m, s, t, h => by
    unfold Lz.farGo
    simp only
    rcases sim_bitAt K (base + (1 + far / 2 ^ n % 2) * 256 + m) (x / 2 ^ n % 2) h with ⟨h1, h2⟩ | h3
    · rw [h1]
      split
      · exact sim_farGo K base x far n _ h2
      · exact sim_treeGo K _ _ _ _ h2
    · refine .inr ?_
      split
      · exact stays_farGo K.toStays _ _ _ _ _ h3
      · exact stays_treeGo K.toStays _ _ _ _ h3
theorem sim_litAt (K : Sim co co' ρ β) (lc lp st total ahead far x : Nat) {s : CP σ} {t : CP τ} (h : Pair ρ s t) : Res ρ β (litAt co lc lp st total ahead far x s) (litAt co' lc lp st total ahead far x t) := by
  unfold Lz.litAt
  simp only
  split
  · rcases sim_farGo K (4096 + 768 * (total % 2 ^ lp * 2 ^ lc + ahead / 2 ^ (8 - lc))) x far 8 1 h with ⟨h1, h2⟩ | h3
    · exact .inl ⟨by simp only; rw [h1], h2⟩
    · exact .inr h3
  · rcases sim_treeGo K (4096 + 768 * (total % 2 ^ lp * 2 ^ lc + ahead / 2 ^ (8 - lc))) x 8 1 h with ⟨h1, h2⟩ | h3
    · exact .inl ⟨by simp only; rw [h1], h2⟩
    · exact .inr h3
theorem sim_litOf (K : Sim co co' ρ β) (k : LK) (st total : Nat) (rep : Nat → Nat) (C : List UInt8) {s : CP σ} {t : CP τ} (h : Pair ρ s t) : Res ρ β (litOf co k st total rep C s) (litOf co' k st total rep C t) := sim_litAt K _ _ _ _ _ _ _ h
/-- What an operation makes of both. -/
def Res4 (ρ : σ → τ → Prop) (β : τ → Prop) (a : Nat × Nat × (Nat → Nat) × CP σ) (b : Nat × Nat × (Nat → Nat) × CP τ) : Prop := (a.1 = b.1 ∧ a.2.1 = b.2.1 ∧ a.2.2.1 = b.2.2.1 ∧ Pair ρ a.2.2.2 b.2.2.2) ∨ β b.2.2.2.d
theorem sim_repOf (K : Sim co co' ρ β) (st p : Nat) (rep : Nat → Nat) {s : CP σ} {t : CP τ} (h : Pair ρ s t) : Res4 ρ β (repOf co st p rep s) (repOf co' st p rep t) := by
  rcases sim_bitAt K (212 + st) 0 h with ⟨h1, h2⟩ | h3
  · unfold Go.Proofs.YtffehfpbdcokbaaDoor.repOf
    simp only
    rw [h1]
    split
    · rcases sim_bitAt K (248 + st * 16 + p) 0 h2 with ⟨k1, k2⟩ | k3
      · rw [k1]
        split
        · exact .inl ⟨rfl, rfl, rfl, k2⟩
        · rcases sim_lenAt K 1354 2 p k2 with ⟨l1, l2⟩ | l3
          · exact .inl ⟨l1, rfl, rfl, l2⟩
          · exact .inr l3
      · refine .inr ?_
        split
        · exact k3
        · exact stays_lenAt K.toStays _ _ _ k3
    · rcases sim_bitAt K (224 + st) 0 h2 with ⟨k1, k2⟩ | k3
      · rw [k1]
        split
        · rcases sim_bitAt K (236 + st) 0 k2 with ⟨j1, j2⟩ | j3
          · rw [j1]
            rcases sim_lenAt K 1354 2 p j2 with ⟨l1, l2⟩ | l3
            · exact .inl ⟨l1, rfl, rfl, l2⟩
            · exact .inr l3
          · exact .inr (stays_lenAt K.toStays _ _ _ j3)
        · rcases sim_lenAt K 1354 2 p k2 with ⟨l1, l2⟩ | l3
          · exact .inl ⟨l1, rfl, rfl, l2⟩
          · exact .inr l3
      · refine .inr ?_
        split
        · exact stays_lenAt K.toStays _ _ _ (stays_bitAt K.toStays _ _ k3)
        · exact stays_lenAt K.toStays _ _ _ k3
  · refine .inr ?_
    unfold Go.Proofs.YtffehfpbdcokbaaDoor.repOf
    simp only
    split
    · split
      · exact stays_bitAt K.toStays _ _ h3
      · exact stays_lenAt K.toStays _ _ _ (stays_bitAt K.toStays _ _ h3)
    · split
      · exact stays_lenAt K.toStays _ _ _ (stays_bitAt K.toStays _ _ (stays_bitAt K.toStays _ _ h3))
      · exact stays_lenAt K.toStays _ _ _ (stays_bitAt K.toStays _ _ h3)
theorem sim_opOf (K : Sim co co' ρ β) (st p : Nat) (rep : Nat → Nat) {s : CP σ} {t : CP τ} (h : Pair ρ s t) : Res4 ρ β (opOf co st p rep s) (opOf co' st p rep t) := by
  rcases sim_bitAt K (200 + st) 0 h with ⟨h1, h2⟩ | h3
  · unfold Go.Proofs.YtffehfpbdcokbaaDoor.opOf
    simp only
    rw [h1]
    split
    · exact sim_repOf K _ _ _ h2
    · rcases sim_lenAt K 840 2 p h2 with ⟨l1, l2⟩ | l3
      · rw [l1]
        rcases sim_distAt K 0 (Lz.lenAt co' 840 2 p (Lz.bitAt co' (200 + st) 0 t).2).1 l2 with ⟨d1, d2⟩ | d3
        · exact .inl ⟨rfl, rfl, by simp only; rw [d1], d2⟩
        · exact .inr d3
      · exact .inr (stays_distAt K.toStays _ _ l3)
  · refine .inr ?_
    unfold Go.Proofs.YtffehfpbdcokbaaDoor.opOf
    simp only
    split
    · exact stays_repOf K.toStays _ _ _ h3
    · exact stays_distAt K.toStays _ _ (stays_lenAt K.toStays _ _ _ h3)
end
end Go.Proofs.YtffehfpbdcokbaaDoor.Lz
