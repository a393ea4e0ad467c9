/- A stream's head. -/
import Derived.Test.YtjhmebkkdgpneaaBoxT
namespace Go.Proofs.Ytjhmebkkdgpneaa
open Go.RowKit Box
set_option linter.unusedVariables false
set_option linter.unusedSimpArgs false
/-- Two bytes that tell a check. -/
def flagsOk (a b : UInt8) : Prop := a = 0 ∧ (b = 0 ∨ b = 1 ∨ b = 4)
instance (a b : UInt8) : Decidable (flagsOk a b) := by unfold flagsOk; exact inferInstance
theorem flags_ok (A : Option Addr) (a b : UInt8) (n c B : Nat) (cv : Value) (w : World) (hn : n = 2) (hr : BRow w B A [a, b]) (h : flagsOk a b) :
    Calls Try.prog 25 #[cv, .slice A n c] w fun e w' => e = .returned (.int .i64 (b.toNat : Int)) ∧ w = w' := by
  subst hn
  obtain ⟨rfl, hb⟩ := h
  obtain ⟨b0, off, rfl, hb0, hcell⟩ := hr (by simp)
  have k0 : w.cell? ⟨b0, off, none⟩ = some (.int .u8 0) := hcell 0 (by simp)
  have k1 : w.cell? ⟨b0, off + 1, none⟩ = some (.int .u8 (b.toNat : Int)) := hcell 1 (by simp)
  clear hcell hr
  have hbl := b.toNat_lt
  rcases hb with rfl | rfl | rfl
  all_goals
    try have k1 : w.cell? ⟨b0, off + 1, none⟩ = some (.int .u8 0) := k1
    try have k1 : w.cell? ⟨b0, off + 1, none⟩ = some (.int .u8 1) := k1
    try have k1 : w.cell? ⟨b0, off + 1, none⟩ = some (.int .u8 4) := k1
    go_enter Try.func25, Try.ntmps25
    go_wp2_with fail
    refine (must_ok _ _ _).mono ?_; rintro r w1 ⟨rfl, rfl⟩
    go_wp2
    go_ret
    exact ⟨rfl, rfl⟩
theorem nat_ne {a : UInt8} {k : Nat} (hk : k < 256) (h : ¬ a = UInt8.ofNat k) : ((a.toNat : Int) == (k : Int)) = false := by
  rw [beq_eq_false_iff_ne]
  intro e
  apply h
  have e2 : a.toNat = k := by omega
  rw [← e2, UInt8.ofNat_toNat]
theorem flags_bad (A : Option Addr) (a b : UInt8) (n c B : Nat) (cv : Value) (w : World) (hn : n = 2) (hr : BRow w B A [a, b]) (h : ¬ flagsOk a b) :
    Calls Try.prog 25 #[cv, .slice A n c] w fun e w' => e = .panicked [{ v := .iface 66 (.agg #[.int .i64 12]), recovered := false }] ∧ w = w' := by
  subst hn
  obtain ⟨b0, off, rfl, hb0, hcell⟩ := hr (by simp)
  have k0 : w.cell? ⟨b0, off, none⟩ = some (.int .u8 (a.toNat : Int)) := hcell 0 (by simp)
  have k1 : w.cell? ⟨b0, off + 1, none⟩ = some (.int .u8 (b.toNat : Int)) := hcell 1 (by simp)
  clear hcell hr
  by_cases ha : a = 0
  · have h0 : ¬ b = UInt8.ofNat 0 := fun e => h ⟨ha, .inl e⟩
    have h1 : ¬ b = UInt8.ofNat 1 := fun e => h ⟨ha, .inr (.inl e)⟩
    have h2 : ¬ b = UInt8.ofNat 4 := fun e => h ⟨ha, .inr (.inr e)⟩
    have p0 : ((b.toNat : Int) == 0) = false := nat_ne (k := 0) (by decide) h0
    have p1 : ((b.toNat : Int) == 1) = false := nat_ne (k := 1) (by decide) h1
    have p2 : ((b.toNat : Int) == 4) = false := nat_ne (k := 4) (by decide) h2
    subst ha
    have k0 : w.cell? ⟨b0, off, none⟩ = some (.int .u8 0) := k0
    generalize b.toNat = B1 at *
    clear h h0 h1 h2
    go_enter Try.func25, Try.ntmps25
    go_wp2_with fail
    refine (must_bad _ _ _).mono ?_; rintro r w1 ⟨rfl, rfl⟩
    go_wp2
    exact ⟨rfl, rfl, rfl⟩
  · have p0 : ((a.toNat : Int) == 0) = false := nat_ne (k := 0) (by decide) ha
    clear h ha
    generalize a.toNat = A1 at *
    generalize b.toNat = B1 at *
    go_enter Try.func25, Try.ntmps25
    go_wp2_with fail
    refine (must_bad _ _ _).mono ?_; rintro r w1 ⟨rfl, rfl⟩
    go_wp2
    exact ⟨rfl, rfl, rfl⟩
end Go.Proofs.Ytjhmebkkdgpneaa
