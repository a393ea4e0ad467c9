/- The decoder's contracts. -/
import Derived.Test.YteghpnlamdgpnaaChecked
import Derived.Test.YteghpnlamdgpnaaRngP
import Derived.Test.YteghpnlamdgpnaaQTail
import Derived.OwnWalk
import Derived.Lib.Hide
import Derived.StillTailTactics
import Derived.Deep.LoopGhost
namespace Go.Proofs.Yteghpnlamdgpnaa
open Go.RowKit Rng
set_option linter.unusedVariables false
set_option linter.unusedSimpArgs false

/-- A decoder at block b: type T its struct; what is still to be read lies in block rb. -/
structure DecAt (w : World) (T b rb : Nat) (d : Dec) : Prop where
  h : ∃ A c, Pts w b #[.slice A d.rest.length c, .int .u32 d.size, .int .u32 d.code, .bool d.want] T ∧ BRow w w.heap.size A d.rest ∧ BOff (· ≠ rb) A d.rest ∧ d.rest.length ≤ c ∧ c ≤ maxLen
  f : d.Fits
  n : rb ≠ b
theorem BOff.of_ne {A : Option Addr} {bs : List UInt8} {rb b : Nat} (h : BOff (· ≠ rb) A bs) (hn : rb ≠ b) : BOff (· = b) A bs := fun h0 ad e hk => h h0 ad e (fun e2 => hn (e2.symm.trans hk))

set_option maxRecDepth 100000 in
set_option maxHeartbeats 1000000 in
theorem dorder_p (b rb : Nat) (d : Dec) (w : World) (hd : DecAt w 90 b rb d) :
    Calls Try.prog 34 #[.pointer (some ⟨b, 0, none⟩)] w fun e w' => e = .returned (.tuple #[]) ∧ DecAt w' 90 b rb d.order ∧ Frm (· = b) w w' := by
  obtain ⟨⟨A, c, hp, hr, hoff0, hc, hcm⟩, hf, hrb⟩ := hd
  have hoff := hoff0.of_ne hrb
  obtain ⟨rest, s, k, wt⟩ := d
  obtain ⟨hs, hk⟩ := hf
  simp only at *
  have c0 : w.cell? ⟨b, 0, none⟩ = some (.slice A rest.length c) := by rw [hp.cell]; rfl
  have c1 : w.cell? ⟨b, 1, none⟩ = some (.int .u32 s) := by rw [hp.cell]; rfl
  have c2 : w.cell? ⟨b, 2, none⟩ = some (.int .u32 k) := by rw [hp.cell]; rfl
  have c3 : w.cell? ⟨b, 3, none⟩ = some (.bool wt) := by rw [hp.cell]; rfl
  have f0 := hp.frozen 0
  have f1 := hp.frozen 1
  have f2 := hp.frozen 2
  have f3 := hp.frozen 3
  have HP := Lib.hid hp
  have HR := Lib.hid hr
  have HO := Lib.hid hoff
  have HN0 := Lib.hid hoff0
  have HRB := Lib.hid hrb
  have HS := Lib.hid hs
  have HK := Lib.hid hk
  have hs' : (s : Int) < 4294967296 := by omega
  have hk' : (k : Int) < 4294967296 := by omega
  clear hp hr hoff hs hk hoff0 hrb
  by_cases h1 : 16777216 ≤ s
  · have H1 := Lib.hid h1
    have h1' : (16777216 : Int) ≤ s := by omega
    clear h1
    go_enter Try.func34, Try.ntmps34
    go_wp2
    refine bodyPost_ret (results_none rfl _ _ _) rfl ?_
    have e : Dec.order ⟨rest, s, k, wt⟩ = ⟨rest, s, k, wt⟩ := if_pos H1.out
    rw [e]
    exact ⟨rfl, ⟨⟨A, c, HP.out, HR.out, HN0.out, hc, hcm⟩, ⟨HS.out, HK.out⟩, HRB.out⟩, Frm.refl _ _⟩
  · have hd : decide ((16777216 : Int) ≤ s) = false := by simp; omega
    obtain ⟨s2, hs2⟩ : ∃ s2 : Nat, s * 256 = s2 := ⟨_, rfl⟩
    obtain ⟨k2, hk2⟩ : ∃ k2 : Nat, k * 256 % 4294967296 = k2 := ⟨_, rfl⟩
    have hw1 : IntKind.u32.wrap ((s : Int) * 256) = (s2 : Int) := by rw [IntKind.wrap_u32']; omega
    have hw2 : IntKind.u32.wrap ((k : Int) * 256) = (k2 : Int) := by rw [IntKind.wrap_u32']; omega
    have H1 := Lib.hid h1
    have HS2 := Lib.hid hs2
    have HK2 := Lib.hid hk2
    clear h1 hs' hk' hs2 hk2
    cases rest with
    | nil =>
      go_enter Try.func34, Try.ntmps34
      go_wp2
      refine bodyPost_ret (results_none rfl _ _ _) rfl ?_
      have e : Dec.order ⟨[], s, k, wt⟩ = ⟨[], s2, k2, true⟩ := by rw [← HS2.out, ← HK2.out]; exact if_neg H1.out
      have hfit : Dec.Fits ⟨[], s2, k2, true⟩ := by rw [← e]; exact (show Dec.Fits ⟨[], s, k, wt⟩ from ⟨HS.out, HK.out⟩).order
      rw [e]
      exact ⟨rfl, ⟨⟨A, c, ((HP.out.set 1 _).set 2 _).set 3 _, BRow.nil _ _ _, fun h => absurd h (by simp), hc, hcm⟩, hfit, HRB.out⟩, (((Frm.refl (· = b) w).setCell (by rfl) _).setCell (by rfl) _).setCell (by rfl) _⟩
    | cons x r =>
      obtain ⟨ab, aoff, rfl, hab, hcell⟩ := HR.out (by simp)
      have hne : ab ≠ b := HO.out (by simp) _ rfl
      have x0 : w.cell? ⟨ab, aoff, none⟩ = some (.int .u8 (x.toNat : Int)) := by have h := hcell 0 (by simp); simpa [byteV] using h
      have hx8 := x.toNat_lt
      have hor : bits .or .u32 (k2 : Int) (x.toNat : Int) = ((k2 + x.toNat : Nat) : Int) := or_raw (by have := HK2.out; omega) (by have := HK2.out; omega) hx8
      obtain ⟨k3, hk3⟩ : ∃ k3, k2 + x.toNat = k3 := ⟨_, rfl⟩
      rw [hk3] at hor
      have HK3 := Lib.hid hk3
      obtain ⟨A2, hA2⟩ : ∃ A2 : Option Addr, (if c = 1 then some ⟨ab, aoff, none⟩ else (some (⟨ab, aoff, none⟩ : Addr)).map (·.add 1)) = A2 := ⟨_, rfl⟩
      have hrow2 : BRow w w.heap.size A2 r := by
        have h := HR.out.drop (k := 1) (cap := c) hc
        rw [hA2] at h
        exact h
      have hneN : ¬ (ab ≠ rb) := HN0.out (by simp) _ rfl
      have hoff2 : BOff (· ≠ rb) A2 r := by
        intro h0 ad e
        rw [← hA2] at e
        split at e <;> (simp [Addr.add] at e; rw [← e]; exact hneN)
      have hc1 : r.length ≤ c - 1 ∧ c - 1 ≤ maxLen := by simp at hc; omega
      have HA2 := Lib.hid hA2
      have HR2 := Lib.hid hrow2
      have HO2 := Lib.hid hoff2
      have HC1 := Lib.hid hc1
      have hwx : IntKind.u32.wrap (x.toNat : Int) = (x.toNat : Int) := by rw [IntKind.wrap_u32']; omega
      generalize hxx : x.toNat = xn at *
      clear hcell hk3 hA2 hrow2 hx8 hoff2 hc1 hneN
      have hcc : c = 1 ∨ ¬ c = 1 := by omega
      rcases hcc with hcc | hcc
      all_goals
        go_enter Try.func34, Try.ntmps34
        go_wp2
        have P2 := (HP.out.set 1 (.int .u32 s2)).set 2 (.int .u32 k2)
        have F2 := ((Frm.refl (· = b) w).setCell (p := ⟨b, 1, none⟩) (by rfl) (.int .u32 s2)).setCell (p := ⟨b, 2, none⟩) (by rfl) (.int .u32 k2)
        have hsz : ((w.setCell ⟨b, 1, none⟩ (.int .u32 s2)).setCell ⟨b, 2, none⟩ (.int .u32 k2)).heap.size = w.heap.size := by simp
        have x2 : ((w.setCell ⟨b, 1, none⟩ (.int .u32 s2)).setCell ⟨b, 2, none⟩ (.int .u32 k2)).cell? ⟨ab, aoff, none⟩ = some (.int .u8 (xn : Int)) := by
          rw [World.cell?_of_block (F2.block ab hab hne)]; exact x0
        generalize (w.setCell ⟨b, 1, none⟩ (.int .u32 s2)).setCell ⟨b, 2, none⟩ (.int .u32 k2) = w2 at *
        have d0 : w2.cell? ⟨b, 0, none⟩ = some (.slice (some ⟨ab, aoff, none⟩) (r.length + 1) c) := by rw [P2.cell]; rfl
        have d2 : w2.cell? ⟨b, 2, none⟩ = some (.int .u32 k2) := by rw [P2.cell]; rfl
        have g0 := P2.frozen 0
        have g2 := P2.frozen 2
        have PP2 := Lib.hid P2
        have FF2 := Lib.hid F2
        clear P2 F2 c0 c1 c2 c3 f0 f1 f2 f3 x0
        go_still_tail 14, (by kernel_rfl)
        change wpList _ _ _ _ _ w2.drew
        go_wp2
        go_end0
        have e : Dec.order ⟨x :: r, s, k, wt⟩ = ⟨r, s2, k3, wt⟩ := by rw [← HS2.out, ← HK3.out, ← HK2.out, ← hxx]; exact if_neg H1.out
        have hfit : Dec.Fits ⟨r, s2, k3, wt⟩ := by rw [← e]; exact (show Dec.Fits ⟨x :: r, s, k, wt⟩ from ⟨HS.out, HK.out⟩).order
        rw [e]
        have h2 := HA2.out
        first
          | (rw [if_pos hcc] at h2)
          | rw [if_neg hcc, Option.map_some, Opn.add_at] at h2
        subst h2
        have F4 := fun v => ((FF2.out.setCell (p := ⟨b, 2, none⟩) (by rfl) (.int .u32 k3)).setCell (p := ⟨b, 0, none⟩) (by rfl) v).drew
        refine ⟨rfl, ⟨⟨_, _, ((PP2.out.set 2 (.int .u32 k3)).set 0 _).drew, ?_, HO2.out, by have := HC1.out; simp only; omega, by have := HC1.out; omega⟩, hfit, HRB.out⟩, F4 _⟩
        exact (HR2.out.off (HO2.out.of_ne HRB.out) (F4 _)).more (F4 _).size
end Go.Proofs.Yteghpnlamdgpnaa
