/- great: whether acts are many or much. -/
import Derived.Test.YtjeaepkncboodaaActs
namespace Go.Proofs.Ytjeaepkncboodaa
open Go.RowKit Win
set_option linter.unusedVariables false
set_option linter.unusedSimpArgs false

/-- The answer of great: where it is no, the acts are few and little. -/
def GreatP (l : List WAct) (e : Ending) : Prop := ∃ g : Bool, e = .returned (.bool g) ∧ (g = false → l.length ≤ 200 ∧ muchs l ≤ 65536)
theorem GreatP.mk (l : List WAct) (g : Bool) (h : g = false → l.length ≤ 200 ∧ muchs l ≤ 65536) : GreatP l (.returned (.bool g)) := ⟨g, rfl, h⟩
set_option maxRecDepth 100000 in
set_option maxHeartbeats 1000000 in
theorem great_any (A : Option Addr) (l : List WAct) (ln c B : Nat) (w : World) (hln : ln = l.length) (hr : ActRow w B A l) (hf : ∀ s ∈ l, s.Fits w B ∧ s.bs.length ≤ 140737488355328) (hc : l.length ≤ c) (hcm : c ≤ maxLen) :
    Calls Try.prog 7 #[.slice A ln c] w fun e w' => GreatP l e ∧ w = w' := by
  subst hln
  have HR := Lib.hid hr
  have HF := Lib.hid hf
  clear hr hf
  go_enter Try.func7, Try.ntmps7
  go_wp2
  go_loopw [3, 4] (fun nv iv wr => ∃ (i N : Nat), iv = .int .i64 i ∧ nv = .int .i64 N ∧ i ≤ l.length ∧ i ≤ 201 ∧ N = muchs (l.take i) ∧ N ≤ 140737505198080 ∧ w = wr) (fun _ iv _ => l.length - (intOf iv).toNat)
  case atStart => exact ⟨0, 0, rfl, rfl, by omega, by omega, by simp [muchs_nil], by omega, rfl⟩
  case round =>
    obtain ⟨i, N, rfl, rfl, hi, hi2, hN, hN2, rfl⟩ := hrel
    have hgo : (i < l.length ∧ i ≤ 200 ∧ N ≤ 65536) ∨ (l.length = i) ∨ (i < l.length ∧ i = 201) ∨ (i < l.length ∧ i ≤ 200 ∧ 65536 < N) := by omega
    rcases hgo with ⟨g1, g2, g3⟩ | hgo
    · obtain ⟨b, off, rfl, hb, hcell⟩ := HR.out (by omega)
      obtain ⟨c0, c1, c2, c3⟩ := hcell i g1
      have hx : l.getD i default ∈ l := by rw [List.getD, List.getElem?_eq_getElem g1]; exact List.getElem_mem g1
      have hmu := muchs_take g1
      obtain ⟨hfit, hbs⟩ := HF.out _ hx
      obtain ⟨⟨d, A1, bs, cap, back, n⟩, hxx⟩ : ∃ x, l.getD i default = x := ⟨_, rfl⟩
      rw [hxx] at c0 c1 c2 c3 hfit hmu hbs
      obtain ⟨d1, d2⟩ := hfit.d
      obtain ⟨d3, d4⟩ := hfit.c
      obtain ⟨d5, d6⟩ := hfit.n
      simp only at c0 c1 c2 c3 d1 d2 d3 d4 d5 d6 hbs
      clear hcell hfit hxx hx c2
      have HMU := Lib.hid hmu
      clear hmu
      by_cases hn1 : 0 < n
      · by_cases hn2 : n ≤ 16777216
        · obtain ⟨n, rfl⟩ : ∃ k : Nat, n = k := ⟨n.toNat, by omega⟩
          go_wp2
          refine ⟨⟨i + 1, N + bs.length + n, by go_num, by go_num, by omega, by omega, ?_, by omega, trivial⟩, by simp [intOf]; omega⟩
          rw [HMU.out, ← hN, WAct.much, if_pos ⟨hn1, hn2⟩]; simp; omega
        · go_wp2
          refine ⟨⟨i + 1, N + bs.length, by go_num, by go_num, by omega, by omega, ?_, by omega, trivial⟩, by simp [intOf]; omega⟩
          rw [HMU.out, ← hN, WAct.much, if_neg (fun h => hn2 h.2)]; simp
      · go_wp2
        refine ⟨⟨i + 1, N + bs.length, by go_num, by go_num, by omega, by omega, ?_, by omega, trivial⟩, by simp [intOf]; omega⟩
        rw [HMU.out, ← hN, WAct.much, if_neg (fun h => hn1 h.1)]; simp
    · clear HR HF
      have hex : l.length ≤ 200 → N ≤ 65536 → l.length = i := by omega
      have HEX := Lib.hid hex
      have HN := Lib.hid hN
      clear hex hN
      rcases hgo with hgo | ⟨hgo, hgo2⟩ | ⟨hgo, hgo2, hgo3⟩
      all_goals
        by_cases hl : l.length ≤ 200
        all_goals first
          | (exfalso; omega; done)
          | (go_wp2
             go_ret
             refine ⟨GreatP.mk _ _ fun hg => ?_, rfl⟩
             simp at hg <;> first
               | (exfalso; omega; done)
               | (have h9 := HEX.out (by omega) (by omega)
                  refine ⟨by omega, ?_⟩
                  have h8 := HN.out
                  rw [← h9, List.take_length] at h8
                  omega))
end Go.Proofs.Ytjeaepkncboodaa
