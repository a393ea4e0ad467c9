/- What is copied, out of all that was put, in plain Lean. -/
import Derived.Test.YtjeaepkncboodaaWinN
import Derived.Test.YtjeaepkncboodaaWinL
namespace Go.Proofs.Ytjeaepkncboodaa.Win
open Go.RowKit
set_option linter.unusedVariables false
set_option linter.unusedSimpArgs false
theorem cyc_getD (C : List UInt8) {back n t : Nat} (h : t < n) : (cyc C back n).getD t 0 = C.getD (C.length - back + t % back) 0 := by
  unfold cyc
  simp [List.getD, h]
theorem cyc_last {S back n : Nat} {all : List UInt8} (h1 : 1 ≤ back) (h2 : back ≤ S) (h3 : back ≤ all.length) : cyc (lastN S all) back n = cyc all back n := by
  apply List.ext_getElem
  · simp [cyc]
  · intro t ht1 ht2
    rw [cyc_length] at ht1
    have hr : t % back < back := Nat.mod_lt _ h1
    have e1 := cyc_getD (lastN S all) (back := back) ht1
    have e2 := cyc_getD all (back := back) ht1
    simp only [List.getD] at e1 e2
    rw [List.getElem?_eq_getElem (by rw [cyc_length]; exact ht1)] at e1 e2
    simp only [Option.getD_some] at e1 e2
    rw [e1, e2, lastN_length]
    unfold lastN
    rw [List.getElem?_drop]
    congr 2
    omega
theorem copy_step {back n k : Nat} {all : List UInt8} (h1 : 1 ≤ back) (h3 : back ≤ all.length) (hk : k < n) : (all ++ (cyc all back n).take k).getD (all.length + k - back) 0 = (cyc all back n).getD k 0 := by
  have hr : k % back < back := Nat.mod_lt _ h1
  rw [cyc_getD all hk]
  by_cases hb : k < back
  · rw [Nat.mod_eq_of_lt hb]
    simp only [List.getD]
    rw [List.getElem?_append_left (by omega)]
    congr 2
    omega
  · have e : (all ++ (cyc all back n).take k).getD (all.length + k - back) 0 = (cyc all back n).getD (k - back) 0 := by
      simp only [List.getD]
      rw [List.getElem?_append_right (by omega), List.getElem?_take, if_pos (by omega)]
      congr 2
      omega
    rw [e, cyc_getD all (by omega)]
    congr 2
    have : (k - back + back) % back = (k - back) % back := Nat.add_mod_right _ _
    rw [show k - back + back = k by omega] at this
    exact this.symm
theorem take_snoc {l : List UInt8} {k : Nat} (h : k < l.length) : l.take k ++ [l.getD k 0] = l.take (k + 1) := by
  rw [List.take_succ_eq_append_getElem h]; simp [List.getD, h]
/-- What a window tells is far enough back: whether it may. -/
theorem back_may {S a back : Nat} {R all : List UInt8} (hc : content R a = lastN S all) : back ≤ R.length ↔ back ≤ S ∧ back ≤ all.length := by
  have h := congrArg List.length hc
  rw [content_length, lastN_length] at h
  omega
end Go.Proofs.Ytjeaepkncboodaa.Win
namespace Go.Proofs.Ytjeaepkncboodaa
open Go.RowKit Win
theorem OwnB.slice_row {w : World} {T base n c : Nat} {A : Option Addr} {bs : List UInt8} (h : OwnB w T base (.slice A n c) bs) (h0 : 0 < bs.length) : ∃ b off, A = some ⟨b, off, none⟩ ∧ b < w.heap.size ∧ ∀ k, k < bs.length → w.cell? ⟨b, off + k, none⟩ = some (byteV (bs.getD k 0)) := by
  obtain ⟨A', c', e, _, _, hr⟩ := h.slice
  injection e with e1 e2 e3
  subst e1
  exact hr h0
theorem WinAt.frm {N : Nat → Prop} {w w' : World} {base b k S : Nat} {v : Value} {R : List UInt8} {a : Nat} (h : WinAt w base b k S v R a) (hf : Frm N w w') (hb : ¬ N b) (hv : ∀ q, v.ownBlock = some q → ¬ N q) : WinAt w' base b k S v R a :=
  ⟨h.p.frm hf hb, h.o.frm hf hv, h.n, h.lt, h.z⟩
end Go.Proofs.Ytjeaepkncboodaa
