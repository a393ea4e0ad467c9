/- Texts of this proof, put together: WinC. -/
import Derived.Laws.CopyRow
import Derived.Test.YtffehfpbdcokbaaDoorBu10
set_option linter.unusedVariables false
set_option linter.unusedSimpArgs false
/- 'copy' of bytes into a row of the call's own, as a step of a region. -/
namespace Go.Proofs.YtffehfpbdcokbaaDoor
open Go.RowKit Win
set_option linter.unusedVariables false
set_option linter.unusedSimpArgs false

theorem over_map (R b : List UInt8) (a n : Nat) (X : List Value) (hX : X.take R.length = R.map byteV) (h1 : a + n ≤ R.length) (h2 : n ≤ b.length) :
    (X.take a ++ (b.take n).map byteV ++ X.drop (a + n)).take R.length = (over R b a n).map byteV := by
  have hXl : R.length ≤ X.length := by
    have := congrArg List.length hX
    rw [List.length_take, List.length_map] at this
    omega
  have l1 : (X.take a).length = a := by rw [List.length_take]; omega
  have l2 : ((b.take n).map byteV).length = n := by rw [List.length_map, List.length_take]; omega
  have e1 : X.take a = (R.take a).map byteV := by
    rw [List.map_take, ← hX, List.take_take]; congr 1; omega
  have e2 : (X.drop (a + n)).take (R.length - (a + n)) = (R.drop (a + n)).map byteV := by
    rw [List.map_drop, ← hX, List.drop_take]
  unfold over
  rw [List.map_append, List.map_append, ← e1, ← e2, List.take_append, List.take_of_length_le (by rw [List.length_append, l1, l2]; omega), List.length_append, l1, l2]

theorem run_copy_bytes {P : Program} (w : World) (t ty T base : Nat) (ht : P.underlying t = some (.slice T)) (hs1 : (P.info? T).map (·.size) = some 1) (g cap a : Nat) (R : List UInt8)
    (hown : OwnB w T base (.slice (some ⟨g, 0, none⟩) R.length cap) R) (ha : a < R.length) (A : Option Addr) (c B n : Nat) (news : List UInt8) (hnews : BRow w B A news) (h0 : 0 < news.length) (hn : n = min news.length (R.length - a)) (dc : Nat) :
    ∃ w', (Builtin.copy_ #[t, t] ty #[.slice (some ⟨g, a, none⟩) (R.length - a) dc, .slice A news.length c]).run P w = .ok (.int .i64 n) w' ∧ OwnB w' T base (.slice (some ⟨g, 0, none⟩) (over R news a n).length cap) (over R news a n) ∧ Frm (fun k => k = g) w w' := by
  obtain ⟨b, off, rfl, hb, hc⟩ := hnews h0
  obtain ⟨hl, hr⟩ := hown
  rcases hr with ⟨hv, _⟩ | ⟨g', cap', cur, hv, hbg, hh, hnc, hcm, hcs, ht'⟩
  · cases hv
  · injection hv with e1 e2 e3
    injection e1 with e1
    injection e1 with e1
    subst e1; subst e3
    simp only [Nat.mul_one] at ht' hcs
    have hnl : ((news.take n).map byteV).length = n := by rw [List.length_map, List.length_take]; omega
    have hrun := run_copy_row (P := P) w t t ty T g a (R.length - a) dc ⟨b, off, none⟩ news.length c cur T ((news.take n).map byteV) ht hs1 hh (by rw [hnl, hn]) (by
      intro j v hj
      rw [List.getElem?_map, List.getElem?_take] at hj
      by_cases hjn : j < n
      · rw [if_pos hjn] at hj
        obtain ⟨x, hx, rfl⟩ := Option.map_eq_some_iff.1 hj
        rw [Opn.add_at, hc j (by omega)]
        simp [List.getD, hx]
      · rw [if_neg hjn] at hj; simp at hj) (by rw [hnl]; omega) (oneCell_byte _)
    rw [hnl] at hrun
    refine ⟨_, hrun, ⟨by simp, .inr ⟨g, cap, _, rfl, hbg, setRow_heap w g cur _ T (0, 0) hh, ?_, hcm, ?_, ?_⟩⟩, ⟨rfl, rfl, rfl, by simp, fun k hk hne => setRow_other w g k _ hne⟩⟩
    · rw [over_length (by omega) (by omega)]; exact hnc
    · simp only [List.size_toArray, List.length_append, List.length_take, List.length_drop, hnl, Array.length_toList, Nat.mul_one]; omega
    · rw [Nat.mul_one, over_length (by omega) (by omega)]
      exact over_map R news a n cur.toList ht' (by omega) (by omega)

theorem step_copy_bytes {P : Program} (w : World) {ops : Array Oper} {o : Oper} {a : Act} {K : Act → World → Prop} {Q : Exit → Act → World → Prop} {E : Prop} (hg : o.guard = none) (s x : Operand) (t : TypeId)
    (ho : o.op = .call { callee := .builtin .copy, args := #[s, x], argTypes := #[t, t] })
    (T base : Nat) (ht : P.underlying t = some (.slice T)) (hs1 : (P.info? T).map (·.size) = some 1) (g cap at_ : Nat) (R : List UInt8) (dc : Nat) (hs : a.eval s = .slice (some ⟨g, at_, none⟩) (R.length - at_) dc)
    (hown : OwnB w T base (.slice (some ⟨g, 0, none⟩) R.length cap) R) (ha : at_ < R.length) (A : Option Addr) (m c B n : Nat) (news : List UInt8) (hx : a.eval x = .slice A m c) (hm : m = news.length) (hnews : BRow w B A news) (h0 : 0 < news.length) (hn : n = min news.length (R.length - at_))
    (h : ∀ w', OwnB w' T base (.slice (some ⟨g, 0, none⟩) (over R news at_ n).length cap) (over R news at_ n) → Frm (fun k => k = g) w w' → K (a.put o.dst (.int .i64 n)) w') :
    if Region.wanted o (yielded ops a.tmps) = true then Oper.wp P o a w K Q else E := by
  have hw : Region.wanted o (yielded ops a.tmps) = true := by simp [Region.wanted, hg]
  rw [if_pos hw]
  subst hm
  obtain ⟨w', hrun, h2, h3⟩ := run_copy_bytes (P := P) w t o.type T base ht hs1 g cap at_ R hown ha A c B n news hnews h0 hn dc
  unfold Oper.wp execOp
  simp only [ho, resolve, invoke, builtin, Sem.run_bind, Sem.run_pure, Result.andThen_ok, List.map_toArray, List.map_cons, List.map_nil, hs, hx, hrun]
  exact h w' h2 h3
end Go.Proofs.YtffehfpbdcokbaaDoor
