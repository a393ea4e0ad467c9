/- Texts of this proof, put together: Stc. -/
import Derived.StillTailTactics
import Derived.Tactics2
set_option linter.unusedVariables false
set_option linter.unusedSimpArgs false
/- A drawn region whose first operations only read, then one call, then what only reads again (two results taken apart): one order is enough. No program in sight. -/
namespace Go.Proofs.YtffehfpbdcokbaaDoor
open Go
set_option linter.unusedVariables false
set_option linter.unusedSimpArgs false
section
variable {P : Program} {ops : Array Oper} {md : Region.Mode} {w : World}
/-- Each operation waits for earlier ones alone. -/
def fwdB (md : Region.Mode) (ops : Array Oper) : Bool :=
  (List.range ops.size).all fun j => match ops[j]? with
    | some o => o.after.all fun e => !Region.binds md e || decide (e.on < j)
    | none => true
/-- What stands behind the call waits for it, or for what stands behind it. -/
def rootB (md : Region.Mode) (ops : Array Oper) (n : Nat) : Bool :=
  (List.range ops.size).all fun t => decide (t ≤ n) || (List.range t).any fun j => decide (n ≤ j) && Region.waitsFor md ops t j
theorem fwdB_spec (h : fwdB md ops = true) {j : Nat} {o : Oper} (ho : ops[j]? = some o) {e} (he : e ∈ o.after) (hb : Region.binds md e = true) : e.on < j := by
  have h1 := List.all_eq_true.1 h j (List.mem_range.2 (Array.getElem?_eq_some_iff.1 ho).1)
  simp only [ho] at h1
  have h2 := Array.all_eq_true_iff_forall_mem.1 h1 e he
  simpa [hb] using h2
/-- While one of the first n is tq9 come, nothing behind them is ready. -/
theorem ready_head {n : Nat} {listed : Array Bool} (hs : Region.sinkB md ops n = true) (hr : rootB md ops n = true) (inv : HeadInv md ops n listed) {i : Nat} (hi : i < n) (hun : listed.getD i true = false)
    {t : Nat} (ht : t ∈ Region.ready md ops listed) : t < n := by
  rcases Nat.lt_or_ge t n with h | hge
  · exact h
  exfalso
  obtain ⟨_, ot, hot, hall⟩ := mem_ready.1 ht
  have htlt : t < ops.size := (Array.getElem?_eq_some_iff.1 hot).1
  by_cases htn : t = n
  · subst htn
    have key : ∀ d j, t - j = d → j < t → listed.getD j false = true := by
      intro d
      induction d using Nat.strongRecOn with
      | _ d ih =>
        intro j hd hj
        obtain ⟨q, hq, hq2⟩ := List.any_eq_true.1 (List.all_eq_true.1 hs j (List.mem_range.2 hj))
        simp only [Bool.and_eq_true, decide_eq_true_eq] at hq2
        obtain ⟨oq, hoq, e, he, hb, hon⟩ := Region.waitsFor_spec hq2.2
        have hqle := List.mem_range.1 hq
        rw [← hon]
        by_cases hqt : q = t
        · subst hqt
          have : oq = ot := Option.some.inj (hoq.symm.trans hot)
          subst this
          exact hall e he hb
        · exact inv.closed q oq hoq (ih (t - q) (by omega) q rfl (by omega)) e he hb
    have h2 := key _ i rfl hi
    rw [getD_both hun] at h2
    cases h2
  · have h1 := List.all_eq_true.1 hr t (List.mem_range.2 htlt)
    simp only [Bool.or_eq_true, decide_eq_true_eq] at h1
    rcases h1 with h1 | h1
    · omega
    · obtain ⟨q, hq, hq2⟩ := List.any_eq_true.1 h1
      simp only [Bool.and_eq_true, decide_eq_true_eq] at hq2
      obtain ⟨oq, hoq, e, he, hb, hon⟩ := Region.waitsFor_spec hq2.2
      have : oq = ot := Option.some.inj (hoq.symm.trans hot)
      subst this
      have h2 := hall e he hb
      have hql := List.mem_range.1 hq
      rw [hon, getD_both (inv.tail q hq2.1 (by omega))] at h2
      cases h2
/-- More fuel does no harm. -/
theorem wpAny_more {Q : Exit → Act → World → Prop} : ∀ (f : Nat) (listed : Array Bool) (a : Act) (w : World), wpAny P md ops Q f listed a w → wpAny P md ops Q (f + 1) listed a w
  | 0, listed, a, w, h => ⟨fun _ => h.2, fun i hi => by rw [h.1] at hi; cases hi⟩
  | f + 1, listed, a, w, h => ⟨h.1, fun i hi => wpOp_mono (fun a' w' => wpAny_more f _ a' w') (h.2 i hi)⟩
theorem wpAny_plus {Q : Exit → Act → World → Prop} {g : Nat} {listed : Array Bool} {a : Act} (h : wpAny P md ops Q g listed a w) : ∀ f, wpAny P md ops Q (f + g) listed a w
  | 0 => by rw [Nat.zero_add]; exact h
  | f + 1 => by rw [show f + 1 + g = (f + g) + 1 by omega]; exact wpAny_more _ _ _ _ (wpAny_plus h f)
/-- The first n are listed, no other. -/
def firstN (m n : Nat) : Array Bool := Array.ofFn (n := m) fun j => decide (j.val < n)
/-- All but the first n are listed. -/
def lastN' (m n : Nat) : Array Bool := Array.ofFn (n := m) fun j => decide (n ≤ j.val)
theorem head_any {n g : Nat} {Qe : Act → Prop} {Q : Exit → Act → World → Prop} (hf : fwdB md ops = true) (hs : Region.sinkB md ops n = true) (hr : rootB md ops n = true) (hn : n < ops.size)
    (hE : ∀ a, Qe a → wpAny P md ops Q g (firstN ops.size n) a w) :
    ∀ (f : Nat) (listed l1 : Array Bool) (a : Act), HeadInv md ops n listed → l1.size = ops.size → (∀ j d, j < n → l1.getD j d = listed.getD j d) → (∀ j, n ≤ j → l1.getD j true = true) →
      wpAnyS P md ops w Qe f l1 a → wpAny P md ops Q (f + g) listed a w := by
  have same : ∀ (listed l1 : Array Bool), HeadInv md ops n listed → (∀ j d, j < n → l1.getD j d = listed.getD j d) → (∀ j, n ≤ j → l1.getD j true = true) →
      ∀ i, (i < n ∧ i ∈ Region.ready md ops listed ↔ i ∈ Region.ready md ops l1) := by
    intro listed l1 inv h1 h2 i
    constructor
    · rintro ⟨hi, hm⟩
      obtain ⟨hu, o, ho, hall⟩ := mem_ready.1 hm
      exact mem_ready.2 ⟨(h1 i true hi).trans hu, o, ho, fun e he hb => (h1 e.on false (by have := fwdB_spec hf ho he hb; omega)).trans (hall e he hb)⟩
    · intro hm
      obtain ⟨hu, o, ho, hall⟩ := mem_ready.1 hm
      have hi : i < n := by
        rcases Nat.lt_or_ge i n with h | h
        · exact h
        · rw [h2 i h] at hu; cases hu
      exact ⟨hi, mem_ready.2 ⟨(h1 i true hi).symm.trans hu, o, ho, fun e he hb => (h1 e.on false (by have := fwdB_spec hf ho he hb; omega)).symm.trans (hall e he hb)⟩⟩
  have done : ∀ (listed l1 : Array Bool), HeadInv md ops n listed → (∀ j d, j < n → l1.getD j d = listed.getD j d) → (∀ j, n ≤ j → l1.getD j true = true) →
      Region.ready md ops l1 = [] → listed = firstN ops.size n := by
    intro listed l1 inv h1 h2 he
    have all : ∀ d i, i = d → i < n → listed.getD i false = true := by
      intro d
      induction d using Nat.strongRecOn with
      | _ d ih =>
        intro i hd hi
        cases hl : listed.getD i true with
        | true =>
          have hlt : i < listed.size := by rw [inv.size]; omega
          simp [hlt] at hl ⊢
          exact hl
        | false =>
          exfalso
          have hlt : i < ops.size := by omega
          have hm := mem_ready.2 ⟨(h1 i true hi).trans hl, ops[i], Array.getElem?_eq_getElem hlt, fun e he hb => by
            have hlt2 := fwdB_spec hf (Array.getElem?_eq_getElem hlt) he hb
            exact (h1 e.on false (by omega)).trans (ih e.on (by omega) e.on rfl (by omega))⟩
          rw [he] at hm
          cases hm
    apply Array.ext
    · simp [firstN, inv.size]
    · intro i hi1 hi2
      simp only [firstN, Array.getElem_ofFn]
      rcases Nat.lt_or_ge i n with h | h
      · have := all i i rfl h
        simp [hi1] at this
        simp [this, h]
      · have := inv.tail i h (by rw [← inv.size]; exact hi1)
        simp [hi1] at this
        rw [this]
        simp only [Bool.false_eq, decide_eq_false_iff_not]
        omega
  intro f
  induction f with
  | zero =>
    intro listed l1 a inv hsz h1 h2 h
    rw [done listed l1 inv h1 h2 h.1, Nat.zero_add]
    exact hE a h.2
  | succ f ih =>
    intro listed l1 a inv hsz h1 h2 h
    cases hrl : Region.ready md ops l1 with
    | nil =>
      rw [done listed l1 inv h1 h2 hrl]
      exact wpAny_plus (hE a (h.1 hrl)) _
    | cons x xs =>
      have hx : x ∈ Region.ready md ops l1 := by rw [hrl]; exact List.mem_cons_self
      have hx2 := (same listed l1 inv h1 h2 x).2 hx
      have hxu := (mem_ready.1 hx2.2).1
      rw [show f + 1 + g = (f + g) + 1 by omega]
      refine ⟨fun h0 => by rw [h0] at hx2; exact absurd hx2.2 (by simp), fun i hi => ?_⟩
      have hin : i < n := ready_head hs hr inv hx2.1 hxu hi
      have hil := (same listed l1 inv h1 h2 i).1 ⟨hin, hi⟩
      refine wpOp_of_stOp (fun a' h' => ih (listed.setIfInBounds i true) (l1.setIfInBounds i true) a' (inv.set hi hin) (by simp [hsz]) ?_ ?_ h') (h.2 i hil)
      · intro j d hj
        by_cases hij : i = j
        · subst hij
          have e1 : i < l1.size := by omega
          have e2 : i < listed.size := by rw [inv.size]; omega
          simp [e1, e2]
        · rw [getD_set_ne d hij, getD_set_ne d hij]; exact h1 j d hj
      · intro j hj
        rw [getD_set_ne true (by omega)]
        exact h2 j hj
theorem still_lex {n : Nat} {Qe : Act → Prop} (hsel : Region.noSelect ops = true) : ∀ (l : List Oper) (k : Nat) (listed : Array Bool) (a : Act), (∀ j, j < l.length → l[j]? = ops[k + j]?) →
    Region.lexFrom md ops l.length k listed = true → wpStill P ops w Qe l a → wpAnyS P md ops w Qe l.length listed a
  | [], _, _, _, _, hB, h => ⟨by simpa [Region.lexFrom] using hB, h⟩
  | o :: l, k, listed, a, hl, hB, h => by
    have h0 : ops[k]? = some o := by simpa using (hl 0 (by simp)).symm
    simp only [List.length_cons, Region.lexFrom, Bool.and_eq_true] at hB
    have hst : stOp P ops w k (wpStill P ops w Qe l) a := by unfold stOp; simp only [h0]; exact h
    obtain ⟨v, hy, hK⟩ := yieldsAt_of_stOp h0 hst
    exact wpAnyS_first h0 (Region.noSelect_spec hsel) l.length listed a (Region.free_spec h0 hB.1.2) (by simpa using hB.1.1) hy
      (still_lex (n := n) hsel l (k + 1) _ _ (fun j hj => by have := hl (j + 1) (by simp; omega); simpa [Nat.add_assoc, Nat.add_comm 1 j] using this) hB.2 hK)
/-- Behind the call: what only reads. -/
def tailQ (P : Program) (ops : Array Oper) (Q : Exit → Act → World → Prop) (l : List Oper) : Exit → Act → World → Prop
  | .normal, a, w => wpStill P ops w (fun a' => Q .normal a' w) l a
  | e, a, w => Q e a w
def stcB (md : Region.Mode) (ops : Array Oper) (n : Nat) : Bool :=
  Region.noSelect ops && decide (n < ops.size) && fwdB md ops && Region.sinkB md ops n && rootB md ops n && Region.lexFrom md ops n 0 (lastN' ops.size n) &&
    decide (Region.ready md ops (firstN ops.size n) = [n]) && Region.lexFrom md ops (ops.size - (n + 1)) (n + 1) ((firstN ops.size n).setIfInBounds n true)
theorem wp_of_tailQ {o : Oper} {a : Act} {K : Act → World → Prop} {Q : Exit → Act → World → Prop} {l : List Oper} (h : o.wp P a w K (tailQ P ops Q l)) : o.wp P a w K Q := by
  unfold Oper.wp at *
  generalize (execOp a.eval o).run P w = r at *
  cases r with
  | ok n w' =>
    cases n <;> simp only [Oper.upon] at h ⊢
    case enter f args => exact Calls.mono h (fun e w'' he => by cases e <;> exact he)
    all_goals exact h
  | halt x w' => cases x <;> simp only [Oper.upon] at h ⊢ <;> exact h
theorem wp_region_stc {id : Nat} {Q : Exit → Act → World → Prop} {a : Act} {w : World} {l : List Oper} (n : Nat) (hm : P.follows .mixedOrders = true) (hB : stcB .any l.toArray n = true)
    (h : wpStill P l.toArray { w with drawn := w.drawn + 1 } (fun a' => wpList P l.toArray (tailQ P l.toArray Q (l.drop (n + 1))) ((l.drop n).take 1) a' { w with drawn := w.drawn + 1 }) (l.take n) a) :
    (Code.region id l.toArray true).wp P Q a w := by
  simp only [stcB, Bool.and_eq_true, decide_eq_true_eq] at hB
  obtain ⟨⟨⟨⟨⟨⟨⟨hsel, hn⟩, hf⟩, hs⟩, hr⟩, hlex⟩, hcall⟩, htail⟩ := hB
  have hn' : n < l.length := by simpa using hn
  have htl : (l.take n).length = n := by simp; omega
  refine wp_region_any hm ?_
  have inv0 : HeadInv .any l.toArray n (Array.replicate l.toArray.size false) :=
    ⟨by simp, fun j oj _ hl => (by rw [getD_replicate_false] at hl; cases hl), fun t _ ht => getD_in (by simpa using ht) (getD_replicate_false _ _)⟩
  have H := still_lex (n := n) (md := .any) (w := { w with drawn := w.drawn + 1 }) hsel (l.take n) 0 (lastN' l.toArray.size n) a (fun j hj => by
    have hj' : j < n := by rw [htl] at hj; exact hj
    simp [hj']) (by rw [htl]; exact hlex) h
  rw [htl] at H
  have G := head_any (Q := Q) (g := l.toArray.size - (n + 1) + 1) hf hs hr hn (fun a' ha' => ?_) n (Array.replicate l.toArray.size false) (lastN' l.toArray.size n) a inv0 (by simp [lastN']) ?_ ?_ H
  · rw [show n + (l.toArray.size - (n + 1) + 1) = l.toArray.size by omega] at G
    exact G
  · have hdl : (l.drop (n + 1)).length = l.toArray.size - (n + 1) := by simp
    have ho : l[n]? = some l[n] := List.getElem?_eq_getElem hn'
    have e1 : (l.drop n).take 1 = [l[n]] := by
      rw [List.drop_eq_getElem_cons hn']; rfl
    rw [e1] at ha'
    refine ⟨fun h0 => (by rw [hcall] at h0; cases h0), fun i hi => ?_⟩
    rw [hcall] at hi
    have hin : i = n := by simpa using hi
    subst hin
    have hK : ∀ (a : Act) (w' : World), tailQ P l.toArray Q (l.drop (i + 1)) .normal a w' → wpAny P .any l.toArray Q (l.toArray.size - (i + 1)) ((firstN l.toArray.size i).setIfInBounds i true) a w' := by
      intro a w' ht
      have h2 := wpAnyS_lex (md := .any) hsel (l.drop (i + 1)) (i + 1) ((firstN l.toArray.size i).setIfInBounds i true) a (fun j => by simp [List.getElem?_drop]) (by rw [hdl]; exact htail) ht
      rw [hdl] at h2
      exact wpAny_of_still (fun _ h => h) _ _ _ h2
    have hwo : wpOp P l.toArray Q i (fun a w' => tailQ P l.toArray Q (l.drop (i + 1)) .normal a w') a' { w with drawn := w.drawn + 1 } := by
      unfold wpOp
      have h0 : l.toArray[i]? = some l[i] := by simp [ho]
      simp only [h0]
      unfold wpList at ha'
      split
      · rename_i hw
        simp only [hw, if_true] at ha'
        refine ha'.imp (fun h => wp_of_tailQ h) (fun h => ⟨h.1, ?_⟩)
        obtain ⟨a0, w0, h0⟩ := h.2
        exact ⟨a0, w0, h0⟩
      · rename_i hw
        simp only [hw] at ha'
        exact ha'
    exact wpOp_mono hK hwo
  · intro j d hj
    have e1 : j < l.toArray.size := by omega
    have e2 : j < (lastN' l.toArray.size n).size := by simpa [lastN'] using e1
    have e3 : j < (Array.replicate l.toArray.size false).size := by simpa using e1
    simp only [Array.getD_eq_getD_getElem?, Array.getElem?_eq_getElem e2, Array.getElem?_eq_getElem e3, Option.getD_some]
    simp [lastN']
    omega
  · intro j hj
    rcases Nat.lt_or_ge j l.toArray.size with e1 | e1
    · have e2 : j < (lastN' l.toArray.size n).size := by simpa [lastN'] using e1
      simp only [Array.getD_eq_getD_getElem?, Array.getElem?_eq_getElem e2, Option.getD_some]
      simp [lastN']
      omega
    · have e2 : (lastN' l.toArray.size n).size ≤ j := by simpa [lastN'] using e1
      simp only [Array.getD_eq_getD_getElem?, Array.getElem?_eq_none e2, Option.getD_none]
end
end Go.Proofs.YtffehfpbdcokbaaDoor
