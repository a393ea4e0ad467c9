/- Texts of this proof, put together: Ht, LsA. -/
import Derived.OrdersHeld
import Derived.Maps.AppendAt
import Derived.Test.YtffehfpbdcokbaaDoorBu24
import Derived.Test.YtffehfpbdcokbaaDoorBu25
set_option linter.unusedVariables false
set_option linter.unusedSimpArgs false
/- A drawn region whose last operations come in one forced order, behind all others: the others in whatever order, under a condition on the world that needs tq9 hold no longer when the last ones begin. No program in sight. -/
namespace Go.Proofs.YtffehfpbdcokbaaDoor
open Go
set_option linter.unusedVariables false
set_option linter.unusedSimpArgs false
section
variable {P : Program} {ops : Array Oper} {md : Region.Mode} {S : World → Prop}
def tailH (P : Program) (ops : Array Oper) (Q : Exit → Act → World → Prop) (l : List Oper) : Exit → Act → World → Prop
  | .normal, a, w => wpList P ops Q l a w
  | e, a, w => Q e a w
theorem wp_of_tailH {Q : Exit → Act → World → Prop} {o : Oper} {a : Act} {w : World} {K : Act → World → Prop} {l : List Oper} (h : o.wp P a w K (tailH P ops Q l)) : o.wp P a w K Q := by
  unfold Oper.wp at *
  generalize (execOp a.eval o).run P w = r at *
  cases r with
  | ok n w' =>
    cases n <;> simp only [Oper.upon] at h ⊢
    case enter f args => exact Calls.mono h (fun e w'' he => by cases e <;> exact he)
    all_goals exact h
  | halt x w' => cases x <;> simp only [Oper.upon] at h ⊢ <;> exact h
theorem wpOp_tailH {Q : Exit → Act → World → Prop} {i : Nat} {a : Act} {w : World} {K : Act → World → Prop} {l : List Oper} (h : wpOp P ops (tailH P ops Q l) i K a w) : wpOp P ops Q i K a w := by
  unfold wpOp at *
  cases ho : ops[i]? with
  | none => simp only [ho] at h ⊢; exact h
  | some o =>
    simp only [ho] at h ⊢
    split
    · rename_i hw
      simp only [hw, if_true] at h
      exact h.imp wp_of_tailH (fun h2 => ⟨h2.1, h2.2⟩)
    · rename_i hw
      simp only [hw] at h
      exact h
theorem head_anyH {n g : Nat} {Q : Exit → Act → World → Prop} {l : List Oper} (hf : fwdB md ops = true) (hs : Region.sinkB md ops n = true) (hc : Region.chainB md ops n = true) (hn : n < ops.size)
    (hE : ∀ a w, wpList P ops Q l a w → wpAny P md ops Q g (firstN ops.size n) a w) :
    ∀ (f : Nat) (listed l1 : Array Bool) (a : Act) (w : World), HeadInv md ops n listed → l1.size = ops.size → (∀ j d, j < n → l1.getD j d = listed.getD j d) → (∀ j, n ≤ j → l1.getD j true = true) →
      wpAnyH P md ops (tailH P ops Q l) S f l1 a w → wpAny P md ops Q (f + g) listed a w := by
  have same : ∀ (listed l1 : Array Bool), HeadInv md ops n listed → (∀ j d, j < n → l1.getD j d = listed.getD j d) → (∀ j, n ≤ j → l1.getD j true = true) →
      ∀ i, (i < n ∧ i ∈ Region.ready md ops listed ↔ i ∈ Region.ready md ops l1) := by
    intro listed l1 inv h1 h2 i
    constructor
    · rintro ⟨hi, hm⟩
      obtain ⟨hu, o, ho, hall⟩ := mem_ready.1 hm
      exact mem_ready.2 ⟨(h1 i true hi).trans hu, o, ho, fun e he hb => (h1 e.on false (by have := fwdB_spec hf ho he hb; omega)).trans (hall e he hb)⟩
    · intro hm
      obtain ⟨hu, o, ho, hall⟩ := mem_ready.1 hm
      have hi : i < n := by
        rcases Nat.lt_or_ge i n with h | h
        · exact h
        · rw [h2 i h] at hu; cases hu
      exact ⟨hi, mem_ready.2 ⟨(h1 i true hi).symm.trans hu, o, ho, fun e he hb => (h1 e.on false (by have := fwdB_spec hf ho he hb; omega)).symm.trans (hall e he hb)⟩⟩
  have done : ∀ (listed l1 : Array Bool), HeadInv md ops n listed → (∀ j d, j < n → l1.getD j d = listed.getD j d) → (∀ j, n ≤ j → l1.getD j true = true) →
      Region.ready md ops l1 = [] → listed = firstN ops.size n := by
    intro listed l1 inv h1 h2 he
    have all : ∀ d i, i = d → i < n → listed.getD i false = true := by
      intro d
      induction d using Nat.strongRecOn with
      | _ d ih =>
        intro i hd hi
        cases hl : listed.getD i true with
        | true =>
          have hlt : i < listed.size := by rw [inv.size]; omega
          simp [hlt] at hl ⊢
          exact hl
        | false =>
          exfalso
          have hlt : i < ops.size := by omega
          have hm := mem_ready.2 ⟨(h1 i true hi).trans hl, ops[i], Array.getElem?_eq_getElem hlt, fun e he hb => by
            have hlt2 := fwdB_spec hf (Array.getElem?_eq_getElem hlt) he hb
            exact (h1 e.on false (by omega)).trans (ih e.on (by omega) e.on rfl (by omega))⟩
          rw [he] at hm
          cases hm
    apply Array.ext
    · simp [firstN, inv.size]
    · intro i hi1 hi2
      simp only [firstN, Array.getElem_ofFn]
      rcases Nat.lt_or_ge i n with h | h
      · have := all i i rfl h
        simp [hi1] at this
        simp [this, h]
      · have := inv.tail i h (by rw [← inv.size]; exact hi1)
        simp [hi1] at this
        rw [this]
        simp only [Bool.false_eq, decide_eq_false_iff_not]
        omega
  intro f
  induction f with
  | zero =>
    intro listed l1 a w inv hsz h1 h2 h
    rw [done listed l1 inv h1 h2 h.1, Nat.zero_add]
    exact hE a w h.2
  | succ f ih =>
    intro listed l1 a w inv hsz h1 h2 h
    cases hrl : Region.ready md ops l1 with
    | nil =>
      rw [done listed l1 inv h1 h2 hrl]
      exact wpAny_plus (hE a w (h.1 hrl)) _
    | cons x xs =>
      have hx : x ∈ Region.ready md ops l1 := by rw [hrl]; exact List.mem_cons_self
      have hx2 := (same listed l1 inv h1 h2 x).2 hx
      have hxu := (mem_ready.1 hx2.2).1
      rw [show f + 1 + g = (f + g) + 1 by omega]
      refine ⟨fun h0 => by rw [h0] at hx2; exact absurd hx2.2 (by simp), fun i hi => ?_⟩
      have hin : i < n := by
        rcases Nat.lt_or_ge i n with h3 | h3
        · exact h3
        · exact absurd hi (tail_waits hs hc hn inv _ x rfl hx2.1 hxu i h3)
      have hil := (same listed l1 inv h1 h2 i).1 ⟨hin, hi⟩
      refine wpOp_mono (fun a' w' h' => ih (listed.setIfInBounds i true) (l1.setIfInBounds i true) a' w' (inv.set hi hin) (by simp [hsz]) ?_ ?_ h'.2) (wpOp_tailH (h.2 i hil))
      · intro j d hj
        by_cases hij : i = j
        · subst hij
          have e1 : i < l1.size := by omega
          have e2 : i < listed.size := by rw [inv.size]; omega
          simp [e1, e2]
        · rw [getD_set_ne d hij, getD_set_ne d hij]; exact h1 j d hj
      · intro j hj
        rw [getD_set_ne true (by omega)]
        exact h2 j hj
def headTB (md : Region.Mode) (ops : Array Oper) (n : Nat) : Bool :=
  decide (n < ops.size) && fwdB md ops && Region.sinkB md ops n && Region.chainB md ops n && Region.seqB md ops (ops.size - n) n (firstN ops.size n)
theorem wp_region_headH {id : Nat} {Q : Exit → Act → World → Prop} {a : Act} {w : World} {l : List Oper} (n : Nat) (S : World → Prop) (hm : P.follows .mixedOrders = true) (hB : headTB .any l.toArray n = true)
    (h : wpAnyH P .any l.toArray (tailH P l.toArray Q (l.drop n)) S n (lastN' l.toArray.size n) a w.drew) : (Code.region id l.toArray true).wp P Q a w := by
  simp only [headTB, Bool.and_eq_true, decide_eq_true_eq] at hB
  obtain ⟨⟨⟨⟨hn, hf⟩, hs⟩, hc⟩, hseq⟩ := hB
  have hn' : n < l.length := by simpa using hn
  have hdl : (l.drop n).length = l.toArray.size - n := by simp
  refine wp_region_any hm ?_
  have inv0 : HeadInv .any l.toArray n (Array.replicate l.toArray.size false) :=
    ⟨by simp, fun j oj _ hl => (by rw [getD_replicate_false] at hl; cases hl), fun t _ ht => getD_in (by simpa using ht) (getD_replicate_false _ _)⟩
  have G := head_anyH (P := P) (Q := Q) (S := S) (l := l.drop n) (g := l.toArray.size - n) hf hs hc hn (fun a' w' h' => by
    have := wpAny_of_seq (md := .any) (Q' := Q) (l.drop n) n (firstN l.toArray.size n) a' w' (fun j => by simp [List.getElem?_drop]) (by rw [hdl]; exact hseq) h'
    rwa [hdl] at this) n (Array.replicate l.toArray.size false) (lastN' l.toArray.size n) a w.drew inv0 (by simp [lastN']) ?_ ?_ h
  · rw [show n + (l.toArray.size - n) = l.toArray.size by omega] at G
    exact G
  · intro j d hj
    have h1 : j < l.length := by omega
    simp [lastN', h1]
    omega
  · intro j hj
    by_cases h1 : j < l.length
    · simp [lastN', h1]
      omega
    · simp [lastN', h1]
end
end Go.Proofs.YtffehfpbdcokbaaDoor

/- LzmaSame: what a chunk answers hangs on its bytes and numbers, the state and the window alone; an error's text. -/
namespace Go.Proofs.YtffehfpbdcokbaaDoor
open Go.RowKit Rng Lz Win
set_option linter.unusedVariables false
set_option linter.unusedSimpArgs false
theorem chunkOf_invS {k : LK} {S total n st : Nat} {rep : Nat → Nat} {pr : Pr} {C bs t : List UInt8} {y : RS} (hst : st < 12) (hrep : ∀ j, rep j < 4294967296) (h : chunkOf k S total n st rep pr C bs = some (t, y)) : y.Ok ∧ t.length = n := by
  unfold chunkOf at h
  split at h
  · cases h
  · split at h
    · cases h
    · rename_i told x hx
      split at h
      · injection h with h
        injection h with h1 h2
        subst h1 h2
        have hi := chunkGo_inv _ (x := ⟨st, rep, ⟨newDec bs, pr⟩, C⟩) ⟨hst, hrep⟩ (by simp) hx
        exact ⟨hi.1, hi.2.1⟩
      · cases h
/-- How a chunk ends, whatever its state lies in. -/
def SameEnd (T : List UInt8) (z st : Nat) (rep : Nat → Nat) (pr : Pr) (S : Nat) (C : List UInt8) (b lb base wb kb : Nat) (wv : Value) (w : World) (e : Ending) (w' : World) : Prop :=
  Frm (fun q => q = b ∨ q = lb ∨ q = wb ∨ wv.ownBlock = some q) w w' ∧
  (∃ At ct, e = .returned (.tuple #[.slice At T.length ct, .int .i64 (z : Int)]) ∧ BRow w' w'.heap.size At T) ∧
  (z ≠ 11 → ∃ wv', StAt w' (newK b lb) st rep pr ∧ WinC w' base wb kb S C wv' ∧ Mv w wv wv')
/-- A chunk's answer, of any numbers. -/
theorem same_chunk (total n : Int) (st : Nat) (rep : Nat → Nat) (pr : Pr) (S : Nat) (C bs : List UInt8) (hst : st < 12) (hrep : ∀ j, rep j < 4294967296) (hS : S ≤ 16777216) (ht : total ≤ 9223372036854775807) (hlen : bs.length ≤ 140737488355328) :
    ∃ (T : List UInt8) (z st' : Nat) (rep' : Nat → Nat) (pr' : Pr) (C' : List UInt8), (z = 0 ∨ z = 2 ∨ z = 11) ∧ T.length ≤ 2097152 ∧ st' < 12 ∧ (∀ j, rep' j < 4294967296) ∧
      ∀ (b lb base wb kb : Nat) (wv : Value) (A : Option Addr) (l c : Nat) (w : World), StAt w (newK b lb) st rep pr → WinC w base wb kb S C wv → base ≤ w.heap.size → l = bs.length → BRow w w.heap.size A bs → bs.length ≤ c → c ≤ maxLen →
        Calls Tryd.prog 7 #[.pointer (some ⟨b, 0, none⟩), .pointer (some ⟨wb, 0, none⟩), .int .i64 total, .slice A l c, .int .i64 n] w (SameEnd T z st' rep' pr' S C' b lb base wb kb wv w) := by
  by_cases hbad : n < 1 ∨ 2097152 < n ∨ total < 0
  · refine ⟨[], 2, st, rep, pr, C, .inr (.inl rfl), by simp, hst, hrep, ?_⟩
    intro b lb base wb kb wv A l c w hs hw hb hl hr hc hcm
    refine (chunk_arg w _ _ total n A l c hbad).mono ?_
    rintro e w' ⟨rfl, hB⟩
    exact ⟨(Frm.of_below (S := fun _ => False) hB).mono fun _ _ h => h.elim, ⟨none, 0, rfl, BRow.nil _ _ _⟩, fun _ => ⟨wv, hs.later hB, hw.later hB, Mv.same _ _⟩⟩
  · obtain ⟨N, rfl⟩ : ∃ N : Nat, n = (N : Int) := ⟨n.toNat, by omega⟩
    obtain ⟨TT, rfl⟩ : ∃ N : Nat, total = (N : Int) := ⟨total.toNat, by omega⟩
    cases hR : chunkOf (newK 0 0) S TT N st rep pr C bs with
    | none =>
      refine ⟨[], 11, st, rep, pr, C, .inr (.inr rfl), by simp, hst, hrep, ?_⟩
      intro b lb base wb kb wv A l c w hs hw hb hl hr hc hcm
      refine (chunk_p (newK b lb) st rep pr base wb kb S C bs wv A N c l TT w hs hw hb hS (newK_ok _ _) hst hrep hl hr hc hcm hlen (by omega) (by omega) (by omega)).mono ?_
      rintro e w' ⟨hf, (⟨hn, rfl⟩ | ⟨told, y, tv, wv', hx, _⟩)⟩
      · exact ⟨hf, ⟨none, 0, rfl, BRow.nil _ _ _⟩, fun k => absurd rfl k⟩
      · rw [chunkOf_k (k := newK b lb) (k' := newK 0 0) ⟨rfl, rfl, rfl⟩, hR] at hx
        cases hx
    | some p =>
      obtain ⟨told, y⟩ := p
      have hy := chunkOf_invS hst hrep hR
      refine ⟨told, 0, y.st, y.rep, y.s.pr, y.C, .inl rfl, by rw [hy.2]; omega, hy.1.st, hy.1.rep, ?_⟩
      intro b lb base wb kb wv A l c w hs hw hb hl hr hc hcm
      refine (chunk_p (newK b lb) st rep pr base wb kb S C bs wv A N c l TT w hs hw hb hS (newK_ok _ _) hst hrep hl hr hc hcm hlen (by omega) (by omega) (by omega)).mono ?_
      rintro e w' ⟨hf, (⟨hn, rfl⟩ | ⟨told', y', tv, wv', hx, rfl, ho, hs', hw', hm, _⟩)⟩
      · rw [chunkOf_k (k := newK b lb) (k' := newK 0 0) ⟨rfl, rfl, rfl⟩, hR] at hn
        cases hn
      · rw [chunkOf_k (k := newK b lb) (k' := newK 0 0) ⟨rfl, rfl, rfl⟩, hR] at hx
        injection hx with hx
        injection hx with h1 h2
        subst h1 h2
        obtain ⟨At, ct, rfl, -, -, hrow⟩ := ho.slice
        exact ⟨hf, ⟨At, ct, rfl, hrow⟩, fun _ => ⟨wv', hs', hw', hm⟩⟩
/-- An error's text. -/
def errS (z : Nat) : Array UInt8 := if z = 0 then #[101, 114, 114, 111, 114, 32, 48] else if z = 2 then #[101, 114, 114, 111, 114, 32, 50] else #[101, 114, 114, 111, 114, 32, 49, 49]
theorem errS_size (z : Nat) : (errS z).size ≤ 8 := by
  unfold errS
  split
  · decide
  · split <;> decide
theorem small_0 (w : World) : Calls Tryd.prog 50 #[.int .i64 0] w fun e w' => e = .returned (.string ⟨#[48]⟩) ∧ w' = w := by
  go_enter Tryd.func50, Tryd.ntmps50
  go_wp2
  go_ret
  exact ⟨rfl, rfl⟩
theorem small_2 (w : World) : Calls Tryd.prog 50 #[.int .i64 2] w fun e w' => e = .returned (.string ⟨#[50]⟩) ∧ w' = w := by
  go_enter Tryd.func50, Tryd.ntmps50
  go_wp2
  go_ret
  exact ⟨rfl, rfl⟩
set_option maxRecDepth 100000 in
theorem small_11 (w : World) : Calls Tryd.prog 50 #[.int .i64 11] w fun e w' => e = .returned (.string ⟨#[49, 49]⟩) ∧ w' = w := by
  go_enter Tryd.func50, Tryd.ntmps50
  go_wp2
  go_ret
  exact ⟨rfl, rfl⟩
theorem errno_p (z : Nat) (hz : z = 0 ∨ z = 2 ∨ z = 11) (w : World) : Calls Tryd.prog 8 #[.int .i64 (z : Int)] w fun e w' => e = .returned (.string ⟨errS z⟩) ∧ w' = w := by
  have hfmt : ∀ (z : Nat) (s : Array UInt8), (z = 0 ∨ z = 2 ∨ z = 11) → (∀ w, Calls Tryd.prog 50 #[.int .i64 (z : Int)] w fun e w' => e = .returned (.string ⟨s⟩) ∧ w' = w) → ∀ w, Calls Tryd.prog 17 #[.int .i64 (z : Int)] w fun e w' => e = .returned (.string ⟨s⟩) ∧ w' = w := by
    intro z s hz hs w
    have HS := Lib.hid hs
    clear hs
    go_enter Tryd.func17, Tryd.ntmps17
    go_wp2_with fail
    have h1 : ∀ w, Calls Tryd.prog 29 #[.int .i64 (z : Int)] w fun e w' => e = .returned (.string ⟨s⟩) ∧ w' = w := by
      intro w
      have h2 : ∀ w, Calls Tryd.prog 45 #[.int .i64 (z : Int), .int .i64 10] w fun e w' => e = .returned (.string ⟨s⟩) ∧ w' = w := by
        intro w
        have q1 : (0 : Int) ≤ (z : Int) := by omega
        have q2 : (z : Int) < 100 := by omega
        go_enter Tryd.func45, Tryd.ntmps45
        go_wp2_with fail
        refine (HS.out _).mono ?_; rintro e w1 ⟨rfl, rfl⟩
        go_wp2
        go_ret
        exact ⟨rfl, rfl⟩
      have H2 := Lib.hid h2
      clear h2
      go_enter Tryd.func29, Tryd.ntmps29
      go_wp2_with fail
      refine (H2.out _).mono ?_; rintro e w1 ⟨rfl, rfl⟩
      go_wp2
      go_ret
      exact ⟨rfl, rfl⟩
    refine (h1 _).mono ?_; rintro e w1 ⟨rfl, rfl⟩
    go_wp2
    go_ret
    exact ⟨rfl, rfl⟩
  rcases hz with rfl | rfl | rfl
  · have H := Lib.hid (hfmt 0 _ (.inl rfl) small_0)
    clear hfmt
    go_enter Tryd.func8, Tryd.ntmps8
    go_wp2_with fail
    refine (H.out _).mono ?_; rintro e w1 ⟨rfl, rfl⟩
    go_wp2
    go_ret
    exact ⟨rfl, rfl⟩
  · have H := Lib.hid (hfmt 2 _ (.inr (.inl rfl)) small_2)
    clear hfmt
    go_enter Tryd.func8, Tryd.ntmps8
    go_wp2_with fail
    refine (H.out _).mono ?_; rintro e w1 ⟨rfl, rfl⟩
    go_wp2
    go_ret
    exact ⟨rfl, rfl⟩
  · have H := Lib.hid (hfmt 11 _ (.inr (.inr rfl)) small_11)
    clear hfmt
    go_enter Tryd.func8, Tryd.ntmps8
    go_wp2_with fail
    refine (H.out _).mono ?_; rintro e w1 ⟨rfl, rfl⟩
    go_wp2
    go_ret
    exact ⟨rfl, rfl⟩
/-- So many strings, all alike. -/
def OwnS (w : World) (base : Nat) (s : ByteArray) (v : Value) (n : Nat) : Prop := w.ownsRow base 9 1 v n (List.replicate n (.string s))
section
variable {w w' : World} {base n : Nat} {s : ByteArray} {v : Value}
theorem OwnS.lt (h : OwnS w base s v n) {k : Nat} (hk : v.ownBlock = some k) : base ≤ k ∧ k < w.heap.size := World.ownsRow.lt h k hk
theorem OwnS.frm {S : Nat → Prop} (h : OwnS w base s v n) (hf : Frm S w w') (hn : ∀ k, v.ownBlock = some k → ¬ S k) : OwnS w' base s v n := by
  refine ⟨h.1, ?_⟩
  rcases h.2 with h2 | ⟨g, cap, cur, rfl, hb, hh, r⟩
  · exact .inl h2
  · exact .inr ⟨g, cap, cur, rfl, hb, (hf.block g (Pts.lt hh) (hn g rfl)).trans hh, r⟩
theorem OwnS.slice (h : OwnS w base s v n) : ∃ A cap, v = .slice A n cap ∧ (0 < n → ∃ g, A = some ⟨g, 0, none⟩ ∧ ∀ k, k < n → w.cell? ⟨g, k, none⟩ = some (.string s)) := by
  obtain ⟨h1, h2⟩ := h
  rcases h2 with ⟨rfl, hn⟩ | ⟨g, cap, cur, rfl, hb, hh, hnc, hcm, hcs, ht⟩
  · subst hn
    exact ⟨none, 0, rfl, fun h => absurd h (by omega)⟩
  · have hp : Pts w g cur 9 := hh
    refine ⟨_, cap, rfl, fun _ => ⟨g, rfl, fun k hk => ?_⟩⟩
    rw [hp.cell]
    have := congrArg (fun l : List Value => l[k]?) ht
    simp only [Nat.mul_one, List.getElem?_take, hk, if_true, List.getElem?_replicate] at this
    rw [Array.getElem?_toList] at this
    exact this
end
theorem Tryd.info_str : (Tryd.prog.info? 9).map (fun i => (i.zero, i.size, i.bytes)) = some (some (.string ⟨#[]⟩), 1, 16) := by kernel_rfl
section
variable {P : Program} (w : World)
theorem wpList_append_str {ops : Array Oper} {rest : List Oper} {o : Oper} {a : Act} {Q : Exit → Act → World → Prop} (hgd : o.guard = none) (u x : Operand) (t : TypeId)
    (ho : o.op = .call { callee := .builtin .append, args := #[u, x], argTypes := #[t, t] })
    (base : Nat) (ht : Tryd.prog.underlying t = some (.slice 9)) (v : Value) (n : Nat) (s : ByteArray) (hs : a.eval u = v) (hown : OwnS w base s v n) (g c : Nat) (hx : a.eval x = .slice (some ⟨g, 0, none⟩) 1 c) (hnews : Pts w g #[.string s] 9)
    (hlen : n ≤ 1000) (hbase : base ≤ w.heap.size)
    (h : ∀ v' w', OwnS w' base s v' (n + 1) → Frm (fun k => v.ownBlock = some k) w w' → (v'.ownBlock = v.ownBlock ∨ v'.ownBlock = some w.heap.size) → wpList Tryd.prog ops Q rest (a.put o.dst v') w') : wpList Tryd.prog ops Q (o :: rest) a w := by
  obtain ⟨i, hi, hzz⟩ := Option.map_eq_some_iff.1 Tryd.info_str
  simp only [Prod.mk.injEq] at hzz
  obtain ⟨hz, hs1, hby⟩ := hzz
  have hcells : ∀ j z, ([Value.string s] : List Value)[j]? = some z → w.cell? ((⟨g, 0, none⟩ : Addr).add j) = some z := by
    intro j z hz2
    rw [Opn.add_at, Nat.zero_add, hnews.cell, ← hz2]
    simp
  obtain ⟨v', w', hrun, h2, h3, _, h5⟩ := run_append_own_at (P := Tryd.prog) w base t o.type 9 i (.string ⟨#[]⟩) 1 16 ht hi hz hs1 hby rfl (by omega) v n (List.replicate n (.string s)) hown ⟨g, 0, none⟩ 1 c [.string s] (by simp) hcells (by intro u hu; simp at hu; subst hu; rfl) (by unfold maxLen; omega) (by omega) hbase
  refine wpList_plain hgd fun K hK => ?_
  unfold Oper.wp execOp
  simp only [ho, resolve, invoke, builtin, Sem.run_bind, Sem.run_pure, Result.andThen_ok, List.map_toArray, List.map_cons, List.map_nil, hs, hx, hrun]
  refine hK _ _ (h v' w' ?_ ⟨h3.os, h3.tape, h3.output, h3.size, fun k hk hn => h3.block k hk (fun e => hn e.symm)⟩ h5)
  unfold OwnS
  rw [List.replicate_succ']
  exact h2
end
end Go.Proofs.YtffehfpbdcokbaaDoor
