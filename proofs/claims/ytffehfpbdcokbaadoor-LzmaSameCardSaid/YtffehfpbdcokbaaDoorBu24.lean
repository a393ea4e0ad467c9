/- Texts of this proof, put together: LcQ, LcF. -/
import Derived.Test.YtffehfpbdcokbaaDoorBu22
import Derived.Test.YtffehfpbdcokbaaDoorBu23
set_option linter.unusedVariables false
set_option linter.unusedSimpArgs false
/- Chunks side by side, in plain Lean; a chunk and the same one with a byte more are not both taken. -/
namespace Go.Proofs.YtffehfpbdcokbaaDoor
open Go.RowKit Rng Win Lz
set_option linter.unusedVariables false
set_option linter.unusedSimpArgs false
section
variable {β : Dec → Prop}
set_option maxRecDepth 100000 in
theorem stays_step (K : Stays outC β) (k : LK) (S total room : Nat) {x y : RS} {b : List UInt8} (h : β x.s.d) (hs : stepOf k S total room x = some (b, y)) : β y.s.d := by
  unfold stepOf at hs
  simp only at hs
  have h1 := stays_bitAt K (8 + x.st * 16 + total % 2 ^ k.pb) 0 h
  split at hs
  · injection hs with hs
    injection hs with _ hy
    subst hy
    exact stays_litOf K _ _ _ _ _ h1
  · split at hs
    · injection hs with hs
      injection hs with _ hy
      subst hy
      exact stays_opOf K _ _ _ h1
    · cases hs
theorem stays_chunk (K : Stays outC β) (k : LK) (S total n : Nat) : ∀ (f : Nat) {told t : List UInt8} {x y : RS}, β x.s.d → chunkGo k S total n f told x = some (t, y) → β y.s.d
  | 0, _, _, _, _, _, h => by cases h
  | f + 1, told, t, x, y, hb, h => by
    unfold chunkGo at h
    split at h
    · injection h with h
      injection h with _ hy
      subst hy
      exact hb
    · cases hs : stepOf k S (total + told.length) (n - told.length) x with
      | none => rw [hs] at h; cases h
      | some p =>
        obtain ⟨b, z⟩ := p
        rw [hs] at h
        exact stays_chunk K k S total n f (stays_step K k S _ _ hb hs) h
end
/-- Two that know the same, but for their decoders. -/
def RS.Two (ρ : Dec → Dec → Prop) (x y : RS) : Prop := x.st = y.st ∧ x.rep = y.rep ∧ x.C = y.C ∧ Pair ρ x.s y.s
section
variable {ρ : Dec → Dec → Prop} {β : Dec → Prop}
set_option maxRecDepth 100000 in
theorem sim_step (K : Sim outC outC ρ β) (k : LK) (S total room : Nat) {x y : RS} (h : x.Two ρ y) : (stepOf k S total room x = none ∧ stepOf k S total room y = none) ∨ (∃ b x' y', stepOf k S total room x = some (b, x') ∧ stepOf k S total room y = some (b, y') ∧ x'.Two ρ y') ∨
    ∀ b y', stepOf k S total room y = some (b, y') → β y'.s.d := by
  obtain ⟨h1, h2, h3, h4⟩ := h
  have hst : ∀ {z : RS}, β (bitAt outC (8 + z.st * 16 + total % 2 ^ k.pb) 0 z.s).2.d → ∀ b y', stepOf k S total room z = some (b, y') → β y'.s.d := by
    intro z hz b y' hs
    unfold stepOf at hs
    simp only at hs
    split at hs
    · injection hs with hs
      injection hs with _ hy
      subst hy
      exact stays_litOf K.toStays _ _ _ _ _ hz
    · split at hs
      · injection hs with hs
        injection hs with _ hy
        subst hy
        exact stays_opOf K.toStays _ _ _ hz
      · cases hs
  rcases sim_bitAt K (8 + x.st * 16 + total % 2 ^ k.pb) 0 h4 with ⟨b1, b2⟩ | b3
  · unfold stepOf
    simp only
    rw [← h1, ← h2, ← h3, ← b1]
    by_cases h0 : (bitAt outC (8 + x.st * 16 + total % 2 ^ k.pb) 0 x.s).1 = 0
    · rw [if_pos h0, if_pos h0]
      have hl := sim_litOf K k x.st total x.rep x.C b2
      generalize litOf outC k x.st total x.rep x.C (bitAt outC (8 + x.st * 16 + total % 2 ^ k.pb) 0 x.s).2 = L1 at hl ⊢
      generalize litOf outC k x.st total x.rep x.C (bitAt outC (8 + x.st * 16 + total % 2 ^ k.pb) 0 y.s).2 = L2 at hl ⊢
      rcases hl with ⟨l1, l2⟩ | l3
      · rw [l1]
        exact .inr (.inl ⟨_, _, _, rfl, rfl, rfl, rfl, rfl, l2⟩)
      · refine .inr (.inr ?_)
        intro b y' hs
        injection hs with hs
        injection hs with _ hy
        subst hy
        exact l3
    · rw [if_neg h0, if_neg h0]
      have hl := sim_opOf K x.st (total % 2 ^ k.pb) x.rep b2
      generalize opOf outC x.st (total % 2 ^ k.pb) x.rep (bitAt outC (8 + x.st * 16 + total % 2 ^ k.pb) 0 x.s).2 = L1 at hl ⊢
      generalize opOf outC x.st (total % 2 ^ k.pb) x.rep (bitAt outC (8 + x.st * 16 + total % 2 ^ k.pb) 0 y.s).2 = L2 at hl ⊢
      rcases hl with ⟨l1, l2, l3, l4⟩ | l5
      · rw [← l1, ← l3]
        by_cases hg : L1.1 ≤ room ∧ L1.2.2.1 0 + 1 ≤ x.C.length
        · rw [if_pos hg, if_pos hg]
          exact .inr (.inl ⟨_, _, _, rfl, rfl, l2, rfl, rfl, l4⟩)
        · rw [if_neg hg, if_neg hg]
          exact .inl ⟨rfl, rfl⟩
      · refine .inr (.inr ?_)
        intro b y' hs
        split at hs
        · injection hs with hs
          injection hs with _ hy
          subst hy
          exact l5
        · cases hs
  · rw [h1] at b3
    exact .inr (.inr (hst b3))
theorem sim_chunk (K : Sim outC outC ρ β) (k : LK) (S total n : Nat) : ∀ (f : Nat) {told t1 t2 : List UInt8} {x y x' y' : RS}, x.Two ρ y → chunkGo k S total n f told x = some (t1, x') → chunkGo k S total n f told y = some (t2, y') → (t1 = t2 ∧ x'.Two ρ y') ∨ β y'.s.d
  | 0, _, _, _, _, _, _, _, _, h, _ => by cases h
  | f + 1, told, t1, t2, x, y, x', y', h, hx, hy => by
    unfold chunkGo at hx hy
    by_cases hn : n ≤ told.length
    · rw [if_pos hn] at hx hy
      injection hx with hx
      injection hx with e1 e2
      injection hy with hy
      injection hy with e3 e4
      subst e1; subst e2; subst e3; subst e4
      exact .inl ⟨rfl, h⟩
    · rw [if_neg hn] at hx hy
      rcases sim_step K k S (total + told.length) (n - told.length) h with ⟨s1, s2⟩ | ⟨b, x1, y1, s1, s2, s3⟩ | s4
      · rw [s1] at hx; cases hx
      · rw [s1] at hx
        rw [s2] at hy
        exact sim_chunk K k S total n f s3 hx hy
      · cases hs : stepOf k S (total + told.length) (n - told.length) y with
        | none => rw [hs] at hy; cases hy
        | some p =>
          obtain ⟨b, z⟩ := p
          rw [hs] at hy
          exact .inr (stays_chunk K.toStays k S total n f (s4 _ _ hs) hy)
end
/-- The same decoder, with a byte more tq9 come. -/
def MoreBy (m : UInt8) (d e : Dec) : Prop := d.rest = e.rest ++ [m] ∧ d.size = e.size ∧ d.code = e.code ∧ d.want = e.want
def Wants (d : Dec) : Prop := d.want = true
theorem Wants.order {d : Dec} (h : Wants d) : Wants d.order := by
  unfold Dec.order
  split
  · exact h
  · cases d.rest with
    | nil => rfl
    | cons x r => exact h
theorem Wants.bit {d : Dec} (c : Nat) (h : Wants d) : Wants (d.bit c).2 := by
  have h1 := h.order
  unfold Dec.bit
  simp only
  split <;> exact h1
theorem Wants.one {d : Dec} (h : Wants d) : Wants d.one.2 := by
  have h1 := h.order
  unfold Dec.one
  simp only
  split <;> exact h1
theorem Wants.direct : ∀ (n x : Nat) {d : Dec}, Wants d → Wants (d.direct n x).2
  | 0, _, _, h => h
  | n + 1, x, d, h => Wants.direct n _ h.one
theorem wants_stay : Stays outC Wants := ⟨fun t c x h => Wants.bit (fair c) h, fun t x n h => Wants.direct n 0 h⟩
theorem MoreBy.order {m : UInt8} {d e : Dec} (h : MoreBy m d e) : MoreBy m d.order e.order ∨ Wants e.order := by
  obtain ⟨h1, h2, h3, h4⟩ := h
  unfold Dec.order
  by_cases hs : 16777216 ≤ e.size
  · rw [if_pos hs, if_pos (by omega)]
    exact .inl ⟨h1, h2, h3, h4⟩
  · rw [if_neg hs, if_neg (by omega), h1]
    cases hr : e.rest with
    | nil => exact .inr rfl
    | cons x r =>
      simp only [List.cons_append]
      exact .inl ⟨rfl, by simp only; rw [h2], by simp only; rw [h3], h4⟩
theorem MoreBy.bit {m : UInt8} {d e : Dec} (c : Nat) (h : MoreBy m d e) : ((d.bit c).1 = (e.bit c).1 ∧ MoreBy m (d.bit c).2 (e.bit c).2) ∨ Wants (e.bit c).2 := by
  rcases h.order with ⟨h1, h2, h3, h4⟩ | h5
  · unfold Dec.bit
    simp only
    rw [h2, h3]
    split
    · exact .inl ⟨rfl, h1, rfl, rfl, h4⟩
    · exact .inl ⟨rfl, h1, rfl, rfl, h4⟩
  · refine .inr ?_
    unfold Dec.bit
    simp only
    split <;> exact h5
theorem MoreBy.one {m : UInt8} {d e : Dec} (h : MoreBy m d e) : (d.one.1 = e.one.1 ∧ MoreBy m d.one.2 e.one.2) ∨ Wants e.one.2 := by
  rcases h.order with ⟨h1, h2, h3, h4⟩ | h5
  · unfold Dec.one
    simp only
    rw [h2, h3]
    split
    · exact .inl ⟨rfl, h1, rfl, rfl, h4⟩
    · exact .inl ⟨rfl, h1, rfl, rfl, h4⟩
  · refine .inr ?_
    unfold Dec.one
    simp only
    split <;> exact h5
theorem MoreBy.direct {m : UInt8} : ∀ (n x : Nat) {d e : Dec}, MoreBy m d e → ((d.direct n x).1 = (e.direct n x).1 ∧ MoreBy m (d.direct n x).2 (e.direct n x).2) ∨ Wants (e.direct n x).2
  | 0, _, _, _, h => .inl ⟨rfl, h⟩
  | n + 1, x, d, e, h => by
    unfold Dec.direct
    rcases h.one with ⟨h1, h2⟩ | h3
    · rw [h1]
      exact MoreBy.direct n _ h2
    · exact .inr (Wants.direct n _ h3)
theorem more_sim (m : UInt8) : Sim outC outC (MoreBy m) Wants := ⟨wants_stay, fun s t c x h => MoreBy.bit (fair c) h, fun s t x n h => MoreBy.direct n 0 h⟩
theorem Wants.fin {d : Dec} (h : Wants d) : d.fin ≠ (0, 0) := by
  unfold Dec.fin
  rw [if_pos (show d.order.want = true from h.order)]
  intro e
  injection e with _ e
  cases e
theorem MoreBy.fin {m : UInt8} {d e : Dec} (h : MoreBy m d e) : d.fin ≠ (0, 0) ∨ e.fin ≠ (0, 0) := by
  rcases h.order with ⟨h1, h2, h3, h4⟩ | h5
  · refine .inl ?_
    unfold Dec.fin
    split
    · intro e; injection e with _ e; cases e
    · split
      · intro e; injection e with _ e; cases e
      · intro e
        injection e with e _
        rw [h1, List.length_append] at e
        simp at e
  · refine .inr ?_
    unfold Dec.fin
    rw [if_pos (show e.order.want = true from h5)]
    intro e
    injection e with _ e
    cases e
theorem newDec_more {bs : List UInt8} (m : UInt8) (h : 5 ≤ bs.length) : MoreBy m (newDec (bs ++ [m])) (newDec bs) := by
  unfold newDec MoreBy
  refine ⟨?_, rfl, ?_, rfl⟩
  · simp only
    rw [List.drop_append_of_le_length h]
  · simp only
    unfold be4
    have e : ∀ i, i < 5 → (bs ++ [m]).getD i 0 = bs.getD i 0 := by
      intro i hi
      simp only [List.getD_eq_getElem?_getD]
      rw [List.getElem?_append_left (by omega)]
    rw [e 1 (by omega), e 2 (by omega), e 3 (by omega), e 4 (by omega)]
/-- A chunk with a byte more is no chunk. -/
theorem chunk_exact (k : LK) (S total n st : Nat) (rep : Nat → Nat) (pr : Pr) (C bs : List UInt8) (m : UInt8) (h : chunkOf k S total n st rep pr C bs ≠ none) : chunkOf k S total n st rep pr C (bs ++ [m]) = none := by
  unfold chunkOf at h ⊢
  by_cases hn : newErr bs ≠ 0
  · rw [if_pos hn] at h; exact absurd rfl h
  · rw [if_neg hn] at h
    have h5 : 5 ≤ bs.length := by
      unfold newErr at hn
      by_cases h5 : bs.length < 5
      · rw [if_pos h5] at hn; exact absurd (by decide) hn
      · omega
    by_cases hn2 : newErr (bs ++ [m]) ≠ 0
    · rw [if_pos hn2]
    · rw [if_neg hn2]
      cases h1 : chunkGo k S (totOf total) n (n + 1) [] ⟨st, rep, ⟨newDec bs, pr⟩, C⟩ with
      | none => rw [h1] at h; exact absurd rfl h
      | some p =>
        obtain ⟨t, y⟩ := p
        rw [h1] at h
        simp only at h
        have hf : y.s.d.fin = (0, 0) := by
          by_cases hf : y.s.d.fin = (0, 0)
          · exact hf
          · rw [if_neg hf] at h; exact absurd rfl h
        cases h2 : chunkGo k S (totOf total) n (n + 1) [] ⟨st, rep, ⟨newDec (bs ++ [m]), pr⟩, C⟩ with
        | none => rfl
        | some q =>
          obtain ⟨t', x⟩ := q
          simp only
          have hs := sim_chunk (more_sim m) k S (totOf total) n (n + 1) (x := ⟨st, rep, ⟨newDec (bs ++ [m]), pr⟩, C⟩) (y := ⟨st, rep, ⟨newDec bs, pr⟩, C⟩) ⟨rfl, rfl, rfl, newDec_more m h5, rfl⟩ h2 h1
          rw [if_neg]
          intro hx
          rcases hs with ⟨_, _, _, _, hp⟩ | hw
          · rcases hp.1.fin with e | e
            · exact e hx
            · exact e hf
          · exact hw.fin hf
end Go.Proofs.YtffehfpbdcokbaaDoor

/- A chunk out of a new state and a new window; LzmaExact. -/
namespace Go.Proofs.YtffehfpbdcokbaaDoor
open Go.RowKit Rng Lz Win
set_option linter.unusedVariables false
set_option linter.unusedSimpArgs false
theorem stepOf_k {k k' : LK} (h : k.lc = k'.lc ∧ k.lp = k'.lp ∧ k.pb = k'.pb) (S total room : Nat) (x : RS) : stepOf k S total room x = stepOf k' S total room x := by
  unfold stepOf litOf
  rw [h.1, h.2.1, h.2.2]
theorem chunkGo_k {k k' : LK} (h : k.lc = k'.lc ∧ k.lp = k'.lp ∧ k.pb = k'.pb) (S total n : Nat) : ∀ (f : Nat) (told : List UInt8) (x : RS), chunkGo k S total n f told x = chunkGo k' S total n f told x
  | 0, _, _ => rfl
  | f + 1, told, x => by
    unfold chunkGo
    rw [stepOf_k h]
    split
    · rfl
    · split
      · rfl
      · exact chunkGo_k h S total n f _ _
theorem chunkOf_k {k k' : LK} (h : k.lc = k'.lc ∧ k.lp = k'.lp ∧ k.pb = k'.pb) (S total n st : Nat) (rep : Nat → Nat) (pr : Pr) (C bs : List UInt8) : chunkOf k S total n st rep pr C bs = chunkOf k' S total n st rep pr C bs := by
  unfold chunkOf
  rw [chunkGo_k h]
/-- A chunk out of a new state and a new window. -/
def fresh (S n : Nat) (bs : List UInt8) : Option (List UInt8 × RS) := chunkOf (newK 0 0) S 0 n 0 (fun _ => 0) (fun _ => 1024) [] bs
theorem fresh_k (b lb S n : Nat) (bs : List UInt8) : chunkOf (newK b lb) S 0 n 0 (fun _ => 0) (fun _ => 1024) [] bs = fresh S n bs := chunkOf_k (k := newK b lb) (k' := newK 0 0) ⟨rfl, rfl, rfl⟩ S 0 n 0 (fun _ => 0) (fun _ => 1024) [] bs
/-- Its error. -/
def exE (S : Nat) (n : Int) (bs : List UInt8) : Int := if n < 1 then 2 else if (fresh S n.toNat bs).isSome then 0 else 11
theorem ex_more {S : Nat} {n : Int} {bs : List UInt8} (m : UInt8) (h : exE S n bs = 0) : exE S n (bs ++ [m]) = 11 := by
  unfold exE at h ⊢
  by_cases hn : n < 1
  · rw [if_pos hn] at h; cases h
  · rw [if_neg hn] at h ⊢
    have h1 : fresh S n.toNat bs ≠ none := by
      intro e
      rw [e] at h
      cases h
    have h2 : fresh S n.toNat (bs ++ [m]) = none := chunk_exact _ _ _ _ _ _ _ _ _ m h1
    rw [h2]
    rfl
theorem ex_less {S : Nat} {n : Int} {bs : List UInt8} (h0 : bs ≠ []) (h : exE S n bs = 0) : exE S n bs.dropLast = 11 := by
  have hne : exE S n bs.dropLast ≠ 0 := by
    intro e
    have h2 := ex_more (bs.getLast h0) e
    rw [List.dropLast_concat_getLast h0, h] at h2
    cases h2
  unfold exE at h hne ⊢
  by_cases hn : n < 1
  · rw [if_pos hn] at h; cases h
  · rw [if_neg hn] at hne ⊢
    split
    · rename_i hs
      rw [if_pos hs] at hne
      exact absurd rfl hne
    · rfl
theorem fresh_chunk (N b lb base wb kb S l c : Nat) (n : Int) (bs : List UInt8) (A : Option Addr) (w : World) (hs : StAt w (newK b lb) 0 (fun _ => 0) (fun _ => 1024)) (hw : WinC w base wb kb S [] (.slice none 0 0)) (hb : base ≤ w.heap.size) (hS : S ≤ 16777216)
    (hl : l = bs.length) (hr : BRow w w.heap.size A bs) (hc : bs.length ≤ c) (hcm : c ≤ maxLen) (hlen : bs.length ≤ 140737488355328) (hn : n ≤ 2097152) (h1 : N ≤ b) (h2 : N ≤ lb) (h3 : N ≤ wb) (hN : N ≤ w.heap.size) :
    Calls Tryd.prog 7 #[.pointer (some ⟨b, 0, none⟩), .pointer (some ⟨wb, 0, none⟩), .int .i64 0, .slice A l c, .int .i64 n] w fun e w' => (∃ tv, e = .returned (.tuple #[tv, .int .i64 (exE S n bs)])) ∧ Below N w w' := by
  by_cases hn1 : n < 1
  · have e : exE S n bs = 2 := if_pos hn1
    rw [e]
    refine (chunk_arg w ⟨b, 0, none⟩ ⟨wb, 0, none⟩ 0 n A l c (.inl hn1)).mono ?_
    rintro e w' ⟨rfl, hB⟩
    exact ⟨⟨_, rfl⟩, hB.mono hN⟩
  · obtain ⟨m, rfl⟩ : ∃ m : Nat, n = m := ⟨n.toNat, by omega⟩
    refine (chunk_p (newK b lb) 0 (fun _ => 0) (fun _ => 1024) base wb kb S [] bs (.slice none 0 0) A m c l 0 w hs hw hb hS (newK_ok _ _) (by omega) (fun _ => by omega) hl hr hc hcm hlen (by omega) (by omega) (by omega)).mono ?_
    rw [fresh_k]
    have hfr : ∀ {w'}, Frm (fun q => q = (newK b lb).sb ∨ q = (newK b lb).lb ∨ q = wb ∨ (Value.slice none 0 0).ownBlock = some q) w w' → Below N w w' := by
      intro w' f
      refine f.below hN ?_
      rintro q (e | e | e | e)
      · rw [e]; exact h1
      · rw [e]; exact h2
      · rw [e]; exact h3
      · cases e
    rintro e w' ⟨f, (⟨hR, rfl⟩ | ⟨told, y, tv, wv', hR, rfl, _⟩)⟩
    · refine ⟨⟨.slice none 0 0, ?_⟩, hfr f⟩
      have : exE S m bs = 11 := by unfold exE; rw [if_neg hn1, Int.toNat_natCast, hR]; rfl
      rw [this]
    · refine ⟨⟨tv, ?_⟩, hfr f⟩
      have : exE S m bs = 0 := by unfold exE; rw [if_neg hn1, Int.toNat_natCast, hR]; rfl
      rw [this]
theorem one_row (w : World) (x : UInt8) : BRow (w.alloc (.cells #[.int .u8 (x.toNat : Int)] 5)) (w.heap.size + 1) (some ⟨w.heap.size, 0, none⟩) [x] := by
  intro _
  refine ⟨w.heap.size, 0, rfl, by omega, fun k hk => ?_⟩
  obtain rfl : k = 0 := by simpa using hk
  exact (Pts.new w #[.int .u8 (x.toNat : Int)] 5).cell 0
theorem slice_toL (A : Option Addr) (n c m : Nat) (hf : m ≤ n) (hn : n ≤ c) (w : World) :
    (Instr.sliceAt 22 (.slice A n c) none (some (.int .i64 (m : Int))) none).run Tryd.prog w = .ok (.slice A m c) w := by
  by_cases hcf : c = 0
  · simp [go_sem, hcf]
    intro h; omega
  · simp [go_sem, hcf]
    intro h; omega
theorem take_sub1 (bs : List UInt8) : bs.take (bs.length - 1) = bs.dropLast := List.dropLast_eq_take.symm
end Go.Proofs.YtffehfpbdcokbaaDoor
