/- Rows of bytes: slices that came in, slices of the call's own; append. Over any program. -/
import Derived.Test.YteghpnlamdgpnaaFrm
import Derived.Test.YteghpnlamdgpnaaLaws
import Derived.Test.YteghpnlamdgpnaaOpen
import Derived.Maps.AppendAt
import Derived.Deep.AppendLies
import Derived.Laws.BytesArg
namespace Go.Proofs.Yteghpnlamdgpnaa
open Go.RowKit

/-- A byte, as a value. -/
def byteV (u : UInt8) : Value := .int .u8 (u.toNat : Int)

/-- The slice (A, its length) reads as the bytes bs, and lies below block B. -/
def BRow (w : World) (B : Nat) (A : Option Addr) (bs : List UInt8) : Prop :=
  0 < bs.length → ∃ b off, A = some ⟨b, off, none⟩ ∧ b < B ∧ ∀ k, k < bs.length → w.cell? ⟨b, off + k, none⟩ = some (byteV (bs.getD k 0))

section
variable {w w' : World} {B B' : Nat} {A : Option Addr} {bs : List UInt8}
theorem BRow.nil (w : World) (B : Nat) (A : Option Addr) : BRow w B A [] := fun h => absurd h (by simp)
theorem BRow.keep (h : BRow w B A bs) (hk : ∀ b, b < B → w'.heap[b]? = w.heap[b]?) : BRow w' B A bs := by
  intro hn
  obtain ⟨b, off, rfl, hlt, hc⟩ := h hn
  exact ⟨b, off, rfl, hlt, fun k hk' => by rw [World.cell?_of_block (hk b hlt)]; exact hc k hk'⟩
theorem BRow.below (h : BRow w B A bs) (hb : Below B w w') : BRow w' B A bs := h.keep fun b hb' => hb.block b hb'
theorem BRow.more (h : BRow w B A bs) (hB : B ≤ B') : BRow w B' A bs := by
  intro hn
  obtain ⟨b, off, rfl, hlt, hc⟩ := h hn
  exact ⟨b, off, rfl, by omega, hc⟩
theorem BRow.drop (h : BRow w B A bs) {k cap : Nat} (hc : bs.length ≤ cap) : BRow w B (if cap = k then A else A.map (·.add k)) (bs.drop k) := by
  intro hn
  rw [List.length_drop] at hn
  obtain ⟨b, off, rfl, hlt, hcell⟩ := h (by omega)
  rw [if_neg (by omega)]
  refine ⟨b, off + k, by simp [Opn.add_at], hlt, fun j hj => ?_⟩
  rw [List.length_drop] at hj
  have := hcell (k + j) (by omega)
  rw [show off + k + j = off + (k + j) by omega, this]
  simp [List.getD]
theorem BRow.take (h : BRow w B A bs) (k : Nat) : BRow w B A (bs.take k) := by
  intro hn
  rw [List.length_take] at hn
  obtain ⟨b, off, rfl, hlt, hcell⟩ := h (by omega)
  refine ⟨b, off, rfl, hlt, fun j hj => ?_⟩
  rw [List.length_take] at hj
  rw [hcell j (by omega)]
  simp only [List.getD, List.getElem?_take]
  rw [if_pos (by omega)]
theorem BRow.away (h : BRow w B A bs) {b : Nat} (hA : ∀ ad, A = some ad → ad.block ≠ b) (hf : Frm (· = b) w w') : BRow w' B A bs := by
  intro hn
  obtain ⟨c, off, rfl, hlt, hcell⟩ := h hn
  exact ⟨c, off, rfl, hlt, fun k hk => (World.cell?_of_block (w := w) (hf.block c (World.block_lt_of_cell? w ⟨c, off + k, none⟩ (hcell k hk)) (hA _ rfl))).trans (hcell k hk)⟩
/-- The slice does not lie in a block of N (where it has bytes at all). -/
def BOff (N : Nat → Prop) (A : Option Addr) (bs : List UInt8) : Prop := 0 < bs.length → ∀ ad, A = some ad → ¬ N ad.block
theorem BOff.of_row {N : Nat → Prop} (h : BRow w B A bs) (hN : ∀ k, N k → B ≤ k) : BOff N A bs := by
  intro hn ad e hk
  obtain ⟨b, off, rfl, hlt, _⟩ := h hn
  injection e with e
  subst e
  have := hN _ hk
  exact Nat.lt_irrefl _ (Nat.lt_of_lt_of_le hlt this)
theorem BRow.off (h : BRow w B A bs) {b : Nat} (hA : BOff (· = b) A bs) (hf : Frm (· = b) w w') : BRow w' B A bs := by
  intro hn
  obtain ⟨c, off, rfl, hlt, hcell⟩ := h hn
  exact ⟨c, off, rfl, hlt, fun k hk => (World.cell?_of_block (w := w) (hf.block c (World.block_lt_of_cell? w ⟨c, off + k, none⟩ (hcell k hk)) (hA hn _ rfl))).trans (hcell k hk)⟩
theorem BRow.drewN (h : BRow w B A bs) (n : Nat) : BRow (w.drewN n) B A bs := h
theorem BRow.addr {b off : Nat} (h : BRow w B (some ⟨b, off, none⟩) bs) {k : Nat} (hk : k < bs.length) : w.cell? ⟨b, off + k, none⟩ = some (byteV (bs.getD k 0)) := by
  obtain ⟨b', off', e, _, hc⟩ := h (by omega)
  injection e with e; injection e with e1 e2
  subst e1; subst e2
  exact hc k hk
end

/-- A slice of bytes that came in reads as some bytes. -/
theorem BRow.of_row {w : World} {B n : Nat} {A : Option Addr} {f : Nat → Int} (h : Opn.RowAt w B A n (fun i => .int .u8 (f i))) (hf : ∀ i, i < n → 0 ≤ f i ∧ f i ≤ 255) :
    ∃ bs : List UInt8, bs.length = n ∧ BRow w B A bs := by
  refine ⟨(List.range n).map fun i => UInt8.ofNat (f i).toNat, by simp, fun hn => ?_⟩
  obtain ⟨b, off, rfl, hlt, hc⟩ := h (by simpa using hn)
  refine ⟨b, off, rfl, hlt, fun k hk => ?_⟩
  have hk' : k < n := by simpa using hk
  rw [hc k hk']
  obtain ⟨h0, h1⟩ := hf k hk'
  have e : ((UInt8.ofNat (f k).toNat).toNat : Int) = f k := by
    rw [UInt8.toNat_ofNat']
    omega
  simp only [byteV, List.getD, List.getElem?_map, List.getElem?_range hk', Option.map_some, Option.getD_some, e]

/-- A row of bytes of the call's own (base: the first block that it may lie in; T: the number of the type of bytes). -/
def OwnB (w : World) (T base : Nat) (v : Value) (bs : List UInt8) : Prop := w.ownsRow base T 1 v bs.length (bs.map byteV)

section
variable {w w' : World} {T base : Nat} {v : Value} {bs : List UInt8}
theorem OwnB.nil (w : World) (T base : Nat) : OwnB w T base (.slice none 0 0) [] := World.ownsRow_nil w base T 1
/-- What an owned row looks like. -/
theorem OwnB.form (h : OwnB w T base v bs) : (v = .slice none 0 0 ∧ bs = []) ∨ ∃ g cap cur, v = .slice (some ⟨g, 0, none⟩) bs.length cap ∧ base ≤ g ∧ Pts w g cur T ∧ bs.length ≤ cap ∧ cap ≤ maxLen ∧ cur.size = cap ∧ ∀ k, k < bs.length → cur[k]? = some (byteV (bs.getD k 0)) := by
  obtain ⟨h1, h2⟩ := h
  rcases h2 with ⟨rfl, hn⟩ | ⟨g, cap, cur, rfl, hb, hh, hnc, hcm, hcs, ht⟩
  · exact .inl ⟨rfl, List.eq_nil_of_length_eq_zero hn⟩
  · refine .inr ⟨g, cap, cur, rfl, hb, hh, hnc, hcm, by simpa using hcs, fun k hk => ?_⟩
    have := congrArg (fun l : List Value => l[k]?) ht
    simp only [Nat.mul_one, List.getElem?_take, hk, if_true, List.getElem?_map] at this
    rw [Array.getElem?_toList] at this
    rw [this]
    simp [List.getD, hk]
theorem OwnB.slice (h : OwnB w T base v bs) : ∃ A cap, v = .slice A bs.length cap ∧ bs.length ≤ cap ∧ cap ≤ maxLen ∧ BRow w w.heap.size A bs := by
  rcases h.form with ⟨rfl, rfl⟩ | ⟨g, cap, cur, rfl, _, hp, hnc, hcm, _, hc⟩
  · exact ⟨none, 0, rfl, Nat.le_refl _, Nat.zero_le _, BRow.nil _ _ _⟩
  · refine ⟨_, cap, rfl, hnc, hcm, fun _ => ⟨g, 0, rfl, hp.lt, fun k hk => ?_⟩⟩
    rw [Nat.zero_add, hp.cell]
    exact hc k hk
theorem OwnB.lt (h : OwnB w T base v bs) {k : Nat} (hk : v.ownBlock = some k) : base ≤ k ∧ k < w.heap.size := World.ownsRow.lt h k hk
theorem OwnB.frm {S : Nat → Prop} (h : OwnB w T base v bs) (hf : Frm S w w') (hn : ∀ k, v.ownBlock = some k → ¬ S k) : OwnB w' T base v bs := by
  refine ⟨h.1, ?_⟩
  rcases h.2 with h2 | ⟨g, cap, cur, rfl, hb, hh, r⟩
  · exact .inl h2
  · exact .inr ⟨g, cap, cur, rfl, hb, (hf.block g (Pts.lt hh) (hn g rfl)).trans hh, r⟩
theorem OwnB.alloc (h : OwnB w T base v bs) (o : Obj) : OwnB (w.alloc o) T base v bs := World.ownsRow.alloc h o
theorem OwnB.drewN (h : OwnB w T base v bs) (n : Nat) : OwnB (w.drewN n) T base v bs := h
theorem OwnB.other (h : OwnB w T base v bs) {p : Addr} (hp : v.ownBlock ≠ some p.block) (u : Value) : OwnB (w.setCell p u) T base v bs :=
  h.frm (S := fun k => k = p.block) ((Frm.refl _ _).setCell (p := p) (by rfl) u) fun k hk e => hp (by rw [hk, e])
/-- The first k bytes of an owned row. -/
theorem OwnB.cut {A : Option Addr} {n c : Nat} (h : OwnB w T base (.slice A n c) bs) {k : Nat} (hk : k ≤ bs.length) : OwnB w T base (.slice A k c) (bs.take k) := by
  obtain ⟨h1, h2⟩ := h
  refine ⟨by simp, ?_⟩
  rcases h2 with ⟨hv, hn⟩ | ⟨g, cap, cur, hv, hb, hh, hnc, hcm, hcs, ht⟩
  · injection hv with e1 e2 e3
    subst e1; subst e3
    have : k = 0 := by omega
    subst this
    exact .inl ⟨rfl, by simp⟩
  · injection hv with e1 e2 e3
    subst e1; subst e3
    refine .inr ⟨g, c, cur, by rw [List.length_take, Nat.min_eq_left hk], hb, hh, by rw [List.length_take]; omega, hcm, hcs, ?_⟩
    rw [List.map_take, ← ht, List.take_take]
    congr 1
    rw [List.length_take]; omega
end

theorem oneCell_byte (bs : List UInt8) : ∀ u ∈ bs.map byteV, u.oneCell' = true := by
  intro u hu
  obtain ⟨x, _, rfl⟩ := List.mem_map.1 hu
  rfl

section
variable {P : Program} (w : World)
/-- 'append(v, s...)', v a row of bytes of the call's own, s any bytes. -/
theorem run_append_bytes (t ty T base : Nat) (ht : P.underlying t = some (.slice T)) (hinfo : (P.info? T).map (fun i => (i.zero, i.size, i.bytes)) = some (some (.int .u8 0), 1, 1))
    (v : Value) (bs : List UInt8) (hown : OwnB w T base v bs) (A : Option Addr) (c B : Nat) (news : List UInt8) (hnews : BRow w B A news)
    (hlen : bs.length + news.length ≤ 140737488355328) (hbase : base ≤ w.heap.size) :
    ∃ v' w', (Builtin.append_ #[t, t] ty #[v, .slice A news.length c]).run P w = .ok v' w' ∧ OwnB w' T base v' (bs ++ news) ∧ Frm (fun k => v.ownBlock = some k) w w' ∧
      (v'.ownBlock = v.ownBlock ∨ v'.ownBlock = some w.heap.size) := by
  obtain ⟨i, hi, hzz⟩ := Option.map_eq_some_iff.1 hinfo
  simp only [Prod.mk.injEq] at hzz
  obtain ⟨hz, hs, hby⟩ := hzz
  cases A with
  | none =>
    have hn : news = [] := by
      cases news with
      | nil => rfl
      | cons x l =>
        obtain ⟨b, off, e, _⟩ := hnews (by simp)
        cases e
    subst hn
    refine ⟨v, w, ?_, by simpa using hown, Frm.refl _ _, .inl rfl⟩
    rcases hown.form with ⟨rfl, _⟩ | ⟨g, cap, cur, rfl, _, _, hnc, _⟩
    · simp [Builtin.append_, run_underlying ht, sizeOf, typeInfo, hi, Builtin.lenOf, Builtin.firstCells]
    · simp [Builtin.append_, run_underlying ht, sizeOf, typeInfo, hi, Builtin.lenOf, Builtin.firstCells, hnc, storeCells]
  | some ad =>
    have hcells : ∀ j u, (news.map byteV)[j]? = some u → w.cell? (ad.add j) = some u := by
      intro j u hu
      rw [List.getElem?_map] at hu
      obtain ⟨x, hx, rfl⟩ := Option.map_eq_some_iff.1 hu
      have hj : j < news.length := (List.getElem?_eq_some_iff.1 hx).1
      obtain ⟨b, off, e, _, hc⟩ := hnews (by omega)
      injection e with e
      subst e
      rw [Opn.add_at, hc j hj]
      simp [List.getD, hx]
    obtain ⟨v', w', hrun, h2, h3, _, h5⟩ := run_append_own_at (P := P) w base t ty T i (.int .u8 0) 1 1 ht hi hz hs hby rfl (by omega) v bs.length (bs.map byteV) hown ad news.length c (news.map byteV) (by simp) hcells (oneCell_byte news) (by unfold maxLen; omega) (by omega) hbase
    refine ⟨v', w', hrun, ?_, ⟨h3.os, h3.tape, h3.output, h3.size, fun k hk hn => h3.block k hk (fun e => hn e.symm)⟩, h5⟩
    unfold OwnB
    rw [List.length_append, List.map_append]
    exact h2

theorem wp_append_bytes {o : Oper} {a : Act} {K : Act → World → Prop} {Q : Exit → Act → World → Prop} (s x : Operand) (t : TypeId)
    (ho : o.op = .call { callee := .builtin .append, args := #[s, x], argTypes := #[t, t] })
    (T base : Nat) (ht : P.underlying t = some (.slice T)) (hinfo : (P.info? T).map (fun i => (i.zero, i.size, i.bytes)) = some (some (.int .u8 0), 1, 1))
    (v : Value) (bs : List UInt8) (hs : a.eval s = v) (hown : OwnB w T base v bs) (A : Option Addr) (m c B : Nat) (news : List UInt8) (hx : a.eval x = .slice A m c) (hm : m = news.length) (hnews : BRow w B A news)
    (hlen : bs.length + news.length ≤ 140737488355328) (hbase : base ≤ w.heap.size)
    (h : ∀ v' w', OwnB w' T base v' (bs ++ news) → Frm (fun k => v.ownBlock = some k) w w' → (v'.ownBlock = v.ownBlock ∨ v'.ownBlock = some w.heap.size) → K (a.put o.dst v') w') : o.wp P a w K Q := by
  subst hm
  obtain ⟨v', w', hrun, h2, h3, h4⟩ := run_append_bytes (P := P) w t o.type T base ht hinfo v bs hown A c B news hnews hlen hbase
  unfold Oper.wp execOp
  simp only [ho, resolve, invoke, builtin, Sem.run_bind, Sem.run_pure, Result.andThen_ok, List.map_toArray, List.map_cons, List.map_nil, hs, hx, hrun]
  exact h v' w' h2 h3 h4

theorem wpList_append_bytes {ops : Array Oper} {rest : List Oper} {o : Oper} {a : Act} {Q : Exit → Act → World → Prop} (hgd : o.guard = none) (s x : Operand) (t : TypeId)
    (ho : o.op = .call { callee := .builtin .append, args := #[s, x], argTypes := #[t, t] })
    (T base : Nat) (ht : P.underlying t = some (.slice T)) (hinfo : (P.info? T).map (fun i => (i.zero, i.size, i.bytes)) = some (some (.int .u8 0), 1, 1))
    (v : Value) (bs : List UInt8) (hs : a.eval s = v) (hown : OwnB w T base v bs) (A : Option Addr) (m c B : Nat) (news : List UInt8) (hx : a.eval x = .slice A m c) (hm : m = news.length) (hnews : BRow w B A news)
    (hlen : bs.length + news.length ≤ 140737488355328) (hbase : base ≤ w.heap.size)
    (h : ∀ v' w', OwnB w' T base v' (bs ++ news) → Frm (fun k => v.ownBlock = some k) w w' → (v'.ownBlock = v.ownBlock ∨ v'.ownBlock = some w.heap.size) → wpList P ops Q rest (a.put o.dst v') w') : wpList P ops Q (o :: rest) a w :=
  wpList_plain hgd fun _ hK => wp_append_bytes w s x t ho T base ht hinfo v bs hs hown A m c B news hx hm hnews hlen hbase fun v' w' h2 h3 h4 => hK _ _ (h v' w' h2 h3 h4)
end

/-- 'string(s)' of a slice of bytes. -/
theorem run_conv_bytes {P : Program} (w : World) (src dst e : TypeId) (hs : P.underlying src = some (.slice e)) (he : P.underlying e = some (.int .u8)) (hd : P.underlying dst = some .string)
    (A : Option Addr) (n c B : Nat) (bs : List UInt8) (hn : n = bs.length) (hr : BRow w B A bs) : (convert src dst (.slice A n c)).run P w = .ok (.string ⟨bs.toArray⟩) w := by
  subst hn
  have hnum : strOfNums (bs.map fun u => (u.toNat : Int)) = ⟨bs.toArray⟩ := by
    unfold strOfNums
    congr 2
    rw [List.map_map]
    conv => rhs; rw [← List.map_id bs]
    apply List.map_congr_left
    intro u _
    simp
  by_cases h0 : 0 < bs.length
  · obtain ⟨b, off, rfl, _, hc⟩ := hr h0
    rw [← hnum]
    refine run_convert_bytes_arg (P := P) w src e hs he b off bs.length c (bs.map fun u => (u.toNat : Int)) (by simp) (fun i hi => ?_) dst hd
    rw [hc i hi]
    simp [byteV, List.getD, hi]
  · have hb : bs = [] := List.eq_nil_of_length_eq_zero (by omega)
    subst hb
    cases A with
    | none => rw [List.length_nil, run_convert_bytes_nil (P := P) w src e hs he 0 c dst hd]; rfl
    | some a =>
      have hl : (loadCells a 0).run P w = .ok (([] : List Int).map (Value.int .u8)).toArray w := by simp [loadCells, loadCellsFrom]
      rw [List.length_nil, run_convert_bytes_string w src dst e _ 0 c hs he hd, run_bytesToString w a 0 c [] hl]
      rfl

/-- The row of a literal without elements. -/
theorem OwnB.made (w : World) (T base : Nat) (hb : base ≤ w.heap.size) : OwnB (w.alloc (.cells #[] T)) T base (.slice (some ⟨w.heap.size, 0, none⟩) 0 0) [] :=
  World.ownsRow_made w #[] 0 hb (Nat.zero_le _) rfl

/-- A byte of an owned row is written. -/
theorem OwnB.set {w : World} {T base g n cap : Nat} {bs : List UInt8} (h : OwnB w T base (.slice (some ⟨g, 0, none⟩) n cap) bs) (k : Nat) (hk : k < bs.length) (y : UInt8) :
    OwnB (w.setCell ⟨g, k, none⟩ (byteV y)) T base (.slice (some ⟨g, 0, none⟩) n cap) (bs.set k y) := by
  obtain ⟨h1, h2⟩ := h
  rcases h2 with ⟨hv, _⟩ | ⟨g', cap', cur, hv, hb, hh, hnc, hcm, hcs, ht⟩
  · cases hv
  · injection hv with e1 e2 e3
    injection e1 with e1
    injection e1 with e1
    subst e1; subst e2; subst e3
    refine ⟨by simp, .inr ⟨g, cap, cur.setIfInBounds k (byteV y), by rw [List.length_set], hb, Pts.set (w := w) (b := g) hh k (byteV y), by rw [List.length_set]; exact hnc, hcm, by rw [Array.size_setIfInBounds]; exact hcs, ?_⟩⟩
    rw [List.length_set, Array.toList_setIfInBounds, List.take_set, ht, List.map_set]
end Go.Proofs.Yteghpnlamdgpnaa
