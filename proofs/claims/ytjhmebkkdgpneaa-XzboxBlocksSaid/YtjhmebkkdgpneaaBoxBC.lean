/- A block's head: the walk of Block. -/
import Derived.Test.YtjhmebkkdgpneaaBoxBB
import Derived.Deep.RegionHeld3
namespace Go.Proofs.Ytjhmebkkdgpneaa
open Go.RowKit Box
set_option linter.unusedVariables false
set_option linter.unusedSimpArgs false
abbrev BlkR := Int × Nat × Nat × Nat × Int
def blkOf (R : BkR) (n : Nat) : BlkR :=
  match R with
  | .ok (s, p, q) => (s, n, p, q, 0)
  | .error x => (0, 0, 0, 0, x)
/-- What a block's head tells. -/
def blockOf (bs : List UInt8) : BlkR :=
  match bs with
  | [] => (0, 0, 0, 0, 10)
  | b :: r =>
    if (b :: r).length < (b.toNat + 1) * 4 then (0, 0, 0, 0, 10)
    else if b = 0 then (0, 0, 0, 0, 11)
    else if ¬ sealedB ((b :: r).take ((b.toNat + 1) * 4)) = true then (0, 0, 0, 0, 11)
    else blkOf (bkBody ((((b :: r).take ((b.toNat + 1) * 4)).drop 1).take ((b.toNat + 1) * 4 - 5))) ((b.toNat + 1) * 4)
def blkV (R : BlkR) : Value := .tuple #[.int .i64 R.1, .int .i64 (R.2.1 : Int), .int .u64 (R.2.2.1 : Int), .int .u64 (R.2.2.2.1 : Int), .int .i64 R.2.2.2.2]
def BlkPost (R : BlkR) (w : World) (e : Ending) (w' : World) : Prop := e = .returned (blkV R) ∧ Below w.heap.size w w'
/-- The results' variables of a block's head that is being read. -/
structure BkAt (w0 w : World) (s : Int) (n p q : Nat) : Prop where
  ps : Pts w w0.heap.size #[.int .i64 s] 3
  pn : Pts w (w0.heap.size + 1) #[.int .i64 (n : Int)] 3
  pp : Pts w (w0.heap.size + 2) #[.int .u64 (p : Int)] 26
  pq : Pts w (w0.heap.size + 3) #[.int .u64 (q : Int)] 26
  pe : Pts w (w0.heap.size + 4) #[.int .i64 0] 23
  be : Below w0.heap.size w0 w
section
variable {w0 w w' : World} {s : Int} {n p q : Nat}
theorem BkAt.frm (h : BkAt w0 w s n p q) {S : Nat → Prop} (hf : Frm S w w') (hS : ∀ k, S k → w0.heap.size + 5 ≤ k) : BkAt w0 w' s n p q :=
  ⟨h.ps.frm hf (fun e => by have := hS _ e; omega), h.pn.frm hf (fun e => by have := hS _ e; omega), h.pp.frm hf (fun e => by have := hS _ e; omega), h.pq.frm hf (fun e => by have := hS _ e; omega), h.pe.frm hf (fun e => by have := hS _ e; omega),
    h.be.trans (hf.below h.be.size (fun k hk => by have := hS _ hk; omega))⟩
theorem BkAt.still (h : BkAt w0 w s n p q) (hb : Below w.heap.size w w') : BkAt w0 w' s n p q := h.frm (S := fun _ => False) (Frm.of_below hb) (fun k h => h.elim)
end
theorem bkclo_any (h : Nat) (s e : Int) (n p q : Nat) (u : FrameMode) (w0 w : World) (hh : w0.heap.size = h) (ps : Pts w h #[.int .i64 s] 3) (pn : Pts w (h + 1) #[.int .i64 (n : Int)] 3) (pp : Pts w (h + 2) #[.int .u64 (p : Int)] 26) (pq : Pts w (h + 3) #[.int .u64 (q : Int)] 26) (pe : Pts w (h + 4) #[.int .i64 e] 23) (be : Below h w0 w) :
    CallsD Try.prog 34 #[.pointer (some ⟨h + 4, 0, none⟩), .pointer (some ⟨h, 0, none⟩), .pointer (some ⟨h + 1, 0, none⟩), .pointer (some ⟨h + 2, 0, none⟩), .pointer (some ⟨h + 3, 0, none⟩)] u w fun r u' w' => u' = u ∧ (r = .returned (.tuple #[]) ∧
      (e = 0 → w' = w) ∧ (e ≠ 0 → Pts w' h #[.int .i64 0] 3 ∧ Pts w' (h + 1) #[.int .i64 0] 3 ∧ Pts w' (h + 2) #[.int .u64 0] 26 ∧ Pts w' (h + 3) #[.int .u64 0] 26 ∧ Pts w' (h + 4) #[.int .i64 e] 23 ∧ Below h w0 w')) := by
  have c3 : w.cell? ⟨h + 4, 0, none⟩ = some (.int .i64 e) := pe.cell 0
  by_cases hz : e = 0
  · subst hz
    clear ps pn pp pq pe
    go_enter_d Try.func34, Try.ntmps34
    go_wp2
    go_end0
    exact ⟨rfl, fun _ => rfl, fun h => absurd rfl h⟩
  · have hz2 : (e != 0) = true := by simp [hz]
    have c0 : w.cell? ⟨h, 0, none⟩ = some (.int .i64 s) := ps.cell 0
    have z0 := ps.frozen 0
    have c1 : w.cell? ⟨h + 1, 0, none⟩ = some (.int .i64 (n : Int)) := pn.cell 0
    have z1 := pn.frozen 0
    have c2 : w.cell? ⟨h + 2, 0, none⟩ = some (.int .u64 (p : Int)) := pp.cell 0
    have z2 := pp.frozen 0
    have c4 : w.cell? ⟨h + 3, 0, none⟩ = some (.int .u64 (q : Int)) := pq.cell 0
    have z4 := pq.frozen 0
    have R1 := Lib.hid ((((ps.set 0 (.int .i64 0)).other (p := ⟨h + 1, 0, none⟩) (by show h ≠ h + 1; omega) (.int .i64 0)).other (p := ⟨h + 2, 0, none⟩) (by show h ≠ h + 2; omega) (.int .u64 0)).other (p := ⟨h + 3, 0, none⟩) (by show h ≠ h + 3; omega) (.int .u64 0))
    have R2 := Lib.hid ((((pn.other (p := ⟨h, 0, none⟩) (by show h + 1 ≠ h; omega) (.int .i64 0)).set 0 (.int .i64 0)).other (p := ⟨h + 2, 0, none⟩) (by show h + 1 ≠ h + 2; omega) (.int .u64 0)).other (p := ⟨h + 3, 0, none⟩) (by show h + 1 ≠ h + 3; omega) (.int .u64 0))
    have R3 := Lib.hid ((((pp.other (p := ⟨h, 0, none⟩) (by show h + 2 ≠ h; omega) (.int .i64 0)).other (p := ⟨h + 1, 0, none⟩) (by show h + 2 ≠ h + 1; omega) (.int .i64 0)).set 0 (.int .u64 0)).other (p := ⟨h + 3, 0, none⟩) (by show h + 2 ≠ h + 3; omega) (.int .u64 0))
    have R4 := Lib.hid ((((pq.other (p := ⟨h, 0, none⟩) (by show h + 3 ≠ h; omega) (.int .i64 0)).other (p := ⟨h + 1, 0, none⟩) (by show h + 3 ≠ h + 1; omega) (.int .i64 0)).other (p := ⟨h + 2, 0, none⟩) (by show h + 3 ≠ h + 2; omega) (.int .u64 0)).set 0 (.int .u64 0))
    have R5 := Lib.hid ((((pe.other (p := ⟨h, 0, none⟩) (by show h + 4 ≠ h; omega) (.int .i64 0)).other (p := ⟨h + 1, 0, none⟩) (by show h + 4 ≠ h + 1; omega) (.int .i64 0)).other (p := ⟨h + 2, 0, none⟩) (by show h + 4 ≠ h + 2; omega) (.int .u64 0)).other (p := ⟨h + 3, 0, none⟩) (by show h + 4 ≠ h + 3; omega) (.int .u64 0))
    have R6 := Lib.hid ((((be.setCell (p := ⟨h, 0, none⟩) (Nat.le_refl _) (.int .i64 0)).setCell (p := ⟨h + 1, 0, none⟩) (by show h ≤ h + 1; omega) (.int .i64 0)).setCell (p := ⟨h + 2, 0, none⟩) (by show h ≤ h + 2; omega) (.int .u64 0)).setCell (p := ⟨h + 3, 0, none⟩) (by show h ≤ h + 3; omega) (.int .u64 0))
    have HZ := Lib.hid hz
    clear ps pn pp pq pe hz
    go_enter_d Try.func34, Try.ntmps34
    go_wp2
    go_end0
    exact ⟨rfl, fun h => absurd h HZ.out, fun _ => ⟨R1.out, R2.out, R3.out, R4.out, R5.out, R6.out⟩⟩
abbrev bkcloD (h : Nat) : Deferred := { target := .fn (.func 34) #[.pointer (some ⟨h + 4, 0, none⟩), .pointer (some ⟨h, 0, none⟩), .pointer (some ⟨h + 1, 0, none⟩), .pointer (some ⟨h + 2, 0, none⟩), .pointer (some ⟨h + 3, 0, none⟩)], args := #[] }
theorem bk_door (x : Int) (hx : x ≠ 0) (s : Int) (n p q : Nat) (w0 w : World) (S : BkAt w0 w s n p q)
    (tmps : Array Value) (t2 : tmps[2]? = some (.pointer (some ⟨w0.heap.size, 0, none⟩))) (t3 : tmps[3]? = some (.pointer (some ⟨w0.heap.size + 1, 0, none⟩))) (t4 : tmps[4]? = some (.pointer (some ⟨w0.heap.size + 2, 0, none⟩))) (t5 : tmps[5]? = some (.pointer (some ⟨w0.heap.size + 3, 0, none⟩))) (t6 : tmps[6]? = some (.pointer (some ⟨w0.heap.size + 4, 0, none⟩))) :
    Leaves Try.prog Try.f19 tmps (BlkPost (0, 0, 0, 0, x) w0) [caughtD (w0.heap.size + 4), bkcloD w0.heap.size] (.panicking [{ v := .iface 66 (.agg #[.int .i64 x]), recovered := false }]) w := by
  refine leaves_cons (f := 21) (args := #[.pointer (some ⟨w0.heap.size + 4, 0, none⟩)]) (by simp) (by simp [go_sem]) ?_
  refine (catch_panicking (w0.heap.size + 4) x 0 _ _ S.pe).mono ?_
  rintro e u' w1 ⟨rfl, rfl, hp, hf⟩
  refine leaves_cons (f := 34) (args := #[.pointer (some ⟨w0.heap.size + 4, 0, none⟩), .pointer (some ⟨w0.heap.size, 0, none⟩), .pointer (some ⟨w0.heap.size + 1, 0, none⟩), .pointer (some ⟨w0.heap.size + 2, 0, none⟩), .pointer (some ⟨w0.heap.size + 3, 0, none⟩)]) (by simp [settle]) (by simp [go_sem]) ?_
  refine (bkclo_any w0.heap.size s x n p q _ w0 _ rfl (S.ps.frm hf (by omega)) (S.pn.frm hf (by omega)) (S.pp.frm hf (by omega)) (S.pq.frm hf (by omega)) hp (S.be.trans (hf.below S.be.size (fun k hk => by omega)))).mono ?_
  rintro e u' w2 ⟨rfl, rfl, _, h2⟩
  obtain ⟨q1, q2, q3, q4, q5, q6⟩ := h2 hx
  have c0 := q1.cell 0
  have c1 := q2.cell 0
  have c2 := q3.cell 0
  have c3 := q4.cell 0
  have c4 := q5.cell 0
  simp [Leaves, settle, results, Try.results19, go_sem, c0, c1, c2, c3, c4, t2, t3, t4, t5, t6, BlkPost, blkV]
  exact q6
theorem bk_end (s : Int) (n p q : Nat) (w0 w : World) (S : BkAt w0 w s n p q)
    (tmps : Array Value) (t2 : tmps[2]? = some (.pointer (some ⟨w0.heap.size, 0, none⟩))) (t3 : tmps[3]? = some (.pointer (some ⟨w0.heap.size + 1, 0, none⟩))) (t4 : tmps[4]? = some (.pointer (some ⟨w0.heap.size + 2, 0, none⟩))) (t5 : tmps[5]? = some (.pointer (some ⟨w0.heap.size + 3, 0, none⟩))) (t6 : tmps[6]? = some (.pointer (some ⟨w0.heap.size + 4, 0, none⟩))) :
    Leaves Try.prog Try.f19 tmps (BlkPost (s, n, p, q, 0) w0) [caughtD (w0.heap.size + 4), bkcloD w0.heap.size] .returning w := by
  refine leaves_cons (f := 21) (args := #[.pointer (some ⟨w0.heap.size + 4, 0, none⟩)]) (by simp) (by simp [go_sem]) ?_
  refine (catch_idle _ _).mono ?_
  rintro e u' w1 ⟨rfl, rfl, rfl⟩
  refine leaves_cons (f := 34) (args := #[.pointer (some ⟨w0.heap.size + 4, 0, none⟩), .pointer (some ⟨w0.heap.size, 0, none⟩), .pointer (some ⟨w0.heap.size + 1, 0, none⟩), .pointer (some ⟨w0.heap.size + 2, 0, none⟩), .pointer (some ⟨w0.heap.size + 3, 0, none⟩)]) (by simp [settle]) (by simp [go_sem]) ?_
  refine (bkclo_any w0.heap.size s 0 n p q _ w0 _ rfl S.ps S.pn S.pp S.pq S.pe S.be).mono ?_
  rintro e u' w2 ⟨rfl, rfl, h2, _⟩
  obtain rfl := h2 rfl
  have c0 := S.ps.cell 0
  have c1 := S.pn.cell 0
  have c2 := S.pp.cell 0
  have c3 := S.pq.cell 0
  have c4 := S.pe.cell 0
  simp [Leaves, settle, results, Try.results19, go_sem, c0, c1, c2, c3, c4, t2, t3, t4, t5, t6, BlkPost, blkV]
  exact S.be
end Go.Proofs.Ytjhmebkkdgpneaa
