/- An index: where the walk leaves. -/
import Derived.Test.YtjhmebkkdgpneaaBoxX
namespace Go.Proofs.Ytjhmebkkdgpneaa
open Go.RowKit Box
set_option linter.unusedVariables false
set_option linter.unusedSimpArgs false
abbrev TPR : TypeId := 37
/-- The closure that runs at the end: an error empties the results. -/
theorem ixclo_any (hl hu he : Nat) (lv : Value) (x e : Int) (u : FrameMode) (w : World) (h1 : Pts w hl #[lv] TPR) (h2 : Pts w hu #[.int .i64 x] 3) (h3 : Pts w he #[.int .i64 e] 23) (h12 : hl ≠ hu) :
    CallsD Try.prog 32 #[.pointer (some ⟨he, 0, none⟩), .pointer (some ⟨hl, 0, none⟩), .pointer (some ⟨hu, 0, none⟩)] u w fun r u' w' => u' = u ∧ (r = .returned (.tuple #[]) ∧
      (e = 0 → w' = w) ∧ (e ≠ 0 → Pts w' hl #[.slice none 0 0] TPR ∧ Pts w' hu #[.int .i64 0] 3 ∧ Frm (fun k => k = hl ∨ k = hu) w w')) := by
  have c3 : w.cell? ⟨he, 0, none⟩ = some (.int .i64 e) := h3.cell 0
  by_cases hz : e = 0
  · subst hz
    clear h1 h2 h3
    go_enter_d Try.func32, Try.ntmps32
    go_wp2
    go_end0
    exact ⟨rfl, fun _ => rfl, fun h => absurd rfl h⟩
  · have hz2 : (e != 0) = true := by simp [hz]
    have c1 : w.cell? ⟨hl, 0, none⟩ = some lv := h1.cell 0
    have z1 := h1.frozen 0
    have c2 : w.cell? ⟨hu, 0, none⟩ = some (.int .i64 x) := h2.cell 0
    have z2 := h2.frozen 0
    have R1 := Lib.hid ((h1.set 0 (.slice none 0 0)).other (p := ⟨hu, 0, none⟩) h12 (.int .i64 0))
    have R2 := Lib.hid ((h2.other (p := ⟨hl, 0, none⟩) (Ne.symm h12) (.slice none 0 0)).set 0 (.int .i64 0))
    have R3 := Lib.hid (((Frm.refl (fun k => k = hl ∨ k = hu) w).setCell (p := ⟨hl, 0, none⟩) (.inl rfl) (.slice none 0 0)).setCell (p := ⟨hu, 0, none⟩) (.inr rfl) (.int .i64 0))
    have HZ := Lib.hid hz
    clear h1 h2 h3 hz
    go_enter_d Try.func32, Try.ntmps32
    go_wp2
    go_end0
    exact ⟨rfl, fun h => absurd h HZ.out, fun _ => ⟨R1.out, R2.out, R3.out⟩⟩
/-- What an index' reading leaves. -/
def IxPost (R : List (Nat × Nat) × Nat × Int) (w : World) (e : Ending) (w' : World) : Prop :=
  ∃ v, e = .returned (.tuple #[v, .int .i64 (R.2.1 : Int), .int .i64 R.2.2]) ∧ OwnPr w' 38 w.heap.size v R.1 ∧ Below w.heap.size w w'
abbrev caughtD (he : Nat) : Deferred := { target := .fn (.func 21) #[], args := #[.pointer (some ⟨he, 0, none⟩)] }
abbrev ixcloD (hl hu he : Nat) : Deferred := { target := .fn (.func 32) #[.pointer (some ⟨he, 0, none⟩), .pointer (some ⟨hl, 0, none⟩), .pointer (some ⟨hu, 0, none⟩)], args := #[] }
theorem ix_door (x : Int) (hx : x ≠ 0) (lv : Value) (w0 w : World) (h : Nat) (hh : w0.heap.size = h) (pl : Pts w h #[lv] TPR) (pu : Pts w (h + 1) #[.int .i64 0] 3) (pe : Pts w (h + 2) #[.int .i64 0] 23) (be : Below h w0 w)
    (tmps : Array Value) (t2 : tmps[2]? = some (.pointer (some ⟨h, 0, none⟩))) (t3 : tmps[3]? = some (.pointer (some ⟨h + 1, 0, none⟩))) (t4 : tmps[4]? = some (.pointer (some ⟨h + 2, 0, none⟩))) :
    Leaves Try.prog Try.f18 tmps (IxPost ([], 0, x) w0) [caughtD (h + 2), ixcloD h (h + 1) (h + 2)] (.panicking [{ v := .iface 66 (.agg #[.int .i64 x]), recovered := false }]) w := by
  refine leaves_cons (f := 21) (args := #[.pointer (some ⟨h + 2, 0, none⟩)]) (by simp) (by simp [go_sem]) ?_
  refine (catch_panicking (h + 2) x 0 _ _ pe).mono ?_
  rintro e u' w1 ⟨rfl, rfl, hp, hf⟩
  have pl1 := pl.frm hf (by omega)
  have pu1 := pu.frm hf (by omega)
  have be1 : Below h w0 w1 := be.trans (hf.below (by have := be.size; omega) (fun k hk => by omega))
  refine leaves_cons (f := 32) (args := #[.pointer (some ⟨h + 2, 0, none⟩), .pointer (some ⟨h, 0, none⟩), .pointer (some ⟨h + 1, 0, none⟩)]) (by simp [settle]) (by simp [go_sem]) ?_
  refine (ixclo_any h (h + 1) (h + 2) lv 0 x _ _ pl1 pu1 hp (by omega)).mono ?_
  rintro e u' w2 ⟨rfl, rfl, _, h2⟩
  obtain ⟨q1, q2, q3⟩ := h2 hx
  have c0 := q1.cell 0
  have c1 := q2.cell 0
  have c2 := (hp.frm q3 (by omega)).cell 0
  have hbel : Below w0.heap.size w0 w2 := hh ▸ be1.trans (q3.below (by have := be1.size; omega) (fun k hk => by omega))
  simp [Leaves, settle, results, Try.results18, go_sem, c0, c1, c2, t2, t3, t4]
  exact ⟨_, rfl, OwnPr.nil _ _ _, hbel⟩
theorem ix_end (k : Nat) (l : List (Nat × Nat)) (lv : Value) (w0 w : World) (h : Nat) (hh : w0.heap.size = h) (pl : Pts w h #[lv] TPR) (pu : Pts w (h + 1) #[.int .i64 (k : Int)] 3) (pe : Pts w (h + 2) #[.int .i64 0] 23) (ho : OwnPr w 38 h lv l) (be : Below h w0 w)
    (tmps : Array Value) (t2 : tmps[2]? = some (.pointer (some ⟨h, 0, none⟩))) (t3 : tmps[3]? = some (.pointer (some ⟨h + 1, 0, none⟩))) (t4 : tmps[4]? = some (.pointer (some ⟨h + 2, 0, none⟩))) :
    Leaves Try.prog Try.f18 tmps (IxPost (l, k, 0) w0) [caughtD (h + 2), ixcloD h (h + 1) (h + 2)] .returning w := by
  refine leaves_cons (f := 21) (args := #[.pointer (some ⟨h + 2, 0, none⟩)]) (by simp) (by simp [go_sem]) ?_
  refine (catch_idle _ _).mono ?_
  rintro e u' w1 ⟨rfl, rfl, rfl⟩
  refine leaves_cons (f := 32) (args := #[.pointer (some ⟨h + 2, 0, none⟩), .pointer (some ⟨h, 0, none⟩), .pointer (some ⟨h + 1, 0, none⟩)]) (by simp [settle]) (by simp [go_sem]) ?_
  refine (ixclo_any h (h + 1) (h + 2) lv k 0 _ _ pl pu pe (by omega)).mono ?_
  rintro e u' w2 ⟨rfl, rfl, h2, _⟩
  obtain rfl := h2 rfl
  have c0 := pl.cell 0
  have c1 := pu.cell 0
  have c2 := pe.cell 0
  subst hh
  simp [Leaves, settle, results, Try.results18, go_sem, c0, c1, c2, t2, t3, t4]
  exact ⟨_, rfl, ho, be⟩
end Go.Proofs.Ytjhmebkkdgpneaa
