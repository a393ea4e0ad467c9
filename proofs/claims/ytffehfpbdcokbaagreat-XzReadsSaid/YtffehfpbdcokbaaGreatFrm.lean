/- Frames: what a call leaves as it was, and blocks that are known whole. No program in sight. -/
import Derived.WalkKit
import Derived.Deep.Quiet
namespace Go.Proofs.YtffehfpbdcokbaaGreat
open Go.RowKit

/-- Of the blocks of w, all but those of S are in w' as they were. -/
structure Frm (S : Nat → Prop) (w w' : World) : Prop where
  os : w'.os = w.os
  tape : w'.tape = w.tape
  output : w'.output = w.output
  size : w.heap.size ≤ w'.heap.size
  block : ∀ k, k < w.heap.size → ¬ S k → w'.heap[k]? = w.heap[k]?

/-- Block b holds the cells c, of type T, none of them frozen. -/
def Pts (w : World) (b : Nat) (c : Array Value) (T : TypeId) : Prop := w.heap[b]? = some (.cells c T (0, 0))

theorem Frm.refl (S : Nat → Prop) (w : World) : Frm S w w := ⟨rfl, rfl, rfl, Nat.le_refl _, fun _ _ _ => rfl⟩
theorem Frm.trans {S : Nat → Prop} {a b c : World} (h : Frm S a b) (k : Frm S b c) : Frm S a c :=
  ⟨k.os.trans h.os, k.tape.trans h.tape, k.output.trans h.output, Nat.le_trans h.size k.size, fun i hi hn => (k.block i (Nat.lt_of_lt_of_le hi h.size) hn).trans (h.block i hi hn)⟩
theorem Frm.mono {S S' : Nat → Prop} {a b : World} (h : Frm S a b) (hs : ∀ k, k < a.heap.size → S k → S' k) : Frm S' a b :=
  ⟨h.os, h.tape, h.output, h.size, fun i hi hn => h.block i hi (fun hS => hn (hs i hi hS))⟩
theorem Frm.below {S : Nat → Prop} {a b : World} {B : Nat} (h : Frm S a b) (hB : B ≤ a.heap.size) (hs : ∀ k, S k → B ≤ k) : Below B a b :=
  ⟨h.os, h.tape, h.output, h.size, fun k hk => h.block k (by omega) (fun hS => by have := hs k hS; omega)⟩
theorem Frm.of_below {S : Nat → Prop} {a b : World} (h : Below a.heap.size a b) : Frm S a b :=
  ⟨h.os, h.tape, h.output, h.size, fun k hk _ => h.block k hk⟩
theorem Frm.setCell {S : Nat → Prop} {a w : World} (h : Frm S a w) {p : Addr} (hp : S p.block) (u : Value) : Frm S a (w.setCell p u) :=
  h.trans ⟨rfl, rfl, rfl, by simp [World.setCell], fun k _ hk => Below.heap_setCell _ _ _ _ (fun e => hk (e ▸ hp))⟩
theorem Frm.alloc {S : Nat → Prop} {a w : World} (h : Frm S a w) (o : Obj) : Frm S a (w.alloc o) :=
  h.trans ⟨rfl, rfl, rfl, by simp, fun k hk _ => Below.heap_alloc _ _ _ (by omega)⟩
theorem Frm.drew {S : Nat → Prop} {a w : World} (h : Frm S a w) : Frm S a w.drew := ⟨h.os, h.tape, h.output, h.size, h.block⟩
theorem Frm.drewN {S : Nat → Prop} {a w : World} (h : Frm S a w) (n : Nat) : Frm S a (w.drewN n) := ⟨h.os, h.tape, h.output, h.size, h.block⟩

theorem below_drewN {B : Nat} {a w : World} (h : Below B a w) (n : Nat) : Below B a (w.drewN n) := ⟨h.os, h.tape, h.output, h.size, h.block⟩

theorem Pts.lt {w : World} {b : Nat} {c : Array Value} {T : TypeId} (h : Pts w b c T) : b < w.heap.size := by
  rcases Nat.lt_or_ge b w.heap.size with h' | h'
  · exact h'
  · simp [Pts, Array.getElem?_eq_none h'] at h
theorem Pts.cell {w : World} {b : Nat} {c : Array Value} {T : TypeId} (h : Pts w b c T) (o : Nat) : w.cell? ⟨b, o, none⟩ = c[o]? := by
  unfold Pts at h; simp [World.cell?, h]
theorem Pts.frozen {w : World} {b : Nat} {c : Array Value} {T : TypeId} (h : Pts w b c T) (o : Nat) : w.frozen? ⟨b, o, none⟩ = false := by
  unfold Pts at h; simp [World.frozen?, h]
theorem Pts.frm {S : Nat → Prop} {w w' : World} {b : Nat} {c : Array Value} {T : TypeId} (h : Pts w b c T) (hf : Frm S w w') (hn : ¬ S b) : Pts w' b c T :=
  (hf.block b h.lt hn).trans h
theorem Pts.below {B : Nat} {w w' : World} {b : Nat} {c : Array Value} {T : TypeId} (h : Pts w b c T) (hf : Below B w w') (hn : b < B) : Pts w' b c T :=
  (hf.block b hn).trans h
theorem Pts.set {w : World} {b : Nat} {c : Array Value} {T : TypeId} (h : Pts w b c T) (o : Nat) (v : Value) : Pts (w.setCell ⟨b, o, none⟩ v) b (c.setIfInBounds o v) T := by
  unfold Pts at *; simp [World.setCell, Array.getElem?_modify, h]
theorem Pts.other {w : World} {b : Nat} {c : Array Value} {T : TypeId} (h : Pts w b c T) {p : Addr} (hp : b ≠ p.block) (v : Value) : Pts (w.setCell p v) b c T := by
  unfold Pts at *; rw [Below.heap_setCell _ _ _ _ hp]; exact h
theorem Pts.alloc {w : World} {b : Nat} {c : Array Value} {T : TypeId} (h : Pts w b c T) (o : Obj) : Pts (w.alloc o) b c T := by
  have := h.lt
  unfold Pts at *; rw [Below.heap_alloc _ _ _ this]; exact h
theorem Pts.new (w : World) (c : Array Value) (T : TypeId) : Pts (w.alloc (.cells c T (0, 0))) w.heap.size c T := by
  show (w.heap.push _)[w.heap.size]? = _; simp
theorem Pts.drew {w : World} {b : Nat} {c : Array Value} {T : TypeId} (h : Pts w b c T) : Pts w.drew b c T := h
theorem Pts.drewN {w : World} {b : Nat} {c : Array Value} {T : TypeId} (h : Pts w b c T) (n : Nat) : Pts (w.drewN n) b c T := h
end Go.Proofs.YtffehfpbdcokbaaGreat
