/- A region that draws its order and must end in a panic, in a function that defers: the frame's first slots and its deferred calls stay, whatever the order. Over any program. -/
import Derived.Deep.RegionWith
import Derived.Deep.RegionHeld3
import Derived.Defers
namespace Go.Proofs.Ytjhmebkkdgpneaa.Pan
/-- The frame's first slots are l, its deferred calls ds. -/
def Kept (l : List Value) (ds : List Deferred) (a : Act) : Prop := a.tmps.toList.take l.length = l ∧ a.defers = ds
theorem Kept.unput {l : List Value} {ds : List Deferred} {a : Act} {d : Nat} {v : Value} (h : Kept l ds (a.put (some d) v)) (hd : l.length ≤ d) : Kept l ds a := by
  obtain ⟨h1, h2⟩ := h
  refine ⟨?_, h2⟩
  have e : (a.put (some d) v).tmps = a.tmps.setIfInBounds d v := rfl
  rw [e, Array.toList_setIfInBounds, List.take_set_of_le hd] at h1
  exact h1
theorem Kept.get {l : List Value} {ds : List Deferred} {a : Act} (h : Kept l ds a) (i : Nat) (hi : i < l.length) : a.tmps[i]? = l[i]? := by
  have h1 := congrArg (fun l => l[i]?) h.1
  simp only [List.getElem?_take, hi, if_true, Array.getElem?_toList] at h1
  exact h1
/-- A panic of this chain, in a world of S; the frame kept. -/
def OnlyPanic (c0 : List PanicEntry) (S : World → Prop) (l : List Value) (ds : List Deferred) : Exit → Act → World → Prop
  | .panic c, a, w => c = c0 ∧ S w ∧ Kept l ds a
  | _, _, _ => False
theorem wp_only_panic {P : Program} {id : Nat} {ops : Array Oper} {b : Bool} {Q : Exit → Act → World → Prop} {a : Act} {w : World} (c0 : List PanicEntry) (S : World → Prop) (l : List Value) (ds : List Deferred)
    (hQ : ∀ a w, S w → Kept l ds a → Q (.panic c0) a w) (h : (Code.region id ops b).wp P (OnlyPanic c0 S l ds) a w) : (Code.region id ops b).wp P Q a w :=
  Code.wp_mono (fun e a w h => by
    cases e <;> first
      | exact (h : False).elim
      | (obtain ⟨rfl, h2, h3⟩ := h; exact hQ _ _ h2 h3)) h
end Go.Proofs.Ytjhmebkkdgpneaa.Pan
