/- The chunks' plain model: chances, trees, lengths, distances, over any coder. -/
import Derived.Test.YteghpnlamdgpnaaRngP
import Derived.Test.YteghpnlamdgpnaaWinP
namespace Go.Proofs.Yteghpnlamdgpnaa.Lz
open Go.RowKit Rng Win
set_option linter.unusedVariables false
set_option linter.unusedSimpArgs false
/-- A coder: a bit by a chance (what it should be, as far as the coder asks for it), bits as they are. -/
structure Cod (σ : Type) where
  bit : σ → Nat → Nat → Bool × σ
  dir : σ → Nat → Nat → Nat × σ
/-- The coder that takes bits out. -/
def outC : Cod Dec := ⟨fun d c _ => d.bit c, fun d _ n => d.direct n 0⟩
def Dec.direct' := @Dec.direct
def b2n (b : Bool) : Nat := if b then 1 else 0
/-- Chances by their places: below 4096 the model's block, from there on the bytes' chances. -/
abbrev Pr := Nat → Nat
def upd (p : Pr) (i v : Nat) : Pr := fun j => if j = i then v else p j
theorem upd_same (p : Pr) (i v : Nat) : upd p i v i = v := if_pos rfl
theorem upd_ne (p : Pr) {i j : Nat} (v : Nat) (h : j ≠ i) : upd p i v j = p j := if_neg h
/-- A coder and the chances. -/
structure CP (σ : Type) where
  d : σ
  pr : Pr
section
variable {σ : Type} (co : Cod σ)
def bitAt (i x : Nat) (s : CP σ) : Nat × CP σ :=
  let b := co.bit s.d (fair (s.pr i)) x
  (b2n b.1, ⟨b.2, upd s.pr i (learn (fair (s.pr i)) b.1)⟩)
/-- n bits through a tree, the highest first: m is what is behind. -/
def treeGo (base x : Nat) : Nat → Nat → CP σ → Nat × CP σ
  | 0, m, s => (m, s)
  | n + 1, m, s => treeGo base x n (2 * m + (bitAt co (base + m) (x / 2 ^ n % 2) s).1) (bitAt co (base + m) (x / 2 ^ n % 2) s).2
def treeAt (base n x : Nat) (s : CP σ) : Nat × CP σ := ((treeGo co base x n 1 s).1 - 2 ^ n, (treeGo co base x n 1 s).2)
/-- n bits through a tree, the lowest first. -/
def backGo (base x n : Nat) : Nat → Nat → Nat → CP σ → Nat × CP σ
  | 0, _, o, s => (o, s)
  | k + 1, m, o, s => backGo base x n k (2 * m + (bitAt co (base + m) (x / 2 ^ (n - (k + 1)) % 2) s).1) (o + (bitAt co (base + m) (x / 2 ^ (n - (k + 1)) % 2) s).1 * 2 ^ (n - (k + 1))) (bitAt co (base + m) (x / 2 ^ (n - (k + 1)) % 2) s).2
def backAt (base n x : Nat) (s : CP σ) : Nat × CP σ := backGo co base x n n 1 0 s
/-- A length (from 2 on), by the set at a place. -/
def lenAt (base n p : Nat) (s : CP σ) : Nat × CP σ :=
  let a := bitAt co base (b2n (10 ≤ n)) s
  if a.1 = 0 then
    let t := treeAt co (base + 2 + p * 8) 3 (n - 2) a.2
    (2 + t.1, t.2)
  else
    let c := bitAt co (base + 1) (b2n (18 ≤ n)) a.2
    if c.1 = 0 then
      let t := treeAt co (base + 130 + p * 8) 3 (n - 10) c.2
      (10 + t.1, t.2)
    else
      let t := treeAt co (base + 258) 8 (n - 18) c.2
      (18 + t.1, t.2)
/-- A distance's slot. -/
def slotOf (d : Nat) : Nat := if d < 4 then d else 2 * Nat.log2 d + d / 2 ^ (Nat.log2 d - 1) % 2
/-- A distance, behind a length. -/
def distAt (d size : Nat) (s : CP σ) : Nat × CP σ :=
  let t := treeAt co (440 + (min size 5 - 2) * 64) 6 (slotOf d) s
  if t.1 < 4 then (t.1, t.2) else
  let k := t.1 / 2 - 1
  let base := (2 + t.1 % 2) * 2 ^ k
  if t.1 < 14 then
    let u := backAt co (696 + base - t.1) k (d - base) t.2
    (base + u.1, u.2)
  else
    let v := co.dir t.2.d ((d - base) / 16) (k - 4)
    let u := backAt co 824 4 (d % 16) ⟨v.2, t.2.pr⟩
    ((base + v.1 * 16 + u.1) % 4294967296, u.2)
/-- A byte by its tree, beside another one, as long as they are the same. -/
def litGo (base x : Nat) : Nat → Nat → CP σ → Nat × CP σ
  | 0, m, s => (m, s)
  | n + 1, m, s => litGo base x n (2 * m + (bitAt co (base + m) (x / 2 ^ n % 2) s).1) (bitAt co (base + m) (x / 2 ^ n % 2) s).2
def farGo (base x far : Nat) : Nat → Nat → CP σ → Nat × CP σ
  | 0, m, s => (m, s)
  | n + 1, m, s =>
    let want := far / 2 ^ n % 2
    let b := bitAt co (base + (1 + want) * 256 + m) (x / 2 ^ n % 2) s
    if b.1 = want then farGo base x far n (2 * m + b.1) b.2 else treeGo co base x n (2 * m + b.1) b.2
end
end Go.Proofs.Yteghpnlamdgpnaa.Lz
