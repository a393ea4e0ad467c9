/- The reference's XXH64. -/
import Derived.Test.YtjhmebkkdgpneaaSumsV
namespace Go.Proofs.Ytjhmebkkdgpneaa
open Go.RowKit

def lCells (L : Xxh.L4) : Array Value := #[.int .u64 L.a, .int .u64 L.b, .int .u64 L.c, .int .u64 L.d]
theorem lCells_set (L : Xxh.L4) (i : Nat) (x : Int) (hi : i < 4) : (lCells L).setIfInBounds i (.int .u64 x) = lCells (L.set i x) := by
  match i, hi with
  | 0, _ => rfl
  | 1, _ => rfl
  | 2, _ => rfl
  | 3, _ => rfl
theorem lCells_get (L : Xxh.L4) (i : Nat) (hi : i < 4) : (lCells L)[i]? = some (.int .u64 (L.get i)) := by
  match i, hi with
  | 0, _ => rfl
  | 1, _ => rfl
  | 2, _ => rfl
  | 3, _ => rfl

end Go.Proofs.Ytjhmebkkdgpneaa
