/- append of bytes, as one step of a region that draws its order. Over any program. -/
import Derived.Test.YteghpnlamdgpnaaBytes
import Derived.Deep.RegionLaw
namespace Go.Proofs.Yteghpnlamdgpnaa
open Go.RowKit
theorem stepR_append_bytes {P : Program} (w : World) {ops : Array Oper} {o : Oper} {a : Act} {K : Act → World → Prop} {Q : Exit → Act → World → Prop} {E : Prop} (hg : o.guard = none) (s x : Operand) (t : TypeId)
    (ho : o.op = .call { callee := .builtin .append, args := #[s, x], argTypes := #[t, t] })
    (T base : Nat) (ht : P.underlying t = some (.slice T)) (hinfo : (P.info? T).map (fun i => (i.zero, i.size, i.bytes)) = some (some (.int .u8 0), 1, 1))
    (v : Value) (bs : List UInt8) (hs : a.eval s = v) (hown : OwnB w T base v bs) (A : Option Addr) (m c B : Nat) (news : List UInt8) (hx : a.eval x = .slice A m c) (hm : m = news.length) (hnews : BRow w B A news)
    (hlen : bs.length + news.length ≤ 140737488355328) (hbase : base ≤ w.heap.size)
    (h : ∀ v' w', OwnB w' T base v' (bs ++ news) → Frm (fun k => v.ownBlock = some k) w w' → (v'.ownBlock = v.ownBlock ∨ v'.ownBlock = some w.heap.size) → K (a.put o.dst v') w') :
    if Region.wanted o (yielded ops a.tmps) = true then Oper.wp P o a w K Q else E := by
  have hw : Region.wanted o (yielded ops a.tmps) = true := by simp [Region.wanted, hg]
  rw [if_pos hw]
  exact wp_append_bytes w s x t ho T base ht hinfo v bs hs hown A m c B news hx hm hnews hlen hbase h
end Go.Proofs.Yteghpnlamdgpnaa
