/- The chances that a law begins with. -/
import Derived.Test.YtcnjbdaopphleaaRngD
import Derived.Test.YtcnjbdaopphleaaRow16
namespace Go.Proofs.Ytcnjbdaopphleaa
open Go.RowKit Rng
set_option linter.unusedVariables false
set_option linter.unusedSimpArgs false
theorem Try.info_u16 : (Try.prog.info? 40).map (fun i => (i.zero, i.size, i.bytes)) = some (some (.int .u16 0), 1, 2) := by kernel_rfl
theorem chances_any (A : Option Addr) (l : List Nat) (n c : Nat) (w : World) (hn : n = l.length) (hr : HRow w w.heap.size A l) (hlen : l.length ≤ 200) :
    Calls Try.prog 11 #[.slice A n c] w fun e w' => ∃ v, e = .returned v ∧ OwnH w' 40 w.heap.size v (l ++ [1024]) ∧ Below w.heap.size w w' := by
  subst hn
  have HR := Lib.hid hr
  clear hr
  go_enter Try.func11, Try.ntmps11
  go_wp2_with (at_builtin; refine wpList_append_half _ rfl (.tmp 4) (.tmp 5) 23 rfl 40 w.heap.size Try.underlying23 Try.info_u16 (.slice (some ⟨w.heap.size, 0, none⟩) 0 0) [] rfl ?own A l.length c w.heap.size l rfl rfl ?row ?len ?base ?k)
  case own => exact OwnH.made _ _ _ (Nat.le_refl _)
  case row => exact HR.out.below ((Below.refl _ _).alloc (Nat.le_refl _) _)
  case len => simp; omega
  case base => simp
  case k =>
    intro v1 w1 hown1 hfrm1 hnew1
    have hb1 : Below w.heap.size w w1 := ((Below.refl w.heap.size w).alloc (Nat.le_refl _) _).trans (hfrm1.below (B := w.heap.size) (by simp) (fun q hq => by simp [Value.ownBlock] at hq; omega))
    obtain ⟨A1, c1, rfl, hc1, hm1⟩ := hown1.slice2
    have O1 := Lib.hid hown1
    have B1 := Lib.hid hb1
    clear hown1 hfrm1 hnew1 hb1
    go_wp2_with (at_builtin; refine wpList_append_half _ rfl (.tmp 7) (.tmp 8) 23 rfl 40 w.heap.size Try.underlying23 Try.info_u16 (.slice A1 l.length c1) l rfl ?own2 (some ⟨w1.heap.size, 0, none⟩) 1 1 (w1.heap.size + 1) [1024] rfl rfl ?row2 ?len2 ?base2 ?k2)
    case own2 => exact O1.out.alloc _
    case row2 => intro _; exact ⟨w1.heap.size, 0, rfl, Nat.lt_succ_self _, fun j hj => by
        obtain rfl : j = 0 := by simpa using hj
        exact ((Pts.new w1 #[.int .u16 1024] 40).cell 0).trans rfl⟩
    case len2 => simp; omega
    case base2 => have := B1.out.size; simp; omega
    case k2 =>
      intro v2 w2 hown2 hfrm2 hnew2
      have hb2 : Below w.heap.size w w2 := (B1.out.alloc B1.out.size _).trans (hfrm2.below (B := w.heap.size) (B1.out.alloc B1.out.size _).size (fun q hq => (O1.out.lt hq).1))
      clear hnew2 hfrm2
      have O2 := Lib.hid hown2
      have B2 := Lib.hid hb2
      clear hown2 hb2
      go_wp2
      go_ret
      exact ⟨_, rfl, O2.out, B2.out⟩
end Go.Proofs.Ytcnjbdaopphleaa
