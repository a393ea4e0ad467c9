/- What a chunk leaves by: the deferred function, and plain chunks. -/
import Derived.Test.YteghpnlamdgpnaaLzR
import Derived.Defers
import Derived.Recover
import Derived.WalkSmall
import Derived.Laws.Pointers
namespace Go.Proofs.Yteghpnlamdgpnaa
open Go.RowKit Rng Lz Win
set_option linter.unusedVariables false
set_option linter.unusedSimpArgs false
/-- A panic that says that a chunk is none. -/
def wrongP (x : Int) : List PanicEntry := [{ v := .iface 62 (.agg #[.int .i64 x]), recovered := false }]
set_option maxRecDepth 100000 in
theorem assert_lzwrong (V : Value) (w : World) : (Instr.typeAssert (.iface 62 V) 20 62 true).run Try.prog w = .ok (.tuple #[V, .bool true]) w := rfl
set_option maxRecDepth 100000 in
theorem chunk_caught (b c : Nat) (x x0 : Int) (tv : Value) (older : List PanicEntry) (w : World) (hb : Pts w b #[tv] 22) (hc : Pts w c #[.int .i64 x0] 24) :
    CallsD Try.prog 15 #[.pointer (some ⟨b, 0, none⟩), .pointer (some ⟨c, 0, none⟩)] (.panicking ({ v := .iface 62 (.agg #[.int .i64 x]), recovered := false } :: older)) w fun e u' w' =>
      e = .returned (.tuple #[]) ∧ u' = .panicking ({ v := .iface 62 (.agg #[.int .i64 x]), recovered := true } :: older) ∧ Pts w' b #[.slice none 0 0] 22 ∧ Pts w' c #[.int .i64 11] 24 ∧ Frm (fun q => q = b ∨ q = c) w w' := by
  refine callsD_of_wpS Try.func15 rfl fun c₀ cs hu => ?_
  apply wpS_seq
  apply wpS_region
  simp [wpOpsS, go_sem, recoverD, hu, Try.ntmps15, Exit.thenS]
  refine wpS_of_wp ?_
  show Code.wp _ _ _ { tmps := #[.pointer (some ⟨b, 0, none⟩), .pointer (some ⟨c, 0, none⟩), undef, undef, undef, .iface 62 (.agg #[.int .i64 x]), undef, undef, undef, undef, undef], defers := [] } w
  have hta := assert_lzwrong (.agg #[.int .i64 x])
  have hne : c ≠ b := hc.ne_of hb (by decide)
  have h1 := hb.alloc (.cells #[.int .i64 x] 62)
  have h2 := hc.alloc (.cells #[.int .i64 x] 62)
  have z1 := h1.frozen 0
  have c1 := h1.cell 0
  have h3 := h2.other (p := ⟨b, 0, none⟩) hne (.slice none 0 0)
  have z3 := h3.frozen 0
  have c3 := h3.cell 0
  have hr1 := (h1.set 0 (.slice none 0 0)).other (p := ⟨c, 0, none⟩) hne.symm (.int .i64 11)
  have hr2 := h3.set 0 (.int .i64 11)
  have hf : Frm (fun q => q = b ∨ q = c) w (((w.alloc (.cells #[.int .i64 x] 62)).setCell ⟨b, 0, none⟩ (.slice none 0 0)).setCell ⟨c, 0, none⟩ (.int .i64 11)) := (((Frm.refl _ w).alloc _).setCell (.inl rfl) _).setCell (.inr rfl) _
  have HR1 := Lib.hid hr1
  have HR2 := Lib.hid hr2
  have HF := Lib.hid hf
  clear h1 h2 h3 hr1 hr2 hf hb hc
  go_wp2
  refine ⟨rfl, _, rfl, _, results_none rfl _ _ _, rfl, rfl, HR1.out, HR2.out, HF.out⟩
set_option maxRecDepth 100000 in
theorem chunk_idle (b c : Nat) (w : World) : CallsD Try.prog 15 #[.pointer (some ⟨b, 0, none⟩), .pointer (some ⟨c, 0, none⟩)] .returning w fun e u' w' => e = .returned (.tuple #[]) ∧ u' = .returning ∧ w' = w := by
  refine callsD_of_wpS Try.func15 rfl fun c₀ cs hu => ?_
  apply wpS_seq
  apply wpS_region
  simp [wpOpsS, go_sem, recoverD, hu, Try.ntmps15, Exit.thenS]
  refine wpS_of_wp ?_
  show Code.wp _ _ _ { tmps := #[.pointer (some ⟨b, 0, none⟩), .pointer (some ⟨c, 0, none⟩), undef, undef, undef, .nilIface, undef, undef, undef, undef, undef], defers := [] } w
  go_wp2
  refine ⟨rfl, .returning, by cases c₀; simp at hu; subst hu; rfl, _, results_none rfl _ _ _, rfl, rfl, rfl⟩
end Go.Proofs.Yteghpnlamdgpnaa
