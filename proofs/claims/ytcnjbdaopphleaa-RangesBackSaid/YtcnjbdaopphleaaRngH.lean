/- The encoder's order and Bit. -/
import Derived.Test.YtcnjbdaopphleaaRngG
namespace Go.Proofs.Ytcnjbdaopphleaa
open Go.RowKit Rng
set_option linter.unusedVariables false
set_option linter.unusedSimpArgs false
theorem Moved.refl (w : World) (v : Value) : Moved w v v := .inl rfl
theorem Moved.trans {w w1 : World} {v v1 v2 : Value} (h : Moved w v v1) (h2 : Moved w1 v1 v2) (hs : w.heap.size ≤ w1.heap.size) : Moved w v v2 := by
  rcases h2 with h2 | ⟨g, h2, hg⟩
  · rcases h with h | ⟨g, h, hg⟩
    · exact .inl (h2.trans h)
    · exact .inr ⟨g, h2.trans h, hg⟩
  · exact .inr ⟨g, h2, by omega⟩
theorem EncAt.nb {w : World} {T z b base : Nat} {v : Value} {e : Enc} (h : EncAt w T z b base v e) (hT : T ≠ 5) : v.ownBlock ≠ some b := by
  intro hq
  rcases h.o.form with ⟨e, _⟩ | ⟨g, cap, cur, e, _, hp', _⟩
  · rw [e] at hq; cases hq
  · rw [e] at hq
    injection hq with hq
    subst hq
    have e2 := hp'.symm.trans h.p
    simp at e2
    exact hT e2.2.symm
set_option maxRecDepth 100000 in
set_option maxHeartbeats 2000000 in
theorem eorder_p (b base : Nat) (v : Value) (e : Enc) (w : World) (h : EncAt w 66 0 b base v e) (hbase : base ≤ w.heap.size) (hlen : e.cnt < 1000000) (hs : e.Pre) :
    Calls Try.prog 32 #[.pointer (some ⟨b, 0, none⟩)] w fun r w' => ∃ v' : Value, r = .returned (.tuple #[]) ∧ EncAt w' 66 0 b base v' e.order ∧ Frm (fun x => x = b ∨ v.ownBlock = some x) w w' ∧ Moved w v v' := by
  obtain ⟨G, hG⟩ : ∃ G, e.order = G := ⟨_, rfl⟩
  have hGs : 16777216 ≤ G.size := by rw [← hG]; exact hs.order.s.1
  have HS := Lib.hid hs
  have HGS := Lib.hid hGs
  have HG := Lib.hid hG
  have HE := Lib.hid h
  have HC := Lib.hid hlen
  rw [hG]
  clear hs h hlen hG hGs
  go_enter Try.func32, Try.ntmps32
  go_wp2
  go_loopg [6] 1 (fun gn s6 wr => ∃ (e1 : Enc) (v1 : Value), EncAt wr 66 0 b base v1 e1 ∧ ((e1 = e ∧ gn = 1) ∨ e1 = G) ∧ Frm (fun x => x = b ∨ v.ownBlock = some x) w wr ∧ Moved w v v1)
  case atStart => exact ⟨e, v, HE.out, .inl ⟨rfl, rfl⟩, Frm.refl _ _, Moved.refl _ _⟩
  case round =>
    obtain ⟨e1, v1, he1, hcase, hf, hm⟩ := hrel
    have hp := he1.p
    have d1 : wr.cell? ⟨b, 1, none⟩ = some (.int .u32 e1.size) := by rw [hp.cell]; rfl
    have f1 := hp.frozen 1
    have E1 := Lib.hid he1
    have F1 := Lib.hid hf
    have M1 := Lib.hid hm
    clear hp he1 hf hm
    by_cases hlt : e1.size < 16777216
    · obtain ⟨rfl, rfl⟩ : e1 = e ∧ gk = 1 := by
        rcases hcase with h | h
        · exact h
        · rw [h] at hlt; have := HGS.out; omega
      have hsl := HS.out.s.1
      obtain ⟨s, hse⟩ : ∃ s, e1.size = s := ⟨_, rfl⟩
      rw [hse] at d1 hlt
      have hd : (s : Int) < 16777216 := by omega
      have hw1 : IntKind.u32.wrap ((s : Int) * 256) = ((s * 256 : Nat) : Int) := by rw [Go.IntWalk.u32_in _ (by omega)]; omega
      obtain ⟨s2, hs2⟩ : ∃ s2, s * 256 = s2 := ⟨_, rfl⟩
      rw [hs2] at hw1
      have HSE := Lib.hid hse
      have HS2 := Lib.hid hs2
      have HLT := Lib.hid hlt
      clear hcase hlt hse hs2 hsl
      go_wp2_with fail
      have hE2 : EncAt (wr.setCell ⟨b, 1, none⟩ (.int .u32 s2)) 66 0 b base v1 ⟨e1.low, e1.size * 256, e1.first, e1.more, e1.out, e1.closed⟩ := by
        refine ⟨?_, E1.out.o.other (p := ⟨b, 1, none⟩) (E1.out.nb (by decide)) _, ⟨E1.out.k.l, ?_⟩⟩
        · rw [HSE.out, HS2.out]; exact E1.out.p.set 1 _
        · have := HLT.out; rw [← HSE.out] at this; simp only; omega
      have hF2 := F1.out.setCell (p := ⟨b, 1, none⟩) (.inl rfl) (.int .u32 s2)
      refine (eshift_p b base v1 _ _ hE2 (Nat.le_trans hbase hF2.size) (Nat.le_of_lt HC.out)).mono ?_
      rintro r w3 ⟨v3, rfl, hE3, hF3, hM3⟩
      have hG3 : Enc.shift ⟨e1.low, e1.size * 256, e1.first, e1.more, e1.out, e1.closed⟩ = G := by
        rw [← HG.out]; unfold Enc.order; rw [if_pos (by have := HLT.out; rw [← HSE.out] at this; exact this)]
      rw [hG3] at hE3
      have E3 := Lib.hid hE3
      have F3 := Lib.hid (hF2.transR hF3 (fun q hq hh => hh.elim .inl (fun h2 => M1.out.own q hq h2)))
      have M3 := Lib.hid (M1.out.trans hM3 hF2.size)
      clear hE2 hF2 hE3 hF3 hM3 hG3
      go_wp2
      go_roundg 0
      case measure => omega
      case rel => exact ⟨G, v3, E3.out, .inr rfl, F3.out, M3.out⟩
    · have hd : ¬ ((e1.size : Int) < 16777216) := by omega
      have hG1 : e1 = G := by
        rcases hcase with ⟨h, _⟩ | h
        · rw [← HG.out, ← h, Enc.order_stay (by omega)]
        · exact h
      subst hG1
      clear hcase hlt
      go_wp2
      go_end0
      first
        | exact ⟨_, rfl, E1.out, F1.out, M1.out⟩
        | exact ⟨rfl, _, E1.out, F1.out, M1.out⟩
set_option maxRecDepth 100000 in
set_option maxHeartbeats 2000000 in
theorem eorder_r (b base : Nat) (v : Value) (e : Enc) (w : World) (h : EncAt w 68 1 b base v e) (hbase : base ≤ w.heap.size) (hlen : e.cnt < 1000000) (hs : e.Pre) :
    Calls Try.prog 33 #[.pointer (some ⟨b, 0, none⟩)] w fun r w' => ∃ v' : Value, r = .returned (.tuple #[]) ∧ EncAt w' 68 1 b base v' e.order ∧ Frm (fun x => x = b ∨ v.ownBlock = some x) w w' ∧ Moved w v v' := by
  obtain ⟨G, hG⟩ : ∃ G, e.order = G := ⟨_, rfl⟩
  have hGs : 16777216 ≤ G.size := by rw [← hG]; exact hs.order.s.1
  have HS := Lib.hid hs
  have HGS := Lib.hid hGs
  have HG := Lib.hid hG
  have HE := Lib.hid h
  have HC := Lib.hid hlen
  rw [hG]
  clear hs h hlen hG hGs
  go_enter Try.func33, Try.ntmps33
  go_wp2
  go_loopg [6] 1 (fun gn s6 wr => ∃ (e1 : Enc) (v1 : Value), EncAt wr 68 1 b base v1 e1 ∧ ((e1 = e ∧ gn = 1) ∨ e1 = G) ∧ Frm (fun x => x = b ∨ v.ownBlock = some x) w wr ∧ Moved w v v1)
  case atStart => exact ⟨e, v, HE.out, .inl ⟨rfl, rfl⟩, Frm.refl _ _, Moved.refl _ _⟩
  case round =>
    obtain ⟨e1, v1, he1, hcase, hf, hm⟩ := hrel
    have hp := he1.p
    have d1 : wr.cell? ⟨b, 1, none⟩ = some (.int .u32 e1.size) := by rw [hp.cell]; rfl
    have f1 := hp.frozen 1
    have E1 := Lib.hid he1
    have F1 := Lib.hid hf
    have M1 := Lib.hid hm
    clear hp he1 hf hm
    by_cases hlt : e1.size < 16777216
    · obtain ⟨rfl, rfl⟩ : e1 = e ∧ gk = 1 := by
        rcases hcase with h | h
        · exact h
        · rw [h] at hlt; have := HGS.out; omega
      have hsl := HS.out.s.1
      obtain ⟨s, hse⟩ : ∃ s, e1.size = s := ⟨_, rfl⟩
      rw [hse] at d1 hlt
      have hd : (s : Int) < 16777216 := by omega
      have hw1 : IntKind.u32.wrap ((s : Int) * 256) = ((s * 256 : Nat) : Int) := by rw [Go.IntWalk.u32_in _ (by omega)]; omega
      obtain ⟨s2, hs2⟩ : ∃ s2, s * 256 = s2 := ⟨_, rfl⟩
      rw [hs2] at hw1
      have HSE := Lib.hid hse
      have HS2 := Lib.hid hs2
      have HLT := Lib.hid hlt
      clear hcase hlt hse hs2 hsl
      go_wp2_with fail
      have hE2 : EncAt (wr.setCell ⟨b, 1, none⟩ (.int .u32 s2)) 68 1 b base v1 ⟨e1.low, e1.size * 256, e1.first, e1.more, e1.out, e1.closed⟩ := by
        refine ⟨?_, E1.out.o.other (p := ⟨b, 1, none⟩) (E1.out.nb (by decide)) _, ⟨E1.out.k.l, ?_⟩⟩
        · rw [HSE.out, HS2.out]; exact E1.out.p.set 1 _
        · have := HLT.out; rw [← HSE.out] at this; simp only; omega
      have hF2 := F1.out.setCell (p := ⟨b, 1, none⟩) (.inl rfl) (.int .u32 s2)
      refine (eshift_r b base v1 _ _ hE2 (Nat.le_trans hbase hF2.size) (Nat.le_of_lt HC.out)).mono ?_
      rintro r w3 ⟨v3, rfl, hE3, hF3, hM3⟩
      have hG3 : Enc.shift ⟨e1.low, e1.size * 256, e1.first, e1.more, e1.out, e1.closed⟩ = G := by
        rw [← HG.out]; unfold Enc.order; rw [if_pos (by have := HLT.out; rw [← HSE.out] at this; exact this)]
      rw [hG3] at hE3
      have E3 := Lib.hid hE3
      have F3 := Lib.hid (hF2.transR hF3 (fun q hq hh => hh.elim .inl (fun h2 => M1.out.own q hq h2)))
      have M3 := Lib.hid (M1.out.trans hM3 hF2.size)
      clear hE2 hF2 hE3 hF3 hM3 hG3
      go_wp2
      go_roundg 0
      case measure => omega
      case rel => exact ⟨G, v3, E3.out, .inr rfl, F3.out, M3.out⟩
    · have hd : ¬ ((e1.size : Int) < 16777216) := by omega
      have hG1 : e1 = G := by
        rcases hcase with ⟨h, _⟩ | h
        · rw [← HG.out, ← h, Enc.order_stay (by omega)]
        · exact h
      subst hG1
      clear hcase hlt
      go_wp2
      go_end0
      first
        | exact ⟨_, rfl, E1.out, F1.out, M1.out⟩
        | exact ⟨rfl, _, E1.out, F1.out, M1.out⟩
end Go.Proofs.Ytcnjbdaopphleaa
