/- A block's head, by the document: its box. -/
import Derived.Test.YtjhmebkkdgpneaaBoxBD
namespace Go.Proofs.Ytjhmebkkdgpneaa
open Go.RowKit Box
set_option linter.unusedVariables false
set_option linter.unusedSimpArgs false
namespace Box
def bxNum (r : List UInt8) (e : Int) : Nat × List UInt8 × Int :=
  if ¬ e = 0 then (0, r, e) else if ¬ (number r).2.2 = 0 then (0, r, 11) else ((number r).1, r.drop (number r).2.1, 0)
def bxMust (e : Int) (β : Bool) (x : Int) : Int := if e = 0 ∧ β = false then x else e
end Box
/-- A box: what is left, and the error. -/
structure BoxW (w0 w : World) (xb B : Nat) (r : List UInt8) (e : Int) : Prop where
  p : ∃ A c, Pts w xb #[.slice A r.length c, .int .i64 e] 63 ∧ r.length ≤ c ∧ c ≤ maxLen ∧ BRow w B A r
  hB : B ≤ xb
  f : Below B w0 w
section
variable {w0 w : World} {xb B : Nat} {r : List UInt8} {e : Int}
theorem BoxW.cell1 (h : BoxW w0 w xb B r e) : w.cell? ⟨xb, 1, none⟩ = some (.int .i64 e) := by
  obtain ⟨A, c, hp, _⟩ := h.p
  exact hp.cell 1
theorem BoxW.drewN (h : BoxW w0 w xb B r e) (n : Nat) : BoxW w0 (w.drewN n) xb B r e := by
  obtain ⟨A, c, hp, h1, h2, h3⟩ := h.p
  exact ⟨⟨A, c, hp.drewN n, h1, h2, h3.drewN n⟩, h.hB, below_drewN h.f n⟩
theorem BoxW.setE (h : BoxW w0 w xb B r e) (x : Int) : BoxW w0 (w.setCell ⟨xb, 1, none⟩ (.int .i64 x)) xb B r x := by
  obtain ⟨A, c, hp, h1, h2, h3⟩ := h.p
  have hb := (Below.refl B w).setCell (p := ⟨xb, 1, none⟩) h.hB (.int .i64 x)
  exact ⟨⟨A, c, hp.set 1 _, h1, h2, h3.below hb⟩, h.hB, h.f.trans hb⟩
end
theorem rmust_p (xb B : Nat) (r : List UInt8) (e x : Int) (β : Bool) (w0 w : World) (h : BoxW w0 w xb B r e) :
    Calls Try.prog 37 #[.pointer (some ⟨xb, 0, none⟩), .bool β, .int .i64 x] w fun o w' => o = .returned (.tuple #[]) ∧ BoxW w0 w' xb B r (bxMust e β x) := by
  have c1 := h.cell1
  have H := Lib.hid h
  have fz : w.frozen? ⟨xb, 1, none⟩ = false := by obtain ⟨A, c, hp, _⟩ := h.p; exact hp.frozen 1
  by_cases he : e = 0
  · cases β with
    | true =>
      have hm : bxMust e true x = e := by unfold bxMust; simp
      rw [hm]
      clear h hm
      subst he
      go_enter Try.func37, Try.ntmps37
      go_wp2
      go_end0
      exact ⟨rfl, H.out⟩
    | false =>
      have hm : bxMust e false x = x := by unfold bxMust; simp [he]
      rw [hm]
      have H2 := Lib.hid (h.setE x)
      clear h hm
      subst he
      go_enter Try.func37, Try.ntmps37
      go_wp2
      go_end0
      exact ⟨rfl, H2.out⟩
  · have hm : bxMust e β x = e := by unfold bxMust; simp [he]
    rw [hm]
    have hq : (e == 0) = false := by rw [beq_eq_false_iff_ne]; exact he
    clear h hm he
    go_enter Try.func37, Try.ntmps37
    go_wp2
    go_end0
    exact ⟨rfl, H.out⟩
set_option maxRecDepth 100000 in
theorem rnum_p (xb B : Nat) (r : List UInt8) (e : Int) (w0 w : World) (h : BoxW w0 w xb B r e) (hlen : r.length ≤ 1000000) :
    Calls Try.prog 36 #[.pointer (some ⟨xb, 0, none⟩)] w fun o w' => o = .returned (.int .u64 ((bxNum r e).1 : Int)) ∧ BoxW w0 w' xb B (bxNum r e).2.1 (bxNum r e).2.2 := by
  have c1 := h.cell1
  have H := Lib.hid h
  by_cases he : e = 0
  · obtain ⟨A, c, hp, hc, hcm, hr⟩ := h.p
    have hn := rnumber_p A r r.length c B w rfl hr (Nat.le_trans hlen (by decide))
    have c0 := hp.cell 0
    have z1 := hp.frozen 1
    have z0 := hp.frozen 0
    rcases num_cases r with ⟨hnum, hne⟩ | ⟨y, m, hnum, hy, hm⟩
    · have hb : bxNum r e = (0, r, 11) := by unfold bxNum; rw [if_neg (by simp [he]), if_pos hne]
      rw [hb]
      rw [hnum] at hn
      obtain ⟨x, hx⟩ : ∃ x, (number r).2.2 = x := ⟨_, rfl⟩
      rw [hx] at hn hne
      have hq : (x != 0) = true := by simp [hne]
      unfold errOf at hn
      have HN := Lib.hid hn
      have H2 := Lib.hid (h.setE 11)
      clear h hb hn hp hr hcm hnum hne hx hc
      subst he
      go_enter Try.func36, Try.ntmps36
      go_wp2_with fail
      refine HN.out.mono ?_; rintro o w1 ⟨rfl, rfl⟩
      go_wp2
      go_ret
      exact ⟨rfl, H2.out⟩
    · have hb : bxNum r e = (y, r.drop m, 0) := by unfold bxNum; rw [if_neg (by simp [he]), hnum]; simp
      rw [hb]
      rw [hnum] at hn
      unfold errOf at hn
      have HN := Lib.hid hn
      have hs := fun w => slice_fromX A r.length c m hm hc w
      have hr2 := hr.drop (k := m) hc
      obtain ⟨A2, hA2⟩ : ∃ A2, (if c = m then A else A.map (·.add m)) = A2 := ⟨_, rfl⟩
      rw [hA2] at hs hr2
      have hb1 := (Below.refl B w).setCell (p := ⟨xb, 0, none⟩) h.hB (.slice A2 (r.length - m) (c - m))
      have H2 : RowKit.Hid (BoxW w0 (w.setCell ⟨xb, 0, none⟩ (.slice A2 (r.length - m) (c - m))) xb B (r.drop m) 0) :=
        Lib.hid ⟨⟨A2, c - m, by have := hp.set 0 (.slice A2 (r.length - m) (c - m)); rw [he] at this; rw [List.length_drop]; exact this, by rw [List.length_drop]; omega, by omega, hr2.below hb1⟩, h.hB, h.f.trans hb1⟩
      clear h hb hn hp hr hcm hnum hc hA2 hr2 hb1 hm
      subst he
      go_enter Try.func36, Try.ntmps36
      go_wp2_with fail
      refine HN.out.mono ?_; rintro o w1 ⟨rfl, rfl⟩
      go_wp2
      go_ret
      exact ⟨rfl, H2.out⟩
  · have hb : bxNum r e = (0, r, e) := by unfold bxNum; rw [if_pos he]
    rw [hb]
    have hq : (e != 0) = true := by simp [he]
    clear h hb he
    go_enter Try.func36, Try.ntmps36
    go_wp2
    go_ret
    exact ⟨rfl, H.out⟩
end Go.Proofs.Ytjhmebkkdgpneaa
