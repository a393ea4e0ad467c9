/- Texts of this proof, put together: BoxS, BoxT, BoxH, BoxI, BoxJ, Panic, BoxF, BoxG, BoxK, BoxX, BoxY, BoxZ, BoxU, BoxV, BoxBA, BoxBB, BoxBC, Sized, BoxB, BoxM, XzP, XzQ, XzD, XzE, XzF. -/
import Derived.OwnWalk
import Derived.Deep.RegionWith
import Derived.Deep.RegionHeld3
import Derived.Defers
import Derived.Deep.RegionLaw
import Derived.Deep.CutRange
import Derived.Test.YtgahfpflhhfhfaaGreatOpen
import Derived.SizedLaws
import Derived.Test.YtgahfpflhhfhfaaGreatBu1
import Derived.Test.YtgahfpflhhfhfaaGreatBu2
import Derived.Test.YtgahfpflhhfhfaaGreatBu3
set_option linter.unusedVariables false
set_option linter.unusedSimpArgs false
/- Seals: four bytes of a CRC. -/
namespace Go.Proofs.YtgahfpflhhfhfaaGreat
open Go.RowKit Box
set_option linter.unusedVariables false
set_option linter.unusedSimpArgs false
theorem OwnB.of_cells (w : World) (T base : Nat) (bs : List UInt8) (hb : base ≤ w.heap.size) (hm : bs.length ≤ maxLen) : OwnB (w.alloc (.cells (bs.map byteV).toArray T)) T base (.slice (some ⟨w.heap.size, 0, none⟩) bs.length bs.length) bs :=
  ⟨by simp, .inr ⟨w.heap.size, bs.length, (bs.map byteV).toArray, rfl, hb, Pts.new w _ T, Nat.le_refl _, hm, by simp, by simp [List.take_of_length_le]⟩⟩
/-- The four bytes of a number. -/
def four (x : Nat) : List UInt8 := [UInt8.ofNat x, UInt8.ofNat (x / 256), UInt8.ofNat (x / 65536), UInt8.ofNat (x / 16777216)]
def sealB (bs : List UInt8) : List UInt8 := four (crc32 bs)
theorem byte_of (x : Nat) : IntKind.u8.wrap (x : Int) = ((UInt8.ofNat x).toNat : Int) := by rw [IntKind.wrap_u8', UInt8.toNat_ofNat']; omega
theorem byte_div (x k : Nat) : IntKind.u8.wrap ((x : Int) / k) = ((UInt8.ofNat (x / k)).toNat : Int) := by
  rw [show ((x : Int) / k) = ((x / k : Nat) : Int) by simp]; exact byte_of _
set_option maxRecDepth 100000 in
theorem seal_p (A : Option Addr) (bs : List UInt8) (n c : Nat) (w : World) (hn : n = bs.length) (hr : BRow w w.heap.size A bs) (hlen : bs.length ≤ 140737488355328) :
    Calls Tryz.prog 59 #[.slice A n c] w fun e w' => ∃ v, e = .returned v ∧ OwnB w' 5 w.heap.size v (sealB bs) ∧ Below w.heap.size w w' := by
  have HR := Lib.hid hr
  have HN := Lib.hid hn
  have HL := Lib.hid hlen
  have hc := crc32_any A bs n c w hn hr hlen
  obtain ⟨x, hx⟩ : ∃ x, crc32 bs = x := ⟨_, rfl⟩
  rw [hx] at hc
  have hs : sealB bs = four x := by unfold sealB; rw [hx]
  rw [hs]
  have HC := Lib.hid hc
  clear hr hn hlen hc hs hx
  go_enter Tryz.func59, Tryz.ntmps59
  go_wp2_with fail
  refine HC.out.mono ?_; rintro r w1 ⟨rfl, hb1⟩
  have O1 : ∀ T, OwnB (w1.alloc (.cells ((four x).map byteV).toArray T)) T w.heap.size (.slice (some ⟨w1.heap.size, 0, none⟩) 4 4) (four x) := fun T => OwnB.of_cells w1 T _ (four x) hb1.size (by unfold maxLen four; simp)
  have B1 := Lib.hid hb1
  have OO := Lib.hid O1
  have g0 := byte_of x
  have g1 : IntKind.u8.wrap ((x : Int) / 256) = _ := byte_div x 256
  have g2 : IntKind.u8.wrap ((x : Int) / 65536) = _ := byte_div x 65536
  have g3 : IntKind.u8.wrap ((x : Int) / 16777216) = _ := byte_div x 16777216
  clear O1 hb1
  go_wp2
  go_ret
  exact ⟨_, rfl, OO.out _, B1.out.alloc B1.out.size _⟩
set_option maxRecDepth 100000 in
theorem rseal_p (A : Option Addr) (bs : List UInt8) (n c : Nat) (w : World) (hn : n = bs.length) (hr : BRow w w.heap.size A bs) (hlen : bs.length ≤ 140737488355328) :
    Calls Tryz.prog 25 #[.slice A n c] w fun e w' => ∃ v, e = .returned v ∧ OwnB w' 5 w.heap.size v (sealB bs) ∧ Below w.heap.size w w' := by
  have HR := Lib.hid hr
  have HN := Lib.hid hn
  have HL := Lib.hid hlen
  have hc := rcrc32_any' A bs n c _ w hn hr hlen
  obtain ⟨x, hx⟩ : ∃ x, crc32 bs = x := ⟨_, rfl⟩
  rw [hx] at hc
  have hs : sealB bs = four x := by unfold sealB; rw [hx]
  rw [hs]
  have HC := Lib.hid hc
  clear hr hn hlen hc hs hx
  go_enter Tryz.func25, Tryz.ntmps25
  go_wp2_with fail
  refine HC.out.mono ?_; rintro r w1 ⟨rfl, rfl⟩
  have O1 : ∀ T, OwnB (w.alloc (.cells ((four x).map byteV).toArray T)) T w.heap.size (.slice (some ⟨w.heap.size, 0, none⟩) 4 4) (four x) := fun T => OwnB.of_cells w T _ (four x) (Nat.le_refl _) (by unfold maxLen four; simp)
  have OO := Lib.hid O1
  have g0 := byte_of x
  have g1 : IntKind.u8.wrap ((x : Int) / 256) = _ := byte_div x 256
  have g2 : IntKind.u8.wrap ((x : Int) / 65536) = _ := byte_div x 65536
  have g3 : IntKind.u8.wrap ((x : Int) / 16777216) = _ := byte_div x 16777216
  clear O1
  go_wp2
  go_ret
  exact ⟨_, rfl, OO.out _, (Below.refl _ _).alloc (Nat.le_refl _) _⟩
theorem equal_p (A A' : Option Addr) (xs bs : List UInt8) (n c n' c' B : Nat) (w : World) (hn : n = xs.length) (hr : BRow w B A xs) (hn' : n' = bs.length) (hr' : BRow w B A' bs) :
    Calls Tryz.prog 35 #[.slice A n c, .slice A' n' c'] w fun e w' => e = .returned (.bool (xs == bs)) ∧ w = w' := by
  have k1 := run_conv_bytes (P := Tryz.prog) w 22 9 5 Tryz.underlying22 Tryz.underlying5 Tryz.underlying9 A n c _ xs hn hr
  have k2 := run_conv_bytes (P := Tryz.prog) w 22 9 5 Tryz.underlying22 Tryz.underlying5 Tryz.underlying9 A' n' c' _ bs hn' hr'
  clear hr hr' hn hn'
  go_enter Tryz.func35, Tryz.ntmps35
  go_wp2
  go_ret
  exact ⟨rfl, rfl⟩
end Go.Proofs.YtgahfpflhhfhfaaGreat

/- Seals: are the last four bytes those of the others? -/
namespace Go.Proofs.YtgahfpflhhfhfaaGreat
open Go.RowKit Box
set_option linter.unusedVariables false
set_option linter.unusedSimpArgs false
/-- Do the last four bytes seal the others? -/
def sealedB (bs : List UInt8) : Bool := sealB (bs.take (bs.length - 4)) == bs.drop (bs.length - 4)
set_option maxRecDepth 100000 in
set_option maxHeartbeats 1000000 in
theorem sealed_p (A : Option Addr) (bs : List UInt8) (n c : Nat) (w : World) (hn : n = bs.length) (h4 : 4 ≤ n) (hc : n ≤ c) (hr : BRow w w.heap.size A bs) (hlen : bs.length ≤ 140737488355328) :
    Calls Tryz.prog 43 #[.slice A n c] w fun e w' => e = .returned (.bool (sealedB bs)) ∧ Below w.heap.size w w' := by
  obtain ⟨m, hm⟩ : ∃ m, n - 4 = m := ⟨_, rfl⟩
  have e1 : (n : Int) - 4 = (m : Int) := by omega
  have hs1 := fun w => slice_toX A n c m (by omega) hc w
  have hs2 := fun w => slice_fromX A n c m (by omega) hc w
  obtain ⟨A', hA'⟩ : ∃ A', (if c = m then A else A.map (·.add m)) = A' := ⟨_, rfl⟩
  simp only [hA'] at hs2
  have hrd := hr.drop (k := m) (cap := c) (by omega)
  rw [hA'] at hrd
  have hrt := hr.take m
  obtain ⟨R, hR⟩ : ∃ R, sealedB bs = R := ⟨_, rfl⟩
  have hR2 := hR
  unfold sealedB at hR2
  rw [← hn, hm] at hR2
  rw [hR]
  obtain ⟨T, hT⟩ : ∃ T, bs.take m = T := ⟨_, rfl⟩
  obtain ⟨D, hD⟩ : ∃ D, bs.drop m = D := ⟨_, rfl⟩
  have lT : m = T.length := by rw [← hT, List.length_take]; omega
  have lD : n - m = D.length := by rw [← hD, List.length_drop]; omega
  rw [hT, hD] at hR2
  rw [hT] at hrt
  rw [hD] at hrd
  have hl2 : T.length ≤ 140737488355328 := by omega
  have hc0 : c - m = c - m := rfl
  have HT := Lib.hid hrt
  have HD := Lib.hid hrd
  have HR2 := Lib.hid hR2
  have LT := Lib.hid lT
  have LD := Lib.hid lD
  have HL := Lib.hid hl2
  obtain ⟨q, hq⟩ : ∃ q, n - m = q := ⟨_, rfl⟩
  rw [hq] at LD
  simp only [hq] at hs2
  have hS := seal_p A T m c w.drew LT.out HT.out HL.out
  have HS := Lib.hid hS
  clear hS
  have hwm : IntKind.i64.wrap (m : Int) = (m : Int) := Go.IntWalk.i64_in _ (by omega)
  clear hrt hrd hR2 hR hT hD hl2 lT lD hr hA' hn hlen hc hm hq
  go_enter Tryz.func43, Tryz.ntmps43
  go_wp2
  go_region_with (first
    | (go_at_call 59; refine Calls.mono HS.out ?_; rintro e w1 ⟨v, rfl, hO, hB⟩; obtain ⟨A1, k1, rfl, hc1, hm1, hr1⟩ := hO.slice; have B1 := Lib.hid hB; have R1 := Lib.hid hr1; clear hO hB hr1 hc1 hm1)
    | (go_at_call 35; (refine Calls.mono (equal_p _ _ (sealB T) D _ _ _ _ w1.heap.size _ rfl R1.out LD.out ((BRow.below (w := w.drew) HD.out B1.out).more B1.out.size)) ?_; rintro e w' ⟨rfl, rfl⟩)))
  all_goals
    go_wp2
    go_ret
    rw [HR2.out]
    exact ⟨rfl, ((Below.refl w.heap.size w).drew).trans B1.out⟩
end Go.Proofs.YtgahfpflhhfhfaaGreat

/- A stream's head. -/
namespace Go.Proofs.YtgahfpflhhfhfaaGreat
open Go.RowKit Box
set_option linter.unusedVariables false
set_option linter.unusedSimpArgs false
/-- Two bytes that tell a check. -/
def flagsOk (a b : UInt8) : Prop := a = 0 ∧ (b = 0 ∨ b = 1 ∨ b = 4)
instance (a b : UInt8) : Decidable (flagsOk a b) := by unfold flagsOk; exact inferInstance
theorem flags_ok (A : Option Addr) (a b : UInt8) (n c B : Nat) (cv : Value) (w : World) (hn : n = 2) (hr : BRow w B A [a, b]) (h : flagsOk a b) :
    Calls Tryz.prog 44 #[cv, .slice A n c] w fun e w' => e = .returned (.int .i64 (b.toNat : Int)) ∧ w = w' := by
  subst hn
  obtain ⟨rfl, hb⟩ := h
  obtain ⟨b0, off, rfl, hb0, hcell⟩ := hr (by simp)
  have k0 : w.cell? ⟨b0, off, none⟩ = some (.int .u8 0) := hcell 0 (by simp)
  have k1 : w.cell? ⟨b0, off + 1, none⟩ = some (.int .u8 (b.toNat : Int)) := hcell 1 (by simp)
  clear hcell hr
  have hbl := b.toNat_lt
  rcases hb with rfl | rfl | rfl
  all_goals
    try have k1 : w.cell? ⟨b0, off + 1, none⟩ = some (.int .u8 0) := k1
    try have k1 : w.cell? ⟨b0, off + 1, none⟩ = some (.int .u8 1) := k1
    try have k1 : w.cell? ⟨b0, off + 1, none⟩ = some (.int .u8 4) := k1
    go_enter Tryz.func44, Tryz.ntmps44
    go_wp2_with fail
    refine (must_ok _ _ _).mono ?_; rintro r w1 ⟨rfl, rfl⟩
    go_wp2
    go_ret
    exact ⟨rfl, rfl⟩
theorem nat_ne {a : UInt8} {k : Nat} (hk : k < 256) (h : ¬ a = UInt8.ofNat k) : ((a.toNat : Int) == (k : Int)) = false := by
  rw [beq_eq_false_iff_ne]
  intro e
  apply h
  have e2 : a.toNat = k := by omega
  rw [← e2, UInt8.ofNat_toNat]
theorem flags_bad (A : Option Addr) (a b : UInt8) (n c B : Nat) (cv : Value) (w : World) (hn : n = 2) (hr : BRow w B A [a, b]) (h : ¬ flagsOk a b) :
    Calls Tryz.prog 44 #[cv, .slice A n c] w fun e w' => e = .panicked [{ v := .iface 107 (.agg #[.int .i64 12]), recovered := false }] ∧ w = w' := by
  subst hn
  obtain ⟨b0, off, rfl, hb0, hcell⟩ := hr (by simp)
  have k0 : w.cell? ⟨b0, off, none⟩ = some (.int .u8 (a.toNat : Int)) := hcell 0 (by simp)
  have k1 : w.cell? ⟨b0, off + 1, none⟩ = some (.int .u8 (b.toNat : Int)) := hcell 1 (by simp)
  clear hcell hr
  by_cases ha : a = 0
  · have h0 : ¬ b = UInt8.ofNat 0 := fun e => h ⟨ha, .inl e⟩
    have h1 : ¬ b = UInt8.ofNat 1 := fun e => h ⟨ha, .inr (.inl e)⟩
    have h2 : ¬ b = UInt8.ofNat 4 := fun e => h ⟨ha, .inr (.inr e)⟩
    have p0 : ((b.toNat : Int) == 0) = false := nat_ne (k := 0) (by decide) h0
    have p1 : ((b.toNat : Int) == 1) = false := nat_ne (k := 1) (by decide) h1
    have p2 : ((b.toNat : Int) == 4) = false := nat_ne (k := 4) (by decide) h2
    subst ha
    have k0 : w.cell? ⟨b0, off, none⟩ = some (.int .u8 0) := k0
    generalize b.toNat = B1 at *
    clear h h0 h1 h2
    go_enter Tryz.func44, Tryz.ntmps44
    go_wp2_with fail
    refine (must_bad _ _ _).mono ?_; rintro r w1 ⟨rfl, rfl⟩
    go_wp2
    exact ⟨rfl, rfl, rfl⟩
  · have p0 : ((a.toNat : Int) == 0) = false := nat_ne (k := 0) (by decide) ha
    clear h ha
    generalize a.toNat = A1 at *
    generalize b.toNat = B1 at *
    go_enter Tryz.func44, Tryz.ntmps44
    go_wp2_with fail
    refine (must_bad _ _ _).mono ?_; rintro r w1 ⟨rfl, rfl⟩
    go_wp2
    exact ⟨rfl, rfl, rfl⟩
end Go.Proofs.YtgahfpflhhfhfaaGreat

/- A stream's head: the walk. -/
namespace Go.Proofs.YtgahfpflhhfhfaaGreat
open Go.RowKit Box
set_option linter.unusedVariables false
set_option linter.unusedSimpArgs false
def magic : List UInt8 := [253, 55, 122, 88, 90, 0]
/-- What a head tells: its check, the error. -/
def headOf (bs : List UInt8) : Int × Int :=
  if bs.length < 12 then (0, 10)
  else if ¬ ((bs.take 6 == magic) = true ∧ sealedB ((bs.take 12).drop 6) = true) then (0, 11)
  else if ¬ flagsOk (bs.getD 6 0) (bs.getD 7 0) then (0, 12)
  else (((bs.getD 7 0).toNat : Int), 0)
def checkV (p : Int × Int) : Value := .tuple #[.int .i64 p.1, .int .i64 p.2]
/-- A new cursor. -/
theorem CurAt.fresh {w : World} {B : Nat} {A : Option Addr} {bs : List UInt8} {c : Nat} (w0 : World) (hc : bs.length ≤ c) (hm : c ≤ maxLen) (hr : BRow w0 B A bs) (hb : Below B w0 w) (hB : B ≤ w.heap.size) :
    CurAt (w.alloc (.cells #[.slice A bs.length c, .int .i64 0] 77)) w.heap.size B bs 0 :=
  ⟨A, c, Pts.new w _ _, (hr.below hb).below ((Below.refl B w).alloc hB _), hc, hm, hB⟩
theorem slice_midX (A : Option Addr) (n c f t : Nat) (h1 : f ≤ t) (h2 : t ≤ n) (hn : n ≤ c) (hf : f < c) (w : World) :
    (Instr.sliceAt 22 (.slice A n c) (some (.int .i64 (f : Int))) (some (.int .i64 (t : Int))) none).run Tryz.prog w = .ok (.slice (A.map (·.add f)) (t - f) (c - f)) w := by
  have hcf : ¬ c = f := by omega
  simp [go_sem, hcf]
  rw [if_pos (by omega), if_pos h1]
theorem mid_two {l : List UInt8} {f : Nat} (h : f + 2 ≤ l.length) : (l.drop f).take 2 = [l.getD f 0, l.getD (f + 1) 0] := by
  rw [List.drop_eq_getElem_cons (by omega), List.drop_eq_getElem_cons (by omega)]
  have e1 : l.getD f 0 = l[f] := by simp [List.getD, List.getElem?_eq_getElem (show f < l.length by omega)]
  have e2 : l.getD (f + 1) 0 = l[f + 1] := by simp [List.getD, List.getElem?_eq_getElem (show f + 1 < l.length by omega)]
  rw [e1, e2]; rfl
theorem BRow.mid {w : World} {B c f t : Nat} {A : Option Addr} {bs : List UInt8} (h : BRow w B A bs) (hc : bs.length ≤ c) (hf : f < c) : BRow w B (A.map (·.add f)) ((bs.drop f).take t) := by
  have := (h.drop (k := f) (cap := c) hc).take t
  rw [if_neg (by omega)] at this
  exact this
set_option maxRecDepth 100000 in
set_option maxHeartbeats 1000000 in
theorem head_p (A : Option Addr) (bs : List UInt8) (n c : Nat) (w : World) (hn : n = bs.length) (hc : n ≤ c) (hcm : c ≤ maxLen) (hr : BRow w w.heap.size A bs) (hlen : bs.length ≤ maxLen) :
    Calls Tryz.prog 21 #[.slice A n c] w fun e w' => e = .returned (checkV (headOf bs)) ∧ Below w.heap.size w w' := by
  subst hn
  have P0 : Pts (w.alloc (.cells #[.int .i64 0] 24)) w.heap.size #[.int .i64 0] 24 := Pts.new w _ _
  have hcur := CurAt.fresh (w := w.alloc (.cells #[.int .i64 0] 24)) w hc hcm hr ((Below.refl _ w).alloc (Nat.le_refl _) _) (by simp)
  have P1 := P0.alloc (.cells #[.slice A bs.length c, .int .i64 0] 77)
  have hsz : (w.alloc (.cells #[.int .i64 0] 24)).heap.size = w.heap.size + 1 := by show (w.heap.push _).size = _; rw [Array.size_push]
  have F1 : Below w.heap.size w ((w.alloc (.cells #[.int .i64 0] 24)).alloc (.cells #[.slice A bs.length c, .int .i64 0] 77)) := ((Below.refl _ w).alloc (Nat.le_refl _) _).alloc (by rw [hsz]; omega) _
  rw [hsz] at hcur
  obtain ⟨w1, hw1⟩ : ∃ w1, (w.alloc (.cells #[.int .i64 0] 24)).alloc (.cells #[.slice A bs.length c, .int .i64 0] 77) = w1 := ⟨_, rfl⟩
  rw [hw1] at P1 hcur F1
  have PP1 := Lib.hid P1
  have CC := Lib.hid hcur
  have FF1 := Lib.hid F1
  clear P0 P1 hcur F1 hr
  by_cases h12 : bs.length < 12
  · have HH := Lib.hid h12
    have hh : headOf bs = (0, 10) := by unfold headOf; rw [if_pos h12]
    rw [hh]
    clear h12 hh
    go_enter_defers Tryz.func21, Tryz.ntmps21
    go_wp2_with fail
    refine (take_bad (w.heap.size + 1) w.heap.size 12 0 10 bs w1 CC.out HH.out).mono ?_; rintro r w2 ⟨rfl, rfl⟩
    go_wp2
    refine leaves_cons (f := 40) (args := #[.pointer (some ⟨w.heap.size, 0, none⟩)]) (by simp) (by simp [go_sem]) ?_
    refine (catch_panicking w.heap.size 10 0 _ _ PP1.out).mono ?_
    rintro e u' w'' ⟨rfl, rfl, hp, hf⟩
    have c0 := hp.cell 0
    have hbel : Below w.heap.size w w'' := (FF1.out).trans (hf.below (FF1.out).size (fun k hk => by omega))
    simp [Leaves, settle, results, Tryz.results21, go_sem, c0, checkV, hbel]
  · have hge : 12 ≤ bs.length := by omega
    have HGE := Lib.hid hge
    have lH : (bs.take 12).length = 12 := by rw [List.length_take]; omega
    obtain ⟨H, hH⟩ : ∃ H, bs.take 12 = H := ⟨_, rfl⟩
    have e6 : bs.take 6 = H.take 6 := by rw [← hH, List.take_take]; rfl
    have hg : ∀ k, k < 12 → bs.getD k 0 = H.getD k 0 := fun k hk => by rw [← hH]; simp only [List.getD, List.getElem?_take]; rw [if_pos hk]
    have hh0 : headOf bs = (if ¬ ((H.take 6 == magic) = true ∧ sealedB (H.drop 6) = true) then (0, 11) else if ¬ flagsOk (H.getD 6 0) (H.getD 7 0) then (0, 12) else (((H.getD 7 0).toNat : Int), 0) : Int × Int) := by
      unfold headOf; rw [if_neg h12, e6, hH, hg 6 (by decide), hg 7 (by decide)]
    rw [hH] at lH
    have hS1 : ∀ (A : Option Addr) (c2 : Nat), 12 ≤ c2 → ∀ w, (Instr.sliceAt 22 (.slice A 12 c2) none (some (.int .i64 6)) none).run Tryz.prog w = .ok (.slice A 6 c2) w := fun A c2 h w => slice_toX A 12 c2 6 (by decide) h w
    have hS2 : ∀ (A : Option Addr) (c2 : Nat), 12 ≤ c2 → ∀ w, (Instr.sliceAt 22 (.slice A 12 c2) (some (.int .i64 6)) none none).run Tryz.prog w = .ok (.slice (A.map (·.add 6)) 6 (c2 - 6)) w := fun A c2 h w => by
      have := slice_fromX A 12 c2 6 (by decide) h w
      rw [if_neg (by omega)] at this
      exact this
    have hS3 : ∀ (A : Option Addr) (c2 : Nat), 12 ≤ c2 → ∀ w, (Instr.sliceAt 22 (.slice A 12 c2) (some (.int .i64 6)) (some (.int .i64 8)) none).run Tryz.prog w = .ok (.slice (A.map (·.add 6)) 2 (c2 - 6)) w := fun A c2 h w => slice_midX A 12 c2 6 8 (by decide) (by decide) h (by omega) w
    have lT : 6 = (H.take 6).length := by rw [List.length_take]; omega
    have lD : 6 = (H.drop 6).length := by rw [List.length_drop]; omega
    have hmt : (H.drop 6).take 2 = [H.getD 6 0, H.getD 7 0] := mid_two (by omega)
    have LT := Lib.hid lT
    have LD := Lib.hid lD
    have LH := Lib.hid lH
    have HH := Lib.hid hH
    have HMT := Lib.hid hmt
    have hD140 : (H.drop 6).length ≤ 140737488355328 := by omega
    have H140 := Lib.hid hD140
    have hcb := hcm
    clear lT lD hH h12 e6 hg hge hlen lH hmt hD140
    rw [hh0]
    clear hh0
    by_cases hmag : H.take 6 = magic
    · have hmt2 : (H.take 6 == magic) = true := beq_iff_eq.2 hmag
      have HMAG := Lib.hid hmag
      by_cases hse : sealedB (H.drop 6) = true
      · rw [if_neg (fun h => h ⟨hmt2, hse⟩)]
        by_cases hfl : flagsOk (H.getD 6 0) (H.getD 7 0)
        · rw [if_neg (fun h => h hfl)]
          have HFL := Lib.hid hfl
          obtain ⟨ck, hck⟩ : ∃ ck, H.getD 7 0 = ck := ⟨_, rfl⟩
          obtain ⟨ck6, hck6⟩ : ∃ ck, H.getD 6 0 = ck := ⟨_, rfl⟩
          rw [hck, hck6] at HMT HFL
          rw [hck]
          clear hmt2 hmag hfl hck hck6
          go_enter_defers Tryz.func21, Tryz.ntmps21
          go_wp2_with fail
          refine (take_ok (w.heap.size + 1) w.heap.size 12 0 10 bs w1 CC.out HGE.out (by decide)).mono ?_; rintro r w2 ⟨A2, c2, rfl, hr2, hc2, hm2, hcur2, hf2⟩
          rw [HH.out] at hr2
          have P2 := Lib.hid (PP1.out.frm hf2 (by omega))
          have B2 := Lib.hid (FF1.out.trans (hf2.below FF1.out.size (fun k hk => by omega)))
          have hs1 := hS1 A2 c2 hc2
          have hs2 := hS2 A2 c2 hc2
          have hs3 := hS3 A2 c2 hc2
          have k1 := run_conv_bytes (P := Tryz.prog) w2 22 9 5 Tryz.underlying22 Tryz.underlying5 Tryz.underlying9 A2 6 c2 _ (H.take 6) LT.out (hr2.take 6)
          rw [HMAG.out] at k1
          have hrd := hr2.drop (k := 6) (cap := c2) (by rw [LH.out]; exact hc2)
          rw [if_neg (by omega)] at hrd
          have RD := Lib.hid hrd
          have RM := Lib.hid (hr2.mid (f := 6) (t := 2) (by rw [LH.out]; exact hc2) (by omega))
          have hc6 : 6 ≤ c2 - 6 := by omega
          have HC6 := Lib.hid hc6
          clear hr2 hc2 hm2 hcur2 hS1 hS2 hS3 hf2 hrd hc6
          go_wp2_with fail
          refine (sealed_p _ (H.drop 6) 6 _ w2 LD.out (by decide) HC6.out (RD.out.more B2.out.size) H140.out).mono ?_; rintro r w3 ⟨rfl, hb3⟩
          rw [hse]
          have P3 := Lib.hid (P2.out.below hb3 P2.out.lt)
          have B3 := Lib.hid (B2.out.trans (hb3.mono B2.out.size))
          have RF := Lib.hid (HMT.out ▸ (RM.out.below (hb3.mono B2.out.size)))
          clear hb3
          go_wp2_with fail
          refine (must_ok _ _ _).mono ?_; rintro r w4 ⟨rfl, rfl⟩
          go_wp2_with fail
          refine (flags_ok _ ck6 ck 2 _ w.heap.size _ w3 rfl RF.out HFL.out).mono ?_; rintro r w4 ⟨rfl, rfl⟩
          have c30 := P3.out.cell 0
          have z30 := P3.out.frozen 0
          have c31 := (P3.out.set 0 (.int .i64 0)).cell 0
          have hbel := B3.out.setCell (p := ⟨w.heap.size, 0, none⟩) (Nat.le_refl _) (.int .i64 0)
          have HC31 := Lib.hid c31
          have HBEL := Lib.hid hbel
          clear c31 hbel
          go_wp2
          refine leaves_cons (f := 40) (args := #[.pointer (some ⟨w.heap.size, 0, none⟩)]) (by simp) (by simp [go_sem]) ?_
          refine (catch_idle _ _).mono ?_
          rintro e u' w'' ⟨rfl, rfl, rfl⟩
          have c31 := HC31.out
          have hbel := HBEL.out
          simp [Leaves, settle, results, Tryz.results21, go_sem, checkV, c30]
          exact hbel
        · rw [if_pos hfl]
          have HFL := Lib.hid hfl
          obtain ⟨ck, hck⟩ : ∃ ck, H.getD 7 0 = ck := ⟨_, rfl⟩
          obtain ⟨ck6, hck6⟩ : ∃ ck, H.getD 6 0 = ck := ⟨_, rfl⟩
          rw [hck, hck6] at HMT HFL
          clear hmt2 hmag hfl hck hck6
          go_enter_defers Tryz.func21, Tryz.ntmps21
          go_wp2_with fail
          refine (take_ok (w.heap.size + 1) w.heap.size 12 0 10 bs w1 CC.out HGE.out (by decide)).mono ?_; rintro r w2 ⟨A2, c2, rfl, hr2, hc2, hm2, hcur2, hf2⟩
          rw [HH.out] at hr2
          have P2 := Lib.hid (PP1.out.frm hf2 (by omega))
          have B2 := Lib.hid (FF1.out.trans (hf2.below FF1.out.size (fun k hk => by omega)))
          have hs1 := hS1 A2 c2 hc2
          have hs2 := hS2 A2 c2 hc2
          have hs3 := hS3 A2 c2 hc2
          have k1 := run_conv_bytes (P := Tryz.prog) w2 22 9 5 Tryz.underlying22 Tryz.underlying5 Tryz.underlying9 A2 6 c2 _ (H.take 6) LT.out (hr2.take 6)
          rw [HMAG.out] at k1
          have hrd := hr2.drop (k := 6) (cap := c2) (by rw [LH.out]; exact hc2)
          rw [if_neg (by omega)] at hrd
          have RD := Lib.hid hrd
          have RM := Lib.hid (hr2.mid (f := 6) (t := 2) (by rw [LH.out]; exact hc2) (by omega))
          have hc6 : 6 ≤ c2 - 6 := by omega
          have HC6 := Lib.hid hc6
          clear hr2 hc2 hm2 hcur2 hS1 hS2 hS3 hf2 hrd hc6
          go_wp2_with fail
          refine (sealed_p _ (H.drop 6) 6 _ w2 LD.out (by decide) HC6.out (RD.out.more B2.out.size) H140.out).mono ?_; rintro r w3 ⟨rfl, hb3⟩
          rw [hse]
          have P3 := Lib.hid (P2.out.below hb3 P2.out.lt)
          have B3 := Lib.hid (B2.out.trans (hb3.mono B2.out.size))
          have RF := Lib.hid (HMT.out ▸ (RM.out.below (hb3.mono B2.out.size)))
          clear hb3
          go_wp2_with fail
          refine (must_ok _ _ _).mono ?_; rintro r w4 ⟨rfl, rfl⟩
          go_wp2_with fail
          refine (flags_bad _ ck6 ck 2 _ w.heap.size _ w3 rfl RF.out HFL.out).mono ?_; rintro r w4 ⟨rfl, rfl⟩
          go_wp2
          refine leaves_cons (f := 40) (args := #[.pointer (some ⟨w.heap.size, 0, none⟩)]) (by simp) (by simp [go_sem]) ?_
          refine (catch_panicking w.heap.size 12 0 _ _ P3.out).mono ?_
          rintro e u' w'' ⟨rfl, rfl, hp, hf⟩
          have c0 := hp.cell 0
          have hbel : Below w.heap.size w w'' := (B3.out).trans (hf.below (B3.out).size (fun k hk => by omega))
          simp [Leaves, settle, results, Tryz.results21, go_sem, c0, checkV, hbel]
      · have hse : sealedB (H.drop 6) = false := by simpa using hse
        rw [if_pos (fun h => by rw [hse] at h; cases h.2)]
        clear hmt2 hmag
        go_enter_defers Tryz.func21, Tryz.ntmps21
        go_wp2_with fail
        refine (take_ok (w.heap.size + 1) w.heap.size 12 0 10 bs w1 CC.out HGE.out (by decide)).mono ?_; rintro r w2 ⟨A2, c2, rfl, hr2, hc2, hm2, hcur2, hf2⟩
        rw [HH.out] at hr2
        have P2 := Lib.hid (PP1.out.frm hf2 (by omega))
        have B2 := Lib.hid (FF1.out.trans (hf2.below FF1.out.size (fun k hk => by omega)))
        have hs1 := hS1 A2 c2 hc2
        have hs2 := hS2 A2 c2 hc2
        have hs3 := hS3 A2 c2 hc2
        have k1 := run_conv_bytes (P := Tryz.prog) w2 22 9 5 Tryz.underlying22 Tryz.underlying5 Tryz.underlying9 A2 6 c2 _ (H.take 6) LT.out (hr2.take 6)
        rw [HMAG.out] at k1
        have hrd := hr2.drop (k := 6) (cap := c2) (by rw [LH.out]; exact hc2)
        rw [if_neg (by omega)] at hrd
        have RD := Lib.hid hrd
        have RM := Lib.hid (hr2.mid (f := 6) (t := 2) (by rw [LH.out]; exact hc2) (by omega))
        have hc6 : 6 ≤ c2 - 6 := by omega
        have HC6 := Lib.hid hc6
        clear hr2 hc2 hm2 hcur2 hS1 hS2 hS3 hf2 hrd hc6
        go_wp2_with fail
        refine (sealed_p _ (H.drop 6) 6 _ w2 LD.out (by decide) HC6.out (RD.out.more B2.out.size) H140.out).mono ?_; rintro r w3 ⟨rfl, hb3⟩
        rw [hse]
        have P3 := Lib.hid (P2.out.below hb3 P2.out.lt)
        have B3 := Lib.hid (B2.out.trans (hb3.mono B2.out.size))
        have RF := Lib.hid (HMT.out ▸ (RM.out.below (hb3.mono B2.out.size)))
        clear hb3
        go_wp2_with fail
        refine (must_bad _ _ _).mono ?_; rintro r w4 ⟨rfl, rfl⟩
        go_wp2
        refine leaves_cons (f := 40) (args := #[.pointer (some ⟨w.heap.size, 0, none⟩)]) (by simp) (by simp [go_sem]) ?_
        refine (catch_panicking w.heap.size 11 0 _ _ P3.out).mono ?_
        rintro e u' w'' ⟨rfl, rfl, hp, hf⟩
        have c0 := hp.cell 0
        have hbel : Below w.heap.size w w'' := (B3.out).trans (hf.below (B3.out).size (fun k hk => by omega))
        simp [Leaves, settle, results, Tryz.results21, go_sem, c0, checkV, hbel]
    · rw [if_pos (fun h => hmag (beq_iff_eq.1 h.1))]
      have hmq : (H.take 6 == ([253, 55, 122, 88, 90, 0] : List UInt8)) = false := beq_eq_false_iff_ne.2 hmag
      clear hmag hS2 hS3
      go_enter_defers Tryz.func21, Tryz.ntmps21
      go_wp2_with fail
      refine (take_ok (w.heap.size + 1) w.heap.size 12 0 10 bs w1 CC.out HGE.out (by decide)).mono ?_; rintro r w2 ⟨A2, c2, rfl, hr2, hc2, hm2, hcur2, hf2⟩
      rw [HH.out] at hr2
      have P2 := Lib.hid (PP1.out.frm hf2 (by omega))
      have B2 := Lib.hid (FF1.out.trans (hf2.below FF1.out.size (fun k hk => by omega)))
      have hs1 := hS1 A2 c2 hc2
      have k1 := run_conv_bytes (P := Tryz.prog) w2 22 9 5 Tryz.underlying22 Tryz.underlying5 Tryz.underlying9 A2 6 c2 _ (H.take 6) LT.out (hr2.take 6)
      clear hr2 hc2 hm2 hcur2 hS1 hf2
      go_wp2_with fail
      refine (must_bad _ _ _).mono ?_; rintro r w4 ⟨rfl, rfl⟩
      go_wp2
      refine leaves_cons (f := 40) (args := #[.pointer (some ⟨w.heap.size, 0, none⟩)]) (by simp) (by simp [go_sem]) ?_
      refine (catch_panicking w.heap.size 11 0 _ _ P2.out).mono ?_
      rintro e u' w'' ⟨rfl, rfl, hp, hf⟩
      have c0 := hp.cell 0
      have hbel : Below w.heap.size w w'' := (B2.out).trans (hf.below (B2.out).size (fun k hk => by omega))
      simp [Leaves, settle, results, Tryz.results21, go_sem, c0, checkV, hbel]
end Go.Proofs.YtgahfpflhhfhfaaGreat

/- A stream's head: the document's walk. -/
namespace Go.Proofs.YtgahfpflhhfhfaaGreat
open Go.RowKit Box
set_option linter.unusedVariables false
set_option linter.unusedSimpArgs false
def knownB (b : UInt8) : Bool := decide (b = 0 ∨ b = 1 ∨ b = 4)
end Go.Proofs.YtgahfpflhhfhfaaGreat

/- A region that draws its order and must end in a panic, in a function that defers: the frame's first slots and its deferred calls stay, whatever the order. Over any program. -/
namespace Go.Proofs.YtgahfpflhhfhfaaGreat.Pan
/-- The frame's first slots are l, its deferred calls ds. -/
def Kept (l : List Value) (ds : List Deferred) (a : Act) : Prop := a.tmps.toList.take l.length = l ∧ a.defers = ds
theorem Kept.unput {l : List Value} {ds : List Deferred} {a : Act} {d : Nat} {v : Value} (h : Kept l ds (a.put (some d) v)) (hd : l.length ≤ d) : Kept l ds a := by
  obtain ⟨h1, h2⟩ := h
  refine ⟨?_, h2⟩
  have e : (a.put (some d) v).tmps = a.tmps.setIfInBounds d v := rfl
  rw [e, Array.toList_setIfInBounds, List.take_set_of_le hd] at h1
  exact h1
theorem Kept.get {l : List Value} {ds : List Deferred} {a : Act} (h : Kept l ds a) (i : Nat) (hi : i < l.length) : a.tmps[i]? = l[i]? := by
  have h1 := congrArg (fun l => l[i]?) h.1
  simp only [List.getElem?_take, hi, if_true, Array.getElem?_toList] at h1
  exact h1
/-- A panic of this chain, in a world of S; the frame kept. -/
def OnlyPanic (c0 : List PanicEntry) (S : World → Prop) (l : List Value) (ds : List Deferred) : Exit → Act → World → Prop
  | .panic c, a, w => c = c0 ∧ S w ∧ Kept l ds a
  | _, _, _ => False
theorem wp_only_panic {P : Program} {id : Nat} {ops : Array Oper} {b : Bool} {Q : Exit → Act → World → Prop} {a : Act} {w : World} (c0 : List PanicEntry) (S : World → Prop) (l : List Value) (ds : List Deferred)
    (hQ : ∀ a w, S w → Kept l ds a → Q (.panic c0) a w) (h : (Code.region id ops b).wp P (OnlyPanic c0 S l ds) a w) : (Code.region id ops b).wp P Q a w :=
  Code.wp_mono (fun e a w h => by
    cases e <;> first
      | exact (h : False).elim
      | (obtain ⟨rfl, h2, h3⟩ := h; exact hQ _ _ h2 h3)) h
end Go.Proofs.YtgahfpflhhfhfaaGreat.Pan

/- A stream's foot: the walk. -/
namespace Go.Proofs.YtgahfpflhhfhfaaGreat
open Go.RowKit Box
set_option linter.unusedVariables false
set_option linter.unusedSimpArgs false
/-- The number that four bytes tell, k of which were read, the highest first. -/
def hiNum (l : List UInt8) : Nat → Nat
  | 0 => 0
  | k + 1 => hiNum l k * 256 + (l.getD (7 - k) 0).toNat
theorem hiNum_lt (l : List UInt8) : ∀ k, hiNum l k < 256 ^ k
  | 0 => by unfold hiNum; decide
  | k + 1 => by
    have h := hiNum_lt l k
    have h2 := (l.getD (7 - k) 0).toNat_lt
    unfold hiNum
    rw [Nat.pow_succ]
    omega
theorem or_hi {n x : Nat} (hn : n < 72057594037927936) (hx : x < 256) : bits .or .u64 ((n * 256 : Nat) : Int) (x : Int) = ((n * 256 + x : Nat) : Int) := by
  have h1 := Num.or64 (a := n * 256) (b := x) (by unfold Num.M64; omega) (by unfold Num.M64; omega)
  rw [h1]
  have h3 := Nat.shiftLeft_add_eq_or_of_lt (a := n) (b := x) (i := 8) hx
  rw [Nat.shiftLeft_eq] at h3
  rw [← h3]
/-- What a foot tells: its check, the index' length, the error. -/
def footOf (bs : List UInt8) : Int × Nat × Int :=
  if bs.length < 12 then (0, 0, 10)
  else if ¬ ((sealB ((bs.drop 4).take 6) == bs.take 4) = true ∧ ((bs.take 12).drop 10 == ([89, 90] : List UInt8)) = true) then (0, 0, 11)
  else if ¬ flagsOk (bs.getD 8 0) (bs.getD 9 0) then (0, 0, 12)
  else (((bs.getD 9 0).toNat : Int), (hiNum bs 4 + 1) * 4, 0)
def footV (p : Int × Nat × Int) : Value := .tuple #[.int .i64 p.1, .int .u64 (p.2.1 : Int), .int .i64 p.2.2]
theorem foot_bad1 {S T D : List UInt8} {F0 F1 : UInt8} {N : Nat} {R : Int × Nat × Int} (h : (if ¬ ((sealB S == T) = true ∧ (D == ([89, 90] : List UInt8)) = true) then (0, 0, 11) else if ¬ flagsOk F0 F1 then (0, 0, 12) else ((F1.toNat : Int), N, 0)) = R)
    (h1 : (sealB S == T) = false ∨ (D == ([89, 90] : List UInt8)) = false) : R = (0, 0, 11) := by
  rw [if_pos (fun h => by rcases h1 with h1 | h1; · rw [h1] at h; cases h.1
                          · rw [h1] at h; cases h.2)] at h
  exact h.symm
set_option maxRecDepth 100000 in
set_option maxHeartbeats 1000000 in
theorem foot_p (A : Option Addr) (bs : List UInt8) (n c : Nat) (w : World) (hn : n = bs.length) (hc : n ≤ c) (hcm : c ≤ maxLen) (hr : BRow w w.heap.size A bs) (hlen : bs.length ≤ maxLen) :
    Calls Tryz.prog 33 #[.slice A n c] w fun e w' => e = .returned (footV (footOf bs)) ∧ Below w.heap.size w w' := by
  subst hn
  have P0 : Pts (w.alloc (.cells #[.int .i64 0] 24)) w.heap.size #[.int .i64 0] 24 := Pts.new w _ _
  have hcur := CurAt.fresh (w := w.alloc (.cells #[.int .i64 0] 24)) w hc hcm hr ((Below.refl _ w).alloc (Nat.le_refl _) _) (by simp)
  have P1 := P0.alloc (.cells #[.slice A bs.length c, .int .i64 0] 77)
  have hsz : (w.alloc (.cells #[.int .i64 0] 24)).heap.size = w.heap.size + 1 := by show (w.heap.push _).size = _; rw [Array.size_push]
  have F1 : Below w.heap.size w ((w.alloc (.cells #[.int .i64 0] 24)).alloc (.cells #[.slice A bs.length c, .int .i64 0] 77)) := ((Below.refl _ w).alloc (Nat.le_refl _) _).alloc (by rw [hsz]; omega) _
  rw [hsz] at hcur
  obtain ⟨w1, hw1⟩ : ∃ w1, (w.alloc (.cells #[.int .i64 0] 24)).alloc (.cells #[.slice A bs.length c, .int .i64 0] 77) = w1 := ⟨_, rfl⟩
  rw [hw1] at P1 hcur F1
  have PP1 := Lib.hid P1
  have CC := Lib.hid hcur
  have FF1 := Lib.hid F1
  clear P0 P1 hcur F1 hr
  by_cases h12 : bs.length < 12
  · have HH := Lib.hid h12
    have hh : footOf bs = (0, 0, 10) := by unfold footOf; rw [if_pos h12]
    rw [hh]
    clear h12 hh
    go_enter_defers Tryz.func33, Tryz.ntmps33
    go_wp2_with fail
    refine (take_bad (w.heap.size + 1) w.heap.size 12 0 10 bs w1 CC.out HH.out).mono ?_; rintro r w2 ⟨rfl, rfl⟩
    go_wp2
    refine leaves_cons (f := 40) (args := #[.pointer (some ⟨w.heap.size, 0, none⟩)]) (by simp) (by simp [go_sem]) ?_
    refine (catch_panicking w.heap.size 10 0 _ _ PP1.out).mono ?_
    rintro e u' w'' ⟨rfl, rfl, hp, hf⟩
    have c0 := hp.cell 0
    have hbel : Below w.heap.size w w'' := (FF1.out).trans (hf.below (FF1.out).size (fun k hk => by omega))
    simp [Leaves, settle, results, Tryz.results33, go_sem, c0, footV, hbel]
  · have hge : 12 ≤ bs.length := by omega
    have HGE := Lib.hid hge
    have lH : (bs.take 12).length = 12 := by rw [List.length_take]; omega
    obtain ⟨H, hH⟩ : ∃ H, bs.take 12 = H := ⟨_, rfl⟩
    have hg : ∀ k, k < 12 → bs.getD k 0 = H.getD k 0 := fun k hk => by rw [← hH]; simp only [List.getD, List.getElem?_take]; rw [if_pos hk]
    have e4 : bs.take 4 = H.take 4 := by rw [← hH, List.take_take]; rfl
    have e10 : (bs.drop 4).take 6 = (H.drop 4).take 6 := by rw [← hH, List.drop_take, List.take_take]; rfl
    have hhi : hiNum bs 4 = hiNum H 4 := by simp only [hiNum]; rw [hg 7 (by decide), hg 6 (by decide), hg 5 (by decide), hg 4 (by decide)]
    obtain ⟨R, hR⟩ : ∃ R, footOf bs = R := ⟨_, rfl⟩
    have hh0 := hR
    unfold footOf at hh0
    rw [if_neg h12, e4, hH, e10, hg 8 (by decide), hg 9 (by decide), hhi] at hh0
    rw [hR]
    rw [hH] at lH
    obtain ⟨S, hS⟩ : ∃ S, (H.drop 4).take 6 = S := ⟨_, rfl⟩
    obtain ⟨T, hT⟩ : ∃ T, H.take 4 = T := ⟨_, rfl⟩
    obtain ⟨D, hD⟩ : ∃ D, H.drop 10 = D := ⟨_, rfl⟩
    have lS : 6 = S.length := by rw [← hS, List.length_take, List.length_drop]; omega
    have lT : 4 = T.length := by rw [← hT, List.length_take]; omega
    have lD : 2 = D.length := by rw [← hD, List.length_drop]; omega
    have hmt : (H.drop 8).take 2 = [H.getD 8 0, H.getD 9 0] := mid_two (by omega)
    rw [hS, hT, hD] at hh0
    obtain ⟨F0, hF0⟩ : ∃ F, H.getD 8 0 = F := ⟨_, rfl⟩
    obtain ⟨F1, hF1⟩ : ∃ F, H.getD 9 0 = F := ⟨_, rfl⟩
    rw [hF0, hF1] at hmt hh0
    have LS := Lib.hid lS
    have LT := Lib.hid lT
    have LD := Lib.hid lD
    have LH := Lib.hid lH
    have HH := Lib.hid hH
    have HMT := Lib.hid hmt
    have HSS := Lib.hid hS
    have HTT := Lib.hid hT
    have HDD := Lib.hid hD
    have HR := Lib.hid hh0
    clear lS lT lD hH h12 hg hge lH hmt e4 e10 hhi hR hh0 hS hT hD hF0 hF1 hlen
    by_cases hse : (sealB S == T) = true
    · by_cases hy : D = [89, 90]
      · have hR := HR.out
        have hyt : (D == ([89, 90] : List UInt8)) = true := beq_iff_eq.2 hy
        rw [if_neg (fun h => h ⟨hse, hyt⟩)] at hR
        have HY := Lib.hid hy
        clear HR hy hyt
        by_cases hfl : flagsOk F0 F1
        · rw [if_neg (fun h => h hfl)] at hR
          subst hR
          have HFL := Lib.hid hfl
          clear hfl
          go_enter_defers Tryz.func33, Tryz.ntmps33
          go_wp2_with fail
          refine (take_ok (w.heap.size + 1) w.heap.size 12 0 10 bs w1 CC.out HGE.out (by decide)).mono ?_; rintro r w2 ⟨A2, c2, rfl, hr2, hc2, hm2, hcur2, hf2⟩
          rw [HH.out] at hr2
          have P2 := Lib.hid (PP1.out.frm hf2 (by omega))
          have B2 := Lib.hid (FF1.out.trans (hf2.below FF1.out.size (fun k hk => by omega)))
          have hs1 : ∀ w, (Instr.sliceAt 22 (.slice A2 12 c2) (some (.int .i64 4)) (some (.int .i64 10)) none).run Tryz.prog w = .ok (.slice (A2.map (·.add 4)) 6 (c2 - 4)) w := fun w => slice_midX A2 12 c2 4 10 (by decide) (by decide) hc2 (by omega) w
          have hs2 : ∀ w, (Instr.sliceAt 22 (.slice A2 12 c2) none (some (.int .i64 4)) none).run Tryz.prog w = .ok (.slice A2 4 c2) w := fun w => slice_toX A2 12 c2 4 (by decide) hc2 w
          have hs3 : ∀ w, (Instr.sliceAt 22 (.slice A2 12 c2) (some (.int .i64 8)) (some (.int .i64 10)) none).run Tryz.prog w = .ok (.slice (A2.map (·.add 8)) 2 (c2 - 8)) w := fun w => slice_midX A2 12 c2 8 10 (by decide) (by decide) hc2 (by omega) w
          have hs4 : ∀ w, (Instr.sliceAt 22 (.slice A2 12 c2) (some (.int .i64 10)) none none).run Tryz.prog w = .ok (.slice (A2.map (·.add 10)) 2 (c2 - 10)) w := fun w => by
            have := slice_fromX A2 12 c2 10 (by decide) hc2 w
            rw [if_neg (by omega)] at this
            exact this
          obtain ⟨A4, hA4⟩ : ∃ A4, A2.map (·.add 4) = A4 := ⟨_, rfl⟩
          obtain ⟨A8, hA8⟩ : ∃ A8, A2.map (·.add 8) = A8 := ⟨_, rfl⟩
          obtain ⟨A10, hA10⟩ : ∃ A10, A2.map (·.add 10) = A10 := ⟨_, rfl⟩
          have hrs := hr2.mid (f := 4) (t := 6) (c := c2) (by rw [LH.out]; exact hc2) (by omega)
          rw [HSS.out] at hrs
          have hrt := hr2.take 4
          rw [HTT.out] at hrt
          have hrd := hr2.mid (f := 10) (t := 2) (c := c2) (by rw [LH.out]; exact hc2) (by omega)
          rw [HDD.out, List.take_of_length_le (by rw [← LD.out]; decide)] at hrd
          have hrf := hr2.mid (f := 8) (t := 2) (c := c2) (by rw [LH.out]; exact hc2) (by omega)
          rw [HMT.out] at hrf
          rw [hA4] at hs1 hrs
          rw [hA8] at hs3 hrf
          rw [hA10] at hs4 hrd
          have RT := Lib.hid hrt
          have RD := Lib.hid hrd
          have RF2 := Lib.hid hrf
          have RA2 := Lib.hid hr2
          have HSE := Lib.hid (seal_p A4 S 6 (c2 - 4) w2.drew LS.out (hrs.more B2.out.size) (by rw [← LS.out]; decide))
          clear hr2 hc2 hm2 hcur2 hf2 hrs hrt hrd hrf hA4 hA8 hA10
          go_wp2
          refine wp_region_noPanic ?_
          go_region_with (first
            | (go_at_call 59; refine Calls.mono HSE.out ?_; rintro e w3 ⟨v, rfl, hO, hB⟩; obtain ⟨A3, k3, rfl, hc3, hm3, hr3⟩ := hO.slice; have BS := Lib.hid hB; have R3 := Lib.hid hr3; have hb3 : Below w.heap.size w2 w3 := ((Below.refl _ w2).drew).trans (hB.mono B2.out.size); have BB3 := Lib.hid hb3; have k1 := run_conv_bytes (P := Tryz.prog) w3 22 9 5 Tryz.underlying22 Tryz.underlying5 Tryz.underlying9 A10 2 (c2 - 10) _ D LD.out (RD.out.below hb3); rw [HY.out] at k1; clear hO hB hr3 hc3 hm3 hb3)
            | (go_at_call 35; refine Calls.mono (equal_p _ _ (sealB S) T _ _ _ _ w3.heap.size _ rfl R3.out LT.out ((RT.out.below BB3.out).more (Nat.le_trans B2.out.size BB3.out.size))) ?_; rw [hse]; rintro e w' ⟨rfl, rfl⟩)
            | (go_at_call 42; refine Calls.mono (must_ok _ _ _) ?_; rintro e w' ⟨rfl, rfl⟩))
          have P3 := Lib.hid (Pts.below (w := w2.drew) P2.out BS.out P2.out.lt)
          have B3 := Lib.hid (B2.out.trans BB3.out)
          have RF := Lib.hid (RF2.out.below BB3.out)
          have RA := Lib.hid (RA2.out.below BB3.out)
          refine NoPanic.normal ?_
          go_wp2_with fail
          refine (flags_ok _ F0 F1 2 _ w.heap.size _ w3 rfl RF.out HFL.out).mono ?_; rintro r w4 ⟨rfl, rfl⟩
          go_wp2
          go_loopw [3, 7] (fun nv iv wr => wr = w3 ∧ ∃ k : Nat, k ≤ 4 ∧ iv = .int .i64 (7 - (k : Int)) ∧ nv = .int .u64 (hiNum H k)) (fun _ iv _ => (intOf iv).toNat)
          case atStart => exact ⟨rfl, 0, by omega, rfl, rfl⟩
          case round =>
            obtain ⟨hwr, k, hk, rfl, rfl⟩ := hrel
            subst hwr
            by_cases hk4 : k < 4
            · obtain ⟨b0, off, hA, hb0, hcell⟩ := RA.out (by rw [LH.out]; decide)
              have hc7 := hcell (7 - k) (by rw [LH.out]; omega)
              unfold byteV at hc7
              have hN : hiNum H (k + 1) = hiNum H k * 256 + (H.getD (7 - k) 0).toNat := rfl
              have hlt := hiNum_lt H k
              have hp : 256 ^ k ≤ 256 ^ 3 := Nat.pow_le_pow_right (by decide) (by omega)
              have hx := (H.getD (7 - k) 0).toNat_lt
              obtain ⟨x, hxx⟩ : ∃ x, (H.getD (7 - k) 0).toNat = x := ⟨_, rfl⟩
              obtain ⟨N, hNN⟩ : ∃ N, hiNum H k = N := ⟨_, rfl⟩
              rw [hxx] at hc7 hN hx
              rw [hNN] at hlt hN
              have h256 : (256 : Nat) ^ 3 = 16777216 := by decide
              have hN24 : N < 16777216 := by omega
              have hor := or_hi (n := N) (x := x) (by omega) hx
              obtain ⟨j, hj⟩ : ∃ j, 7 - k = j := ⟨_, rfl⟩
              have hji : (7 : Int) - (k : Int) = (j : Int) := by omega
              have hj4 : 4 ≤ j := by omega
              have hj7 : j ≤ 7 := by omega
              rw [hj] at hc7
              rw [hA]
              have e256 : ((N * 256 : Nat) : Int) = (N : Int) * 256 := by omega
              rw [e256] at hor
              have hj2 : (7 : Int) - ((k + 1 : Nat) : Int) = (j : Int) - 1 := by omega
              have HJ2 := Lib.hid hj2
              have HN2 := Lib.hid hN
              rw [hNN, hji]
              clear hcell hxx hNN hp hlt h256 hN hj2 hj
              go_wp2
              refine ⟨⟨trivial, k + 1, by omega, ?_, ?_⟩, by simp [intOf]; omega⟩
              · rw [HJ2.out]
              · rw [HN2.out]; congr 1
            · obtain rfl : k = 4 := by omega
              have hN := hiNum_lt H 4
              have h256 : (256 : Nat) ^ 4 = 4294967296 := by decide
              rw [h256] at hN
              obtain ⟨N, hNN⟩ : ∃ N, hiNum H 4 = N := ⟨_, rfl⟩
              rw [hNN] at hN ⊢
              have HNN := Lib.hid hNN
              clear h256 hNN
              have c30 := P3.out.cell 0
              have z30 := P3.out.frozen 0
              have HBEL := Lib.hid (B3.out.setCell (p := ⟨w.heap.size, 0, none⟩) (Nat.le_refl _) (.int .i64 0))
              go_wp2
              refine leaves_cons (f := 40) (args := #[.pointer (some ⟨w.heap.size, 0, none⟩)]) (by simp) (by simp [go_sem]) ?_
              refine (catch_idle _ _).mono ?_
              rintro e u' w'' ⟨rfl, rfl, rfl⟩
              have hbel := HBEL.out
              simp [Leaves, settle, results, Tryz.results33, go_sem, footV, c30]
              exact ⟨by rw [HNN.out], hbel⟩
        · rw [if_pos hfl] at hR
          subst hR
          have HFL := Lib.hid hfl
          clear hfl
          go_enter_defers Tryz.func33, Tryz.ntmps33
          go_wp2_with fail
          refine (take_ok (w.heap.size + 1) w.heap.size 12 0 10 bs w1 CC.out HGE.out (by decide)).mono ?_; rintro r w2 ⟨A2, c2, rfl, hr2, hc2, hm2, hcur2, hf2⟩
          rw [HH.out] at hr2
          have P2 := Lib.hid (PP1.out.frm hf2 (by omega))
          have B2 := Lib.hid (FF1.out.trans (hf2.below FF1.out.size (fun k hk => by omega)))
          have hs1 : ∀ w, (Instr.sliceAt 22 (.slice A2 12 c2) (some (.int .i64 4)) (some (.int .i64 10)) none).run Tryz.prog w = .ok (.slice (A2.map (·.add 4)) 6 (c2 - 4)) w := fun w => slice_midX A2 12 c2 4 10 (by decide) (by decide) hc2 (by omega) w
          have hs2 : ∀ w, (Instr.sliceAt 22 (.slice A2 12 c2) none (some (.int .i64 4)) none).run Tryz.prog w = .ok (.slice A2 4 c2) w := fun w => slice_toX A2 12 c2 4 (by decide) hc2 w
          have hs3 : ∀ w, (Instr.sliceAt 22 (.slice A2 12 c2) (some (.int .i64 8)) (some (.int .i64 10)) none).run Tryz.prog w = .ok (.slice (A2.map (·.add 8)) 2 (c2 - 8)) w := fun w => slice_midX A2 12 c2 8 10 (by decide) (by decide) hc2 (by omega) w
          have hs4 : ∀ w, (Instr.sliceAt 22 (.slice A2 12 c2) (some (.int .i64 10)) none none).run Tryz.prog w = .ok (.slice (A2.map (·.add 10)) 2 (c2 - 10)) w := fun w => by
            have := slice_fromX A2 12 c2 10 (by decide) hc2 w
            rw [if_neg (by omega)] at this
            exact this
          obtain ⟨A4, hA4⟩ : ∃ A4, A2.map (·.add 4) = A4 := ⟨_, rfl⟩
          obtain ⟨A8, hA8⟩ : ∃ A8, A2.map (·.add 8) = A8 := ⟨_, rfl⟩
          obtain ⟨A10, hA10⟩ : ∃ A10, A2.map (·.add 10) = A10 := ⟨_, rfl⟩
          have hrs := hr2.mid (f := 4) (t := 6) (c := c2) (by rw [LH.out]; exact hc2) (by omega)
          rw [HSS.out] at hrs
          have hrt := hr2.take 4
          rw [HTT.out] at hrt
          have hrd := hr2.mid (f := 10) (t := 2) (c := c2) (by rw [LH.out]; exact hc2) (by omega)
          rw [HDD.out, List.take_of_length_le (by rw [← LD.out]; decide)] at hrd
          have hrf := hr2.mid (f := 8) (t := 2) (c := c2) (by rw [LH.out]; exact hc2) (by omega)
          rw [HMT.out] at hrf
          rw [hA4] at hs1 hrs
          rw [hA8] at hs3 hrf
          rw [hA10] at hs4 hrd
          have RT := Lib.hid hrt
          have RD := Lib.hid hrd
          have RF2 := Lib.hid hrf
          have RA2 := Lib.hid hr2
          have HSE := Lib.hid (seal_p A4 S 6 (c2 - 4) w2.drew LS.out (hrs.more B2.out.size) (by rw [← LS.out]; decide))
          clear hr2 hc2 hm2 hcur2 hf2 hrs hrt hrd hrf hA4 hA8 hA10
          go_wp2
          refine wp_region_noPanic ?_
          go_region_with (first
            | (go_at_call 59; refine Calls.mono HSE.out ?_; rintro e w3 ⟨v, rfl, hO, hB⟩; obtain ⟨A3, k3, rfl, hc3, hm3, hr3⟩ := hO.slice; have BS := Lib.hid hB; have R3 := Lib.hid hr3; have hb3 : Below w.heap.size w2 w3 := ((Below.refl _ w2).drew).trans (hB.mono B2.out.size); have BB3 := Lib.hid hb3; have k1 := run_conv_bytes (P := Tryz.prog) w3 22 9 5 Tryz.underlying22 Tryz.underlying5 Tryz.underlying9 A10 2 (c2 - 10) _ D LD.out (RD.out.below hb3); rw [HY.out] at k1; clear hO hB hr3 hc3 hm3 hb3)
            | (go_at_call 35; refine Calls.mono (equal_p _ _ (sealB S) T _ _ _ _ w3.heap.size _ rfl R3.out LT.out ((RT.out.below BB3.out).more (Nat.le_trans B2.out.size BB3.out.size))) ?_; rw [hse]; rintro e w' ⟨rfl, rfl⟩)
            | (go_at_call 42; refine Calls.mono (must_ok _ _ _) ?_; rintro e w' ⟨rfl, rfl⟩))
          have P3 := Lib.hid (Pts.below (w := w2.drew) P2.out BS.out P2.out.lt)
          have B3 := Lib.hid (B2.out.trans BB3.out)
          have RF := Lib.hid (RF2.out.below BB3.out)
          have RA := Lib.hid (RA2.out.below BB3.out)
          refine NoPanic.normal ?_
          go_wp2_with fail
          refine (flags_bad _ F0 F1 2 _ w.heap.size _ w3 rfl RF.out HFL.out).mono ?_; rintro r w4 ⟨rfl, rfl⟩
          go_wp2
          refine leaves_cons (f := 40) (args := #[.pointer (some ⟨w.heap.size, 0, none⟩)]) (by simp) (by simp [go_sem]) ?_
          refine (catch_panicking w.heap.size 12 0 _ _ P3.out).mono ?_
          rintro e u' w'' ⟨rfl, rfl, hp, hf⟩
          have c0 := hp.cell 0
          have hbel : Below w.heap.size w w'' := (B3.out).trans (hf.below (B3.out).size (fun k hk => by omega))
          simp [Leaves, settle, results, Tryz.results33, go_sem, c0, footV, hbel]
      · have hyf : (D == ([89, 90] : List UInt8)) = false := by simpa using hy
        have hR := foot_bad1 HR.out (.inr hyf)
        subst hR
        clear HR hy
        go_enter_defers Tryz.func33, Tryz.ntmps33
        go_wp2_with fail
        refine (take_ok (w.heap.size + 1) w.heap.size 12 0 10 bs w1 CC.out HGE.out (by decide)).mono ?_; rintro r w2 ⟨A2, c2, rfl, hr2, hc2, hm2, hcur2, hf2⟩
        rw [HH.out] at hr2
        have P2 := Lib.hid (PP1.out.frm hf2 (by omega))
        have B2 := Lib.hid (FF1.out.trans (hf2.below FF1.out.size (fun k hk => by omega)))
        have hs1 : ∀ w, (Instr.sliceAt 22 (.slice A2 12 c2) (some (.int .i64 4)) (some (.int .i64 10)) none).run Tryz.prog w = .ok (.slice (A2.map (·.add 4)) 6 (c2 - 4)) w := fun w => slice_midX A2 12 c2 4 10 (by decide) (by decide) hc2 (by omega) w
        have hs2 : ∀ w, (Instr.sliceAt 22 (.slice A2 12 c2) none (some (.int .i64 4)) none).run Tryz.prog w = .ok (.slice A2 4 c2) w := fun w => slice_toX A2 12 c2 4 (by decide) hc2 w
        have hs3 : ∀ w, (Instr.sliceAt 22 (.slice A2 12 c2) (some (.int .i64 8)) (some (.int .i64 10)) none).run Tryz.prog w = .ok (.slice (A2.map (·.add 8)) 2 (c2 - 8)) w := fun w => slice_midX A2 12 c2 8 10 (by decide) (by decide) hc2 (by omega) w
        have hs4 : ∀ w, (Instr.sliceAt 22 (.slice A2 12 c2) (some (.int .i64 10)) none none).run Tryz.prog w = .ok (.slice (A2.map (·.add 10)) 2 (c2 - 10)) w := fun w => by
          have := slice_fromX A2 12 c2 10 (by decide) hc2 w
          rw [if_neg (by omega)] at this
          exact this
        obtain ⟨A4, hA4⟩ : ∃ A4, A2.map (·.add 4) = A4 := ⟨_, rfl⟩
        obtain ⟨A8, hA8⟩ : ∃ A8, A2.map (·.add 8) = A8 := ⟨_, rfl⟩
        obtain ⟨A10, hA10⟩ : ∃ A10, A2.map (·.add 10) = A10 := ⟨_, rfl⟩
        have hrs := hr2.mid (f := 4) (t := 6) (c := c2) (by rw [LH.out]; exact hc2) (by omega)
        rw [HSS.out] at hrs
        have hrt := hr2.take 4
        rw [HTT.out] at hrt
        have hrd := hr2.mid (f := 10) (t := 2) (c := c2) (by rw [LH.out]; exact hc2) (by omega)
        rw [HDD.out, List.take_of_length_le (by rw [← LD.out]; decide)] at hrd
        have hrf := hr2.mid (f := 8) (t := 2) (c := c2) (by rw [LH.out]; exact hc2) (by omega)
        rw [HMT.out] at hrf
        rw [hA4] at hs1 hrs
        rw [hA8] at hs3 hrf
        rw [hA10] at hs4 hrd
        have RT := Lib.hid hrt
        have RD := Lib.hid hrd
        have RF2 := Lib.hid hrf
        have RA2 := Lib.hid hr2
        have HSE := Lib.hid (seal_p A4 S 6 (c2 - 4) w2.drew LS.out (hrs.more B2.out.size) (by rw [← LS.out]; decide))
        clear hr2 hc2 hm2 hcur2 hf2 hrs hrt hrd hrf hA4 hA8 hA10
        go_wp2
        refine Pan.wp_only_panic [{ v := .iface 107 (.agg #[.int .i64 11]), recovered := false }] (fun w3 => Pts w3 w.heap.size #[.int .i64 0] 24 ∧ Below w.heap.size w w3) [.slice A bs.length c, undef, .int .i64 0, .int .u64 0, .pointer (some ⟨w.heap.size, 0, none⟩)] [{ target := .fn (.func 40) #[], args := #[.pointer (some ⟨w.heap.size, 0, none⟩)] }] (fun a w3 hS hK => ?pan2) ?reg2
        case reg2 =>
          refine wp_region_any (by kernel_rfl) ?_
          change wpAny _ _ _ _ _ _ _ (World.drew _)
          refine wpAny_take (i := 0) rfl (by kernel_rfl) (by kernel_rfl) (by kernel_rfl) (fun _ _ _ h => ⟨h.1, h.2.1, h.2.2.unput (Nat.le_of_ble_eq_true rfl)⟩) (Or.inl ⟨by rfl, by (intro w; go_simp; try with_reducible rfl)⟩) ?_
          refine wpAny_take (i := 1) rfl (by kernel_rfl) (by kernel_rfl) (by kernel_rfl) (fun _ _ _ h => ⟨h.1, h.2.1, h.2.2.unput (Nat.le_of_ble_eq_true rfl)⟩) (Or.inl ⟨by rfl, by (intro w; go_simp; try with_reducible rfl)⟩) ?_
          refine wpAny_take (i := 2) rfl (by kernel_rfl) (by kernel_rfl) (by kernel_rfl) (fun _ _ _ h => ⟨h.1, h.2.1, h.2.2.unput (Nat.le_of_ble_eq_true rfl)⟩) (Or.inl ⟨by rfl, by (intro w; go_simp; try with_reducible rfl)⟩) ?_
          refine wpAny_take (i := 4) rfl (by kernel_rfl) (by kernel_rfl) (by kernel_rfl) (fun _ _ _ h => ⟨h.1, h.2.1, h.2.2.unput (Nat.le_of_ble_eq_true rfl)⟩) (Or.inl ⟨by rfl, by (intro w; go_simp; try with_reducible rfl)⟩) ?_
          refine wpAny_take (i := 5) rfl (by kernel_rfl) (by kernel_rfl) (by kernel_rfl) (fun _ _ _ h => ⟨h.1, h.2.1, h.2.2.unput (Nat.le_of_ble_eq_true rfl)⟩) (Or.inl ⟨by rfl, by (intro w; go_simp; try with_reducible rfl)⟩) ?_
          refine wpAny_ready (rs := [3]) (by kernel_rfl) (by simp) ?_
          refine AllReady.cons rfl (fun K hK => ?_) AllReady.nil
          go_simp
          go_wp2_with (go_at_call 59; refine Calls.mono HSE.out ?_; rintro e w3 ⟨v, rfl, hO, hB⟩; obtain ⟨A3, k3, rfl, hc3, hm3, hr3⟩ := hO.slice; have BS := Lib.hid hB; have R3 := Lib.hid hr3; have hb3 : Below w.heap.size w2 w3 := ((Below.refl _ w2).drew).trans (hB.mono B2.out.size); have BB3 := Lib.hid hb3; have k1 := run_conv_bytes (P := Tryz.prog) w3 22 9 5 Tryz.underlying22 Tryz.underlying5 Tryz.underlying9 A10 2 (c2 - 10) _ D LD.out (RD.out.below hb3); clear hO hB hr3 hc3 hm3 hb3)
          refine wpAny_ready (rs := [6]) (by kernel_rfl) (by simp) ?_
          refine AllReady.cons rfl (fun K hK => ?_) AllReady.nil
          go_simp
          go_wp2_with (go_at_call 35; refine Calls.mono (equal_p _ _ (sealB S) T _ _ _ _ w3.heap.size _ rfl R3.out LT.out ((RT.out.below BB3.out).more (Nat.le_trans B2.out.size BB3.out.size))) ?_; rw [hse]; rintro e w' ⟨rfl, rfl⟩)
          refine wpAny_ready (rs := [7]) (by kernel_rfl) (by simp) ?_
          refine AllReady.cons rfl (fun K hK => ?_) AllReady.nil
          go_simp
          refine hK _ _ ?_; clear hK K
          refine wpAny_ready (rs := [8]) (by kernel_rfl) (by simp) ?_
          refine AllReady.cons rfl (fun K hK => ?_) AllReady.nil
          go_simp
          refine hK _ _ ?_; clear hK K
          refine wpAny_ready (rs := [9]) (by kernel_rfl) (by simp) ?_
          refine AllReady.cons rfl (fun K hK => ?_) AllReady.nil
          go_simp
          refine hK _ _ ?_; clear hK K
          refine wpAny_ready (rs := [10]) (by kernel_rfl) (by simp) ?_
          refine AllReady.cons rfl (fun K hK => ?_) AllReady.nil
          go_simp
          refine hK _ _ ?_; clear hK K
          refine wpAny_ready (rs := [11]) (by kernel_rfl) (by simp) ?_
          refine AllReady.cons rfl (fun K hK => ?_) AllReady.nil
          go_simp
          refine hK _ _ ?_; clear hK K
          refine wpAny_ready (rs := [12]) (by kernel_rfl) (by simp) ?_
          refine AllReady.cons rfl (fun K hK => ?_) AllReady.nil
          go_simp
          refine hK _ _ ?_; clear hK K
          have P3 := Lib.hid (Pts.below (w := w2.drew) P2.out BS.out P2.out.lt)
          have B3 := Lib.hid (B2.out.trans BB3.out)
          refine wpAny_ready (rs := [13]) (by kernel_rfl) (by simp) ?_
          refine AllReady.cons rfl (fun K hK => ?_) AllReady.nil
          go_simp
          go_wp2_with (go_at_call 42; refine Calls.mono (must_bad _ _ _) ?_; rintro e w' ⟨rfl, rfl⟩)
          exact ⟨rfl, ⟨P3.out, B3.out⟩, rfl, rfl⟩
        obtain ⟨tmps, dfs⟩ := a
        obtain ⟨hP, hbe⟩ := hS
        have t2 := hK.get 2 (by simp)
        have t3 := hK.get 3 (by simp)
        have t4 := hK.get 4 (by simp)
        simp only [List.getElem?_cons_succ, List.getElem?_cons_zero] at t2 t3 t4
        have hd : dfs = _ := hK.2
        subst hd
        refine leaves_cons (f := 40) (args := #[.pointer (some ⟨w.heap.size, 0, none⟩)]) (by simp) (by simp [go_sem]) ?_
        refine (catch_panicking w.heap.size 11 0 _ _ hP).mono ?_
        rintro e u' w'' ⟨rfl, rfl, hp, hf⟩
        have c0 := hp.cell 0
        have hbel : Below w.heap.size w w'' := hbe.trans (hf.below hbe.size (fun k hk => by omega))
        simp [Leaves, settle, results, Tryz.results33, go_sem, c0, footV, hbel, t2, t3, t4]
    · have hse : (sealB S == T) = false := by simpa using hse
      have hR := foot_bad1 HR.out (.inl hse)
      subst hR
      clear HR
      go_enter_defers Tryz.func33, Tryz.ntmps33
      go_wp2_with fail
      refine (take_ok (w.heap.size + 1) w.heap.size 12 0 10 bs w1 CC.out HGE.out (by decide)).mono ?_; rintro r w2 ⟨A2, c2, rfl, hr2, hc2, hm2, hcur2, hf2⟩
      rw [HH.out] at hr2
      have P2 := Lib.hid (PP1.out.frm hf2 (by omega))
      have B2 := Lib.hid (FF1.out.trans (hf2.below FF1.out.size (fun k hk => by omega)))
      have hs1 : ∀ w, (Instr.sliceAt 22 (.slice A2 12 c2) (some (.int .i64 4)) (some (.int .i64 10)) none).run Tryz.prog w = .ok (.slice (A2.map (·.add 4)) 6 (c2 - 4)) w := fun w => slice_midX A2 12 c2 4 10 (by decide) (by decide) hc2 (by omega) w
      have hs2 : ∀ w, (Instr.sliceAt 22 (.slice A2 12 c2) none (some (.int .i64 4)) none).run Tryz.prog w = .ok (.slice A2 4 c2) w := fun w => slice_toX A2 12 c2 4 (by decide) hc2 w
      have hs3 : ∀ w, (Instr.sliceAt 22 (.slice A2 12 c2) (some (.int .i64 8)) (some (.int .i64 10)) none).run Tryz.prog w = .ok (.slice (A2.map (·.add 8)) 2 (c2 - 8)) w := fun w => slice_midX A2 12 c2 8 10 (by decide) (by decide) hc2 (by omega) w
      have hs4 : ∀ w, (Instr.sliceAt 22 (.slice A2 12 c2) (some (.int .i64 10)) none none).run Tryz.prog w = .ok (.slice (A2.map (·.add 10)) 2 (c2 - 10)) w := fun w => by
        have := slice_fromX A2 12 c2 10 (by decide) hc2 w
        rw [if_neg (by omega)] at this
        exact this
      obtain ⟨A4, hA4⟩ : ∃ A4, A2.map (·.add 4) = A4 := ⟨_, rfl⟩
      obtain ⟨A8, hA8⟩ : ∃ A8, A2.map (·.add 8) = A8 := ⟨_, rfl⟩
      obtain ⟨A10, hA10⟩ : ∃ A10, A2.map (·.add 10) = A10 := ⟨_, rfl⟩
      have hrs := hr2.mid (f := 4) (t := 6) (c := c2) (by rw [LH.out]; exact hc2) (by omega)
      rw [HSS.out] at hrs
      have hrt := hr2.take 4
      rw [HTT.out] at hrt
      have hrd := hr2.mid (f := 10) (t := 2) (c := c2) (by rw [LH.out]; exact hc2) (by omega)
      rw [HDD.out, List.take_of_length_le (by rw [← LD.out]; decide)] at hrd
      have hrf := hr2.mid (f := 8) (t := 2) (c := c2) (by rw [LH.out]; exact hc2) (by omega)
      rw [HMT.out] at hrf
      rw [hA4] at hs1 hrs
      rw [hA8] at hs3 hrf
      rw [hA10] at hs4 hrd
      have RT := Lib.hid hrt
      have RD := Lib.hid hrd
      have RF2 := Lib.hid hrf
      have RA2 := Lib.hid hr2
      have HSE := Lib.hid (seal_p A4 S 6 (c2 - 4) w2.drew LS.out (hrs.more B2.out.size) (by rw [← LS.out]; decide))
      clear hr2 hc2 hm2 hcur2 hf2 hrs hrt hrd hrf hA4 hA8 hA10
      go_wp2
      refine Pan.wp_only_panic [{ v := .iface 107 (.agg #[.int .i64 11]), recovered := false }] (fun w3 => Pts w3 w.heap.size #[.int .i64 0] 24 ∧ Below w.heap.size w w3) [.slice A bs.length c, undef, .int .i64 0, .int .u64 0, .pointer (some ⟨w.heap.size, 0, none⟩)] [{ target := .fn (.func 40) #[], args := #[.pointer (some ⟨w.heap.size, 0, none⟩)] }] (fun a w3 hS hK => ?pan3) ?reg3
      case reg3 =>
        refine wp_region_any (by kernel_rfl) ?_
        change wpAny _ _ _ _ _ _ _ (World.drew _)
        refine wpAny_take (i := 0) rfl (by kernel_rfl) (by kernel_rfl) (by kernel_rfl) (fun _ _ _ h => ⟨h.1, h.2.1, h.2.2.unput (Nat.le_of_ble_eq_true rfl)⟩) (Or.inl ⟨by rfl, by (intro w; go_simp; try with_reducible rfl)⟩) ?_
        refine wpAny_take (i := 1) rfl (by kernel_rfl) (by kernel_rfl) (by kernel_rfl) (fun _ _ _ h => ⟨h.1, h.2.1, h.2.2.unput (Nat.le_of_ble_eq_true rfl)⟩) (Or.inl ⟨by rfl, by (intro w; go_simp; try with_reducible rfl)⟩) ?_
        refine wpAny_take (i := 2) rfl (by kernel_rfl) (by kernel_rfl) (by kernel_rfl) (fun _ _ _ h => ⟨h.1, h.2.1, h.2.2.unput (Nat.le_of_ble_eq_true rfl)⟩) (Or.inl ⟨by rfl, by (intro w; go_simp; try with_reducible rfl)⟩) ?_
        refine wpAny_take (i := 4) rfl (by kernel_rfl) (by kernel_rfl) (by kernel_rfl) (fun _ _ _ h => ⟨h.1, h.2.1, h.2.2.unput (Nat.le_of_ble_eq_true rfl)⟩) (Or.inl ⟨by rfl, by (intro w; go_simp; try with_reducible rfl)⟩) ?_
        refine wpAny_take (i := 5) rfl (by kernel_rfl) (by kernel_rfl) (by kernel_rfl) (fun _ _ _ h => ⟨h.1, h.2.1, h.2.2.unput (Nat.le_of_ble_eq_true rfl)⟩) (Or.inl ⟨by rfl, by (intro w; go_simp; try with_reducible rfl)⟩) ?_
        refine wpAny_ready (rs := [3]) (by kernel_rfl) (by simp) ?_
        refine AllReady.cons rfl (fun K hK => ?_) AllReady.nil
        go_simp
        go_wp2_with (go_at_call 59; refine Calls.mono HSE.out ?_; rintro e w3 ⟨v, rfl, hO, hB⟩; obtain ⟨A3, k3, rfl, hc3, hm3, hr3⟩ := hO.slice; have BS := Lib.hid hB; have R3 := Lib.hid hr3; have hb3 : Below w.heap.size w2 w3 := ((Below.refl _ w2).drew).trans (hB.mono B2.out.size); have BB3 := Lib.hid hb3; have k1 := run_conv_bytes (P := Tryz.prog) w3 22 9 5 Tryz.underlying22 Tryz.underlying5 Tryz.underlying9 A10 2 (c2 - 10) _ D LD.out (RD.out.below hb3); clear hO hB hr3 hc3 hm3 hb3)
        refine wpAny_ready (rs := [6]) (by kernel_rfl) (by simp) ?_
        refine AllReady.cons rfl (fun K hK => ?_) AllReady.nil
        go_simp
        go_wp2_with (go_at_call 35; refine Calls.mono (equal_p _ _ (sealB S) T _ _ _ _ w3.heap.size _ rfl R3.out LT.out ((RT.out.below BB3.out).more (Nat.le_trans B2.out.size BB3.out.size))) ?_; rw [hse]; rintro e w' ⟨rfl, rfl⟩)
        refine wpAny_ready (rs := [7]) (by kernel_rfl) (by simp) ?_
        refine AllReady.cons rfl (fun K hK => ?_) AllReady.nil
        go_simp
        refine hK _ _ ?_; clear hK K
        refine wpAny_ready (rs := [8]) (by kernel_rfl) (by simp) ?_
        refine AllReady.cons rfl (fun K hK => ?_) AllReady.nil
        go_simp
        refine hK _ _ ?_; clear hK K
        refine wpAny_ready (rs := [9]) (by kernel_rfl) (by simp) ?_
        refine AllReady.cons rfl (fun K hK => ?_) AllReady.nil
        go_simp
        refine hK _ _ ?_; clear hK K
        refine wpAny_ready (rs := [10]) (by kernel_rfl) (by simp) ?_
        refine AllReady.cons rfl (fun K hK => ?_) AllReady.nil
        go_simp
        refine hK _ _ ?_; clear hK K
        refine wpAny_ready (rs := [11]) (by kernel_rfl) (by simp) ?_
        refine AllReady.cons rfl (fun K hK => ?_) AllReady.nil
        go_simp
        refine hK _ _ ?_; clear hK K
        refine wpAny_ready (rs := [12]) (by kernel_rfl) (by simp) ?_
        refine AllReady.cons rfl (fun K hK => ?_) AllReady.nil
        go_simp
        refine hK _ _ ?_; clear hK K
        have P3 := Lib.hid (Pts.below (w := w2.drew) P2.out BS.out P2.out.lt)
        have B3 := Lib.hid (B2.out.trans BB3.out)
        refine wpAny_ready (rs := [13]) (by kernel_rfl) (by simp) ?_
        refine AllReady.cons rfl (fun K hK => ?_) AllReady.nil
        go_simp
        go_wp2_with (go_at_call 42; refine Calls.mono (must_bad _ _ _) ?_; rintro e w' ⟨rfl, rfl⟩)
        exact ⟨rfl, ⟨P3.out, B3.out⟩, rfl, rfl⟩
      obtain ⟨tmps, dfs⟩ := a
      obtain ⟨hP, hbe⟩ := hS
      have t2 := hK.get 2 (by simp)
      have t3 := hK.get 3 (by simp)
      have t4 := hK.get 4 (by simp)
      simp only [List.getElem?_cons_succ, List.getElem?_cons_zero] at t2 t3 t4
      have hd : dfs = _ := hK.2
      subst hd
      refine leaves_cons (f := 40) (args := #[.pointer (some ⟨w.heap.size, 0, none⟩)]) (by simp) (by simp [go_sem]) ?_
      refine (catch_panicking w.heap.size 11 0 _ _ hP).mono ?_
      rintro e u' w'' ⟨rfl, rfl, hp, hf⟩
      have c0 := hp.cell 0
      have hbel : Below w.heap.size w w'' := hbe.trans (hf.below hbe.size (fun k hk => by omega))
      simp [Leaves, settle, results, Tryz.results33, go_sem, c0, footV, hbel, t2, t3, t4]
end Go.Proofs.YtgahfpflhhfhfaaGreat

/- A stream's foot: the document's walk. -/
namespace Go.Proofs.YtgahfpflhhfhfaaGreat
open Go.RowKit Box
set_option linter.unusedVariables false
set_option linter.unusedSimpArgs false
end Go.Proofs.YtgahfpflhhfhfaaGreat

/- Numbers that a cursor takes. -/
namespace Go.Proofs.YtgahfpflhhfhfaaGreat
open Go.RowKit Box
set_option linter.unusedVariables false
set_option linter.unusedSimpArgs false
set_option maxRecDepth 100000 in
theorem cins_ok (cb B u y m : Nat) (bs : List UInt8) (w : World) (h : CurAt w cb B bs u) (hlen : bs.length ≤ 140737488355328) (hnum : number bs = (y, m, 0)) (hu : u + m < 4611686018427387904) :
    Calls Tryz.prog 64 #[.pointer (some ⟨cb, 0, none⟩)] w fun r w' => r = .returned (.int .u64 (y : Int)) ∧ CurAt w' cb B (bs.drop m) (u + m) ∧ Frm (· = cb) w w' := by
  obtain ⟨hy, h1, hm, _⟩ := number_back hnum
  have HT := Lib.hid (take_ok cb B m u 11 bs w h hm hu)
  obtain ⟨A, c, hp, hr, hc, hcm, hB⟩ := h
  have hn := number_p A bs bs.length c B w rfl hr (Nat.le_trans hlen (by decide))
  rw [hnum] at hn
  unfold errOf at hn
  have HN := Lib.hid hn
  have c0 : w.cell? ⟨cb, 0, none⟩ = some (.slice A bs.length c) := hp.cell 0
  clear hn hnum hp hr hcm hB hy h1 hm hu hlen hc
  go_enter Tryz.func64, Tryz.ntmps64
  go_wp2_with fail
  refine HN.out.mono ?_; rintro r w1 ⟨rfl, rfl⟩
  go_wp2_with fail
  refine (must_ok _ _ _).mono ?_; rintro r w1 ⟨rfl, rfl⟩
  go_wp2_with fail
  refine HT.out.mono ?_; rintro r w1 ⟨A2, c2, rfl, hr2, hc2, hm2, hcu, hf⟩
  have CU := Lib.hid hcu
  have FF := Lib.hid hf
  clear hr2 hc2 hm2 hcu hf
  go_wp2
  go_ret
  exact ⟨rfl, CU.out, FF.out⟩
set_option maxRecDepth 100000 in
theorem cins_bad (cb B u : Nat) (e : Int) (bs : List UInt8) (w : World) (h : CurAt w cb B bs u) (hlen : bs.length ≤ 140737488355328) (hnum : number bs = (0, 0, e)) (he : ¬ e = 0) :
    Calls Tryz.prog 64 #[.pointer (some ⟨cb, 0, none⟩)] w fun r w' => r = .panicked [{ v := .iface 107 (.agg #[.int .i64 11]), recovered := false }] ∧ w = w' := by
  obtain ⟨A, c, hp, hr, hc, hcm, hB⟩ := h
  have hn := number_p A bs bs.length c B w rfl hr (Nat.le_trans hlen (by decide))
  rw [hnum] at hn
  unfold errOf at hn
  have HN := Lib.hid hn
  have c0 : w.cell? ⟨cb, 0, none⟩ = some (.slice A bs.length c) := hp.cell 0
  have he2 : (e == 0) = false := by rw [beq_eq_false_iff_ne]; exact he
  clear hn hnum hp hr hcm hB hlen he hc
  go_enter Tryz.func64, Tryz.ntmps64
  go_wp2_with fail
  refine HN.out.mono ?_; rintro r w1 ⟨rfl, rfl⟩
  go_wp2_with fail
  refine (must_bad _ _ _).mono ?_; rintro r w1 ⟨rfl, rfl⟩
  go_wp2
  exact ⟨rfl, rfl, rfl⟩
end Go.Proofs.YtgahfpflhhfhfaaGreat

/- An index: what it tells, in plain Lean; rows of pairs of the call's own. -/
namespace Go.Proofs.YtgahfpflhhfhfaaGreat
open Go.RowKit Box
set_option linter.unusedVariables false
set_option linter.unusedSimpArgs false
namespace Box
/-- What stands behind the records: u bytes were taken. -/
def ixTail (bs : List UInt8) (l : List (Nat × Nat)) (r : List UInt8) (u : Nat) : List (Nat × Nat) × Nat × Int :=
  let pad := (4 - u % 4) % 4
  if r.length < pad + 4 then ([], 0, 10)
  else if ¬ (∀ x ∈ r.take pad, x = 0) then ([], 0, 11)
  else if sealedB (bs.take (u + (pad + 4))) = true then (l, u + (pad + 4), 0) else ([], 0, 11)
/-- n records are still tq9 come. -/
def ixRun (bs : List UInt8) : Nat → List (Nat × Nat) → List UInt8 → Nat → List (Nat × Nat) × Nat × Int
  | 0, l, r, u => ixTail bs l r u
  | n + 1, l, r, u =>
    if ¬ (number r).2.2 = 0 then ([], 0, (number r).2.2)
    else if (number r).1 < 5 then ([], 0, 11)
    else if ¬ (number (r.drop (number r).2.1)).2.2 = 0 then ([], 0, (number (r.drop (number r).2.1)).2.2)
    else ixRun bs n (l ++ [((number r).1, (number (r.drop (number r).2.1)).1)]) ((r.drop (number r).2.1).drop (number (r.drop (number r).2.1)).2.1) (u + (number r).2.1 + (number (r.drop (number r).2.1)).2.1)
/-- What an index tells: the records, how many bytes, the error. -/
def indexOf (bs : List UInt8) : List (Nat × Nat) × Nat × Int :=
  match bs with
  | [] => ([], 0, 10)
  | b :: r => if ¬ b = 0 then ([], 0, 11) else if ¬ (number r).2.2 = 0 then ([], 0, (number r).2.2) else ixRun bs (number r).1 [] (r.drop (number r).2.1) (1 + (number r).2.1)
theorem number_bad {bs : List UInt8} (h : ¬ (number bs).2.2 = 0) : number bs = (0, 0, (number bs).2.2) := by
  rcases number_err bs with h1 | h1 | h1
  · exact absurd h1 h
  · rw [h1]
  · rw [h1]
theorem number_good {bs : List UInt8} (h : (number bs).2.2 = 0) : number bs = ((number bs).1, (number bs).2.1, 0) := by rw [← h]
end Box
theorem i64_and3 (n : Int) : bits .and .i64 n 3 = n % 4 := by
  have h3 : (BitVec.ofInt 64 3).toNat = 2 ^ 2 - 1 := by decide
  have key : (BitVec.ofInt 64 n &&& BitVec.ofInt 64 3).toNat = (n % ((2 ^ 64 : Nat) : Int)).toNat % 2 ^ 2 := by
    rw [BitVec.toNat_and, BitVec.toNat_ofInt, h3, Nat.and_two_pow_sub_one_eq_mod]
  show IntKind.i64.wrap ((BitVec.ofInt 64 n &&& BitVec.ofInt 64 3).toNat : Nat) = n % 4
  rw [key, IntKind.wrap_i64]
  omega
/-- The cells of a row of pairs. -/
def prCells (l : List (Nat × Nat)) : List Value := l.flatMap fun p => [.int .u64 (p.1 : Int), .int .u64 (p.2 : Int)]
theorem prCells_at : ∀ (l : List (Nat × Nat)) (k : Nat), k < l.length → (prCells l)[k * 2]? = some (.int .u64 ((l.getD k (0, 0)).1 : Int)) ∧ (prCells l)[k * 2 + 1]? = some (.int .u64 ((l.getD k (0, 0)).2 : Int))
  | [], k, h => absurd h (by simp)
  | s :: l, 0, _ => by simp [prCells]
  | s :: l, k + 1, h => by
    have ih := prCells_at l k (by simpa using h)
    have e : prCells (s :: l) = .int .u64 (s.1 : Int) :: .int .u64 (s.2 : Int) :: prCells l := rfl
    rw [e, show (k + 1) * 2 = k * 2 + 1 + 1 by omega]
    simpa using ih
theorem prCells_append (l m : List (Nat × Nat)) : prCells (l ++ m) = prCells l ++ prCells m := by simp [prCells]
/-- A slice of pairs. -/
def PrRow (w : World) (B : Nat) (A : Option Addr) (l : List (Nat × Nat)) : Prop :=
  0 < l.length → ∃ b off, A = some ⟨b, off, none⟩ ∧ b < B ∧ ∀ k, k < l.length → w.cell? ⟨b, off + k * 2, none⟩ = some (.int .u64 ((l.getD k (0, 0)).1 : Int)) ∧ w.cell? ⟨b, off + k * 2 + 1, none⟩ = some (.int .u64 ((l.getD k (0, 0)).2 : Int))
/-- A row of pairs of the call's own. -/
def OwnPr (w : World) (T base : Nat) (v : Value) (l : List (Nat × Nat)) : Prop := w.ownsRow base T 2 v l.length (prCells l)
section
variable {w w' : World} {T base : Nat} {v : Value} {l : List (Nat × Nat)}
theorem OwnPr.nil (w : World) (T base : Nat) : OwnPr w T base (.slice none 0 0) [] := World.ownsRow_nil w base T 2
theorem OwnPr.slice (h : OwnPr w T base v l) : ∃ A cap, v = .slice A l.length cap ∧ l.length ≤ cap ∧ cap ≤ maxLen ∧ PrRow w w.heap.size A l := by
  obtain ⟨h1, h2⟩ := h
  rcases h2 with ⟨rfl, hn⟩ | ⟨g, cap, cur, rfl, hb, hh, hnc, hcm, hcs, ht⟩
  · obtain rfl : l = [] := List.eq_nil_of_length_eq_zero hn
    exact ⟨none, 0, rfl, Nat.le_refl _, Nat.zero_le _, fun h => absurd h (by simp)⟩
  · have hp : Pts w g cur T := hh
    refine ⟨_, cap, rfl, hnc, hcm, fun _ => ⟨g, 0, rfl, hp.lt, fun k hk => ?_⟩⟩
    obtain ⟨c0, c1⟩ := prCells_at l k hk
    have hx : ∀ j, j < l.length * 2 → cur[j]? = (prCells l)[j]? := by
      intro j hj
      rw [← ht, List.getElem?_take, if_pos hj, Array.getElem?_toList]
    rw [hp.cell, hp.cell, hx _ (by omega), hx _ (by omega)]
    simpa using ⟨c0, c1⟩
theorem OwnPr.lt (h : OwnPr w T base v l) {k : Nat} (hk : v.ownBlock = some k) : base ≤ k ∧ k < w.heap.size := World.ownsRow.lt h k hk
theorem OwnPr.frm {S : Nat → Prop} (h : OwnPr w T base v l) (hf : Frm S w w') (hn : ∀ k, v.ownBlock = some k → ¬ S k) : OwnPr w' T base v l := by
  refine ⟨h.1, ?_⟩
  rcases h.2 with h2 | ⟨g, cap, cur, rfl, hb, hh, r⟩
  · exact .inl h2
  · exact .inr ⟨g, cap, cur, rfl, hb, (hf.block g (Pts.lt hh) (hn g rfl)).trans hh, r⟩
theorem OwnPr.alloc (h : OwnPr w T base v l) (o : Obj) : OwnPr (w.alloc o) T base v l := World.ownsRow.alloc h o
end
section
variable {P : Program} (w : World)
theorem run_append_pr (t ty T base : Nat) (ht : P.underlying t = some (.slice T)) (hinfo : (P.info? T).map (fun i => (i.zero, i.size, i.bytes)) = some (some (.agg #[.int .u64 0, .int .u64 0]), 2, 16))
    (v : Value) (l : List (Nat × Nat)) (hown : OwnPr w T base v l) (g c : Nat) (s : Nat × Nat) (hnews : Pts w g #[.int .u64 (s.1 : Int), .int .u64 (s.2 : Int)] T)
    (hlen : l.length + 1 ≤ 1000000000) (hbase : base ≤ w.heap.size) :
    ∃ v' w', (Builtin.append_ #[t, t] ty #[v, .slice (some ⟨g, 0, none⟩) 1 c]).run P w = .ok v' w' ∧ OwnPr w' T base v' (l ++ [s]) ∧ Frm (fun k => v.ownBlock = some k) w w' ∧
      (v'.ownBlock = v.ownBlock ∨ v'.ownBlock = some w.heap.size) := by
  obtain ⟨i, hi, hzz⟩ := Option.map_eq_some_iff.1 hinfo
  simp only [Prod.mk.injEq] at hzz
  obtain ⟨hz, hs, hby⟩ := hzz
  have hcells : ∀ j u, (prCells [s])[j]? = some u → w.cell? ((⟨g, 0, none⟩ : Addr).add j) = some u := by
    intro j u hu
    rw [Opn.add_at, Nat.zero_add, hnews.cell, ← hu]
    show #[Value.int IntKind.u64 (s.1 : Int), .int .u64 (s.2 : Int)][j]? = [Value.int IntKind.u64 (s.1 : Int), .int .u64 (s.2 : Int)][j]?
    simp
  obtain ⟨v', w', hrun, h2, h3, _, h5⟩ := run_append_own_at (P := P) w base t ty T i (.agg #[.int .u64 0, .int .u64 0]) 2 16 ht hi hz hs hby rfl (by omega) v l.length (prCells l) hown ⟨g, 0, none⟩ 1 c (prCells [s]) (by simp [prCells]) hcells (by intro u hu; simp [prCells] at hu; rcases hu with rfl | rfl <;> rfl) (by unfold maxLen; omega) (by omega) hbase
  refine ⟨v', w', hrun, ?_, ⟨h3.os, h3.tape, h3.output, h3.size, fun k hk hn => h3.block k hk (fun e => hn e.symm)⟩, h5⟩
  unfold OwnPr
  rw [List.length_append, prCells_append]
  exact h2
theorem stepR_append_pr {ops : Array Oper} {o : Oper} {a : Act} {K : Act → World → Prop} {Q : Exit → Act → World → Prop} {E : Prop} (hgd : o.guard = none) (u x : Operand) (t : TypeId)
    (ho : o.op = .call { callee := .builtin .append, args := #[u, x], argTypes := #[t, t] })
    (T base : Nat) (ht : P.underlying t = some (.slice T)) (hinfo : (P.info? T).map (fun i => (i.zero, i.size, i.bytes)) = some (some (.agg #[.int .u64 0, .int .u64 0]), 2, 16))
    (v : Value) (l : List (Nat × Nat)) (hs : a.eval u = v) (hown : OwnPr w T base v l) (g c : Nat) (s : Nat × Nat) (hx : a.eval x = .slice (some ⟨g, 0, none⟩) 1 c) (hnews : Pts w g #[.int .u64 (s.1 : Int), .int .u64 (s.2 : Int)] T)
    (hlen : l.length + 1 ≤ 1000000000) (hbase : base ≤ w.heap.size)
    (h : ∀ v' w', OwnPr w' T base v' (l ++ [s]) → Frm (fun k => v.ownBlock = some k) w w' → (v'.ownBlock = v.ownBlock ∨ v'.ownBlock = some w.heap.size) → K (a.put o.dst v') w') :
    if Region.wanted o (yielded ops a.tmps) = true then Oper.wp P o a w K Q else E := by
  have hw : Region.wanted o (yielded ops a.tmps) = true := by simp [Region.wanted, hgd]
  rw [if_pos hw]
  obtain ⟨v', w', hrun, h2, h3, h4⟩ := run_append_pr (P := P) w t o.type T base ht hinfo v l hown g c s hnews hlen hbase
  unfold Oper.wp execOp
  simp only [ho, resolve, invoke, builtin, Sem.run_bind, Sem.run_pure, Result.andThen_ok, List.map_toArray, List.map_cons, List.map_nil, hs, hx, hrun]
  exact h _ _ h2 h3 h4
end
theorem Tryz.info_pair : (Tryz.prog.info? 100).map (fun i => (i.zero, i.size, i.bytes)) = some (some (.agg #[.int .u64 0, .int .u64 0]), 2, 16) := by kernel_rfl
end Go.Proofs.YtgahfpflhhfhfaaGreat

/- An index: where the walk leaves. -/
namespace Go.Proofs.YtgahfpflhhfhfaaGreat
open Go.RowKit Box
set_option linter.unusedVariables false
set_option linter.unusedSimpArgs false
abbrev TPR : TypeId := 46
/-- What an index' reading leaves. -/
def IxPost (R : List (Nat × Nat) × Nat × Int) (w : World) (e : Ending) (w' : World) : Prop :=
  ∃ v, e = .returned (.tuple #[v, .int .i64 (R.2.1 : Int), .int .i64 R.2.2]) ∧ OwnPr w' 100 w.heap.size v R.1 ∧ Below w.heap.size w w'
abbrev caughtD (he : Nat) : Deferred := { target := .fn (.func 40) #[], args := #[.pointer (some ⟨he, 0, none⟩)] }
end Go.Proofs.YtgahfpflhhfhfaaGreat

/- An index: the walk. -/
namespace Go.Proofs.YtgahfpflhhfhfaaGreat
open Go.RowKit Box
set_option linter.unusedVariables false
set_option linter.unusedSimpArgs false
/-- An index that is being read. -/
structure IxAt (w0 w : World) (lv : Value) (l : List (Nat × Nat)) (r : List UInt8) (u : Nat) : Prop where
  pl : Pts w w0.heap.size #[lv] TPR
  pu : Pts w (w0.heap.size + 1) #[.int .i64 0] 3
  pe : Pts w (w0.heap.size + 2) #[.int .i64 0] 24
  cu : CurAt w (w0.heap.size + 3) w0.heap.size r u
  ho : OwnPr w 100 (w0.heap.size + 4) lv l
  be : Below w0.heap.size w0 w
section
variable {w0 w w' : World} {lv v4 : Value} {l l4 : List (Nat × Nat)} {r r' : List UInt8} {u u' : Nat}
end
end Go.Proofs.YtgahfpflhhfhfaaGreat

/- What the document says of numbers, a head, an index, a foot: the law's own check. -/
namespace Go.Proofs.YtgahfpflhhfhfaaGreat
open Go.RowKit Box
set_option linter.unusedVariables false
set_option linter.unusedSimpArgs false
end Go.Proofs.YtgahfpflhhfhfaaGreat

/- The walks of XzboxHeads and XzboxNumbers. -/
namespace Go.Proofs.YtgahfpflhhfhfaaGreat
open Go.RowKit Box
set_option linter.unusedVariables false
set_option linter.unusedSimpArgs false
end Go.Proofs.YtgahfpflhhfhfaaGreat

/- A block's head: what it tells, in plain Lean; what a cursor reads of it. -/
namespace Go.Proofs.YtgahfpflhhfhfaaGreat
open Go.RowKit Box
set_option linter.unusedVariables false
set_option linter.unusedSimpArgs false
namespace Box
def winOf (c : Nat) : Int := if c = 40 then 4294967295 else (((2 + c % 2) * 2 ^ (c / 2 + 11) : Nat) : Int)
abbrev BkR := Except Int (Int × Nat × Nat)
def M64' : Nat := 18446744073709551615
def bkFilter (r : List UInt8) (p w : Nat) : BkR :=
  match r with
  | [] => .error 11
  | c :: t => if ¬ c.toNat < 64 then .error 12 else if 40 < c.toNat then .error 11 else if ¬ (∀ x ∈ t, x = 0) then .error 11 else .ok (winOf c.toNat, p, w)
def bkSet (r : List UInt8) (p w : Nat) : BkR :=
  if ¬ (number r).2.2 = 0 then .error 11 else if ¬ (number r).1 = 1 then .error 11 else bkFilter (r.drop (number r).2.1) p w
def bkKind (r : List UInt8) (p w : Nat) : BkR :=
  if ¬ (number r).2.2 = 0 then .error 11 else if ¬ (number r).1 = 33 then .error 12 else bkSet (r.drop (number r).2.1) p w
def bkWhole (f : Nat) (r : List UInt8) (p : Nat) : BkR :=
  if 128 ≤ f then (if ¬ (number r).2.2 = 0 then .error 11 else bkKind (r.drop (number r).2.1) p (number r).1) else bkKind r p M64'
def bkPacked (f : Nat) (r : List UInt8) : BkR :=
  if f / 64 % 2 = 1 then (if ¬ (number r).2.2 = 0 then .error 11 else if (number r).1 = 0 then .error 11 else bkWhole f (r.drop (number r).2.1) (number r).1) else bkWhole f r M64'
def bkBody (r : List UInt8) : BkR :=
  match r with
  | [] => .error 11
  | f :: r => if ¬ f.toNat % 64 = 0 then .error 12 else bkPacked f.toNat r
end Box
/-- What reading a block's head leaves. -/
def BkPost (cb : Nat) (R : BkR) (w : World) (e : Ending) (w' : World) : Prop :=
  (match R with
   | .ok (s, p, q) => e = .returned (.tuple #[.int .i64 s, .int .u64 (p : Int), .int .u64 (q : Int)])
   | .error x => x ≠ 0 ∧ e = .panicked [{ v := .iface 107 (.agg #[.int .i64 x]), recovered := false }]) ∧ Frm (· = cb) w w'
theorem and_tab : ∀ F : Fin 256, (bits .and .u8 ((F.val : Nat) : Int) 63 == 0) = decide (F.val % 64 = 0) ∧ (bits .and .u8 ((F.val : Nat) : Int) 64 != 0) = decide (F.val / 64 % 2 = 1) ∧ (bits .and .u8 ((F.val : Nat) : Int) 128 != 0) = decide (128 ≤ F.val) ∧ (bits .and .u8 ((F.val : Nat) : Int) 192 == 0) = decide (F.val < 64) ∧
    bits .and .u8 ((F.val : Nat) : Int) 1 = ((F.val % 2 : Nat) : Int) := by decide +kernel
theorem and_facts {F : Nat} (h : F < 256) : (bits .and .u8 (F : Int) 63 == 0) = decide (F % 64 = 0) ∧ (bits .and .u8 (F : Int) 64 != 0) = decide (F / 64 % 2 = 1) ∧ (bits .and .u8 (F : Int) 128 != 0) = decide (128 ≤ F) ∧ (bits .and .u8 (F : Int) 192 == 0) = decide (F < 64) ∧
    bits .and .u8 (F : Int) 1 = ((F % 2 : Nat) : Int) := and_tab ⟨F, h⟩
theorem win_in {m : Nat} (hm : m < 40) : (2 + m % 2) * 2 ^ (m / 2 + 11) ≤ 3221225472 := by
  have h1 : 2 ^ (m / 2 + 11) ≤ 2 ^ 30 := Nat.pow_le_pow_right (by decide) (by omega)
  have h2 : (2 : Nat) ^ 30 = 1073741824 := by decide
  have h3 : (2 + m % 2) * 2 ^ (m / 2 + 11) ≤ 3 * 2 ^ 30 := Nat.mul_le_mul (by omega) h1
  omega
theorem size_p (m : Nat) (w : World) (hm : m ≤ 40) : Calls Tryz.prog 65 #[.int .u8 (m : Int)] w fun e w' => e = .returned (.int .i64 (winOf m)) ∧ w = w' := by
  by_cases h40 : m = 40
  · subst h40
    show Calls _ _ #[.int .u8 40] w _
    go_enter Tryz.func65, Tryz.ntmps65
    go_wp2
    go_ret
    exact ⟨rfl, rfl⟩
  · have ha := (and_facts (F := m) (by omega)).2.2.2.2
    have hwin := win_in (m := m) (by omega)
    have hwo : winOf m = (((2 + m % 2) * 2 ^ (m / 2 + 11) : Nat) : Int) := by unfold winOf; rw [if_neg h40]
    obtain ⟨q, hq⟩ : ∃ q, m % 2 = q := ⟨_, rfl⟩
    have hq2 : q < 2 := by omega
    rw [hq] at ha hwin hwo
    have hmod : (2 + (q : Int)) % 256 = 2 + (q : Int) := by omega
    obtain ⟨z, hz⟩ : ∃ z, 2 ^ (m / 2 + 11) = z := ⟨_, rfl⟩
    have hzi : (2 : Int) ^ (m / 2 + 11) = (z : Int) := by rw [← hz]; simp
    rw [hz] at hwin hwo
    have hp : (2 + (q : Int)) * (z : Int) = (((2 + q) * z : Nat) : Int) := by simp
    obtain ⟨W, hW⟩ : ∃ W, (2 + q) * z = W := ⟨_, rfl⟩
    rw [hW] at hp hwin hwo
    have hww : wrap64 (W : Int) = (W : Int) := by unfold wrap64; omega
    rw [hwo]
    have HZI := Lib.hid hzi
    clear hwo hq hz hW hzi
    go_enter Tryz.func65, Tryz.ntmps65
    go_wp2
    go_ret
    exact ⟨by show Ending.returned (.int .i64 (wrap64 ((2 + (q : Int)) * 2 ^ (m / 2 + 11)))) = _; rw [HZI.out, hp, hww], rfl⟩
end Go.Proofs.YtgahfpflhhfhfaaGreat

/- What a cursor reads of a block's head: the walk. -/
namespace Go.Proofs.YtgahfpflhhfhfaaGreat
open Go.RowKit Box
set_option linter.unusedVariables false
set_option linter.unusedSimpArgs false
theorem num_cases (r : List UInt8) : (number r = (0, 0, (number r).2.2) ∧ ¬ (number r).2.2 = 0) ∨ (∃ y m, number r = (y, m, 0) ∧ y < 9223372036854775808 ∧ m ≤ r.length) := by
  by_cases h : (number r).2.2 = 0
  · right
    have h1 := number_good h
    obtain ⟨a, _, c, _⟩ := number_back h1
    exact ⟨_, _, h1, a, c⟩
  · exact .inl ⟨number_bad h, h⟩
/-- A cursor that is under way: its block, what it has, how much that is. -/
structure CuW (w0 w : World) (cb B L : Nat) (r : List UInt8) : Prop where
  c : ∃ u, CurAt w cb B r u ∧ u + r.length = L
  f : Frm (· = cb) w0 w
section
variable {w0 w : World} {cb B L : Nat} {r : List UInt8}
theorem CuW.ins_ok {y m : Nat} (h : CuW w0 w cb B L r) (hL : L ≤ 1000000) (hn : number r = (y, m, 0)) :
    Calls Tryz.prog 64 #[.pointer (some ⟨cb, 0, none⟩)] w fun e w' => e = .returned (.int .u64 (y : Int)) ∧ CuW w0 w' cb B L (r.drop m) := by
  obtain ⟨u, hc, hl⟩ := h.c
  obtain ⟨_, _, hm, _⟩ := number_back hn
  refine (cins_ok cb B u y m r w hc (by omega) hn (by omega)).mono ?_
  rintro e w' ⟨rfl, h1, h2⟩
  exact ⟨rfl, ⟨⟨_, h1, by rw [List.length_drop]; omega⟩, h.f.trans h2⟩⟩
theorem CuW.ins_bad (h : CuW w0 w cb B L r) (hL : L ≤ 1000000) (hn : number r = (0, 0, (number r).2.2)) (he : ¬ (number r).2.2 = 0) :
    Calls Tryz.prog 64 #[.pointer (some ⟨cb, 0, none⟩)] w fun e w' => e = .panicked [{ v := .iface 107 (.agg #[.int .i64 11]), recovered := false }] ∧ w = w' := by
  obtain ⟨u, hc, hl⟩ := h.c
  exact cins_bad cb B u _ r w hc (by omega) hn he
theorem CuW.one_ok {x : UInt8} (h : CuW w0 w cb B L (x :: r)) (hL : L ≤ 1000000) (e : Int) :
    Calls Tryz.prog 41 #[.pointer (some ⟨cb, 0, none⟩), .int .i64 1, .int .i64 e] w fun o w' => ∃ b off c, o = .returned (.slice (some ⟨b, off, none⟩) 1 c) ∧ 1 ≤ c ∧ w'.cell? ⟨b, off, none⟩ = some (.int .u8 (x.toNat : Int)) ∧ CuW w0 w' cb B L r := by
  obtain ⟨u, hc, hl⟩ := h.c
  rw [List.length_cons] at hl
  refine (take_ok cb B 1 u e (x :: r) w hc (by simp) (by omega)).mono ?_
  rintro o w' ⟨A, c, rfl, hr, h1, _, hcu, hf⟩
  obtain ⟨b, off, rfl, _, hcell⟩ := hr (by simp)
  exact ⟨b, off, c, rfl, h1, hcell 0 (by simp), ⟨⟨_, hcu, by show _ + r.length = L; omega⟩, h.f.trans hf⟩⟩
theorem CuW.one_bad (h : CuW w0 w cb B L []) (e : Int) :
    Calls Tryz.prog 41 #[.pointer (some ⟨cb, 0, none⟩), .int .i64 1, .int .i64 e] w fun o w' => o = .panicked [{ v := .iface 107 (.agg #[.int .i64 e]), recovered := false }] ∧ w = w' := by
  obtain ⟨u, hc, hl⟩ := h.c
  exact take_bad cb B 1 u e [] w hc (by simp)
end
set_option maxRecDepth 100000 in
set_option maxHeartbeats 4000000 in
theorem cblock_p (cb B u : Nat) (bs : List UInt8) (w : World) (h : CurAt w cb B bs u) (hlen : u + bs.length ≤ 1000000) :
    Calls Tryz.prog 46 #[.pointer (some ⟨cb, 0, none⟩)] w (BkPost cb (bkBody bs) w) := by
  obtain ⟨L, hL⟩ : ∃ L, u + bs.length = L := ⟨_, rfl⟩
  have C0 := Lib.hid (show CuW w w cb B L bs from ⟨⟨u, h, hL⟩, Frm.refl _ _⟩)
  have HL := Lib.hid (show L ≤ 1000000 by omega)
  clear h hlen hL
  obtain ⟨R, hR⟩ : ∃ R, bkBody bs = R := ⟨_, rfl⟩
  rw [hR]
  have HR := Lib.hid hR
  clear hR
  cases bs with
  | nil =>
    have hR : .error 11 = R := HR.out
    subst hR
    clear HR
    go_enter Tryz.func46, Tryz.ntmps46
    go_wp2_with fail
    refine (C0.out.one_bad _).mono ?_; rintro r w2 ⟨rfl, rfl⟩
    go_wp2
    exact ⟨rfl, ⟨by decide, rfl⟩, C0.out.f⟩
  | cons f r =>
    have hF := f.toNat_lt
    have hR := HR.out
    unfold bkBody at hR
    simp only at hR
    obtain ⟨F, hFF⟩ : ∃ F, f.toNat = F := ⟨_, rfl⟩
    rw [hFF] at hR hF
    have HFF := Lib.hid hFF
    clear HR hFF
    obtain ⟨f63, f64, f128, _, _⟩ := and_facts hF
    have HO := Lib.hid (fun e => C0.out.one_ok HL.out e)
    rw [HFF.out] at HO
    by_cases h63 : F % 64 = 0
    · rw [if_neg (fun h => h h63)] at hR
      have f63 : (bits .and .u8 (F : Int) 63 == 0) = true := f63.trans (decide_eq_true h63)
      have g63 : ((F : Int) % 64 == 0) = true := by have : (F : Int) % 64 = 0 := by omega
                                                    rw [this]; rfl
      have HR := Lib.hid hR
      clear hR h63
      go_enter Tryz.func46, Tryz.ntmps46
      go_wp2_with fail
      refine (HO.out _).mono ?_; rintro o w1 ⟨b0, off, c0, rfl, hc0, k0, hcu⟩
      have C1 := Lib.hid hcu
      clear hcu HO C0
      go_wp2_with fail
      refine (must_ok _ _ _).mono ?_; rintro o w2 ⟨rfl, rfl⟩
      go_upto_if 20 with fail
      go_cut [3] from 7 (fun s3 wx => ∃ (p : Nat) (r2 : List UInt8), s3 = .int .u64 p ∧ CuW w wx cb B L r2 ∧ bkWhole F r2 p = R)
      case first =>
        by_cases h64 : F / 64 % 2 = 1
        · have f64 := f64.trans (decide_eq_true h64)
          have hR := HR.out
          unfold bkPacked at hR
          rw [if_pos h64] at hR
          rcases num_cases r with ⟨hn, he⟩ | ⟨y, m, hn, hy, hm⟩
          · rw [if_pos he] at hR
            subst hR
            have HI := Lib.hid (C1.out.ins_bad HL.out hn he)
            clear HR hn he
            go_wp2_with fail
            refine HI.out.mono ?_; rintro o w2 ⟨rfl, rfl⟩
            go_wp2
            exact ⟨rfl, ⟨by decide, rfl⟩, C1.out.f⟩
          · have HI := Lib.hid (C1.out.ins_ok HL.out hn)
            rw [hn] at hR
            simp only at hR
            rw [if_neg (by simp)] at hR
            by_cases hy0 : y = 0
            · rw [if_pos hy0] at hR
              subst hR
              subst hy0
              clear HR hn
              go_wp2_with fail
              refine HI.out.mono ?_; rintro o w2 ⟨rfl, hcu⟩
              have C2 := Lib.hid hcu
              clear hcu
              go_wp2_with fail
              refine (must_bad _ _ _).mono ?_; rintro o w3 ⟨rfl, rfl⟩
              go_wp2
              exact ⟨rfl, ⟨by decide, rfl⟩, C2.out.f⟩
            · rw [if_neg hy0] at hR
              have hyp : decide ((0 : Int) < (y : Int)) = true := decide_eq_true (by omega)
              have hyp2 : decide (0 < y) = true := decide_eq_true (by omega)
              have hyp3 : 0 < y := by omega
              have HR2 := Lib.hid hR
              clear HR hn hR hy0
              go_wp2_with fail
              refine HI.out.mono ?_; rintro o w2 ⟨rfl, hcu⟩
              have C2 := Lib.hid hcu
              clear hcu
              go_wp2_with fail
              refine (must_ok _ _ _).mono ?_; rintro o w3 ⟨rfl, rfl⟩
              go_wp2
              go_meet
              case rel => exact ⟨y, _, rfl, C2.out, HR2.out⟩
        · have f64 := f64.trans (decide_eq_false h64)
          have hR := HR.out
          unfold bkPacked at hR
          rw [if_neg h64] at hR
          have HR2 := Lib.hid hR
          clear HR hR
          go_wp2
          go_meet
          case rel => exact ⟨M64', _, rfl, C1.out, HR2.out⟩
      case rest =>
        obtain ⟨p, r2, rfl, hcu2, hR2⟩ := hcut
        have C3 := Lib.hid hcu2
        have HR3 := Lib.hid hR2
        clear hcu2 hR2 HR C1
        go_upto_if 29 with fail
        go_cut [4] from 7 (fun s4 wx => ∃ (q : Nat) (r2 : List UInt8), s4 = .int .u64 q ∧ CuW w wx cb B L r2 ∧ bkKind r2 p q = R)
        case first =>
          by_cases h128 : 128 ≤ F
          · have f128 := f128.trans (decide_eq_true h128)
            have hR := HR3.out
            unfold bkWhole at hR
            rw [if_pos h128] at hR
            rcases num_cases r2 with ⟨hn, he⟩ | ⟨y, m, hn, hy, hm⟩
            · rw [if_pos he] at hR
              subst hR
              have HI := Lib.hid (C3.out.ins_bad HL.out hn he)
              clear HR3 hn he
              go_wp2_with fail
              refine HI.out.mono ?_; rintro o w2 ⟨rfl, rfl⟩
              go_wp2
              exact ⟨rfl, ⟨by decide, rfl⟩, C3.out.f⟩
            · have HI := Lib.hid (C3.out.ins_ok HL.out hn)
              rw [hn] at hR
              simp only at hR
              rw [if_neg (by simp)] at hR
              have HR4 := Lib.hid hR
              clear HR3 hn hR
              go_wp2_with fail
              refine HI.out.mono ?_; rintro o w2 ⟨rfl, hcu⟩
              have C4 := Lib.hid hcu
              clear hcu
              go_wp2
              go_meet
              case rel => exact ⟨y, _, rfl, C4.out, HR4.out⟩
          · have f128 := f128.trans (decide_eq_false h128)
            have hR := HR3.out
            unfold bkWhole at hR
            rw [if_neg h128] at hR
            have HR4 := Lib.hid hR
            clear HR3 hR
            go_wp2
            go_meet
            case rel => exact ⟨M64', _, rfl, C3.out, HR4.out⟩
        case rest =>
          obtain ⟨q, r3, rfl, hcu3, hR3⟩ := hcut
          have C5 := Lib.hid hcu3
          clear hcu3 HR3 C3
          unfold bkKind at hR3
          rcases num_cases r3 with ⟨hn, he⟩ | ⟨y, m, hn, hy, hm⟩
          · rw [if_pos he] at hR3
            subst hR3
            have HI := Lib.hid (C5.out.ins_bad HL.out hn he)
            clear hn he
            go_wp2_with fail
            refine HI.out.mono ?_; rintro o w2 ⟨rfl, rfl⟩
            go_wp2
            exact ⟨rfl, ⟨by decide, rfl⟩, C5.out.f⟩
          · have HI := Lib.hid (C5.out.ins_ok HL.out hn)
            rw [hn] at hR3
            simp only at hR3
            rw [if_neg (by simp)] at hR3
            clear hn
            by_cases h33 : y = 33
            · subst h33
              rw [if_neg (fun h => h rfl)] at hR3
              go_wp2_with fail
              refine HI.out.mono ?_; rintro o w2 ⟨rfl, hcu⟩
              have C6 := Lib.hid hcu
              clear hcu HI C5
              go_wp2_with fail
              refine (must_ok _ _ _).mono ?_; rintro o w3 ⟨rfl, rfl⟩
              obtain ⟨r4, hr4⟩ : ∃ r4, r3.drop m = r4 := ⟨_, rfl⟩
              rw [hr4] at C6 hR3
              clear hr4 hm hy
              unfold bkSet at hR3
              rcases num_cases r4 with ⟨hn, he⟩ | ⟨y, m, hn, hy, hm⟩
              · rw [if_pos he] at hR3
                subst hR3
                have HI := Lib.hid (C6.out.ins_bad HL.out hn he)
                clear hn he
                go_wp2_with fail
                refine HI.out.mono ?_; rintro o w2 ⟨rfl, rfl⟩
                go_wp2
                exact ⟨rfl, ⟨by decide, rfl⟩, C6.out.f⟩
              · have HI := Lib.hid (C6.out.ins_ok HL.out hn)
                rw [hn] at hR3
                simp only at hR3
                rw [if_neg (by simp)] at hR3
                clear hn
                by_cases h1 : y = 1
                · subst h1
                  rw [if_neg (fun h => h rfl)] at hR3
                  go_wp2_with fail
                  refine HI.out.mono ?_; rintro o w3 ⟨rfl, hcu⟩
                  have C7 := Lib.hid hcu
                  clear hcu HI C6
                  go_wp2_with fail
                  refine (must_ok _ _ _).mono ?_; rintro o w4 ⟨rfl, rfl⟩
                  obtain ⟨r5, hr5⟩ : ∃ r5, r4.drop m = r5 := ⟨_, rfl⟩
                  rw [hr5] at C7 hR3
                  clear hr5 hm hy
                  cases r5 with
                  | nil =>
                    have hR : .error 11 = R := hR3
                    subst hR
                    clear hR3
                    go_wp2_with fail
                    refine (C7.out.one_bad _).mono ?_; rintro o w5 ⟨rfl, rfl⟩
                    go_wp2
                    exact ⟨rfl, ⟨by decide, rfl⟩, C7.out.f⟩
                  | cons cd t =>
                    unfold bkFilter at hR3
                    simp only at hR3
                    have hcd := cd.toNat_lt
                    have HO := Lib.hid (fun e => C7.out.one_ok HL.out e)
                    obtain ⟨n, hn⟩ : ∃ n, cd.toNat = n := ⟨_, rfl⟩
                    rw [hn] at HO hR3 hcd
                    clear hn
                    obtain ⟨_, _, _, f192, _⟩ := and_facts hcd
                    go_wp2_with fail
                    refine (HO.out _).mono ?_; rintro o w5 ⟨b1, off1, c1, rfl, hc1, k1, hcu⟩
                    have C8 := Lib.hid hcu
                    clear hcu HO C7
                    by_cases h64 : n < 64
                    · have f192 := f192.trans (decide_eq_true h64)
                      rw [if_neg (fun h => h h64)] at hR3
                      go_wp2_with fail
                      refine (must_ok _ _ _).mono ?_; rintro o w6 ⟨rfl, rfl⟩
                      by_cases h40 : 40 < n
                      · rw [if_pos h40] at hR3
                        subst hR3
                        have h40b : decide ((n : Int) ≤ 40) = false := decide_eq_false (by omega)
                        go_wp2_with fail
                        refine (must_bad _ _ _).mono ?_; rintro o w7 ⟨rfl, rfl⟩
                        go_wp2
                        exact ⟨rfl, ⟨by decide, rfl⟩, C8.out.f⟩
                      · rw [if_neg h40] at hR3
                        have h40b : decide ((n : Int) ≤ 40) = true := decide_eq_true (by omega)
                        have HSZ := Lib.hid (fun w => size_p n w (by omega))
                        have HR9 := Lib.hid hR3
                        have h40c : n ≤ 40 := by omega
                        clear hR3
                        go_wp2_with fail
                        refine (must_ok _ _ _).mono ?_; rintro o w6 ⟨rfl, rfl⟩
                        have hcell : ∃ A9 c9, w5.cell? ⟨cb, 0, none⟩ = some (.slice A9 t.length c9) ∧ BRow w5 B A9 t := by
                          obtain ⟨u9, ⟨A9, c9, hp, hr, _⟩, _⟩ := C8.out.c
                          exact ⟨A9, c9, hp.cell 0, hr⟩
                        obtain ⟨A9, c9, cl9, hr9⟩ := hcell
                        have R9 := Lib.hid hr9
                        have htl : t.length ≤ 1000000 := by obtain ⟨u9, _, h⟩ := C8.out.c; have := HL.out; omega
                        clear hr9
                        go_wp2
                        go_loopw [60] (fun jv wx => w5 = wx ∧ ∃ j : Nat, jv = .int .i64 j ∧ j ≤ t.length ∧ ∀ x ∈ t.take j, x = 0) (fun jv _ => t.length - (intOf jv).toNat)
                        case atStart => exact ⟨rfl, 0, rfl, by omega, by simp⟩
                        case round =>
                          obtain ⟨hwx, j, rfl, hj, hall⟩ := hrel
                          subst hwx
                          by_cases hjp : j < t.length
                          · obtain ⟨b2, off2, hA2, hb2, hcell2⟩ := R9.out (by omega)
                            subst hA2
                            have k2 := hcell2 j hjp
                            unfold byteV at k2
                            have hg : t.getD j 0 = t[j] := by simp [List.getD, List.getElem?_eq_getElem hjp]
                            rw [hg] at k2
                            by_cases hx : t[j] = 0
                            · rw [hx] at k2
                              have k2 : w5.cell? ⟨b2, off2 + j, none⟩ = some (.int .u8 0) := k2
                              have hall2 : ∀ x ∈ t.take (j + 1), x = 0 := by
                                rw [List.take_succ_eq_append_getElem hjp]
                                intro x hx2
                                rcases List.mem_append.1 hx2 with h | h
                                · exact hall x h
                                · rw [List.mem_singleton.1 h, hx]
                              have HA2 := Lib.hid hall2
                              clear hall hall2 hcell2 hg hx
                              go_wp2_with fail
                              refine (must_ok _ _ _).mono ?_; rintro o w8 ⟨rfl, rfl⟩
                              go_wp2
                              exact ⟨⟨trivial, j + 1, by go_num, by omega, HA2.out⟩, by simp [intOf]; omega⟩
                            · have hq0 : ((t[j].toNat : Int) == 0) = false := nat_ne (k := 0) (by decide) hx
                              have hrun := HR9.out
                              rw [if_pos (fun h => hx (h _ (List.getElem_mem hjp)))] at hrun
                              subst hrun
                              generalize t[j].toNat = xv at *
                              clear hall hcell2 hg hx HR9
                              go_wp2_with fail
                              refine (must_bad _ _ _).mono ?_; rintro o w8 ⟨rfl, rfl⟩
                              go_wp2
                              exact ⟨rfl, ⟨by decide, rfl⟩, C8.out.f⟩
                          · obtain rfl : j = t.length := by omega
                            rw [List.take_of_length_le (Nat.le_refl _)] at hall
                            have hrun := HR9.out
                            rw [if_neg (fun h => h hall)] at hrun
                            subst hrun
                            clear HR9 hall hj hjp
                            go_wp2_with fail
                            refine (HSZ.out _).mono ?_; rintro o w9 ⟨rfl, rfl⟩
                            go_wp2
                            refine bodyPost_ret (results_tmp3 rfl _ _ _) rfl ?_
                            exact ⟨rfl, C8.out.f⟩
                    · have f192 := f192.trans (decide_eq_false h64)
                      rw [if_pos h64] at hR3
                      subst hR3
                      go_wp2_with fail
                      refine (must_bad _ _ _).mono ?_; rintro o w6 ⟨rfl, rfl⟩
                      go_wp2
                      exact ⟨rfl, ⟨by decide, rfl⟩, C8.out.f⟩
                · rw [if_pos h1] at hR3
                  subst hR3
                  have h1b : ((y : Int) == 1) = false := by simp; omega
                  go_wp2_with fail
                  refine HI.out.mono ?_; rintro o w3 ⟨rfl, hcu⟩
                  have C7 := Lib.hid hcu
                  clear hcu
                  go_wp2_with fail
                  refine (must_bad _ _ _).mono ?_; rintro o w4 ⟨rfl, rfl⟩
                  go_wp2
                  exact ⟨rfl, ⟨by decide, rfl⟩, C7.out.f⟩
            · rw [if_pos h33] at hR3
              subst hR3
              have h33b : ((y : Int) == 33) = false := by simp; omega
              have h33n : ¬ y = 33 := h33
              go_wp2_with fail
              refine HI.out.mono ?_; rintro o w2 ⟨rfl, hcu⟩
              have C6 := Lib.hid hcu
              clear hcu
              go_wp2_with fail
              refine (must_bad _ _ _).mono ?_; rintro o w3 ⟨rfl, rfl⟩
              go_wp2
              exact ⟨rfl, ⟨by decide, rfl⟩, C6.out.f⟩
    · rw [if_pos h63] at hR
      have f63 : (bits .and .u8 (F : Int) 63 == 0) = false := f63.trans (decide_eq_false h63)
      have g63 : ((F : Int) % 64 == 0) = false := by simp; omega
      subst hR
      clear h63
      go_enter Tryz.func46, Tryz.ntmps46
      go_wp2_with fail
      refine (HO.out _).mono ?_; rintro o w1 ⟨b0, off, c0, rfl, hc0, k0, hcu⟩
      have C1 := Lib.hid hcu
      clear hcu
      go_wp2_with fail
      refine (must_bad _ _ _).mono ?_; rintro o w2 ⟨rfl, rfl⟩
      go_wp2
      exact ⟨rfl, ⟨by decide, rfl⟩, C1.out.f⟩
end Go.Proofs.YtgahfpflhhfhfaaGreat

/- A block's head: the walk of Block. -/
namespace Go.Proofs.YtgahfpflhhfhfaaGreat
open Go.RowKit Box
set_option linter.unusedVariables false
set_option linter.unusedSimpArgs false
abbrev BlkR := Int × Nat × Nat × Nat × Int
def blkOf (R : BkR) (n : Nat) : BlkR :=
  match R with
  | .ok (s, p, q) => (s, n, p, q, 0)
  | .error x => (0, 0, 0, 0, x)
/-- What a block's head tells. -/
def blockOf (bs : List UInt8) : BlkR :=
  match bs with
  | [] => (0, 0, 0, 0, 10)
  | b :: r =>
    if (b :: r).length < (b.toNat + 1) * 4 then (0, 0, 0, 0, 10)
    else if b = 0 then (0, 0, 0, 0, 11)
    else if ¬ sealedB ((b :: r).take ((b.toNat + 1) * 4)) = true then (0, 0, 0, 0, 11)
    else blkOf (bkBody ((((b :: r).take ((b.toNat + 1) * 4)).drop 1).take ((b.toNat + 1) * 4 - 5))) ((b.toNat + 1) * 4)
def blkV (R : BlkR) : Value := .tuple #[.int .i64 R.1, .int .i64 (R.2.1 : Int), .int .u64 (R.2.2.1 : Int), .int .u64 (R.2.2.2.1 : Int), .int .i64 R.2.2.2.2]
def BlkPost (R : BlkR) (w : World) (e : Ending) (w' : World) : Prop := e = .returned (blkV R) ∧ Below w.heap.size w w'
/-- The results' variables of a block's head that is being read. -/
structure BkAt (w0 w : World) (s : Int) (n p q : Nat) : Prop where
  ps : Pts w w0.heap.size #[.int .i64 s] 3
  pn : Pts w (w0.heap.size + 1) #[.int .i64 (n : Int)] 3
  pp : Pts w (w0.heap.size + 2) #[.int .u64 (p : Int)] 50
  pq : Pts w (w0.heap.size + 3) #[.int .u64 (q : Int)] 50
  pe : Pts w (w0.heap.size + 4) #[.int .i64 0] 24
  be : Below w0.heap.size w0 w
section
variable {w0 w w' : World} {s : Int} {n p q : Nat}
theorem BkAt.frm (h : BkAt w0 w s n p q) {S : Nat → Prop} (hf : Frm S w w') (hS : ∀ k, S k → w0.heap.size + 5 ≤ k) : BkAt w0 w' s n p q :=
  ⟨h.ps.frm hf (fun e => by have := hS _ e; omega), h.pn.frm hf (fun e => by have := hS _ e; omega), h.pp.frm hf (fun e => by have := hS _ e; omega), h.pq.frm hf (fun e => by have := hS _ e; omega), h.pe.frm hf (fun e => by have := hS _ e; omega),
    h.be.trans (hf.below h.be.size (fun k hk => by have := hS _ hk; omega))⟩
theorem BkAt.still (h : BkAt w0 w s n p q) (hb : Below w.heap.size w w') : BkAt w0 w' s n p q := h.frm (S := fun _ => False) (Frm.of_below hb) (fun k h => h.elim)
end
theorem bkclo_any (h : Nat) (s e : Int) (n p q : Nat) (u : FrameMode) (w0 w : World) (hh : w0.heap.size = h) (ps : Pts w h #[.int .i64 s] 3) (pn : Pts w (h + 1) #[.int .i64 (n : Int)] 3) (pp : Pts w (h + 2) #[.int .u64 (p : Int)] 50) (pq : Pts w (h + 3) #[.int .u64 (q : Int)] 50) (pe : Pts w (h + 4) #[.int .i64 e] 24) (be : Below h w0 w) :
    CallsD Tryz.prog 45 #[.pointer (some ⟨h + 4, 0, none⟩), .pointer (some ⟨h, 0, none⟩), .pointer (some ⟨h + 1, 0, none⟩), .pointer (some ⟨h + 2, 0, none⟩), .pointer (some ⟨h + 3, 0, none⟩)] u w fun r u' w' => u' = u ∧ (r = .returned (.tuple #[]) ∧
      (e = 0 → w' = w) ∧ (e ≠ 0 → Pts w' h #[.int .i64 0] 3 ∧ Pts w' (h + 1) #[.int .i64 0] 3 ∧ Pts w' (h + 2) #[.int .u64 0] 50 ∧ Pts w' (h + 3) #[.int .u64 0] 50 ∧ Pts w' (h + 4) #[.int .i64 e] 24 ∧ Below h w0 w')) := by
  have c3 : w.cell? ⟨h + 4, 0, none⟩ = some (.int .i64 e) := pe.cell 0
  by_cases hz : e = 0
  · subst hz
    clear ps pn pp pq pe
    go_enter_d Tryz.func45, Tryz.ntmps45
    go_wp2
    go_end0
    exact ⟨rfl, fun _ => rfl, fun h => absurd rfl h⟩
  · have hz2 : (e != 0) = true := by simp [hz]
    have c0 : w.cell? ⟨h, 0, none⟩ = some (.int .i64 s) := ps.cell 0
    have z0 := ps.frozen 0
    have c1 : w.cell? ⟨h + 1, 0, none⟩ = some (.int .i64 (n : Int)) := pn.cell 0
    have z1 := pn.frozen 0
    have c2 : w.cell? ⟨h + 2, 0, none⟩ = some (.int .u64 (p : Int)) := pp.cell 0
    have z2 := pp.frozen 0
    have c4 : w.cell? ⟨h + 3, 0, none⟩ = some (.int .u64 (q : Int)) := pq.cell 0
    have z4 := pq.frozen 0
    have R1 := Lib.hid ((((ps.set 0 (.int .i64 0)).other (p := ⟨h + 1, 0, none⟩) (by show h ≠ h + 1; omega) (.int .i64 0)).other (p := ⟨h + 2, 0, none⟩) (by show h ≠ h + 2; omega) (.int .u64 0)).other (p := ⟨h + 3, 0, none⟩) (by show h ≠ h + 3; omega) (.int .u64 0))
    have R2 := Lib.hid ((((pn.other (p := ⟨h, 0, none⟩) (by show h + 1 ≠ h; omega) (.int .i64 0)).set 0 (.int .i64 0)).other (p := ⟨h + 2, 0, none⟩) (by show h + 1 ≠ h + 2; omega) (.int .u64 0)).other (p := ⟨h + 3, 0, none⟩) (by show h + 1 ≠ h + 3; omega) (.int .u64 0))
    have R3 := Lib.hid ((((pp.other (p := ⟨h, 0, none⟩) (by show h + 2 ≠ h; omega) (.int .i64 0)).other (p := ⟨h + 1, 0, none⟩) (by show h + 2 ≠ h + 1; omega) (.int .i64 0)).set 0 (.int .u64 0)).other (p := ⟨h + 3, 0, none⟩) (by show h + 2 ≠ h + 3; omega) (.int .u64 0))
    have R4 := Lib.hid ((((pq.other (p := ⟨h, 0, none⟩) (by show h + 3 ≠ h; omega) (.int .i64 0)).other (p := ⟨h + 1, 0, none⟩) (by show h + 3 ≠ h + 1; omega) (.int .i64 0)).other (p := ⟨h + 2, 0, none⟩) (by show h + 3 ≠ h + 2; omega) (.int .u64 0)).set 0 (.int .u64 0))
    have R5 := Lib.hid ((((pe.other (p := ⟨h, 0, none⟩) (by show h + 4 ≠ h; omega) (.int .i64 0)).other (p := ⟨h + 1, 0, none⟩) (by show h + 4 ≠ h + 1; omega) (.int .i64 0)).other (p := ⟨h + 2, 0, none⟩) (by show h + 4 ≠ h + 2; omega) (.int .u64 0)).other (p := ⟨h + 3, 0, none⟩) (by show h + 4 ≠ h + 3; omega) (.int .u64 0))
    have R6 := Lib.hid ((((be.setCell (p := ⟨h, 0, none⟩) (Nat.le_refl _) (.int .i64 0)).setCell (p := ⟨h + 1, 0, none⟩) (by show h ≤ h + 1; omega) (.int .i64 0)).setCell (p := ⟨h + 2, 0, none⟩) (by show h ≤ h + 2; omega) (.int .u64 0)).setCell (p := ⟨h + 3, 0, none⟩) (by show h ≤ h + 3; omega) (.int .u64 0))
    have HZ := Lib.hid hz
    clear ps pn pp pq pe hz
    go_enter_d Tryz.func45, Tryz.ntmps45
    go_wp2
    go_end0
    exact ⟨rfl, fun h => absurd h HZ.out, fun _ => ⟨R1.out, R2.out, R3.out, R4.out, R5.out, R6.out⟩⟩
abbrev bkcloD (h : Nat) : Deferred := { target := .fn (.func 45) #[.pointer (some ⟨h + 4, 0, none⟩), .pointer (some ⟨h, 0, none⟩), .pointer (some ⟨h + 1, 0, none⟩), .pointer (some ⟨h + 2, 0, none⟩), .pointer (some ⟨h + 3, 0, none⟩)], args := #[] }
theorem bk_door (x : Int) (hx : x ≠ 0) (s : Int) (n p q : Nat) (w0 w : World) (S : BkAt w0 w s n p q)
    (tmps : Array Value) (t2 : tmps[2]? = some (.pointer (some ⟨w0.heap.size, 0, none⟩))) (t3 : tmps[3]? = some (.pointer (some ⟨w0.heap.size + 1, 0, none⟩))) (t4 : tmps[4]? = some (.pointer (some ⟨w0.heap.size + 2, 0, none⟩))) (t5 : tmps[5]? = some (.pointer (some ⟨w0.heap.size + 3, 0, none⟩))) (t6 : tmps[6]? = some (.pointer (some ⟨w0.heap.size + 4, 0, none⟩))) :
    Leaves Tryz.prog Tryz.f22 tmps (BlkPost (0, 0, 0, 0, x) w0) [caughtD (w0.heap.size + 4), bkcloD w0.heap.size] (.panicking [{ v := .iface 107 (.agg #[.int .i64 x]), recovered := false }]) w := by
  refine leaves_cons (f := 40) (args := #[.pointer (some ⟨w0.heap.size + 4, 0, none⟩)]) (by simp) (by simp [go_sem]) ?_
  refine (catch_panicking (w0.heap.size + 4) x 0 _ _ S.pe).mono ?_
  rintro e u' w1 ⟨rfl, rfl, hp, hf⟩
  refine leaves_cons (f := 45) (args := #[.pointer (some ⟨w0.heap.size + 4, 0, none⟩), .pointer (some ⟨w0.heap.size, 0, none⟩), .pointer (some ⟨w0.heap.size + 1, 0, none⟩), .pointer (some ⟨w0.heap.size + 2, 0, none⟩), .pointer (some ⟨w0.heap.size + 3, 0, none⟩)]) (by simp [settle]) (by simp [go_sem]) ?_
  refine (bkclo_any w0.heap.size s x n p q _ w0 _ rfl (S.ps.frm hf (by omega)) (S.pn.frm hf (by omega)) (S.pp.frm hf (by omega)) (S.pq.frm hf (by omega)) hp (S.be.trans (hf.below S.be.size (fun k hk => by omega)))).mono ?_
  rintro e u' w2 ⟨rfl, rfl, _, h2⟩
  obtain ⟨q1, q2, q3, q4, q5, q6⟩ := h2 hx
  have c0 := q1.cell 0
  have c1 := q2.cell 0
  have c2 := q3.cell 0
  have c3 := q4.cell 0
  have c4 := q5.cell 0
  simp [Leaves, settle, results, Tryz.results22, go_sem, c0, c1, c2, c3, c4, t2, t3, t4, t5, t6, BlkPost, blkV]
  exact q6
theorem bk_end (s : Int) (n p q : Nat) (w0 w : World) (S : BkAt w0 w s n p q)
    (tmps : Array Value) (t2 : tmps[2]? = some (.pointer (some ⟨w0.heap.size, 0, none⟩))) (t3 : tmps[3]? = some (.pointer (some ⟨w0.heap.size + 1, 0, none⟩))) (t4 : tmps[4]? = some (.pointer (some ⟨w0.heap.size + 2, 0, none⟩))) (t5 : tmps[5]? = some (.pointer (some ⟨w0.heap.size + 3, 0, none⟩))) (t6 : tmps[6]? = some (.pointer (some ⟨w0.heap.size + 4, 0, none⟩))) :
    Leaves Tryz.prog Tryz.f22 tmps (BlkPost (s, n, p, q, 0) w0) [caughtD (w0.heap.size + 4), bkcloD w0.heap.size] .returning w := by
  refine leaves_cons (f := 40) (args := #[.pointer (some ⟨w0.heap.size + 4, 0, none⟩)]) (by simp) (by simp [go_sem]) ?_
  refine (catch_idle _ _).mono ?_
  rintro e u' w1 ⟨rfl, rfl, rfl⟩
  refine leaves_cons (f := 45) (args := #[.pointer (some ⟨w0.heap.size + 4, 0, none⟩), .pointer (some ⟨w0.heap.size, 0, none⟩), .pointer (some ⟨w0.heap.size + 1, 0, none⟩), .pointer (some ⟨w0.heap.size + 2, 0, none⟩), .pointer (some ⟨w0.heap.size + 3, 0, none⟩)]) (by simp [settle]) (by simp [go_sem]) ?_
  refine (bkclo_any w0.heap.size s 0 n p q _ w0 _ rfl S.ps S.pn S.pp S.pq S.pe S.be).mono ?_
  rintro e u' w2 ⟨rfl, rfl, h2, _⟩
  obtain rfl := h2 rfl
  have c0 := S.ps.cell 0
  have c1 := S.pn.cell 0
  have c2 := S.pp.cell 0
  have c3 := S.pq.cell 0
  have c4 := S.pe.cell 0
  simp [Leaves, settle, results, Tryz.results22, go_sem, c0, c1, c2, c3, c4, t2, t3, t4, t5, t6, BlkPost, blkV]
  exact S.be
end Go.Proofs.YtgahfpflhhfhfaaGreat

/- A slice of bytes that came in: its bytes are within reach. Over any program. -/
namespace Go.Proofs.YtgahfpflhhfhfaaGreat.Opn
open Go.ChangeShapes Go.WideShapes Go.Deep Go.RowKit
section
variable {H : Type} {enc : TypeId × Value → H} {P : Program} {w : World}
end
end Go.Proofs.YtgahfpflhhfhfaaGreat.Opn

/- The walk of XzboxBack. -/
namespace Go.Proofs.YtgahfpflhhfhfaaGreat
open Go.RowKit Box
set_option linter.unusedVariables false
set_option linter.unusedSimpArgs false
end Go.Proofs.YtgahfpflhhfhfaaGreat

/- An index that is made: it is read as its records; with one byte changed it is none, in plain Lean. -/
namespace Go.Proofs.YtgahfpflhhfhfaaGreat
open Go.RowKit Box
set_option linter.unusedVariables false
set_option linter.unusedSimpArgs false
namespace Box
def recsB (l : List (Nat × Nat)) : List UInt8 := l.flatMap fun p => put p.1 ++ put p.2
theorem recsB_len : ∀ l : List (Nat × Nat), (recsB l).length ≤ 18 * l.length
  | [] => by simp [recsB]
  | p :: l => by
    have h := recsB_len l
    have h1 := put_len p.1
    have h2 := put_len p.2
    have e : recsB (p :: l) = (put p.1 ++ put p.2) ++ recsB l := rfl
    rw [e, List.length_append, List.length_append, List.length_cons]
    omega
def headB (l : List (Nat × Nat)) : List UInt8 := 0 :: put l.length
def sealOn (p : List UInt8) : List UInt8 := p ++ sealB p
theorem sealB_len (p : List UInt8) : (sealB p).length = 4 := rfl
theorem sealed_seal (p : List UInt8) : sealedB (sealOn p) = true := by
  unfold sealedB sealOn
  rw [List.length_append, sealB_len, Nat.add_sub_cancel, List.take_left, List.drop_left]
  simp
/-- What reading tells of an index, whatever the bytes. -/
def IxOk (bs : List UInt8) (R : List (Nat × Nat) × Nat × Int) : Prop := (R.2.2 ≠ 0 → R.2.1 = 0) ∧ (R.2.2 = 0 → sealedB (bs.take R.2.1) = true)
theorem crc32_set (bs : List UInt8) (k : Nat) (hk : k < bs.length) (y : UInt8) (hy : y ≠ bs.getD k 0) : crc32 (bs.set k y) ≠ crc32 bs := by
  intro h
  unfold crc32 at h
  exact Crc.add_set (B := 31) (P := P32) (n := Num.M32 - 1) (by decide) (by decide) (by decide) (by decide) bs k hk y hy (Crc.xor_cancel h.symm)
theorem byte_mod {a b : Nat} (h : UInt8.ofNat a = UInt8.ofNat b) : a % 256 = b % 256 := by
  have := congrArg UInt8.toNat h
  rw [UInt8.toNat_ofNat', UInt8.toNat_ofNat'] at this
  exact this
theorem four_inj {x y : Nat} (hx : x < 4294967296) (hy : y < 4294967296) (h : four x = four y) : x = y := by
  unfold four at h
  simp only [List.cons.injEq, and_true] at h
  obtain ⟨h0, h1, h2, h3⟩ := h
  have h0 := byte_mod h0
  have h1 := byte_mod h1
  have h2 := byte_mod h2
  have h3 := byte_mod h3
  omega
theorem sealed_set (p : List UInt8) (k : Nat) (hk : k < (sealOn p).length) (y : UInt8) (hy : y ≠ (sealOn p).getD k 0) : sealedB ((sealOn p).set k y) = false := by
  have hl : (sealOn p).length = p.length + 4 := by unfold sealOn; rw [List.length_append, sealB_len]
  unfold sealedB
  rw [List.length_set, hl, Nat.add_sub_cancel, beq_eq_false_iff_ne]
  intro h
  by_cases hkp : k < p.length
  · have e1 : (sealOn p).set k y = p.set k y ++ sealB p := by unfold sealOn; rw [List.set_append_left _ _ hkp]
    have e2 : (sealOn p).getD k 0 = p.getD k 0 := by unfold sealOn; simp [List.getD, List.getElem?_append_left hkp]
    have h1 := List.take_left (l₁ := p.set k y) (l₂ := sealB p)
    have h2 := List.drop_left (l₁ := p.set k y) (l₂ := sealB p)
    rw [List.length_set] at h1 h2
    rw [e1, h1, h2] at h
    rw [e2] at hy
    exact crc32_set p k hkp y hy (four_inj (c32_lt32 _) (c32_lt32 _) h)
  · have e1 : (sealOn p).set k y = p ++ (sealB p).set (k - p.length) y := by unfold sealOn; rw [List.set_append_right _ _ (by omega)]
    have hk4 : k - p.length < (sealB p).length := by rw [sealB_len]; omega
    have e2 : (sealOn p).getD k 0 = (sealB p).getD (k - p.length) 0 := by unfold sealOn; simp [List.getD, List.getElem?_append_right (show p.length ≤ k by omega)]
    rw [e1, List.take_left, List.drop_left] at h
    rw [e2] at hy
    have h3 := congrArg (fun l => l.getD (k - p.length) 0) h
    simp only [List.getD, List.getElem?_set, hk4, if_true, Option.getD_some] at h3
    exact hy h3.symm
end Box
end Go.Proofs.YtgahfpflhhfhfaaGreat

/- An xz member, in plain Lean: blocks, the index, the foot; with something behind. -/
namespace Go.Proofs.YtgahfpflhhfhfaaGreat
open Go.RowKit Rng Win Lz Box
set_option linter.unusedVariables false
set_option linter.unusedSimpArgs false
/-- An error that is not the bytes' end stays, whatever stands behind. -/
theorem go_more_err (S most : Nat) (q : List UInt8) {e : Nat} (he : e ≠ 10) : ∀ (f g : Nat) (x : DS) (out src : List UInt8) (T : List UInt8), src.length < f → src.length < g → d2Go S most f x out src = (T, .inl e) → d2Go S most g x out (src ++ q) = (T, .inl e)
  | 0, _, _, _, _, _, h, _, _ => absurd h (by omega)
  | _, 0, _, _, _, _, _, h, _ => absurd h (by omega)
  | f + 1, g + 1, x, out, src, T, hf, hg, h => by
    unfold d2Go at h ⊢
    have hm := one_more S x src q
    cases ho : one S x src with
    | err z =>
      rw [ho] at h hm
      simp only [Prod.mk.injEq, Sum.inl.injEq] at h
      rw [hm (by simp only [ne_eq, OneR.err.injEq]; omega)]
      simp only [OneR.more, Prod.mk.injEq, Sum.inl.injEq]
      exact h
    | fin rest =>
      rw [ho] at h
      simp only [Prod.mk.injEq, reduceCtorEq, and_false] at h
    | told b y rest =>
      obtain ⟨m, hm1, hm2, hr⟩ := (one_front S x src).1 b y rest ho
      rw [ho] at h hm
      rw [hm (by simp)]
      simp only [OneR.more] at h ⊢
      by_cases hl : most < out.length + b.length
      · rw [if_pos hl] at h ⊢
        exact h
      · rw [if_neg hl] at h ⊢
        have hrl : rest.length = src.length - m := by rw [hr, List.length_drop]
        exact go_more_err S most q he f g _ _ rest T (by omega) (by omega) h
theorem go_fuel (S most : Nat) : ∀ (f g : Nat) (x : DS) (out src : List UInt8), src.length < f → src.length < g → d2Go S most f x out src = d2Go S most g x out src
  | 0, _, _, _, _, h, _ => absurd h (by omega)
  | _, 0, _, _, _, _, h => absurd h (by omega)
  | f + 1, g + 1, x, out, src, hf, hg => by
    unfold d2Go
    cases ho : one S x src with
    | err z => rfl
    | fin rest => rfl
    | told b y rest =>
      obtain ⟨m, hm1, hm2, hr⟩ := (one_front S x src).1 b y rest ho
      simp only
      split
      · rfl
      · exact go_fuel S most f g _ _ rest (by rw [hr, List.length_drop]; omega) (by rw [hr, List.length_drop]; omega)
def sumMore (R : List UInt8 × (Nat ⊕ List UInt8)) (q : List UInt8) : List UInt8 × (Nat ⊕ List UInt8) :=
  match R with
  | (T, .inl e) => (T, .inl e)
  | (T, .inr r) => (T, .inr (r ++ q))
theorem d2P_more (S most : Nat) (src q : List UInt8) (h : ∀ T, d2P S most src ≠ (T, .inl 10)) : d2P S most (src ++ q) = sumMore (d2P S most src) q := by
  cases hd : d2P S most src with
  | mk T R =>
    cases R with
    | inl e =>
      have he : e ≠ 10 := fun e2 => h T (by rw [hd, e2])
      exact go_more_err S most q he (src.length + 1) ((src ++ q).length + 1) newDS [] src T (by omega) (by rw [List.length_append]; omega) hd
    | inr r => exact go_more S most q (src.length + 1) ((src ++ q).length + 1) newDS [] src T r (by omega) (by rw [List.length_append]; omega) hd
/-- Bytes that are taken. -/
theorem d2P_front {S most : Nat} {src T r : List UInt8} (h : d2P S most src = (T, .inr r)) : ∃ p, src = p ++ r ∧ 1 ≤ p.length ∧ d2P S most p = (T, .inr []) := by
  obtain ⟨p, h1, h2, h3⟩ := go_exact S most (src.length + 1) (src.length + 1) newDS [] src T r (by omega) (by omega) h
  refine ⟨p, h1, h2, ?_⟩
  unfold d2P
  have := congrArg List.length h1
  rw [List.length_append] at this
  rw [go_fuel S most (p.length + 1) (src.length + 1) newDS [] p (by omega) (by omega)]
  exact h3
/-- No more bytes are told than there may be. -/
theorem d2Go_len (S most : Nat) : ∀ (f : Nat) (x : DS) (out src : List UInt8), out.length ≤ most → (d2Go S most f x out src).1.length ≤ most
  | 0, _, _, _, h => h
  | f + 1, x, out, src, h => by
    unfold d2Go
    cases one S x src with
    | err z => exact h
    | fin rest => exact h
    | told b y rest =>
      simp only
      split
      · exact h
      · exact d2Go_len S most f _ _ rest (by rw [List.length_append]; omega)
theorem d2P_len (S most : Nat) (src : List UInt8) : (d2P S most src).1.length ≤ most := d2Go_len S most _ _ _ _ (Nat.zero_le _)
/-- Bytes of a number, the lowest first. -/
def leB (x : Nat) : Nat → List UInt8
  | 0 => []
  | n + 1 => UInt8.ofNat x :: leB (x / 256) n
theorem leB_len : ∀ (n x : Nat), (leB x n).length = n
  | 0, _ => rfl
  | n + 1, x => by unfold leB; rw [List.length_cons, leB_len]
def chkLen (k : Int) : Nat := if k = 1 then 4 else if k = 4 then 8 else 0
def chkB (k : Int) (bs : List UInt8) : List UInt8 := if k = 1 then leB (crc32 bs) 4 else if k = 4 then leB (crc64 bs) 8 else []
theorem chkB_len (k : Int) (bs : List UInt8) : (chkB k bs).length = chkLen k := by
  unfold chkB chkLen
  repeat' split
  all_goals first | rfl | exact leB_len _ _
def padOf (n : Nat) : Nat := (4 - n % 4) % 4
/-- What a block comes tq9: an error, and what was told; or what it tells, its record, what stands behind. -/
inductive BlkE
  | err (e : Nat) (out : List UInt8)
  | ok (out : List UInt8) (rec : Nat × Nat) (rest : List UInt8)
def hdLen (src : List UInt8) : Nat := ((src.getD 0 0).toNat + 1) * 4
/-- Behind the chunks. -/
def xTail (R : BlkR) (kind : Int) (hl u : Nat) (out rest : List UInt8) : BlkE :=
  if (R.2.2.1 ≠ M64' ∧ R.2.2.1 ≠ u) ∨ (R.2.2.2.1 ≠ M64' ∧ R.2.2.2.1 ≠ out.length) then .err 11 out
  else if rest.length < padOf (hl + u) + chkLen kind then .err 10 out
  else if rest.take (padOf (hl + u)) ≠ List.replicate (padOf (hl + u)) 0 ∨ (rest.drop (padOf (hl + u))).take (chkLen kind) ≠ chkB kind out then .err 11 out
  else .ok out (hl + u + chkLen kind, out.length) (rest.drop (padOf (hl + u) + chkLen kind))
/-- Behind the block's head. -/
def xBody (budget : Nat) (kind : Int) (told : Nat) (R : BlkR) (hl : Nat) (src : List UInt8) : BlkE :=
  if R.2.2.2.2 ≠ 0 then .err R.2.2.2.2.toNat []
  else if (budget : Int) < R.1 then .err 40 []
  else match d2P (max R.1.toNat 4096) (16777216 - told) src with
    | (out, .inl e) => .err e out
    | (out, .inr rest) => xTail R kind hl (src.length - rest.length) out rest
def xBlock (budget : Nat) (kind : Int) (told : Nat) (src : List UInt8) : BlkE :=
  if src.length < hdLen src then .err 10 [] else xBody budget kind told (blockOf (src.take (hdLen src))) (hdLen src) (src.drop (hdLen src))
def xNum (want : Nat) (src : List UInt8) : Nat ⊕ List UInt8 :=
  if (number src).2.2 ≠ 0 then .inl (number src).2.2.toNat else if (number src).1 ≠ want then .inl 11 else .inr (src.drop (number src).2.1)
def xNums : List Nat → List UInt8 → Nat ⊕ List UInt8
  | [], s => .inr s
  | n :: l, s => match xNum n s with
    | .inl e => .inl e
    | .inr r => xNums l r
def recN (recs : List (Nat × Nat)) : List Nat := recs.length :: recs.flatMap fun p => [p.1, p.2]
/-- The index, its first byte seen. -/
def xIndex (recs : List (Nat × Nat)) (src : List UInt8) : Nat ⊕ (Nat × List UInt8) :=
  match xNums (recN recs) (src.drop 1) with
  | .inl e => .inl e
  | .inr r =>
    if r.length < padOf (src.length - r.length) + 4 then .inl 10
    else if r.take (padOf (src.length - r.length)) ≠ List.replicate (padOf (src.length - r.length)) 0 ∨ sealB (src.take (src.length - r.length + padOf (src.length - r.length))) ≠ (r.drop (padOf (src.length - r.length))).take 4 then .inl 11
    else .inr (src.length - r.length + padOf (src.length - r.length) + 4, r.drop (padOf (src.length - r.length) + 4))
def xBlocks (budget : Nat) (kind : Int) : Nat → List (Nat × Nat) → List UInt8 → List UInt8 → List UInt8 × (Nat ⊕ (List (Nat × Nat) × List UInt8))
  | 0, _, out, _ => (out, .inl 10)
  | f + 1, recs, out, src =>
    if src.length < 1 then (out, .inl 10)
    else if src.getD 0 0 = 0 then (out, .inr (recs, src))
    else match xBlock budget kind out.length src with
      | .err e o => (out ++ o, .inl e)
      | .ok o r rest => xBlocks budget kind f (recs ++ [r]) (out ++ o) rest
/-- Behind the blocks. -/
def xEnd (kind : Int) (out : List UInt8) (recs : List (Nat × Nat)) (src : List UInt8) : List UInt8 × (Nat ⊕ List UInt8) :=
  match xIndex recs src with
  | .inl e => (out, .inl e)
  | .inr (size, r) =>
    if r.length < 12 then (out, .inl 10)
    else if (footOf (r.take 12)).2.2 ≠ 0 then (out, .inl (footOf (r.take 12)).2.2.toNat)
    else if (footOf (r.take 12)).1 ≠ kind ∨ (footOf (r.take 12)).2.1 ≠ size then (out, .inl 11)
    else (out, .inr (r.drop 12))
/-- A member, but for its padding: what it tells; the error, or what stands behind. -/
def xMem (budget : Nat) (src : List UInt8) : List UInt8 × (Nat ⊕ List UInt8) :=
  if src.length < 12 then ([], .inl 10)
  else if (headOf (src.take 12)).2 ≠ 0 then ([], .inl (headOf (src.take 12)).2.toNat)
  else match xBlocks budget (headOf (src.take 12)).1 (src.length + 1) [] [] (src.drop 12) with
    | (out, .inl e) => (out, .inl e)
    | (out, .inr (recs, s)) => xEnd (headOf (src.take 12)).1 out recs s
def dropPad : Nat → List UInt8 → List UInt8
  | 0, s => s
  | f + 1, s => if 4 ≤ s.length ∧ s.take 4 = [0, 0, 0, 0] then dropPad f (s.drop 4) else s
/-- A member with its padding. -/
def xP (budget : Nat) (src : List UInt8) : List UInt8 × (Nat ⊕ List UInt8) :=
  match xMem budget src with
  | (out, .inl e) => (out, .inl e)
  | (out, .inr r) => (out, .inr (dropPad r.length r))
end Go.Proofs.YtgahfpflhhfhfaaGreat

/- An xz member with something behind; cut: plain. -/
namespace Go.Proofs.YtgahfpflhhfhfaaGreat
open Go.RowKit Rng Win Lz Box
set_option linter.unusedVariables false
set_option linter.unusedSimpArgs false
def BlkE.more (R : BlkE) (q : List UInt8) : BlkE :=
  match R with
  | .err e o => .err e o
  | .ok o r rest => .ok o r (rest ++ q)
def BlkE.out : BlkE → List UInt8
  | .err _ o => o
  | .ok o _ _ => o
def BlkE.cut : BlkE → Prop
  | .err e _ => e = 10
  | .ok _ _ _ => False
def cutN {α : Type} : Nat ⊕ α → Prop
  | .inl e => e = 10
  | .inr _ => False
theorem xTail_out (R : BlkR) (kind : Int) (hl u : Nat) (out rest : List UInt8) : (xTail R kind hl u out rest).out = out := by
  unfold xTail
  repeat' split
  all_goals rfl
theorem xTail_more (R : BlkR) (kind : Int) (hl u : Nat) (out rest q : List UInt8) (h : ¬ (xTail R kind hl u out rest).cut) : xTail R kind hl u out (rest ++ q) = (xTail R kind hl u out rest).more q := by
  unfold xTail at h ⊢
  by_cases h1 : (R.2.2.1 ≠ M64' ∧ R.2.2.1 ≠ u) ∨ (R.2.2.2.1 ≠ M64' ∧ R.2.2.2.1 ≠ out.length)
  · rw [if_pos h1, if_pos h1]; rfl
  rw [if_neg h1] at h ⊢
  rw [if_neg h1]
  by_cases h2 : rest.length < padOf (hl + u) + chkLen kind
  · rw [if_pos h2] at h; exact absurd rfl h
  rw [if_neg h2] at h ⊢
  rw [if_neg (by rw [List.length_append]; omega), List.take_append_of_le_length (by omega), List.drop_append_of_le_length (by omega), List.drop_append_of_le_length (by omega), List.take_append_of_le_length (by rw [List.length_drop]; omega)]
  split <;> rfl
theorem xBody_more (budget : Nat) (kind : Int) (told : Nat) (R : BlkR) (hl : Nat) (src q : List UInt8) (h : ¬ (xBody budget kind told R hl src).cut) : xBody budget kind told R hl (src ++ q) = (xBody budget kind told R hl src).more q := by
  unfold xBody at h ⊢
  by_cases h1 : R.2.2.2.2 ≠ 0
  · rw [if_pos h1, if_pos h1]; rfl
  rw [if_neg h1] at h ⊢
  rw [if_neg h1]
  by_cases h2 : (budget : Int) < R.1
  · rw [if_pos h2, if_pos h2]; rfl
  rw [if_neg h2] at h ⊢
  rw [if_neg h2]
  have hm := d2P_more (max R.1.toNat 4096) (16777216 - told) src q
  cases hd : d2P (max R.1.toNat 4096) (16777216 - told) src with
  | mk T Rr =>
    cases Rr with
    | inl e =>
      rw [hd] at h hm
      have he : e ≠ 10 := fun e2 => h e2
      rw [hm (fun T2 e2 => he (by simp only [Prod.mk.injEq, Sum.inl.injEq] at e2; exact e2.2))]
      rfl
    | inr r =>
      rw [hd] at h hm
      rw [hm (fun T2 e2 => by simp at e2)]
      simp only [sumMore]
      simp only at h
      rw [show (src ++ q).length - (r ++ q).length = src.length - r.length by rw [List.length_append, List.length_append]; omega]
      exact xTail_more _ _ _ _ _ _ _ h
theorem hdLen_app {src q : List UInt8} (h : 1 ≤ src.length) : hdLen (src ++ q) = hdLen src := by unfold hdLen; rw [getD_app (by omega)]
theorem hdLen_pos (src : List UInt8) : 4 ≤ hdLen src := by unfold hdLen; omega
theorem xBlock_more (budget : Nat) (kind : Int) (told : Nat) (src q : List UInt8) (h : ¬ (xBlock budget kind told src).cut) : xBlock budget kind told (src ++ q) = (xBlock budget kind told src).more q := by
  unfold xBlock at h ⊢
  by_cases h1 : src.length < hdLen src
  · rw [if_pos h1] at h; exact absurd rfl h
  rw [if_neg h1] at h ⊢
  have h4 := hdLen_pos src
  rw [hdLen_app (by omega), if_neg (by rw [List.length_append]; omega), List.take_append_of_le_length (by omega), List.drop_append_of_le_length (by omega)]
  exact xBody_more _ _ _ _ _ _ _ h
theorem scan_more (q : List UInt8) : ∀ (bs : List UInt8) (i n : Nat), (scan i n bs).2.2 ≠ 10 → scan i n (bs ++ q) = scan i n bs
  | [], i, n, h => absurd rfl h
  | c :: r, i, n, h => by
    rw [List.cons_append]
    unfold scan at h ⊢
    split
    · rfl
    · rename_i h1
      rw [if_neg h1] at h
      split
      · rfl
      · rename_i h2
        rw [if_neg h2] at h
        exact scan_more q r _ _ h
theorem number_more {bs : List UInt8} (q : List UInt8) (h : (number bs).2.2 ≠ 10) : number (bs ++ q) = number bs := scan_more q bs 0 0 h
theorem number_used {bs : List UInt8} (h : (number bs).2.2 = 0) : 1 ≤ (number bs).2.1 ∧ (number bs).2.1 ≤ bs.length := by
  obtain ⟨v, k, h1, h2, h3, h4, _⟩ := scan_back bs 0 0 (number bs).1 (number bs).2.1 (by omega) (by unfold number at h ⊢; rw [← h])
  omega
theorem xNum_more (want : Nat) (src q : List UInt8) (h : ¬ cutN (xNum want src)) : xNum want (src ++ q) = (xNum want src).map id (· ++ q) := by
  unfold xNum at h ⊢
  by_cases h1 : (number src).2.2 ≠ 0
  · rw [if_pos h1] at h
    have h10 : (number src).2.2 ≠ 10 := by
      intro e
      exact h (by rw [e]; rfl)
    rw [number_more q h10, if_pos h1, if_pos h1]
    rfl
  · have h0 : (number src).2.2 = 0 := by omega
    obtain ⟨u1, u2⟩ := number_used h0
    rw [number_more q (by omega), if_neg h1, if_neg h1]
    split
    · rfl
    · rw [List.drop_append_of_le_length u2]
      rfl
theorem xNums_more (q : List UInt8) : ∀ (l : List Nat) (src : List UInt8), ¬ cutN (xNums l src) → xNums l (src ++ q) = (xNums l src).map id (· ++ q)
  | [], src, h => rfl
  | n :: l, src, h => by
    unfold xNums at h ⊢
    have hm := xNum_more n src q
    cases hd : xNum n src with
    | inl e =>
      rw [hd] at h hm
      rw [hm h]
      rfl
    | inr r =>
      rw [hd] at h hm
      rw [hm (fun e => e)]
      exact xNums_more q l r h
theorem xNum_back {want : Nat} {src r : List UInt8} (h : xNum want src = .inr r) : ∃ u, 1 ≤ u ∧ u ≤ src.length ∧ r = src.drop u := by
  unfold xNum at h
  split at h
  · cases h
  · rename_i h0
    split at h
    · cases h
    · injection h with h
      obtain ⟨u1, u2⟩ := number_used (bs := src) (by omega)
      exact ⟨_, u1, u2, h.symm⟩
theorem xNums_back : ∀ (l : List Nat) {src r : List UInt8}, xNums l src = .inr r → ∃ u, l.length ≤ u ∧ u ≤ src.length ∧ r = src.drop u
  | [], src, r, h => by
    unfold xNums at h
    injection h with h
    exact ⟨0, Nat.le_refl _, Nat.zero_le _, h.symm⟩
  | n :: l, src, r, h => by
    unfold xNums at h
    cases hd : xNum n src with
    | inl e => rw [hd] at h; cases h
    | inr t =>
      rw [hd] at h
      obtain ⟨u, u1, u2, u3⟩ := xNum_back hd
      obtain ⟨v, v1, v2, v3⟩ := xNums_back l h
      rw [u3, List.length_drop] at v2
      refine ⟨u + v, by rw [List.length_cons]; omega, by omega, ?_⟩
      rw [v3, u3, List.drop_drop]
theorem xIndex_more (recs : List (Nat × Nat)) (src q : List UInt8) (h1 : 1 ≤ src.length) (h : ¬ cutN (xIndex recs src)) : xIndex recs (src ++ q) = (xIndex recs src).map id (fun p => (p.1, p.2 ++ q)) := by
  unfold xIndex at h ⊢
  rw [List.drop_append_of_le_length h1]
  have hm := xNums_more q (recN recs) (src.drop 1)
  cases hd : xNums (recN recs) (src.drop 1) with
  | inl e =>
    rw [hd] at h hm
    rw [hm h]
    rfl
  | inr r =>
    obtain ⟨u, u1, u2, u3⟩ := xNums_back _ hd
    rw [List.length_drop] at u2
    have hrl : r.length = src.length - (1 + u) := by rw [u3, List.drop_drop, List.length_drop]
    rw [hd] at h hm
    rw [hm (fun e => e)]
    simp only [Sum.map_inr]
    simp only at h
    rw [show (src ++ q).length - (r ++ q).length = src.length - r.length by rw [List.length_append, List.length_append]; omega]
    by_cases h2 : r.length < padOf (src.length - r.length) + 4
    · rw [if_pos h2] at h; exact absurd rfl h
    rw [if_neg h2] at h ⊢
    rw [if_neg (by rw [List.length_append]; omega), List.take_append_of_le_length (by omega), List.take_append_of_le_length (by omega), List.drop_append_of_le_length (by omega), List.drop_append_of_le_length (by omega), List.take_append_of_le_length (by rw [List.length_drop]; omega)]
    split <;> rfl
theorem xTail_front {R : BlkR} {kind : Int} {hl u : Nat} {out rest o rest' : List UInt8} {r : Nat × Nat} (h : xTail R kind hl u out rest = .ok o r rest') : o = out ∧ r = (hl + u + chkLen kind, out.length) ∧ padOf (hl + u) + chkLen kind ≤ rest.length ∧ rest' = rest.drop (padOf (hl + u) + chkLen kind) ∧
    xTail R kind hl u out (rest.take (padOf (hl + u) + chkLen kind)) = .ok out r [] := by
  unfold xTail at h ⊢
  by_cases h1 : (R.2.2.1 ≠ M64' ∧ R.2.2.1 ≠ u) ∨ (R.2.2.2.1 ≠ M64' ∧ R.2.2.2.1 ≠ out.length)
  · rw [if_pos h1] at h; cases h
  rw [if_neg h1] at h ⊢
  by_cases h2 : rest.length < padOf (hl + u) + chkLen kind
  · rw [if_pos h2] at h; cases h
  rw [if_neg h2] at h
  have hl2 : (rest.take (padOf (hl + u) + chkLen kind)).length = padOf (hl + u) + chkLen kind := by rw [List.length_take]; omega
  rw [if_neg (by omega), List.take_take, List.drop_take, List.take_take, show min (padOf (hl + u)) (padOf (hl + u) + chkLen kind) = padOf (hl + u) by omega, show min (chkLen kind) (padOf (hl + u) + chkLen kind - padOf (hl + u)) = chkLen kind by omega]
  by_cases h3 : rest.take (padOf (hl + u)) ≠ List.replicate (padOf (hl + u)) 0 ∨ (rest.drop (padOf (hl + u))).take (chkLen kind) ≠ chkB kind out
  · rw [if_pos h3] at h; cases h
  rw [if_neg h3] at h ⊢
  injection h with h4 h5 h6
  refine ⟨h4.symm, h5.symm, by omega, h6.symm, ?_⟩
  rw [← h5, List.drop_of_length_le (by omega)]
theorem xBody_front {budget : Nat} {kind : Int} {told : Nat} {R : BlkR} {hl : Nat} {src o rest : List UInt8} {r : Nat × Nat} (h : xBody budget kind told R hl src = .ok o r rest) : ∃ m, 1 ≤ m ∧ m ≤ src.length ∧ rest = src.drop m ∧ xBody budget kind told R hl (src.take m) = .ok o r [] := by
  unfold xBody at h ⊢
  by_cases h1 : R.2.2.2.2 ≠ 0
  · rw [if_pos h1] at h; cases h
  rw [if_neg h1] at h
  by_cases h2 : (budget : Int) < R.1
  · rw [if_pos h2] at h; cases h
  rw [if_neg h2] at h
  cases hd : d2P (max R.1.toNat 4096) (16777216 - told) src with
  | mk T Rr =>
    rw [hd] at h
    cases Rr with
    | inl e => cases h
    | inr t =>
      simp only at h
      obtain ⟨p, p1, p2, p3⟩ := d2P_front hd
      have hl1 := congrArg List.length p1
      rw [List.length_append] at hl1
      rw [show src.length - t.length = p.length by omega] at h
      obtain ⟨e1, e2, e3, e4, e5⟩ := xTail_front h
      refine ⟨p.length + (padOf (hl + p.length) + chkLen kind), by omega, by omega, ?_, ?_⟩
      · have hdp : p.drop (p.length + (padOf (hl + p.length) + chkLen kind)) = [] := List.drop_of_length_le (by omega)
        rw [e4, p1, List.drop_append, hdp, List.nil_append, Nat.add_sub_cancel_left]
      · have ht : src.take (p.length + (padOf (hl + p.length) + chkLen kind)) = p ++ t.take (padOf (hl + p.length) + chkLen kind) := by
          rw [p1, List.take_append, List.take_of_length_le (by omega), Nat.add_sub_cancel_left]
        rw [ht, if_neg h1, if_neg h2, d2P_more _ _ _ _ (fun T2 e => by rw [p3] at e; simp at e), p3]
        simp only [sumMore, List.nil_append]
        rw [show (p ++ t.take (padOf (hl + p.length) + chkLen kind)).length - (t.take (padOf (hl + p.length) + chkLen kind)).length = p.length by rw [List.length_append]; omega, e5, e1]
theorem xBlock_front {budget : Nat} {kind : Int} {told : Nat} {src o rest : List UInt8} {r : Nat × Nat} (h : xBlock budget kind told src = .ok o r rest) : ∃ m, 1 ≤ m ∧ m ≤ src.length ∧ rest = src.drop m ∧ xBlock budget kind told (src.take m) = .ok o r [] := by
  unfold xBlock at h
  by_cases h1 : src.length < hdLen src
  · rw [if_pos h1] at h; cases h
  rw [if_neg h1] at h
  have h4 := hdLen_pos src
  obtain ⟨m, m1, m2, m3, m4⟩ := xBody_front h
  rw [List.length_drop] at m2
  refine ⟨hdLen src + m, by omega, by omega, by rw [m3, List.drop_drop], ?_⟩
  have e1 : hdLen (src.take (hdLen src + m)) = hdLen src := by unfold hdLen; rw [getD_takeU src (by omega)]
  have e2 : (src.take (hdLen src + m)).length = hdLen src + m := by rw [List.length_take]; omega
  unfold xBlock
  rw [e1, if_neg (by omega), List.take_take, show min (hdLen src) (hdLen src + m) = hdLen src by omega, List.drop_take, show hdLen src + m - hdLen src = m by omega]
  exact m4
theorem xBlocks_more (budget : Nat) (kind : Int) (q : List UInt8) : ∀ (f g : Nat) (recs : List (Nat × Nat)) (out src : List UInt8), src.length < f → src.length < g → ¬ cutN (xBlocks budget kind f recs out src).2 →
    xBlocks budget kind g recs out (src ++ q) = ((xBlocks budget kind f recs out src).1, (xBlocks budget kind f recs out src).2.map id (fun p => (p.1, p.2 ++ q)))
  | 0, _, _, _, _, h, _, _ => absurd h (by omega)
  | _, 0, _, _, _, _, h, _ => absurd h (by omega)
  | f + 1, g + 1, recs, out, src, hf, hg, h => by
    unfold xBlocks at h ⊢
    by_cases h1 : src.length < 1
    · rw [if_pos h1] at h; exact absurd rfl h
    rw [if_neg h1] at h ⊢
    rw [if_neg (by rw [List.length_append]; omega), getD_app (by omega)]
    by_cases h2 : src.getD 0 0 = 0
    · rw [if_pos h2, if_pos h2]; rfl
    rw [if_neg h2] at h ⊢
    rw [if_neg h2]
    have hm := xBlock_more budget kind out.length src q
    cases hd : xBlock budget kind out.length src with
    | err e o =>
      rw [hd] at h hm
      rw [hm h]
      rfl
    | ok o r rest =>
      rw [hd] at h hm
      rw [hm (fun e => e)]
      simp only [BlkE.more]
      simp only at h
      obtain ⟨m, m1, m2, m3, -⟩ := xBlock_front hd
      exact xBlocks_more budget kind q f g (recs ++ [r]) (out ++ o) rest (by rw [m3, List.length_drop]; omega) (by rw [m3, List.length_drop]; omega) h
theorem xEnd_more (kind : Int) (out : List UInt8) (recs : List (Nat × Nat)) (src q : List UInt8) (h1 : 1 ≤ src.length) (h : ¬ cutN (xEnd kind out recs src).2) : xEnd kind out recs (src ++ q) = sumMore (xEnd kind out recs src) q := by
  unfold xEnd at h ⊢
  have hm := xIndex_more recs src q h1
  cases hd : xIndex recs src with
  | inl e =>
    rw [hd] at h hm
    rw [hm h]
    rfl
  | inr p =>
    obtain ⟨size, r⟩ := p
    rw [hd] at h hm
    rw [hm (fun e => e)]
    simp only [Sum.map_inr]
    simp only at h
    by_cases h2 : r.length < 12
    · rw [if_pos h2] at h; exact absurd rfl h
    rw [if_neg h2] at h ⊢
    rw [if_neg (by rw [List.length_append]; omega), List.take_append_of_le_length (by omega), List.drop_append_of_le_length (by omega)]
    split
    · rfl
    · split <;> rfl
theorem xBlocks_src {budget : Nat} {kind : Int} : ∀ (f : Nat) {recs recs' : List (Nat × Nat)} {out out' src s : List UInt8}, xBlocks budget kind f recs out src = (out', .inr (recs', s)) → 1 ≤ s.length ∧ s.getD 0 0 = 0 ∧ ∃ m, m ≤ src.length ∧ s = src.drop m
  | 0, recs, recs', out, out', src, s, h => by
    unfold xBlocks at h
    simp at h
  | f + 1, recs, recs', out, out', src, s, h => by
    unfold xBlocks at h
    by_cases h1 : src.length < 1
    · rw [if_pos h1] at h; simp at h
    rw [if_neg h1] at h
    by_cases h2 : src.getD 0 0 = 0
    · rw [if_pos h2] at h
      simp only [Prod.mk.injEq, Sum.inr.injEq] at h
      obtain ⟨_, _, h⟩ := h
      subst h
      exact ⟨by omega, h2, 0, Nat.zero_le _, rfl⟩
    rw [if_neg h2] at h
    cases hd : xBlock budget kind out.length src with
    | err e o => rw [hd] at h; simp at h
    | ok o r rest =>
      rw [hd] at h
      obtain ⟨m, m1, m2, m3, -⟩ := xBlock_front hd
      obtain ⟨k1, k2, n, n1, n2⟩ := xBlocks_src f h
      rw [m3, List.length_drop] at n1
      exact ⟨k1, k2, m + n, by omega, by rw [n2, m3, List.drop_drop]⟩
theorem xMem_more (budget : Nat) (src q : List UInt8) (h : ¬ cutN (xMem budget src).2) : xMem budget (src ++ q) = sumMore (xMem budget src) q := by
  unfold xMem at h ⊢
  by_cases h1 : src.length < 12
  · rw [if_pos h1] at h; exact absurd rfl h
  rw [if_neg h1] at h ⊢
  rw [if_neg (by rw [List.length_append]; omega), List.take_append_of_le_length (by omega), List.drop_append_of_le_length (by omega)]
  by_cases h2 : (headOf (src.take 12)).2 ≠ 0
  · rw [if_pos h2, if_pos h2]; rfl
  rw [if_neg h2] at h ⊢
  rw [if_neg h2]
  have hm := xBlocks_more budget (headOf (src.take 12)).1 q (src.length + 1) ((src ++ q).length + 1) [] [] (src.drop 12) (by rw [List.length_drop]; omega) (by rw [List.length_drop, List.length_append]; omega)
  cases hd : xBlocks budget (headOf (src.take 12)).1 (src.length + 1) [] [] (src.drop 12) with
  | mk out R =>
    rw [hd] at h hm
    cases R with
    | inl e =>
      rw [hm h]
      rfl
    | inr p =>
      obtain ⟨recs, s⟩ := p
      rw [hm (fun e => e)]
      exact xEnd_more _ _ _ _ _ (xBlocks_src _ hd).1 h
end Go.Proofs.YtgahfpflhhfhfaaGreat

/- The index of a member that is read: what is gathered on the way, one number's step. -/
namespace Go.Proofs.YtgahfpflhhfhfaaGreat
open Go.RowKit Box
set_option linter.unusedVariables false
set_option linter.unusedSimpArgs false
theorem xNums_cons (n : Nat) (l : List Nat) (s : List UInt8) : xNums (n :: l) s = match xNum n s with | .inl e => (Sum.inl e : Nat ⊕ List UInt8) | .inr r => xNums l r := rfl
theorem xNums_one (n : Nat) (s : List UInt8) : xNums [n] s = xNum n s := by
  rw [xNums_cons]
  cases xNum n s <;> rfl
theorem xNums_snoc (n : Nat) : ∀ (l : List Nat) (s : List UInt8), xNums (l ++ [n]) s = match xNums l s with | .inl e => (Sum.inl e : Nat ⊕ List UInt8) | .inr r => xNum n r
  | [], s => xNums_one n s
  | m :: l, s => by
    rw [List.cons_append, xNums_cons, xNums_cons]
    cases xNum m s with
    | inl e => rfl
    | inr r => exact xNums_snoc n l r
theorem xNums_stop {e : Nat} : ∀ (l m : List Nat) (s : List UInt8), xNums l s = .inl e → xNums (l ++ m) s = .inl e
  | [], m, s, h => by cases h
  | n :: l, m, s, h => by
    rw [List.cons_append, xNums_cons]
    rw [xNums_cons] at h
    cases hx : xNum n s with
    | inl z => rw [hx] at h; exact h
    | inr r => rw [hx] at h; exact xNums_stop l m r h
/-- The numbers of an index: the first, and those of a record. -/
theorem recN_len (recs : List (Nat × Nat)) : (recN recs).length = 1 + 2 * recs.length := by
  unfold recN
  rw [List.length_cons]
  have : ∀ l : List (Nat × Nat), (l.flatMap fun p => [p.1, p.2]).length = 2 * l.length := by
    intro l
    induction l with
    | nil => rfl
    | cons a l ih => rw [List.flatMap_cons, List.length_append, ih]; simp; omega
  rw [this]; omega
theorem recN_at : ∀ (l : List (Nat × Nat)) (k : Nat), k < l.length → (l.flatMap fun p => [p.1, p.2])[2 * k]? = some (l.getD k (0, 0)).1 ∧ (l.flatMap fun p => [p.1, p.2])[2 * k + 1]? = some (l.getD k (0, 0)).2
  | [], k, h => absurd h (by simp)
  | s :: l, 0, _ => by simp
  | s :: l, k + 1, h => by
    have ih := recN_at l k (by simpa using h)
    rw [show 2 * (k + 1) = 2 * k + 1 + 1 by omega]
    simpa using ih
theorem recN_take (recs : List (Nat × Nat)) {k j : Nat} (hk : k < recs.length) (hj : j < 2) {want : Nat} (hw : want = if j = 0 then (recs.getD k (0, 0)).1 else (recs.getD k (0, 0)).2) :
    (recN recs).take (1 + 2 * k + j + 1) = (recN recs).take (1 + 2 * k + j) ++ [want] := by
  obtain ⟨h0, h1⟩ := recN_at recs k hk
  have hx : (recN recs)[1 + 2 * k + j]? = some want := by
    unfold recN
    rw [show 1 + 2 * k + j = (2 * k + j) + 1 by omega, List.getElem?_cons_succ]
    by_cases h : j = 0
    · subst h; rw [if_pos rfl] at hw; rw [hw]; exact h0
    · rw [if_neg h] at hw
      obtain rfl : j = 1 := by omega
      rw [hw]; exact h1
  rw [List.take_add_one, hx]
  rfl
/-- A number is read, or not: the result, as the walk meets it. -/
def numZ (x : Nat ⊕ List UInt8) : Nat := match x with | .inl e => e | .inr _ => 0
theorem xNum_z {want : Nat} {s : List UInt8} {e : Nat} (h : xNum want s = .inl e) : e ≠ 0 := by
  unfold xNum at h
  by_cases h0 : (number s).2.2 ≠ 0
  · rw [if_pos h0] at h
    injection h with h
    rcases number_err s with h1 | h1 | h1
    · exact absurd h1 h0
    · rw [h1] at h; rw [← h]; decide
    · rw [h1] at h; rw [← h]; decide
  · rw [if_neg h0] at h
    by_cases h1 : (number s).1 ≠ want
    · rw [if_pos h1] at h; injection h with h; omega
    · rw [if_neg h1] at h; cases h
/-- The state of an index that is being read: got: what was read; r: what is left. -/
structure IxR (w : World) (fb cb un B0 : Nat) (bs got r : List UInt8) (v : Value) (W : World) : Prop where
  s : ∃ A n c used, SrcAt W fb A n c used ∧ used + n = un ∧ BRow W B0 A r ∧ n = r.length ∧ n ≤ c ∧ c ≤ maxLen
  p : Pts W cb #[v] 22
  o : OwnB W 5 w.heap.size v got
  f : Frm (· = fb) w W
  e : got ++ r = bs
theorem IxR.still {w W W' : World} {fb cb un B0 : Nat} {bs got r : List UInt8} {v : Value} (h : IxR w fb cb un B0 bs got r v W) (hB0 : B0 ≤ w.heap.size) (hb : Below W.heap.size W W') : IxR w fb cb un B0 bs got r v W' := by
  obtain ⟨A, n, c, used, h1, h2, h3, h4⟩ := h.s
  exact ⟨⟨A, n, c, used, Pts.below h1 hb (Pts.lt h1), h2, h3.below (hb.mono (Nat.le_trans hB0 h.f.size)), h4⟩, h.p.below hb h.p.lt, h.o.frm (S := fun _ => False) (Frm.of_below hb) (fun _ _ h => h), h.f.trans (Frm.of_below hb), h.e⟩
/-- How a number's step ends. -/
def NumEnd (w : World) (fb cb un B0 : Nat) (bs r : List UInt8) (want : Nat) (e : Ending) (W' : World) : Prop :=
  ∃ z : Nat, e = .returned (.int .i64 (z : Int)) ∧ (z = 0 → ∃ got' r' v', xNum want r = .inr r' ∧ IxR w fb cb un B0 bs got' r' v' W') ∧ (z ≠ 0 → xNum want r = .inl z ∧ Frm (· = fb) w W')
theorem number_nat {s : List UInt8} : (number s).2.2 = (((number s).2.2.toNat : Nat) : Int) := by
  rcases number_err s with h1 | h1 | h1 <;> rw [h1] <;> rfl
theorem num_step (rb fb bud cb un B0 : Nat) (put hold : Value) (kind : Int) (told : Nat) (lv v : Value) (want : Nat) (bs got r : List UInt8) (w W : World) (hr : RxAt w rb fb bud put hold kind told lv) (hne : rb ≠ fb)
    (hx : IxR w fb cb un B0 bs got r v W) (hB0 : B0 ≤ w.heap.size ∧ B0 ≤ fb) (hcb : w.heap.size ≤ cb) (hub : un ≤ 4611686018427387904) (hl : bs.length ≤ 140737488355328) :
    Calls Tryz.prog 58 #[.pointer (some ⟨rb, 0, none⟩), .pointer (some ⟨cb, 0, none⟩), .int .u64 want] W (NumEnd w fb cb un B0 bs r want) := by
  obtain ⟨A, n, c, used, hs, hun, hrow, hn, hc, hcm⟩ := hx.s
  have hr' : RxAt W rb fb bud put hold kind told lv := Pts.frm hr hx.f hne
  have hcf : cb ≠ fb := hx.p.ne_of hs (by decide)
  have hlen := congrArg List.length hx.e
  rw [List.length_append] at hlen
  refine (xnumber_p rb fb bud cb w.heap.size B0 put hold kind told lv v A n c used want r got W hr' hs hn hrow ⟨Nat.le_trans hB0.1 hx.f.size, hB0.2⟩ hc hcm (by omega) hx.p hx.o hx.f.size hcf (by omega) ?_).mono ?_
  · intro k hk
    have h := number_more (r.drop k) hk
    rw [List.take_append_drop] at h
    exact h
  · intro e W' hp
    unfold RnPost at hp
    have hxn : xNum want r = if (number r).2.2 ≠ 0 then .inl (number r).2.2.toNat else if (number r).1 ≠ want then .inl 11 else .inr (r.drop (number r).2.1) := rfl
    by_cases h0 : (number r).2.2 ≠ 0
    · rw [if_pos h0] at hp hxn
      obtain ⟨rfl, rfl⟩ := hp
      refine ⟨(number r).2.2.toNat, by rw [← number_nat], fun h => ?_, fun _ => ⟨hxn, hx.f⟩⟩
      have := number_nat (s := r)
      rw [h] at this
      exact absurd this h0
    · rw [if_neg h0] at hp hxn
      by_cases h1 : (number r).1 ≠ want
      · rw [if_pos h1] at hp hxn
        obtain ⟨rfl, rfl⟩ := hp
        exact ⟨11, rfl, ⟨fun h => absurd h (by decide), fun _ => ⟨hxn, hx.f⟩⟩⟩
      · rw [if_neg h1] at hp hxn
        obtain ⟨rfl, v', hs', hp', ho', hnew, hf⟩ := hp
        refine ⟨0, rfl, fun _ => ?_, fun h => absurd rfl h⟩
        have hm := number_used (bs := r) (by simpa using h0)
        refine ⟨got ++ r.take (number r).2.1, r.drop (number r).2.1, v', hxn, ⟨_, _, _, _, hs', by omega, ?_, by rw [List.length_drop]; omega, by omega, by omega⟩, hp', ho', ?_, ?_⟩
        · have h3 := BRow.drop hrow (k := (number r).2.1) (cap := c) (by omega)
          unfold takeA
          intro h4
          obtain ⟨b, off, h5, h6, h7⟩ := h3 h4
          refine ⟨b, off, h5, h6, fun k hk => ?_⟩
          have hnb : ¬ (b = fb ∨ b = cb ∨ v.ownBlock = some b) := by
            rintro (e | e | e)
            · omega
            · omega
            · have := (hx.o.lt e).1; omega
          exact (World.cell?_of_block (hf.block b (by have := hx.f.size; omega) hnb)).trans (h7 k hk)
        · exact hx.f.transW hf fun q hq hlt => by
            rcases hq with e | e | e
            · exact e
            · omega
            · have := (hx.o.lt e).1; omega
        · rw [List.append_assoc, List.take_append_drop]; exact hx.e
end Go.Proofs.YtgahfpflhhfhfaaGreat

/- The index of a member that is read: the walk. -/
namespace Go.Proofs.YtgahfpflhhfhfaaGreat
open Go.RowKit Box
set_option linter.unusedVariables false
set_option linter.unusedSimpArgs false
theorem OwnPr.rowF {w : World} {T base fb : Nat} {lv : Value} {recs : List (Nat × Nat)} (h : OwnPr w T base lv recs) {c : Array Value} {T' : TypeId} (hp : Pts w fb c T') (hT : T ≠ T') :
    ∃ A cap, lv = .slice A recs.length cap ∧ PrRow w w.heap.size A recs ∧ ∀ ad, A = some ad → ad.block ≠ fb := by
  obtain ⟨h1, h2⟩ := h
  obtain ⟨A, cap, e, _, _, hr⟩ := OwnPr.slice ⟨h1, h2⟩
  refine ⟨A, cap, e, hr, fun ad hA => ?_⟩
  rcases h2 with ⟨hv, _⟩ | ⟨g, cap', cur, hv, hb, hh, r⟩
  · rw [hv] at e
    injection e with e1
    rw [← e1] at hA
    cases hA
  · rw [hv] at e
    injection e with e1
    rw [← e1] at hA
    injection hA with hA
    rw [← hA]
    exact Pts.ne_of (show Pts w g cur T from hh) hp hT
/-- How the index ends: an error, or how many bytes it has and what stands behind. -/
def IndexEnd (fb un B0 : Nat) (E : Nat ⊕ (Nat × List UInt8)) (w : World) (e : Ending) (w' : World) : Prop :=
  Frm (· = fb) w w' ∧ match E with
    | .inl z => e = .returned (.tuple #[.int .i64 0, .int .i64 (z : Int)])
    | .inr (size, r) => e = .returned (.tuple #[.int .i64 (size : Int), .int .i64 0]) ∧ ∃ A n c used, SrcAt w' fb A n c used ∧ used + n = un ∧ BRow w' B0 A r ∧ n = r.length ∧ n ≤ c ∧ c ≤ maxLen
theorem indexEnd_err {fb un B0 z : Nat} {E : Nat ⊕ (Nat × List UInt8)} {w w' : World} (h : E = .inl z) (hf : Frm (· = fb) w w') : IndexEnd fb un B0 E w (.returned (.tuple #[.int .i64 0, .int .i64 (z : Int)])) w' := by
  subst h
  exact ⟨hf, rfl⟩
set_option maxRecDepth 100000 in
set_option maxHeartbeats 8000000 in
theorem xindex_p (rb fb bud un B0 base0 : Nat) (put hold : Value) (kind : Int) (told : Nat) (lv : Value) (recs : List (Nat × Nat)) (A : Option Addr) (n c used : Nat) (bs : List UInt8) (w : World)
    (hr : RxAt w rb fb bud put hold kind told lv) (hne : rb ≠ fb) (h : SrcAt w fb A n c used) (hn : n = bs.length) (hb : BRow w B0 A bs) (hB0 : B0 ≤ w.heap.size ∧ B0 ≤ fb) (hc : n ≤ c) (hcm : c ≤ maxLen) (hu : used + n = un) (hub : un ≤ 4611686018427387904)
    (hl : n ≤ 1000000000) (h1 : 1 ≤ n) (ho : OwnPr w 100 base0 lv recs) (hrl : recs.length ≤ 1000000000) :
    Calls Tryz.prog 32 #[.pointer (some ⟨rb, 0, none⟩)] w (IndexEnd fb un B0 (xIndex recs bs) w) := by
  obtain ⟨Ar, kr, rfl, hpr, hprn⟩ := ho.rowF h (by decide)
  have hrc := hr.cells.2.2.2.2.2.2
  have HRX := Lib.hid (And.intro hr (And.intro hne h))
  have HPR := Lib.hid (And.intro hpr hprn)
  have HB : Hid (BRow w B0 A bs ∧ (B0 ≤ w.heap.size ∧ B0 ≤ fb) ∧ n = bs.length ∧ n ≤ c ∧ c ≤ maxLen ∧ used + n = un ∧ un ≤ 4611686018427387904 ∧ n ≤ 1000000000 ∧ 1 ≤ n) := Lib.hid ⟨hb, hB0, hn, hc, hcm, hu, hub, hl, h1⟩
  obtain ⟨E, hE⟩ : ∃ E, xIndex recs bs = E := ⟨_, rfl⟩
  rw [hE]
  have HE := Lib.hid hE
  have rb6 : ∀ W, Frm (· = fb) w W → W.cell? ⟨rb, 6, none⟩ = some (.slice Ar recs.length kr) := fun W hf => by
    rw [(Pts.frm HRX.out.1 hf HRX.out.2.1).cell]; rfl
  have RB6 := Lib.hid rb6
  have hwl : IntKind.u64.wrap (recs.length : Int) = (recs.length : Int) := Go.IntWalk.u64_in _ (by omega)
  obtain ⟨RL, hRL⟩ : ∃ RL, recs.length = RL := ⟨_, rfl⟩
  have HRL := Lib.hid (And.intro hRL hrl)
  rw [hRL] at hwl
  rw [hRL] at hrc rb6 RB6 HRX
  have hfl := Pts.lt h
  have hrl2 := Pts.lt hr
  have HLT := Lib.hid (And.intro hfl hrl2)
  obtain ⟨W0, hW0⟩ : ∃ W, w.alloc (.cells #[.slice none 0 0] 22) = W := ⟨_, rfl⟩
  have hs0 : W0.heap.size = w.heap.size + 1 := by rw [← hW0]; simp only [World.size_alloc]
  have hP0 : Pts W0 w.heap.size #[.slice none 0 0] 22 := by rw [← hW0]; exact Pts.new w _ _
  have hBe0 : Below w.heap.size w W0 := by rw [← hW0]; exact (Below.refl _ w).alloc (Nat.le_refl _) _
  have HT := rtake_p rb fb bud put hold kind told (.slice Ar RL kr) A n c used 1 W0 (by rw [← hRL]; exact Pts.below hr hBe0 hrl2) (Pts.below h hBe0 hfl) hc h1 (by omega)
  have HTT := Lib.hid HT
  have HP0 := Lib.hid (And.intro hP0 (And.intro hBe0 hs0))
  have hp0c : W0.cell? ⟨w.heap.size, 0, none⟩ = some (.slice none 0 0) := by rw [hP0.cell]; rfl
  clear hr hne h hn hb hB0 hc hcm hu hub hl h1 ho hrl hrc hE hpr hprn hRL hs0 hP0 hBe0 rb6 hfl hrl2 HT
  go_enter Tryz.func32, Tryz.ntmps32
  go_wp2_with fail
  try rw [hW0]
  refine HTT.out.mono ?_; rintro e w1 ⟨rfl, hs1, hf1⟩
  have hP1 := HP0.out.1.frm hf1 (by have := HLT.out.1; omega)
  have hp1c : w1.cell? ⟨w.heap.size, 0, none⟩ = some (.slice none 0 0) := by rw [hP1.cell]; rfl
  have hz1 := hP1.frozen 0
  have hF1 : Frm (· = fb) w w1 := (Frm.of_below HP0.out.2.1).transW hf1 (fun q hq _ => hq)
  have hrow0 : BRow w1 B0 A bs := (HB.out.1.below (HP0.out.2.1.mono HB.out.2.1.1)).below (hf1.below (by have := HB.out.2.1.1; have := HP0.out.2.2; omega) (fun q hq => by have := HB.out.2.1.2; omega))
  have ht1 : (bs.take 1).length = 1 := by rw [List.length_take]; have := HB.out.2.2.1; have := HB.out.2.2.2.2.2.2.2.2; omega
  have HW1 : Hid (SrcAt w1 fb (takeA A c 1) (n - 1) (c - 1) (used + 1) ∧ Pts w1 w.heap.size #[.slice none 0 0] 22 ∧ Frm (· = fb) w w1 ∧ BRow w1 B0 A bs) := Lib.hid ⟨hs1, hP1, hF1, hrow0⟩
  have HT1 := Lib.hid ht1
  clear hs1 hf1 hP1 hF1 hrow0 ht1 HTT HP0 hp0c hW0
  go_wp2_with (at_builtin; refine wpList_append_bytes _ rfl (.tmp 18) (.tmp 19) 22 rfl 5 w.heap.size Tryz.underlying22 Tryz.info_u8 (.slice none 0 0) [] rfl ?own1 A 1 1 B0 (bs.take 1) rfl ?lenn1 ?row1 ?len1 ?base1 ?next1)
  case own1 => exact OwnB.nil _ _ _
  case lenn1 => exact HT1.out.symm
  case row1 => exact HW1.out.2.2.2.take 1
  case len1 => rw [HT1.out]; decide
  case base1 => exact HW1.out.2.2.1.size
  case next1 =>
    intro v2 w2 hown2 hfrm2 hnew2
    obtain ⟨A2, k2, hv2, -, -, -⟩ := hown2.slice
    rw [HT1.out] at hv2
    subst hv2
    have hfw : Frm (fun _ => False) w1 w2 := hfrm2.mono (fun q _ hq => by cases hq)
    have hP2 := HW1.out.2.1.frm hfw (fun h => h)
    have hp2c : w2.cell? ⟨w.heap.size, 0, none⟩ = some (.slice none 0 0) := by rw [hP2.cell]; rfl
    have hz2 := hP2.frozen 0
    have hv2ne : (Value.slice A2 1 k2).ownBlock ≠ some w.heap.size := by
      have := HW1.out.2.1.lt
      rcases hnew2 with e | e
      · rw [e]; intro h; cases h
      · rw [e]; intro h; injection h with h; omega
    obtain ⟨W3, hW3⟩ : ∃ W, w2.setCell ⟨w.heap.size, 0, none⟩ (.slice A2 1 k2) = W := ⟨_, rfl⟩
    have hf23 : Frm (fun q => q = w.heap.size) w2 W3 := by rw [← hW3]; exact (Frm.refl (fun q => q = w.heap.size) w2).setCell (p := ⟨w.heap.size, 0, none⟩) rfl (.slice A2 1 k2)
    have hfne : fb ≠ w.heap.size := by have := HLT.out.1; omega
    have hx3 : IxR w fb w.heap.size un B0 bs (bs.take 1) (bs.drop 1) (.slice A2 1 k2) W3 := by
      refine ⟨⟨_, _, _, _, (Pts.frm HW1.out.1 hfw (fun h => h)).frm hf23 hfne, ?_, ?_, ?_, ?_, ?_⟩, ?_, ?_, ?_, List.take_append_drop 1 bs⟩
      · have := HB.out.2.2.2.2.2.1; have := HB.out.2.2.2.2.2.2.2.2; omega
      · have h3 := BRow.drop HW1.out.2.2.2 (k := 1) (cap := c) (by have := HB.out.2.2.1; have := HB.out.2.2.2.1; omega)
        exact (h3.below (hfw.below (Nat.le_trans HB.out.2.1.1 HW1.out.2.2.1.size) (fun _ h => h.elim))).below (hf23.below (by have := hfw.size; have := HW1.out.2.2.1.size; have := HB.out.2.1.1; omega) (fun q hq => by have := HB.out.2.1.1; omega))
      · rw [List.length_drop, HB.out.2.2.1]
      · have := HB.out.2.2.2.1; omega
      · have := HB.out.2.2.2.2.1; omega
      · rw [← hW3]; exact hP2.set 0 (.slice A2 1 k2)
      · exact hown2.frm hf23 (fun k hk e => hv2ne (by rw [hk, e]))
      · exact (HW1.out.2.2.1.trans (hfw.mono (fun q _ h => h.elim))).transW hf23 (fun q hq hlt => by omega)
    have r63 := RB6.out W3 hx3.f
    have HX3 := Lib.hid hx3
    clear hown2 hfrm2 hnew2 hfw hP2 hv2ne hf23 hx3 HW1
    go_wp2_with fail
    try rw [hW3]
    clear hW3 hp2c hz2 hp1c hz1
    refine (num_step rb fb bud w.heap.size un B0 put hold kind told _ (.slice A2 1 k2) RL bs _ _ w W3 HRX.out.1 HRX.out.2.1 HX3.out HB.out.2.1 (Nat.le_refl _) HB.out.2.2.2.2.2.2.1 (by have := HB.out.2.2.1; have := HB.out.2.2.2.2.2.2.2.1; omega)).mono ?_
    rintro e w4 ⟨z, rfl, hz0, hzn⟩
    have hfr4 : Frm (· = fb) w w4 := by
      by_cases hz : z = 0
      · obtain ⟨_, _, _, _, hx⟩ := hz0 hz; exact hx.f
      · exact (hzn hz).2
    have r64 := RB6.out w4 hfr4
    have hst : Frm (· = fb) w w4 ∧ (z = 0 → ∃ got r v, xNums ((recN recs).take (1 + 2 * 0)) (bs.drop 1) = .inr r ∧ IxR w fb w.heap.size un B0 bs got r v w4) ∧ (z ≠ 0 → xNums (recN recs) (bs.drop 1) = .inl z) := by
      refine ⟨hfr4, fun hz => ?_, fun hz => ?_⟩
      · obtain ⟨got', r', v', h3, h4⟩ := hz0 hz
        refine ⟨got', r', v', ?_, h4⟩
        show xNums [recs.length] (bs.drop 1) = _
        rw [xNums_one, HRL.out.1, h3]
      · show xNums (recs.length :: _) (bs.drop 1) = _
        rw [xNums_cons, HRL.out.1, (hzn hz).1]
    have hrlb : RL ≤ 1000000000 := by have := HRL.out; omega
    have HST := Lib.hid hst
    clear hz0 hzn hst HX3 r63 hfr4
    go_wp2
    go_loopw [6, 36] (fun ev iv wr => ∃ (k z : Nat), ev = .int .i64 (z : Int) ∧ iv = .int .i64 (k : Int) ∧ k ≤ RL ∧ Frm (· = fb) w wr ∧ (z = 0 → ∃ got r v, xNums ((recN recs).take (1 + 2 * k)) (bs.drop 1) = .inr r ∧ IxR w fb w.heap.size un B0 bs got r v wr) ∧ (z ≠ 0 → xNums (recN recs) (bs.drop 1) = .inl z)) (fun _ iv _ => RL - (intOf iv).toNat)
    case atStart => exact ⟨0, z, rfl, rfl, Nat.zero_le _, HST.out⟩
    case round =>
      obtain ⟨k, z, rfl, rfl, hk, hfr, hz0, hzn⟩ := hrel
      clear HST
      have HZ := Lib.hid (And.intro hfr (And.intro hz0 hzn))
      clear hfr hz0 hzn
      by_cases hkl : k < RL
      · have hkr : k < recs.length := by have := HRL.out.1; omega
        obtain ⟨ba, off, hArr, hba, hcell⟩ := HPR.out.1 (by omega)
        obtain ⟨k0, k1⟩ := hcell k hkr
        obtain ⟨⟨p, q⟩, hpq⟩ : ∃ pq, recs.getD k (0, 0) = pq := ⟨_, rfl⟩
        rw [hpq] at k0 k1
        have hfk := HZ.out.1.block ba hba (HPR.out.2 _ hArr)
        have d0 : wr.cell? ⟨ba, off + k * 2, none⟩ = some (.int .u64 (p : Int)) := (World.cell?_of_block hfk).trans k0
        have d1 : wr.cell? ⟨ba, off + k * 2 + 1, none⟩ = some (.int .u64 (q : Int)) := (World.cell?_of_block hfk).trans k1
        subst hArr
        have HPQ := Lib.hid (And.intro hpq hkr)
        clear hpq hkr hcell k0 k1 hfk hba
        obtain ⟨W5, hW5⟩ : ∃ W, wr.alloc (.cells #[.int .u64 (p : Int), .int .u64 (q : Int)] 100) = W := ⟨_, rfl⟩
        have hb5 : Below wr.heap.size wr W5 := by rw [← hW5]; exact (Below.refl _ wr).alloc (Nat.le_refl _) _
        have hst5 : Frm (· = fb) w W5 ∧ (z = 0 → ∃ got r v, xNums ((recN recs).take (1 + 2 * k + 0)) (bs.drop 1) = .inr r ∧ IxR w fb w.heap.size un B0 bs got r v W5) ∧ (z ≠ 0 → xNums (recN recs) (bs.drop 1) = .inl z) := by
          refine ⟨HZ.out.1.trans (Frm.of_below hb5), fun hz => ?_, HZ.out.2.2⟩
          obtain ⟨got, r, v, h3, h4⟩ := HZ.out.2.1 hz
          exact ⟨got, r, v, h3, h4.still HB.out.2.1.1 hb5⟩
        have HST5 := Lib.hid hst5
        have hp5 : Pts W5 wr.heap.size #[.int .u64 (p : Int), .int .u64 (q : Int)] 100 := by rw [← hW5]; exact Pts.new wr _ _
        have e0 : W5.cell? ⟨wr.heap.size, 0, none⟩ = some (.int .u64 (p : Int)) := by rw [hp5.cell]; rfl
        have e1 : W5.cell? ⟨wr.heap.size, 1, none⟩ = some (.int .u64 (q : Int)) := by rw [hp5.cell]; rfl
        clear hp5
        clear hst5 hb5 HZ
        go_wp2
        try rw [hW5]
        clear hW5
        go_loopw [6, 41] (fun ev jv wx => ∃ (j z : Nat), ev = .int .i64 (z : Int) ∧ jv = .int .i64 (j : Int) ∧ j ≤ 2 ∧ Frm (· = fb) w wx ∧ (z = 0 → ∃ got r v, xNums ((recN recs).take (1 + 2 * k + j)) (bs.drop 1) = .inr r ∧ IxR w fb w.heap.size un B0 bs got r v wx) ∧ (z ≠ 0 → xNums (recN recs) (bs.drop 1) = .inl z)) (fun _ jv _ => 2 - (intOf jv).toNat)
        case atStart => exact ⟨0, z, rfl, rfl, by decide, HST5.out⟩
        case round =>
          obtain ⟨j, z1, rfl, rfl, hj, hfr1, hz1, hzn1⟩ := hrel
          clear HST5
          have HZ1 := Lib.hid (And.intro hfr1 (And.intro hz1 hzn1))
          clear hfr1 hz1 hzn1 d0 d1 e0 e1
          by_cases hj2 : j < 2
          · by_cases hz : z1 = 0
            · subst hz
              obtain ⟨got, r, v, h3, h4⟩ := HZ1.out.2.1 rfl
              have HS1 : Hid (∀ want, want = (if j = 0 then (recs.getD k (0, 0)).1 else (recs.getD k (0, 0)).2) → Calls Tryz.prog 58 #[.pointer (some ⟨rb, 0, none⟩), .pointer (some ⟨w.heap.size, 0, none⟩), .int .u64 (want : Int)] wr (fun e w' => ∃ z2 : Nat, e = .returned (.int .i64 (z2 : Int)) ∧ Frm (· = fb) w w' ∧ (z2 = 0 → ∃ got r v, xNums ((recN recs).take (1 + 2 * k + (j + 1))) (bs.drop 1) = .inr r ∧ IxR w fb w.heap.size un B0 bs got r v w') ∧ (z2 ≠ 0 → xNums (recN recs) (bs.drop 1) = .inl z2))) := by
                refine Lib.hid fun want hw => ?_
                refine (num_step rb fb bud w.heap.size un B0 put hold kind told _ v want bs got r w wr HRX.out.1 HRX.out.2.1 h4 HB.out.2.1 (Nat.le_refl _) HB.out.2.2.2.2.2.2.1 (by have := HB.out.2.2.1; have := HB.out.2.2.2.2.2.2.2.1; omega)).mono ?_
                rintro e w6 ⟨z2, rfl, h5, h6⟩
                have htk := recN_take recs HPQ.out.2 hj2 hw
                have hsn := xNums_snoc want ((recN recs).take (1 + 2 * k + j)) (bs.drop 1)
                rw [← htk, h3] at hsn
                refine ⟨z2, rfl, ?_, fun hz => ?_, fun hz => ?_⟩
                · by_cases hz : z2 = 0
                  · obtain ⟨_, _, _, _, h⟩ := h5 hz; exact h.f
                  · exact (h6 hz).2
                · obtain ⟨g', r', v', h7, h8⟩ := h5 hz
                  exact ⟨g', r', v', hsn.trans h7, h8⟩
                · have h9 := xNums_stop _ ((recN recs).drop (1 + 2 * k + j + 1)) _ (hsn.trans (h6 hz).1)
                  rwa [List.take_append_drop] at h9
              clear h3 h4 HZ1
              have hj01 : j = 0 ∨ j = 1 := by omega
              rcases hj01 with rfl | rfl
              · have hix : ∀ w, (Instr.index 100 (.agg #[.int .u64 (p : Int), .int .u64 (q : Int)]) (.int .i64 0)).run Tryz.prog w = .ok (.int .u64 (p : Int)) w := fun _ => by kernel_rfl
                have HN := HS1.out p (by rw [if_pos rfl, HPQ.out.1])
                have HNN := Lib.hid HN
                clear HN HS1
                go_wp2_with fail
                refine HNN.out.mono ?_; rintro e w6 ⟨z2, rfl, h5⟩
                have HZ2 := Lib.hid h5
                clear h5
                go_wp2
                exact ⟨⟨1, z2, rfl, rfl, by decide, HZ2.out⟩, by simp [intOf]⟩
              · have hix : ∀ w, (Instr.index 100 (.agg #[.int .u64 (p : Int), .int .u64 (q : Int)]) (.int .i64 1)).run Tryz.prog w = .ok (.int .u64 (q : Int)) w := fun _ => by kernel_rfl
                have HN := HS1.out q (by rw [if_neg (by decide), HPQ.out.1])
                have HNN := Lib.hid HN
                clear HN HS1
                go_wp2_with fail
                refine HNN.out.mono ?_; rintro e w6 ⟨z2, rfl, h5⟩
                have HZ2 := Lib.hid h5
                clear h5
                go_wp2
                exact ⟨⟨2, z2, rfl, rfl, by decide, HZ2.out⟩, by simp [intOf]⟩
            · have qz : ((z1 : Int) != 0) = true := bne_iff_ne.2 (by omega)
              have HEE : Hid (E = .inl z1) := Lib.hid (by rw [← HE.out]; unfold xIndex; rw [HZ1.out.2.2 hz])
              clear hz
              have hj01 : j = 0 ∨ j = 1 := by omega
              rcases hj01 with rfl | rfl
              · have hix : ∀ w, (Instr.index 100 (.agg #[.int .u64 (p : Int), .int .u64 (q : Int)]) (.int .i64 0)).run Tryz.prog w = .ok (.int .u64 (p : Int)) w := fun _ => by kernel_rfl
                go_wp2
                go_ret2
                exact indexEnd_err HEE.out HZ1.out.1
              · have hix : ∀ w, (Instr.index 100 (.agg #[.int .u64 (p : Int), .int .u64 (q : Int)]) (.int .i64 1)).run Tryz.prog w = .ok (.int .u64 (q : Int)) w := fun _ => by kernel_rfl
                go_wp2
                go_ret2
                exact indexEnd_err HEE.out HZ1.out.1
          · obtain rfl : j = 2 := by omega
            clear hj2
            go_wp2
            exact ⟨⟨k + 1, z1, rfl, by go_num, by omega, HZ1.out⟩, by simp [intOf]; omega⟩
      · obtain rfl : k = RL := by omega
        clear hk hkl
        by_cases hz : z = 0
        · subst hz
          obtain ⟨got, r, v, h3, h4⟩ := HZ.out.2.1 rfl
          have hall : xNums (recN recs) (bs.drop 1) = .inr r := by
            rw [← h3, List.take_of_length_le]
            rw [recN_len]; have := HRL.out.1; omega
          obtain ⟨Ag, kg, hv, -, -, hgr⟩ := h4.o.slice
          obtain ⟨U, hU⟩ : ∃ U, got.length = U := ⟨_, rfl⟩
          rw [hU] at hv
          subst hv
          have hgl : U + r.length = bs.length := by rw [← hU, ← h4.e, List.length_append]
          have hbl := HB.out.2.2.1
          have hbl2 := HB.out.2.2.2.2.2.2.2.1
          have gc : wr.cell? ⟨w.heap.size, 0, none⟩ = some (.slice Ag U kg) := by rw [h4.p.cell]; rfl
          have gz := h4.p.frozen 0
          obtain ⟨pad, hpad⟩ : ∃ pad, padOf U = pad := ⟨_, rfl⟩
          have hp4 : pad < 4 := by rw [← hpad]; unfold padOf; omega
          have huw : IntKind.i64.wrap (-(U : Int)) = -(U : Int) := Go.IntWalk.i64_in _ (by omega)
          have hp3 : bits .and .i64 (-(U : Int)) 3 = (pad : Int) := by rw [i64_and3, ← hpad]; unfold padOf; omega
          obtain ⟨q4, hq4⟩ : ∃ q4, pad + 4 = q4 := ⟨_, rfl⟩
          have hp44 : ((pad : Int) + 4) = (q4 : Int) := by omega
          have hqw : IntKind.i64.wrap (q4 : Int) = (q4 : Int) := Go.IntWalk.i64_in _ (by omega)
          obtain ⟨A6, n6, c6, u6, hs6, hu6, hr6, hn6, hc6, hm6⟩ := h4.s
          have hxi : xIndex recs bs = if r.length < q4 then .inl 10 else if r.take pad ≠ List.replicate pad 0 ∨ sealB (bs.take (U + pad)) ≠ (r.drop pad).take 4 then .inl 11 else .inr (U + q4, r.drop q4) := by
            unfold xIndex
            rw [hall]
            simp only
            rw [show bs.length - r.length = U by omega, hpad, hq4, show U + pad + 4 = U + q4 by omega]
          rw [HE.out] at hxi
          have H4 := Lib.hid h4
          have HS6 : Hid (SrcAt wr fb A6 n6 c6 u6 ∧ u6 + n6 = un ∧ BRow wr B0 A6 r ∧ n6 = r.length ∧ n6 ≤ c6 ∧ c6 ≤ maxLen) := Lib.hid ⟨hs6, hu6, hr6, hn6, hc6, hm6⟩
          have HXI := Lib.hid hxi
          have HGR := Lib.hid (And.intro hgr (And.intro hgl (And.intro hU (And.intro hpad hq4))))
          have hRX := (Pts.frm HRX.out.1 HZ.out.1 HRX.out.2.1 : RxAt wr rb fb bud put hold kind told _)
          have HRW := Lib.hid hRX
          clear h3 h4 hall hgr hU hgl hpad hq4 hs6 hu6 hr6 hc6 hm6 hxi hbl hRX
          by_cases hsh : n6 < q4
          · have HEE : Hid (E = .inl 10) := Lib.hid (by rw [HXI.out, if_pos (by omega)])
            have HTN := Lib.hid (rtake_no rb fb bud put hold kind told _ A6 n6 c6 u6 q4 wr HRW.out HS6.out.1 hsh)
            clear hsh hn6
            go_wp2_with fail
            refine HTN.out.mono ?_; rintro e w7 ⟨rfl, rfl⟩
            go_wp2
            go_ret2
            exact indexEnd_err HEE.out HZ.out.1
          · have HXJ : Hid (E = if r.take pad ≠ List.replicate pad 0 ∨ sealB (bs.take (U + pad)) ≠ (r.drop pad).take 4 then .inl 11 else .inr (U + q4, r.drop q4)) := Lib.hid (by rw [HXI.out, if_neg (by omega)])
            have HTP := Lib.hid (rtake_p rb fb bud put hold kind told _ A6 n6 c6 u6 q4 wr HRW.out HS6.out.1 HS6.out.2.2.2.2.1 (by omega) (by have := HS6.out.2.1; have := HB.out.2.2.2.2.2.2.1; omega))
            have HN6 := Lib.hid (show q4 ≤ n6 by omega)
            clear hsh hn6 HXI
            go_wp2_with fail
            refine HTP.out.mono ?_; rintro e w7 ⟨rfl, hs7, hf7⟩
            have hp7 := H4.out.p.frm hf7 (fun e => hfne e.symm)
            have ho7 := H4.out.o.frm hf7 (fun k hk e => by have := (H4.out.o.lt hk).1; have := HLT.out.1; omega)
            have hF7 : Frm (· = fb) w w7 := HZ.out.1.trans hf7
            have hB07 : B0 ≤ w7.heap.size := Nat.le_trans HB.out.2.1.1 hF7.size
            have hr7 : BRow w7 B0 A6 r := HS6.out.2.2.1.below (hf7.below (Nat.le_trans HB.out.2.1.1 HZ.out.1.size) (fun q hq => by have := HB.out.2.1.2; omega))
            have hrt : BRow w7 B0 A6 (r.take pad) := hr7.take pad
            have hrd : BRow w7 B0 (takeA A6 c6 q4) (r.drop q4) := hr7.drop (by have := HS6.out.2.2.2.1; have := HS6.out.2.2.2.2.1; omega)
            have hpq : pad + 4 = q4 := HGR.out.2.2.2.2
            have hr8 : BRow w7 B0 (A6.map (·.add pad)) ((r.drop pad).take 4) := by
              have h8 := (hr7.take q4).drop (k := pad) (cap := q4) (by rw [List.length_take]; omega)
              rw [if_neg (by omega), List.drop_take, show q4 - pad = 4 by omega] at h8
              exact h8
            obtain ⟨A8, hA8⟩ : ∃ A8, A6.map (·.add pad) = A8 := ⟨_, rfl⟩
            rw [hA8] at hr8
            have hsl1 : ∀ w, (Instr.sliceAt 22 (.slice A6 q4 q4) none (some (.int .i64 (pad : Int))) none).run Tryz.prog w = .ok (.slice A6 pad q4) w := fun w => slice_toX A6 q4 q4 pad (by omega) (Nat.le_refl _) w
            have hsl2 : ∀ w, (Instr.sliceAt 22 (.slice A6 q4 q4) (some (.int .i64 (pad : Int))) none none).run Tryz.prog w = .ok (.slice A8 4 4) w := fun w => by
              have h8 := slice_fromX A6 q4 q4 pad (by omega) (Nat.le_refl _) w
              rw [if_neg (by omega), show q4 - pad = 4 by omega, hA8] at h8
              exact h8
            have hlt : (r.take pad).length = pad := by rw [List.length_take]; have := HN6.out; have := HS6.out.2.2.2.1; omega
            have hld : ((r.drop pad).take 4).length = 4 := by rw [List.length_take, List.length_drop]; have := HN6.out; have := HS6.out.2.2.2.1; omega
            have hgt : got ++ r.take pad = bs.take (U + pad) := by
              rw [← H4.out.e, List.take_append, HGR.out.2.2.1, show U + pad - U = pad by omega, List.take_of_length_le (l := got) (by rw [HGR.out.2.2.1]; omega)]
            have gc7 : w7.cell? ⟨w.heap.size, 0, none⟩ = some (.slice Ag U kg) := by rw [hp7.cell]; rfl
            have H7 : Hid (Pts w7 w.heap.size #[.slice Ag U kg] 22 ∧ OwnB w7 5 w.heap.size (.slice Ag U kg) got ∧ Frm (· = fb) w w7 ∧ B0 ≤ w7.heap.size ∧ BRow w7 B0 A6 (r.take pad) ∧ BRow w7 B0 (takeA A6 c6 q4) (r.drop q4) ∧ BRow w7 B0 A8 ((r.drop pad).take 4) ∧ SrcAt w7 fb (takeA A6 c6 q4) (n6 - q4) (c6 - q4) (u6 + q4)) := Lib.hid ⟨hp7, ho7, hF7, hB07, hrt, hrd, hr8, hs7⟩
            have HL7 := Lib.hid (And.intro hlt (And.intro hld hgt))
            have gz7 := hp7.frozen 0
            clear hp7 ho7 hF7 hB07 hr7 hrt hrd hr8 hs7 hf7 hlt hld hgt hA8 hpq HTP H4 HZ gc gz
            obtain ⟨P1, hP1⟩ : ∃ P1, r.take pad = P1 := ⟨_, rfl⟩
            obtain ⟨P2, hP2⟩ : ∃ P2, (r.drop pad).take 4 = P2 := ⟨_, rfl⟩
            obtain ⟨T8, hT8⟩ : ∃ T8, bs.take (U + pad) = T8 := ⟨_, rfl⟩
            rw [hP1, hP2] at H7
            rw [hP1, hP2, hT8] at HL7
            rw [hP1, hP2, hT8] at HXJ
            have HT8 := Lib.hid hT8
            clear hP1 hP2 hT8
            go_wp2
            refine QTail.wp_region_qtail_lit 4 (by kernel_rfl) (by kernel_rfl) ?_
            simp only [List.take_succ_cons, List.take_zero, List.drop_succ_cons, List.drop_zero]
            repeat (go_big_quiet_step (fail))
            refine wpQuiet_nil ?_
            rintro w' ⟨nq, rfl⟩
            go_wp2_with (at_builtin; refine wpList_append_bytes _ rfl (.tmp 69) (.tmp 72) 22 rfl 5 w.heap.size Tryz.underlying22 Tryz.info_u8 (.slice Ag U kg) got rfl ?own9 A6 pad q4 B0 P1 rfl ?lenn9 ?row9 ?len9 ?base9 ?next9)
            case own9 => exact H7.out.2.1.drewN nq
            case lenn9 => exact HL7.out.1.symm
            case row9 => exact H7.out.2.2.2.2.1.drewN nq
            case len9 => rw [HGR.out.2.2.1, HL7.out.1]; have := HGR.out.2.1; have := HB.out.2.2.1; omega
            case base9 => exact H7.out.2.2.1.size
            case next9 =>
              intro v9 w9 hown9 hfrm9 hnew9
              rw [HL7.out.2.2] at hown9
              have hTl : T8.length = U + pad := by rw [← HT8.out, List.length_take]; have := HGR.out.2.1; have := HN6.out; have := HS6.out.2.2.2.1; have := HGR.out.2.2.2.2; omega
              obtain ⟨L8, hL8⟩ : ∃ L, U + pad = L := ⟨_, rfl⟩
              rw [hL8] at hTl
              obtain ⟨A9, k9, hv9, -, -, -⟩ := hown9.slice
              rw [hTl] at hv9
              subst hv9
              have hne9 : (Value.slice A9 L8 k9).ownBlock ≠ some w.heap.size := by
                have h1 := H7.out.1.lt
                have h2 : (Value.slice Ag U kg).ownBlock ≠ some w.heap.size := by
                  intro hk
                  rcases H7.out.2.1.form with ⟨h3, _⟩ | ⟨g, cap, cur, h3, _, hh, _⟩
                  · rw [h3] at hk; cases hk
                  · rw [h3] at hk
                    injection hk with hk
                    subst hk
                    exact Pts.ne_of (show Pts w7 w.heap.size _ _ from hh) H7.out.1 (by decide) rfl
                rcases hnew9 with e | e
                · rw [e]; exact h2
                · rw [e]; intro h; injection h with h; have h5 : w7.heap.size = w.heap.size := h; omega
              have hg9 : ∀ q, (Value.slice Ag U kg).ownBlock = some q → w.heap.size ≤ q := fun q hq => (H7.out.2.1.lt hq).1
              have hp9 : Pts w9 w.heap.size #[.slice Ag U kg] 22 := (H7.out.1.drewN nq).frm hfrm9 (fun hk => by
                rcases H7.out.2.1.form with ⟨h3, _⟩ | ⟨g, cap, cur, h3, _, hh, _⟩
                · rw [h3] at hk; cases hk
                · rw [h3] at hk
                  injection hk with hk
                  subst hk
                  exact Pts.ne_of (show Pts w7 w.heap.size _ _ from hh) H7.out.1 (by decide) rfl)
              have gc9 : w9.cell? ⟨w.heap.size, 0, none⟩ = some (.slice Ag U kg) := by rw [hp9.cell]; rfl
              have gz9 := hp9.frozen 0
              obtain ⟨W10, hW10⟩ : ∃ W, w9.setCell ⟨w.heap.size, 0, none⟩ (.slice A9 L8 k9) = W := ⟨_, rfl⟩
              have hf10 : Frm (fun q => w.heap.size ≤ q) w7 W10 := by
                rw [← hW10]
                exact (((Frm.refl (fun q => w.heap.size ≤ q) w7).drewN nq).trans (hfrm9.mono fun q _ hq => hg9 q hq)).setCell (p := ⟨w.heap.size, 0, none⟩) (Nat.le_refl _) _
              have hB10 : ∀ q, w.heap.size ≤ q → B0 ≤ q := fun q hq => Nat.le_trans HB.out.2.1.1 hq
              have hp10 : Pts W10 w.heap.size #[.slice A9 L8 k9] 22 := by rw [← hW10]; exact hp9.set 0 _
              have ho10 : OwnB W10 5 w.heap.size (.slice A9 L8 k9) T8 := by rw [← hW10]; exact hown9.other (p := ⟨w.heap.size, 0, none⟩) hne9 _
              have hr10 : BRow W10 W10.heap.size A9 T8 := by
                obtain ⟨A', k', e', -, -, h⟩ := ho10.slice
                injection e' with e1
                rw [e1]; exact h
              have gc10 : W10.cell? ⟨w.heap.size, 0, none⟩ = some (.slice A9 L8 k9) := by rw [hp10.cell]; rfl
              have hfb10 : ¬ (w.heap.size ≤ fb) := by have := HLT.out.1; omega
              have H10 : Hid (BRow W10 W10.heap.size A9 T8 ∧ Frm (· = fb) w W10 ∧ BRow W10 B0 A6 P1 ∧ BRow W10 B0 A8 P2 ∧ BRow W10 B0 (takeA A6 c6 q4) (r.drop q4) ∧ SrcAt W10 fb (takeA A6 c6 q4) (n6 - q4) (c6 - q4) (u6 + q4) ∧ B0 ≤ W10.heap.size ∧ T8.length = L8) :=
                Lib.hid ⟨hr10, H7.out.2.2.1.transW hf10 (fun q hq hlt => by omega), H7.out.2.2.2.2.1.below (hf10.below H7.out.2.2.2.1 hB10), H7.out.2.2.2.2.2.2.1.below (hf10.below H7.out.2.2.2.1 hB10), H7.out.2.2.2.2.2.1.below (hf10.below H7.out.2.2.2.1 hB10), Pts.frm H7.out.2.2.2.2.2.2.2 hf10 hfb10, Nat.le_trans H7.out.2.2.2.1 hf10.size, hTl⟩
              have HL8 := Lib.hid hL8
              clear hown9 hfrm9 hnew9 hTl hL8 hne9 hg9 hp9 hf10 hB10 hp10 ho10 hr10 hfb10 gc7 gz7 H7
              have hmk := made_bytes pad (by omega)
              obtain ⟨Wa, hWa⟩ : ∃ W, W10.drew.alloc (.cells (madeCells #[.int .u8 0] pad) 5) = W := ⟨_, rfl⟩
              have hba : Below W10.heap.size W10 Wa := by rw [← hWa]; exact ((Below.refl _ W10).drew).alloc (Nat.le_refl _) _
              have hza : BRow Wa Wa.heap.size (some ⟨W10.heap.size, 0, none⟩) (List.replicate pad 0) := by rw [← hWa]; exact noughts_row pad W10.drew
              have hEQ := equal_p A6 (some ⟨W10.heap.size, 0, none⟩) P1 (List.replicate pad 0) pad q4 pad pad Wa.heap.size Wa HL7.out.1.symm ((H10.out.2.2.1.below (hba.mono H10.out.2.2.2.2.2.2.1)).more (Nat.le_trans H10.out.2.2.2.2.2.2.1 hba.size)) (by simp) hza
              have gca : Wa.cell? ⟨w.heap.size, 0, none⟩ = some (.slice A9 L8 k9) := (hba.cell (p := ⟨w.heap.size, 0, none⟩) (World.block_lt_of_cell? W10 ⟨w.heap.size, 0, none⟩ gc10)).trans gc10
              obtain ⟨b1, hb1⟩ : ∃ b, (P1 == List.replicate pad 0) = b := ⟨_, rfl⟩
              rw [hb1] at hEQ
              have HEQ := Lib.hid hEQ
              have HBA := Lib.hid hba
              have HB1 := Lib.hid hb1
              clear hba hza hEQ hb1
              cases b1 with
              | false =>
                have HEE : Hid (E = .inl 11) := Lib.hid (by rw [HXJ.out, if_pos (.inl (by simpa using HB1.out))])
                go_wp2
                refine wp_region_any (by kernel_rfl) ?_
                change wpAny _ _ _ _ _ _ _ (World.drew _)
                refine wpAny_take (i := 0) rfl (by kernel_rfl) (by kernel_rfl) (by kernel_rfl) (fun _ _ _ h => h) (Or.inl ⟨by rfl, by (intro w; go_simp; try with_reducible rfl)⟩) ?_
                go_simp
                refine wpAny_take (i := 1) rfl (by kernel_rfl) (by kernel_rfl) (by kernel_rfl) (fun _ _ _ h => h) (Or.inl ⟨by rfl, by (intro w; go_simp; try with_reducible rfl)⟩) ?_
                go_simp
                refine wpAny_take (i := 2) rfl (by kernel_rfl) (by kernel_rfl) (by kernel_rfl) (fun _ _ _ h => h) (Or.inl ⟨by rfl, by (intro w; go_simp; try with_reducible rfl)⟩) ?_
                go_simp
                refine wpAny_take (i := 3) rfl (by kernel_rfl) (by kernel_rfl) (by kernel_rfl) (fun _ _ _ h => h) (Or.inl ⟨by rfl, by (intro w; go_simp; try with_reducible rfl)⟩) ?_
                go_simp
                refine wpAny_ready (rs := [4]) (by kernel_rfl) (by simp) ?_
                refine AllReady.cons rfl (fun K hK => ?_) AllReady.nil
                go_simp
                refine hK _ _ ?_; clear hK K
                refine wpAny_ready (rs := [5]) (by kernel_rfl) (by simp) ?_
                refine AllReady.cons rfl (fun K hK => ?_) AllReady.nil
                go_simp
                go_wp2_with (go_at_call 35; refine HEQ.out.mono ?_; rintro e w11 ⟨rfl, rfl⟩)
                refine wpAny_take (i := 6) rfl (by kernel_rfl) (by kernel_rfl) (by kernel_rfl) (fun _ _ _ h => h) (Or.inl ⟨by rfl, by (intro w; go_simp; try with_reducible rfl)⟩) ?_
                go_simp
                refine wpAny_take (i := 7) rfl (by kernel_rfl) (by kernel_rfl) (by kernel_rfl) (fun _ _ _ h => h) (Or.inl ⟨by rfl, by (intro w; go_simp; try with_reducible rfl)⟩) ?_
                go_simp
                refine wpAny_take (i := 8) rfl (by kernel_rfl) (by kernel_rfl) (by kernel_rfl) (fun _ _ _ h => h) (Or.inr ⟨by rfl, rfl⟩) ?_
                go_simp
                refine wpAny_take (i := 9) rfl (by kernel_rfl) (by kernel_rfl) (by kernel_rfl) (fun _ _ _ h => h) (Or.inr ⟨by rfl, rfl⟩) ?_
                go_simp
                refine wpAny_take (i := 10) rfl (by kernel_rfl) (by kernel_rfl) (by kernel_rfl) (fun _ _ _ h => h) (Or.inr ⟨by rfl, rfl⟩) ?_
                go_simp
                refine wpAny_take (i := 11) rfl (by kernel_rfl) (by kernel_rfl) (by kernel_rfl) (fun _ _ _ h => h) (Or.inr ⟨by rfl, rfl⟩) ?_
                go_simp
                refine wpAny_take (i := 12) rfl (by kernel_rfl) (by kernel_rfl) (by kernel_rfl) (fun _ _ _ h => h) (Or.inr ⟨by rfl, rfl⟩) ?_
                go_simp
                refine wpAny_take (i := 13) rfl (by kernel_rfl) (by kernel_rfl) (by kernel_rfl) (fun _ _ _ h => h) (Or.inr ⟨by rfl, rfl⟩) ?_
                go_simp
                refine wpAny_take (i := 14) rfl (by kernel_rfl) (by kernel_rfl) (by kernel_rfl) (fun _ _ _ h => h) (Or.inr ⟨by rfl, rfl⟩) ?_
                go_simp
                refine wpAny_take (i := 15) rfl (by kernel_rfl) (by kernel_rfl) (by kernel_rfl) (fun _ _ _ h => h) (Or.inl ⟨by rfl, by (intro w; go_simp; try with_reducible rfl)⟩) ?_
                go_simp
                refine wpAny_done (by kernel_rfl) ?_ _
                go_wp2
                go_ret2
                exact indexEnd_err HEE.out (H10.out.2.1.transW (Frm.of_below (S := fun _ => False) HBA.out) (fun _ h => h.elim))
              | true =>
                have hSE := seal_p A9 T8 L8 k9 Wa H10.out.2.2.2.2.2.2.2.symm ((H10.out.1.below HBA.out).more HBA.out.size) (by rw [H10.out.2.2.2.2.2.2.2]; have := HL8.out; have := HGR.out.2.1; have := HB.out.2.2.1; omega)
                have HSE := Lib.hid hSE
                obtain ⟨b2, hb2⟩ : ∃ b, (sealB T8 == P2) = b := ⟨_, rfl⟩
                have HB2 := Lib.hid hb2
                clear hSE hb2
                go_wp2
                refine wp_region_any (by kernel_rfl) ?_
                change wpAny _ _ _ _ _ _ _ (World.drew _)
                refine wpAny_take (i := 0) rfl (by kernel_rfl) (by kernel_rfl) (by kernel_rfl) (fun _ _ _ h => h) (Or.inl ⟨by rfl, by (intro w; go_simp; try with_reducible rfl)⟩) ?_
                go_simp
                refine wpAny_take (i := 1) rfl (by kernel_rfl) (by kernel_rfl) (by kernel_rfl) (fun _ _ _ h => h) (Or.inl ⟨by rfl, by (intro w; go_simp; try with_reducible rfl)⟩) ?_
                go_simp
                refine wpAny_take (i := 2) rfl (by kernel_rfl) (by kernel_rfl) (by kernel_rfl) (fun _ _ _ h => h) (Or.inl ⟨by rfl, by (intro w; go_simp; try with_reducible rfl)⟩) ?_
                go_simp
                refine wpAny_take (i := 3) rfl (by kernel_rfl) (by kernel_rfl) (by kernel_rfl) (fun _ _ _ h => h) (Or.inl ⟨by rfl, by (intro w; go_simp; try with_reducible rfl)⟩) ?_
                go_simp
                refine wpAny_ready (rs := [4]) (by kernel_rfl) (by simp) ?_
                refine AllReady.cons rfl (fun K hK => ?_) AllReady.nil
                go_simp
                refine hK _ _ ?_; clear hK K
                refine wpAny_ready (rs := [5]) (by kernel_rfl) (by simp) ?_
                refine AllReady.cons rfl (fun K hK => ?_) AllReady.nil
                go_simp
                go_wp2_with (go_at_call 35; refine HEQ.out.mono ?_; rintro e w11 ⟨rfl, rfl⟩)
                refine wpAny_take (i := 6) rfl (by kernel_rfl) (by kernel_rfl) (by kernel_rfl) (fun _ _ _ h => h) (Or.inl ⟨by rfl, by (intro w; go_simp; try with_reducible rfl)⟩) ?_
                go_simp
                refine wpAny_take (i := 7) rfl (by kernel_rfl) (by kernel_rfl) (by kernel_rfl) (fun _ _ _ h => h) (Or.inl ⟨by rfl, by (intro w; go_simp; try with_reducible rfl)⟩) ?_
                go_simp
                refine wpAny_take (i := 10) rfl (by kernel_rfl) (by kernel_rfl) (by kernel_rfl) (fun _ _ _ h => h) (Or.inl ⟨by rfl, by (intro w; go_simp; try with_reducible rfl)⟩) ?_
                go_simp
                refine wpAny_take (i := 11) rfl (by kernel_rfl) (by kernel_rfl) (by kernel_rfl) (fun _ _ _ h => h) (Or.inl ⟨by rfl, by (intro w; go_simp; try with_reducible rfl)⟩) ?_
                go_simp
                refine wpAny_take (i := 12) rfl (by kernel_rfl) (by kernel_rfl) (by kernel_rfl) (fun _ _ _ h => h) (Or.inl ⟨by rfl, by (intro w; go_simp; try with_reducible rfl)⟩) ?_
                go_simp
                refine wpAny_ready (rs := [8]) (by kernel_rfl) (by simp) ?_
                refine AllReady.cons rfl (fun K hK => ?_) AllReady.nil
                go_simp
                refine hK _ _ ?_; clear hK K
                refine wpAny_ready (rs := [9]) (by kernel_rfl) (by simp) ?_
                refine AllReady.cons rfl (fun K hK => ?_) AllReady.nil
                go_simp
                go_wp2_with (go_at_call 59; refine HSE.out.mono ?_; rintro e w12 ⟨v12, rfl, ho12, hb12⟩; obtain ⟨A12, k12, rfl, -, -, hr12⟩ := ho12.slice; rw [sealB_len]; have R12 := Lib.hid hr12; have B12 := Lib.hid hb12; clear ho12 hr12 hb12)
                refine wpAny_ready (rs := [13]) (by kernel_rfl) (by simp) ?_
                refine AllReady.cons rfl (fun K hK => ?_) AllReady.nil
                go_simp
                go_wp2_with (go_at_call 35; have HE2 := equal_p A12 A8 (sealB T8) P2 4 k12 4 4 w12.heap.size w12 (sealB_len _).symm R12.out HL7.out.2.1.symm (((H10.out.2.2.2.1.below (HBA.out.mono H10.out.2.2.2.2.2.2.1)).below (B12.out.mono (Nat.le_trans H10.out.2.2.2.2.2.2.1 HBA.out.size))).more (Nat.le_trans H10.out.2.2.2.2.2.2.1 (Nat.le_trans HBA.out.size B12.out.size))); rw [HB2.out] at HE2; refine HE2.mono ?_; rintro e w13 ⟨rfl, rfl⟩)
                refine wpAny_take (i := 14) rfl (by kernel_rfl) (by kernel_rfl) (by kernel_rfl) (fun _ _ _ h => h) (Or.inl ⟨by rfl, by (intro w; go_simp; try with_reducible rfl)⟩) ?_
                go_simp
                refine wpAny_take (i := 15) rfl (by kernel_rfl) (by kernel_rfl) (by kernel_rfl) (fun _ _ _ h => h) (Or.inl ⟨by rfl, by (intro w; go_simp; try with_reducible rfl)⟩) ?_
                go_simp
                refine wpAny_done (by kernel_rfl) ?_ _
                have hbw : Below W10.heap.size W10 w12 := HBA.out.trans (B12.out.mono HBA.out.size)
                have hfw : Frm (· = fb) w w12 := H10.out.2.1.transW (Frm.of_below (S := fun _ => False) hbw) (fun _ h => h.elim)
                have gc12 : w12.cell? ⟨w.heap.size, 0, none⟩ = some (.slice A9 L8 k9) := (hbw.cell (p := ⟨w.heap.size, 0, none⟩) (World.block_lt_of_cell? W10 ⟨w.heap.size, 0, none⟩ gc10)).trans gc10
                have HFW := Lib.hid (And.intro hfw hbw)
                clear hfw hbw
                cases b2 with
                | false =>
                  have HEE : Hid (E = .inl 11) := Lib.hid (by rw [HXJ.out, if_pos (.inr (by simpa using HB2.out))])
                  go_wp2
                  go_ret2
                  exact indexEnd_err HEE.out HFW.out.1
                | true =>
                  have HEE : Hid (E = .inr (U + q4, r.drop q4)) := Lib.hid (by
                    rw [HXJ.out, if_neg]
                    rintro (h | h)
                    · exact h (by simpa using HB1.out)
                    · exact h (by simpa using HB2.out))
                  have hL4 : ((L8 : Int) + 4) = ((U + q4 : Nat) : Int) := by have := HL8.out; omega
                  obtain ⟨N4, hN4⟩ : ∃ N, U + q4 = N := ⟨_, rfl⟩
                  rw [hN4] at hL4 HEE
                  have hNw : IntKind.i64.wrap (N4 : Int) = (N4 : Int) := Go.IntWalk.i64_in _ (by have := HGR.out.2.1; have := HB.out.2.2.1; have := HN6.out; have := HS6.out.2.2.2.1; omega)
                  clear hN4
                  go_wp2
                  go_ret2
                  rw [HEE.out]
                  refine ⟨HFW.out.1, rfl, _, _, _, _, H10.out.2.2.2.2.2.1.below HFW.out.2 (Pts.lt H10.out.2.2.2.2.2.1), by have := HS6.out.2.1; have := HN6.out; omega, H10.out.2.2.2.2.1.below (HFW.out.2.mono H10.out.2.2.2.2.2.2.1), by rw [List.length_drop, HS6.out.2.2.2.1], by have := HS6.out.2.2.2.2.1; omega, by have := HS6.out.2.2.2.2.2; omega⟩
        · have qz : ((z : Int) != 0) = true := bne_iff_ne.2 (by omega)
          have HEE : Hid (E = .inl z) := Lib.hid (by rw [← HE.out]; unfold xIndex; rw [HZ.out.2.2 hz])
          clear hz
          go_wp2
          go_ret2
          exact indexEnd_err HEE.out HZ.out.1
end Go.Proofs.YtgahfpflhhfhfaaGreat

/- What a block tells is counted, summed up, handed on: the walk of the block's own function. -/
namespace Go.Proofs.YtgahfpflhhfhfaaGreat
open Go.RowKit Rng Win Lz
set_option linter.unusedVariables false
set_option linter.unusedSimpArgs false
theorem SumAt.frmX {w w' : World} {s : Nat} {own : Nat → Prop} {kind : Int} {all : List UInt8} {S : Nat → Prop} (h : SumAt w s own kind all) (hf : Frm S w w') (hn : ∀ k, own k → ¬ S k) : SumAt w' s own kind all := by
  cases h with
  | crc32 c hk hs hc ho hne => exact .crc32 c hk (hs.frm hf (hn _ ((ho _).2 (.inl rfl)))) (Pts.frm hc hf (hn _ ((ho _).2 (.inr rfl)))) ho hne
  | crc64 c hk hs hc ho hne => exact .crc64 c hk (hs.frm hf (hn _ ((ho _).2 (.inl rfl)))) (Pts.frm hc hf (hn _ ((ho _).2 (.inr rfl)))) ho hne
  | xxh64 c v hk hs hc ho hne =>
    exact .xxh64 c v hk (hs.frm hf (hn _ ((ho _).2 (.inl rfl)))) ⟨hc.1.frm hf (hn _ ((ho _).2 (.inr (.inl rfl)))), hc.2.frm hf fun k hk => hn _ ((ho _).2 (.inr (.inr hk)))⟩ ho hne
  | none hk hs ho => exact .none hk (hs.frm hf (hn _ ((ho _).2 rfl))) ho
theorem SumAt.cellsX {w : World} {s : Nat} {own : Nat → Prop} {kind : Int} {all : List UInt8} (h : SumAt w s own kind all) : ∀ k, own k → ∃ c t f, w.heap[k]? = some (.cells c t f) := by
  intro k hk
  cases h with
  | crc32 c _ hs hc ho hne => rcases (ho k).1 hk with rfl | rfl; exact ⟨_, _, _, hs⟩; exact ⟨_, _, _, hc⟩
  | crc64 c _ hs hc ho hne => rcases (ho k).1 hk with rfl | rfl; exact ⟨_, _, _, hs⟩; exact ⟨_, _, _, hc⟩
  | xxh64 c v _ hs hc ho hne =>
    rcases (ho k).1 hk with rfl | rfl | h1
    · exact ⟨_, _, _, hs⟩
    · exact ⟨_, _, _, hc.1⟩
    · rcases hc.2.form with ⟨h2, _⟩ | ⟨g, cap, cur, h2, _, hh, _⟩
      · rw [h2] at h1; cases h1
      · rw [h2] at h1
        injection h1 with h1
        subst h1
        exact ⟨_, _, _, hh⟩
  | none _ hs ho => rw [(ho k).1 hk]; exact ⟨_, _, _, hs⟩
theorem lt_of_cells {w : World} {q : Nat} (h : ∃ c t f, w.heap[q]? = some (.cells c t f)) : q < w.heap.size := by
  obtain ⟨_, _, _, h⟩ := h
  exact (Array.getElem?_eq_some_iff.1 h).1
theorem chkK_cases (k : Int) : chkK k = 1 ∨ chkK k = 2 ∨ chkK k = 0 := by
  unfold chkK
  repeat' split
  · exact .inl rfl
  · exact .inr (.inl rfl)
  · exact .inr (.inr rfl)
section
variable (nb sc bx rb fb bud : Nat) (put hold : Value) (kind : Int) (told : Nat) (lv : Value) (out : List UInt8) (B0 : Nat) (J : (Nat → Prop) → List UInt8 → World → Prop)
/-- A block that is being read: n bytes were told, summed up, handed on. -/
structure JBx (Mi own : Nat → Prop) (sb : Nat) (T : List UInt8) (W : World) : Prop where
  n : Pts W nb #[.int .i64 (T.length : Int)] 3
  s : Pts W sc #[.iface 111 (.pointer (some ⟨sb, 0, none⟩))] 94
  x : Pts W bx #[.pointer (some ⟨rb, 0, none⟩)] 60
  r : RxAt W rb fb bud put hold kind told lv
  u : SumAt W sb own (chkK kind) T
  j : J Mi (out ++ T) W
  o : ∀ q, own q → B0 ≤ q ∧ ¬ Mi q ∧ q ≠ nb ∧ q ≠ sc ∧ q ≠ bx ∧ q ≠ rb
  m : ∀ q, Mi q → q ≠ nb ∧ q ≠ sc ∧ q ≠ bx ∧ q ≠ rb
def JB (M : Nat → Prop) (T : List UInt8) (W : World) : Prop :=
  ∃ Mi own sb, JBx nb sc bx rb fb bud put hold kind told lv out B0 J Mi own sb T W ∧ ∀ q, M q ↔ (q = nb ∨ q = sc ∨ q = bx ∨ q = rb ∨ own q ∨ Mi q)
end
section
variable {nb sc bx rb fb bud : Nat} {put hold : Value} {kind : Int} {told : Nat} {lv : Value} {out : List UInt8} {B0 : Nat} {J : (Nat → Prop) → List UInt8 → World → Prop} {Mi own : Nat → Prop} {sb : Nat} {T : List UInt8} {W : World}
theorem JBx.ne (h : JBx nb sc bx rb fb bud put hold kind told lv out B0 J Mi own sb T W) : nb ≠ sc ∧ nb ≠ bx ∧ nb ≠ rb ∧ sc ≠ bx ∧ sc ≠ rb ∧ bx ≠ rb :=
  ⟨h.n.ne_of h.s (by decide), h.n.ne_of h.x (by decide), h.n.ne_of h.r (by decide), h.s.ne_of h.x (by decide), h.s.ne_of h.r (by decide), h.x.ne_of h.r (by decide)⟩
end
theorem meth_sA (a : Addr) (w : World) : (method 375 111 (.pointer (some a)) "Add").run Tryz.prog w = .ok (100, .pointer (some a)) w := by kernel_rfl
theorem meth_sV (a : Addr) (w : World) : (method 375 111 (.pointer (some a)) "Value").run Tryz.prog w = .ok (101, .pointer (some a)) w := by kernel_rfl
theorem BRow.below' {w w' : World} {B : Nat} {A : Option Addr} {bs : List UInt8} {N : Nat → Prop} (h : BRow w B A bs) (hf : Frm N w w') (hN : BOff N A bs) : BRow w' B A bs := by
  intro hn
  obtain ⟨c, off, rfl, hlt, hcell⟩ := h hn
  exact ⟨c, off, rfl, hlt, fun k hk => (World.cell?_of_block (w := w) (hf.block c (World.block_lt_of_cell? w ⟨c, off + k, none⟩ (hcell k hk)) (hN hn _ rfl))).trans (hcell k hk)⟩
/-- A row of bytes lies in no block whose cells are no bytes. -/
theorem row_off {W : World} {B q : Nat} {Ab : Option Addr} {b : List UInt8} {c : Array Value} {t : TypeId} {f : Nat × Nat} (hr : BRow W B Ab b) (hq : W.heap[q]? = some (.cells c t f)) (hc : ∀ (k : Nat) (z : Int), c[k]? ≠ some (Value.int .u8 z)) : 0 < b.length → ∀ ad, Ab = some ad → ad.block ≠ q := by
  intro h0 ad hA e
  obtain ⟨bl, off, rfl, hlt, hcell⟩ := hr h0
  injection hA with hA
  subst hA
  have e : bl = q := e
  subst e
  have h1 := hcell 0 h0
  unfold World.cell? at h1
  simp only [hq] at h1
  exact hc _ _ (by simpa [byteV] using h1)
theorem crcCells_u64 (n all : Int) (tab : Nat → Int) : ∀ (k : Nat) (z : Int), (crcCells n all tab)[k]? ≠ some (Value.int .u8 z) := by
  intro k z
  rcases Nat.lt_or_ge k 2 with h2 | h2
  · have hk : k = 0 ∨ k = 1 := by omega
    rcases hk with rfl | rfl
    · rw [crcCells_0]; simp
    · rw [crcCells_1]; simp
  · obtain ⟨j, rfl⟩ : ∃ j, k = 2 + j := ⟨k - 2, by omega⟩
    by_cases hk : j < 256
    · rw [crcCells_2 _ _ _ _ hk]; simp
    · intro h
      have := (Array.getElem?_eq_some_iff.1 h).1
      simp [crcCells] at this
      omega
theorem one_no8 (v : Value) (hv : ∀ z, v ≠ Value.int .u8 z) : ∀ (k : Nat) (z : Int), (#[v] : Array Value)[k]? ≠ some (Value.int .u8 z) := by
  intro k z h
  rcases Nat.eq_zero_or_pos k with rfl | hk
  · injection h with h; exact hv z h
  · have := (Array.getElem?_eq_some_iff.1 h).1
    simp at this
    omega
theorem sum_off {W : World} {B s : Nat} {own : Nat → Prop} {kind : Int} {all b : List UInt8} {Ab : Option Addr} (hk : kind = 1 ∨ kind = 2 ∨ kind = 0) (h : SumAt W s own kind all) (hr : BRow W B Ab b) : BOff own Ab b := by
  intro h0 ad hA hq
  cases h with
  | crc32 c hk hs hc ho hne =>
    rcases (ho _).1 hq with e | e
    · exact row_off hr hs (one_no8 _ (fun z h => by cases h)) h0 ad hA e
    · exact row_off hr hc (crcCells_u64 _ _ _) h0 ad hA e
  | crc64 c hk hs hc ho hne =>
    rcases (ho _).1 hq with e | e
    · exact row_off hr hs (one_no8 _ (fun z h => by cases h)) h0 ad hA e
    · exact row_off hr hc (crcCells_u64 _ _ _) h0 ad hA e
  | xxh64 c v hk2 hs hc ho hne => omega
  | none hk hs ho => exact row_off hr hs (one_no8 _ (fun z h => by cases h)) h0 ad hA ((ho _).1 hq)
set_option maxRecDepth 100000 in
set_option maxHeartbeats 2000000 in
theorem blk1_p (nb sc bx rb fb bud fput B0 BO most : Nat) (lb : Array Value) (hold : Value) (kind : Int) (told : Nat) (lv : Value) (out T b : List UInt8) (J : (Nat → Prop) → List UInt8 → World → Prop) (Mi own : Nat → Prop) (sb : Nat) (Ab : Option Addr) (cb : Nat) (W : World)
    (hp : PutOk Tryz.prog fput lb B0 most J) (h : JBx nb sc bx rb fb bud (.func (.func fput) #[] lb) hold kind told lv out BO J Mi own sb T W) (hr : BRow W W.heap.size Ab b) (hbc : b.length ≤ cb) (hcm : cb ≤ maxLen) (hl : out.length + (T.length + b.length) ≤ most) (hm : most ≤ 16777216) (hB0 : BO ≤ W.heap.size) :
    Calls Tryz.prog 57 #[.slice Ab b.length cb, .pointer (some ⟨nb, 0, none⟩), .pointer (some ⟨sc, 0, none⟩), .pointer (some ⟨bx, 0, none⟩)] W fun e W' => e = .returned (.bool true) ∧ ∃ Mi' own', JBx nb sc bx rb fb bud (.func (.func fput) #[] lb) hold kind told lv out BO J Mi' own' sb (T ++ b) W' ∧
      Frm (fun q => q = nb ∨ own q ∨ Mi q) W W' ∧ (∀ q, Mi' q → Mi q ∨ (W.heap.size ≤ q ∧ q < W'.heap.size)) ∧ (∀ q, own' q → own q ∨ (W.heap.size ≤ q ∧ q < W'.heap.size)) := by
  have H := Lib.hid h
  have HP := Lib.hid hp
  have hoff1 : BOff (fun q => q = nb) Ab b := fun h0 ad hA e => row_off hr h.n (one_no8 _ (fun z h => by cases h)) h0 ad hA e
  have hoff2 := sum_off (chkK_cases kind) h.u hr
  have HR : Hid (BRow W W.heap.size Ab b ∧ BOff (fun q => q = nb) Ab b ∧ BOff own Ab b) := Lib.hid ⟨hr, hoff1, hoff2⟩
  have HH : Hid (b.length ≤ cb ∧ cb ≤ maxLen ∧ out.length + (T.length + b.length) ≤ most ∧ most ≤ 16777216 ∧ BO ≤ W.heap.size) := Lib.hid ⟨hbc, hcm, hl, hm, hB0⟩
  have cn : W.cell? ⟨nb, 0, none⟩ = some (.int .i64 (T.length : Int)) := by rw [h.n.cell]; rfl
  have zn := h.n.frozen 0
  obtain ⟨n1, n2, n3, n4, n5, n6⟩ := h.ne
  obtain ⟨W1, hW1⟩ : ∃ W1, W.setCell ⟨nb, 0, none⟩ (.int .i64 ((T.length + b.length : Nat) : Int)) = W1 := ⟨_, rfl⟩
  have hf1 : Frm (fun q => q = nb) W W1 := by rw [← hW1]; exact (Frm.refl (fun q => q = nb) W).setCell (p := ⟨nb, 0, none⟩) rfl _
  have hz1 : W1.heap.size = W.heap.size := by rw [← hW1]; simp [World.setCell]
  have hn1 : Pts W1 nb #[.int .i64 ((T.length + b.length : Nat) : Int)] 3 := by rw [← hW1]; exact h.n.set 0 _
  have hs1 := h.s.frm hf1 (fun e => n1 e.symm)
  have hx1 := h.x.frm hf1 (fun e => n2 e.symm)
  have hr1 : RxAt W1 rb fb bud (.func (.func fput) #[] lb) hold kind told lv := Pts.frm h.r hf1 (fun e => n3 e.symm)
  have hu1 := h.u.frmX hf1 (fun q hq e => (h.o q hq).2.2.1 e)
  have hj1 := hp.keep Mi _ W W1 h.j (hf1.mono fun q _ e hm => (h.m q hm).1 e)
  have hb1 : BRow W1 W.heap.size Ab b := hr.off hoff1 hf1
  have hs1c : W1.cell? ⟨sc, 0, none⟩ = some (.iface 111 (.pointer (some ⟨sb, 0, none⟩))) := by rw [hs1.cell]; rfl
  have HA := Lib.hid (add_off sb own (chkK kind) T Ab b b.length cb W.heap.size W1 hu1 rfl hb1 hoff2 (by omega))
  have H1 : Hid (Frm (fun q => q = nb) W W1 ∧ W1.heap.size = W.heap.size ∧ Pts W1 nb #[.int .i64 ((T.length + b.length : Nat) : Int)] 3 ∧ Pts W1 sc #[.iface 111 (.pointer (some ⟨sb, 0, none⟩))] 94 ∧ Pts W1 bx #[.pointer (some ⟨rb, 0, none⟩)] 60 ∧ RxAt W1 rb fb bud (.func (.func fput) #[] lb) hold kind told lv ∧ J Mi (out ++ T) W1 ∧ BRow W1 W.heap.size Ab b) := Lib.hid ⟨hf1, hz1, hn1, hs1, hx1, hr1, hj1, hb1⟩
  have hi : IntKind.i64.wrap ((T.length : Int) + (b.length : Int)) = ((T.length + b.length : Nat) : Int) := by rw [Go.IntWalk.i64_in _ (by omega)]; omega
  obtain ⟨L, hL⟩ : ∃ L, T.length + b.length = L := ⟨_, rfl⟩
  have HL := Lib.hid hL
  obtain ⟨tl, htl⟩ : ∃ tl, T.length = tl := ⟨_, rfl⟩
  rw [hL] at hi H1 hW1
  rw [htl] at hi cn
  have mA := meth_sA
  obtain ⟨bl, hbl⟩ : ∃ bl, b.length = bl := ⟨_, rfl⟩
  have HBL := Lib.hid (And.intro htl hbl)
  rw [hbl] at HA hi
  rw [hbl]
  clear h hp hr hoff1 hoff2 hbc hcm hl hm hB0 n1 n2 n3 n4 n5 n6 hf1 hz1 hn1 hs1 hx1 hr1 hu1 hj1 hb1 hL htl hbl
  go_enter Tryz.func57, Tryz.ntmps57
  go_wp2_with fail
  refine HA.out.mono ?_; rintro e w2 ⟨rfl, own', hu2, ho2, hf2⟩
  have hn2 := H1.out.2.2.1.frm hf2 (fun hq => (H.out.o _ hq).2.2.1 rfl)
  have hs2 := H1.out.2.2.2.1.frm hf2 (fun hq => (H.out.o _ hq).2.2.2.1 rfl)
  have hx2 := H1.out.2.2.2.2.1.frm hf2 (fun hq => (H.out.o _ hq).2.2.2.2.1 rfl)
  have hr2 : RxAt w2 rb fb bud (.func (.func fput) #[] lb) hold kind told lv := Pts.frm H1.out.2.2.2.2.2.1 hf2 (fun hq => (H.out.o _ hq).2.2.2.2.2 rfl)
  have hj2 := HP.out.keep Mi _ W1 w2 H1.out.2.2.2.2.2.2.1 (hf2.mono fun q _ hq hm => (H.out.o q hq).2.1 hm)
  have hb2 : BRow w2 w2.heap.size Ab b := (H1.out.2.2.2.2.2.2.2.below' hf2 HR.out.2.2).more (by have := hf2.size; have := H1.out.2.1; omega)
  have hxc : w2.cell? ⟨bx, 0, none⟩ = some (.pointer (some ⟨rb, 0, none⟩)) := by rw [hx2.cell]; rfl
  have hrc : w2.cell? ⟨rb, 2, none⟩ = some (.func (.func fput) #[] lb) := hr2.cells.2.2.1
  have H2 : Hid (Pts w2 nb #[.int .i64 (L : Int)] 3 ∧ Pts w2 sc #[.iface 111 (.pointer (some ⟨sb, 0, none⟩))] 94 ∧ Pts w2 bx #[.pointer (some ⟨rb, 0, none⟩)] 60 ∧ RxAt w2 rb fb bud (.func (.func fput) #[] lb) hold kind told lv ∧ SumAt w2 sb own' (chkK kind) (T ++ b) ∧ (∀ k, own' k → own k ∨ W1.heap.size ≤ k) ∧ Frm own W1 w2) := Lib.hid ⟨hn2, hs2, hx2, hr2, hu2, ho2, hf2⟩
  have HC := HP.out.call Mi (out ++ T) b Ab cb w2 hj2 hb2 HH.out.1 HH.out.2.1 (by rw [List.length_append]; have := HH.out.2.2.1; omega)
  rw [HBL.out.2] at HC
  have HCC := Lib.hid HC
  have hent := HP.out.ent
  clear hn2 hs2 hx2 hr2 hj2 hb2 hu2 ho2 hf2 HC HA
  go_wp2
  refine HCC.out.mono ?_; rintro e w3 ⟨rfl, Mi', hj3, hf3, hm3⟩
  have hm2 : ∀ q, Mi q → q < W1.heap.size := HP.out.lt H1.out.2.2.2.2.2.2.1
  have ho1 : ∀ q, own q → q < W.heap.size := fun q hq => lt_of_cells (H.out.u.cellsX q hq)
  have ho2 : ∀ q, own' q → q < w2.heap.size := fun q hq => lt_of_cells (H2.out.2.2.2.2.1.cellsX q hq)
  have hz12 := H2.out.2.2.2.2.2.2.size
  have hz1 := H1.out.2.1
  have hz23 := hf3.size
  have hnl := H.out.n.lt
  have hsl := H.out.s.lt
  have hxl := H.out.x.lt
  have hrl := Pts.lt H.out.r
  have hoM : ∀ q, own' q → ¬ Mi q := fun q hq hm => by
    rcases H2.out.2.2.2.2.2.1 q hq with h1 | h1
    · exact (H.out.o q h1).2.1 hm
    · have := hm2 q hm; omega
  have hJ3 : JBx nb sc bx rb fb bud (.func (.func fput) #[] lb) hold kind told lv out BO J Mi' own' sb (T ++ b) w3 := by
    refine ⟨?_, H2.out.2.1.frm hf3 (fun hm => (H.out.m _ hm).2.1 rfl), H2.out.2.2.1.frm hf3 (fun hm => (H.out.m _ hm).2.2.1 rfl), Pts.frm H2.out.2.2.2.1 hf3 (fun hm => (H.out.m _ hm).2.2.2 rfl), H2.out.2.2.2.2.1.frmX hf3 hoM, by rw [← List.append_assoc]; exact hj3, fun q hq => ?_, fun q hq => ?_⟩
    · have h3 := H2.out.1.frm hf3 (fun hm => (H.out.m _ hm).1 rfl)
      rw [← HL.out, ← List.length_append] at h3
      exact h3
    · refine ⟨?_, fun hm => ?_, ?_⟩
      · rcases H2.out.2.2.2.2.2.1 q hq with h1 | h1
        · exact (H.out.o q h1).1
        · have := HH.out.2.2.2.2; omega
      · rcases hm3 q hm with h1 | h1
        · exact hoM q hq h1
        · have := ho2 q hq; omega
      · rcases H2.out.2.2.2.2.2.1 q hq with h1 | h1
        · exact (H.out.o q h1).2.2
        · exact ⟨by omega, by omega, by omega, by omega⟩
    · rcases hm3 q hq with h1 | h1
      · exact H.out.m q h1
      · exact ⟨by omega, by omega, by omega, by omega⟩
  have hF3 : Frm (fun q => q = nb ∨ own q ∨ Mi q) W w3 :=
    ((H1.out.1.mono (S' := fun q => q = nb ∨ own q ∨ Mi q) fun q _ h => .inl h).trans (H2.out.2.2.2.2.2.2.mono fun q _ h => .inr (.inl h))).trans (hf3.mono fun q _ h => .inr (.inr h))
  have hM3 : ∀ q, Mi' q → Mi q ∨ (W.heap.size ≤ q ∧ q < w3.heap.size) := fun q hq => (hm3 q hq).imp id (fun h => ⟨by omega, h.2⟩)
  have hO3 : ∀ q, own' q → own q ∨ (W.heap.size ≤ q ∧ q < w3.heap.size) := fun q hq => (H2.out.2.2.2.2.2.1 q hq).imp id (fun h => ⟨by omega, by have := ho2 q hq; omega⟩)
  have FIN := Lib.hid (And.intro hJ3 (And.intro hF3 (And.intro hM3 hO3)))
  clear hJ3 hF3 hM3 hO3 hoM ho1 ho2 hm2 hm3 hf3 hj3 hent hxc hrc
  go_wp2
  go_ret
  exact ⟨rfl, Mi', own', FIN.out.1, FIN.out.2.1, FIN.out.2.2.1, FIN.out.2.2.2⟩
theorem blk1_ok (nb sc bx rb fb bud fput B0 BO most most' : Nat) (lb : Array Value) (hold : Value) (kind : Int) (told : Nat) (lv : Value) (out : List UInt8) (J : (Nat → Prop) → List UInt8 → World → Prop)
    (hp : PutOk Tryz.prog fput lb B0 most J) (hl : out.length + most' ≤ most) (hm : most ≤ 16777216) (h0 : B0 ≤ BO) (h1 : BO ≤ nb) (h2 : B0 ≤ sc) (h3 : B0 ≤ bx) (h4 : B0 ≤ rb) :
    PutOk Tryz.prog 57 #[.pointer (some ⟨nb, 0, none⟩), .pointer (some ⟨sc, 0, none⟩), .pointer (some ⟨bx, 0, none⟩)] B0 most' (JB nb sc bx rb fb bud (.func (.func fput) #[] lb) hold kind told lv out BO J) where
  ent := enters_of Tryz.func57 (by kernel_rfl) rfl
  keep := by
    rintro M T W W' ⟨Mi, own, sb, h, hM⟩ hf
    have hk : ∀ q, (q = nb ∨ q = sc ∨ q = bx ∨ q = rb ∨ own q ∨ Mi q) → ¬ ¬ M q := fun q hq hn => hn ((hM q).2 hq)
    refine ⟨Mi, own, sb, ⟨h.n.frm hf (hk _ (.inl rfl)), h.s.frm hf (hk _ (.inr (.inl rfl))), h.x.frm hf (hk _ (.inr (.inr (.inl rfl)))), Pts.frm h.r hf (hk _ (.inr (.inr (.inr (.inl rfl))))), h.u.frmX hf (fun q hq => hk q (.inr (.inr (.inr (.inr (.inl hq)))))), hp.keep Mi _ W W' h.j (hf.mono fun q _ hn hm => hn ((hM q).2 (.inr (.inr (.inr (.inr (.inr hm))))))), h.o, h.m⟩, hM⟩
  own := by
    rintro M T W ⟨Mi, own, sb, h, hM⟩ q hq
    rcases (hM q).1 hq with e | e | e | e | e | e
    · subst e; exact ⟨Nat.le_trans h0 h1, _, _, _, h.n⟩
    · subst e; exact ⟨h2, _, _, _, h.s⟩
    · subst e; exact ⟨h3, _, _, _, h.x⟩
    · subst e; exact ⟨h4, _, _, _, h.r⟩
    · exact ⟨Nat.le_trans h0 (h.o q e).1, h.u.cellsX q e⟩
    · exact hp.own Mi _ W h.j q e
  call := by
    rintro M T b Ab cb W ⟨Mi, own, sb, h, hM⟩ hr hbc hcm hl2
    refine (blk1_p nb sc bx rb fb bud fput B0 BO most lb hold kind told lv out T b J Mi own sb Ab cb W hp h hr hbc hcm (by omega) hm (by have := h.n.lt; omega)).mono ?_
    rintro e W' ⟨rfl, Mi', own', h', hf, hm', ho'⟩
    refine ⟨rfl, fun q => q = nb ∨ q = sc ∨ q = bx ∨ q = rb ∨ own' q ∨ Mi' q, ⟨Mi', own', sb, h', fun q => Iff.rfl⟩, hf.mono fun q _ hq => (hM q).2 ?_, ?_⟩
    · rcases hq with e | e | e
      · exact .inl e
      · exact .inr (.inr (.inr (.inr (.inl e))))
      · exact .inr (.inr (.inr (.inr (.inr e))))
    · rintro q (e | e | e | e | e | e)
      · exact .inl ((hM q).2 (.inl e))
      · exact .inl ((hM q).2 (.inr (.inl e)))
      · exact .inl ((hM q).2 (.inr (.inr (.inl e))))
      · exact .inl ((hM q).2 (.inr (.inr (.inr (.inl e)))))
      · exact (ho' q e).imp (fun h => (hM q).2 (.inr (.inr (.inr (.inr (.inl h)))))) id
      · exact (hm' q e).imp (fun h => (hM q).2 (.inr (.inr (.inr (.inr (.inr h)))))) id
end Go.Proofs.YtgahfpflhhfhfaaGreat
