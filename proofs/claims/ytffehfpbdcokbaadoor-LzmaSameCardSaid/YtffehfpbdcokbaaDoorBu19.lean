/- Texts of this proof, put together: RngD, LzX. -/
import Derived.Test.YtffehfpbdcokbaaDoorBu3
import Derived.Test.YtffehfpbdcokbaaDoorBu9
import Derived.Test.YtffehfpbdcokbaaDoorBu17
import Derived.Test.YtffehfpbdcokbaaDoorBu18
set_option linter.unusedVariables false
set_option linter.unusedSimpArgs false
/- A decoder that is made. -/
namespace Go.Proofs.YtffehfpbdcokbaaDoor
open Go.RowKit Rng
set_option linter.unusedVariables false
set_option linter.unusedSimpArgs false
theorem slice_fromR (A : Option Addr) (n c f : Nat) (hf : f ≤ n) (hn : n ≤ c) (w : World) :
    (Instr.sliceAt 22 (.slice A n c) (some (.int .i64 (f : Int))) none none).run Tryd.prog w = .ok (.slice (if c = f then A else A.map (·.add f)) (n - f) (c - f)) w := by
  by_cases hcf : c = f
  · simp [go_sem, hcf]
    intro h; omega
  · simp [go_sem, hcf]
    intro h; omega
theorem or_at {x y : Nat} (i : Nat) (hx : x % 2 ^ i = 0) (hy : y < 2 ^ i) (h : x + y < 4294967296) : bits .or .u32 (x : Int) (y : Int) = ((x + y : Nat) : Int) := by
  have e1 : x < Num.M32 := by show x < 4294967296; omega
  have e2 : y < Num.M32 := by show y < 4294967296; omega
  have h1 := Num.or32 e1 e2
  have h3 := Nat.shiftLeft_add_eq_or_of_lt (a := x / 2 ^ i) (b := y) (i := i) hy
  have e : (x / 2 ^ i) <<< i = x := by rw [Nat.shiftLeft_eq]; exact Nat.div_mul_cancel (Nat.dvd_of_mod_eq_zero hx)
  rw [e] at h3
  rw [← h3] at h1
  exact h1
/-- Four bytes, the highest first. -/
def be4 (bs : List UInt8) : Nat := (((bs.getD 1 0).toNat * 256 + (bs.getD 2 0).toNat) * 256 + (bs.getD 3 0).toNat) * 256 + (bs.getD 4 0).toNat
def newDec (bs : List UInt8) : Dec := ⟨bs.drop 5, 4294967295, be4 bs, false⟩
theorem be4_lt (bs : List UInt8) : be4 bs < 4294967296 := by
  unfold be4
  have h1 := (bs.getD 1 0).toNat_lt
  have h2 := (bs.getD 2 0).toNat_lt
  have h3 := (bs.getD 3 0).toNat_lt
  have h4 := (bs.getD 4 0).toNat_lt
  omega
theorem newDec_fits (bs : List UInt8) : (newDec bs).Fits := ⟨by show 4294967295 < 4294967296; omega, be4_lt bs⟩
/-- What is told of bytes that are no coder's. -/
def newErr (bs : List UInt8) : Int := if bs.length < 5 then 10 else if bs.getD 0 0 = 0 then 0 else 11
theorem dnew_bad_p (A : Option Addr) (bs : List UInt8) (n c B : Nat) (w : World) (hn : n = bs.length) (hr : BRow w B A bs) (hc : bs.length ≤ c) (hcm : c ≤ maxLen) (h : newErr bs ≠ 0) :
    Calls Tryd.prog 13 #[.slice A n c] w fun e w' => e = .returned (.tuple #[.pointer none, .int .i64 (newErr bs)]) ∧ w = w' := by
  subst hn
  by_cases h5 : bs.length < 5
  · have e : newErr bs = 10 := if_pos h5
    rw [e]
    clear h e
    go_enter Tryd.func13, Tryd.ntmps13
    go_wp2
    go_ret2
    exact ⟨rfl, rfl⟩
  · by_cases h0 : bs.getD 0 0 = 0
    · exact absurd (by unfold newErr; rw [if_neg h5, if_pos h0]) h
    · have e : newErr bs = 11 := by unfold newErr; rw [if_neg h5, if_neg h0]
      rw [e]
      obtain ⟨ab, off, rfl, hab, hcell⟩ := hr (by omega)
      have x0 : w.cell? ⟨ab, off, none⟩ = some (.int .u8 ((bs.getD 0 0).toNat : Int)) := hcell 0 (by omega)
      have hne : (((bs.getD 0 0).toNat : Int) == 0) = false := by
        have h9 : (bs.getD 0 0).toNat ≠ 0 := fun e => h0 (UInt8.toNat_inj.1 (by simpa using e))
        exact beq_eq_false_iff_ne.2 (by omega)
      generalize ((bs.getD 0 0).toNat : Int) = x at *
      have hlen : 5 ≤ bs.length := by omega
      clear h e h0 hcell h5 hr
      go_enter Tryd.func13, Tryd.ntmps13
      go_wp2
      go_ret2
      exact ⟨rfl, rfl⟩
theorem newRow {w W : World} {bs : List UInt8} {A : Option Addr} {c : Nat} (hr : BRow w w.heap.size A bs) (hb : Below w.heap.size w W) (hc : bs.length ≤ c) : BRow W W.heap.size (if c = 5 then A else A.map (·.add 5)) (bs.drop 5) :=
  ((hr.drop (k := 5) (cap := c) hc).below hb).more hb.size
theorem newRow5 {w W : World} {bs : List UInt8} {ab off c : Nat} (hc5 : ¬ c = 5) (hr : BRow w w.heap.size (some ⟨ab, off, none⟩) bs) (hb : Below w.heap.size w W) (hc : bs.length ≤ c) : BRow W W.heap.size (some ⟨ab, off + 5, none⟩) (bs.drop 5) := by
  have h9 := newRow hr hb hc
  rw [if_neg hc5, Option.map_some, Opn.add_at] at h9
  exact h9
theorem newRow0 {w W : World} {bs : List UInt8} {ab off c : Nat} (hc5 : c = 5) (hr : BRow w w.heap.size (some ⟨ab, off, none⟩) bs) (hb : Below w.heap.size w W) (hc : bs.length ≤ c) : BRow W W.heap.size (some ⟨ab, off, none⟩) (bs.drop 5) := by
  have h9 := newRow hr hb hc
  rw [if_pos hc5] at h9
  exact h9
theorem DecAt.made {W : World} {T b ab c5 be : Nat} {A5 : Option Addr} {bs : List UInt8} (hp : Pts W b #[.slice A5 (bs.length - 5) c5, .int .u32 ((4294967295 : Nat) : Int), .int .u32 be, .bool false] T) (hr : BRow W W.heap.size A5 (bs.drop 5)) (ho : ∀ ad, A5 = some ad → ad.block = ab)
    (hc : bs.length - 5 ≤ c5) (hcm : c5 ≤ maxLen) (hfit : Dec.Fits ⟨bs.drop 5, 4294967295, be, false⟩) (hn : ab ≠ b) : DecAt W T b ab ⟨bs.drop 5, 4294967295, be, false⟩ := by
  refine ⟨⟨A5, c5, ?_, hr, fun h0 ad e => by simpa using ho ad e, ?_, hcm⟩, hfit, hn⟩
  · show Pts _ _ #[.slice _ (bs.drop 5).length _, _, _, _] _
    rw [List.length_drop]
    exact hp
  · show (bs.drop 5).length ≤ _
    rw [List.length_drop]
    exact hc
/-- So many of the four. -/
def beN (bs : List UInt8) : Nat → Nat
  | 0 => 0
  | j + 1 => beN bs j * 256 + (bs.getD (j + 1) 0).toNat
theorem beN_lt (bs : List UInt8) : ∀ j, beN bs j < 256 ^ j
  | 0 => by simp [beN]
  | j + 1 => by
    have h1 := beN_lt bs j
    have h2 := (bs.getD (j + 1) 0).toNat_lt
    rw [beN, Nat.pow_succ]
    omega
theorem beN_4 (bs : List UInt8) : beN bs 4 = be4 bs := by simp [beN, be4]
set_option maxRecDepth 100000 in
set_option maxHeartbeats 1000000 in
theorem dnew_p (A : Option Addr) (bs : List UInt8) (n c : Nat) (w : World) (hn : n = bs.length) (hr : BRow w w.heap.size A bs) (hc : bs.length ≤ c) (hcm : c ≤ maxLen) (hlen : bs.length ≤ 140737488355328) (h : newErr bs = 0) :
    Calls Tryd.prog 13 #[.slice A n c] w fun e w' => ∃ b rb, e = .returned (.tuple #[.pointer (some ⟨b, 0, none⟩), .int .i64 0]) ∧ DecAt w' 86 b rb (newDec bs) ∧ w.heap.size ≤ b ∧ w.heap.size ≤ rb ∧ Below w.heap.size w w' := by
  subst hn
  have h5 : 5 ≤ bs.length := by
    unfold newErr at h
    by_cases h5 : bs.length < 5
    · rw [if_pos h5] at h; cases h
    · omega
  have h0 : bs.getD 0 0 = 0 := by
    unfold newErr at h
    rw [if_neg (by omega)] at h
    by_cases h0 : bs.getD 0 0 = 0
    · exact h0
    · rw [if_neg h0] at h; cases h
  obtain ⟨ab, off, rfl, hab, hcell⟩ := hr (by omega)
  have x0 : w.cell? ⟨ab, off, none⟩ = some (.int .u8 0) := by have := hcell 0 (by omega); rw [h0] at this; exact this
  have HR := Lib.hid hr
  have HC := Lib.hid hcell
  have hc1 : ¬ c = 1 := by omega
  clear hr hcell h0 h
  go_enter Tryd.func13, Tryd.ntmps13
  go_wp2
  have P0 := Pts.new w #[.slice none 0 0, .int .u32 4294967295, .int .u32 0, .bool false] 86
  have B0 := (Below.refl w.heap.size w).alloc (Nat.le_refl _) (.cells #[.slice none 0 0, .int .u32 4294967295, .int .u32 0, .bool false] 86)
  generalize w.alloc (.cells #[.slice none 0 0, .int .u32 4294967295, .int .u32 0, .bool false] 86) = w0 at *
  have PP := Lib.hid P0
  have BB := Lib.hid B0
  clear P0 B0 x0
  go_loopw [21] (fun iv wr => ∃ j : Nat, iv = .int .i64 j ∧ j ≤ 4 ∧ Pts wr w.heap.size #[.slice none 0 0, .int .u32 4294967295, .int .u32 (beN bs j), .bool false] 86 ∧ w.heap.size < wr.heap.size ∧ Below w.heap.size w wr) (fun iv _ => 4 - (intOf iv).toNat)
  case atStart => exact ⟨0, rfl, by omega, PP.out, PP.out.lt, BB.out⟩
  case round =>
    obtain ⟨j, rfl, hj, hp, hsz, hb⟩ := hrel
    clear PP BB
    by_cases hj4 : j < 4
    · have x1 : wr.cell? ⟨ab, off + 1 + j, none⟩ = some (.int .u8 ((bs.getD (j + 1) 0).toNat : Int)) := by
        rw [hb.cell (p := ⟨ab, off + 1 + j, none⟩) hab, show off + 1 + j = off + (j + 1) by omega]; exact HC.out (j + 1) (by omega)
      have y1 := (bs.getD (j + 1) 0).toNat_lt
      have hl := beN_lt bs j
      have hl3 : beN bs j < 256 ^ 3 := Nat.lt_of_lt_of_le hl (Nat.pow_le_pow_right (by omega) (by omega))
      have hst : beN bs (j + 1) = beN bs j * 256 + (bs.getD (j + 1) 0).toNat := rfl
      generalize (bs.getD (j + 1) 0).toNat = xn at *
      have d2 : wr.cell? ⟨w.heap.size, 2, none⟩ = some (.int .u32 (beN bs j)) := by rw [hp.cell]; rfl
      have g2 := hp.frozen 2
      have o1 : bits .or .u32 ((beN bs j * 256 : Nat) : Int) (xn : Int) = ((beN bs (j + 1) : Nat) : Int) := by
        rw [or_at (x := beN bs j * 256) (y := xn) 8 (by omega) (by omega) (by omega), hst]
      have hwx : IntKind.u32.wrap (xn : Int) = (xn : Int) := by rw [Go.IntWalk.u32_in _ (by omega)]
      have hwz : IntKind.u32.wrap ((beN bs j : Int) * 256) = ((beN bs j * 256 : Nat) : Int) := by rw [Go.IntWalk.u32_in _ (by omega)]; omega
      obtain ⟨z, hz⟩ : ∃ z, beN bs j * 256 = z := ⟨_, rfl⟩
      rw [hz] at o1 hwz
      have HP := Lib.hid hp
      have HB := Lib.hid hb
      clear hl hl3 hst hz hp hb y1
      generalize beN bs j = m at *
      obtain ⟨m2, hm2⟩ : ∃ m2, beN bs (j + 1) = m2 := ⟨_, rfl⟩
      rw [hm2] at o1
      have HM2 := Lib.hid hm2
      clear hm2
      go_wp2
      exact ⟨⟨j + 1, by go_num, by omega, by rw [HM2.out]; exact HP.out.set 2 _, Nat.lt_of_lt_of_le hsz ((Frm.refl (fun _ => True) wr).setCell (p := ⟨w.heap.size, 2, none⟩) trivial _).size, HB.out.setCell (p := ⟨w.heap.size, 2, none⟩) (Nat.le_refl _) _⟩, by simp [intOf]; omega⟩
    · obtain rfl : j = 4 := by omega
      have HP := Lib.hid hp
      have HB := Lib.hid hb
      have d0 : wr.cell? ⟨w.heap.size, 0, none⟩ = some (.slice none 0 0) := by rw [hp.cell]; rfl
      have f0 := hp.frozen 0
      clear hp hb
      go_wp2
      have hsf : ∀ w, (Instr.sliceAt 22 (.slice (some ⟨ab, off, none⟩) bs.length c) (some (.int .i64 5)) none none).run Tryd.prog w = .ok (.slice (if c = 5 then some (⟨ab, off, none⟩ : Addr) else (some (⟨ab, off, none⟩ : Addr)).map (·.add 5)) (bs.length - 5) (c - 5)) w := fun w => slice_fromR (some ⟨ab, off, none⟩) bs.length c 5 h5 hc w
      have hrow := ((HR.out.drop (k := 5) (cap := c) hc).below HB.out)
      have hnl : bs.length - 5 = (bs.drop 5).length := List.length_drop.symm
      have hfit := Lib.hid (newDec_fits bs)
      have hnd : newDec bs = ⟨bs.drop 5, 4294967295, beN bs 4, false⟩ := by rw [beN_4]; rfl
      rw [hnd] at hfit
      have HND := Lib.hid hnd
      generalize (if c = 5 then some (⟨ab, off, none⟩ : Addr) else (some (⟨ab, off, none⟩ : Addr)).map (·.add 5)) = Ad at *
      obtain ⟨nw, hnw⟩ : ∃ nw, bs.drop 5 = nw := ⟨_, rfl⟩
      rw [hnw] at hrow hnl hfit HND
      have ROW := Lib.hid hrow
      have NL := Lib.hid hnl
      have hll : ([] : List UInt8).length + nw.length ≤ 140737488355328 := by rw [← hnl]; simp; omega
      have hbase : w.heap.size ≤ wr.heap.size := by omega
      clear hrow hnl hnd hnw
      go_region_law (refine stepR_append_bytes _ rfl (.tmp 41) (.tmp 43) 22 rfl 5 w.heap.size Tryd.underlying22 Tryd.info_u8 (.slice none 0 0) [] rfl (OwnB.nil _ _ _) Ad (bs.length - 5) (c - 5) w.heap.size nw rfl NL.out (ROW.out.drewN 1) hll hbase ?_; intro v1 w1 hown1 hfrm1 hnew1; rw [List.nil_append] at hown1; obtain ⟨A1, c1, rfl, hc1, hm1, hr1⟩ := hown1.slice; have hp1 := HP.out.drew.frm hfrm1 (fun e => by cases e); have z1 := hp1.frozen 0; have z0 : w1.cell? ⟨w.heap.size, 0, none⟩ = some (.slice none 0 0) := (hp1.cell 0).trans rfl)
      all_goals
        have P4 := Lib.hid (hp1.set 0 (.slice A1 nw.length c1))
        have hbo : BOff (· ≠ wr.heap.size) A1 nw := by
          intro h0 ad e hk
          rcases hnew1 with h9 | h9
          · rw [e] at h9; cases h9
          · rw [e] at h9; injection h9 with h9; exact hk h9
        have F4 := (Frm.refl (· = w.heap.size) w1).setCell (p := ⟨w.heap.size, 0, none⟩) (by rfl) (.slice A1 nw.length c1)
        have R4 := Lib.hid ((hr1.off (hbo.of_ne (by omega)) F4).more F4.size)
        have HBO := Lib.hid hbo
        have B4 := Lib.hid (((HB.out.drew.trans (hfrm1.below HB.out.drew.size (fun k hk => by cases hk))).setCell (p := ⟨w.heap.size, 0, none⟩) (Nat.le_refl _) (.slice A1 nw.length c1)))
        clear hr1 hp1 hown1 hfrm1 hnew1 z0 z1 hbo F4
        go_wp2
        go_ret2
        rw [HND.out]
        exact ⟨w.heap.size, wr.heap.size, rfl, ⟨⟨A1, c1, P4.out, R4.out, HBO.out, hc1, hm1⟩, hfit.out, by omega⟩, Nat.le_refl _, hbase, B4.out⟩
end Go.Proofs.YtffehfpbdcokbaaDoor

/- Chunks, in plain Lean: an operation, all operations, the end. -/
namespace Go.Proofs.YtffehfpbdcokbaaDoor
open Go.RowKit Rng Lz Win
set_option linter.unusedVariables false
set_option linter.unusedSimpArgs false
/-- What is known behind some operations: the state, the distances, coder and chances, the window's content. -/
structure RS where
  st : Nat
  rep : Nat → Nat
  s : CP Dec
  C : List UInt8
structure RS.Ok (x : RS) : Prop where
  st : x.st < 12
  rep : ∀ j, x.rep j < 4294967296
/-- An operation: what it tells, what is then; none: it is none. -/
def stepOf (k : LK) (S total room : Nat) (x : RS) : Option (List UInt8 × RS) :=
  let a := bitAt outC (8 + x.st * 16 + total % 2 ^ k.pb) 0 x.s
  if a.1 = 0 then
    let l := litOf outC k x.st total x.rep x.C a.2
    some ([UInt8.ofNat l.1], ⟨behS x.st 0, x.rep, l.2, lastN S (x.C ++ [UInt8.ofNat l.1])⟩)
  else
    let o := opOf outC x.st (total % 2 ^ k.pb) x.rep a.2
    if o.1 ≤ room ∧ o.2.2.1 0 + 1 ≤ x.C.length then some (cyc x.C (o.2.2.1 0 + 1) o.1, ⟨o.2.1, o.2.2.1, o.2.2.2, lastN S (x.C ++ cyc x.C (o.2.2.1 0 + 1) o.1)⟩)
    else none
/-- Operations until n bytes are told. -/
def chunkGo (k : LK) (S total n : Nat) : Nat → List UInt8 → RS → Option (List UInt8 × RS)
  | 0, _, _ => none
  | f + 1, told, x =>
    if n ≤ told.length then some (told, x)
    else match stepOf k S (total + told.length) (n - told.length) x with
      | none => none
      | some (b, y) => chunkGo k S total n f (told ++ b) y
/-- The place as it counts. -/
def totOf (total : Nat) : Nat := if 1099511627776 < total then 1099511627776 + total % 16 else total
theorem totOf_lt (total : Nat) : totOf total < 1099511627792 := by unfold totOf; split <;> omega
/-- A chunk: what it tells, what is then. -/
def chunkOf (k : LK) (S total n st : Nat) (rep : Nat → Nat) (pr : Pr) (C bs : List UInt8) : Option (List UInt8 × RS) :=
  if newErr bs ≠ 0 then none
  else match chunkGo k S (totOf total) n (n + 1) [] ⟨st, rep, ⟨newDec bs, pr⟩, C⟩ with
    | none => none
    | some (told, y) => if y.s.d.fin = (0, 0) then some (told, y) else none
theorem distAt_lt {σ : Type} (co : Cod σ) (d size : Nat) (s : CP σ) : (distAt co d size s).1 < 4294967296 := by
  unfold distAt
  simp only
  split
  · rename_i h; simp only; omega
  · split
    · rename_i h1 h2
      generalize treeAt co (440 + (min size 5 - 2) * 64) 6 (slotOf d) s = t at *
      have hu := backAt_lt co (696 + (2 + t.1 % 2) * 2 ^ (t.1 / 2 - 1) - t.1) (t.1 / 2 - 1) (d - (2 + t.1 % 2) * 2 ^ (t.1 / 2 - 1)) t.2
      have hk : 2 ^ (t.1 / 2 - 1) ≤ 2 ^ 5 := Nat.pow_le_pow_right (by omega) (by omega)
      have hm : (2 + t.1 % 2) * 2 ^ (t.1 / 2 - 1) ≤ 3 * 2 ^ (t.1 / 2 - 1) := Nat.mul_le_mul_right _ (by omega)
      simp only
      omega
    · simp only; omega
theorem takeS_lt {rep : Nat → Nat} (h : ∀ j, rep j < 4294967296) (n : Nat) : ∀ j, takeS rep n j < 4294967296 := by
  intro j
  unfold takeS
  repeat' split
  all_goals first | exact h _ | (unfold shiftN; split <;> exact h _)
theorem shiftN_lt {rep : Nat → Nat} (h : ∀ j, rep j < 4294967296) (n : Nat) : ∀ j, shiftN rep n j < 4294967296 := by
  intro j
  unfold shiftN
  split <;> exact h _
theorem repOf_inv {σ : Type} (co : Cod σ) {st : Nat} (p : Nat) {rep : Nat → Nat} (s : CP σ) (hst : st < 12) (h : ∀ j, rep j < 4294967296) :
    1 ≤ (repOf co st p rep s).1 ∧ (repOf co st p rep s).1 ≤ 300 ∧ (repOf co st p rep s).2.1 < 12 ∧ ∀ j, (repOf co st p rep s).2.2.1 j < 4294967296 := by
  unfold repOf
  simp only
  split
  · split
    · exact ⟨by simp, by simp, show behS st 3 < 12 from behS_lt hst, h⟩
    · have hl := lenAt_lt co 1354 2 p (bitAt co (248 + st * 16 + p) 0 (bitAt co (212 + st) 0 s).2).2
      exact ⟨by simp only; omega, hl.2, show behS st 2 < 12 from behS_lt hst, h⟩
  · split
    · exact ⟨Nat.le_trans (by decide) (lenAt_lt co 1354 2 p _).1, (lenAt_lt co 1354 2 p _).2, show behS st 2 < 12 from behS_lt hst, takeS_lt h _⟩
    · exact ⟨Nat.le_trans (by decide) (lenAt_lt co 1354 2 p _).1, (lenAt_lt co 1354 2 p _).2, show behS st 2 < 12 from behS_lt hst, takeS_lt h _⟩
theorem opOf_inv {σ : Type} (co : Cod σ) {st : Nat} (p : Nat) {rep : Nat → Nat} (s : CP σ) (hst : st < 12) (h : ∀ j, rep j < 4294967296) :
    1 ≤ (opOf co st p rep s).1 ∧ (opOf co st p rep s).1 ≤ 300 ∧ (opOf co st p rep s).2.1 < 12 ∧ ∀ j, (opOf co st p rep s).2.2.1 j < 4294967296 := by
  unfold opOf
  simp only
  split
  · exact repOf_inv co p _ hst h
  · refine ⟨Nat.le_trans (by decide) (lenAt_lt co 840 2 p _).1, (lenAt_lt co 840 2 p _).2, show behS st 1 < 12 from behS_lt hst, fun j => ?_⟩
    simp only
    split
    · exact distAt_lt co 0 _ _
    · exact shiftN_lt h 3 j
theorem stepOf_inv {k : LK} {S total room : Nat} {x y : RS} {b : List UInt8} (hx : x.Ok) (hr : 1 ≤ room) (h : stepOf k S total room x = some (b, y)) : y.Ok ∧ 1 ≤ b.length ∧ b.length ≤ room := by
  unfold stepOf at h
  simp only at h
  split at h
  · injection h with h
    injection h with h1 h2
    subst h1; subst h2
    exact ⟨⟨show behS x.st 0 < 12 from behS_lt hx.st, hx.rep⟩, by simp, by simpa using hr⟩
  · split at h
    · rename_i hg
      injection h with h
      injection h with h1 h2
      subst h1; subst h2
      have hi := opOf_inv outC (total % 2 ^ k.pb) (rep := x.rep) (bitAt outC (8 + x.st * 16 + total % 2 ^ k.pb) 0 x.s).2 hx.st hx.rep
      rw [cyc_length]
      exact ⟨⟨hi.2.2.1, hi.2.2.2⟩, hi.1, hg.1⟩
    · cases h
theorem chunkGo_inv {k : LK} {S total n : Nat} : ∀ (f : Nat) {told t' : List UInt8} {x y : RS}, x.Ok → told.length ≤ n → chunkGo k S total n f told x = some (t', y) → y.Ok ∧ t'.length = n ∧ ∃ b, t' = told ++ b
  | 0, _, _, _, _, _, _, h => by cases h
  | f + 1, told, t', x, y, hx, hl, h => by
    unfold chunkGo at h
    split at h
    · injection h with h
      injection h with h1 h2
      subst h1; subst h2
      exact ⟨hx, by omega, [], by simp⟩
    · cases hs : stepOf k S (total + told.length) (n - told.length) x with
      | none => rw [hs] at h; cases h
      | some p =>
        obtain ⟨b, z⟩ := p
        rw [hs] at h
        simp only at h
        have hi := stepOf_inv hx (by omega) hs
        have hr := chunkGo_inv f hi.1 (by rw [List.length_append]; omega) h
        obtain ⟨h1, h2, b2, h3⟩ := hr
        exact ⟨h1, h2, b ++ b2, by rw [h3, List.append_assoc]⟩
end Go.Proofs.YtffehfpbdcokbaaDoor
