/- The walk of SumsLinear. -/
import Derived.Test.YtmijkndokcibpaaSumsO
import Derived.Deep.OwnRows
import Derived.Deep.RegionHeld3
namespace Go.Proofs.Ytmijkndokcibpaa
open Go.RowKit

def x3 (a b d : List UInt8) (i : Nat) : UInt8 := a.getD i 0 ^^^ b.getD i 0 ^^^ d.getD i 0
theorem LitAt.of_pts {w : World} {b : Nat} {bs : List UInt8} {T : TypeId} (h : Pts w b (bs.map byteV).toArray T) : LitAt w b bs := ⟨T, _, h⟩
/-- The row of which the first k bytes are the three rows' together. -/
def dl (a b d : List UInt8) (n k : Nat) : List UInt8 := (List.range n).map fun i => if i < k then x3 a b d i else 0
theorem dl_length (a b d : List UInt8) (n k : Nat) : (dl a b d n k).length = n := by simp [dl]
theorem dl_zero (a b d : List UInt8) (n : Nat) : ((dl a b d n 0).map byteV).toArray = madeCells #[.int .u8 0] n := by
  apply Array.ext
  · simp [dl, madeCells]
  · intro i h1 h2; simp [dl, madeCells, byteV, Nat.mod_one]
theorem dl_succ (a b d : List UInt8) (n k : Nat) (_hk : k < n) : ((dl a b d n (k + 1)).map byteV).toArray = ((dl a b d n k).map byteV).toArray.setIfInBounds k (byteV (x3 a b d k)) := by
  apply Array.ext_getElem?
  intro i
  rw [Array.getElem?_setIfInBounds]
  by_cases hi : i < n
  · by_cases hik : k = i
    · subst hik; simp [dl, hi]
    · have h1 : (i < k + 1) = (i < k) := by apply propext; omega
      simp [dl, hi, hik, h1]
  · by_cases hik : k = i
    · omega
    · simp [dl, hi, hik]
theorem dl_get (a b d : List UInt8) (n i : Nat) (hi : i < n) : (dl a b d n n).getD i 0 = (a.take n).getD i 0 ^^^ (b.take n).getD i 0 ^^^ (d.take n).getD i 0 := by
  simp [dl, hi, x3, List.getD, List.getElem?_take]
theorem lin32 (a b d : List UInt8) (n : Nat) (ha : n ≤ a.length) (hb : n ≤ b.length) (hd : n ≤ d.length) : crc32 (a.take n) ^^^ crc32 (b.take n) ^^^ crc32 (d.take n) = crc32 (dl a b d n n) := by
  have h := Crc.add_xor3 P32 (a.take n) (b.take n) (d.take n) (dl a b d n n) (Num.M32 - 1) (Num.M32 - 1) (Num.M32 - 1) (Num.M32 - 1) (by rw [dl_length, List.length_take]; omega) (by rw [dl_length, List.length_take]; omega) (by rw [dl_length, List.length_take]; omega)
    (fun i hi => dl_get a b d n i (by rw [dl_length] at hi; exact hi)) (by decide)
  unfold crc32
  rw [← h]
  generalize Crc.add P32 (Num.M32 - 1) (a.take n) = x
  generalize Crc.add P32 (Num.M32 - 1) (b.take n) = y
  generalize Crc.add P32 (Num.M32 - 1) (d.take n) = z
  generalize Num.M32 - 1 = m
  apply Nat.eq_of_testBit_eq
  intro i
  simp only [Nat.testBit_xor]
  cases x.testBit i <;> cases y.testBit i <;> cases z.testBit i <;> cases m.testBit i <;> rfl
theorem lin64 (a b d : List UInt8) (n : Nat) (ha : n ≤ a.length) (hb : n ≤ b.length) (hd : n ≤ d.length) : crc64 (a.take n) ^^^ crc64 (b.take n) ^^^ crc64 (d.take n) = crc64 (dl a b d n n) := by
  have h := Crc.add_xor3 P64 (a.take n) (b.take n) (d.take n) (dl a b d n n) (Num.M64 - 1) (Num.M64 - 1) (Num.M64 - 1) (Num.M64 - 1) (by rw [dl_length, List.length_take]; omega) (by rw [dl_length, List.length_take]; omega) (by rw [dl_length, List.length_take]; omega)
    (fun i hi => dl_get a b d n i (by rw [dl_length] at hi; exact hi)) (by decide)
  unfold crc64
  rw [← h]
  generalize Crc.add P64 (Num.M64 - 1) (a.take n) = x
  generalize Crc.add P64 (Num.M64 - 1) (b.take n) = y
  generalize Crc.add P64 (Num.M64 - 1) (d.take n) = z
  generalize Num.M64 - 1 = m
  apply Nat.eq_of_testBit_eq
  intro i
  simp only [Nat.testBit_xor]
  cases x.testBit i <;> cases y.testBit i <;> cases z.testBit i <;> cases m.testBit i <;> rfl
theorem min3_run {P : Program} (ts : Array TypeId) (t : TypeId) (x y z n : Nat) (h : min x (min y z) = n) (w : World) : (Builtin.min_ ts t #[.int .i64 (x : Int), .int .i64 (y : Int), .int .i64 (z : Int)]).run P w = .ok (.int .i64 (n : Int)) w := by
  have e : (if (z : Int) < (if (y : Int) < (x : Int) then (y : Int) else (x : Int)) then (z : Int) else (if (y : Int) < (x : Int) then (y : Int) else (x : Int))) = (n : Int) := by split <;> split <;> omega
  rw [← e]
  simp [Builtin.min_, Builtin.min2]

set_option maxHeartbeats 4000000 in
theorem lawLinear02 (A : Option Addr) (na ca : Nat) (fa : Nat → Int) (B : Option Addr) (nb cb : Nat) (fb : Nat → Int) (D : Option Addr) (nd cd : Nat) (fd : Nat → Int) (w : World)
    (a1 : na ≤ ca) (a2 : ca ≤ maxLen) (a3 : Opn.RowAt w w.heap.size A na fun i => .int .u8 (fa i)) (a4 : ∀ i, i < na → 0 ≤ fa i ∧ fa i ≤ 255)
    (b1 : nb ≤ cb) (b2 : cb ≤ maxLen) (b3 : Opn.RowAt w w.heap.size B nb fun i => .int .u8 (fb i)) (b4 : ∀ i, i < nb → 0 ≤ fb i ∧ fb i ≤ 255)
    (d1 : nd ≤ cd) (d2 : cd ≤ maxLen) (d3 : Opn.RowAt w w.heap.size D nd fun i => .int .u8 (fd i)) (d4 : ∀ i, i < nd → 0 ≤ fd i ∧ fd i ≤ 255) :
    Calls Try.prog 6 #[.slice A na ca, .slice B nb cb, .slice D nd cd] w fun e w' => e = .returned (.bool true) ∧ Below w.heap.size w w' := by
  obtain ⟨xa, rfl, hra⟩ := BRow.of_row a3 a4
  obtain ⟨xb, rfl, hrb⟩ := BRow.of_row b3 b4
  obtain ⟨xd, rfl, hrd⟩ := BRow.of_row d3 d4
  unfold maxLen at a2 b2 d2
  have RA := Lib.hid hra
  have RB := Lib.hid hrb
  have RD := Lib.hid hrd
  clear a3 a4 b3 b4 d3 d4 hra hrb hrd
  obtain ⟨n, hn⟩ : ∃ n, min xa.length (min xb.length xd.length) = n := ⟨_, rfl⟩
  have hna : n ≤ xa.length := by omega
  have hnb : n ≤ xb.length := by omega
  have hnd : n ≤ xd.length := by omega
  have hmin := fun w => min3_run (P := Try.prog) #[3, 3, 3] 3 _ _ _ _ hn w
  clear hn
  by_cases hg : 16384 < n
  · go_enter Try.func6, Try.ntmps6
    go_wp2_with fail
    refine (wakes02 _).mono ?_; rintro e w1 ⟨rfl, h1⟩
    go_wp2
    go_ret
    exact ⟨rfl, h1⟩
  · have hmk := run_make_row' (P := Try.prog) 22 5 (.int .u8 0) 1 Try.underlying22 Try.info_u8 rfl .i64 .i64 n (by omega) (by omega)
    have hp0 : Pts (w.alloc (.cells (madeCells #[.int .u8 0] n) 5)) w.heap.size ((dl xa xb xd n 0).map byteV).toArray 5 := by rw [dl_zero]; exact Pts.new _ _ _
    have hb0 := (Below.refl w.heap.size w).alloc (Nat.le_refl _) (.cells (madeCells #[.int .u8 0] n) 5)
    have HP0 := Lib.hid hp0
    have HB0 := Lib.hid hb0
    clear hp0 hb0
    go_enter Try.func6, Try.ntmps6
    go_wp2_with fail
    clear hmk hmin
    generalize w.alloc _ = w0 at *
    go_loopw [9] (fun iv wr => ∃ k : Nat, k ≤ n ∧ iv = .int .i64 k ∧ Pts wr w.heap.size ((dl xa xb xd n k).map byteV).toArray 5 ∧ Below w.heap.size w wr) (fun iv _ => n - (intOf iv).toNat)
    case atStart => exact ⟨0, by omega, rfl, HP0.out, HB0.out⟩
    case round =>
      obtain ⟨k, hk, rfl, hp, hb⟩ := hrel
      have HP := Lib.hid hp
      have HB := Lib.hid hb
      clear hp hb
      by_cases hkn : k < n
      · obtain ⟨pa, oa, hA, hpa, hca⟩ := (RA.out.below HB.out) (by omega)
        obtain ⟨pb, ob, hB, hpb, hcb⟩ := (RB.out.below HB.out) (by omega)
        obtain ⟨pd, od, hD, hpd, hcd⟩ := (RD.out.below HB.out) (by omega)
        subst hA; subst hB; subst hD
        have ka := hca k (by omega)
        have kb := hcb k (by omega)
        have kd := hcd k (by omega)
        unfold byteV at ka kb kd
        have fz := HP.out.frozen k
        have kg : wr.cell? ⟨w.heap.size, k, none⟩ = some (byteV ((dl xa xb xd n k).getD k 0)) := by rw [HP.out.cell]; simp [List.getD, dl_length, hkn]
        have e1 := Num.xor8 (xa.getD k 0).toNat_lt (xb.getD k 0).toNat_lt
        rw [← UInt8.toNat_xor] at e1
        have e2 := Num.xor8 (xa.getD k 0 ^^^ xb.getD k 0).toNat_lt (xd.getD k 0).toNat_lt
        rw [← UInt8.toNat_xor, show xa.getD k 0 ^^^ xb.getD k 0 ^^^ xd.getD k 0 = x3 xa xb xd k from rfl] at e2
        have HS := Lib.hid (dl_succ xa xb xd n k hkn)
        rw [show byteV (x3 xa xb xd k) = .int .u8 ((x3 xa xb xd k).toNat : Int) from rfl] at HS
        clear hca hcb hcd
        generalize x3 xa xb xd k = z at *
        generalize xa.getD k 0 ^^^ xb.getD k 0 = y at *
        have E1 := Lib.hid e1
        have E2 := Lib.hid e2
        clear e1 e2
        go_wp2
        refine QTail.wp_region_qtail_lit 17 (by kernel_rfl) (by kernel_rfl) ?_
        simp only [List.take_succ_cons, List.take_zero, List.drop_succ_cons, List.drop_zero]
        repeat (go_big_quiet_step (fail))
        refine wpQuiet_nil ?_
        rintro w' ⟨nq, rfl⟩
        go_wp2
        have e3 : bits .xor .u8 (bits .xor .u8 ((xa[k]?.getD 0).toNat : Int) ((xb[k]?.getD 0).toNat : Int)) ((xd[k]?.getD 0).toNat : Int) = (z.toNat : Int) := by
          have e1 := E1.out
          have e2 := E2.out
          rw [List.getD_eq_getElem?_getD] at e1 e2
          rw [List.getD_eq_getElem?_getD] at e1
          rw [e1, e2]
        rw [e3]
        refine ⟨⟨k + 1, by omega, by simp, ?_, (below_drewN HB.out nq).setCell (Nat.le_refl _) _⟩, by simp [intOf]; omega⟩
        rw [HS.out]
        exact (HP.out.drewN nq).set k _
      · have hkk : k = n := by omega
        subst hkk
        have D0 := LitAt.of_pts HP.out
        have wa : ∀ w', Below wr.heap.size wr w' → BRow w' w'.heap.size A (xa.take k) := fun w' h => (((RA.out.below HB.out).more HB.out.size).below h |>.more h.size).take k
        have wb : ∀ w', Below wr.heap.size wr w' → BRow w' w'.heap.size B (xb.take k) := fun w' h => (((RB.out.below HB.out).more HB.out.size).below h |>.more h.size).take k
        have wd : ∀ w', Below wr.heap.size wr w' → BRow w' w'.heap.size D (xd.take k) := fun w' h => (((RD.out.below HB.out).more HB.out.size).below h |>.more h.size).take k
        have wz : ∀ w', Below wr.heap.size wr w' → BRow w' w'.heap.size (some ⟨w.heap.size, 0, none⟩) (dl xa xb xd k k) := fun w' h => LitAt.row (D0.below h D0.lt)
        have ca1 := fun w' h => (crc32_any A (xa.take k) k ca w' (by simp; omega) (wa w' h) (by simp; omega)).mono fun e w'' h2 => (⟨h2.1, h.trans (h2.2.mono h.size)⟩ : e = _ ∧ Below wr.heap.size wr w'')
        have cb1 := fun w' h => (crc32_any B (xb.take k) k cb w' (by simp; omega) (wb w' h) (by simp; omega)).mono fun e w'' h2 => (⟨h2.1, h.trans (h2.2.mono h.size)⟩ : e = _ ∧ Below wr.heap.size wr w'')
        have cd1 := fun w' h => (crc32_any D (xd.take k) k cd w' (by simp; omega) (wd w' h) (by simp; omega)).mono fun e w'' h2 => (⟨h2.1, h.trans (h2.2.mono h.size)⟩ : e = _ ∧ Below wr.heap.size wr w'')
        have cz1 := fun w' h => (crc32_any (some ⟨w.heap.size, 0, none⟩) (dl xa xb xd k k) k k w' (by rw [dl_length]) (wz w' h) (by rw [dl_length]; omega)).mono fun e w'' h2 => (⟨h2.1, h.trans (h2.2.mono h.size)⟩ : e = _ ∧ Below wr.heap.size wr w'')
        have ca2 := fun w' h => (crc64_any A (xa.take k) k ca w' (by simp; omega) (wa w' h) (by simp; omega)).mono fun e w'' h2 => (⟨h2.1, h.trans (h2.2.mono h.size)⟩ : e = _ ∧ Below wr.heap.size wr w'')
        have cb2 := fun w' h => (crc64_any B (xb.take k) k cb w' (by simp; omega) (wb w' h) (by simp; omega)).mono fun e w'' h2 => (⟨h2.1, h.trans (h2.2.mono h.size)⟩ : e = _ ∧ Below wr.heap.size wr w'')
        have cd2 := fun w' h => (crc64_any D (xd.take k) k cd w' (by simp; omega) (wd w' h) (by simp; omega)).mono fun e w'' h2 => (⟨h2.1, h.trans (h2.2.mono h.size)⟩ : e = _ ∧ Below wr.heap.size wr w'')
        have cz2 := fun w' h => (crc64_any (some ⟨w.heap.size, 0, none⟩) (dl xa xb xd k k) k k w' (by rw [dl_length]) (wz w' h) (by rw [dl_length]; omega)).mono fun e w'' h2 => (⟨h2.1, h.trans (h2.2.mono h.size)⟩ : e = _ ∧ Below wr.heap.size wr w'')
        have wk := fun w' (h : Below wr.heap.size wr w') => (wakes02 w').mono fun e w'' h2 => (⟨h2.1, h.trans (h2.2.mono h.size)⟩ : e = _ ∧ Below wr.heap.size wr w'')
        have f1 := Num.xor32 (c32_lt32 (xa.take k)) (c32_lt32 (xb.take k))
        have f2 := Num.xor32 (Num.xor_lt32 (c32_lt32 (xa.take k)) (c32_lt32 (xb.take k))) (c32_lt32 (xd.take k))
        rw [lin32 xa xb xd k hna hnb hnd] at f2
        have f3 := Num.xor64 (c64_lt64 (xa.take k)) (c64_lt64 (xb.take k))
        have f4 := Num.xor64 (Num.xor_lt64 (c64_lt64 (xa.take k)) (c64_lt64 (xb.take k))) (c64_lt64 (xd.take k))
        rw [lin64 xa xb xd k hna hnb hnd] at f4
        clear wa wb wd wz D0
        generalize crc32 (xa.take k) ^^^ crc32 (xb.take k) = q32 at *
        generalize crc64 (xa.take k) ^^^ crc64 (xb.take k) = q64 at *
        generalize crc32 (xa.take k) = a32 at *
        generalize crc32 (xb.take k) = b32 at *
        generalize crc32 (xd.take k) = d32 at *
        generalize crc32 (dl xa xb xd k k) = z32 at *
        generalize crc64 (xa.take k) = a64 at *
        generalize crc64 (xb.take k) = b64 at *
        generalize crc64 (xd.take k) = d64 at *
        generalize crc64 (dl xa xb xd k k) = z64 at *
        have g1 : (k : Int) ≤ ca := by omega
        have g2 : (k : Int) ≤ cb := by omega
        have g3 : (k : Int) ≤ cd := by omega
        have Ca1 := Lib.hid ca1
        have Cb1 := Lib.hid cb1
        have Cd1 := Lib.hid cd1
        have Cz1 := Lib.hid cz1
        have Ca2 := Lib.hid ca2
        have Cb2 := Lib.hid cb2
        have Cd2 := Lib.hid cd2
        have Cz2 := Lib.hid cz2
        have Wk := Lib.hid wk
        clear ca1 cb1 cd1 cz1 ca2 cb2 cd2 cz2 wk
        go_wp2
        go_region_held3 (fun w' => Below wr.heap.size wr w') (first | assumption | exact (Below.refl _ _).drew)
          (first
            | (refine (Ca1.out _ (by assumption)).mono ?_; rintro e w' ⟨rfl, hw'⟩)
            | (refine (Cb1.out _ (by assumption)).mono ?_; rintro e w' ⟨rfl, hw'⟩)
            | (refine (Cd1.out _ (by assumption)).mono ?_; rintro e w' ⟨rfl, hw'⟩)
            | (refine (Cz1.out _ (by assumption)).mono ?_; rintro e w' ⟨rfl, hw'⟩)
            | (refine (Ca2.out _ (by assumption)).mono ?_; rintro e w' ⟨rfl, hw'⟩)
            | (refine (Cb2.out _ (by assumption)).mono ?_; rintro e w' ⟨rfl, hw'⟩)
            | (refine (Cd2.out _ (by assumption)).mono ?_; rintro e w' ⟨rfl, hw'⟩)
            | (refine (Cz2.out _ (by assumption)).mono ?_; rintro e w' ⟨rfl, hw'⟩)
            | (refine (Wk.out _ (by assumption)).mono ?_; rintro e w' ⟨rfl, hw'⟩))
        go_wp2
        go_ret
        exact ⟨rfl, HB.out.trans (Below.mono (by assumption) HB.out.size)⟩
end Go.Proofs.Ytmijkndokcibpaa
