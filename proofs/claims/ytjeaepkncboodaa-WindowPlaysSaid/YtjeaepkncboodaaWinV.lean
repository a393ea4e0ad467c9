/- The walk of WindowPlays. -/
import Derived.Test.YtjeaepkncboodaaWinU
import Derived.Test.YtjeaepkncboodaaWinN
import Derived.Test.YtjeaepkncboodaaNum
import Derived.Deep.CutBlock
namespace Go.Proofs.Ytjeaepkncboodaa
open Go.RowKit Win
set_option linter.unusedVariables false
set_option linter.unusedSimpArgs false
theorem copyS_len {on : Bool} {S : Nat} {all out a' : List UInt8} {back n en : Int} (h : copyS on S all back n = (out, en, a')) : a'.length ≤ all.length + (if 0 < n ∧ n ≤ 16777216 then n.toNat else 0) ∧ out.length ≤ 16777216 := by
  unfold copyS at h
  by_cases h1 : on = false
  · rw [if_pos h1] at h; injection h with h2 h3; injection h3 with h3 h4; subst h4; subst h2; exact ⟨by omega, by simp⟩
  rw [if_neg h1] at h
  by_cases hn : n < 0 ∨ 16777216 < n
  · rw [if_pos hn] at h; injection h with h2 h3; injection h3 with h3 h4; subst h4; subst h2; exact ⟨by omega, by simp⟩
  rw [if_neg hn] at h
  by_cases hb : back < 1 ∨ (S : Int) < back ∨ (all.length : Int) < back
  · rw [if_pos hb] at h; injection h with h2 h3; injection h3 with h3 h4; subst h4; subst h2; exact ⟨by omega, by simp⟩
  rw [if_neg hb] at h
  injection h with h2 h3; injection h3 with h3 h4; subst h4; subst h2
  rw [List.length_append, cyc_length]
  refine ⟨?_, by omega⟩
  by_cases h0 : 0 < n
  · rw [if_pos ⟨h0, by omega⟩]; omega
  · rw [if_neg (by omega)]; omega
theorem putS_len (on : Bool) (all bs : List UInt8) : (putS on all bs).length ≤ all.length + bs.length := by
  unfold putS
  split
  · rw [List.length_append]; omega
  · omega
theorem not_byte (x : UInt8) : ∃ y : UInt8, bits .xor .u8 (if IntKind.u8.signed = true then -1 else IntKind.u8.max) (x.toNat : Int) = (y.toNat : Int) := by
  have hx := x.toNat_lt
  have h := Num.xor8 (a := 255) (b := x.toNat) (by omega) hx
  have hl := Num.xor_lt8 (a := 255) (b := x.toNat) (by omega) hx
  refine ⟨UInt8.ofNat (255 ^^^ x.toNat), ?_⟩
  rw [UInt8.toNat_ofNat']
  have e : (255 ^^^ x.toNat) % 2 ^ 8 = 255 ^^^ x.toNat := Nat.mod_eq_of_lt hl
  rw [e, ← h]
  rfl
theorem Duo.flipped {w0 w w' : World} {b k rb rk S n c base : Nat} {B : Int} {o1 o2 : Bool} {a1 a2 ms : List UInt8} {v rv : Value} {A : Option Addr} (h : Duo w0 w b k rb rk S B o1 a1 o2 a2 v rv) (hf : Frm (fun x => (Value.slice A n c).ownBlock = some x) w w')
    (ho : OwnB w' 5 base (.slice A n c) ms) (hbase : w0.heap.size ≤ base) (hlt : b < base ∧ k < base ∧ rb < base ∧ rk < base) (hv : ∀ q, (Value.slice A n c).ownBlock = some q → v.ownBlock ≠ some q) (hr : ∀ q, (Value.slice A n c).ownBlock = some q → rv.ownBlock ≠ some q) : Duo w0 w' b k rb rk S B o1 a1 o2 a2 v rv :=
  h.frm hf ⟨fun e => by have := (ho.lt e).1; omega, fun e => by have := (ho.lt e).1; omega, fun e => by have := (ho.lt e).1; omega, fun e => by have := (ho.lt e).1; omega⟩
    (fun q hq e => hv q e hq) (fun q hq e => hr q e hq) (fun q hq => by have := (ho.lt hq).1; omega)
theorem OwnB.addrF {w : World} {T base n c k : Nat} {A : Option Addr} {ms : List UInt8} (h : OwnB w T base (.slice A n c) ms) (hk : k < ms.length) : ∃ g, A = some ⟨g, 0, none⟩ ∧ base ≤ g ∧ w.cell? ⟨g, k, none⟩ = some (byteV (ms.getD k 0)) ∧ w.frozen? ⟨g, k, none⟩ = false := by
  rcases h.form with ⟨_, e2⟩ | ⟨g, cp, cur, e, hg, hp, _, _, _, hc⟩
  · rw [e2] at hk; exact absurd hk (by simp)
  · injection e with e1 e2 e3
    exact ⟨g, e1, hg, by rw [hp.cell]; exact hc k hk, hp.frozen k⟩
set_option maxRecDepth 100000 in
set_option maxHeartbeats 2000000 in
theorem lawPlays06 (size budget : Int) (A : Option Addr) (l : List WAct) (ln c : Nat) (w : World) (_is : -9223372036854775808 ≤ size ∧ size ≤ 9223372036854775807) (_ib : -9223372036854775808 ≤ budget ∧ budget ≤ 9223372036854775807)
    (hln : ln = l.length) (hc : l.length ≤ c) (hcm : c ≤ maxLen) (hr : ActRow w w.heap.size A l) (hf : ∀ s ∈ l, s.Fits w w.heap.size ∧ s.bs.length ≤ 140737488355328) :
    Calls Try.prog 5 #[.int .i64 size, .int .i64 budget, .slice A ln c] w fun e w' => e = .returned (.bool true) ∧ Below w.heap.size w w' := by
  subst hln
  have HR := Lib.hid hr
  have HF := Lib.hid hf
  have hbd := bud_bd budget
  clear hr hf
  go_enter Try.func5, Try.ntmps5
  go_wp2_with fail
  refine (great_any A l l.length c w.heap.size w rfl HR.out HF.out hc hcm).mono ?_; rintro e w1 ⟨⟨g, rfl, hg⟩, rfl⟩
  cases g
  · obtain ⟨hL, hM⟩ := hg rfl
    clear hg
    go_wp2_with fail
    refine (new_led budget _).mono ?_; rintro e w1 ⟨rfl, hL1, b1⟩
    have L1 := Lib.hid hL1
    have B1 := Lib.hid b1
    clear hL1 b1
    go_wp2_with fail
    refine (rnew_led budget _).mono ?_; rintro e w2 ⟨rfl, hL2, b2⟩
    have L2 := Lib.hid hL2
    have L1' := Lib.hid (Pts.below L1.out b2 (Pts.lt L1.out))
    have B2 := Lib.hid (B1.out.trans (b2.mono B1.out.size))
    have hs1 := B1.out.size
    have hs2 := b2.size
    have hklt : w.heap.size < w1.heap.size := Pts.lt L1.out
    have hrklt : w1.heap.size < w2.heap.size := Pts.lt L2.out
    obtain ⟨B, hB⟩ : ∃ B, bud budget = B := ⟨_, rfl⟩
    rw [hB] at L1' L2 hbd
    obtain ⟨hb0, hb1⟩ := hbd
    clear hL2 b2 L1 B1 hB
    by_cases hs : size < 1 ∨ 16777216 < size
    · have HS := Lib.hid hs
      rcases hs with hs | hs
      all_goals
        go_wp2_with fail
        refine (new_size size _ _ HS.out).mono ?_; rintro e w3 ⟨rfl, rfl⟩
        go_wp2_with fail
        refine (rnew_size size _ _ HS.out).mono ?_; rintro e w3 ⟨rfl, rfl⟩
        go_wp2_with fail
        refine (held_led w.heap.size B 0 0 _ L1'.out).mono ?_; rintro e w3 ⟨rfl, d, rfl⟩
        go_wp2_with fail
        refine (wakes06 _).mono ?_; rintro e w4 ⟨rfl, h4⟩
        go_wp2
        go_ret
        exact ⟨rfl, (below_drewN B2.out d).trans (h4.mono (below_drewN B2.out d).size)⟩
    · obtain ⟨S, rfl⟩ : ∃ S : Nat, size = S := ⟨size.toNat, by omega⟩
      have hS1 : 1 ≤ S := by omega
      have hS2 : S ≤ 16777216 := by omega
      clear hs _is
      by_cases hfit : B - 0 < S
      · go_wp2_with fail
        refine (new_over w.heap.size S B 0 0 _ L1'.out ⟨hb0, hb1⟩ (by omega) (by omega) hS1 hS2 hfit).mono ?_; rintro e w3 ⟨rfl, hL3, hF3⟩
        have L3 := Lib.hid hL3
        have L2' := Lib.hid (Pts.frm L2.out hF3 (by omega))
        have B3 := Lib.hid (B2.out.trans (hF3.below B2.out.size (fun q hq => by omega)))
        clear hL3 hF3
        go_wp2_with fail
        refine (rnew_over w1.heap.size S B 0 0 _ L2'.out ⟨hb0, hb1⟩ (by omega) (by omega) hS1 hS2 hfit).mono ?_; rintro e w4 ⟨rfl, hF4⟩
        have L4 := Lib.hid (Pts.frm L3.out hF4 (by omega))
        have B4 := Lib.hid (B3.out.trans (hF4.below B3.out.size (fun q hq => by omega)))
        clear hF4
        go_wp2_with fail
        refine (held_led w.heap.size B 0 0 _ L4.out).mono ?_; rintro e w5 ⟨rfl, d, rfl⟩
        go_wp2_with fail
        refine (wakes06 _).mono ?_; rintro e w6 ⟨rfl, h6⟩
        go_wp2
        go_ret
        exact ⟨rfl, (below_drewN B4.out d).trans (h6.mono (below_drewN B4.out d).size)⟩
      · have hch := ch_ok (B := B) (n := 0) 0 (k := (S : Int)) (by omega) hfit
        obtain ⟨ch1, ch2, ch3⟩ := hch
        go_wp2_with fail
        refine (new_win w.heap.size S B 0 0 _ L1'.out ⟨hb0, hb1⟩ (by omega) (by omega) hS1 hS2 ch1).mono ?_; rintro e w3 ⟨b, rfl, hw3, hb3, hL3, hF3⟩
        rw [ch2, ch3, show (0 : Int) + S = S by omega, show max (0 : Int) S = S by omega] at hL3
        have L2' := Lib.hid (Pts.frm L2.out hF3 (by omega))
        have B3 := Lib.hid (B2.out.trans (hF3.below B2.out.size (fun q hq => by omega)))
        have W3 := Lib.hid hw3
        have L3 := Lib.hid hL3
        have hs3 := hF3.size
        clear hL3 hF3 hw3
        go_wp2_with fail
        refine (rnew_win w1.heap.size S B 0 0 _ L2'.out ⟨hb0, hb1⟩ (by omega) (by omega) hS1 hS2 ch1).mono ?_; rintro e w4 ⟨rb, rfl, hw4, hb4, hL4, hF4⟩
        rw [ch2, ch3, show (0 : Int) + S = S by omega, show max (0 : Int) S = S by omega] at hL4
        have hblt := W3.out.p.lt
        have hduo : Duo w w4 b w.heap.size rb w1.heap.size S B true [] true [] (.slice none 0 0) (.slice none 0 0) :=
          ⟨⟨fun _ => ⟨[], 0, ⟨W3.out.p.frm hF4 (by omega), OwnB.nil _ _ _, W3.out.n, W3.out.lt, W3.out.z⟩, by simp [content, lastN], Pts.frm L3.out hF4 (by omega)⟩, fun e => (by cases e)⟩, ⟨hw4.p, OwnB.nil _ _ _⟩, hL4, fun q hq => (by cases hq), ⟨by omega, Nat.le_refl _, by omega, by omega⟩,
            B3.out.trans (hF4.below B3.out.size (fun q hq => by omega)), ⟨hS1, hS2, by omega, hb1⟩⟩
        have DU := Lib.hid hduo
        clear hduo hw4 hL4 hF4 L3 W3 B3 L2' B2 L1' L2 ch1 ch2 ch3
        obtain ⟨rk, hrk⟩ : ∃ k, w1.heap.size = k := ⟨_, rfl⟩
        rw [hrk] at DU ⊢
        clear hb3 hb4 hs1 hs2 hs3 hklt hrklt hblt hrk hb0 hb1 hfit _ib
        go_wp2
        go_loopw [15] (fun iv wr => ∃ (i : Nat) (on : Bool) (all : List UInt8) (v rv : Value), iv = .int .i64 i ∧ i ≤ l.length ∧ all.length ≤ muchs (l.take i) ∧ Duo w wr b w.heap.size rb rk S B on all on all v rv) (fun iv _ => l.length - (intOf iv).toNat)
        case atStart => exact ⟨0, true, [], _, _, rfl, by omega, by simp, DU.out⟩
        case round =>
          obtain ⟨i, on, all, v, rv, rfl, hi, hall, hduo⟩ := hrel
          clear DU
          have DU := Lib.hid hduo
          clear hduo
          by_cases hlt : i < l.length
          · obtain ⟨b0, off, rfl, hb, hcell⟩ := HR.out (by omega)
            obtain ⟨c0, c1, c2, c3⟩ := hcell i hlt
            have hx : l.getD i default ∈ l := by rw [List.getD, List.getElem?_eq_getElem hlt]; exact List.getElem_mem hlt
            have hmu := muchs_take hlt
            have hmle := muchs_le l (i + 1)
            obtain ⟨hfitA, hlen⟩ := HF.out _ hx
            obtain ⟨⟨d, A1, bs, cap, back, n⟩, hxx⟩ : ∃ x, l.getD i default = x := ⟨_, rfl⟩
            rw [hxx] at c0 c1 c2 c3 hfitA hmu hlen
            obtain ⟨d1, d2⟩ := hfitA.d
            obtain ⟨d3, d4⟩ := hfitA.c
            obtain ⟨d5, d6⟩ := hfitA.n
            obtain ⟨d7, d8⟩ := hfitA.b
            have hrow : BRow w w.heap.size A1 bs := hfitA.r
            simp only at c0 c1 c2 c3 d1 d2 d3 d4 d5 d6 d7 d8 hlen
            simp only [WAct.much] at hmu
            have BE := DU.out.be
            have x0 := (BE.cell (p := ⟨b0, off + i * 4, none⟩) hb).trans c0
            have x1 := (BE.cell (p := ⟨b0, off + i * 4 + 1, none⟩) hb).trans c1
            have x2 := (BE.cell (p := ⟨b0, off + i * 4 + 2, none⟩) hb).trans c2
            have x3 := (BE.cell (p := ⟨b0, off + i * 4 + 3, none⟩) hb).trans c3
            have ROW := Lib.hid hrow
            have hbsz := BE.size
            have D4 := Lib.hid d4
            clear hcell hfitA hxx hx c0 c1 c2 c3 hrow BE d4
            go_upto_block 2 with fail
            obtain ⟨X, hX⟩ : ∃ X, Obj.cells #[.int .i64 d, .slice A1 bs.length cap, .int .i64 back, .int .i64 n] 33 = X := ⟨_, rfl⟩
            have bel : Below wr.heap.size wr (wr.alloc X) := ((Frm.refl (fun _ => False) wr).alloc X).below (Nat.le_refl _) (fun _ h => h.elim)
            have P0 : Pts (wr.alloc X) wr.heap.size #[.int .i64 d, .slice A1 bs.length cap, .int .i64 back, .int .i64 n] 33 := by subst hX; exact Pts.new wr _ _
            have hD0 := DU.out.later bel
            have hsz : (wr.alloc X).heap.size = wr.heap.size + 1 := by simp
            have hlts := DU.out.lts
            rw [hX]
            have hpx : ∀ {w9 : World} {a9 a8 : List UInt8} {v9 r9 : Value} {p1 p2 : Bool}, Duo w w9 b w.heap.size rb rk S B p1 a9 p2 a8 v9 r9 → True := fun _ => trivial
            obtain ⟨wa, hwa⟩ : ∃ wa, wr.alloc X = wa := ⟨_, rfl⟩
            rw [hwa] at hD0 P0 hsz ⊢
            obtain ⟨xb, hxb⟩ : ∃ xb, wr.heap.size = xb := ⟨_, rfl⟩
            rw [hxb] at P0 hsz hbsz hlts ⊢
            have D0 := Lib.hid hD0
            have P0 := Lib.hid P0
            have LT := Lib.hid hlts
            have HSZ := Lib.hid hsz
            clear bel hX hwa DU hD0 hpx x0 x1 x2 x3 hlts hxb hsz
            go_cut [16] from 77 to 215 (fun s16 wx => s16 = .pointer (some ⟨xb, 0, none⟩) ∧ ∃ (on' : Bool) (all' : List UInt8) (v' rv' : Value), Duo w wx b w.heap.size rb rk S B on' all' on' all' v' rv' ∧ all'.length ≤ muchs (l.take (i + 1)))
            case first =>
              have y0 := P0.out.cell 0
              have y1 := P0.out.cell 1
              have y2 := P0.out.cell 2
              have y3 := P0.out.cell 3
              obtain ⟨lt1, lt2, lt3, lt4, lt5, lt6⟩ := LT.out
              have LT5 := Lib.hid lt5
              have LT6 := Lib.hid lt6
              simp at y0 y1 y2 y3
              clear lt5 lt6
              by_cases hd0 : d = 0
              · subst hd0
                have z1 := (P0.out.alloc (.cells #[] 5)).cell 1
                simp only [List.getElem?_toArray, List.getElem?_cons_succ, List.getElem?_cons_zero] at z1
                go_wp2_with (at_builtin; refine wpList_append_bytes _ rfl (.tmp 85) (.tmp 87) 31 rfl 5 wa.heap.size Try.underlying31 Try.info_u8 (.slice (some ⟨wa.heap.size, 0, none⟩) 0 0) [] rfl ?own4 A1 bs.length cap w.heap.size bs rfl rfl ?row4 ?len4 ?base4 ?next4)
                case own4 => exact OwnB.made wa _ _ (Nat.le_refl _)
                case row4 => exact ROW.out.below (D0.out.be.trans ((Below.refl w.heap.size wa).alloc D0.out.be.size _))
                case len4 => simp; omega
                case base4 => simp
                case next4 =>
                  intro v4 w4 hown4 hfrm4 hnew4
                  have hb4 : Below wa.heap.size wa w4 := ((Below.refl wa.heap.size wa).alloc (Nat.le_refl _) _).trans (hfrm4.below (by simp) (fun q hq => by
                    have e : wa.heap.size = q := by injection hq
                    omega))
                  have D4' := Lib.hid (D0.out.later hb4)
                  have P4 := Lib.hid (P0.out.below hb4 P0.out.lt)
                  obtain ⟨Am, cm, rfl, hcm4, hmm4, hrm4⟩ := hown4.slice
                  have O4 := Lib.hid hown4
                  have R4 := Lib.hid hrm4
                  have M4 := Lib.hid hmm4
                  have hs4 := hb4.size
                  have hfr4 : ∀ q, (Value.slice Am bs.length cm).ownBlock = some q → wa.heap.size ≤ q := fun q hq => (hown4.lt hq).1
                  have FR4 := Lib.hid hfr4
                  have hoff : BOff (fun x => x = b ∨ v.ownBlock = some x) Am bs := by
                    intro h0 ad had
                    rcases hown4.form with ⟨e, e2⟩ | ⟨g, cp, cur, e, hg, _⟩
                    · rw [e2] at h0; exact absurd h0 (by simp)
                    · have hsz := HSZ.out
                      injection e with e1 e2 e3
                      rw [had] at e1
                      injection e1 with e1
                      subst e1
                      rintro (e | e)
                      · simp at e; omega
                      · have := (LT5.out _ e).2; simp at this; omega
                  have OF := Lib.hid hoff
                  clear hown4 hfrm4 hnew4 hb4 hrm4 hmm4 hfr4 hoff y0 y1 y2 y3
                  go_wp2_with fail
                  refine (put_duo w4 D4'.out Am bs bs.length cm w4.heap.size rfl R4.out (Nat.le_refl _) OF.out hcm4 M4.out (by omega)).mono ?_
                  rintro e w5 ⟨rfl, v5, hd5, hf5, hm5⟩
                  have D5 := Lib.hid hd5
                  have O5 := Lib.hid (O4.out.frm hf5 (fun q hq => by
                    have h9 := FR4.out q hq
                    have hsz := HSZ.out
                    rintro (e | e | e)
                    · omega
                    · have := D4'.out.lts.2.1; omega
                    · have := (LT5.out q e).2; omega))
                  have P5 := Lib.hid (P4.out.frm hf5 (by
                    rintro (e | e | e)
                    · omega
                    · omega
                    · have := (LT5.out _ e).2; omega))
                  have MV5 := Lib.hid hm5
                  have hs5 := hf5.size
                  clear hd5 hf5 hm5 D4'
                  go_wp2
                  go_loopw [18] (fun kv wz => ∃ (j : Nat) (ms : List UInt8), kv = .int .i64 j ∧ j ≤ bs.length ∧ ms.length = bs.length ∧ OwnB wz 5 wa.heap.size (.slice Am bs.length cm) ms ∧ Frm (fun x => (Value.slice Am bs.length cm).ownBlock = some x) w5 wz) (fun kv _ => bs.length - (intOf kv).toNat)
                  case atStart => exact ⟨0, bs, rfl, by omega, rfl, O5.out, Frm.refl _ _⟩
                  case round =>
                    obtain ⟨j, ms, rfl, hj, hml, hown, hfr⟩ := hrel
                    have OW := Lib.hid hown
                    have FZ := Lib.hid hfr
                    clear hown hfr
                    by_cases hjl : j < bs.length
                    · obtain ⟨g, rfl, hg, hcell, hfz⟩ := OW.out.addrF (k := j) (by omega)
                      obtain ⟨x, hx⟩ : ∃ x, ms.getD j 0 = x := ⟨_, rfl⟩
                      rw [hx] at hcell
                      unfold byteV at hcell
                      clear hx
                      obtain ⟨y, hy⟩ := not_byte x
                      have HY := Lib.hid hy
                      have O6 := Lib.hid (OW.out.set j (by omega) y)
                      have F6 := Lib.hid (FZ.out.setCell (p := ⟨g, j, none⟩) rfl (byteV y))
                      clear hy
                      go_wp2
                      rw [HY.out]
                      exact ⟨⟨j + 1, ms.set j y, by go_num, by omega, by rw [List.length_set]; exact hml, O6.out, F6.out⟩, by simp [intOf]; omega⟩
                    · obtain rfl : j = bs.length := by omega
                      have hD6 := D5.out.flipped FZ.out OW.out (by have := D0.out.be.size; omega) (by have := HSZ.out; omega) (fun q hq e => by
                        rcases MV5.out q e with h | h
                        · have h1 := FR4.out q hq
                          have h2 := (LT5.out q h).2
                          have := HSZ.out; omega
                        · have h1 := (O4.out.lt hq).2
                          omega) (fun q hq e => by have := FR4.out q hq; have := (LT6.out q e).2; have := HSZ.out; omega)
                      have D6 := Lib.hid hD6
                      have P6 := P5.out.frm FZ.out (fun e => by have := FR4.out _ e; have := HSZ.out; omega)
                      have z1 := P6.cell 1
                      simp only [List.getElem?_toArray, List.getElem?_cons_succ, List.getElem?_cons_zero] at z1
                      clear hD6 P6 D5 O5 OW FZ
                      go_wp2_with fail
                      refine (rput_duo _ D6.out A1 bs bs.length cap w.heap.size rfl (ROW.out.below D6.out.be) (by omega)).mono ?_
                      rintro e w7 ⟨rfl, rv7, hd7⟩
                      have D7 := Lib.hid hd7
                      clear hd7
                      go_wp2
                      go_meet
                      case rel => exact ⟨rfl, on, putS on all bs, v5, rv7, D7.out, by have := putS_len on all bs; omega⟩
              by_cases hd1 : d = 1
              · subst hd1
                obtain ⟨⟨out, en, a'⟩, hcs⟩ : ∃ x, copyS on S all back n = x := ⟨_, rfl⟩
                obtain ⟨cl1, cl2⟩ := copyS_len hcs
                have CS := Lib.hid hcs
                have hn' : n ≤ 300000 ∨ 16777216 < n := by
                  by_cases h : 0 < n ∧ n ≤ 16777216
                  · rw [if_pos h] at hmu; omega
                  · omega
                have HN' := Lib.hid hn'
                have CL := Lib.hid (show a'.length ≤ muchs (l.take (i + 1)) by omega)
                have AL := Lib.hid (show all.length ≤ 300000 by omega)
                clear hcs hn' cl1 hmu
                go_wp2_with fail
                refine (copy_duo back n out a' en wa D0.out CS.out).mono ?_
                rintro e w3 ⟨ov, v3, rfl, ho3, hne3, hd3, hf3⟩
                obtain ⟨A3, c3, rfl, -, -, -⟩ := ho3.slice
                have D3 := Lib.hid hd3
                have O3 := Lib.hid ho3
                have N3 := Lib.hid hne3
                have P3 := P0.out.frm hf3 (by
                  rintro (e | e | e)
                  · omega
                  · omega
                  · have := (LT5.out _ e).2; omega)
                have z2 := P3.cell 2
                have z3 := P3.cell 3
                have hs3 := hf3.size
                simp only [List.getElem?_toArray, List.getElem?_cons_succ, List.getElem?_cons_zero] at z2 z3
                clear hd3 ho3 hne3 hf3 P3 y0 y1 y2 y3
                go_wp2_with fail
                refine (rcopy_duo back n out a' en w3 D3.out CS.out AL.out HN'.out).mono ?_
                rintro e w4 ⟨A4, c4, rv4, rfl, hr4, hd4, hf4, hm4⟩
                have D4' := Lib.hid hd4
                have hrv : ∀ q, rv.ownBlock = some q → q < wa.heap.size := fun q hq => by have := (LT6.out q hq).2; have := HSZ.out; omega
                have ho4 := O3.out.frm hf4 (fun q hq => by
                  have h9 := (O3.out.lt hq).1
                  have hsz := HSZ.out
                  rintro (e | e | e)
                  · omega
                  · omega
                  · have := hrv q e; omega)
                have hrv4 : ∀ q, (Value.slice A3 out.length c3).ownBlock = some q → rv4.ownBlock ≠ some q := by
                  intro q hq e
                  rcases hm4 q e with h | h
                  · have h1 := (O3.out.lt hq).1
                    have := hrv q h
                    omega
                  · have h1 := (O3.out.lt hq).2
                    omega
                have R4 := Lib.hid hrv4
                have O4 := Lib.hid ho4
                have hr3 : BRow w4 w4.heap.size A3 out := by
                  obtain ⟨A5, c5, e, _, _, hr⟩ := ho4.slice
                  injection e with e1 e2 e3
                  rw [e1]; exact hr
                have k1 := run_conv_bytes (P := Try.prog) w4 31 9 5 Try.underlying31 Try.underlying5 Try.underlying9 A3 _ c3 _ out rfl hr3
                have k2 := run_conv_bytes (P := Try.prog) w4 31 9 5 Try.underlying31 Try.underlying5 Try.underlying9 A4 _ c4 _ out rfl hr4
                clear hd4 hf4 hr4 hr3 ho4 hrv hrv4 hm4 D3 O3 z2 z3
                obtain ⟨w4', hw4'⟩ : ∃ x, x = w4 := ⟨_, rfl⟩
                go_wp2
                go_loopw [23] (fun kv wz => ∃ (j : Nat) (ms : List UInt8), kv = .int .i64 j ∧ j ≤ out.length ∧ ms.length = out.length ∧ OwnB wz 5 wa.heap.size (.slice A3 out.length c3) ms ∧ Frm (fun x => (Value.slice A3 out.length c3).ownBlock = some x) w4 wz) (fun kv _ => out.length - (intOf kv).toNat)
                case atStart => exact ⟨0, out, rfl, by omega, rfl, O4.out, Frm.refl _ _⟩
                case round =>
                  obtain ⟨j, ms, rfl, hj, hml, hown, hfr⟩ := hrel
                  have OW := Lib.hid hown
                  have FZ := Lib.hid hfr
                  clear hown hfr k1 k2
                  by_cases hjl : j < out.length
                  · obtain ⟨g, rfl, hg, hcell, hfz⟩ := OW.out.addrF (k := j) (by omega)
                    obtain ⟨x, hx⟩ : ∃ x, ms.getD j 0 = x := ⟨_, rfl⟩
                    rw [hx] at hcell
                    unfold byteV at hcell
                    clear hx
                    obtain ⟨y, hy⟩ := not_byte x
                    have HY := Lib.hid hy
                    have O6 := Lib.hid (OW.out.set j (by omega) y)
                    have F6 := Lib.hid (FZ.out.setCell (p := ⟨g, j, none⟩) rfl (byteV y))
                    clear hy
                    go_wp2
                    rw [HY.out]
                    exact ⟨⟨j + 1, ms.set j y, by go_num, by omega, by rw [List.length_set]; exact hml, O6.out, F6.out⟩, by simp [intOf]; omega⟩
                  · obtain rfl : j = out.length := by omega
                    have D6 := Lib.hid (D4'.out.flipped FZ.out OW.out (by have := D0.out.be.size; omega) (by have := HSZ.out; omega) N3.out R4.out)
                    clear D4' O4 OW FZ
                    go_wp2
                    go_meet
                    case rel => exact ⟨rfl, on, a', v3, rv4, D6.out, CL.out⟩
              by_cases hd2 : d = 2
              · subst hd2
                obtain ⟨⟨x, ok⟩, hx⟩ : ∃ p, atS on S all back = p := ⟨_, rfl⟩
                have HX := Lib.hid hx
                have HAL := Lib.hid (show all.length ≤ muchs (l.take (i + 1)) by omega)
                have AL := Lib.hid (show all.length ≤ 140737488355328 by omega)
                clear hx hmu
                go_wp2_with fail
                refine (at_duo back x ok wa D0.out HX.out).mono ?_
                rintro e w3 ⟨rfl, hd3, hb3⟩
                have D3 := Lib.hid hd3
                have z2 := (P0.out.below hb3 P0.out.lt).cell 2
                simp only [List.getElem?_toArray, List.getElem?_cons_succ, List.getElem?_cons_zero] at z2
                clear hd3 hb3 y0 y1 y2 y3 D0
                cases ok
                all_goals
                  go_wp2_with fail
                  refine (rat_duo back x _ w3 D3.out HX.out AL.out).mono ?_
                  rintro e w4 ⟨rfl, hd4⟩
                  have D4' := Lib.hid hd4
                  clear hd4
                  go_wp2
                  go_meet
                  case rel => exact ⟨rfl, on, all, v, rv, D4'.out, HAL.out⟩
              by_cases hd3 : d = 3
              · subst hd3
                go_wp2_with fail
                refine (clear_duo wa D0.out).mono ?_
                rintro e w3 ⟨rfl, v3, hd3⟩
                have D3 := Lib.hid hd3
                clear hd3
                go_wp2_with fail
                refine (rclear_duo w3 D3.out).mono ?_
                rintro e w4 ⟨rfl, rv4, hd4⟩
                have D4' := Lib.hid hd4
                clear hd4
                go_wp2
                go_meet
                case rel => exact ⟨rfl, on, [], v3, rv4, D4'.out, by simp⟩
              by_cases hd4 : d = 4
              · subst hd4
                go_wp2_with fail
                refine (drop_duo wa D0.out).mono ?_
                rintro e w3 ⟨rfl, v3, hd3⟩
                have D3 := Lib.hid hd3
                clear hd3
                go_wp2_with fail
                refine (rdrop_duo w3 D3.out).mono ?_
                rintro e w4 ⟨rfl, rv4, hd4⟩
                have D4' := Lib.hid hd4
                clear hd4
                go_wp2
                go_meet
                case rel => exact ⟨rfl, false, [], v3, rv4, D4'.out, by simp⟩
              · have q0 : (d == 0) = false := beq_eq_false_iff_ne.2 hd0
                have q1 : (d == 1) = false := beq_eq_false_iff_ne.2 hd1
                have q2 : (d == 2) = false := beq_eq_false_iff_ne.2 hd2
                have q3 : (d == 3) = false := beq_eq_false_iff_ne.2 hd3
                have q4 : (d == 4) = false := beq_eq_false_iff_ne.2 hd4
                have HAL := Lib.hid (show all.length ≤ muchs (l.take (i + 1)) by omega)
                clear hd0 hd1 hd2 hd3 hd4 hmu
                go_wp2
                go_meet
                case rel => exact ⟨rfl, on, all, v, rv, D0.out, HAL.out⟩
            case rest =>
              obtain ⟨rfl, on2, all2, v2, rv2, hd2, hl2⟩ := hcut
              have D2 := Lib.hid hd2
              have hHd : ∃ H : Nat, (if on2 then S else 0 : Nat) = H := ⟨_, rfl⟩
              obtain ⟨H, hH⟩ := hHd
              have HH := Lib.hid hH
              clear hd2 hH D0 P0
              go_wp2_with fail
              refine (book_duo H _ D2.out HH.out).mono ?_; rintro e w5 ⟨rfl, hd5⟩
              have D5 := Lib.hid hd5
              have q1 : w5.cell? ⟨rk, 1, none⟩ = some (.int .i64 H) := by have := D5.out.rl; rw [HH.out] at this; exact this.cell 1
              have q2 : w5.cell? ⟨rk, 2, none⟩ = some (.int .i64 S) := D5.out.rl.cell 2
              clear hd5 D2
              go_wp2_with fail
              refine (held_duo H _ D5.out HH.out).mono ?_; rintro e w6 ⟨rfl, rfl⟩
              go_wp2_with fail
              refine (rheld_duo H _ D5.out HH.out).mono ?_; rintro e w6 ⟨rfl, rfl⟩
              go_wp2
              exact ⟨⟨i + 1, on2, all2, v2, rv2, by go_num, by omega, hl2, D5.out⟩, by simp [intOf]; omega⟩
          · obtain rfl : i = l.length := by omega
            go_wp2_with fail
            refine (wakes06 _).mono ?_; rintro e w4 ⟨rfl, h4⟩
            go_wp2
            go_ret
            exact ⟨rfl, DU.out.be.trans (h4.mono DU.out.be.size)⟩
  · clear hg
    go_wp2_with fail
    refine (wakes06 _).mono ?_; rintro e w1 ⟨rfl, h1⟩
    go_wp2
    go_ret
    exact ⟨rfl, h1⟩
end Go.Proofs.Ytjeaepkncboodaa
