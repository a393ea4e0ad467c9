/- The walk of XzboxMade. -/
import Derived.Test.YtjhmebkkdgpneaaBoxM
import Derived.Test.YtjhmebkkdgpneaaPairs
import Derived.Laws.StructEq
namespace Go.Proofs.Ytjhmebkkdgpneaa
open Go.RowKit Box
set_option linter.unusedVariables false
set_option linter.unusedSimpArgs false
set_option maxRecDepth 100000 in
theorem sealOn_p (A : Option Addr) (bs : List UInt8) (n c : Nat) (w : World) (hn : n = bs.length) (hr : BRow w w.heap.size A bs) (hlen : bs.length ≤ 1000000000) :
    Calls Try.prog 17 #[.slice A n c] w fun e w' => ∃ v, e = .returned v ∧ OwnB w' 5 w.heap.size v (sealOn bs) ∧ Below w.heap.size w w' := by
  have C1 := Lib.hid (rseal_p A bs n c w hn hr (by omega))
  have HR := Lib.hid hr
  have HN := Lib.hid hn
  have HL := Lib.hid hlen
  clear hr hn hlen
  go_enter Try.func17, Try.ntmps17
  go_wp2_with fail
  refine C1.out.mono ?_; rintro r w1 ⟨v1, rfl, ho1, hb1⟩
  obtain ⟨A1, c1, rfl, _, _, hr1⟩ := ho1.slice
  have R1 := Lib.hid hr1
  have B1 := Lib.hid hb1
  clear ho1 hr1 hb1
  go_wp2_with (at_builtin; refine wpList_append_bytes _ rfl (.tmp 6) (.tmp 7) 22 rfl 5 w.heap.size Try.underlying22 Try.info_byte (.slice (some ⟨w1.heap.size, 0, none⟩) 0 0) [] rfl ?own1 A n c w.heap.size bs rfl HN.out ?row1 ?len1 ?base1 ?next1)
  case own1 => exact OwnB.made w1 _ _ B1.out.size
  case row1 => exact (HR.out.below B1.out).below ((Below.refl _ w1).alloc B1.out.size _)
  case len1 => have := HL.out; simp; omega
  case base1 => have := B1.out.size; simp; omega
  case next1 =>
    intro v2 w2 hown2 hfrm2 hnew2
    have hb2 : Below w.heap.size w w2 := (B1.out.alloc B1.out.size _).trans (hfrm2.below (B1.out.alloc B1.out.size _).size (fun q hq => by obtain rfl := Option.some.inj hq; exact B1.out.size))
    have hr2 : BRow w2 w1.heap.size A1 (sealB bs) :=
      R1.out.frm (S := fun k => w1.heap.size ≤ k) (((Frm.refl _ w1).alloc _).trans (hfrm2.mono (fun q _ hq => by obtain rfl := Option.some.inj hq; exact Nat.le_refl _))) (Nat.le_refl _) (fun k hk => hk)
    have B2 := Lib.hid hb2
    have O2 := Lib.hid hown2
    have R2 := Lib.hid hr2
    clear hown2 hfrm2 hnew2 hb2 hr2
    go_wp2_with (at_builtin; refine wpList_append_bytes _ rfl (.tmp 8) (.tmp 9) 22 rfl 5 w.heap.size Try.underlying22 Try.info_byte v2 bs rfl ?own2 A1 (sealB bs).length c1 w1.heap.size (sealB bs) rfl rfl ?row2 ?len2 ?base2 ?next2)
    case own2 => exact O2.out
    case row2 => exact R2.out
    case len2 => have := HL.out; rw [sealB_len]; omega
    case base2 => exact B2.out.size
    case next2 =>
      intro v3 w3 hown3 hfrm3 hnew3
      have B3 := Lib.hid (B2.out.trans (hfrm3.below B2.out.size (fun q hq => (O2.out.lt hq).1)))
      have O3 := Lib.hid hown3
      clear hown3 hfrm3 hnew3
      go_wp2
      go_ret
      exact ⟨_, rfl, O3.out, B3.out⟩
/-- What a written number leaves, whatever the number. -/
theorem PutPost.any {n : Nat} {w w' : World} {e : Ending} (h : PutPost n w e w') : ∃ v f, e = .returned (.tuple #[v, .int .i64 f]) ∧ (9223372036854775808 ≤ n → f = 2) ∧ (n < 9223372036854775808 → f = 0 ∧ OwnB w' 5 w.heap.size v (put n)) := by
  by_cases hb : 9223372036854775808 ≤ n
  · exact ⟨_, _, h.2.1 hb, fun _ => rfl, fun h => by omega⟩
  · obtain ⟨v, e, o⟩ := h.1 (by omega)
    exact ⟨v, 0, e, fun h => by omega, fun _ => ⟨rfl, o⟩⟩
theorem OwnB.rowOf {w : World} {T base : Nat} {A : Option Addr} {n c : Nat} {bs : List UInt8} (h : OwnB w T base (.slice A n c) bs) : BRow w w.heap.size A bs := by
  obtain ⟨A', c', e, _, _, hr⟩ := h.slice
  injection e with e1 e2 e3
  subst e1
  exact hr
theorem OwnB.lowerB {w : World} {T base base' : Nat} {v : Value} {bs : List UInt8} (h : OwnB w T base v bs) (hb : base' ≤ base) : OwnB w T base' v bs := by
  refine ⟨h.1, ?_⟩
  rcases h.2 with h2 | ⟨g, cap, cur, rfl, hb2, r⟩
  · exact .inl h2
  · exact .inr ⟨g, cap, cur, rfl, by omega, r⟩
theorem eq_pair (a b c d : Int) (w : World) : (Op.equalIn 10000 38 (.agg #[.int .u64 a, .int .u64 b]) (.agg #[.int .u64 c, .int .u64 d])).run Try.prog w = .ok (a == c && b == d) w := by
  have u3 := Try.underlying26
  have a3 := Try.isAgg26
  have z3 := Try.sizeOf26
  rw [show (10000 : Nat) = 9999 + 1 from rfl, Op.equalIn]
  simp only [Sem.run_bind, run_underlying Try.underlying38, Result.andThen_ok]
  simp only [Std.Legacy.Range.forIn_eq_forIn_range', Std.Legacy.Range.size, Nat.sub_zero, Nat.add_sub_cancel, Nat.div_one, List.range'_succ, List.range'_zero, List.forIn_cons, List.forIn_nil]
  go_simp
  by_cases h1 : a = c <;> by_cases h2 : b = d <;> simp [h1, h2]
def okPair (p : Nat × Nat) : Prop := 5 ≤ p.1 ∧ p.1 < 9223372036854775808 ∧ p.2 < 9223372036854775808
def slen : Value → Nat
  | .slice _ n _ => n
  | _ => 0
set_option maxRecDepth 100000 in
set_option maxHeartbeats 4000000 in
theorem lawMade18 (A : Option Addr) (l : List (Nat × Nat)) (n c : Nat) (at_ : Int) (by_ : Int) (w : World) (h1 : n = l.length) (h2 : l.length ≤ c) (h3 : c ≤ maxLen) (h4 : PrRow w w.heap.size A l) (h5 : ∀ s ∈ l, s.1 < 18446744073709551616 ∧ s.2 < 18446744073709551616)
    (a1 : -9223372036854775808 ≤ at_ ∧ at_ ≤ 9223372036854775807) (b1 : 0 ≤ by_ ∧ by_ ≤ 255) :
    Calls Try.prog 6 #[.slice A n c, .int .i64 at_, .int .u8 by_] w fun e w' => e = .returned (.bool true) ∧ Below w.heap.size w w' := by
  have ROW := Lib.hid h4
  have FIT := Lib.hid h5
  have AT := Lib.hid a1
  have BY := Lib.hid b1
  have CAP := Lib.hid h2
  have HN := Lib.hid h1
  by_cases hg : 60 < n
  · have HG := Lib.hid hg
    have hgt : decide ((60 : Int) < (n : Int)) = true := decide_eq_true (by omega)
    clear h1 h2 h3 h4 h5 a1 b1 hg
    go_enter Try.func6, Try.ntmps6
    go_wp2_with fail
    refine (wakes_p w).mono ?_; rintro r w5 ⟨rfl, hb⟩
    have B5 := Lib.hid hb
    clear hb
    go_wp2
    go_ret
    exact ⟨rfl, B5.out⟩
  · have hgt : decide ((60 : Int) < (n : Int)) = false := decide_eq_false (by omega)
    have HG := Lib.hid (show n ≤ 60 by omega)
    have hnw : IntKind.u64.wrap (n : Int) = (n : Int) := Go.IntWalk.u64_in _ (by omega)
    clear h1 h2 h3 h4 h5 a1 b1 hg
    go_enter Try.func6, Try.ntmps6
    go_wp2_with fail
    have hb1 : Below w.heap.size w (w.alloc (.cells #[.int .u8 0] 5)) := (Below.refl _ w).alloc (Nat.le_refl _) _
    have ho1 : OwnB (w.alloc (.cells #[.int .u8 0] 5)) 5 w.heap.size (.slice (some ⟨w.heap.size, 0, none⟩) 1 1) [0] := OwnB.of_cells w 5 w.heap.size [0] (Nat.le_refl _) (by decide)
    generalize w.alloc (.cells #[.int .u8 0] 5) = w1 at *
    have B1 := Lib.hid hb1
    have O1 := Lib.hid ho1
    clear hb1 ho1
    refine (putNumber_p n w1 (by have := HG.out; omega)).mono ?_; rintro r w2 ⟨p1, _, pb⟩
    obtain ⟨v2, rfl, ho2⟩ := p1 (by have := HG.out; omega)
    obtain ⟨A2, c2, rfl, _, _, hr2⟩ := ho2.slice
    have B2 := Lib.hid (B1.out.trans (pb.mono B1.out.size))
    have O1' := Lib.hid (O1.out.frm (S := fun _ => False) (Frm.of_below pb) (fun k _ h => h))
    have R2 := Lib.hid hr2
    obtain ⟨L2, hL2⟩ : ∃ L2, (put n).length = L2 := ⟨_, rfl⟩
    have HL2 := Lib.hid hL2
    simp only [hL2]
    clear p1 pb hr2 ho2 hL2 O1 B1
    go_wp2_with (at_builtin; refine wpList_append_bytes _ rfl (.tmp 34) (.tmp 35) 22 rfl 5 w.heap.size Try.underlying22 Try.info_byte (.slice (some ⟨w.heap.size, 0, none⟩) 1 1) [0] rfl ?own1 A2 L2 c2 w2.heap.size (put n) rfl HL2.out.symm ?row1 ?len1 ?base1 ?next1)
    case own1 => exact O1'.out
    case row1 => exact R2.out
    case len1 => have := put_len n; simp; omega
    case base1 => exact B2.out.size
    case next1 =>
      intro v3 w3 hown3 hfrm3 hnew3
      have hb3 := B2.out.trans (hfrm3.below B2.out.size (fun q hq => by obtain rfl := Option.some.inj hq; exact Nat.le_refl _))
      have hown3 : OwnB w3 5 w.heap.size v3 (headB l) := by unfold headB; rw [← HN.out]; exact hown3
      have B3 := Lib.hid hb3
      have O3 := Lib.hid hown3
      clear hown3 hfrm3 hnew3 hb3 R2 O1' B2
      go_wp2
      go_loopw [7, 10] (fun bv iv wr => ∃ i : Nat, iv = .int .i64 i ∧ i ≤ n ∧ OwnB wr 5 w.heap.size bv (headB l ++ recsB (l.take i)) ∧ (∀ p ∈ l.take i, okPair p) ∧ Below w.heap.size w wr) (fun _ iv _ => n - (intOf iv).toNat)
      case atStart => exact ⟨0, rfl, by omega, by simpa [recsB] using O3.out, by simp, B3.out⟩
      case round =>
        obtain ⟨i, rfl, hi, hown, hok, hbe⟩ := hrel
        clear O3 B3
        have hlen1 : (headB l ++ recsB (l.take i)).length ≤ 10 + 18 * 60 := by
          have e1 := put_len l.length
          have e2 := recsB_len (l.take i)
          have e3 := List.length_take_le i l
          have := HG.out; have := HN.out
          unfold headB
          simp only [List.length_append, List.length_cons]
          omega
        have OW := Lib.hid hown
        have OK := Lib.hid hok
        have BE := Lib.hid hbe
        have LE := Lib.hid hlen1
        clear hown hok hbe hlen1
        by_cases hin : i < n
        · obtain ⟨b0, off, hA, hb0, hcell⟩ := ROW.out (by have := HN.out; omega)
          subst hA
          have hil : i < l.length := by have := HN.out; omega
          obtain ⟨k0, k1⟩ := hcell i hil
          obtain ⟨⟨p, q⟩, hpq⟩ : ∃ pq, l.getD i (0, 0) = pq := ⟨_, rfl⟩
          rw [hpq] at k0 k1
          have hmem : (p, q) ∈ l := by rw [← hpq]; simp only [List.getD, List.getElem?_eq_getElem hil, Option.getD_some]; exact List.getElem_mem hil
          obtain ⟨f1, f2⟩ := FIT.out _ hmem
          simp only at f1 f2 k0 k1
          have d0 : wr.cell? ⟨b0, off + i * 2, none⟩ = some (.int .u64 (p : Int)) := (BE.out.cell (p := ⟨b0, off + i * 2, none⟩) hb0).trans k0
          have d1 : wr.cell? ⟨b0, off + i * 2 + 1, none⟩ = some (.int .u64 (q : Int)) := (BE.out.cell (p := ⟨b0, off + i * 2 + 1, none⟩) hb0).trans k1
          have hts : l.take (i + 1) = l.take i ++ [(p, q)] := by rw [List.take_succ_eq_append_getElem hil, ← hpq]; simp [List.getD, hil]
          have HTS := Lib.hid hts
          have F1 := Lib.hid f1
          have F2 := Lib.hid f2
          clear hcell k0 k1 hpq hmem hts f1 f2
          by_cases hp5 : p < 5
          · have hp5d : decide ((p : Int) < 5) = true := decide_eq_true (by omega)
            clear hp5
            go_wp2_with fail
            refine (wakes_p wr).mono ?_; rintro r w5 ⟨rfl, hb⟩
            have B5 := Lib.hid (BE.out.trans (hb.mono BE.out.size))
            clear hb
            go_wp2
            go_ret
            exact ⟨rfl, B5.out⟩
          · have hp5d : decide ((p : Int) < 5) = false := decide_eq_false (by omega)
            have P5 := Lib.hid (show 5 ≤ p by omega)
            clear hp5
            go_wp2_with fail
            refine (putNumber_p p wr F1.out).mono ?_; rintro r w4 hpost
            have hb4 := hpost.2.2
            obtain ⟨v4, e4, rfl, hbig4, hsm4⟩ := hpost.any
            have B4 := Lib.hid (BE.out.trans (hb4.mono BE.out.size))
            have O4 := Lib.hid (OW.out.frm (S := fun _ => False) (Frm.of_below hb4) (fun k _ h => h))
            have d1 : w4.cell? ⟨b0, off + i * 2 + 1, none⟩ = some (.int .u64 (q : Int)) := (hb4.cell (p := ⟨b0, off + i * 2 + 1, none⟩) (by have := BE.out.size; show b0 < _; omega)).trans d1
            clear hb4 hpost
            go_wp2_with fail
            refine (putNumber_p q w4 F2.out).mono ?_; rintro r w5 hpost
            have hb5 := hpost.2.2
            obtain ⟨v5, e5, rfl, hbig5, hsm5⟩ := hpost.any
            have B5 := Lib.hid (B4.out.trans (hb5.mono B4.out.size))
            have O5 := Lib.hid (O4.out.frm (S := fun _ => False) (Frm.of_below hb5) (fun k _ h => h))
            clear hpost
            by_cases hp : p < 9223372036854775808
            · obtain ⟨rfl, hv4⟩ := hsm4 hp
              by_cases hq : q < 9223372036854775808
              · obtain ⟨rfl, hv5⟩ := hsm5 hq
                obtain ⟨A4, c4, rfl, _, _, hr4⟩ := hv4.slice
                obtain ⟨A5, c5, rfl, _, _, hr5⟩ := hv5.slice
                obtain ⟨L4, hL4⟩ : ∃ L, (put p).length = L := ⟨_, rfl⟩
                obtain ⟨L5, hL5⟩ : ∃ L, (put q).length = L := ⟨_, rfl⟩
                have HL4 := Lib.hid hL4
                have HL5 := Lib.hid hL5
                have R4 := Lib.hid (hr4.below hb5)
                have V5 := Lib.hid hv5
                have HPQ := Lib.hid (And.intro hp hq)
                simp only [hL4, hL5]
                clear hsm4 hsm5 hbig4 hbig5 hv4 hv5 hr4 hr5 hL4 hL5 hp hq hb5
                go_wp2_with (at_builtin; refine wpList_append_bytes _ rfl (.tmp 75) (.tmp 76) 22 rfl 5 w.heap.size Try.underlying22 Try.info_byte u7 (headB l ++ recsB (l.take i)) rfl ?own2 A4 L4 c4 w4.heap.size (put p) rfl HL4.out.symm ?row2 ?len2 ?base2 ?next2)
                case own2 => exact O5.out
                case row2 => exact R4.out
                case len2 => have := put_len p; have := LE.out; omega
                case base2 => exact B5.out.size
                case next2 =>
                  intro v6 w6 hown6 hfrm6 hnew6
                  have hb6 := B5.out.trans (hfrm6.below B5.out.size (fun q hq => (O5.out.lt hq).1))
                  have O6 := Lib.hid hown6
                  have B6 := Lib.hid hb6
                  have R6 := Lib.hid (V5.out.frm hfrm6 (fun k hk e => by have h1 := (V5.out.lt hk).1; have h2 := (O4.out.lt e).2; omega)).rowOf
                  clear hown6 hfrm6 hnew6 hb6
                  go_wp2_with (at_builtin; refine wpList_append_bytes _ rfl (.tmp 77) (.tmp 78) 22 rfl 5 w.heap.size Try.underlying22 Try.info_byte v6 (headB l ++ (recsB (l.take i) ++ put p)) rfl ?own3 A5 L5 c5 w6.heap.size (put q) rfl HL5.out.symm ?row3 ?len3 ?base3 ?next3)
                  case own3 => exact O6.out
                  case row3 => exact R6.out
                  case len3 => have := put_len p; have := put_len q; have := LE.out; rw [List.length_append] at this; rw [List.length_append, List.length_append]; omega
                  case base3 => exact B6.out.size
                  case next3 =>
                    intro v7 w7 hown7 hfrm7 hnew7
                    have hb7 := B6.out.trans (hfrm7.below B6.out.size (fun q hq => (O6.out.lt hq).1))
                    have hown7 : OwnB w7 5 w.heap.size v7 (headB l ++ recsB (l.take (i + 1))) := by
                      rw [HTS.out, recsB_snoc]
                      simpa [List.append_assoc] using hown7
                    have hok7 : ∀ x ∈ l.take (i + 1), okPair x := by
                      rw [HTS.out]
                      intro x hx
                      rcases List.mem_append.1 hx with h | h
                      · exact OK.out x h
                      · rw [List.mem_singleton.1 h]; exact ⟨P5.out, HPQ.out.1, HPQ.out.2⟩
                    have O7 := Lib.hid hown7
                    have B7 := Lib.hid hb7
                    have K7 := Lib.hid hok7
                    clear hown7 hfrm7 hnew7 hb7 hok7
                    have hn60 := HG.out
                    go_wp2
                    exact ⟨⟨i + 1, by go_num, by omega, O7.out, K7.out, B7.out⟩, by simp [intOf]; omega⟩
              · obtain rfl := hbig5 (by omega)
                clear hbig4 hbig5 hsm4 hsm5 hv4 hp hq hb5
                go_wp2_with fail
                refine (wakes_p w5).mono ?_; rintro r w8 ⟨rfl, hb8⟩
                have B8 := Lib.hid (B5.out.trans (hb8.mono B5.out.size))
                clear hb8
                go_wp2
                go_ret
                exact ⟨rfl, B8.out⟩
            · obtain rfl := hbig4 (by omega)
              clear hbig4 hbig5 hsm4 hsm5 hp hb5
              go_wp2_with fail
              refine (wakes_p w5).mono ?_; rintro r w8 ⟨rfl, hb8⟩
              have B8 := Lib.hid (B5.out.trans (hb8.mono B5.out.size))
              clear hb8
              go_wp2
              go_ret
              exact ⟨rfl, B8.out⟩
        · obtain rfl : i = n := by omega
          have hall : l.take i = l := List.take_of_length_le (by have := HN.out; omega)
          have OKA : ∀ p ∈ l, okPair p := by have := OK.out; rwa [hall] at this
          have OA := OW.out
          rw [hall] at OA
          have LA := LE.out
          rw [hall] at LA
          have OKK := Lib.hid OKA
          have OAA := Lib.hid OA
          have LAA := Lib.hid LA
          clear OW OK LE hall OKA OA LA hin hi
          obtain ⟨body, hbody⟩ : ∃ body, headB l ++ recsB l = body := ⟨_, rfl⟩
          have HBODY := Lib.hid hbody
          rw [hbody] at OAA LAA
          clear hbody
          go_wp2
          go_loopw [7] (fun bv wr => ∃ z : Nat, z ≤ (4 - body.length % 4) % 4 ∧ OwnB wr 5 w.heap.size bv (body ++ List.replicate z 0) ∧ Below w.heap.size w wr) (fun bv _ => body.length + (4 - body.length % 4) % 4 - slen bv)
          case atStart => exact ⟨0, by omega, by simpa using OAA.out, BE.out⟩
          case round =>
            obtain ⟨z, hz, hown, hbe⟩ := hrel
            obtain ⟨Ab, cb, hbv, hcb, hmb, hrb⟩ := hown.slice
            obtain ⟨Lb, hLb⟩ : ∃ Lb, (body ++ List.replicate z 0).length = Lb := ⟨_, rfl⟩
            have hLbz : Lb = body.length + z := by rw [← hLb]; simp
            rw [hLb] at hbv hcb
            subst hbv
            have OW := Lib.hid hown
            have BW := Lib.hid hbe
            have RB := Lib.hid hrb
            have HLB := Lib.hid hLb
            have HLZ := Lib.hid (And.intro hLbz hz)
            have HMB := Lib.hid (And.intro hcb hmb)
            have hlb2 : Lb ≤ 1200 := by have := LAA.out; omega
            clear hown hbe hrb hLb hLbz hz hcb hmb BE
            by_cases h4 : Lb % 4 = 0
            · have hz4 : ((Lb : Int) % 4 != 0) = false := by have : (Lb : Int) % 4 = 0 := by omega
                                                             rw [this]; rfl
              have H4 := Lib.hid h4
              have HSE := Lib.hid (sealOn_p Ab (body ++ List.replicate z 0) Lb cb wr HLB.out.symm RB.out (by rw [HLB.out]; omega))
              clear h4
              go_wp2_with fail
              refine HSE.out.mono ?_; rintro r w6 ⟨v6, rfl, ho6, hb6⟩
              have hfull : (sealOn (body ++ List.replicate z 0)).length = Lb + 4 := by unfold sealOn; rw [List.length_append, sealB_len, HLB.out]
              have hmade := index_made l z (fun p hp => OKK.out p hp) (by have := HG.out; have := HN.out; omega) (by have := HLZ.out; omega) (by rw [HBODY.out, HLB.out]; exact H4.out)
              rw [HBODY.out, hfull] at hmade
              obtain ⟨M, hM⟩ : ∃ M, sealOn (body ++ List.replicate z 0) = M := ⟨_, rfl⟩
              have hset := sealed_set (body ++ List.replicate z 0)
              rw [hM] at hmade hset hfull ho6
              have B6 := Lib.hid (BW.out.trans (hb6.mono BW.out.size))
              obtain ⟨g, c6, cur, hv6, hg6⟩ : ∃ g c6 cur, v6 = .slice (some ⟨g, 0, none⟩) M.length c6 ∧ M.length ≤ c6 ∧ c6 ≤ maxLen ∧ wr.heap.size ≤ g := by
                rcases ho6.form with ⟨_, e⟩ | ⟨g, c6, cur, e, hg, _, hc1, hc2, _⟩
                · rw [e] at hfull; simp at hfull
                · exact ⟨g, c6, cur, e, hc1, hc2, hg⟩
              rw [hfull] at hv6 hg6
              subst hv6
              have O6 := Lib.hid ho6
              have HMADE := Lib.hid hmade
              have HSET := Lib.hid hset
              have HFULL := Lib.hid hfull
              have HG6 := Lib.hid hg6
              obtain ⟨K, hK⟩ : ∃ K, Lb + 4 = K := ⟨_, rfl⟩
              have hKi : ((Lb : Int) + 4) = (K : Int) := by omega
              rw [hK] at HFULL HMADE HG6 O6
              have HK := Lib.hid hK
              simp only [hK]
              clear ho6 hb6 hmade hset hfull hg6 hM hK HSE
              have hK12 : K ≤ 1204 := by have := HK.out; omega
              have C7 := index_p (some ⟨g, 0, none⟩) M K c6 w6 HFULL.out.symm HG6.out.1 HG6.out.2.1 O6.out.rowOf (by rw [HFULL.out]; omega)
              rw [HMADE.out] at C7
              have C7 := Lib.hid C7
              go_wp2_with fail
              refine C7.out.mono ?_; rintro r w7 ⟨v7, rfl, ho7, hb7⟩
              obtain ⟨A7, c7, rfl, _, _, hr7⟩ := ho7.slice
              have B7 := Lib.hid (B6.out.trans (hb7.mono B6.out.size))
              have O7 := Lib.hid (O6.out.frm (S := fun _ => False) (Frm.of_below hb7) (fun k _ h => h))
              have R7 := Lib.hid hr7
              clear ho7 hb7 hr7 C7
              have hln : l.length = i := HN.out.symm
              simp only [hln]
              clear hln
              go_wp2
              go_loopw [18] (fun iv wr => ∃ j : Nat, iv = .int .i64 j ∧ j ≤ i ∧ OwnB wr 5 w.heap.size (.slice (some ⟨g, 0, none⟩) K c6) M ∧ PrRow wr w7.heap.size A7 l ∧ Below w.heap.size w wr) (fun iv _ => i - (intOf iv).toNat)
              case atStart => exact ⟨0, rfl, by omega, O7.out.lowerB BW.out.size, R7.out, B7.out⟩
              case round =>
                obtain ⟨j, rfl, hj, hown, hr7, hbe⟩ := hrel
                have O8 := Lib.hid hown
                have R8 := Lib.hid hr7
                have B8 := Lib.hid hbe
                clear hown hr7 hbe O7 R7 B7 O6 B6
                have hn60 := HG.out
                by_cases hji : j < i
                · obtain ⟨b0, off, hA, hb0, hcell⟩ := ROW.out (by have := HN.out; omega)
                  subst hA
                  obtain ⟨b7, off7, hA7, hb7, hcell7⟩ := R8.out (by have := HN.out; omega)
                  subst hA7
                  have hjl : j < l.length := by have := HN.out; omega
                  obtain ⟨k0, k1⟩ := hcell j hjl
                  obtain ⟨e0, e1⟩ := hcell7 j hjl
                  obtain ⟨⟨p, q⟩, hpq⟩ : ∃ pq, l.getD j (0, 0) = pq := ⟨_, rfl⟩
                  rw [hpq] at k0 k1 e0 e1
                  simp only at k0 k1 e0 e1
                  have d0 : wr.cell? ⟨b0, off + j * 2, none⟩ = some (.int .u64 (p : Int)) := (B8.out.cell (p := ⟨b0, off + j * 2, none⟩) hb0).trans k0
                  have d1 : wr.cell? ⟨b0, off + j * 2 + 1, none⟩ = some (.int .u64 (q : Int)) := (B8.out.cell (p := ⟨b0, off + j * 2 + 1, none⟩) hb0).trans k1
                  clear hcell hcell7 k0 k1 hpq hjl
                  go_wp2
                  have heq := fun w => eq_pair (p : Int) (q : Int) (p : Int) (q : Int) w
                  simp only [beq_self_eq_true, Bool.and_self] at heq
                  go_quiet (fail)
                  go_wp2
                  exact ⟨⟨j + 1, by go_num, by omega, O8.out.drewN _, R8.out, below_drewN B8.out _⟩, by simp [intOf]; omega⟩
                · obtain rfl : j = i := by omega
                  clear hj hji
                  by_cases hby : by_ = 0
                  · subst hby
                    go_wp2_with fail
                    refine (wakes_p wr).mono ?_; rintro r w9 ⟨rfl, hb9⟩
                    have B9 := Lib.hid (B8.out.trans (hb9.mono B8.out.size))
                    clear hb9
                    go_wp2
                    go_ret
                    exact ⟨rfl, B9.out⟩
                  · have hbz : (by_ == 0) = false := by rw [beq_eq_false_iff_ne]; exact hby
                    have HBY := Lib.hid hby
                    have hK0 : (0 : Int) < (K : Int) := by have := HK.out; omega
                    clear hby
                    obtain ⟨t, ht⟩ : ∃ t, at_.tmod (K : Int) + (K : Int) = t := ⟨_, rfl⟩
                    have ht1 : 0 < t ∧ t < 2 * (K : Int) := by
                      have e1 := Int.tmod_lt_of_pos at_ hK0
                      have e2 := Int.lt_tmod_of_pos at_ hK0
                      omega
                    have htw : wrap64 t = t := by unfold wrap64; omega
                    obtain ⟨k, hkt, hkK⟩ : ∃ k : Nat, t.tmod (K : Int) = (k : Int) ∧ k < K := by
                      have e1 := Int.tmod_lt_of_pos t hK0
                      have e2 : 0 ≤ t.tmod (K : Int) := Int.tmod_nonneg _ (by omega)
                      exact ⟨(t.tmod (K : Int)).toNat, by omega, by omega⟩
                    obtain ⟨bn, hbn⟩ : ∃ bn : Nat, by_ = (bn : Int) := ⟨by_.toNat, by have := BY.out; omega⟩
                    subst hbn
                    have hbn : bn < 256 := by have := BY.out; omega
                    obtain ⟨x, hx⟩ : ∃ x, M.getD k 0 = x := ⟨_, rfl⟩
                    have hkM : k < M.length := by rw [HFULL.out]; exact hkK
                    have hg : wr.cell? ⟨g, k, none⟩ = some (.int .u8 (x.toNat : Int)) ∧ wr.frozen? ⟨g, k, none⟩ = false := by
                      rcases O8.out.form with ⟨e, _⟩ | ⟨g', cap, cur', e, _, hp, _, _, _, hcl⟩
                      · cases e
                      · injection e with e1 e2 e3
                        injection e1 with e1
                        injection e1 with e1
                        subst e1
                        exact ⟨by rw [hp.cell, hcl k hkM, hx]; rfl, hp.frozen k⟩
                    obtain ⟨kc, kf⟩ := hg
                    have hy1 : bits .xor .u8 (x.toNat : Int) (bn : Int) = ((x ^^^ UInt8.ofNat bn).toNat : Int) := by
                      rw [u8_xor_nat _ _ x.toNat_lt hbn, UInt8.toNat_xor, ofNat_toNat hbn]
                    have hyx : x ^^^ UInt8.ofNat bn ≠ x := by
                      intro e
                      have e2 := congrArg UInt8.toNat e
                      rw [UInt8.toNat_xor, ofNat_toNat hbn] at e2
                      have e3 : x.toNat ^^^ (x.toNat ^^^ bn) = bn := by rw [← Nat.xor_assoc, Nat.xor_self, Nat.zero_xor]
                      rw [e2, Nat.xor_self] at e3
                      exact HBY.out (by omega)
                    obtain ⟨y, hy⟩ : ∃ y, x ^^^ UInt8.ofNat bn = y := ⟨_, rfl⟩
                    rw [hy] at hy1 hyx
                    have hs9 := HSET.out k hkM y (by rw [hx]; exact hyx)
                    have O9 := O8.out
                    obtain ⟨wn, hwn⟩ : ∃ wn, wr.setCell ⟨g, k, none⟩ (.int .u8 (y.toNat : Int)) = wn := ⟨_, rfl⟩
                    have O9 : OwnB wn 5 w.heap.size (.slice (some ⟨g, 0, none⟩) K c6) (M.set k y) := hwn ▸ OwnB.set O8.out k hkM y
                    have B9 : Below w.heap.size w wn := hwn ▸ B8.out.setCell (p := ⟨g, k, none⟩) (by have := HG6.out; have := BW.out.size; show w.heap.size ≤ g; omega) _
                    have hl9 : (M.set k y).length = K := by rw [List.length_set, HFULL.out]
                    have C9 := index_p (some ⟨g, 0, none⟩) (M.set k y) K c6 wn hl9.symm HG6.out.1 HG6.out.2.1 O9.rowOf (by rw [hl9]; omega)
                    have hok9 := index_ok (M.set k y)
                    obtain ⟨⟨l9, u9, e9⟩, hR9⟩ : ∃ R, indexOf (M.set k y) = R := ⟨_, rfl⟩
                    rw [hR9] at C9 hok9
                    have C9 := Lib.hid C9
                    have B9 := Lib.hid B9
                    have OK9 := Lib.hid hok9
                    have HS9 := Lib.hid hs9
                    have HL9 := Lib.hid hl9
                    have hxb := x.toNat_lt
                    have hyb := y.toNat_lt
                    obtain ⟨xn, hxn⟩ : ∃ xn, x.toNat = xn := ⟨_, rfl⟩
                    obtain ⟨yn, hyn⟩ : ∃ yn, y.toNat = yn := ⟨_, rfl⟩
                    rw [hxn] at kc hy1
                    rw [hyn] at hy1 hwn
                    clear hok9 hs9 hR9 O9 hl9 hy hyx hx hxn hyn hkM ht1 hxb hyb
                    go_wp2_with fail
                    refine C9.out.mono ?_; rintro r w10 ⟨v10, rfl, ho10, hb10⟩
                    have B10 := Lib.hid (B9.out.trans (hb10.mono B9.out.size))
                    clear ho10 hb10 C9
                    by_cases he9 : e9 = 0
                    · subst he9
                      have hu9 : ¬ u9 = K := by
                        intro e
                        have h1 := OK9.out.2 rfl
                        simp only at h1
                        rw [e, List.take_of_length_le (by rw [HL9.out]; exact Nat.le_refl _), HS9.out] at h1
                        cases h1
                      have hun : ((u9 : Int) != (K : Int)) = true := by simp; omega
                      clear hu9
                      go_wp2_with fail
                      refine (wakes_p w10).mono ?_; rintro r w11 ⟨rfl, hb11⟩
                      have B11 := Lib.hid (B10.out.trans (hb11.mono B10.out.size))
                      clear hb11
                      go_wp2
                      go_ret
                      exact ⟨rfl, B11.out⟩
                    · have hu9 : u9 = 0 := OK9.out.1 he9
                      subst hu9
                      have hne : (e9 != 0) = true := by simp [he9]
                      clear he9
                      go_wp2_with fail
                      refine (wakes_p w10).mono ?_; rintro r w11 ⟨rfl, hb11⟩
                      have B11 := Lib.hid (B10.out.trans (hb11.mono B10.out.size))
                      clear hb11
                      go_wp2
                      go_ret
                      exact ⟨rfl, B11.out⟩
            · have hz4 : ((Lb : Int) % 4 != 0) = true := by have : ¬ (Lb : Int) % 4 = 0 := by omega
                                                            simp [this]
              have H4 := Lib.hid h4
              clear h4
              go_wp2_with (at_builtin; refine wpList_append_bytes _ rfl (.tmp 84) (.tmp 85) 22 rfl 5 w.heap.size Try.underlying22 Try.info_byte (.slice Ab Lb cb) (body ++ List.replicate z 0) rfl ?own4 (some ⟨wr.heap.size, 0, none⟩) 1 1 (wr.heap.size + 1) [0] rfl rfl ?row4 ?len4 ?base4 ?next4)
              case own4 => exact OW.out.alloc _
              case row4 => exact BRow.oneB wr _ 0
              case len4 => rw [HLB.out]; simp; omega
              case base4 => have := BW.out.size; simp; omega
              case next4 =>
                intro v5 w5 hown5 hfrm5 hnew5
                have hb5 := (BW.out.alloc BW.out.size (.cells #[.int .u8 0] 5)).trans (hfrm5.below (B := w.heap.size) (BW.out.alloc BW.out.size _).size (fun q hq => (OW.out.lt hq).1))
                have hown5 : OwnB w5 5 w.heap.size v5 (body ++ List.replicate (z + 1) 0) := by
                  rw [List.replicate_succ']; exact hown5
                have hs5 : slen v5 = body.length + (z + 1) := by
                  obtain ⟨A5, c5, e5, _⟩ := hown5.slice
                  rw [e5]; show (body ++ List.replicate (z + 1) (0 : UInt8)).length = _; simp
                have O5 := Lib.hid hown5
                have B5 := Lib.hid hb5
                have S5 := Lib.hid hs5
                clear hown5 hfrm5 hnew5 hb5 hs5
                go_wp2
                refine ⟨⟨z + 1, ?_, O5.out, B5.out⟩, ?_⟩
                · have := HLZ.out; have := H4.out; omega
                · show body.length + (4 - body.length % 4) % 4 - slen v5 < body.length + (4 - body.length % 4) % 4 - Lb
                  rw [S5.out]; have := HLZ.out; have := H4.out; omega
end Go.Proofs.Ytjhmebkkdgpneaa
