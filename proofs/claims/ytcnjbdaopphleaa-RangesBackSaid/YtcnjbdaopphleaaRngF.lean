/- The encoder's shift. -/
import Derived.Test.YtcnjbdaopphleaaRngQ
import Derived.Test.YtcnjbdaopphleaaRngD
import Derived.Deep.DeepCutAuto
import Derived.Deep.CutRange
namespace Go.Proofs.Ytcnjbdaopphleaa
open Go.RowKit Rng
set_option linter.unusedVariables false
set_option linter.unusedSimpArgs false
/-- An encoder at block b: type T its struct, v the slice of what went out; z is added to the count of waiting bytes. -/
structure EncAt (w : World) (T z b base : Nat) (v : Value) (e : Enc) : Prop where
  p : Pts w b #[.int .u64 e.low, .int .u32 e.size, byteV e.first, .int .i64 ((e.more + z : Nat) : Int), v, .bool e.closed] T
  o : OwnB w 5 base v e.out
  k : e.Ok
theorem BRow.one (w : World) (T : TypeId) (x : UInt8) : BRow (w.alloc (.cells #[.int .u8 (x.toNat : Int)] T (0, 0))) (w.heap.size + 1) (some ⟨w.heap.size, 0, none⟩) [x] := by
  intro _
  refine ⟨w.heap.size, 0, rfl, Nat.lt_succ_self _, fun j hj => ?_⟩
  obtain rfl : j = 0 := by simpa using hj
  exact ((Pts.new w #[.int .u8 (x.toNat : Int)] T).cell 0).trans rfl
theorem and32_mod {x : Nat} (h : x < 18446744073709551616) : bits .and .u64 (x : Int) 4294967295 = ((x % 4294967296 : Nat) : Int) := by
  have e1 : x < Num.M64 := h
  have e2 : 4294967295 < Num.M64 := by unfold Num.M64; omega
  have h1 := Num.and64 e1 e2
  rw [show (4294967295 : Nat) = 2 ^ 32 - 1 by rfl, Nat.and_two_pow_sub_one_eq_mod] at h1
  exact h1
theorem and24_mod {x : Nat} (h : x < 18446744073709551616) : bits .and .u64 (x : Int) 16777215 = ((x % 16777216 : Nat) : Int) := by
  have e1 : x < Num.M64 := h
  have e2 : 16777215 < Num.M64 := by unfold Num.M64; omega
  have h1 := Num.and64 e1 e2
  rw [show (16777215 : Nat) = 2 ^ 24 - 1 by rfl, Nat.and_two_pow_sub_one_eq_mod] at h1
  exact h1
theorem Frm.transR {S S' : Nat → Prop} {a b c : World} (h : Frm S a b) (k : Frm S' b c) (hm : ∀ q, q < a.heap.size → S' q → S q) : Frm S a c :=
  ⟨k.os.trans h.os, k.tape.trans h.tape, k.output.trans h.output, Nat.le_trans h.size k.size, fun i hi hn => (k.block i (Nat.lt_of_lt_of_le hi h.size) (fun hs => hn (hm i hi hs))).trans (h.block i hi hn)⟩
/-- The slice u lies where v lay, or in a block that is new. -/
def Moved (w : World) (v u : Value) : Prop := u.ownBlock = v.ownBlock ∨ ∃ g, u.ownBlock = some g ∧ w.heap.size ≤ g
theorem Moved.own {w : World} {v u : Value} (h : Moved w v u) {b : Nat} : ∀ q, q < w.heap.size → u.ownBlock = some q → (q = b ∨ v.ownBlock = some q) := by
  intro q hq e
  rcases h with h | ⟨g, h, hg⟩
  · exact .inr (h ▸ e)
  · rw [h] at e; injection e with e; omega
/-- An encoder in the midst of a shift: what went out so far. -/
def MidAt (w wx : World) (T b base low size first : Nat) (m : Int) (closed : Bool) (v u : Value) (out : List UInt8) : Prop :=
  Pts wx b #[.int .u64 low, .int .u32 size, .int .u8 first, .int .i64 m, u, .bool closed] T ∧ OwnB wx 5 base u out ∧ Frm (fun x => x = b ∨ v.ownBlock = some x) w wx ∧ Moved w v u
theorem MidAt.nb {w wx : World} {T b base low size first : Nat} {m : Int} {closed : Bool} {v u : Value} {out : List UInt8} (h : MidAt w wx T b base low size first m closed v u out) (hT : T ≠ 5) : u.ownBlock ≠ some b := by
  intro hq
  obtain ⟨hp, ho, _⟩ := h
  rcases ho.form with ⟨e, _⟩ | ⟨g, cap, cur, e, _, hp', _⟩
  · rw [e] at hq; cases hq
  · rw [e] at hq
    injection hq with hq
    subst hq
    have e2 := hp'.symm.trans hp
    simp at e2
    exact hT e2.2.symm
theorem rep_snoc (out : List UInt8) (x y : UInt8) (j : Nat) : out ++ x :: List.replicate j y ++ [y] = out ++ x :: List.replicate (j + 1) y := by
  rw [List.replicate_succ', List.append_assoc]; rfl
set_option maxRecDepth 100000 in
set_option maxHeartbeats 2000000 in
theorem eshift_p (b base : Nat) (v : Value) (e : Enc) (w : World) (h : EncAt w 66 0 b base v e) (hbase : base ≤ w.heap.size) (hlen : e.cnt ≤ 1000000) :
    Calls Try.prog 34 #[.pointer (some ⟨b, 0, none⟩)] w fun r w' => ∃ v' : Value, r = .returned (.tuple #[]) ∧ EncAt w' 66 0 b base v' e.shift ∧ Frm (fun x => x = b ∨ v.ownBlock = some x) w w' ∧
      Moved w v v' := by
  obtain ⟨hp, ho, hk⟩ := h
  obtain ⟨low, size, first, more, out, closed⟩ := e
  obtain ⟨hl, hs⟩ := hk
  simp only [Enc.cnt] at hl hs hlen hp ho
  have hnb : v.ownBlock ≠ some b := by
    intro hq
    rcases ho.form with ⟨e, _⟩ | ⟨g, cap, cur, e, _, hp', _⟩
    · rw [e] at hq; cases hq
    · rw [e] at hq
      injection hq with hq
      subst hq
      have e2 := hp'.symm.trans hp
      simp at e2
  obtain ⟨A0, k0, rfl, hc0, hm0, hr0⟩ := ho.slice
  have c0 : w.cell? ⟨b, 0, none⟩ = some (.int .u64 low) := by rw [hp.cell]; rfl
  have c2 : w.cell? ⟨b, 2, none⟩ = some (.int .u8 (first.toNat : Int)) := by rw [hp.cell]; rfl
  have c3 : w.cell? ⟨b, 3, none⟩ = some (.int .i64 more) := by rw [hp.cell]; rfl
  have c4 : w.cell? ⟨b, 4, none⟩ = some (.slice A0 out.length k0) := by rw [hp.cell]; rfl
  have f0 := hp.frozen 0
  have f2 := hp.frozen 2
  have f3 := hp.frozen 3
  have f4 := hp.frozen 4
  obtain ⟨low2, hlow2⟩ : ∃ x, low * 256 % 4294967296 = x := ⟨_, rfl⟩
  have a1 : bits .and .u64 ((low : Int) * 256) 4294967295 = (low2 : Int) := by
    have h9 := and32_mod (x := low * 256) (by omega)
    rw [hlow2] at h9
    rw [← h9]; congr 1
  have hw64 : IntKind.u64.wrap ((low : Int) * 256) = (low : Int) * 256 := by rw [Go.IntWalk.u64_in _ (by omega)]
  have HP := Lib.hid hp
  have HO := Lib.hid ho
  have HNB := Lib.hid hnb
  clear hp ho hnb hr0
  have HL2 := Lib.hid hlow2
  have hk2 := (show Enc.Ok ⟨low, size, first, more, out, closed⟩ from ⟨hl, hs⟩).shift
  by_cases hrun : 4278190080 ≤ low ∧ low < 4294967296
  · have h1 : IntKind.u8.wrap ((low : Int) / 16777216) = 255 := by rw [IntKind.wrap_u8']; omega
    have h2 : IntKind.u8.wrap ((low : Int) / 4294967296) = 0 := by rw [IntKind.wrap_u8']; omega
    have e : Enc.shift ⟨low, size, first, more, out, closed⟩ = ⟨low2, size, first, more + 1, out, closed⟩ := by unfold Enc.shift; rw [if_pos hrun]; simp only [hlow2]
    rw [e] at hk2
    have HK := Lib.hid hk2
    have HE := Lib.hid e
    clear hrun hl hs hlow2 hk2 e
    go_enter Try.func34, Try.ntmps34
    go_step3
    go_wp2
    try rw [Exit.noGoto_ret]
    refine bodyPost_ret (results_none rfl _ _ _) rfl ?_
    rw [HE.out]
    exact ⟨_, rfl, ⟨(HP.out.set 0 (.int .u64 low2)).set 3 (.int .i64 ((more + 1 : Nat) : Int)), (HO.out.other (p := ⟨b, 0, none⟩) HNB.out _).other (p := ⟨b, 3, none⟩) HNB.out _, HK.out⟩, ((Frm.refl _ w).setCell (p := ⟨b, 0, none⟩) (.inl rfl) _).setCell (p := ⟨b, 3, none⟩) (.inl rfl) _, .inl rfl⟩
  · obtain ⟨hi, hhi⟩ : ∃ x : UInt8, UInt8.ofNat (low / 16777216) = x := ⟨_, rfl⟩
    obtain ⟨cv, hcv⟩ : ∃ x : UInt8, UInt8.ofNat (low / 4294967296) = x := ⟨_, rfl⟩
    have h1 : IntKind.u8.wrap ((low : Int) / 16777216) = (hi.toNat : Int) := by rw [IntKind.wrap_u8', ← hhi, UInt8.toNat_ofNat']; omega
    have h2 : IntKind.u8.wrap ((low : Int) / 4294967296) = (cv.toNat : Int) := by rw [IntKind.wrap_u8', ← hcv, UInt8.toNat_ofNat']; omega
    have e : Enc.shift ⟨low, size, first, more, out, closed⟩ = ⟨low2, size, hi, 0, out ++ (first + cv) :: List.replicate more (255 + cv), closed⟩ := by
      unfold Enc.shift Enc.carry; rw [if_neg hrun]; simp only [hlow2, hhi, hcv]
    rw [e] at hk2
    have hh : (hi.toNat ≠ 255) ∨ (hi.toNat = 255 ∧ cv.toNat ≠ 0) := by
      rw [← hhi, ← hcv, UInt8.toNat_ofNat', UInt8.toNat_ofNat']; omega
    have hx : IntKind.u8.wrap ((first.toNat : Int) + cv.toNat) = ((first + cv).toNat : Int) := by rw [IntKind.wrap_u8', UInt8.toNat_add]; omega
    have hy : IntKind.u8.wrap (255 + (cv.toNat : Int)) = ((255 + cv).toNat : Int) := by rw [IntKind.wrap_u8', UInt8.toNat_add]; show _ = ((((255 : UInt8).toNat + cv.toNat) % 2 ^ 8 : Nat) : Int); rw [show (255 : UInt8).toNat = 255 by rfl]; omega
    obtain ⟨x, hxx⟩ : ∃ x : UInt8, first + cv = x := ⟨_, rfl⟩
    obtain ⟨y, hyy⟩ : ∃ y : UInt8, 255 + cv = y := ⟨_, rfl⟩
    rw [hxx] at hx
    rw [hyy] at hy
    rw [hxx, hyy] at e hk2
    have HK := Lib.hid hk2
    have HE := Lib.hid e
    clear hrun hl hs hlow2 hk2 e hhi hcv hxx hyy
    have htest : ((hi.toNat : Int) == 255) = false ∨ (((hi.toNat : Int) == 255) = true ∧ ((cv.toNat : Int) == 0) = false) := by
      rcases hh with hh | ⟨hh, hh2⟩
      · left; exact beq_eq_false_iff_ne.2 (by omega)
      · right; exact ⟨by rw [hh]; rfl, beq_eq_false_iff_ne.2 (by omega)⟩
    clear hh
    rcases htest with ht | ⟨ht, ht2⟩
    all_goals
      go_enter Try.func34, Try.ntmps34
      go_step3
      go_wp2
      go_cut [3] from 38 to 52 (fun s3 wx => ∃ (A2 : Option Addr) (k2 : Nat), s3 = .int .u8 cv.toNat ∧ MidAt w wx 66 b base low2 size first.toNat more closed (.slice A0 out.length k0) (.slice A2 (out.length + 1) k2) (out ++ [x]))
      case first =>
        have P1 := HP.out.set 0 (.int .u64 low2)
        have O1 := HO.out.other (p := ⟨b, 0, none⟩) HNB.out (.int .u64 low2)
        have F1 := (Frm.refl (fun x => x = b ∨ (Value.slice A0 out.length k0).ownBlock = some x) w).setCell (p := ⟨b, 0, none⟩) (.inl rfl) (.int .u64 low2)
        have hb1 : base ≤ (w.setCell ⟨b, 0, none⟩ (.int .u64 low2)).heap.size := Nat.le_trans hbase F1.size
        generalize w.setCell ⟨b, 0, none⟩ (.int .u64 low2) = w1 at *
        have d2 : w1.cell? ⟨b, 2, none⟩ = some (.int .u8 (first.toNat : Int)) := by rw [P1.cell]; rfl
        have d4 : w1.cell? ⟨b, 4, none⟩ = some (.slice A0 out.length k0) := by rw [P1.cell]; rfl
        have g4 := P1.frozen 4
        have PA := P1.alloc (.cells #[.int .u8 (x.toNat : Int)] 5)
        have d2' : (w1.alloc (.cells #[.int .u8 (x.toNat : Int)] 5)).cell? ⟨b, 2, none⟩ = some (.int .u8 (first.toNat : Int)) := by rw [PA.cell]; rfl
        have d4' : (w1.alloc (.cells #[.int .u8 (x.toNat : Int)] 5)).cell? ⟨b, 4, none⟩ = some (.slice A0 out.length k0) := by rw [PA.cell]; rfl
        have g4' := PA.frozen 4
        clear PA
        have PP1 := Lib.hid P1
        have OO1 := Lib.hid O1
        have FF1 := Lib.hid F1
        have hll : out.length + [x].length ≤ 140737488355328 := by simp; omega
        have hb2 : base ≤ (w1.alloc (.cells #[.int .u8 (x.toNat : Int)] 5)).heap.size := by show base ≤ (w1.heap.push _).size; rw [Array.size_push]; omega
        clear P1 O1 F1 c0 c2 c3 c4 f0 f2 f3 f4
        go_region_law (refine stepR_append_bytes _ rfl (.tmp 42) (.tmp 49) 22 rfl 5 base Try.underlying22 Try.info_u8 (.slice A0 out.length k0) out rfl ((OO1.out.drewN 1).alloc _) (some ⟨w1.heap.size, 0, none⟩) 1 1 (w1.heap.size + 1) [x] rfl rfl (BRow.one (w1.drewN 1) _ x) hll hb2 ?_; intro v2 w2 hown2 hfrm2 hnew2; obtain ⟨A2, k2, rfl, hc2, hm2, hr2⟩ := hown2.slice; have hp2 := ((PP1.out.drewN 1).alloc _).frm hfrm2 (fun e => HNB.out e); have z4 : w2.cell? ⟨b, 4, none⟩ = some (.slice A0 out.length k0) := (hp2.cell 4).trans rfl; have y4 := hp2.frozen 4)
        all_goals
          have F2 : Frm (fun x => x = b ∨ (Value.slice A0 out.length k0).ownBlock = some x) w w2 := (((FF1.out.drewN 1).alloc _).trans (hfrm2.mono fun q _ hq => .inr hq))
          have M2 : Moved w (.slice A0 out.length k0) (.slice A2 (out.length + 1) k2) := by
            rw [List.length_append] at hnew2
            rcases hnew2 with h | h
            · exact .inl h
            · exact .inr ⟨_, h, by have h9 := FF1.out.size; show _ ≤ (w1.heap.push _).size; rw [Array.size_push]; omega⟩
          rw [List.length_append] at hown2
          have hp3 := hp2.set 4 (.slice A2 (out.length + 1) k2)
          go_wp2
          go_meet
          case rel =>
            have hb3 := HP.out.lt
            have hnb2 : (Value.slice A2 (out.length + 1) k2).ownBlock ≠ some b := by
              intro hq
              rcases M2 with h | ⟨g, h, hg⟩
              · exact HNB.out (h ▸ hq)
              · rw [h] at hq; injection hq with hq; omega
            exact ⟨A2, k2, rfl, hp3, hown2.other (p := ⟨b, 4, none⟩) hnb2 _, F2.setCell (p := ⟨b, 4, none⟩) (.inl rfl) _, M2⟩
      case rest =>
        obtain ⟨A2, k2, rfl, hmid⟩ := hcut
        have hb3 := HP.out.lt
        have MD := Lib.hid hmid
        clear hmid c0 c2 c3 c4 f0 f2 f3 f4
        go_wp2
        go_step3
        go_wp2
        go_loopg [57] more (fun gn s57 wr => ∃ (j : Nat) (A3 : Option Addr) (k3 : Nat), j + gn = more ∧ MidAt w wr 66 b base low2 size first.toNat ((more - j : Nat) : Int) closed (.slice A0 out.length k0) (.slice A3 (out.length + 1 + j) k3) (out ++ x :: List.replicate j y))
        case atStart => exact ⟨0, A2, k2, by omega, MD.out⟩
        case round =>
          obtain ⟨j, A3, k3, hj, hm⟩ := hrel
          clear MD
          obtain ⟨mj, hmj⟩ : ∃ mj, more - j = mj := ⟨_, rfl⟩
          rw [hmj] at hm
          have P3 := hm.1
          have NB3 := Lib.hid (hm.nb (by decide))
          have hbw := P3.lt
          have d3 : wr.cell? ⟨b, 3, none⟩ = some (.int .i64 mj) := by rw [P3.cell]; rfl
          have d4 : wr.cell? ⟨b, 4, none⟩ = some (.slice A3 (out.length + 1 + j) k3) := by rw [P3.cell]; rfl
          have d2 : wr.cell? ⟨b, 2, none⟩ = some (.int .u8 (first.toNat : Int)) := by rw [P3.cell]; rfl
          have g2 := P3.frozen 2
          have hws := hm.2.2.1.size
          have MM := Lib.hid hm
          have HJ := Lib.hid hj
          clear P3 hm hj
          cases mj with
          | succ m2 =>
            have hz : ((((m2 + 1 : Nat) : Int)) == 0) = false := beq_eq_false_iff_ne.2 (by omega)
            have hm21 : IntKind.i64.wrap (((m2 + 1 : Nat) : Int) - 1) = (m2 : Int) := by rw [Go.IntWalk.i64_in _ (by omega)]; omega
            obtain ⟨mi, hmi⟩ : ∃ mi : Int, ((m2 + 1 : Nat) : Int) = mi := ⟨_, rfl⟩
            rw [hmi] at hz hm21 d3
            have hmj2 := Lib.hid hmj
            have HMI := Lib.hid hmi
            clear hmj hmi
            go_wp2_with (at_builtin; refine wpList_append_bytes _ rfl (.tmp 62) (.tmp 65) 22 rfl 5 base Try.underlying22 Try.info_u8 (.slice A3 (out.length + 1 + j) k3) (out ++ x :: List.replicate j y) rfl ?own5 (some ⟨wr.heap.size, 0, none⟩) 1 1 (wr.heap.size + 1) [y] rfl rfl ?row5 ?len5 ?base5 ?next5)
            case own5 => exact MM.out.2.1.alloc _
            case row5 => exact BRow.one wr _ y
            case len5 => have := HJ.out; simp; omega
            case base5 => show base ≤ (wr.heap.push _).size; rw [Array.size_push]; omega
            case next5 =>
              intro v5 w5 hown5 hfrm5 hnew5
              obtain ⟨Y, hY⟩ : ∃ Y, Obj.cells #[.int .u8 (y.toNat : Int)] 5 = Y := ⟨_, rfl⟩
              rw [hY] at hfrm5
              have hp5 := (MM.out.1.alloc Y).frm hfrm5 (fun e => NB3.out e)
              have e3 : w5.cell? ⟨b, 3, none⟩ = some (.int .i64 mi) := by rw [hp5.cell, ← HMI.out]; rfl
              have e4 : w5.cell? ⟨b, 4, none⟩ = some (.slice A3 (out.length + 1 + j) k3) := by rw [hp5.cell]; rfl
              have k3f := hp5.frozen 3
              have k4f := hp5.frozen 4
              have hsY : (wr.alloc Y).heap.size = wr.heap.size + 1 := by show (wr.heap.push _).size = _; rw [Array.size_push]
              have F5 : Frm (fun x => x = b ∨ (Value.slice A0 out.length k0).ownBlock = some x) w w5 := (MM.out.2.2.1.alloc Y).transR hfrm5 (fun q hq e => MM.out.2.2.2.own q hq e)
              have hM5 : Moved w (.slice A0 out.length k0) v5 := by
                rcases hnew5 with h | h
                · rcases MM.out.2.2.2 with h2 | ⟨g, h2, hg⟩
                  · exact .inl (h.trans h2)
                  · exact .inr ⟨g, h.trans h2, hg⟩
                · exact .inr ⟨_, h, by omega⟩
              have hnb5 : v5.ownBlock ≠ some b := by
                intro hq
                rcases hM5 with h | ⟨g, h, hg⟩
                · exact HNB.out (h ▸ hq)
                · rw [h] at hq; injection hq with hq; omega
              rw [← List.replicate_succ'] at hown5
              have hl5 : (out ++ x :: List.replicate (j + 1) y).length = out.length + 1 + (j + 1) := by simp; omega
              obtain ⟨A5, k5, e5, _, _, _⟩ := hown5.slice
              rw [hl5] at e5
              subst e5
              have O5 := Lib.hid hown5
              have P5 := Lib.hid hp5
              have FF5 := Lib.hid F5
              have MM5 := Lib.hid hM5
              have NB5 := Lib.hid hnb5
              clear hown5 hfrm5 hnew5 hp5 F5 hM5 hnb5 hY hl5
              go_wp2
              go_roundg (more - (j + 1))
              case measure => have := HJ.out; have := hmj2.out; omega
              case rel =>
                refine ⟨j + 1, A5, k5, by have := HJ.out; have := hmj2.out; omega, ?_, (O5.out.other (p := ⟨b, 4, none⟩) NB5.out _).other (p := ⟨b, 3, none⟩) NB5.out _, (FF5.out.setCell (p := ⟨b, 4, none⟩) (.inl rfl) _).setCell (p := ⟨b, 3, none⟩) (.inl rfl) _, MM5.out⟩
                have hjm : more - (j + 1) = m2 := by have := hmj2.out; omega
                rw [hjm]
                exact (P5.out.set 4 _).set 3 _
          | zero =>
            obtain rfl : j = more := by have := HJ.out; omega
            have hz : ((((0 : Nat) : Int)) == 0) = true := rfl
            clear hmj
            go_wp2
            unfold Exit.noGoto
            go_end0
            rw [HE.out]
            exact ⟨_, rfl, ⟨MM.out.1.set 2 (.int .u8 (hi.toNat : Int)), MM.out.2.1.other (p := ⟨b, 2, none⟩) NB3.out _, HK.out⟩, MM.out.2.2.1.setCell (p := ⟨b, 2, none⟩) (.inl rfl) _, MM.out.2.2.2⟩
end Go.Proofs.Ytcnjbdaopphleaa
