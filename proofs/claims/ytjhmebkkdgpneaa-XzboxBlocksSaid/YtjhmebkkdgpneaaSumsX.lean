/- The contracts of XXH64's sum that grows. -/
import Derived.Test.YtjhmebkkdgpneaaSumsB
import Derived.Test.YtjhmebkkdgpneaaQTail
namespace Go.Proofs.Ytjhmebkkdgpneaa
open Go.RowKit

def xxhCells (L : Xxh.L4) (v : Value) (n : Int) : Array Value := #[.int .u64 L.a, .int .u64 L.b, .int .u64 L.c, .int .u64 L.d, v, .int .u64 n]
theorem xxhCells_set (L : Xxh.L4) (v : Value) (n : Int) (i : Nat) (x : Int) (hi : i < 4) : (xxhCells L v n).setIfInBounds i (.int .u64 x) = xxhCells (L.set i x) v n := by
  match i, hi with
  | 0, _ => rfl
  | 1, _ => rfl
  | 2, _ => rfl
  | 3, _ => rfl
/-- An XXH64 in memory, behind the bytes 'all'; v: the slice of the bytes that wait. -/
def XxhAt (w : World) (b : Nat) (v : Value) (all : List UInt8) : Prop :=
  Pts w b (xxhCells (Xxh.lanes all) v all.length) 85 ∧ OwnB w 5 (b + 1) v (Xxh.rest all)

theorem newXXH_any (w : World) :
    Calls Try.prog 48 #[] w fun e w' => e = .returned (.pointer (some ⟨w.heap.size, 0, none⟩)) ∧ XxhAt w' w.heap.size (.slice none 0 0) [] ∧ Below w.heap.size w w' := by
  go_enter Try.func48, Try.ntmps48
  go_wp2
  go_ret
  exact ⟨rfl, ⟨Pts.new _ _ _, OwnB.nil _ _ _⟩, (Below.refl _ _).alloc (Nat.le_refl _) _⟩

theorem Try.info_u8 : (Try.prog.info? 5).map (fun i => (i.zero, i.size, i.bytes)) = some (some (.int .u8 0), 1, 1) := by kernel_rfl

set_option maxHeartbeats 4000000 in
theorem xxhAdd_off (b : Nat) (v : Value) (all : List UInt8) (A : Option Addr) (bs : List UInt8) (c B : Nat) (w : World) (h : XxhAt w b v all) (hr : BRow w B A bs) (hoff : BOff (· = b) A bs) (hlen : all.length + bs.length ≤ 140737488355328) :
    Calls Try.prog 67 #[.pointer (some ⟨b, 0, none⟩), .slice A bs.length c] w fun e w' => e = .returned (.tuple #[]) ∧ ∃ v', XxhAt w' b v' (all ++ bs) ∧ (∀ k, v'.ownBlock = some k → v.ownBlock = some k ∨ w.heap.size ≤ k) ∧ Frm (fun k => k = b ∨ v.ownBlock = some k) w w' := by
  obtain ⟨hp, ho⟩ := h
  obtain ⟨A0, c0, rfl, hc0, hm0, hr0⟩ := ho.slice
  have k4 : w.cell? ⟨b, 4, none⟩ = some (.slice A0 (Xxh.rest all).length c0) := by rw [hp.cell]; rfl
  have k5 : w.cell? ⟨b, 5, none⟩ = some (.int .u64 (all.length : Int)) := by rw [hp.cell]; rfl
  have f4 := hp.frozen 4
  have f5 := hp.frozen 5
  have hrl := Xxh.rest_length all
  have hrl2 : (Xxh.rest all).length ≤ 31 := by omega
  have hrl3 : (Xxh.rest all).length ≤ all.length := by omega
  have HP := Lib.hid hp
  have HO := Lib.hid ho
  have HR := Lib.hid hr
  have HOFF := Lib.hid hoff
  have HRL := Lib.hid hrl
  clear hp ho hr hrl hr0 hoff
  have hlb := HP.out.lt
  go_enter Try.func67, Try.ntmps67
  go_wp2_with (at_builtin; refine wpList_append_bytes _ rfl (.tmp 20) (.tmp 21) 22 rfl 5 (b + 1) Try.underlying22 Try.info_u8 (.slice A0 (Xxh.rest all).length c0) (Xxh.rest all) rfl ?own A bs.length c B bs rfl rfl ?row ?len ?base ?k)
  case own => exact HO.out.other (by intro e; have h : b + 1 ≤ b := (HO.out.lt e).1; omega) _
  case row => exact HR.out.off HOFF.out ((Frm.refl _ _).setCell (by rfl) _)
  case len => omega
  case base => simp [World.setCell]; omega
  case k =>
    intro v' w1 hown hfrm hnew
    obtain ⟨A1, c1, rfl, hc1, hm1, hr1⟩ := hown.slice
    have hp1 : Pts w1 b (xxhCells (Xxh.lanes all) (.slice A0 (Xxh.rest all).length c0) ((all.length : Int) + bs.length)) 85 :=
      Pts.frm (Pts.set HP.out 5 _) hfrm (by intro e; have h : b + 1 ≤ b := (HO.out.lt e).1; omega)
    have g4 : w1.cell? ⟨b, 4, none⟩ = some (.slice A0 (Xxh.rest all).length c0) := by rw [hp1.cell]; rfl
    have e4 := hp1.frozen 4
    have hne : ∀ ad, A1 = some ad → ad.block ≠ b := by
      intro ad e
      have h := (hown.lt (k := ad.block) (by rw [e]; rfl)).1
      omega
    have HP1 := Lib.hid hp1
    have HOWN := Lib.hid hown
    have HFRM := Lib.hid hfrm
    have HNEW := Lib.hid hnew
    have HR1 := Lib.hid hr1
    have HNE := Lib.hid hne
    clear hp1 hown hfrm hnew hr1 hne
    have hsz : (Xxh.rest all ++ bs).length ≤ 140737488355328 := by rw [List.length_append]; omega
    have HL := Lib.hid (Xxh.lanes_append all bs)
    have HRA := Lib.hid (Xxh.rest_append all bs)
    generalize Xxh.rest all ++ bs = l at *
    have hp2 : Pts (w1.setCell ⟨b, 4, none⟩ (.slice A1 l.length c1)) b (xxhCells (Xxh.lanes all) (.slice A1 l.length c1) ((all.length : Int) + bs.length)) 85 := Pts.set HP1.out 4 _
    have HP2 := Lib.hid hp2
    have ho2 : OwnB (w1.setCell ⟨b, 4, none⟩ (.slice A1 l.length c1)) 5 (b + 1) (.slice A1 l.length c1) l := HOWN.out.other (by intro e; have h : b + 1 ≤ b := (HOWN.out.lt e).1; omega) _
    have HO2 := Lib.hid ho2
    clear hp2 ho2
    go_wp2
    generalize hw2 : w1.setCell ⟨b, 4, none⟩ (.slice A1 l.length c1) = w2 at *
    have HW2 := Lib.hid hw2
    have hrow2 : BRow w2 w2.heap.size A1 l := by
      obtain ⟨A2, c2, e, _, _, hr2⟩ := HO2.out.slice
      injection e with e1 e2 e3
      subst e1
      exact hr2
    have HRW := Lib.hid hrow2
    clear hw2 hrow2
    unfold maxLen at hm1
    go_loopw [4] (fun lv wr => ∃ (k ck : Nat) (Ak : Option Addr) (q : List UInt8), q = l.drop (32 * k) ∧ 32 * k ≤ l.length ∧ lv = .slice Ak q.length ck ∧ q.length ≤ ck ∧ ck ≤ 9223372036854775807 ∧ BRow w2 w2.heap.size Ak q ∧ (∀ ad, Ak = some ad → ad.block ≠ b) ∧
        Pts wr b (xxhCells (Xxh.eat k l (Xxh.lanes all)) (.slice A1 l.length c1) ((all.length : Int) + bs.length)) 85 ∧ Frm (· = b) w2 wr)
      (fun lv _ => match lv with | .slice _ n _ => n | _ => 0)
    case atStart => exact ⟨0, c1, A1, l, rfl, by omega, rfl, hc1, hm1, HRW.out, HNE.out, HP2.out, Frm.refl _ _⟩
    case round =>
      obtain ⟨k, ck, Ak, q, hq, hk, rfl, hlc, hck, hrow, hnek, hpk, hfk⟩ := hrel
      have HQ := Lib.hid hq
      clear hq
      by_cases h32 : 32 ≤ q.length
      · obtain ⟨ab, aoff, hA, hab, hcell⟩ := hrow (by omega)
        subst hA
        have hab2 := hnek _ rfl
        have HROW := Lib.hid hrow
        have HPK := Lib.hid hpk
        have HFK := Lib.hid hfk
        clear hrow hpk hfk hnek hcell
        go_wp2
        obtain ⟨wo, rfl⟩ : ∃ wo : World, wo = wr := ⟨_, rfl⟩
        go_loopw [34] (fun iv wr => ∃ i : Nat, i ≤ 4 ∧ iv = .int .i64 i ∧
            Pts wr b (xxhCells (Xxh.upd q i (Xxh.eat k l (Xxh.lanes all))) (.slice A1 l.length c1) ((all.length : Int) + bs.length)) 85 ∧ Frm (· = b) w2 wr) (fun iv _ => 4 - (intOf iv).toNat)
        case atStart => exact ⟨0, by omega, rfl, HPK.out, HFK.out⟩
        case round =>
          obtain ⟨i, hi, rfl, hpi, hfi⟩ := hrel
          by_cases hi4 : i < 4
          · have hu : Xxh.upd q (i + 1) (Xxh.eat k l (Xxh.lanes all)) = (Xxh.upd q i (Xxh.eat k l (Xxh.lanes all))).set i (Xxh.round ((Xxh.upd q i (Xxh.eat k l (Xxh.lanes all))).get i) (Xxh.le ((q.drop (8 * i)).take 8))) := rfl
            have HU := Lib.hid hu
            clear hu
            generalize Xxh.upd q i (Xxh.eat k l (Xxh.lanes all)) = M at *
            have ci : wr.cell? ⟨b, i, none⟩ = some (.int .u64 (M.get i)) := by
              rw [hpi.cell]
              match i, hi4 with
              | 0, _ => rfl
              | 1, _ => rfl
              | 2, _ => rfl
              | 3, _ => rfl
            have fi := hpi.frozen i
            have hrow8 : BRow wr w2.heap.size (some ⟨ab, aoff + 8 * i, none⟩) ((q.drop (8 * i)).take 8) := by
              have h := ((HROW.out.away (b := b) (by intro ad e; injection e with e; subst e; exact hab2) hfi).drop (k := 8 * i) (cap := ck) hlc).take 8
              rw [if_neg (by omega)] at h
              simpa [Opn.add_at] using h
            have hl8 : ((q.drop (8 * i)).take 8).length = 8 := by rw [List.length_take, List.length_drop]; omega
            have HR8 := Lib.hid hrow8
            have HL8 := Lib.hid hl8
            have HPI := Lib.hid hpi
            have HFI := Lib.hid hfi
            clear hrow8 hl8 hpi hfi
            have hlit : ∀ n, Calls Try.prog 70 #[.slice (some ⟨ab, aoff + 8 * i, none⟩) 8 (ck - 8 * i)] (wr.drewN n) fun e w' => e = .returned (.int .u64 (Xxh.le ((q.drop (8 * i)).take 8) : Int)) ∧ w' = wr.drewN n := fun n =>
              (little_any _ ((q.drop (8 * i)).take 8) w2.heap.size _ _ _ (HR8.out.drewN n) (by rw [HL8.out]) (by rw [HL8.out]; omega)).mono fun _ _ h => ⟨h.1, h.2.symm⟩
            have HLIT := Lib.hid hlit
            clear hlit
            have hii : (i : Int) < 4 := by omega
            have hi0 : 0 ≤ (i : Int) := by omega
            have a1 : IntKind.i64.wrap (8 * (i : Int)) = 8 * (i : Int) := IntWalk.i64_in _ (by omega)
            have a2 : IntKind.i64.wrap (8 * (i : Int) + 8) = 8 * (i : Int) + 8 := IntWalk.i64_in _ (by omega)
            have a3 : (8 * (i : Int)).toNat = 8 * i := by omega
            have a4 : (8 * (i : Int) + 8).toNat = 8 * i + 8 := by omega
            have a5 : 0 ≤ 8 * (i : Int) := by omega
            have a6 : 0 ≤ 8 * (i : Int) + 8 := by omega
            have a7 : 8 * (i : Int) ≤ 8 * (i : Int) + 8 := by omega
            have a8 : 8 * (i : Int) + 8 ≤ (ck : Int) := by omega
            have a9 : ¬ ck = 8 * i := by omega
            go_wp2
            refine QTail.wp_region_qtail_lit 20 (by kernel_rfl) (by kernel_rfl) ?_
            simp only [List.take_succ_cons, List.take_zero, List.drop_succ_cons, List.drop_zero]
            repeat (go_big_quiet_step (first | (go_at_call 70; exact Calls.quiet_of_same (HLIT.out _)) | (go_at_call 69; exact Calls.quiet_of (round_any _ _ _))))
            refine wpQuiet_nil ?_
            rintro w' ⟨nq, rfl⟩
            go_wp2
            refine ⟨⟨i + 1, by omega, by go_num, ?_, (Frm.drewN HFI.out nq).setCell (by rfl) _⟩, by simp [intOf]; omega⟩
            rw [HU.out, ← xxhCells_set _ _ _ _ _ hi4]
            exact Pts.set (HPI.out.drewN nq) i _
          · have hi44 : i = 4 := by omega
            subst hi44
            have HPI := Lib.hid hpi
            have HFI := Lib.hid hfi
            clear hpi hfi HPK HFK
            have hrow' : BRow w2 w2.heap.size (if ck = 32 then (some ⟨ab, aoff, none⟩) else some ⟨ab, aoff + 32, none⟩) (q.drop 32) := by
              have h := HROW.out.drop (k := 32) (cap := ck) hlc
              rw [Option.map_some, Opn.add_at] at h
              exact h
            have hld : (q.drop 32).length = q.length - 32 := List.length_drop
            have HLD := Lib.hid hld
            have HROW' := Lib.hid hrow'
            have hq32 : 32 * (k + 1) ≤ l.length := by
              have h := congrArg List.length HQ.out
              rw [List.length_drop] at h
              omega
            have hqq : q.drop 32 = l.drop (32 * (k + 1)) := by rw [HQ.out, List.drop_drop, show 32 * k + 32 = 32 * (k + 1) by omega]
            have heat : Xxh.upd q 4 (Xxh.eat k l (Xxh.lanes all)) = Xxh.eat (k + 1) l (Xxh.lanes all) := by rw [Xxh.eat_succ, ← HQ.out]
            have HQQ := Lib.hid hqq
            have HEAT := Lib.hid heat
            clear hrow' hld hqq heat
            by_cases hck32 : ck = 32
            · subst hck32
              go_wp2
              refine ⟨⟨k + 1, 0, some ⟨ab, aoff, none⟩, q.drop 32, HQQ.out, hq32, by rw [show (q.drop 32).length = 0 by rw [HLD.out]; omega], by rw [HLD.out]; omega, by omega, by simpa using HROW'.out, by intro ad e; injection e with e; subst e; exact hab2, by rw [← HEAT.out]; exact HPI.out, HFI.out⟩, by simp; omega⟩
            · go_wp2
              refine ⟨⟨k + 1, ck - 32, some ⟨ab, aoff + 32, none⟩, q.drop 32, HQQ.out, hq32, by rw [HLD.out], by rw [HLD.out]; omega, by omega, by simpa [hck32] using HROW'.out, by intro ad e; injection e with e; subst e; exact hab2, by rw [← HEAT.out]; exact HPI.out, HFI.out⟩, by simp; omega⟩
      · have hkk : k = l.length / 32 := by
          have h := congrArg List.length HQ.out
          rw [List.length_drop] at h
          omega
        have hown : OwnB wr 5 (b + 1) (.slice A1 l.length c1) l := HO2.out.frm hfk (by intro x hx e; have h : b + 1 ≤ x := (HO2.out.lt hx).1; omega)
        have hown0 := hown.cut (k := 0) (by omega)
        have h4 : wr.cell? ⟨b, 4, none⟩ = some (.slice A1 l.length c1) := by rw [hpk.cell]; rfl
        have e4 := hpk.frozen 4
        have hroww : BRow wr w2.heap.size Ak q := hrow.away hnek hfk
        have HOW0 := Lib.hid hown0
        have HROWW := Lib.hid hroww
        have HPK := Lib.hid hpk
        have HFK := Lib.hid hfk
        have HKK := Lib.hid hkk
        have HNK := Lib.hid hnek
        clear hown hown0 hroww hpk hfk hkk hrow hnek
        go_wp2_with (at_builtin; refine wpList_append_bytes _ rfl (.tmp 63) (.tmp 64) 22 rfl 5 (b + 1) Try.underlying22 Try.info_u8 (.slice A1 0 c1) (l.take 0) rfl ?own2 Ak q.length ck w2.heap.size q rfl rfl ?row2 ?len2 ?base2 ?k2)
        case own2 => exact HOW0.out
        case row2 => exact HROWW.out
        case len2 => simp; omega
        case base2 => have h := HPK.out.lt; omega
        case k2 =>
          intro v' w3 hown3 hfrm3 hnew3
          obtain ⟨A3, c3, rfl, hc3, hm3, hr3⟩ := hown3.slice
          have hown3' : OwnB w3 5 (b + 1) (.slice A3 q.length c3) q := hown3
          have hp3 : Pts w3 b (xxhCells (Xxh.eat k l (Xxh.lanes all)) (.slice A1 l.length c1) ((all.length : Int) + bs.length)) 85 :=
            Pts.frm HPK.out hfrm3 (by intro e; have h : b + 1 ≤ b := (HOW0.out.lt e).1; omega)
          have g4 : w3.cell? ⟨b, 4, none⟩ = some (.slice A1 l.length c1) := by rw [hp3.cell]; rfl
          have e4 := hp3.frozen 4
          have HP3 := Lib.hid hp3
          have HO3 := Lib.hid hown3'
          have HF3 := Lib.hid hfrm3
          have HN3 := Lib.hid hnew3
          clear hp3 hown3 hown3' hfrm3 hnew3 hr3 h4
          go_wp2
          go_end0
          have hobk : ∀ (a : Option Addr) (n m c d : Nat), (Value.slice a n c).ownBlock = (Value.slice a m d).ownBlock := by
            intro a n m c d; cases a <;> rfl
          have hsz12 : w.heap.size ≤ w1.heap.size := by have h := HFRM.out.size; simpa [World.setCell] using h
          have hsz2 : w2.heap.size = w1.heap.size := by rw [← HW2.out]; simp [World.setCell]
          have hsz23 := HFK.out.size
          have hA1 : ∀ x, (Value.slice A1 l.length c1).ownBlock = some x → (Value.slice A0 (Xxh.rest all).length c0).ownBlock = some x ∨ w.heap.size ≤ x := by
            intro x hx
            rcases HNEW.out with e | e
            · rw [e] at hx; exact .inl hx
            · rw [e] at hx; injection hx with hx; exact .inr (by omega)
          have hA3 : ∀ x, (Value.slice A3 q.length c3).ownBlock = some x → (Value.slice A0 (Xxh.rest all).length c0).ownBlock = some x ∨ w.heap.size ≤ x := by
            intro x hx
            rcases HN3.out with e | e
            · have e2 : (Value.slice A3 q.length c3).ownBlock = (Value.slice A1 l.length c1).ownBlock := e.trans (hobk A1 0 l.length c1 c1)
              rw [e2] at hx
              exact hA1 x hx
            · have e2 : (Value.slice A3 q.length c3).ownBlock = some wr.heap.size := e
              rw [e2] at hx; injection hx with hx; exact .inr (by omega)
          refine ⟨rfl, .slice A3 q.length c3, ⟨?_, ?_⟩, hA3, ?_⟩
          · rw [HL.out, ← HKK.out, show ((all ++ bs).length : Int) = (all.length : Int) + bs.length by rw [List.length_append]; omega]
            exact Pts.set HP3.out 4 _
          · rw [HRA.out, ← HKK.out, ← HQ.out]
            exact HO3.out.other (by intro e; have h : b + 1 ≤ b := (HO3.out.lt e).1; omega) _
          · have f1 : Frm (fun x => x = b ∨ (Value.slice A0 (Xxh.rest all).length c0).ownBlock = some x) w w1 :=
              (((Frm.refl _ w).setCell (p := ⟨b, 5, none⟩) (.inl rfl) _)).trans (HFRM.out.mono fun x _ hx => .inr hx)
            have f2 : Frm (fun x => x = b ∨ (Value.slice A0 (Xxh.rest all).length c0).ownBlock = some x) w w2 := by
              rw [← HW2.out]; exact f1.setCell (p := ⟨b, 4, none⟩) (.inl rfl) _
            have f3 : Frm (fun x => x = b ∨ (Value.slice A0 (Xxh.rest all).length c0).ownBlock = some x) w wr := f2.trans (HFK.out.mono fun x _ hx => .inl hx)
            refine Frm.setCell ⟨HF3.out.os.trans f3.os, HF3.out.tape.trans f3.tape, HF3.out.output.trans f3.output, Nat.le_trans f3.size HF3.out.size, fun x hx hn => ?_⟩ (.inl rfl) _
            rw [← f3.block x hx hn]
            refine HF3.out.block x (Nat.lt_of_lt_of_le hx f3.size) (fun e => ?_)
            have e2 : (Value.slice A1 l.length c1).ownBlock = some x := (hobk A1 l.length 0 c1 c1).trans e
            rcases hA1 x e2 with h | h
            · exact hn (.inr h)
            · omega
theorem xxhAdd_any (b : Nat) (v : Value) (all : List UInt8) (A : Option Addr) (bs : List UInt8) (c B : Nat) (w : World) (h : XxhAt w b v all) (hr : BRow w B A bs) (hB : B ≤ b) (hlen : all.length + bs.length ≤ 140737488355328) :
    Calls Try.prog 67 #[.pointer (some ⟨b, 0, none⟩), .slice A bs.length c] w fun e w' => e = .returned (.tuple #[]) ∧ ∃ v', XxhAt w' b v' (all ++ bs) ∧ (∀ k, v'.ownBlock = some k → v.ownBlock = some k ∨ w.heap.size ≤ k) ∧ Frm (fun k => k = b ∨ v.ownBlock = some k) w w' :=
  xxhAdd_off b v all A bs c B w h hr (BOff.of_row hr fun k hk => by omega) hlen
end Go.Proofs.Ytjhmebkkdgpneaa
