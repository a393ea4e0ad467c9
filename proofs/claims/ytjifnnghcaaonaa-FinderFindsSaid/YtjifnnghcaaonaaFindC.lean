/- The contracts of the chains: at, add, longest. -/
import Derived.Test.YtjifnnghcaaonaaChecked
import Derived.Test.YtjifnnghcaaonaaFindQ
import Derived.Test.YtjifnnghcaaonaaFindB
namespace Go.Proofs.Ytjifnnghcaaonaa
open Go.RowKit Fnd
set_option linter.unusedVariables false
set_option linter.unusedSimpArgs false

theorem slice_mid (A : Option Addr) (n c f m : Nat) (hf : f + m ≤ n) (hn : n ≤ c) (w : World) :
    (Instr.sliceAt 22 (.slice A n c) (some (.int .i64 (f : Int))) (some (.int .i64 (f + m : Int))) none).run Try.prog w = .ok (.slice (if c = f then A else A.map (·.add f)) m (c - f)) w := by
  have e : ((f : Int) + m).toNat = f + m := by omega
  by_cases hcf : c = f
  · simp [go_sem, hcf, e]
    intro h; exact absurd (h (by omega)) (by omega)
  · simp [go_sem, hcf, e]
    intro h; exact absurd (h (by omega)) (by omega)

theorem at_no (bc : Nat) (A : Option Addr) (n cap key i : Nat) (mv pv : Value) (w : World) (hc : Pts w bc #[.slice A n cap, .int .i64 key, mv, pv] 46)
    (hi : n < i + key) (hcap : n ≤ cap) (hcm : cap ≤ maxLen) (hi2 : i ≤ n) (hk : key ≤ 4) (hb : n ≤ 1048576) :
    Calls Try.prog 19 #[.pointer (some ⟨bc, 0, none⟩), .int .i64 i] w fun e w' => e = .returned (.tuple #[.int .u32 0, .bool false]) ∧ ∃ d, w' = w.drewN d := by
  have c0 : w.cell? ⟨bc, 0, none⟩ = some (.slice A n cap) := by rw [hc.cell]; rfl
  have c1 : w.cell? ⟨bc, 1, none⟩ = some (.int .i64 key) := by rw [hc.cell]; rfl
  unfold maxLen at hcm
  clear hc
  go_enter Try.func19, Try.ntmps19
  go_wp2
  go_quiet (fail)
  go_wp2
  go_ret2
  exact ⟨rfl, _, rfl⟩

theorem at_any (bc : Nat) (A : Option Addr) (bs : List UInt8) (cap key i : Nat) (mv pv : Value) (w : World) (hc : Pts w bc #[.slice A bs.length cap, .int .i64 key, mv, pv] 46)
    (hr : BRow w w.heap.size A bs) (hcap : bs.length ≤ cap) (hcm : cap ≤ maxLen) (hi : i + key ≤ bs.length) (hb : bs.length ≤ 1048576) :
    Calls Try.prog 19 #[.pointer (some ⟨bc, 0, none⟩), .int .i64 i] w fun e w' => e = .returned (.tuple #[.int .u32 (keyAt bs key i), .bool true]) ∧ ∃ d, w' = w.drewN d := by
  have HR := Lib.hid ((hr.drop (k := i) hcap).take key)
  have hs := fun w => slice_mid A bs.length cap i key hi hcap w
  generalize (if cap = i then A else A.map (·.add i)) = Ar at *
  have c0 : w.cell? ⟨bc, 0, none⟩ = some (.slice A bs.length cap) := by rw [hc.cell]; rfl
  have c1 : w.cell? ⟨bc, 1, none⟩ = some (.int .i64 key) := by rw [hc.cell]; rfl
  have hlen : ((bs.drop i).take key).length = key := by rw [List.length_take, List.length_drop]; omega
  have HLEN := Lib.hid hlen
  have hkd : keyAt bs key i = keyFold ((bs.drop i).take key) := rfl
  generalize (bs.drop i).take key = l at *
  generalize keyAt bs key i = kk at *
  have HK := Lib.hid hkd
  unfold maxLen at hcm
  clear hr hc hlen hkd
  go_enter Try.func19, Try.ntmps19
  go_wp2
  go_quiet (fail)
  go_wp2
  go_quiet (fail)
  go_wp2
  clear hs
  go_loopw [4, 33] (fun kv iv wr => ∃ (t : Nat), t ≤ key ∧ iv = .int .i64 t ∧ kv = .int .u32 (keyFold (l.take t)) ∧ ∃ d, wr = w.drewN d) (fun _ iv _ => key - (intOf iv).toNat)
  case atStart => exact ⟨0, by omega, rfl, rfl, _, World.drewN_drewN _ _ _⟩
  case round =>
    obtain ⟨t, ht, rfl, rfl, dd, rfl⟩ := hrel
    by_cases htk : t < key
    · obtain ⟨b, off, rfl, hb1, hcc⟩ := HR.out (by rw [HLEN.out]; omega)
      have hc1 := hcc t (by rw [HLEN.out]; omega)
      have hcw : (w.drewN dd).cell? ⟨b, off + t, none⟩ = _ := hc1
      have HF := Lib.hid (keyFold_take (l := l) (t := t) (by rw [HLEN.out]; omega))
      clear hc1 hcc
      unfold byteV at hcw
      generalize l.getD t 0 = x at *
      generalize keyFold (l.take t) = y at *
      have HC := Lib.hid (keyStep_cast y x)
      go_wp2
      exact ⟨⟨t + 1, by omega, by go_num, by rw [HF.out, ← HC.out], _, rfl⟩, by simp [intOf]; omega⟩
    · obtain rfl : t = key := by omega
      have hF : kk = keyFold (l.take t) := by rw [HK.out, List.take_of_length_le (by rw [HLEN.out]; exact Nat.le_refl _)]
      have HF := Lib.hid hF
      clear hF
      generalize keyFold (l.take t) = y at *
      go_wp2
      go_ret2
      exact ⟨by rw [HF.out]; rfl, _, rfl⟩

theorem wf_u32 {a : Int} (h0 : 0 ≤ a) (h : a < 4294967296) : (Lit.int .u32 a).wf = true := by
  simp [Lit.wf, IntKind.min, IntKind.max, IntKind.signed, IntKind.bits]; omega
theorem wf_i64 {a : Int} (h0 : -9223372036854775808 ≤ a) (h : a ≤ 9223372036854775807) : (Lit.int .i64 a).wf = true := by
  simp [Lit.wf, IntKind.min, IntKind.max, IntKind.signed, IntKind.bits]; omega
theorem Try.law_u32 : Go.Maps.Keyed Try.prog 51 := Go.Maps.int_keyed Try.underlying51
theorem Try.zero_int (w : World) : (zeroValue 3).run Try.prog w = .ok (.int .i64 0) w := by kernel_rfl
def prevCells (prev : List Int) : Array Value := (prev.map (Value.int .i64)).toArray
theorem prevCells_set (prev : List Int) (i : Nat) (x : Int) : (prevCells prev).setIfInBounds i (.int .i64 x) = prevCells (prev.set i x) := by
  unfold prevCells
  apply Array.toList_inj.1
  simp [List.map_set]
theorem prevCells_get (prev : List Int) (i : Nat) (h : i < prev.length) : (prevCells prev)[i]? = some (.int .i64 (prev.getD i 0)) := by
  unfold prevCells
  simp [List.getD, h]

/-- The chains in memory. -/
structure ChainAt (w : World) (B bc bp bm : Nat) (A : Option Addr) (cap : Nat) (bs : List UInt8) (key cnt : Nat) (f : Int → Option Int) (prev : List Int) : Prop where
  c : Pts w bc #[.slice A bs.length cap, .int .i64 key, .map (some bm), .slice (some ⟨bp, 0, none⟩) bs.length bs.length] 46
  p : Pts w bp (prevCells prev) 3
  n : prev.length = bs.length
  m : ∃ D, w.ownsMap Try.prog 51 (plainElem Try.prog 3) bm cnt D ∧ MapIs D f
  row : BRow w B A bs
  hc : B ≤ bc
  hp : B ≤ bp
  hm : B ≤ bm
section
variable {w w' : World} {B bc bp bm : Nat} {A : Option Addr} {cap : Nat} {bs : List UInt8} {key cnt : Nat} {f : Int → Option Int} {prev : List Int}
theorem ChainAt.ne (h : ChainAt w B bc bp bm A cap bs key cnt f prev) : bc ≠ bp ∧ bc ≠ bm ∧ bp ≠ bm := by
  obtain ⟨D, hD, _⟩ := h.m
  obtain ⟨es, cl, hb, _⟩ := hD
  refine ⟨?_, ?_, ?_⟩
  · rintro rfl
    have e := h.c.symm.trans h.p
    simp at e
  · rintro rfl
    have e := h.c.symm.trans hb
    cases e
  · rintro rfl
    have e := h.p.symm.trans hb
    cases e
theorem ChainAt.lt (h : ChainAt w B bc bp bm A cap bs key cnt f prev) : bc < w.heap.size ∧ bp < w.heap.size ∧ bm < w.heap.size := by
  obtain ⟨D, hD, _⟩ := h.m
  exact ⟨h.c.lt, h.p.lt, World.ownsMap.lt hD⟩
theorem ChainAt.frm {S : Nat → Prop} (h : ChainAt w B bc bp bm A cap bs key cnt f prev) (hf : Frm S w w') (h1 : ¬ S bc) (h2 : ¬ S bp) (h3 : ¬ S bm) (h4 : ∀ k, S k → B ≤ k) : ChainAt w' B bc bp bm A cap bs key cnt f prev := by
  obtain ⟨D, hD, hM⟩ := h.m
  exact ⟨h.c.frm hf h1, h.p.frm hf h2, h.n, ⟨D, World.ownsMap.frm hD hf h3, hM⟩, h.row.below (hf.below (Nat.le_trans h.hc (Nat.le_of_lt h.c.lt)) h4), h.hc, h.hp, h.hm⟩
theorem ChainAt.mono (h : ChainAt w B bc bp bm A cap bs key cnt f prev) {cnt' : Nat} (hn : cnt ≤ cnt') : ChainAt w B bc bp bm A cap bs key cnt' f prev := by
  obtain ⟨D, hD, hM⟩ := h.m
  exact ⟨h.c, h.p, h.n, ⟨D, World.ownsMap.mono hD hn, hM⟩, h.row, h.hc, h.hp, h.hm⟩
end

def addF (bs : List UInt8) (key i : Nat) (f : Int → Option Int) : Int → Option Int :=
  if i + key ≤ bs.length then (fun x => if x = (keyAt bs key i : Int) then some (i : Int) else f x) else f
def addP (bs : List UInt8) (key i : Nat) (f : Int → Option Int) : Int :=
  if i + key ≤ bs.length then (f (keyAt bs key i)).getD (-1) else -1

set_option maxRecDepth 100000 in
theorem add_any (B bc bp bm : Nat) (A : Option Addr) (cap : Nat) (bs : List UInt8) (key cnt i : Nat) (f : Int → Option Int) (prev : List Int) (w : World) (hC : ChainAt w B bc bp bm A cap bs key cnt f prev)
    (hcap : bs.length ≤ cap) (hcm : cap ≤ maxLen) (hb : bs.length ≤ 1048576) (hk : key ≤ 4) (hi : i < bs.length) (hcnt : cnt ≤ 10000000) (hf : ∀ k p, f k = some p → (Lit.int .i64 p).wf = true) :
    Calls Try.prog 16 #[.pointer (some ⟨bc, 0, none⟩), .int .i64 i] w fun e w' => e = .returned (.tuple #[]) ∧
      ChainAt w' B bc bp bm A cap bs key (cnt + 1) (addF bs key i f) (prev.set i (addP bs key i f)) ∧ Frm (fun k => k = bp ∨ k = bm) w w' := by
  obtain ⟨n1, n2, n3⟩ := hC.ne
  obtain ⟨l1, l2, l3⟩ := hC.lt
  have c0 : w.cell? ⟨bc, 0, none⟩ = some (.slice A bs.length cap) := by rw [hC.c.cell]; rfl
  have c1 : w.cell? ⟨bc, 1, none⟩ = some (.int .i64 key) := by rw [hC.c.cell]; rfl
  have c2 : w.cell? ⟨bc, 2, none⟩ = some (.map (some bm)) := by rw [hC.c.cell]; rfl
  have c3 : w.cell? ⟨bc, 3, none⟩ = some (.slice (some ⟨bp, 0, none⟩) bs.length bs.length) := by rw [hC.c.cell]; rfl
  have p0 : w.cell? ⟨bp, i, none⟩ = some (.int .i64 (prev.getD i 0)) := by rw [hC.p.cell, prevCells_get _ _ (by rw [hC.n]; exact hi)]
  have p1 : w.frozen? ⟨bp, i, none⟩ = false := hC.p.frozen _
  have hw1 : Frm (fun k => k = bp) w (w.setCell ⟨bp, i, none⟩ (.int .i64 (-1))) := (Frm.refl _ _).setCell (by rfl) _
  have hpts : Pts (w.setCell ⟨bp, i, none⟩ (.int .i64 (-1))) bc _ _ := hC.c.other (by exact n1) _
  have hset : Pts (w.setCell ⟨bp, i, none⟩ (.int .i64 (-1))) bp (prevCells (prev.set i (-1))) 3 := by rw [← prevCells_set]; exact hC.p.set _ _
  by_cases hik : i + key ≤ bs.length
  · obtain ⟨D, hD, hM⟩ := hC.m
    have hrow1 := (hC.row.below (hw1.below (Nat.le_trans hC.hc (Nat.le_of_lt l1)) (fun k hk => by subst hk; exact hC.hp))).more (B' := (w.setCell ⟨bp, i, none⟩ (.int .i64 (-1))).heap.size) (by have := hw1.size; exact Nat.le_trans (Nat.le_trans hC.hc (Nat.le_of_lt l1)) this)
    have hmap1 := World.ownsMap.frm hD hw1 (fun e => n3 e.symm)
    have HROW := Lib.hid hrow1
    have HMAP := Lib.hid hmap1
    have hCC := Lib.hid hC
    have hPP := Lib.hid hpts
    have hSS := Lib.hid hset
    have HM := Lib.hid hM
    have hW := Lib.hid hw1
    have hF : addF bs key i f = (fun x => if x = (keyAt bs key i : Int) then some (i : Int) else f x) := if_pos hik
    have hP : addP bs key i f = (f (keyAt bs key i)).getD (-1) := if_pos hik
    have hkl : keyAt bs key i < 4294967296 := keyFold_lt _
    have hkey : keyOf Try.prog 51 (.int .u32 (keyAt bs key i)) = some (.int .u32 (keyAt bs key i)) := Go.Maps.keyOf_int_mk Try.underlying51 (wf_u32 (by omega) (by omega))
    have HAT := Lib.hid (fun (w : World) hc hr => at_any bc A bs cap key i (.map (some bm)) (.slice (some ⟨bp, 0, none⟩) bs.length bs.length) w hc hr hcap hcm hik hb)
    rw [hF, hP]
    obtain ⟨hh, hv⟩ := hM.2 (keyAt bs key i)
    clear hrow1 hmap1 hC hpts hset hM hw1 hF hP
    generalize keyAt bs key i = kk at *
    have hwfi : (Lit.int .i64 (i : Int)).wf = true := wf_i64 (by omega) (by omega)
    have x3 : (w.setCell ⟨bp, i, none⟩ (.int .i64 (-1))).cell? ⟨bc, 3, none⟩ = some (.slice (some ⟨bp, 0, none⟩) bs.length bs.length) := by rw [hPP.out.cell]; rfl
    have x2 : (w.setCell ⟨bp, i, none⟩ (.int .i64 (-1))).cell? ⟨bc, 2, none⟩ = some (.map (some bm)) := by rw [hPP.out.cell]; rfl
    have x4 : (w.setCell ⟨bp, i, none⟩ (.int .i64 (-1))).cell? ⟨bp, i, none⟩ = some (.int .i64 (-1)) := by rw [hSS.out.cell, prevCells_get _ _ (by simp [hCC.out.n]; exact hi)]; simp [List.getD, hCC.out.n, hi]
    cases hfk : f kk with
    | none =>
      rw [hfk] at hh
      simp only [Option.isSome_none] at hh
      have HV := Lib.hid hv
      have HFK := Lib.hid hfk
      clear hv hfk hf
      go_enter Try.func16, Try.ntmps16
      go_wp2_with (first
        | (go_at_call 19; refine (HAT.out _ hPP.out HROW.out).mono ?_; rintro e w1 ⟨rfl, d, rfl⟩)
        | (at_lookup; refine Go.wpList_lookup_own_ok_int _ rfl (.tmp 25) (.tmp 26) 44 rfl 51 3 .i64 Try.law_u32 Try.underlying44 Try.underlying3 (Try.zero_int _) bm cnt D rfl HMAP.out _ _ rfl hkey ?_; intro c hat hwc)
        | (at_mapUpdate; refine Go.wpList_mapUpdate_own _ rfl (.tmp 41) (.tmp 42) (.tmp 43) 44 rfl 51 3 Try.law_u32 Try.underlying44 (plainElem Try.prog 3) bm cnt D rfl HMAP.out (by unfold maxLen; omega) _ _ _ rfl rfl hkey _ [] (plainElem_int Try.underlying3 hwfi) ?_; intro w2 hown2 hgr2)
        | go_in)
      go_end0
      have hF2 : Frm (fun k => k = bm) ((w.setCell ⟨bp, i, none⟩ (.int .i64 (-1))).drewN d) w2 := ⟨hgr2.os, hgr2.tape, hgr2.output, hgr2.size, fun k hk hn => hgr2.block k hk (fun e => hn (by injection e))⟩
      have hF3 : Frm (fun k => k = bp ∨ k = bm) w w2 := ((hW.out.drewN d).mono (fun k _ hk => .inl hk)).trans (hF2.mono (fun k _ hk => .inr hk))
      exact ⟨rfl, ⟨(hPP.out.drewN d).frm hF2 n2, (hSS.out.drewN d).frm hF2 n3, by simp [hCC.out.n], ⟨_, hown2, HM.out.put _ _⟩,
        hCC.out.row.below (hF3.below (Nat.le_trans hCC.out.hc (Nat.le_of_lt l1)) (fun k hk => by rcases hk with rfl | rfl; exact hCC.out.hp; exact hCC.out.hm)), hCC.out.hc, hCC.out.hp, hCC.out.hm⟩, hF3⟩
    | some p =>
      rw [hfk] at hh
      simp only [Option.isSome_some] at hh
      have HV := Lib.hid (hv p hfk)
      have HFK := Lib.hid hfk
      clear hv hfk hf
      go_enter Try.func16, Try.ntmps16
      go_wp2_with (first
        | (go_at_call 19; refine (HAT.out _ hPP.out HROW.out).mono ?_; rintro e w1 ⟨rfl, d, rfl⟩)
        | (at_lookup; refine Go.wpList_lookup_own_ok_int _ rfl (.tmp 25) (.tmp 26) 44 rfl 51 3 .i64 Try.law_u32 Try.underlying44 Try.underlying3 (Try.zero_int _) bm cnt D rfl HMAP.out _ _ rfl hkey ?_; intro c hat hwc; obtain rfl : c = p := by { have e := hat.symm.trans HV.out; injection e with e; injection e }; clear hat)
        | (at_mapUpdate; refine Go.wpList_mapUpdate_own _ rfl (.tmp 41) (.tmp 42) (.tmp 43) 44 rfl 51 3 Try.law_u32 Try.underlying44 (plainElem Try.prog 3) bm cnt D rfl (World.ownsMap.frm (S := fun k => k = bp) HMAP.out (((Frm.refl _ _).drewN _).setCell (by rfl) _) (fun e => n3 e.symm)) (by unfold maxLen; omega) _ _ _ rfl rfl hkey _ [] (plainElem_int Try.underlying3 hwfi) ?_; intro w2 hown2 hgr2)
        | go_in)
      go_end0
      have hS2 : Pts (((w.setCell ⟨bp, i, none⟩ (.int .i64 (-1))).drewN d).setCell ⟨bp, i, none⟩ (.int .i64 c)) bp (prevCells (prev.set i c)) 3 := by have := (hSS.out.drewN d).set i (.int .i64 c); rw [prevCells_set, List.set_set] at this; exact this
      have hF2 : Frm (fun k => k = bm) (((w.setCell ⟨bp, i, none⟩ (.int .i64 (-1))).drewN d).setCell ⟨bp, i, none⟩ (.int .i64 c)) w2 := ⟨hgr2.os, hgr2.tape, hgr2.output, hgr2.size, fun k hk hn => hgr2.block k hk (fun e => hn (by injection e))⟩
      have hF3 : Frm (fun k => k = bp ∨ k = bm) w w2 := (((hW.out.drewN d).setCell (by rfl) _).mono (fun k _ hk => .inl hk)).trans (hF2.mono (fun k _ hk => .inr hk))
      exact ⟨rfl, ⟨((hPP.out.drewN d).other (by exact n1) _).frm hF2 n2, hS2.frm hF2 n3, by simp [hCC.out.n], ⟨_, hown2, HM.out.put _ _⟩,
        hCC.out.row.below (hF3.below (Nat.le_trans hCC.out.hc (Nat.le_of_lt l1)) (fun k hk => by rcases hk with rfl | rfl; exact hCC.out.hp; exact hCC.out.hm)), hCC.out.hc, hCC.out.hp, hCC.out.hm⟩, hF3⟩
  · have hCC := Lib.hid hC
    have hPP := Lib.hid hpts
    have hSS := Lib.hid hset
    have hF : addF bs key i f = f := if_neg hik
    have hP : addP bs key i f = -1 := if_neg hik
    have hW := Lib.hid hw1
    rw [hF, hP]
    clear hC hpts hset hw1 hF hP
    go_enter Try.func16, Try.ntmps16
    go_wp2_with (go_at_call 19; refine (at_no _ _ _ _ _ _ _ _ _ hPP.out (by omega) hcap hcm (by omega) hk hb).mono ?_; rintro e w1 ⟨rfl, d, rfl⟩)
    go_end0
    have hfr := hW.out.drewN d
    exact ⟨rfl, ⟨hPP.out.drewN d, hSS.out.drewN d, by simp [hCC.out.n], by obtain ⟨D, hD, hM⟩ := hCC.out.m; exact ⟨D, (World.ownsMap.frm hD hfr (fun e => n3 e.symm)).mono (by omega), hM⟩,
      hCC.out.row.below (hfr.below (Nat.le_trans hCC.out.hc (Nat.le_of_lt l1)) (fun k hk => by subst hk; exact hCC.out.hp)), hCC.out.hc, hCC.out.hp, hCC.out.hm⟩, hfr.mono fun k _ hk => .inl hk⟩
end Go.Proofs.Ytjifnnghcaaonaa
