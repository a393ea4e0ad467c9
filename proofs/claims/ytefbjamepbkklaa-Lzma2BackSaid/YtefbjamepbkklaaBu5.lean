/- Texts of this proof, put together: FindR, FindW, LpX, FindS, FindT, FindX, MaL, MaK, MaEnd. -/
import Derived.Test.YtefbjamepbkklaaChecked
import Derived.Deep.DeepCutAuto
import Derived.Deep.CutRange
import Derived.Deep.RegionHeld3
import Derived.Lib.SlBytesConst
import Derived.Deep.CutBlock
import Derived.Test.YtefbjamepbkklaaBu1
import Derived.Test.YtefbjamepbkklaaBu2
import Derived.Test.YtefbjamepbkklaaBu3
import Derived.Test.YtefbjamepbkklaaBu4
set_option linter.unusedVariables false
set_option linter.unusedSimpArgs false
/- What a text's steps are, in plain Lean: right, few, and told again. -/
namespace Go.Proofs.Ytefbjamepbkklaa
open Go.RowKit Fnd
set_option linter.unusedVariables false
set_option linter.unusedSimpArgs false

/-! ### steps that are right -/
def StepOk (bs : List UInt8) (win lo hi a : Nat) (s : Sq) (e : Nat) : Prop :=
  ∃ L M K : Nat, s = ⟨L, M, K⟩ ∧ a + L + M = e ∧ e ≤ bs.length ∧ lo ≤ M ∧ M ≤ hi ∧ 1 ≤ K ∧ K ≤ win ∧ K ≤ a + L ∧ ∀ k, k < M → bs.getD (a + L + k) 0 = bs.getD (a + L + k - K) 0
def Pre (bs : List UInt8) (win lo hi : Nat) : List Sq → Nat → Nat → Prop
  | [], a, e => a = e
  | s :: l, a, e => ∃ m, StepOk bs win lo hi a s m ∧ Pre bs win lo hi l m e
def Right (bs : List UInt8) (win lo hi : Nat) : List Sq → Nat → Prop
  | [], a => a = bs.length
  | s :: l, a => (∃ m, StepOk bs win lo hi a s m ∧ Right bs win lo hi l m) ∨ (l = [] ∧ ∃ L : Nat, s = ⟨L, 0, 0⟩ ∧ 0 < L ∧ a + L = bs.length)
section
variable {bs : List UInt8} {win lo hi : Nat}
theorem Pre.snoc : ∀ {l : List Sq} {a m e : Nat} {s : Sq}, Pre bs win lo hi l a m → StepOk bs win lo hi m s e → Pre bs win lo hi (l ++ [s]) a e
  | [], a, m, e, s, h, hs => by subst h; exact ⟨e, hs, rfl⟩
  | t :: l, a, m, e, s, ⟨m', h1, h2⟩, hs => ⟨m', h1, Pre.snoc h2 hs⟩
theorem Pre.right : ∀ {l : List Sq} {a e : Nat}, Pre bs win lo hi l a e → e = bs.length → Right bs win lo hi l a
  | [], a, e, h, he => h.trans he
  | t :: l, a, e, ⟨m', h1, h2⟩, he => .inl ⟨m', h1, Pre.right h2 he⟩
theorem Pre.tail : ∀ {l : List Sq} {a e L : Nat}, Pre bs win lo hi l a e → 0 < L → e + L = bs.length → Right bs win lo hi (l ++ [⟨L, 0, 0⟩]) a
  | [], a, e, L, h, hL, he => by subst h; exact .inr ⟨rfl, L, rfl, hL, he⟩
  | t :: l, a, e, L, ⟨m', h1, h2⟩, hL, he => .inl ⟨m', h1, Pre.tail h2 hL he⟩
theorem Right.le : ∀ {l : List Sq} {a : Nat}, Right bs win lo hi l a → a ≤ bs.length
  | [], a, h => Nat.le_of_eq h
  | s :: l, a, .inl ⟨m, ⟨L, M, K, _, h2, h3, _⟩, _⟩ => by omega
  | s :: l, a, .inr ⟨_, L, _, _, h⟩ => by omega
end

/-- The bytes that steps have as they are. -/
def litsGo (bs : List UInt8) : List Sq → Nat → List UInt8
  | [], _ => []
  | s :: l, a => (bs.drop a).take s.lits.toNat ++ litsGo bs l (a + s.lits.toNat + s.mat.toNat)

theorem copyBack_take {bs : List UInt8} {K : Nat} : ∀ (M a : Nat), a + M ≤ bs.length → 1 ≤ K → K ≤ a → (∀ k, k < M → bs.getD (a + k) 0 = bs.getD (a + k - K) 0) → copyBack K M (bs.take a) = bs.take (a + M)
  | 0, a, _, _, _, _ => rfl
  | M + 1, a, h, hK, hKa, hm => by
    have e : (bs.take a).length = a := by rw [List.length_take]; omega
    have h0 := hm 0 (by omega)
    have hx : bs.take a ++ [(bs.take a).getD ((bs.take a).length - K) 0] = bs.take (a + 1) := by
      rw [List.take_succ_eq_append_getElem (by omega), e]
      congr 2
      have : bs.getD (a + 0) 0 = bs[a]'(by omega) := by simp [List.getD, show a < bs.length by omega]
      rw [← this, h0]
      simp only [List.getD, List.getElem?_take, Nat.add_zero]
      rw [if_pos (by omega)]
    rw [copyBack, hx, copyBack_take M (a + 1) (by omega) hK (by omega) (fun k hk => by
      have := hm (k + 1) (by omega)
      rw [show a + (k + 1) = a + 1 + k by omega] at this
      exact this)]
    congr 1; omega

theorem right_back {bs : List UInt8} {win lo hi : Nat} (hb : bs.length ≤ maxC) : ∀ (l : List Sq) (a : Nat), Right bs win lo hi l a → backGo l (bs.take a) (litsGo bs l a) = some bs
  | [], a, h => by
    rw [show a = bs.length from h, List.take_length, backGo, if_neg (by omega)]
  | s :: l, a, h => by
    rw [backGo, litsGo]
    rcases h with ⟨m, ⟨L, M, K, rfl, h1, h2, h3, h4, h5, h6, h7, h8⟩, hr⟩ | ⟨rfl, L, rfl, h1, h2⟩
    · have hlen : ((bs.drop a).take L).length = L := by rw [List.length_take, List.length_drop]; omega
      have e1 : ((bs.drop a).take L ++ litsGo bs l (a + L + M)).take L = (bs.drop a).take L := by rw [List.take_append_of_le_length (by omega), List.take_of_length_le (by omega)]
      have e2 : ((bs.drop a).take L ++ litsGo bs l (a + L + M)).drop L = litsGo bs l (a + L + M) := by rw [List.drop_append_of_le_length (by omega), List.drop_of_length_le (by omega), List.nil_append]
      have e3 : bs.take a ++ (bs.drop a).take L = bs.take (a + L) := by rw [List.take_add]
      have e4 : (bs.take (a + L)).length = a + L := by rw [List.length_take]; omega
      simp only [Int.toNat_natCast]
      rw [if_neg (by show ¬ Bad1 _ _; unfold Bad1; simp only [List.length_append, hlen]; omega), e1, e2, e3, if_neg (by show ¬ Bad2 _ _; unfold Bad2; simp only [e4]; unfold maxC at *; omega),
        copyBack_take M (a + L) (by omega) h5 h7 h8, h1]
      exact right_back hb l m hr
    · have hlen : ((bs.drop a).take L).length = L := by rw [List.length_take, List.length_drop]; omega
      have e3 : bs.take a ++ (bs.drop a).take L = bs.take (a + L) := by rw [List.take_add]
      have e4 : (bs.take (a + L)).length = a + L := by rw [List.length_take]; omega
      have e5 : ((0 : Int).toNat) = 0 := rfl
      simp only [Int.toNat_natCast, e5, litsGo, List.append_nil]
      rw [if_neg (by show ¬ Bad1 _ _; unfold Bad1; simp only [hlen]; omega), List.take_of_length_le (Nat.le_of_eq hlen), e3, if_neg (by show ¬ Bad2 _ _; unfold Bad2; simp only [e4]; unfold maxC at *; omega),
        List.drop_of_length_le (Nat.le_of_eq hlen), copyBack, backGo, if_neg (by rw [e4]; omega), h2, List.take_length]

/-! ### the chains -/
structure CI (bs : List UInt8) (i : Nat) (f : Int → Option Int) (prev : List Int) : Prop where
  f : ∀ k p, f k = some p → 0 ≤ p ∧ p < i
  p : ∀ j, j < bs.length → -1 ≤ prev.getD j 0 ∧ prev.getD j 0 ≤ j
theorem CI.mono {bs : List UInt8} {i j : Nat} {f : Int → Option Int} {prev : List Int} (h : CI bs i f prev) (hj : i ≤ j) : CI bs j f prev :=
  ⟨fun k p hp => by have := h.f k p hp; omega, h.p⟩
theorem CI.add {bs : List UInt8} {key i : Nat} {f : Int → Option Int} {prev : List Int} (h : CI bs i f prev) (hi : i < bs.length) (hl : prev.length = bs.length) : CI bs (i + 1) (addF bs key i f) (prev.set i (addP bs key i f)) := by
  refine ⟨fun k p hp => ?_, fun j hj => ?_⟩
  · unfold addF at hp
    by_cases hk : i + key ≤ bs.length
    · rw [if_pos hk] at hp
      by_cases hx : k = (keyAt bs key i : Int)
      · simp only [if_pos hx, Option.some.injEq] at hp
        omega
      · simp only [if_neg hx] at hp
        have := h.f k p hp
        omega
    · rw [if_neg hk] at hp
      have := h.f k p hp
      omega
  · by_cases hx : j = i
    · subst hx
      have e : (prev.set j (addP bs key j f)).getD j 0 = addP bs key j f := by simp [List.getD, hl, hi]
      rw [e]
      unfold addP
      by_cases hk : j + key ≤ bs.length
      · rw [if_pos hk]
        cases hf : f (keyAt bs key j) with
        | none => simp
        | some p => have := h.f _ p hf; simp; omega
      · rw [if_neg hk]; omega
    · have e : (prev.set i (addP bs key i f)).getD j 0 = prev.getD j 0 := by
        simp only [List.getD]
        rw [List.getElem?_set_ne (fun e => hx e.symm)]
      rw [e]
      exact h.p j hj
theorem CI.start (bs : List UInt8) (i : Nat) : CI bs i (fun _ => none) (List.replicate bs.length 0) :=
  ⟨fun k p h => absurd h (by simp), fun j hj => by simp [List.getD, hj]⟩

/-! ### of bytes that are all the same there are few steps -/
def AllSame (bs : List UInt8) (at_ : Nat) : Prop := ∀ j, at_ ≤ j → j < bs.length → bs.getD j 0 = bs.getD at_ 0
def Near (bs : List UInt8) (key at_ i : Nat) (f : Int → Option Int) : Prop := at_ < i → i + key ≤ bs.length → f (keyAt bs key i) = some ((i - 1 : Nat) : Int)
theorem AllSame.key {bs : List UInt8} {at_ key i : Nat} (h : AllSame bs at_) (hi : at_ ≤ i) (hk : i + 1 + key ≤ bs.length) : keyAt bs key (i + 1) = keyAt bs key i := by
  unfold keyAt
  congr 1
  apply List.ext_getElem
  · simp only [List.length_take, List.length_drop]; omega
  · intro j h1 h2
    simp only [List.getElem_take, List.getElem_drop]
    have a1 := h (i + 1 + j) (by omega) (by simp at h1; omega)
    have a2 := h (i + j) (by omega) (by simp at h1; omega)
    have b1 : bs.getD (i + 1 + j) 0 = bs[i + 1 + j]'(by simp at h1; omega) := by simp [List.getD, show i + 1 + j < bs.length by simp at h1; omega]
    have b2 : bs.getD (i + j) 0 = bs[i + j]'(by simp at h1; omega) := by simp [List.getD, show i + j < bs.length by simp at h1; omega]
    rw [← b1, ← b2, a1, a2]
theorem Near.add {bs : List UInt8} {key at_ i : Nat} {f : Int → Option Int} (hs : AllSame bs at_) (hi : at_ ≤ i) : Near bs key at_ (i + 1) (addF bs key i f) := by
  intro _ hk
  rw [hs.key hi hk]
  unfold addF
  rw [if_pos (by omega)]
  simp
theorem Near.whole {bs : List UInt8} {key at_ i win most : Nat} {f : Int → Option Int} (hs : AllSame bs at_) (h : Near bs key at_ i f) (hi : at_ < i) (hk : i + key ≤ bs.length) (hw : 1 ≤ win) : Whole bs key win (min most (bs.length - i)) i f :=
  ⟨hk, i - 1, h hi hk, by omega, by omega, fun j hj => by rw [hs (i - 1 + j) (by omega) (by omega), hs (i + j) (by omega) (by omega)]⟩

def Dead (n key least i : Nat) : Prop := n < i + key ∨ n - i < least
def Fewer (n at_ key least most i lits cnt : Nat) : Prop :=
  (cnt = 0 ∧ lits ≤ 1 ∧ i = at_ + lits) ∨ (0 < cnt ∧ lits = 0 ∧ (cnt - 1) * most + 2 ≤ i - at_) ∨ (Dead n key least i ∧ at_ ≤ i ∧ (cnt = 0 ∨ (cnt - 1) * most + 2 ≤ i - at_)) ∨ (i = n ∧ lits = 0 ∧ 0 < cnt ∧ (cnt - 2) * most + 2 ≤ i - at_)
section
variable {bs : List UInt8} {win key least most at_ i lits cnt size back : Nat} {f : Int → Option Int}
theorem size_whole (hs : AllSame bs at_) (hn : Near bs key at_ i f) (hi : at_ < i) (hw : 1 ≤ win) (hL : Longest bs key win least most i f size back) (hlm : least ≤ most) (hd : ¬ Dead bs.length key least i) : size = min most (bs.length - i) :=
  hL.whole (hn.whole hs hi (by unfold Dead at hd; omega) hw) (by unfold Dead at hd; omega)
theorem Fewer.zero (hF : Fewer bs.length at_ key least most i lits cnt) (hs : AllSame bs at_) (hn : Near bs key at_ i f) (hw : 1 ≤ win) (hL : Longest bs key win least most i f 0 back) (hl2 : 2 ≤ least) (hlm : least ≤ most) (hi : i < bs.length) :
    Fewer bs.length at_ key least most (i + 1) (lits + 1) cnt := by
  have hdead : at_ < i → Dead bs.length key least i := fun h => by
    refine Classical.byContradiction fun hd => ?_
    have := size_whole hs hn h hw hL hlm hd
    unfold Dead at hd
    omega
  have hmono : Dead bs.length key least i → Dead bs.length key least (i + 1) := by unfold Dead; omega
  rcases hF with ⟨rfl, h1, h2⟩ | ⟨h0, rfl, h2⟩ | ⟨h0, h1, h2⟩ | ⟨h0, _⟩
  · by_cases hl : lits = 0
    · exact .inl ⟨rfl, by omega, by omega⟩
    · exact .inr (.inr (.inl ⟨hmono (hdead (by omega)), by omega, .inl rfl⟩))
  · exact .inr (.inr (.inl ⟨hmono (hdead (by omega)), by omega, .inr (by omega)⟩))
  · exact .inr (.inr (.inl ⟨hmono h0, by omega, by rcases h2 with h2 | h2; exact .inl h2; exact .inr (by omega)⟩))
  · omega
theorem Fewer.better {b2 s2 : Nat} {f2 : Int → Option Int} (hF : Fewer bs.length at_ key least most i lits cnt) (hs : AllSame bs at_) (hn : Near bs key at_ i f) (hw : 1 ≤ win) (hL : Longest bs key win least most i f size back)
    (hL2 : Longest bs key win least most (i + 1) f2 s2 b2) (hb : size + 1 < s2) (h0 : size ≠ 0) (hkl : key ≤ least) (hlm : least ≤ most) : Fewer bs.length at_ key least most (i + 1) (lits + 1) cnt := by
  have l1 := hL.lim
  have l2 : s2 ≤ most ∧ s2 ≤ bs.length - (i + 1) := ⟨Nat.le_trans hL2.lim (Nat.min_le_left _ _), Nat.le_trans hL2.lim (Nat.min_le_right _ _)⟩
  have l3 := hL.lo
  have hnd : ¬ Dead bs.length key least i := by unfold Dead; omega
  have hno : at_ < i → False := fun h => by
    have h9 : size = min most (bs.length - i) := size_whole hs hn h hw hL hlm hnd
    rcases Nat.le_total most (bs.length - i) with h8 | h8
    · rw [Nat.min_eq_left h8] at h9; omega
    · rw [Nat.min_eq_right h8] at h9; omega
  rcases hF with ⟨rfl, h1, h2⟩ | ⟨h0, rfl, h2⟩ | ⟨h0, h1, h2⟩ | ⟨h0, _⟩
  · by_cases hl : lits = 0
    · exact .inl ⟨rfl, by omega, by omega⟩
    · exact (hno (by omega)).elim
  · exact (hno (by omega)).elim
  · exact (hnd h0).elim
  · omega
theorem Fewer.hit (hF : Fewer bs.length at_ key least most i lits cnt) (hs : AllSame bs at_) (hn : Near bs key at_ i f) (hw : 1 ≤ win) (hL : Longest bs key win least most i f size back) (h0 : size ≠ 0) (hl2 : 2 ≤ least) (hkl : key ≤ least) (hlm : least ≤ most) (hi : i < bs.length) :
    Fewer bs.length at_ key least most (i + size) 0 (cnt + 1) := by
  have l1 := hL.lim
  have l3 := hL.lo
  have hnd : ¬ Dead bs.length key least i := by unfold Dead; omega
  rcases hF with ⟨rfl, h1, h2⟩ | ⟨h0, rfl, h2⟩ | ⟨h0, h1, h2⟩ | ⟨h0, _⟩
  · exact .inr (.inl ⟨by omega, rfl, by simp; omega⟩)
  · have hw2 := size_whole hs hn (by omega) hw hL hlm hnd
    have e : (cnt + 1 - 1) * most = (cnt - 1) * most + most := by
      obtain ⟨c, rfl⟩ : ∃ c, cnt = c + 1 := ⟨cnt - 1, by omega⟩
      simp [Nat.succ_mul]
    by_cases hm : size = most
    · exact .inr (.inl ⟨by omega, rfl, by rw [e]; omega⟩)
    · exact .inr (.inr (.inr ⟨by omega, rfl, by omega, by rw [show cnt + 1 - 2 = cnt - 1 by omega]; omega⟩))
  · exact (hnd h0).elim
  · omega
theorem Fewer.total {tot n : Nat} (hF : Fewer n at_ key least most n lits cnt) (hm : 0 < most) (ht : tot = if 0 < lits then cnt + 1 else cnt) : tot ≤ 2 + (n - at_) / most := by
  have hd : ∀ c : Nat, c * most + 2 ≤ n - at_ → c ≤ (n - at_) / most := fun c h => (Nat.le_div_iff_mul_le hm).2 (by omega)
  have ht2 : tot ≤ cnt + 1 ∧ (lits = 0 → tot = cnt) := by
    rw [ht]; split <;> omega
  clear ht
  generalize (n - at_) / most = q at *
  rcases hF with ⟨rfl, h1, h2⟩ | ⟨h0, rfl, h2⟩ | ⟨h0, h1, h2⟩ | ⟨h0, h1, h2, h3⟩
  · omega
  · have := hd _ h2; omega
  · rcases h2 with h2 | h2
    · omega
    · have := hd _ h2; omega
  · have := hd _ h3; omega
end
end Go.Proofs.Ytefbjamepbkklaa

/- The contract of Parse. -/
namespace Go.Proofs.Ytefbjamepbkklaa
open Go.RowKit Fnd
set_option linter.unusedVariables false
set_option linter.unusedSimpArgs false

theorem Try.info_int : (Try.prog.info? 3).map (fun i => (i.zero, i.size, i.bytes)) = some (some (.int .i64 0), 1, 8) := by kernel_rfl
/-- The settings, as cells. -/
def setCells (win least most tries : Nat) (lazy : Bool) : Array Value := #[.int .i64 win, .int .i64 least, .int .i64 most, .int .i64 tries, .bool lazy]

set_option maxRecDepth 100000 in
theorem better_any (B bc bp bm cv sv : Nat) (A : Option Addr) (cap : Nat) (bs : List UInt8) (key cnt i size win least most tries : Nat) (lazy : Bool) (f : Int → Option Int) (prev : List Int) (w : World)
    (hC : ChainAt w B bc bp bm A cap bs key cnt f prev) (hv : Pts w cv #[.pointer (some ⟨bc, 0, none⟩)] 72) (hs : Pts w sv (setCells win least most tries lazy) 71)
    (hcap : bs.length ≤ cap) (hcm : cap ≤ maxLen) (hb : bs.length ≤ 1048576) (hk : key ≤ 4) (hi : i < bs.length) (hI : CI bs i f prev) (hcnt : cnt ≤ 10000000) (hsz : size ≤ 1048576)
    (hw1 : 1 ≤ win) (hw2 : win ≤ 16777216) (hl2 : 2 ≤ least) (hlm : least ≤ most) (hm : most ≤ 65536) (ht : 1 ≤ tries) (ht2 : tries ≤ 1000) :
    Calls Try.prog 20 #[.int .i64 i, .int .i64 size, .pointer (some ⟨cv, 0, none⟩), .pointer (some ⟨sv, 0, none⟩)] w fun e w' =>
      ∃ (β : Bool) (n2 b2 : Nat), e = .returned (.bool β) ∧ (β = true → size + 1 < n2) ∧ Longest bs key win least most (i + 1) (addF bs key i f) n2 b2 ∧
        ChainAt w' B bc bp bm A cap bs key (cnt + 1) (addF bs key i f) (prev.set i (addP bs key i f)) ∧ Frm (fun k => k = bp ∨ k = bm) w w' := by
  have HC := Lib.hid hC
  have HI := Lib.hid hI
  have HS := Lib.hid hs
  have HV := Lib.hid hv
  have hne1 : sv ≠ bp := by rintro rfl; have e := hs.symm.trans hC.p; simp at e
  have hne2 : sv ≠ bm := by rintro rfl; obtain ⟨D, ⟨es, cl, hb, _⟩, _⟩ := hC.m; have e := hs.symm.trans hb; cases e
  have hne3 : cv ≠ bp := by rintro rfl; have e := hv.symm.trans hC.p; simp at e
  have hne4 : cv ≠ bm := by rintro rfl; obtain ⟨D, ⟨es, cl, hb, _⟩, _⟩ := hC.m; have e := hv.symm.trans hb; cases e
  have v0 : w.cell? ⟨cv, 0, none⟩ = some (.pointer (some ⟨bc, 0, none⟩)) := by rw [hv.cell]; rfl
  clear hC hI hs hv
  go_enter Try.func20, Try.ntmps20
  go_wp2_with (first
    | (go_at_call 19
       refine (add_any B bc bp bm A cap bs key cnt i f prev w HC.out hcap hcm hb hk hi hcnt (fun k p hp => by have := HI.out.f k p hp; exact wf_i64 (by omega) (by omega))).mono ?_
       rintro e w1 ⟨rfl, hC1, hF1⟩
       have v1 : w1.cell? ⟨cv, 0, none⟩ = some (.pointer (some ⟨bc, 0, none⟩)) := by rw [(HV.out.frm hF1 (by rintro (h | h); exact hne3 h; exact hne4 h)).cell]; rfl
       have hs1 := HS.out.frm hF1 (by rintro (h | h); exact hne1 h; exact hne2 h)
       have s0 : w1.cell? ⟨sv, 0, none⟩ = some (.int .i64 win) := by rw [hs1.cell]; rfl
       have s1 : w1.cell? ⟨sv, 1, none⟩ = some (.int .i64 least) := by rw [hs1.cell]; rfl
       have s2 : w1.cell? ⟨sv, 2, none⟩ = some (.int .i64 most) := by rw [hs1.cell]; rfl
       have s3 : w1.cell? ⟨sv, 3, none⟩ = some (.int .i64 tries) := by rw [hs1.cell]; rfl
       have s4 : w1.cell? ⟨sv, 4, none⟩ = some (.bool lazy) := by rw [hs1.cell]; rfl
       have hCI := HI.out.add (key := key) hi HC.out.n
       have C1 := Lib.hid hC1
       have F1 := Lib.hid hF1
       have CI1 := Lib.hid hCI
       clear hC1 hF1 hs1 hCI v0)
    | (go_at_call 21
       refine (longest_any B bc bp bm A cap bs key (cnt + 1) (i + 1) win least most tries lazy (addF bs key i f) (prev.set i (addP bs key i f)) w1 C1.out hcap hcm hb hk (by omega) CI1.out.f CI1.out.p hw1 hw2 hl2 hlm hm ht ht2).mono ?_
       rintro e w2 ⟨n2, b2, rfl, hL, hB⟩
       have hn2 : n2 ≤ 65536 := by have := hL.lim; omega
       have LL := Lib.hid hL
       have BB := Lib.hid hB
       clear hL hB)
    | go_in)
  go_ret
  exact ⟨_, n2, b2, rfl, fun h => by have := of_decide_eq_true h; omega, LL.out, C1.out.frm (Frm.of_below (S := fun _ => False) BB.out) (by simp) (by simp) (by simp) (by simp), F1.out.trans ((Frm.of_below (S := fun _ => False) BB.out).mono (fun _ _ h => h.elim))⟩

theorem made_prev (n : Nat) : madeCells #[.int .i64 0] n = prevCells (List.replicate n 0) := by
  apply Array.toList_inj.1
  rw [toList_madeCells_one]
  unfold prevCells
  simp
theorem make_ints (n : Nat) (hn : n ≤ 1048576) (w : World) :
    (Instr.makeSlice 23 (.int .i64 (n : Int)) (.int .i64 (n : Int))).run Try.prog w = .ok (.slice (some ⟨w.heap.size, 0, none⟩) n n) (w.alloc (.cells (prevCells (List.replicate n 0)) 3)) := by
  obtain ⟨i, hi, hz⟩ := Option.map_eq_some_iff.1 Try.info_int
  simp only [Prod.mk.injEq] at hz
  have h := run_make (P := Try.prog) w 23 3 i (.int .i64 0) Try.underlying23 hi hz.1 .i64 .i64 n n (by omega) (by omega) (by rw [hz.2.2]; omega) (by omega)
  rw [hz.2.1] at h
  simp only [Int.toNat_natCast, Nat.mul_one] at h
  rw [h, ← made_prev]
  rfl

theorem pts_new' {w : World} {n : Nat} {c : Array Value} {T : TypeId} (h : n = w.heap.size) : Pts (w.alloc (.cells c T)) n c T := by subst h; exact Pts.new _ _ _
theorem map_new' {w : World} {P : Program} {k : TypeId} {R : Value → Option (DataW Unit × List MemPlace)} {n : Nat} (h : n = w.heap.size) : (w.alloc (.map #[] 0)).ownsMap P k R n 0 (.map []) := by subst h; exact World.ownsMap_made _ _ _ _
theorem map_drew {w : World} {P : Program} {k : TypeId} {R : Value → Option (DataW Unit × List MemPlace)} {b n : Nat} {D : DataW Unit} (h : w.ownsMap P k R b n D) : w.drew.ownsMap P k R b n D := h
theorem below_drew {B : Nat} {w w' : World} (h : Below B w w') : Below B w w'.drew := h.drew
theorem below_allocF {B : Nat} {w w' : World} (h : Below B w w') (o : Obj) (hB : B ≤ w'.heap.size) : Below B w (w'.alloc o) := h.alloc hB o
theorem brow_drew {B : Nat} {w : World} {A : Option Addr} {bs : List UInt8} (h : BRow w B A bs) : BRow w.drew B A bs := h
theorem brow_alloc {B : Nat} {w : World} {A : Option Addr} {bs : List UInt8} (h : BRow w B A bs) (o : Obj) (hB : B ≤ w.heap.size) : BRow (w.alloc o) B A bs := h.below ((Below.refl _ _).alloc hB _)
theorem made_four (w w1 : World) (o0 o1 o2 o3 : Obj) (im ip ib ic : Nat) {c key win lo hi tries : Nat} {lazy : Bool} {A : Option Addr} {bs : List UInt8}
    (hm : ([o0, o1, o2, o3] : List Obj)[im]? = some (.map #[] 0)) (hp : ([o0, o1, o2, o3] : List Obj)[ip]? = some (.cells (prevCells (List.replicate bs.length 0)) 3))
    (hb : ([o0, o1, o2, o3] : List Obj)[ib]? = some (.cells #[.slice A bs.length c, .int .i64 key, .map (some (w1.heap.size + im)), .slice (some ⟨w1.heap.size + ip, 0, none⟩) bs.length bs.length] 75))
    (hc : ([o0, o1, o2, o3] : List Obj)[ic]? = some (.cells #[.pointer (some ⟨w1.heap.size + ib, 0, none⟩)] 72))
    (hrow : BRow w w.heap.size A bs) (hbl : Below w.heap.size w w1) (hsv : Pts w1 w.heap.size (setCells win lo hi tries lazy) 71) :
    ∃ bc bp bm cv' : Nat, Value.pointer (some ⟨w1.heap.size + ic, 0, none⟩) = .pointer (some ⟨cv', 0, none⟩) ∧ w.heap.size ≤ cv' ∧ ChainAt ((((w1.alloc o0).alloc o1).alloc o2).alloc o3).drew w.heap.size bc bp bm A c bs key 0 (fun _ => none) (List.replicate bs.length 0) ∧
      Pts ((((w1.alloc o0).alloc o1).alloc o2).alloc o3).drew cv' #[.pointer (some ⟨bc, 0, none⟩)] 72 ∧ Pts ((((w1.alloc o0).alloc o1).alloc o2).alloc o3).drew w.heap.size (setCells win lo hi tries lazy) 71 ∧ Below w.heap.size w ((((w1.alloc o0).alloc o1).alloc o2).alloc o3).drew := by
  have hat : ∀ (i : Nat) (o : Obj), ([o0, o1, o2, o3] : List Obj)[i]? = some o → ((((w1.alloc o0).alloc o1).alloc o2).alloc o3).drew.heap[w1.heap.size + i]? = some o := by
    intro i o h
    show ((((w1.heap.push o0).push o1).push o2).push o3)[w1.heap.size + i]? = some o
    simp only [Array.getElem?_push, Array.size_push]
    rcases i with _ | _ | _ | _ | i
    · simp at h
      repeat' split
      all_goals first | (exfalso; omega) | (rw [h])
    · simp at h
      repeat' split
      all_goals first | (exfalso; omega) | (rw [h])
    · simp at h
      repeat' split
      all_goals first | (exfalso; omega) | (rw [h])
    · simp at h
      repeat' split
      all_goals first | (exfalso; omega) | (rw [h])
    · simp at h
  have hz := hbl.size
  have hB : Below w1.heap.size w1 ((((w1.alloc o0).alloc o1).alloc o2).alloc o3).drew :=
    ((((((Below.refl _ _).alloc (Nat.le_refl _) o0).alloc (by simp) o1).alloc (by simp; omega) o2).alloc (by simp; omega) o3)).drew
  refine ⟨w1.heap.size + ib, w1.heap.size + ip, w1.heap.size + im, w1.heap.size + ic, rfl, by omega, ⟨hat _ _ hb, hat _ _ hp, by simp, ⟨.map [], ⟨#[], 0, hat _ _ hm, ?_⟩, MapIs.empty⟩, hrow.below (hbl.trans (hB.mono hz)), by omega, by omega, by omega⟩, hat _ _ hc, hsv.below hB hsv.lt, hbl.trans (hB.mono hz)⟩
  obtain ⟨es, cl, h1, h2⟩ := World.ownsMap_made w1 Try.prog 46 (plainElem (H := Unit) Try.prog 3)
  have h3 : (w1.alloc (.map #[] 0)).heap[w1.heap.size]? = some (.map #[] 0) := heap_alloc_new w1 _
  rw [h3] at h1
  injection h1 with h1
  injection h1 with e1 e2
  subst e1; subst e2
  exact h2
theorem ChainAt.dis {w : World} {B bc bp bm sv cv cap key cnt win lo hi tries : Nat} {lazy : Bool} {A : Option Addr} {bs : List UInt8} {f : Int → Option Int} {prev : List Int} {x : Array Value}
    (hC : ChainAt w B bc bp bm A cap bs key cnt f prev) (hv : Pts w cv x 72) (hs : Pts w sv (setCells win lo hi tries lazy) 71) : cv ≠ bp ∧ cv ≠ bm ∧ sv ≠ bp ∧ sv ≠ bm := by
  refine ⟨?_, ?_, ?_, ?_⟩
  · rintro rfl; have e := hv.symm.trans hC.p; simp at e
  · rintro rfl; obtain ⟨D, ⟨es, cl, hb, _⟩, _⟩ := hC.m; have e := hv.symm.trans hb; cases e
  · rintro rfl; have e := hs.symm.trans hC.p; simp at e
  · rintro rfl; obtain ⟨D, ⟨es, cl, hb, _⟩, _⟩ := hC.m; have e := hs.symm.trans hb; cases e
structure PSt (w0 w : World) (bc bp bm cv : Nat) (A : Option Addr) (c : Nat) (bs : List UInt8) (key win lo hi tries : Nat) (lazy : Bool) (j : Nat) (f : Int → Option Int) (prev : List Int) (ov : Value) (l : List Sq) : Prop where
  ch : ChainAt w w0.heap.size bc bp bm A c bs key j f prev
  ci : CI bs j f prev
  ow : OwnSq w 69 w0.heap.size ov l
  cv : Pts w cv #[.pointer (some ⟨bc, 0, none⟩)] 72
  sv : Pts w w0.heap.size (setCells win lo hi tries lazy) 71
  be : Below w0.heap.size w0 w
section
variable {w0 w w' : World} {bc bp bm cv : Nat} {A : Option Addr} {c : Nat} {bs : List UInt8} {key win lo hi tries : Nat} {lazy : Bool} {j : Nat} {f : Int → Option Int} {prev : List Int} {ov : Value} {l : List Sq}
theorem OwnSq.off {T T' b base : Nat} {x : Array Value} (h : OwnSq w T base ov l) (hp : Pts w b x T') (hT : T' ≠ T) : ∀ k, ov.ownBlock = some k → b ≠ k := by
  rintro k hk rfl
  rcases h.2 with ⟨rfl, _⟩ | ⟨g, cap, cur, rfl, _, hh, _⟩
  · cases hk
  · injection hk with hk
    subst hk
    have e := hp.symm.trans hh
    simp at e
    exact hT e.2
theorem PSt.later (h : PSt w0 w bc bp bm cv A c bs key win lo hi tries lazy j f prev ov l) (hb : Below w.heap.size w w') : PSt w0 w' bc bp bm cv A c bs key win lo hi tries lazy j f prev ov l := by
  have hf : Frm (fun _ => False) w w' := Frm.of_below hb
  exact ⟨h.ch.frm hf (by simp) (by simp) (by simp) (by simp), h.ci, h.ow.frm hf (by simp), h.cv.frm hf (by simp), h.sv.frm hf (by simp), h.be.trans (hf.below h.be.size (by simp))⟩
theorem PSt.alloc (h : PSt w0 w bc bp bm cv A c bs key win lo hi tries lazy j f prev ov l) (o : Obj) : PSt w0 (w.alloc o) bc bp bm cv A c bs key win lo hi tries lazy j f prev ov l := h.later ((Below.refl _ _).alloc (Nat.le_refl _) _)
theorem PSt.map (h : PSt w0 w bc bp bm cv A c bs key win lo hi tries lazy j f prev ov l) : ∀ k, ov.ownBlock = some k → bm ≠ k := by
  rintro k hk rfl
  obtain ⟨D, ⟨es, cl, hb, _⟩, _⟩ := h.ch.m
  rcases h.ow.2 with ⟨rfl, _⟩ | ⟨g, cap, cur, rfl, _, hh, _⟩
  · cases hk
  · injection hk with hk
    subst hk
    have e := hb.symm.trans hh
    cases e
theorem PSt.added (h : PSt w0 w bc bp bm cv A c bs key win lo hi tries lazy j f prev ov l) (hj : j < bs.length) {f' : Int → Option Int} {prev' : List Int} (hf' : f' = addF bs key j f) (hp' : prev' = prev.set j (addP bs key j f)) (hC : ChainAt w' w0.heap.size bc bp bm A c bs key (j + 1) f' prev') (hF : Frm (fun k => k = bp ∨ k = bm) w w') :
    PSt w0 w' bc bp bm cv A c bs key win lo hi tries lazy (j + 1) f' prev' ov l := by
  have d := h.ch.dis h.cv h.sv
  subst hf'; subst hp'
  exact ⟨hC, h.ci.add hj h.ch.n, h.ow.frm hF (by rintro k hk (rfl | rfl); exact h.ow.off h.ch.p (by decide) _ hk rfl; exact h.map _ hk rfl), h.cv.frm hF (by rintro (h | h); exact d.1 h; exact d.2.1 h),
    h.sv.frm hF (by rintro (h | h); exact d.2.2.1 h; exact d.2.2.2 h), h.be.trans (hF.below h.be.size (by rintro k (rfl | rfl); exact h.ch.hp; exact h.ch.hm))⟩
theorem PSt.grown (h : PSt w0 w bc bp bm cv A c bs key win lo hi tries lazy j f prev ov l) {ov' : Value} {l' : List Sq} (ho : OwnSq w' 69 w0.heap.size ov' l') (hF : Frm (fun k => ov.ownBlock = some k) w w') :
    PSt w0 w' bc bp bm cv A c bs key win lo hi tries lazy j f prev ov' l' :=
  ⟨h.ch.frm hF (fun e => h.ow.off h.ch.c (by decide) _ e rfl) (fun e => h.ow.off h.ch.p (by decide) _ e rfl) (fun e => h.map _ e rfl) (fun k hk => (h.ow.lt hk).1), h.ci, ho, h.cv.frm hF (fun e => h.ow.off h.cv (by decide) _ e rfl),
    h.sv.frm hF (fun e => h.ow.off h.sv (by decide) _ e rfl), h.be.trans (hF.below h.be.size (fun k hk => (h.ow.lt hk).1))⟩
theorem PSt.v0 (h : PSt w0 w bc bp bm cv A c bs key win lo hi tries lazy j f prev ov l) : w.cell? ⟨cv, 0, none⟩ = some (.pointer (some ⟨bc, 0, none⟩)) := by rw [h.cv.cell]; rfl
theorem PSt.s (h : PSt w0 w bc bp bm cv A c bs key win lo hi tries lazy j f prev ov l) : w.cell? ⟨w0.heap.size, 0, none⟩ = some (.int .i64 win) ∧ w.cell? ⟨w0.heap.size, 1, none⟩ = some (.int .i64 lo) ∧ w.cell? ⟨w0.heap.size, 2, none⟩ = some (.int .i64 hi) ∧
    w.cell? ⟨w0.heap.size, 3, none⟩ = some (.int .i64 tries) ∧ w.cell? ⟨w0.heap.size, 4, none⟩ = some (.bool lazy) := by
  refine ⟨?_, ?_, ?_, ?_, ?_⟩ <;> rw [h.sv.cell] <;> rfl
end
theorem Try.info_sq : (Try.prog.info? 69).map (fun i => (i.zero, i.size, i.bytes)) = some (some (.agg #[.int .i64 0, .int .i64 0, .int .i64 0]), 3, 24) := by kernel_rfl
def LoS (b lo : Nat) (w : World) : Prop := b < w.heap.size ∧ w.cell? ⟨b, 1, none⟩ = some (.int .i64 lo)
theorem LoS.drew {b lo : Nat} {w : World} (h : LoS b lo w) : LoS b lo w.drew := h
theorem LoS.alloc {b lo : Nat} {w : World} (h : LoS b lo w) (o : Obj) : LoS b lo (w.alloc o) := ⟨by have := h.1; simp; omega, (World.cell?_alloc_lt w o ⟨b, 1, none⟩ h.1).trans h.2⟩
theorem LoS.set {b lo : Nat} {w : World} (h : LoS b lo w) {p : Addr} (v : Value) (hp : b ≠ p.block) : LoS b lo (w.setCell p v) := by
  refine ⟨by have := h.1; simp; omega, ?_⟩
  have hf : Frm (fun k => k = p.block) w (w.setCell p v) := (Frm.refl _ _).setCell (by rfl) _
  exact (World.cell?_of_block (a := ⟨b, 1, none⟩) (hf.block b h.1 hp)).trans h.2

set_option maxRecDepth 100000 in
set_option maxHeartbeats 4000000 in
theorem parse_main (A : Option Addr) (bs : List UInt8) (n c : Nat) (fr level window least most : Int) (at_ lv win lo hi : Nat) (w : World) (hn : n = bs.length) (hc : bs.length ≤ c) (hcm : c ≤ maxLen) (hr : BRow w w.heap.size A bs) (hlen : bs.length ≤ 1048576)
    (h1 : min (max fr 0) bs.length = at_) (h2 : min (max level 0) 3 = lv) (h3 : min (max window 1) 16777216 = win) (h4 : min (max least 2) 65536 = lo) (h5 : max (lo : Int) (min most 65536) = hi) (hat : at_ < bs.length) (hlv : 1 ≤ lv) :
    Calls Try.prog 12 #[.slice A n c, .int .i64 fr, .int .i64 level, .int .i64 window, .int .i64 least, .int .i64 most] w fun e w' =>
      ∃ v l, e = .returned v ∧ OwnSq w' 69 w.heap.size v l ∧ Right bs win lo hi l at_ ∧ (AllSame bs at_ → l.length ≤ 2 + (bs.length - at_) / hi) ∧ l.length ≤ 2097153 ∧ Below w.heap.size w w' := by
  subst hn
  unfold maxLen at hcm
  obtain ⟨X, hX⟩ : ∃ X, max fr 0 = X := ⟨_, rfl⟩
  obtain ⟨Y, hY⟩ : ∃ X, max level 0 = X := ⟨_, rfl⟩
  obtain ⟨Z, hZ⟩ : ∃ X, max window 1 = X := ⟨_, rfl⟩
  obtain ⟨U, hU⟩ : ∃ X, max least 2 = X := ⟨_, rfl⟩
  obtain ⟨V, hV⟩ : ∃ X, min most 65536 = X := ⟨_, rfl⟩
  rw [hX] at h1; rw [hY] at h2; rw [hZ] at h3; rw [hU] at h4; rw [hV] at h5
  obtain ⟨key, hkey⟩ : ∃ key : Nat, min (lo : Int) 4 = key := ⟨min lo 4, by omega⟩
  obtain ⟨st, hst⟩ : ∃ st : Nat, max 0 ((at_ : Int) - win) = st := ⟨at_ - win, by omega⟩
  have f1 := fun w => max2_int (P := Try.prog) #[3, 3] 3 _ _ _ hX w
  have f2 := fun w => max2_int (P := Try.prog) #[3, 3] 3 _ _ _ hY w
  have f3 := fun w => max2_int (P := Try.prog) #[3, 3] 3 _ _ _ hZ w
  have f4 := fun w => max2_int (P := Try.prog) #[3, 3] 3 _ _ _ hU w
  have f5 := fun w => min2_int (P := Try.prog) #[3, 3] 3 _ _ _ hV w
  have f6 := fun w => min2_int (P := Try.prog) #[3, 3] 3 _ _ _ h1 w
  have f7 := fun w => min2_int (P := Try.prog) #[3, 3] 3 _ _ _ h2 w
  have f8 := fun w => min2_int (P := Try.prog) #[3, 3] 3 _ _ _ h3 w
  have f9 := fun w => min2_int (P := Try.prog) #[3, 3] 3 _ _ _ h4 w
  have f10 := fun w => max2_int (P := Try.prog) #[3, 3] 3 _ _ _ h5 w
  have f11 := fun w => min2_int (P := Try.prog) #[3, 3] 3 _ _ _ hkey w
  have f12 := fun w => max2_int (P := Try.prog) #[3, 3] 3 _ _ _ hst w
  have b1 : at_ ≤ bs.length := by omega
  have b2 : lv ≤ 3 := by omega
  have b3 : 1 ≤ win ∧ win ≤ 16777216 := by omega
  have b4 : 2 ≤ lo ∧ lo ≤ 65536 := by omega
  have b5 : lo ≤ hi ∧ hi ≤ 65536 := by omega
  have b6 : key ≤ 4 ∧ key ≤ lo := by omega
  have b7 : st ≤ at_ := by omega
  have ne1 : ((at_ : Int) == (bs.length : Int)) = false := beq_eq_false_iff_ne.2 (by omega)
  have ne2 : ((lv : Int) == 0) = false := beq_eq_false_iff_ne.2 (by omega)
  obtain ⟨lazy, hlz⟩ : ∃ lazy, decide (1 < (lv : Int)) = lazy := ⟨_, rfl⟩
  obtain ⟨tries, htr, t1, t2⟩ : ∃ tries : Nat, wrap64 (4 * 2 ^ (2 * lv)) = (tries : Int) ∧ 1 ≤ tries ∧ tries ≤ 1000 := by
    have : lv = 1 ∨ lv = 2 ∨ lv = 3 := by omega
    rcases this with rfl | rfl | rfl
    · exact ⟨16, by simp [wrap64], by decide, by decide⟩
    · exact ⟨64, by simp [wrap64], by decide, by decide⟩
    · exact ⟨256, by simp [wrap64], by decide, by decide⟩
  clear hX hY hZ hU hV h1 h2 h3 h4 h5 hkey hst
  have HR := Lib.hid hr
  clear hr
  have hmm := @run_makeMap Try.prog
  have hms := make_ints bs.length hlen
  have hmf : ∀ (fn : Fn) (first cap : Array Value) (w : World), (Instr.makeFunc fn first cap).run Try.prog w = .ok (.func fn first cap) w := fun _ _ _ _ => rfl
  go_enter Try.func12, Try.ntmps12
  go_upto_region 9 with fail
  have hsv : Pts (w.alloc (.cells (setCells win lo hi tries lazy) 71)) w.heap.size (setCells win lo hi tries lazy) 71 := Pts.new _ _ _
  have hbl : Below w.heap.size w (w.alloc (.cells (setCells win lo hi tries lazy) 71)) := (Below.refl _ _).alloc (Nat.le_refl _) _
  unfold setCells at hsv hbl
  have hsz : w.heap.size < (w.alloc (.cells #[.int .i64 win, .int .i64 lo, .int .i64 hi, .int .i64 tries, .bool lazy] 71)).heap.size := by simp
  generalize w.alloc (.cells #[.int .i64 win, .int .i64 lo, .int .i64 hi, .int .i64 tries, .bool lazy] 71) = w1 at *
  have s1 : w1.cell? ⟨w.heap.size, 1, none⟩ = some (.int .i64 lo) := by rw [hsv.cell]; rfl
  have SV := Lib.hid hsv
  have BL := Lib.hid hbl
  clear hsv hbl
  go_cut [14] from 24 to 71 (fun s14 wx => ∃ bc bp bm cv : Nat, s14 = .pointer (some ⟨cv, 0, none⟩) ∧ w.heap.size ≤ cv ∧ ChainAt wx w.heap.size bc bp bm A c bs key 0 (fun _ => none) (List.replicate bs.length 0) ∧
    Pts wx cv #[.pointer (some ⟨bc, 0, none⟩)] 72 ∧ Pts wx w.heap.size (setCells win lo hi tries lazy) 71 ∧ Below w.heap.size w wx)
  case first =>
    have hS0 : LoS w.heap.size lo w1 := ⟨hsz, s1⟩
    have hS1 : LoS w.heap.size lo w1.drew := hS0
    go_region_held3 (fun w' => w.heap.size < w'.heap.size ∧ w'.cell? ⟨w.heap.size, 1, none⟩ = some (.int .i64 lo)) (first | assumption | (change LoS w.heap.size lo _; repeat (first | exact hS0 | refine LoS.drew ?_ | refine LoS.alloc ?_ _ | refine LoS.set ?_ _ (by simp; omega)))) (first | fail | fail)
    all_goals
      go_wp2
      go_meet
      case rel =>
        first
          | exact made_four w w1 _ _ _ _ 0 1 2 3 rfl rfl rfl rfl HR.out BL.out SV.out
          | exact made_four w w1 _ _ _ _ 0 1 3 2 rfl rfl rfl rfl HR.out BL.out SV.out
          | exact made_four w w1 _ _ _ _ 0 2 3 1 rfl rfl rfl rfl HR.out BL.out SV.out
          | exact made_four w w1 _ _ _ _ 1 2 3 0 rfl rfl rfl rfl HR.out BL.out SV.out
          | exact made_four w w1 _ _ _ _ 1 0 2 3 rfl rfl rfl rfl HR.out BL.out SV.out
          | exact made_four w w1 _ _ _ _ 1 0 3 2 rfl rfl rfl rfl HR.out BL.out SV.out
          | exact made_four w w1 _ _ _ _ 2 0 3 1 rfl rfl rfl rfl HR.out BL.out SV.out
          | exact made_four w w1 _ _ _ _ 2 1 3 0 rfl rfl rfl rfl HR.out BL.out SV.out
  case rest =>
    obtain ⟨bc, bp, bm, cv, rfl, hcvB, hC, hcv, hsv, hbe⟩ := hcut
    clear s1 hsz SV BL f1 f2 f3 f4 f5 f6 f7 f8 f9 f10 f11 hmm hms hlz htr
    have HC := Lib.hid hC
    have HCV := Lib.hid hcv
    have HSV := Lib.hid hsv
    have HBE := Lib.hid hbe
    have s0 : wc.cell? ⟨w.heap.size, 0, none⟩ = some (.int .i64 win) := by rw [hsv.cell]; rfl
    clear hC hcv hsv hbe
    obtain ⟨b31, b32⟩ := b3
    obtain ⟨b41, b42⟩ := b4
    obtain ⟨b51, b52⟩ := b5
    obtain ⟨b61, b62⟩ := b6
    go_wp2
    clear f12 s0
    go_loopw [15] (fun iv wr => ∃ (k : Nat) (f : Int → Option Int) (prev : List Int), iv = .int .i64 k ∧ k ≤ at_ ∧ ChainAt wr w.heap.size bc bp bm A c bs key k f prev ∧ CI bs k f prev ∧
        Pts wr cv #[.pointer (some ⟨bc, 0, none⟩)] 72 ∧ Pts wr w.heap.size (setCells win lo hi tries lazy) 71 ∧ Below w.heap.size w wr) (fun iv _ => at_ - (intOf iv).toNat)
    case atStart => exact ⟨st, _, _, rfl, b7, HC.out.mono (Nat.zero_le _), CI.start _ _, HCV.out, HSV.out, HBE.out⟩
    case round =>
      obtain ⟨k, f, prev, rfl, hk, hC, hI, hcv, hsv, hbe⟩ := hrel
      have C1 := Lib.hid hC
      have I1 := Lib.hid hI
      have CV := Lib.hid hcv
      have SV := Lib.hid hsv
      have BE := Lib.hid hbe
      by_cases hka : k < at_
      · have v0 : wr.cell? ⟨cv, 0, none⟩ = some (.pointer (some ⟨bc, 0, none⟩)) := by rw [hcv.cell]; rfl
        clear hC hI hcv hsv hbe
        go_wp2_with (go_at_call 19; refine (add_any w.heap.size bc bp bm A c bs key k k f prev wr C1.out hc hcm hlen b61 (by omega) (by omega) (fun k p hp => by have := I1.out.f k p hp; exact wf_i64 (by omega) (by omega))).mono ?_; rintro e w2 ⟨rfl, hC2, hF2⟩)
        have d := C1.out.dis CV.out SV.out
        have hB2 := hF2.below (B := w.heap.size) BE.out.size (by rintro k (rfl | rfl); exact C1.out.hp; exact C1.out.hm)
        exact ⟨⟨k + 1, _, _, by go_num, by omega, hC2, I1.out.add (by omega) C1.out.n, CV.out.frm hF2 (by rintro (h | h); exact d.1 h; exact d.2.1 h), SV.out.frm hF2 (by rintro (h | h); exact d.2.2.1 h; exact d.2.2.2 h), BE.out.trans hB2⟩, by simp [intOf]; omega⟩
      · obtain rfl : k = at_ := by omega
        clear hC hI hcv hsv hbe HC HCV HSV HBE
        go_wp2
        go_loopw [16, 17, 19] (fun ov lv iv wr => ∃ (i q : Nat) (l : List Sq) (f : Int → Option Int) (prev : List Int), iv = .int .i64 i ∧ lv = .int .i64 q ∧ k + q ≤ i ∧ i ≤ bs.length ∧ Pre bs win lo hi l k (i - q) ∧ l.length ≤ i ∧
            PSt w wr bc bp bm cv A c bs key win lo hi tries lazy i f prev ov l ∧ (AllSame bs k → Near bs key k i f ∧ Fewer bs.length k key lo hi i q l.length)) (fun _ _ iv _ => bs.length - (intOf iv).toNat)
        case atStart => exact ⟨k, 0, [], f, prev, rfl, rfl, by omega, by omega, rfl, Nat.zero_le _, ⟨C1.out, I1.out, OwnSq.nil _ _ _, CV.out, SV.out, BE.out⟩, fun _ => ⟨fun h => absurd h (by omega), .inl ⟨rfl, by omega, by omega⟩⟩⟩
        case round =>
          clear C1 I1 CV SV BE
          obtain ⟨i, q, l, f, prev, rfl, rfl, hqi, hin, hpre, hll, hps, hfew⟩ := hrel
          have PR := Lib.hid hpre
          have PS1 := Lib.hid hps
          have FW := Lib.hid hfew
          clear hpre hps hfew
          by_cases hilt : i < bs.length
          · have v0 := PS1.out.v0
            obtain ⟨s0, s1, s2, s3, s4⟩ := PS1.out.s
            go_upto_region 20 with (go_at_call 21; refine (longest_any w.heap.size bc bp bm A c bs key i i win lo hi tries lazy f prev wr PS1.out.ch hc hcm hlen b61 (Nat.le_of_lt hilt) PS1.out.ci.f PS1.out.ci.p b31 b32 b41 b51 b52 t1 t2).mono ?_; rintro e w2 ⟨size, back, rfl, hL, hB⟩)
            have PS2 := Lib.hid (PS1.out.later hB)
            have LL := Lib.hid hL
            have hsz : size ≤ 65536 := by have := hL.lim; omega
            have hsn : i + size ≤ bs.length := by have := hL.lim; omega
            have hbk : back ≤ 1048576 := by rcases hL.ok with ⟨_, h⟩ | ⟨_, _, h, _⟩ <;> omega
            clear hL hB v0 s0 s1 s2 s3 s4
            have v0 := PS2.out.v0
            obtain ⟨s0, s1, s2, s3, s4⟩ := PS2.out.s
            by_cases hz : size = 0
            · subst hz
              go_wp2_with (go_at_call 19; refine (add_any w.heap.size bc bp bm A c bs key i i f prev w2 PS2.out.ch hc hcm hlen b61 hilt (by omega) (fun k p hp => by have := PS2.out.ci.f k p hp; exact wf_i64 (by omega) (by omega))).mono ?_; rintro e w3 ⟨rfl, hC3, hF3⟩)
              exact ⟨⟨i + 1, q + 1, l, _, _, by go_num, by go_num, by omega, by omega, by rw [show i + 1 - (q + 1) = i - q by omega]; exact PR.out, by omega, PS2.out.added hilt rfl rfl hC3 hF3,
                fun hs => ⟨Near.add hs (by omega), Fewer.zero (FW.out hs).2 hs (FW.out hs).1 b31 LL.out b41 b51 hilt⟩⟩, by simp [intOf]; omega⟩
            · have hz1 : ((size : Int) == 0) = false := beq_eq_false_iff_ne.2 (by omega)
              cases lazy
              · have lz0 : True := trivial
                have hst : StepOk bs win lo hi (i - q) ⟨(q : Int), (size : Int), (back : Int)⟩ (i + size) := ⟨q, size, back, rfl, by omega, hsn, by rcases LL.out.lo with h | h; omega; exact h, by have := LL.out.lim; omega, by
                  rw [show i - q + q = i by omega]
                  rcases LL.out.ok with ⟨h, _⟩ | h
                  · exact absurd h hz
                  · exact h⟩
                have ST := Lib.hid hst
                clear hst
                go_wp2_with (at_builtin; refine wpList_append_sq _ rfl (.tmp 123) (.tmp 128) 37 rfl 69 w.heap.size Try.underlying37 Try.info_sq u16 l rfl ?own1 w2.heap.size 1 ⟨(q : Int), (size : Int), (back : Int)⟩ rfl ?news1 ?len1 ?base1 ?next1)
                case own1 => exact PS2.out.ow.alloc _
                case news1 => exact Pts.new _ _ _
                case len1 => omega
                case base1 => have := PS2.out.be.size; simp; omega
                case next1 =>
                  intro v4 w4 hown4 hfrm4 hnew4
                  have P4 := Lib.hid ((PS2.out.alloc (.cells #[.int .i64 q, .int .i64 size, .int .i64 back] 69)).grown hown4 hfrm4)
                  clear hown4 hfrm4 hnew4 v0 s0 s1 s2 s3 s4
                  obtain ⟨s0, s1, s2, s3, s4⟩ := P4.out.s
                  have PG := Lib.hid (show Pre bs win lo hi (l ++ [(⟨(q : Int), (size : Int), (back : Int)⟩ : Sq)]) k (i + size - 0) from PR.out.snoc ST.out)
                  have L2 := Lib.hid (show (l ++ [(⟨(q : Int), (size : Int), (back : Int)⟩ : Sq)]).length = l.length + 1 by simp)
                  generalize l ++ [(⟨(q : Int), (size : Int), (back : Int)⟩ : Sq)] = l4 at P4 L2 PG
                  go_wp2
                  go_loopw [19, 22] (fun iv av wq => ∃ (j m : Nat) (ad : Bool) (f : Int → Option Int) (prev : List Int), iv = .int .i64 j ∧ av = .bool ad ∧ i ≤ j ∧ j ≤ i + size ∧ ((ad = false ∧ m = j) ∨ (ad = true ∧ m = j + 1 ∧ j = i)) ∧
                      PSt w wq bc bp bm cv A c bs key win lo hi tries false m f prev v4 l4 ∧ (AllSame bs k → Near bs key k m f)) (fun iv _ _ => i + size - (intOf iv).toNat)
                  case atStart => exact ⟨i, _, _, _, _, rfl, rfl, by omega, by omega, .inl ⟨rfl, rfl⟩, P4.out, fun hs => (FW.out hs).1⟩
                  case round =>
                    obtain ⟨j, m, ad, f5, prev5, rfl, rfl, hij, hje, had, hp5, hn5⟩ := hrel
                    have P5 := Lib.hid hp5
                    have N5 := Lib.hid hn5
                    clear hp5 hn5 s0 s1 s2 s3 s4
                    by_cases hjlt : j < i + size
                    · have v0 := P5.out.v0
                      rcases had with ⟨rfl, rfl⟩ | ⟨rfl, rfl, rfl⟩
                      · go_wp2_with (go_at_call 19; refine (add_any w.heap.size bc bp bm A c bs key m m f5 prev5 wr P5.out.ch hc hcm hlen b61 (by omega) (by omega) (fun k p hp => by have := P5.out.ci.f k p hp; exact wf_i64 (by omega) (by omega))).mono ?_; rintro e w6 ⟨rfl, hC6, hF6⟩)
                        exact ⟨⟨m + 1, m + 1, false, _, _, by go_num, rfl, by omega, by omega, .inl ⟨rfl, rfl⟩, P5.out.added (by omega) rfl rfl hC6 hF6, fun hs => Near.add hs (by omega)⟩, by simp [intOf]; omega⟩
                      · go_wp2
                        exact ⟨⟨j + 1, j + 1, false, _, _, by go_num, rfl, by omega, by omega, .inl ⟨rfl, rfl⟩, P5.out, N5.out⟩, by simp [intOf]; omega⟩
                    · have hj : j = i + size := by omega
                      rcases had with ⟨rfl, rfl⟩ | ⟨rfl, rfl, rfl⟩
                      · subst hj
                        go_wp2
                        exact ⟨⟨i + size, 0, l4, f5, prev5, by go_num, rfl, by omega, by omega, PG.out, by rw [L2.out]; omega, P5.out, fun hs => ⟨N5.out hs, by rw [L2.out]; exact Fewer.hit (FW.out hs).2 hs (FW.out hs).1 b31 LL.out hz b41 b62 b51 hilt⟩⟩, by simp [intOf]; omega⟩
                      · omega
              · by_cases h64 : size < 64
                · have h641 : ((size : Int) < 64) := by omega
                  go_upto_if 113 with (go_at_call 20; refine (better_any w.heap.size bc bp bm cv w.heap.size A c bs key i i size win lo hi tries true f prev w2 PS2.out.ch PS2.out.cv PS2.out.sv hc hcm hlen b61 hilt PS2.out.ci (by omega) (by omega) b31 b32 b41 b51 b52 t1 t2).mono ?_; rintro e w3 ⟨β, n2, b2, rfl, hβ, hL2, hC3, hF3⟩)
                  have PS3 := Lib.hid (PS2.out.added hilt rfl rfl hC3 hF3)
                  have LL2 := Lib.hid hL2
                  have BT := Lib.hid hβ
                  clear hβ hL2 hC3 hF3 v0 s0 s1 s2 s3 s4
                  have v0 := PS3.out.v0
                  obtain ⟨s0, s1, s2, s3, s4⟩ := PS3.out.s
                  cases β
                  · have lz0 : True := trivial
                    have hst : StepOk bs win lo hi (i - q) ⟨(q : Int), (size : Int), (back : Int)⟩ (i + size) := ⟨q, size, back, rfl, by omega, hsn, by rcases LL.out.lo with h | h; omega; exact h, by have := LL.out.lim; omega, by
                      rw [show i - q + q = i by omega]
                      rcases LL.out.ok with ⟨h, _⟩ | h
                      · exact absurd h hz
                      · exact h⟩
                    have ST := Lib.hid hst
                    clear hst
                    go_wp2_with (at_builtin; refine wpList_append_sq _ rfl (.tmp 123) (.tmp 128) 37 rfl 69 w.heap.size Try.underlying37 Try.info_sq u16 l rfl ?own2 w3.heap.size 1 ⟨(q : Int), (size : Int), (back : Int)⟩ rfl ?news2 ?len2 ?base2 ?next2)
                    case own2 => exact PS3.out.ow.alloc _
                    case news2 => exact Pts.new _ _ _
                    case len2 => omega
                    case base2 => have := PS3.out.be.size; simp; omega
                    case next2 =>
                      intro v4 w4 hown4 hfrm4 hnew4
                      have P4 := Lib.hid ((PS3.out.alloc (.cells #[.int .i64 q, .int .i64 size, .int .i64 back] 69)).grown hown4 hfrm4)
                      clear hown4 hfrm4 hnew4 v0 s0 s1 s2 s3 s4
                      obtain ⟨s0, s1, s2, s3, s4⟩ := P4.out.s
                      have PG := Lib.hid (show Pre bs win lo hi (l ++ [(⟨(q : Int), (size : Int), (back : Int)⟩ : Sq)]) k (i + size - 0) from PR.out.snoc ST.out)
                      have L2 := Lib.hid (show (l ++ [(⟨(q : Int), (size : Int), (back : Int)⟩ : Sq)]).length = l.length + 1 by simp)
                      generalize l ++ [(⟨(q : Int), (size : Int), (back : Int)⟩ : Sq)] = l4 at P4 L2 PG
                      go_wp2
                      go_loopw [19, 22] (fun iv av wq => ∃ (j m : Nat) (ad : Bool) (f : Int → Option Int) (prev : List Int), iv = .int .i64 j ∧ av = .bool ad ∧ i ≤ j ∧ j ≤ i + size ∧ ((ad = false ∧ m = j) ∨ (ad = true ∧ m = j + 1 ∧ j = i)) ∧
                          PSt w wq bc bp bm cv A c bs key win lo hi tries true m f prev v4 l4 ∧ (AllSame bs k → Near bs key k m f)) (fun iv _ _ => i + size - (intOf iv).toNat)
                      case atStart => exact ⟨i, _, _, _, _, rfl, rfl, by omega, by omega, .inr ⟨rfl, rfl, rfl⟩, P4.out, fun hs => Near.add hs (by omega)⟩
                      case round =>
                        obtain ⟨j, m, ad, f5, prev5, rfl, rfl, hij, hje, had, hp5, hn5⟩ := hrel
                        have P5 := Lib.hid hp5
                        have N5 := Lib.hid hn5
                        clear hp5 hn5 s0 s1 s2 s3 s4
                        by_cases hjlt : j < i + size
                        · have v0 := P5.out.v0
                          rcases had with ⟨rfl, rfl⟩ | ⟨rfl, rfl, rfl⟩
                          · go_wp2_with (go_at_call 19; refine (add_any w.heap.size bc bp bm A c bs key m m f5 prev5 wr P5.out.ch hc hcm hlen b61 (by omega) (by omega) (fun k p hp => by have := P5.out.ci.f k p hp; exact wf_i64 (by omega) (by omega))).mono ?_; rintro e w6 ⟨rfl, hC6, hF6⟩)
                            exact ⟨⟨m + 1, m + 1, false, _, _, by go_num, rfl, by omega, by omega, .inl ⟨rfl, rfl⟩, P5.out.added (by omega) rfl rfl hC6 hF6, fun hs => Near.add hs (by omega)⟩, by simp [intOf]; omega⟩
                          · go_wp2
                            exact ⟨⟨j + 1, j + 1, false, _, _, by go_num, rfl, by omega, by omega, .inl ⟨rfl, rfl⟩, P5.out, N5.out⟩, by simp [intOf]; omega⟩
                        · have hj : j = i + size := by omega
                          rcases had with ⟨rfl, rfl⟩ | ⟨rfl, rfl, rfl⟩
                          · subst hj
                            go_wp2
                            exact ⟨⟨i + size, 0, l4, f5, prev5, by go_num, rfl, by omega, by omega, PG.out, by rw [L2.out]; omega, P5.out, fun hs => ⟨N5.out hs, by rw [L2.out]; exact Fewer.hit (FW.out hs).2 hs (FW.out hs).1 b31 LL.out hz b41 b62 b51 hilt⟩⟩, by simp [intOf]; omega⟩
                          · omega
                  · go_wp2
                    exact ⟨⟨i + 1, q + 1, l, _, _, by go_num, by go_num, by omega, by omega, by rw [show i + 1 - (q + 1) = i - q by omega]; exact PR.out, by omega, PS3.out,
                      fun hs => ⟨Near.add hs (by omega), Fewer.better (FW.out hs).2 hs (FW.out hs).1 b31 LL.out LL2.out (BT.out rfl) hz b62 b51⟩⟩, by simp [intOf]; omega⟩
                · have h641 : (64 : Int) ≤ (size : Int) := by omega
                  have hst : StepOk bs win lo hi (i - q) ⟨(q : Int), (size : Int), (back : Int)⟩ (i + size) := ⟨q, size, back, rfl, by omega, hsn, by rcases LL.out.lo with h | h; omega; exact h, by have := LL.out.lim; omega, by
                    rw [show i - q + q = i by omega]
                    rcases LL.out.ok with ⟨h, _⟩ | h
                    · exact absurd h hz
                    · exact h⟩
                  have ST := Lib.hid hst
                  clear hst
                  go_wp2_with (at_builtin; refine wpList_append_sq _ rfl (.tmp 123) (.tmp 128) 37 rfl 69 w.heap.size Try.underlying37 Try.info_sq u16 l rfl ?own3 w2.heap.size 1 ⟨(q : Int), (size : Int), (back : Int)⟩ rfl ?news3 ?len3 ?base3 ?next3)
                  case own3 => exact PS2.out.ow.alloc _
                  case news3 => exact Pts.new _ _ _
                  case len3 => omega
                  case base3 => have := PS2.out.be.size; simp; omega
                  case next3 =>
                    intro v4 w4 hown4 hfrm4 hnew4
                    have P4 := Lib.hid ((PS2.out.alloc (.cells #[.int .i64 q, .int .i64 size, .int .i64 back] 69)).grown hown4 hfrm4)
                    clear hown4 hfrm4 hnew4 v0 s0 s1 s2 s3 s4
                    obtain ⟨s0, s1, s2, s3, s4⟩ := P4.out.s
                    have PG := Lib.hid (show Pre bs win lo hi (l ++ [(⟨(q : Int), (size : Int), (back : Int)⟩ : Sq)]) k (i + size - 0) from PR.out.snoc ST.out)
                    have L2 := Lib.hid (show (l ++ [(⟨(q : Int), (size : Int), (back : Int)⟩ : Sq)]).length = l.length + 1 by simp)
                    generalize l ++ [(⟨(q : Int), (size : Int), (back : Int)⟩ : Sq)] = l4 at P4 L2 PG
                    go_wp2
                    go_loopw [19, 22] (fun iv av wq => ∃ (j m : Nat) (ad : Bool) (f : Int → Option Int) (prev : List Int), iv = .int .i64 j ∧ av = .bool ad ∧ i ≤ j ∧ j ≤ i + size ∧ ((ad = false ∧ m = j) ∨ (ad = true ∧ m = j + 1 ∧ j = i)) ∧
                        PSt w wq bc bp bm cv A c bs key win lo hi tries true m f prev v4 l4 ∧ (AllSame bs k → Near bs key k m f)) (fun iv _ _ => i + size - (intOf iv).toNat)
                    case atStart => exact ⟨i, _, _, _, _, rfl, rfl, by omega, by omega, .inl ⟨decide_eq_false (by omega), rfl⟩, P4.out, fun hs => (FW.out hs).1⟩
                    case round =>
                      obtain ⟨j, m, ad, f5, prev5, rfl, rfl, hij, hje, had, hp5, hn5⟩ := hrel
                      have P5 := Lib.hid hp5
                      have N5 := Lib.hid hn5
                      clear hp5 hn5 s0 s1 s2 s3 s4
                      by_cases hjlt : j < i + size
                      · have v0 := P5.out.v0
                        rcases had with ⟨rfl, rfl⟩ | ⟨rfl, rfl, rfl⟩
                        · go_wp2_with (go_at_call 19; refine (add_any w.heap.size bc bp bm A c bs key m m f5 prev5 wr P5.out.ch hc hcm hlen b61 (by omega) (by omega) (fun k p hp => by have := P5.out.ci.f k p hp; exact wf_i64 (by omega) (by omega))).mono ?_; rintro e w6 ⟨rfl, hC6, hF6⟩)
                          exact ⟨⟨m + 1, m + 1, false, _, _, by go_num, rfl, by omega, by omega, .inl ⟨rfl, rfl⟩, P5.out.added (by omega) rfl rfl hC6 hF6, fun hs => Near.add hs (by omega)⟩, by simp [intOf]; omega⟩
                        · go_wp2
                          exact ⟨⟨j + 1, j + 1, false, _, _, by go_num, rfl, by omega, by omega, .inl ⟨rfl, rfl⟩, P5.out, N5.out⟩, by simp [intOf]; omega⟩
                      · have hj : j = i + size := by omega
                        rcases had with ⟨rfl, rfl⟩ | ⟨rfl, rfl, rfl⟩
                        · subst hj
                          go_wp2
                          exact ⟨⟨i + size, 0, l4, f5, prev5, by go_num, rfl, by omega, by omega, PG.out, by rw [L2.out]; omega, P5.out, fun hs => ⟨N5.out hs, by rw [L2.out]; exact Fewer.hit (FW.out hs).2 hs (FW.out hs).1 b31 LL.out hz b41 b62 b51 hilt⟩⟩, by simp [intOf]; omega⟩
                        · omega
          · have hie : i = bs.length := by omega
            have hbl := PS1.out.be
            by_cases hq : 0 < q
            · have hqq : (0 : Int) < (q : Int) := by omega
              go_wp2_with (at_builtin; refine wpList_append_sq _ rfl (.tmp 151) (.tmp 154) 37 rfl 69 w.heap.size Try.underlying37 Try.info_sq u16 l rfl ?own9 wr.heap.size 1 ⟨(q : Int), 0, 0⟩ rfl ?news9 ?len9 ?base9 ?next9)
              case own9 => exact PS1.out.ow.alloc _
              case news9 => exact Pts.new _ _ _
              case len9 => omega
              case base9 => have := PS1.out.be.size; simp; omega
              case next9 =>
                intro v4 w4 hown4 hfrm4 hnew4
                have P4 := Lib.hid ((PS1.out.alloc (.cells #[.int .i64 q, .int .i64 0, .int .i64 0] 69)).grown hown4 hfrm4)
                clear hown4 hfrm4 hnew4
                have RR := Lib.hid (Pre.tail PR.out hq (by omega))
                have TT := Lib.hid (fun (hs : AllSame bs k) => (hie ▸ (FW.out hs).2 : Fewer bs.length k key lo hi bs.length q l.length).total (tot := (l ++ [(⟨(q : Int), 0, 0⟩ : Sq)]).length) (by omega) (by rw [if_pos hq]; simp))
                have LN := Lib.hid (show (l ++ [(⟨(q : Int), 0, 0⟩ : Sq)]).length ≤ 2097153 by simp; omega)
                generalize l ++ [(⟨(q : Int), 0, 0⟩ : Sq)] = l4 at P4 RR TT LN
                go_wp2
                go_ret
                exact ⟨_, l4, rfl, P4.out.ow, RR.out, TT.out, LN.out, P4.out.be⟩
            · have hq0 : q = 0 := by omega
              subst hq0
              have RR := Lib.hid (Pre.right PR.out (by omega))
              have TT := Lib.hid (fun (hs : AllSame bs k) => (hie ▸ (FW.out hs).2 : Fewer bs.length k key lo hi bs.length 0 l.length).total (tot := l.length) (by omega) (by simp))
              go_wp2
              go_ret
              exact ⟨_, l, rfl, PS1.out.ow, RR.out, TT.out, by omega, hbl⟩
end Go.Proofs.Ytefbjamepbkklaa

/- Steps that are right stand in their text; rows of steps: appended, one number changed. -/
namespace Go.Proofs.Ytefbjamepbkklaa
open Go.RowKit Rng Win Lz Fnd
set_option linter.unusedVariables false
set_option linter.unusedSimpArgs false
theorem right_go {bs : List UInt8} {win : Nat} : ∀ (l : List Sq) (a : Nat), a ≤ bs.length → Right bs win 2 273 l a → rightGo bs l a = some bs.length
  | [], a, _, h => by
    have h : a = bs.length := h
    unfold rightGo
    rw [h]
  | s :: l, a, ha, h => by
    unfold rightGo
    rcases h with ⟨m, ⟨L, M, K, rfl, h1, h2, h3, h4, h5, h6, h7, h8⟩, hr⟩ | ⟨rfl, L, rfl, h1, h2⟩
    · rw [if_neg (by unfold RB1; simp only; omega), if_neg (by simp only; omega), if_neg (by unfold RB2; simp only; omega)]
      simp only [Int.toNat_natCast]
      rw [if_pos (show Same bs (a + L) M K from h8), h1]
      exact right_go l m h2 hr
    · rw [if_neg (by unfold RB1; simp only; omega), if_pos rfl]
      simp only [Int.toNat_natCast]
      rw [h2]
      rfl
theorem right_fits {bs : List UInt8} {win : Nat} (hb : bs.length ≤ 16777216) (hw : win ≤ 16777216) : ∀ (l : List Sq) (a : Nat), Right bs win 2 273 l a → ∀ s ∈ l, s.fits
  | [], _, _, s, hs => by cases hs
  | t :: l, a, h, s, hs => by
    rcases h with ⟨m, ⟨L, M, K, rfl, h1, h2, h3, h4, h5, h6, h7, h8⟩, hr⟩ | ⟨rfl, L, rfl, h1, h2⟩
    · rcases List.mem_cons.1 hs with rfl | hs
      · unfold Sq.fits; simp only; omega
      · exact right_fits hb hw l m hr s hs
    · rcases List.mem_cons.1 hs with rfl | hs
      · unfold Sq.fits; simp only; omega
      · cases hs
theorem okOps_cost {bs : List UInt8} : ∀ (l : List (Option (Nat × Nat))) (a : Nat), OkOps bs a l → costOps l + 50 * a ≤ 50 * bs.length
  | [], a, h => by
    have h : a = bs.length := h
    show 0 + 50 * a ≤ _
    omega
  | none :: l, a, h => by
    have h1 := okOps_cost l (a + 1) h.2
    show 9 + costOps l + 50 * a ≤ _
    omega
  | some m :: l, a, h => by
    obtain ⟨a1, a2, a3, a4, a5, a6⟩ := h
    have h1 := okOps_cost l (a + m.1) a6
    show 100 + costOps l + 50 * a ≤ _
    omega
theorem right_true {bs : List UInt8} {l : List Sq} (h : rightP bs 0 l = true) : rightGo bs l 0 = some bs.length ∧ costOps (opsOf l) ≤ 50 * bs.length := by
  have e : rightGo bs l 0 = some bs.length := by
    unfold rightP rightEnd at h
    cases hg : rightGo bs l 0 with
    | none => rw [hg] at h; cases h
    | some a =>
      rw [hg] at h
      rw [(of_decide_eq_true h).1]
  exact ⟨e, by have := okOps_cost _ 0 (right_ops l 0 (Nat.zero_le _) e); omega⟩
theorem right_is {bs : List UInt8} {l : List Sq} (h : rightGo bs l 0 = some bs.length) (h1 : 1 ≤ bs.length) : rightP bs 0 l = true := by
  unfold rightP
  rw [h]
  exact decide_eq_true ⟨rfl, by omega⟩
/-- The cells of steps, one behind the other. -/
theorem sqCells_any (l : List Sq) (j : Nat) (u : Value) (h : (sqCells l)[j]? = some u) : j / 3 < l.length ∧ ((j % 3 = 0 ∧ u = .int .i64 (l.getD (j / 3) default).lits) ∨ (j % 3 = 1 ∧ u = .int .i64 (l.getD (j / 3) default).mat) ∨ (j % 3 = 2 ∧ u = .int .i64 (l.getD (j / 3) default).back)) := by
  have hlt : j < (sqCells l).length := by
    rcases Nat.lt_or_ge j (sqCells l).length with h1 | h1
    · exact h1
    · rw [List.getElem?_eq_none h1] at h; cases h
  rw [sqCells_length] at hlt
  have hk : j / 3 < l.length := by omega
  obtain ⟨c0, c1, c2⟩ := sqCells_at l (j / 3) hk
  refine ⟨hk, ?_⟩
  have h3 : j % 3 = 0 ∨ j % 3 = 1 ∨ j % 3 = 2 := by omega
  rcases h3 with e | e | e
  · rw [show j / 3 * 3 = j by omega, h] at c0
    injection c0 with c0
    exact .inl ⟨e, c0⟩
  · rw [show j / 3 * 3 + 1 = j by omega, h] at c1
    injection c1 with c1
    exact .inr (.inl ⟨e, c1⟩)
  · rw [show j / 3 * 3 + 2 = j by omega, h] at c2
    injection c2 with c2
    exact .inr (.inr ⟨e, c2⟩)
/-- A step, one number changed. -/
def chgSq (s : Sq) (f : Nat) (v : Int) : Sq := if f = 0 then ⟨v, s.mat, s.back⟩ else if f = 1 then ⟨s.lits, v, s.back⟩ else ⟨s.lits, s.mat, v⟩
def fldSq (s : Sq) (f : Nat) : Int := if f = 0 then s.lits else if f = 1 then s.mat else s.back
/-- A row of steps in a block of its own, that may be written. -/
def SqOwn (w : World) (g : Nat) (l : List Sq) : Prop := ∃ c T, Pts w g c T ∧ ∀ k, k < l.length → c[k * 3]? = some (.int .i64 (l.getD k default).lits) ∧ c[k * 3 + 1]? = some (.int .i64 (l.getD k default).mat) ∧ c[k * 3 + 2]? = some (.int .i64 (l.getD k default).back)
theorem SqOwn.row {w : World} {g : Nat} {l : List Sq} (h : SqOwn w g l) : SqRow w w.heap.size (some ⟨g, 0, none⟩) l := by
  obtain ⟨c, T, hp, hc⟩ := h
  intro _
  refine ⟨g, 0, rfl, hp.lt, fun k hk => ?_⟩
  obtain ⟨c0, c1, c2⟩ := hc k hk
  rw [hp.cell, hp.cell, hp.cell, Nat.zero_add]
  exact ⟨c0, c1, c2⟩
theorem SqOwn.fld {w : World} {g : Nat} {l : List Sq} (h : SqOwn w g l) {k f : Nat} (hk : k < l.length) (hf : f < 3) : w.cell? ⟨g, k * 3 + f, none⟩ = some (.int .i64 (fldSq (l.getD k default) f)) ∧ w.frozen? ⟨g, k * 3 + f, none⟩ = false := by
  obtain ⟨c, T, hp, hc⟩ := h
  obtain ⟨c0, c1, c2⟩ := hc k hk
  refine ⟨?_, hp.frozen _⟩
  rw [hp.cell]
  have h3 : f = 0 ∨ f = 1 ∨ f = 2 := by omega
  rcases h3 with rfl | rfl | rfl
  · exact c0
  · exact c1
  · exact c2
theorem SqOwn.set {w : World} {g : Nat} {l : List Sq} (h : SqOwn w g l) {i f : Nat} (hi : i < l.length) (hf : f < 3) (v : Int) : SqOwn (w.setCell ⟨g, i * 3 + f, none⟩ (.int .i64 v)) g (l.set i (chgSq (l.getD i default) f v)) := by
  obtain ⟨c, T, hp, hc⟩ := h
  refine ⟨_, T, hp.set (i * 3 + f) (.int .i64 v), fun k hk => ?_⟩
  rw [List.length_set] at hk
  obtain ⟨c0, c1, c2⟩ := hc k hk
  have hsz : i * 3 + f < c.size := by
    obtain ⟨d0, d1, d2⟩ := hc i hi
    have : i * 3 + 2 < c.size := by
      rcases Nat.lt_or_ge (i * 3 + 2) c.size with h1 | h1
      · exact h1
      · rw [Array.getElem?_eq_none h1] at d2; cases d2
    omega
  by_cases hki : k = i
  · subst hki
    have e : (l.set k (chgSq (l.getD k default) f v)).getD k default = chgSq (l.getD k default) f v := by
      rw [List.getD_eq_getElem?_getD, List.getElem?_set_self hk]
      rfl
    rw [e]
    unfold chgSq
    have h3 : f = 0 ∨ f = 1 ∨ f = 2 := by omega
    rcases h3 with rfl | rfl | rfl
    · rw [if_pos rfl]
      refine ⟨?_, ?_, ?_⟩
      · rw [Nat.add_zero, Array.getElem?_setIfInBounds_self_of_lt (by simpa using hsz)]
      · rw [Array.getElem?_setIfInBounds_ne (by omega)]; exact c1
      · rw [Array.getElem?_setIfInBounds_ne (by omega)]; exact c2
    · rw [if_neg (by omega), if_pos rfl]
      refine ⟨?_, ?_, ?_⟩
      · rw [Array.getElem?_setIfInBounds_ne (by omega)]; exact c0
      · rw [Array.getElem?_setIfInBounds_self_of_lt hsz]
      · rw [Array.getElem?_setIfInBounds_ne (by omega)]; exact c2
    · rw [if_neg (by omega), if_neg (by omega)]
      refine ⟨?_, ?_, ?_⟩
      · rw [Array.getElem?_setIfInBounds_ne (by omega)]; exact c0
      · rw [Array.getElem?_setIfInBounds_ne (by omega)]; exact c1
      · rw [Array.getElem?_setIfInBounds_self_of_lt hsz]
  · have e : (l.set i (chgSq (l.getD i default) f v)).getD k default = l.getD k default := by
      rw [List.getD_eq_getElem?_getD, List.getElem?_set_ne (fun h => hki h.symm), ← List.getD_eq_getElem?_getD]
    rw [e, Array.getElem?_setIfInBounds_ne (by omega), Array.getElem?_setIfInBounds_ne (by omega), Array.getElem?_setIfInBounds_ne (by omega)]
    exact ⟨c0, c1, c2⟩
theorem fits_set {l : List Sq} (h : ∀ s ∈ l, s.fits) (i f : Nat) {v : Int} (hv : -9223372036854775808 ≤ v ∧ v ≤ 9223372036854775807) : ∀ s ∈ l.set i (chgSq (l.getD i default) f v), s.fits := by
  intro s hs
  rcases List.mem_or_eq_of_mem_set hs with h1 | h1
  · exact h s h1
  · subst h1
    have hd : (l.getD i default).fits := by
      rw [List.getD_eq_getElem?_getD]
      by_cases hi : i < l.length
      · rw [List.getElem?_eq_getElem hi]
        exact h _ (List.getElem_mem hi)
      · rw [List.getElem?_eq_none (by omega)]
        show (⟨0, 0, 0⟩ : Sq).fits
        unfold Sq.fits
        simp
    obtain ⟨h1, h2, h3⟩ := hd
    unfold chgSq
    by_cases f0 : f = 0
    · rw [if_pos f0]; exact ⟨hv, h2, h3⟩
    · by_cases f1 : f = 1
      · rw [if_neg f0, if_pos f1]; exact ⟨h1, hv, h3⟩
      · rw [if_neg f0, if_neg f1]; exact ⟨h1, h2, hv⟩
section
variable {P : Program} (w : World)
/-- Steps appended tq9 a row without elements. -/
theorem run_append_sqs (t ty T base : Nat) (ht : P.underlying t = some (.slice T)) (hinfo : (P.info? T).map (fun i => (i.zero, i.size, i.bytes)) = some (some (.agg #[.int .i64 0, .int .i64 0, .int .i64 0]), 3, 24))
    (v : Value) (hown : OwnSq w T base v []) (A : Option Addr) (l : List Sq) (c : Nat) (hr : SqRow w w.heap.size A l) (h1 : 1 ≤ l.length) (hlen : l.length ≤ 1000000000) (hbase : base ≤ w.heap.size) :
    ∃ g c' w', (Builtin.append_ #[t, t] ty #[v, .slice A l.length c]).run P w = .ok (.slice (some ⟨g, 0, none⟩) l.length c') w' ∧ SqOwn w' g l ∧ base ≤ g ∧ l.length ≤ c' ∧ Frm (fun k => v.ownBlock = some k) w w' := by
  obtain ⟨i, hi, hzz⟩ := Option.map_eq_some_iff.1 hinfo
  simp only [Prod.mk.injEq] at hzz
  obtain ⟨hz, hs, hby⟩ := hzz
  obtain ⟨b, off, rfl, hlt, hc⟩ := hr (by omega)
  have hcells : ∀ j u, (sqCells l)[j]? = some u → w.cell? ((⟨b, off, none⟩ : Addr).add j) = some u := by
    intro j u hu
    obtain ⟨hk, h3⟩ := sqCells_any l j u hu
    obtain ⟨c0, c1, c2⟩ := hc (j / 3) hk
    rw [Opn.add_at]
    rcases h3 with ⟨e, rfl⟩ | ⟨e, rfl⟩ | ⟨e, rfl⟩
    · rw [show off + j = off + j / 3 * 3 by omega]; exact c0
    · rw [show off + j = off + j / 3 * 3 + 1 by omega]; exact c1
    · rw [show off + j = off + j / 3 * 3 + 2 by omega]; exact c2
  have hone : ∀ u ∈ sqCells l, u.oneCell' = true := by
    intro u hu
    obtain ⟨j, hj, e⟩ := List.getElem_of_mem hu
    obtain ⟨_, h3⟩ := sqCells_any l j u (by rw [List.getElem?_eq_getElem hj, e])
    rcases h3 with ⟨_, rfl⟩ | ⟨_, rfl⟩ | ⟨_, rfl⟩ <;> rfl
  obtain ⟨v', w', hrun, h2, h3, h4, h5⟩ := run_append_own_at (P := P) w base t ty T i (.agg #[.int .i64 0, .int .i64 0, .int .i64 0]) 3 24 ht hi hz hs hby rfl (by omega) v 0 (sqCells []) hown ⟨b, off, none⟩ l.length c (sqCells l) (sqCells_length l) hcells hone (by unfold maxLen; omega) (by omega) hbase
  have ho : OwnSq w' T base v' l := by
    unfold OwnSq
    rw [Nat.zero_add] at h2
    exact h2
  obtain ⟨x1, x2⟩ := ho
  rcases x2 with ⟨rfl, hn⟩ | ⟨g, cap, cur, rfl, hb, hh, hnc, hcm, hcs, htk⟩
  · omega
  · refine ⟨g, cap, w', hrun, ⟨cur, T, hh, fun k hk => ?_⟩, hb, hnc, ⟨h3.os, h3.tape, h3.output, h3.size, fun k hk hn => h3.block k hk (fun e => hn e.symm)⟩⟩
    obtain ⟨c0, c1, c2⟩ := sqCells_at l k hk
    have hx : ∀ j, j < l.length * 3 → cur[j]? = (sqCells l)[j]? := by
      intro j hj
      rw [← htk, List.getElem?_take, if_pos hj, Array.getElem?_toList]
    rw [hx _ (by omega), hx _ (by omega), hx _ (by omega)]
    exact ⟨c0, c1, c2⟩
theorem wpList_append_sqs {ops : Array Oper} {rest : List Oper} {o : Oper} {a : Act} {Q : Exit → Act → World → Prop} (hgd : o.guard = none) (u x : Operand) (t : TypeId)
    (ho : o.op = .call { callee := .builtin .append, args := #[u, x], argTypes := #[t, t] })
    (T base : Nat) (ht : P.underlying t = some (.slice T)) (hinfo : (P.info? T).map (fun i => (i.zero, i.size, i.bytes)) = some (some (.agg #[.int .i64 0, .int .i64 0, .int .i64 0]), 3, 24))
    (v : Value) (hs : a.eval u = v) (hown : OwnSq w T base v []) (A : Option Addr) (l : List Sq) (c : Nat) (hx : a.eval x = .slice A l.length c) (hr : SqRow w w.heap.size A l) (h1 : 1 ≤ l.length) (hlen : l.length ≤ 1000000000) (hbase : base ≤ w.heap.size)
    (h : ∀ g c' w', SqOwn w' g l → base ≤ g → l.length ≤ c' → Frm (fun k => v.ownBlock = some k) w w' → wpList P ops Q rest (a.put o.dst (.slice (some ⟨g, 0, none⟩) l.length c')) w') : wpList P ops Q (o :: rest) a w :=
  wpList_plain hgd fun K' hK' => by
    obtain ⟨g, c', w', hrun, h2, h3, h4, h5⟩ := run_append_sqs (P := P) w t o.type T base ht hinfo v hown A l c hr h1 hlen hbase
    unfold Oper.wp execOp
    simp only [ho, resolve, invoke, builtin, Sem.run_bind, Sem.run_pure, Result.andThen_ok, List.map_toArray, List.map_cons, List.map_nil, hs, hx, hrun]
    exact hK' _ _ (h g c' w' h2 h3 h4 h5)
end
end Go.Proofs.Ytefbjamepbkklaa

/- The contracts of the law's own functions: right, lits, Sizes. -/
namespace Go.Proofs.Ytefbjamepbkklaa
open Go.RowKit Fnd
set_option linter.unusedVariables false
set_option linter.unusedSimpArgs false

end Go.Proofs.Ytefbjamepbkklaa

/- The contract of lits. -/
namespace Go.Proofs.Ytefbjamepbkklaa
open Go.RowKit Fnd
set_option linter.unusedVariables false
set_option linter.unusedSimpArgs false

theorem slice_toT (A : Option Addr) (n c m : Nat) (hf : m ≤ n) (hn : n ≤ c) (w : World) :
    (Instr.sliceAt 22 (.slice A n c) none (some (.int .i64 (m : Int))) none).run Try.prog w = .ok (.slice A m c) w := by
  simp [go_sem]
  intro h; omega

end Go.Proofs.Ytefbjamepbkklaa

/- The contract of Parse at every level, of Sizes, and what the document says of abcabcabc. -/
namespace Go.Proofs.Ytefbjamepbkklaa
open Go.RowKit Fnd
set_option linter.unusedVariables false
set_option linter.unusedSimpArgs false

set_option maxRecDepth 100000 in
set_option maxHeartbeats 1000000 in
theorem parse_any (A : Option Addr) (bs : List UInt8) (n c : Nat) (fr level window least most : Int) (at_ lv win lo hi : Nat) (w : World) (hn : n = bs.length) (hc : bs.length ≤ c) (hcm : c ≤ maxLen) (hr : BRow w w.heap.size A bs) (hlen : bs.length ≤ 1048576)
    (h1 : min (max fr 0) bs.length = at_) (h2 : min (max level 0) 3 = lv) (h3 : min (max window 1) 16777216 = win) (h4 : min (max least 2) 65536 = lo) (h5 : max (lo : Int) (min most 65536) = hi) :
    Calls Try.prog 12 #[.slice A n c, .int .i64 fr, .int .i64 level, .int .i64 window, .int .i64 least, .int .i64 most] w fun e w' =>
      ∃ v l, e = .returned v ∧ OwnSq w' 69 w.heap.size v l ∧ Right bs win lo hi l at_ ∧ (at_ = bs.length → l = []) ∧ (lv = 0 → ∀ s ∈ l, s.mat = 0) ∧ (1 ≤ lv → AllSame bs at_ → l.length ≤ 2 + (bs.length - at_) / hi) ∧ l.length ≤ 2097153 ∧ Below w.heap.size w w' := by
  by_cases hat : at_ < bs.length
  · by_cases hlv : 1 ≤ lv
    · refine (parse_main A bs n c fr level window least most at_ lv win lo hi w hn hc hcm hr hlen h1 h2 h3 h4 h5 hat hlv).mono ?_
      rintro e w' ⟨v, l, rfl, h6, h7, h8, h9, h10⟩
      exact ⟨v, l, rfl, h6, h7, fun h => by omega, fun h => by omega, fun _ => h8, h9, h10⟩
    · have hlv0 : lv = 0 := by omega
      subst hlv0; subst hn
      obtain ⟨X, hX⟩ : ∃ X, max fr 0 = X := ⟨_, rfl⟩
      obtain ⟨Y, hY⟩ : ∃ X, max level 0 = X := ⟨_, rfl⟩
      rw [hX] at h1; rw [hY] at h2
      have f1 := fun w => max2_int (P := Try.prog) #[3, 3] 3 _ _ _ hX w
      have f2 := fun w => max2_int (P := Try.prog) #[3, 3] 3 _ _ _ hY w
      have f6 := fun w => min2_int (P := Try.prog) #[3, 3] 3 _ _ _ h1 w
      have f7 := fun w => min2_int (P := Try.prog) #[3, 3] 3 _ _ _ (show min Y 3 = 0 from h2) w
      have ne1 : ((at_ : Int) == (bs.length : Int)) = false := beq_eq_false_iff_ne.2 (by omega)
      have hcast : ((bs.length - at_ : Nat) : Int) = (bs.length : Int) - at_ := by omega
      have HC := Lib.hid hcast
      clear hX hY h1 h2 h3 h4 h5 hr hcast
      go_enter Try.func12, Try.ntmps12
      go_wp2
      go_ret
      have ho := OwnSq.one w 69 w.heap.size (Nat.le_refl _) ⟨((bs.length - at_ : Nat) : Int), 0, 0⟩
      simp only [HC.out] at ho
      exact ⟨_, [⟨(bs.length : Int) - at_, 0, 0⟩], rfl, ho, .inr ⟨rfl, bs.length - at_, by rw [HC.out], by omega, by omega⟩, fun h => by omega, fun _ s hs => by simp at hs; rw [hs], fun h => by omega, by simp, (Below.refl _ _).alloc (Nat.le_refl _) _⟩
  · have hat2 : at_ = bs.length := by omega
    subst hn
    obtain ⟨X, hX⟩ : ∃ X, max fr 0 = X := ⟨_, rfl⟩
    obtain ⟨Y, hY⟩ : ∃ X, max level 0 = X := ⟨_, rfl⟩
    rw [hX] at h1; rw [hY] at h2
    have f1 := fun w => max2_int (P := Try.prog) #[3, 3] 3 _ _ _ hX w
    have f2 := fun w => max2_int (P := Try.prog) #[3, 3] 3 _ _ _ hY w
    have f6 := fun w => min2_int (P := Try.prog) #[3, 3] 3 _ _ _ h1 w
    have f7 := fun w => min2_int (P := Try.prog) #[3, 3] 3 _ _ _ h2 w
    have ne1 : ((at_ : Int) == (bs.length : Int)) = true := beq_iff_eq.2 (by omega)
    clear hX hY h1 h2 h3 h4 h5 hr
    have HA := Lib.hid hat2
    clear hat2 hat
    go_enter Try.func12, Try.ntmps12
    go_wp2
    go_ret
    exact ⟨_, [], rfl, OwnSq.nil _ _ _, HA.out, fun _ => rfl, fun _ s hs => absurd hs (by simp), fun _ _ => by simp, by simp, Below.refl _ _⟩

theorem results_tmp5 {fn : Func} {t u v x y : Tmp} (h : fn.results = #[.tmp t, .tmp u, .tmp v, .tmp x, .tmp y]) (tmps : Array Value) (P : Program) (w : World) :
    (results fn tmps).run P w = .ok (.tuple #[tmps.getD t undef, tmps.getD u undef, tmps.getD v undef, tmps.getD x undef, tmps.getD y undef]) w := by
  simp [results, h]

theorem sz1 (x : Int) : max 2 (min x 65536) = min (max x 2) 65536 := by omega
theorem sz2 (x : Int) (n : Nat) : max 0 (min x n) = min (max x 0) n := by omega
theorem sz3 (x : Int) : max 0 (min x 3) = min (max x 0) 3 := by omega
theorem sz4 (x : Int) : max 1 (min x 16777216) = min (max x 1) 16777216 := by omega
theorem sz5 (x : Int) (lo : Nat) : max (lo : Int) (min (max x 0) 65536) = max (lo : Int) (min x 65536) := by omega
theorem Right.fits {bs : List UInt8} {win lo hi : Nat} (hb : bs.length ≤ 1048576) (hw : win ≤ 16777216) (hh : hi ≤ 65536) : ∀ {l : List Sq} {a : Nat}, Right bs win lo hi l a → ∀ s ∈ l, s.fits
  | [], _, _, s, hs => absurd hs (by simp)
  | t :: l, a, h, s, hs => by
    rcases h with ⟨m, ⟨L, M, K, rfl, h1, h2, h3, h4, h5, h6, h7, h8⟩, hr⟩ | ⟨rfl, L, rfl, h1, h2⟩
    · rcases List.mem_cons.1 hs with rfl | hs
      · unfold Sq.fits; simp only; omega
      · exact Right.fits hb hw hh hr s hs
    · rcases List.mem_cons.1 hs with rfl | hs
      · unfold Sq.fits; simp only; omega
      · exact absurd hs (by simp)
theorem litsGo_le {bs : List UInt8} {win lo hi : Nat} : ∀ {l : List Sq} {a : Nat}, Right bs win lo hi l a → (litsGo bs l a).length + a ≤ bs.length
  | [], a, h => by simp [litsGo]; exact Nat.le_of_eq h
  | t :: l, a, h => by
    rw [litsGo, List.length_append]
    rcases h with ⟨m, ⟨L, M, K, rfl, h1, h2, h3, h4, h5, h6, h7, h8⟩, hr⟩ | ⟨rfl, L, rfl, h1, h2⟩
    · have := litsGo_le hr
      simp only [Int.toNat_natCast, List.length_take, List.length_drop]
      rw [h1]
      omega
    · simp [litsGo]
      omega
theorem again_back {bs : List UInt8} {win lo hi : Nat} {l : List Sq} {a : Nat} (hb : bs.length ≤ maxC) (h : Right bs win lo hi l a) : back (bs.take a ++ litsGo bs l a) a l = .ok bs := by
  have hle := h.le
  have hl : (bs.take a).length = a := by rw [List.length_take]; omega
  unfold back
  rw [if_neg (by rw [List.length_append, hl]; omega)]
  simp only [Int.toNat_natCast]
  rw [List.take_append_of_le_length (by omega), List.take_of_length_le (by omega), List.drop_append_of_le_length (by omega), List.drop_of_length_le (by omega), List.nil_append, right_back hb l a h]
theorem sqrow_one (w : World) (T : TypeId) (s : Sq) : SqRow (w.alloc (.cells #[.int .i64 s.lits, .int .i64 s.mat, .int .i64 s.back] T)) (w.heap.size + 1) (some ⟨w.heap.size, 0, none⟩) [s] := by
  intro _
  refine ⟨w.heap.size, 0, rfl, by omega, fun k hk => ?_⟩
  obtain rfl : k = 0 := by simpa using hk
  refine ⟨?_, ?_, ?_⟩ <;> rw [(Pts.new w _ _).cell] <;> rfl
end Go.Proofs.Ytefbjamepbkklaa

/- Encode: the walk. -/
namespace Go.Proofs.Ytefbjamepbkklaa
open Go.RowKit Rng Win Lz Fnd
set_option linter.unusedVariables false
set_option linter.unusedSimpArgs false
theorem rightP_of {bs : List UInt8} {fr : Nat} {l : List Sq} (h : rightGo bs l fr = some bs.length) (h1 : fr < bs.length) : rightP bs fr l = true := by
  unfold rightP
  rw [h]
  exact decide_eq_true ⟨rfl, h1⟩
theorem wOp_new (sb lb : Nat) : wOp (newK sb lb) = wOp (newK 0 0) := by
  funext bs fr total x o
  cases o <;> rfl
theorem opsB_new (sb lb : Nat) (bs : List UInt8) (fr total st : Nat) (rep : Nat → Nat) (pr : Pr) (l : List (Option (Nat × Nat))) : opsB (newK sb lb) bs fr total st rep pr l = opsB (newK 0 0) bs fr total st rep pr l := by
  unfold opsB wOps
  rw [wOp_new]
/-- How Encode ends. -/
def EncEnd (bs : List UInt8) (fr : Nat) (w : World) (e : Ending) (w' : World) : Prop :=
  ∃ v x, e = .returned (.tuple #[v, .int .i64 0]) ∧ OwnB w' 5 w.heap.size v x ∧ IsEnc bs fr x ∧ Below w.heap.size w w'
/-- Steps of the rest of a text. -/
def StepsAt (bs : List UInt8) (fr : Nat) (wr : World) (sv : Value) (wx : World) : Prop :=
  ∃ (l : List Sq) (B : Option Addr) (d : Nat), sv = .slice B l.length d ∧ l.length ≤ d ∧ SqRow wx wx.heap.size B l ∧ (∀ ad, B = some ad → wr.heap.size ≤ ad.block) ∧ l.length ≤ 2097153 ∧ rightGo bs l fr = some bs.length ∧ (∀ s ∈ l, s.fits) ∧ Below wr.heap.size wr wx
theorem enc_parse (A : Option Addr) (bs : List UInt8) (n c fr lv : Nat) (win : Int) (w : World) (hn : n = bs.length) (hc : bs.length ≤ c) (hcm : c ≤ maxLen) (hr : BRow w w.heap.size A bs) (hlen : bs.length ≤ 16384) (hfr : fr ≤ bs.length) (hlv : lv ≤ 3) (hw : 1 ≤ win ∧ win ≤ 131072) :
    Calls Try.prog 12 #[.slice A n c, .int .i64 fr, .int .i64 lv, .int .i64 win, .int .i64 2, .int .i64 273] w fun e w' => ∃ v, e = .returned v ∧ StepsAt bs fr w v w' := by
  refine (parse_any A bs n c fr lv win 2 273 fr lv win.toNat 2 273 w hn hc hcm hr (by omega) (by omega) (by omega) (by omega) (by omega) (by omega)).mono ?_
  rintro e w' ⟨v, l, rfl, ho, hR, -, -, -, hll, hb⟩
  obtain ⟨A1, c1, rfl, hc1, hm1, hs⟩ := ho.slice
  refine ⟨_, rfl, l, A1, c1, rfl, hc1, hs, ?_, hll, right_go l fr hfr hR, right_fits (by omega) (by omega) l fr hR, hb⟩
  rintro ad rfl
  exact (ho.lt rfl).1
theorem lzB_len {bs : List UInt8} {fr : Nat} {l : List Sq} (h : rightGo bs l fr = some bs.length) (hf : fr ≤ bs.length) (hb : bs.length ≤ 16384) : 5 ≤ (lzB bs fr l).length ∧ (lzB bs fr l).length ≤ 1000000 := by
  have hok := right_ops l fr hf h
  have hI : EncI (wOps (newK 0 0) bs fr (totOf fr) (opsOf l) ⟨fr, 0, fun _ => 0, ⟨newEnc, fun _ => 1024⟩⟩).s.d := stays_wOps encI_stays (newK 0 0) bs fr (totOf fr) (opsOf l) (x := ⟨fr, 0, fun _ => 0, ⟨newEnc, fun _ => 1024⟩⟩) encI_new
  have h1 := (told_close hI).l
  have h2 := cnt_ops (newK 0 0) bs fr (totOf fr) (by omega) (opsOf l) ⟨fr, 0, fun _ => 0, ⟨newEnc, fun _ => 1024⟩⟩ hok
  have h3 := okOps_cost (opsOf l) fr hok
  have h4 : newEnc.cnt = 0 := rfl
  have h5 : (⟨fr, 0, fun _ => 0, ⟨newEnc, fun _ => 1024⟩⟩ : PS).s.d.cnt = 0 := rfl
  unfold lzB opsB
  omega
theorem sqRow_offF {N : Nat → Prop} {w w' : World} {B B' : Nat} {A : Option Addr} {l : List Sq} (h : SqRow w B A l) (ho : ∀ ad, A = some ad → ¬ N ad.block) (hf : Frm N w w') (hB : B ≤ B') : SqRow w' B' A l := by
  intro hn
  obtain ⟨b, off, rfl, hb, hc⟩ := h hn
  refine ⟨b, off, rfl, by omega, fun k hk => ?_⟩
  obtain ⟨h1, h2, h3⟩ := hc k hk
  have e : ∀ o, w'.cell? ⟨b, o, none⟩ = w.cell? ⟨b, o, none⟩ := fun o => World.cell?_of_block (hf.block b (World.block_lt_of_cell? w ⟨b, off + k * 3, none⟩ h1) (ho _ rfl))
  rw [e, e, e]
  exact ⟨h1, h2, h3⟩
theorem preset_s (k : LK) (st : Nat) (rep : Nat → Nat) (pr : Pr) (w : World) (h : PAt w k st rep pr) (hk : k.Ok) :
    Calls Try.prog 13 #[.pointer (some ⟨k.sb, 0, none⟩)] w fun e w' => e = .returned (.tuple #[]) ∧ ∃ lb, w.heap.size ≤ lb ∧ PAt w' ⟨k.sb, lb, k.lc, k.lp, k.pb⟩ 0 (fun _ => 0) (fun _ => 1024) ∧ Frm (· = k.sb) w w' := by
  have hm := h.m
  rw [← qcells_m] at hm
  refine (putreset_st k.sb k.lc k.lp k.pb st rep pr _ 67 w hm hk.a ⟨_, _, _, rfl⟩ hk.b).mono ?_
  rintro e w' ⟨rfl, lb, h3, h4, h5, hf⟩
  exact ⟨rfl, lb, h3, ⟨h4, h5, fun _ => (by decide : 1024 < 65536), by have := h.m.lt; show k.sb ≠ lb; omega⟩, hf⟩
theorem row_cells (w : World) (T : TypeId) (bs : List UInt8) (cs : Array Value) (h : cs = (bs.map byteV).toArray) : BRow (w.alloc (.cells cs T)) (w.heap.size + 1) (some ⟨w.heap.size, 0, none⟩) bs := by
  intro _
  subst h
  refine ⟨w.heap.size, 0, rfl, Nat.lt_succ_self _, fun j hj => ?_⟩
  have hp := Pts.new w (bs.map byteV).toArray T
  rw [hp.cell, Nat.zero_add, List.getElem?_toArray, List.getElem?_map, List.getElem?_eq_getElem hj, List.getD_eq_getElem?_getD, List.getElem?_eq_getElem hj]
  rfl
theorem slice_cut (A : Option Addr) (n c fr N : Nat) (h1 : fr + N = n) (hn : n ≤ c) (hN : 1 ≤ N) (w : World) :
    (Instr.sliceAt 22 (.slice A n c) (some (.int .i64 (fr : Int))) (some (.int .i64 (n : Int))) none).run Try.prog w = .ok (.slice (A.map (·.add fr)) N (c - fr)) w := by
  have e : (n : Int) = (fr : Int) + (N : Int) := by omega
  rw [e]
  refine (slice_mid A n c fr N (by omega) hn w).trans ?_
  rw [if_neg (by omega)]
theorem u8_wrap (m : Nat) : IntKind.u8.wrap (m : Int) = ((UInt8.ofNat m).toNat : Int) := by
  rw [IntKind.wrap_u8', UInt8.toNat_ofNat']
  omega
set_option maxRecDepth 100000 in
set_option maxHeartbeats 8000000 in
theorem encode_p (A : Option Addr) (bs : List UInt8) (n c fr : Nat) (level : Int) (w : World) (hn : n = bs.length) (hc : bs.length ≤ c) (hcm : c ≤ maxLen) (hr : BRow w w.heap.size A bs) (hlen : bs.length ≤ 16384) (hfr : fr ≤ bs.length) :
    Calls Try.prog 8 #[.slice A n c, .int .i64 fr, .int .i64 level] w (EncEnd bs fr w) := by
  obtain ⟨Y, hY⟩ : ∃ X, max level 0 = X := ⟨_, rfl⟩
  obtain ⟨lv, hL⟩ : ∃ lv : Nat, min Y 3 = (lv : Int) := ⟨(min Y 3).toNat, by omega⟩
  have f1 := fun w => max2_num (P := Try.prog) .i64 #[3, 3] 3 _ _ _ hY w
  have f2 := fun w => min2_num (P := Try.prog) .i64 #[3, 3] 3 _ _ _ hL w
  have hlv : lv ≤ 3 := by omega
  have q1 : (0 : Int) ≤ (fr : Int) := by omega
  have q2 : (fr : Int) ≤ (n : Int) := by omega
  have q3 : (n : Int) ≤ 16777216 := by omega
  have HN := Lib.hid hn
  have HR := Lib.hid hr
  have HC := Lib.hid (And.intro hc (And.intro hcm (And.intro hlen hfr)))
  have HLV := Lib.hid hlv
  clear hn hr hc hcm hlen hfr hY hL hlv
  go_enter Try.func8, Try.ntmps8
  go_wp2_with fail
  refine (pnew32 w).mono ?_; rintro e w1 ⟨sb, lb, rfl, g1, g2, hs1, hb1⟩
  have S1 := Lib.hid hs1
  have B1 := Lib.hid hb1
  have G1 := Lib.hid (And.intro g1 g2)
  clear hs1 hb1 g1 g2 f1 f2 q1 q2 q3
  go_wp2_with fail
  go_loopg [6, 10, 11] 1 (fun gf ov pv av wr => (gf = 1 ∧ fr < n ∧ ov = .slice none 0 0 ∧ pv = .bool true ∧ av = .int .i64 fr ∧ PAt wr (newK sb lb) 0 (fun _ => 0) (fun _ => 1024) ∧ Below w.heap.size w wr) ∨ (av = .int .i64 n ∧ ∃ x, OwnB wr 5 w.heap.size ov x ∧ IsEnc bs fr x ∧ Below w.heap.size w wr))
  case atStart =>
    rcases Nat.lt_or_ge fr n with h | h
    · exact .inl ⟨rfl, h, rfl, rfl, rfl, S1.out, B1.out⟩
    · have : fr = n := by have := HC.out.2.2.2; have := HN.out; omega
      exact .inr ⟨by rw [this], [], OwnB.nil _ _ _, .inl ⟨by have := HN.out; omega, rfl⟩, B1.out⟩
  case round =>
    rcases hrel with ⟨hg, hlt, rfl, rfl, rfl, hs, hb⟩ | ⟨rfl, x, ho, hx, hb⟩
    · have ql : (fr : Int) < (n : Int) := by omega
      obtain ⟨E, hE⟩ : ∃ E : Nat, fr + 65536 = E := ⟨_, rfl⟩
      have iE : (fr : Int) + 65536 = (E : Int) := by omega
      have wE : IntKind.i64.wrap (E : Int) = (E : Int) := Go.IntWalk.i64_in _ (by have := HC.out; omega)
      have f3 := fun w => min2_num (P := Try.prog) .i64 #[3, 3] 3 _ _ _ (show min (n : Int) (E : Int) = (n : Int) by have := HC.out; have := HN.out; omega) w
      obtain ⟨N, hN⟩ : ∃ N : Nat, n - fr = N := ⟨_, rfl⟩
      have iN : (n : Int) - (fr : Int) = (N : Int) := by omega
      have wN : IntKind.i64.wrap (N : Int) = (N : Int) := Go.IntWalk.i64_in _ (by have := HC.out; have := HN.out; omega)
      have hnc : (n : Int) ≤ (c : Int) := by have := HC.out; have := HN.out; omega
      have S := Lib.hid hs
      have B := Lib.hid hb
      have HRW := Lib.hid (HR.out.below hb)
      have HNN := Lib.hid (And.intro hN hlt)
      have HNB : Hid (n = bs.length ∧ bs.length ≤ c ∧ c ≤ maxLen ∧ bs.length ≤ 16384 ∧ fr ≤ bs.length) := Lib.hid ⟨HN.out, HC.out.1, HC.out.2.1, HC.out.2.2.1, HC.out.2.2.2⟩
      clear hs hb hE hN hlt
      go_upto_region 12 with fail
      clear iE wE f3 iN wN ql
      go_cut [14] from 140 (fun sv wx => StepsAt bs fr wr sv wx)
      case first =>
        have hlv := HLV.out
        have hcl : lv = 0 ∨ lv = 1 ∨ lv = 2 ∨ lv = 3 := by omega
        clear hlv
        rcases hcl with rfl | rfl | rfl | rfl
        all_goals
          go_wp2_with fail
          refine (enc_parse A bs n c fr _ _ wr HNB.out.1 HNB.out.2.1 HNB.out.2.2.1 (HRW.out.more B.out.size) HNB.out.2.2.2.1 HNB.out.2.2.2.2 (by decide) (by decide)).mono ?_
          rintro e w2 ⟨v, rfl, hst⟩
          have ST := Lib.hid hst
          clear hst
          go_wp2
          go_meet
          case rel => exact ST.out
      case rest =>
        obtain ⟨l, B0, d, rfl, hld, hsq, hbl, hll, hgo, hfit, hbw⟩ := hcut
        have SW := Lib.hid (S.out.later hbw)
        have BW := Lib.hid (B.out.trans (hbw.mono B.out.size))
        have SQ := Lib.hid (And.intro hsq (And.intro hbl (And.intro hgo hfit)))
        have SL := Lib.hid (And.intro hld hll)
        have SZ := Lib.hid (And.intro S.out.m.lt hbw.size)
        clear hsq hbl hgo hfit hbw hld hll
        iterate 40 (first | (with_reducible show Code.wp _ (Code.seq (Code.region 14 _ _) _) _ _ _) | go_values | go_guarded | go_step | go_upon)
        go_cut [15] from 140 (fun cv wx => ∃ cb, OwnB wx 5 w.heap.size cv cb ∧ Below w.heap.size w wx ∧ ((lv = 0 ∧ cb = []) ∨ (1 ≤ lv ∧ cb = lzB bs fr l)))
        case first =>
          by_cases h0 : lv = 0
          · subst h0
            go_wp2
            go_meet
            case rel => exact ⟨[], OwnB.nil _ _ _, BW.out, .inl (by simp)⟩
          · have ql : (0 : Int) < (lv : Int) := by omega
            have HL0 := Lib.hid (show 1 ≤ lv by omega)
            clear h0
            go_wp2_with fail
            refine (preset_s (newK sb lb) 0 (fun _ => 0) (fun _ => 1024) wc SW.out (newK_ok _ _)).mono ?_; rintro e w2 ⟨rfl, lb2, hlb2, hs2, hf2⟩
            have S2 : Hid (PAt w2 (newK sb lb2) 0 (fun _ => 0) (fun _ => 1024)) := Lib.hid hs2
            have F2 : Hid (Frm (· = sb) wc w2) := Lib.hid hf2
            have L2 := Lib.hid hlb2
            have B2 : Hid (Below w.heap.size w w2) := Lib.hid (BW.out.trans (hf2.below BW.out.size (by intro q hq; have e : q = sb := hq; rw [e]; exact G1.out.1)))
            clear hs2 hf2 hlb2
            have hoff : BOff (KZ (newK sb lb2)) A bs := BOff.of_row HR.out (by
              rintro q (e | e)
              · rw [e]; exact G1.out.1
              · rw [e]; exact Nat.le_trans BW.out.size L2.out)
            have hlo : ∀ ad, B0 = some ad → ¬ KZ (newK sb lb2) ad.block := by
              intro ad had
              have h1 := SQ.out.2.1 ad had
              have h2 : sb < wr.heap.size := SZ.out.1
              rintro (e | e)
              · have e : ad.block = sb := e
                omega
              · have e : ad.block = lb2 := e
                have h4 := L2.out
                have h3 : 0 < l.length := by
                  cases l with
                  | nil =>
                    have hgo := SQ.out.2.2.1
                    unfold rightGo at hgo
                    injection hgo with hgo
                    have := HNN.out
                    have := HN.out
                    omega
                  | cons _ _ => simp
                obtain ⟨b, off, e2, hb, _⟩ := SQ.out.1 h3
                rw [had] at e2
                injection e2 with e2
                rw [e2] at e
                have e : b = lb2 := e
                omega
            have hcost : costOps (opsOf l) + 110 ≤ 1000000 := by
              have := okOps_cost (opsOf l) fr (right_ops l fr HNB.out.2.2.2.2 SQ.out.2.2.1)
              have := HNB.out.2.2.2.1
              omega
            have HCH := Lib.hid (putchunk_main (newK sb lb2) 0 (fun _ => 0) (fun _ => 1024) A bs n c fr fr B0 l l.length d w2 S2.out (newK_ok _ _) (by decide) (fun _ => by decide) HNB.out.1 HNB.out.2.1 ((HR.out.below B2.out).more B2.out.size) hoff (by have := HNB.out.2.2.2.1; omega) rfl SL.out.1
              (sqRow_offF SQ.out.1 (fun ad had e => hlo ad had (.inl e)) F2.out F2.out.size) hlo (by have := SL.out.2; omega) SQ.out.2.2.2 HNB.out.2.2.2.2 (by have := HNB.out.2.2.2.1; omega) (by have := HNB.out.2.2.2; omega) (rightP_of SQ.out.2.2.1 (by have := HNN.out.2; have := HN.out; omega)) hcost)
            clear hoff hlo hcost
            go_wp2_with fail
            refine HCH.out.mono ?_; rintro e w3 ⟨v, rfl, ho3, hs3, hf3⟩
            have hb3 : Below w.heap.size w w3 := B2.out.trans (hf3.below B2.out.size (by
              rintro q (e | e)
              · rw [e]; exact G1.out.1
              · rw [e]; exact Nat.le_trans BW.out.size L2.out))
            have O3 := Lib.hid (And.intro (ho3.low B2.out.size) hb3)
            clear ho3 hs3 hf3 hb3
            go_wp2
            go_meet
            case rel => exact ⟨_, O3.out.1, O3.out.2, .inr ⟨HL0.out, opsB_new sb lb2 _ _ _ _ _ _ _⟩⟩
        case rest =>
          obtain ⟨wx, hwx⟩ : ∃ wx, wx = wc := ⟨_, rfl⟩
          subst hwx
          obtain ⟨cb, hcb, hbx, hcs⟩ := hcut
          obtain ⟨Ac, kc, hcv, hck, hckm, hcr⟩ := hcb.slice
          obtain ⟨L, hL⟩ : ∃ L, cb.length = L := ⟨_, rfl⟩
          rw [hL] at hcv
          subst hcv
          obtain ⟨L6, hL6⟩ : ∃ x, L + 6 = x := ⟨_, rfl⟩
          obtain ⟨N3, hN3⟩ : ∃ x, N + 3 = x := ⟨_, rfl⟩
          have hLb : L ≤ 140737488355328 := by
            rcases hcs with ⟨_, e⟩ | ⟨_, e⟩
            · rw [e] at hL; simp at hL; omega
            · have := lzB_len SQ.out.2.2.1 HNB.out.2.2.2.2 HNB.out.2.2.2.1
              rw [← e, hL] at this
              omega
          have i6 : (L : Int) + 6 = (L6 : Int) := by omega
          have i3 : (N : Int) + 3 = (N3 : Int) := by omega
          have w6 : IntKind.i64.wrap (L6 : Int) = (L6 : Int) := Go.IntWalk.i64_in _ (by omega)
          have w3 : IntKind.i64.wrap (N3 : Int) = (N3 : Int) := Go.IntWalk.i64_in _ (by have := HNB.out; have := HNN.out; omega)
          have OC := Lib.hid hcb
          have CR := Lib.hid hcr
          have BX := Lib.hid hbx
          have CS := Lib.hid hcs
          have HL := Lib.hid (And.intro hL (And.intro hL6 hN3))
          obtain ⟨N1, hN1⟩ : ∃ x, N - 1 = x := ⟨_, rfl⟩
          have hNp : 1 ≤ N ∧ N ≤ 16384 := by have := HNB.out; have := HNN.out; omega
          have j1 : (N : Int) - 1 = (N1 : Int) := by omega
          have v1 : IntKind.i64.wrap (N1 : Int) = (N1 : Int) := Go.IntWalk.i64_in _ (by omega)
          have HN1 := Lib.hid (And.intro hN1 hNp)
          clear hcb hcr hbx hcs hL hL6 hN3 hN1 hNp hck hckm
          by_cases hp : lv = 0 ∨ N3 ≤ L6
          · have hcc : ((lv : Int) == 0) = true ∨ (((lv : Int) == 0) = false ∧ (N3 : Int) ≤ (L6 : Int)) := by
              by_cases h0 : lv = 0
              · exact .inl (by rw [h0]; rfl)
              · exact .inr ⟨beq_eq_false_iff_ne.2 (by omega), by omega⟩
            clear hp
            obtain ⟨h1, hh1⟩ : ∃ x, UInt8.ofNat (N1 / 256) = x := ⟨_, rfl⟩
            obtain ⟨h2, hh2⟩ : ∃ x, UInt8.ofNat N1 = x := ⟨_, rfl⟩
            have sh : (N1 : Int) / 256 = ((N1 / 256 : Nat) : Int) := by omega
            have b1 := u8_wrap (N1 / 256)
            have b2 := u8_wrap N1
            rw [hh1, ← sh] at b1
            rw [hh2] at b2
            clear sh
            obtain ⟨ct, hct⟩ : ∃ ct : UInt8, (if fr = 0 then (1 : UInt8) else 2) = ct := ⟨_, rfl⟩
            have hcz : (((fr : Int) == 0) = true ∧ ct = 1) ∨ (((fr : Int) == 0) = false ∧ ct = 2) := by
              by_cases hz : fr = 0
              · exact .inl ⟨by rw [hz]; rfl, by rw [← hct, if_pos hz]⟩
              · exact .inr ⟨beq_eq_false_iff_ne.2 (by omega), by rw [← hct, if_neg hz]⟩
            have HX : Hid (encPlain bs fr = [ct, h1, h2] ++ bs.drop fr) := Lib.hid (by
              have hlb : lenB bs fr = N1 := by have := HN.out; have := HNN.out.1; have := HN1.out.1; unfold lenB; omega
              unfold encPlain
              rw [hlb, hct, hh1, hh2]
              rfl)
            clear hct hh1 hh2
            have hsl : ∀ w, (Instr.sliceAt 22 (.slice A n c) (some (.int .i64 (fr : Int))) (some (.int .i64 (n : Int))) none).run Try.prog w = .ok (.slice (A.map (·.add fr)) N (c - fr)) w := fun w => slice_cut A n c fr N (by have := HNB.out; have := HNN.out; omega) (by have := HNB.out; omega) HN1.out.2.1 w
            obtain ⟨A', hA'⟩ : ∃ A', A.map (·.add fr) = A' := ⟨_, rfl⟩
            obtain ⟨c', hc'⟩ : ∃ c', c - fr = c' := ⟨_, rfl⟩
            rw [hA', hc'] at hsl
            have HA' : Hid (∀ w3, BRow w3 w.heap.size A bs → BRow w3 w.heap.size A' (bs.drop fr)) := Lib.hid (fun w3 h => by
              have := h.drop (k := fr) (cap := c) (by have := HNB.out.2.1; omega)
              rw [if_neg (by have := HNB.out; have := HNN.out; omega), hA'] at this
              exact this)
            clear hA' hc'
            rcases hcz with ⟨qz, rfl⟩ | ⟨qz, rfl⟩
            · rcases hcc with h5 | ⟨h5, h6⟩
              all_goals
                go_wp2_with (at_builtin; refine wpList_append_bytes _ rfl (.tmp 90) (.tmp 99) 22 rfl 5 w.heap.size Try.underlying22 Try.info_u8 (.slice none 0 0) [] rfl ?own1 (some ⟨wx.heap.size, 0, none⟩) 3 3 (wx.heap.size + 1) [1, h1, h2] rfl rfl ?row1 ?len1 ?base1 ?next1)
                case own1 => exact OwnB.nil _ _ _
                case row1 => exact row_cells wx _ [1, h1, h2] _ rfl
                case len1 => simp
                case base1 => have := BX.out.size; simp; omega
                case next1 =>
                  intro v3 w3 hown3 hfrm3 hnew3
                  have hb3 : Below w.heap.size w w3 := (BX.out.trans ((below_alloc wx _).mono BX.out.size)).trans (hfrm3.below (by have := BX.out.size; simp; omega) (by intro q hq; cases hq))
                  obtain ⟨A3, k3, rfl, -, -, -⟩ := hown3.slice
                  have O3 := Lib.hid hown3
                  have B3 := Lib.hid hb3
                  clear hown3 hfrm3 hnew3 hb3
                  go_wp2_with (at_builtin; refine wpList_append_bytes _ rfl (.tmp 101) (.tmp 105) 22 rfl 5 w.heap.size Try.underlying22 Try.info_u8 _ ([] ++ [1, h1, h2]) rfl ?own2 A' N c' w.heap.size (bs.drop fr) rfl ?lenn ?row2 ?len2 ?base2 ?next2)
                  case own2 => exact O3.out
                  case lenn => have := HNN.out.1; have := HN.out; rw [List.length_drop]; omega
                  case row2 => exact HA'.out w3 (HR.out.below B3.out)
                  case len2 => have := HNB.out.2.2.2.1; rw [List.length_drop]; simp; omega
                  case base2 => exact B3.out.size
                  case next2 =>
                    intro v4 w4 hown4 hfrm4 hnew4
                    have hb4 : Below w.heap.size w w4 := B3.out.trans (hfrm4.below B3.out.size (fun q hq => (O3.out.lt hq).1))
                    have O4 := Lib.hid hown4
                    have B4 := Lib.hid hb4
                    clear hown4 hfrm4 hnew4 hb4
                    go_wp2
                    go_roundg 0
                    case rel => exact .inr ⟨rfl, _, O4.out, .inr (.inl ⟨by have := HNN.out.2; have := HN.out; omega, HX.out.symm⟩), B4.out⟩
                    case measure => omega
            · rcases hcc with h5 | ⟨h5, h6⟩
              all_goals
                go_wp2_with (at_builtin; refine wpList_append_bytes _ rfl (.tmp 90) (.tmp 99) 22 rfl 5 w.heap.size Try.underlying22 Try.info_u8 (.slice none 0 0) [] rfl ?own1 (some ⟨wx.heap.size, 0, none⟩) 3 3 (wx.heap.size + 1) [2, h1, h2] rfl rfl ?row1 ?len1 ?base1 ?next1)
                case own1 => exact OwnB.nil _ _ _
                case row1 => exact row_cells wx _ [2, h1, h2] _ rfl
                case len1 => simp
                case base1 => have := BX.out.size; simp; omega
                case next1 =>
                  intro v3 w3 hown3 hfrm3 hnew3
                  have hb3 : Below w.heap.size w w3 := (BX.out.trans ((below_alloc wx _).mono BX.out.size)).trans (hfrm3.below (by have := BX.out.size; simp; omega) (by intro q hq; cases hq))
                  obtain ⟨A3, k3, rfl, -, -, -⟩ := hown3.slice
                  have O3 := Lib.hid hown3
                  have B3 := Lib.hid hb3
                  clear hown3 hfrm3 hnew3 hb3
                  go_wp2_with (at_builtin; refine wpList_append_bytes _ rfl (.tmp 101) (.tmp 105) 22 rfl 5 w.heap.size Try.underlying22 Try.info_u8 _ ([] ++ [2, h1, h2]) rfl ?own2 A' N c' w.heap.size (bs.drop fr) rfl ?lenn ?row2 ?len2 ?base2 ?next2)
                  case own2 => exact O3.out
                  case lenn => have := HNN.out.1; have := HN.out; rw [List.length_drop]; omega
                  case row2 => exact HA'.out w3 (HR.out.below B3.out)
                  case len2 => have := HNB.out.2.2.2.1; rw [List.length_drop]; simp; omega
                  case base2 => exact B3.out.size
                  case next2 =>
                    intro v4 w4 hown4 hfrm4 hnew4
                    have hb4 : Below w.heap.size w w4 := B3.out.trans (hfrm4.below B3.out.size (fun q hq => (O3.out.lt hq).1))
                    have O4 := Lib.hid hown4
                    have B4 := Lib.hid hb4
                    clear hown4 hfrm4 hnew4 hb4
                    go_wp2
                    go_roundg 0
                    case rel => exact .inr ⟨rfl, _, O4.out, .inr (.inl ⟨by have := HNN.out.2; have := HN.out; omega, HX.out.symm⟩), B4.out⟩
                    case measure => omega
          · have q5 : ((lv : Int) == 0) = false := beq_eq_false_iff_ne.2 (by omega)
            have q6 : (L6 : Int) < (N3 : Int) := by omega
            have HCB : Hid (cb = lzB bs fr l) := Lib.hid (by
              rcases CS.out with ⟨e, _⟩ | ⟨_, e⟩
              · omega
              · exact e)
            have hlen := lzB_len SQ.out.2.2.1 HNB.out.2.2.2.2 HNB.out.2.2.2.1
            rw [← HCB.out, HL.out.1] at hlen
            obtain ⟨L1, hL1⟩ : ∃ x, L - 1 = x := ⟨_, rfl⟩
            have jl : (L : Int) - 1 = (L1 : Int) := by omega
            have vl : IntKind.i64.wrap (L1 : Int) = (L1 : Int) := Go.IntWalk.i64_in _ (by omega)
            have hsm : L + 6 < N + 3 := by have := HL.out; omega
            obtain ⟨h1, hh1⟩ : ∃ x, UInt8.ofNat (N1 / 256) = x := ⟨_, rfl⟩
            obtain ⟨h2, hh2⟩ : ∃ x, UInt8.ofNat N1 = x := ⟨_, rfl⟩
            obtain ⟨h3, hh3⟩ : ∃ x, UInt8.ofNat (L1 / 256) = x := ⟨_, rfl⟩
            obtain ⟨h4, hh4⟩ : ∃ x, UInt8.ofNat L1 = x := ⟨_, rfl⟩
            have sh : (N1 : Int) / 256 = ((N1 / 256 : Nat) : Int) := by omega
            have shl : (L1 : Int) / 256 = ((L1 / 256 : Nat) : Int) := by omega
            have b1 := u8_wrap (N1 / 256)
            have b2 := u8_wrap N1
            have b3 := u8_wrap (L1 / 256)
            have b4 := u8_wrap L1
            rw [hh1, ← sh] at b1
            rw [hh2] at b2
            rw [hh3, ← shl] at b3
            rw [hh4] at b4
            clear sh shl
            obtain ⟨ct, hct⟩ : ∃ ct : UInt8, (if fr = 0 then (224 : UInt8) else 192) = ct := ⟨_, rfl⟩
            have hcz : (((fr : Int) == 0) = true ∧ ct = 224) ∨ (((fr : Int) == 0) = false ∧ ct = 192) := by
              by_cases hz : fr = 0
              · exact .inl ⟨by rw [hz]; rfl, by rw [← hct, if_pos hz]⟩
              · exact .inr ⟨beq_eq_false_iff_ne.2 (by omega), by rw [← hct, if_neg hz]⟩
            have HX : Hid (encLz bs fr cb = [ct, h1, h2, h3, h4] ++ [93] ++ cb) := Lib.hid (by
              have hlb : lenB bs fr = N1 := by have := HN.out; have := HNN.out.1; have := HN1.out.1; unfold lenB; omega
              unfold encLz
              rw [hlb, HL.out.1, hL1, hct, hh1, hh2, hh3, hh4]
              rfl)
            have HEN : Hid (IsEnc bs fr (encLz bs fr cb)) := Lib.hid (.inr (.inr ⟨by have := HN.out; have := HNN.out; omega, l, SQ.out.2.2.1, by rw [← HCB.out, HL.out.1]; have := HN.out; have := HNN.out; omega, by rw [HCB.out]⟩))
            clear hct hh1 hh2 hh3 hh4 hL1 hsm hlen hp
            rcases hcz with ⟨qz, rfl⟩ | ⟨qz, rfl⟩
            · go_wp2_with (at_builtin; refine wpList_append_bytes _ rfl (.tmp 111) (.tmp 129) 22 rfl 5 w.heap.size Try.underlying22 Try.info_u8 (.slice none 0 0) [] rfl ?own1 (some ⟨wx.heap.size, 0, none⟩) 5 5 (wx.heap.size + 1) [224, h1, h2, h3, h4] rfl rfl ?row1 ?len1 ?base1 ?next1)
              case own1 => exact OwnB.nil _ _ _
              case row1 => exact row_cells wx _ [224, h1, h2, h3, h4] _ rfl
              case len1 => simp
              case base1 => have := BX.out.size; simp; omega
              case next1 =>
                intro v3 w3 hown3 hfrm3 hnew3
                have hb3 : Below w.heap.size w w3 := (BX.out.trans ((below_alloc wx _).mono BX.out.size)).trans (hfrm3.below (by have := BX.out.size; simp; omega) (by intro q hq; cases hq))
                have hr3 : BRow w3 wx.heap.size Ac cb := row_kept (CR.out.below (below_alloc wx _)) hfrm3 (by simp) (by intro q hq; cases hq)
                have hz3 : wx.heap.size ≤ w3.heap.size := by have := hfrm3.size; simp at this; omega
                have hv3 : ∀ q, v3.ownBlock = some q → wx.heap.size ≤ q := by
                  intro q hq
                  rcases hnew3 with e | e
                  · rw [e] at hq; cases hq
                  · rw [e] at hq; injection hq with hq; rw [← hq]; simp
                obtain ⟨A3, k3, rfl, -, -, -⟩ := hown3.slice
                have O3 := Lib.hid hown3
                have B3 := Lib.hid hb3
                have R3 := Lib.hid hr3
                have Z3 := Lib.hid hz3
                have V3 := Lib.hid hv3
                clear hown3 hfrm3 hnew3 hb3 hr3 hz3 hv3
                go_wp2_with (at_builtin; refine wpList_append_bytes _ rfl (.tmp 132) (.tmp 133) 22 rfl 5 w.heap.size Try.underlying22 Try.info_u8 _ ([] ++ [224, h1, h2, h3, h4]) rfl ?own2 (some ⟨w3.heap.size, 0, none⟩) 1 1 (w3.heap.size + 1) [93] rfl rfl ?row2 ?len2 ?base2 ?next2)
                case own2 => exact O3.out.alloc _
                case row2 => exact row_cells w3 _ [93] _ rfl
                case len2 => simp
                case base2 => have := B3.out.size; simp; omega
                case next2 =>
                  intro v4 w4 hown4 hfrm4 hnew4
                  have hb4 : Below w.heap.size w w4 := (B3.out.trans ((below_alloc w3 _).mono B3.out.size)).trans (hfrm4.below (by have := B3.out.size; simp; omega) (fun q hq => (O3.out.lt hq).1))
                  have hr4 : BRow w4 wx.heap.size Ac cb := row_kept (R3.out.below ((below_alloc w3 _).mono Z3.out)) hfrm4 (by have := Z3.out; simp; omega) (fun q hq => V3.out q hq)
                  obtain ⟨A4, k4, rfl, -, -, -⟩ := hown4.slice
                  have O4 := Lib.hid hown4
                  have B4 := Lib.hid hb4
                  have R4 := Lib.hid hr4
                  clear hown4 hfrm4 hnew4 hb4 hr4
                  go_wp2_with (at_builtin; refine wpList_append_bytes _ rfl (.tmp 135) (.tmp 136) 22 rfl 5 w.heap.size Try.underlying22 Try.info_u8 _ ([] ++ [224, h1, h2, h3, h4] ++ [93]) rfl ?own3 Ac L kc wx.heap.size cb rfl HL.out.1.symm ?row3 ?len3 ?base3 ?next3)
                  case own3 => exact O4.out
                  case row3 => exact R4.out
                  case len3 =>
                    have h1 := lzB_len SQ.out.2.2.1 HNB.out.2.2.2.2 HNB.out.2.2.2.1
                    rw [← HCB.out] at h1
                    simp
                    omega
                  case base3 => exact B4.out.size
                  case next3 =>
                    intro v5 w5 hown5 hfrm5 hnew5
                    have hb5 : Below w.heap.size w w5 := B4.out.trans (hfrm5.below B4.out.size (fun q hq => (O4.out.lt hq).1))
                    have O5 := Lib.hid hown5
                    have B5 := Lib.hid hb5
                    clear hown5 hfrm5 hnew5 hb5
                    go_wp2
                    go_roundg 0
                    case rel => exact .inr ⟨rfl, _, O5.out, by have h := HEN.out; rw [HX.out] at h; exact h, B5.out⟩
                    case measure => omega
            · go_wp2_with (at_builtin; refine wpList_append_bytes _ rfl (.tmp 111) (.tmp 129) 22 rfl 5 w.heap.size Try.underlying22 Try.info_u8 (.slice none 0 0) [] rfl ?own1 (some ⟨wx.heap.size, 0, none⟩) 5 5 (wx.heap.size + 1) [192, h1, h2, h3, h4] rfl rfl ?row1 ?len1 ?base1 ?next1)
              case own1 => exact OwnB.nil _ _ _
              case row1 => exact row_cells wx _ [192, h1, h2, h3, h4] _ rfl
              case len1 => simp
              case base1 => have := BX.out.size; simp; omega
              case next1 =>
                intro v3 w3 hown3 hfrm3 hnew3
                have hb3 : Below w.heap.size w w3 := (BX.out.trans ((below_alloc wx _).mono BX.out.size)).trans (hfrm3.below (by have := BX.out.size; simp; omega) (by intro q hq; cases hq))
                have hr3 : BRow w3 wx.heap.size Ac cb := row_kept (CR.out.below (below_alloc wx _)) hfrm3 (by simp) (by intro q hq; cases hq)
                have hz3 : wx.heap.size ≤ w3.heap.size := by have := hfrm3.size; simp at this; omega
                have hv3 : ∀ q, v3.ownBlock = some q → wx.heap.size ≤ q := by
                  intro q hq
                  rcases hnew3 with e | e
                  · rw [e] at hq; cases hq
                  · rw [e] at hq; injection hq with hq; rw [← hq]; simp
                obtain ⟨A3, k3, rfl, -, -, -⟩ := hown3.slice
                have O3 := Lib.hid hown3
                have B3 := Lib.hid hb3
                have R3 := Lib.hid hr3
                have Z3 := Lib.hid hz3
                have V3 := Lib.hid hv3
                clear hown3 hfrm3 hnew3 hb3 hr3 hz3 hv3
                go_wp2_with (at_builtin; refine wpList_append_bytes _ rfl (.tmp 132) (.tmp 133) 22 rfl 5 w.heap.size Try.underlying22 Try.info_u8 _ ([] ++ [192, h1, h2, h3, h4]) rfl ?own2 (some ⟨w3.heap.size, 0, none⟩) 1 1 (w3.heap.size + 1) [93] rfl rfl ?row2 ?len2 ?base2 ?next2)
                case own2 => exact O3.out.alloc _
                case row2 => exact row_cells w3 _ [93] _ rfl
                case len2 => simp
                case base2 => have := B3.out.size; simp; omega
                case next2 =>
                  intro v4 w4 hown4 hfrm4 hnew4
                  have hb4 : Below w.heap.size w w4 := (B3.out.trans ((below_alloc w3 _).mono B3.out.size)).trans (hfrm4.below (by have := B3.out.size; simp; omega) (fun q hq => (O3.out.lt hq).1))
                  have hr4 : BRow w4 wx.heap.size Ac cb := row_kept (R3.out.below ((below_alloc w3 _).mono Z3.out)) hfrm4 (by have := Z3.out; simp; omega) (fun q hq => V3.out q hq)
                  obtain ⟨A4, k4, rfl, -, -, -⟩ := hown4.slice
                  have O4 := Lib.hid hown4
                  have B4 := Lib.hid hb4
                  have R4 := Lib.hid hr4
                  clear hown4 hfrm4 hnew4 hb4 hr4
                  go_wp2_with (at_builtin; refine wpList_append_bytes _ rfl (.tmp 135) (.tmp 136) 22 rfl 5 w.heap.size Try.underlying22 Try.info_u8 _ ([] ++ [192, h1, h2, h3, h4] ++ [93]) rfl ?own3 Ac L kc wx.heap.size cb rfl HL.out.1.symm ?row3 ?len3 ?base3 ?next3)
                  case own3 => exact O4.out
                  case row3 => exact R4.out
                  case len3 =>
                    have h1 := lzB_len SQ.out.2.2.1 HNB.out.2.2.2.2 HNB.out.2.2.2.1
                    rw [← HCB.out] at h1
                    simp
                    omega
                  case base3 => exact B4.out.size
                  case next3 =>
                    intro v5 w5 hown5 hfrm5 hnew5
                    have hb5 : Below w.heap.size w w5 := B4.out.trans (hfrm5.below B4.out.size (fun q hq => (O4.out.lt hq).1))
                    have O5 := Lib.hid hown5
                    have B5 := Lib.hid hb5
                    clear hown5 hfrm5 hnew5 hb5
                    go_wp2
                    go_roundg 0
                    case rel => exact .inr ⟨rfl, _, O5.out, by have h := HEN.out; rw [HX.out] at h; exact h, B5.out⟩
                    case measure => omega
    · have O := Lib.hid ho
      have X := Lib.hid hx
      have B := Lib.hid hb
      clear ho hx hb
      go_wp2
      go_ret2
      exact ⟨_, x, rfl, O.out, X.out, B.out⟩
end Go.Proofs.Ytefbjamepbkklaa

/- How many bytes heads say that chunks tell: the walk. -/
namespace Go.Proofs.Ytefbjamepbkklaa
open Go.RowKit Rng Win Lz
set_option linter.unusedVariables false
set_option linter.unusedSimpArgs false
theorem or8 (x y : Nat) (h1 : x < 256) (h2 : y < 256) : bits .or .i64 ((x : Int) * 256) (y : Int) = ((x * 256 + y : Nat) : Int) := by
  have e : (x : Int) * 256 = ((x * 256 : Nat) : Int) := by omega
  show IntKind.i64.wrap ((BitVec.ofInt 64 ((x : Int) * 256) ||| BitVec.ofInt 64 (y : Int)).toNat : Int) = _
  rw [e, BitVec.toNat_or, ofInt_u64 (x * 256) (by omega), ofInt_u64 y (by omega)]
  have h := Nat.two_pow_add_eq_or_of_lt (i := 8) (b := y) h2 x
  rw [show (2 : Nat) ^ 8 * x = x * 256 by omega] at h
  rw [← h]
  exact Go.IntWalk.i64_in _ (by omega)
theorem toldGo_stop {b : List UInt8} {f a m : Nat} (h : ¬ (a + 3 ≤ b.length ∧ m ≤ 262144)) : toldGo b f a m = m := by
  cases f with
  | zero => rfl
  | succ f => unfold toldGo; rw [if_neg h]
set_option maxRecDepth 8000 in
set_option maxHeartbeats 4000000 in
theorem told_p (A : Option Addr) (bs : List UInt8) (n c : Nat) (w : World) (hn : n = bs.length) (hr : BRow w w.heap.size A bs) (hc : n ≤ c) (hb : n ≤ 4611686018427387904) :
    Calls Try.prog 10 #[.slice A n c] w fun e w' => e = .returned (.int .i64 ((toldP bs : Nat) : Int)) ∧ Below w.heap.size w w' := by
  obtain ⟨R, hR⟩ : ∃ R, toldP bs = R := ⟨_, rfl⟩
  rw [hR]
  have HR := Lib.hid hr
  have HN := Lib.hid hn
  have HP := Lib.hid hR
  have HB := Lib.hid hb
  clear hr hn hR hb
  go_enter Try.func10, Try.ntmps10
  go_wp2
  go_loopg [3, 4] (bs.length + 1) (fun f nv av wr => ∃ (m a : Nat), nv = .int .i64 m ∧ av = .int .i64 a ∧ toldGo bs f a m = R ∧ BRow wr w.heap.size A bs ∧ Below w.heap.size w wr ∧ a ≤ n + 70000 ∧ m ≤ 2621440 ∧ bs.length < f + a)
  case atStart => exact ⟨0, 0, rfl, rfl, HP.out, HR.out, Below.refl _ _, by omega, by omega, by omega⟩
  case round =>
    obtain ⟨m, a, rfl, rfl, ht, hr, hbe, ha, hm, hf⟩ := hrel
    have HT := Lib.hid ht
    have HF := Lib.hid hf
    have BE := Lib.hid hbe
    have HRW := Lib.hid hr
    obtain ⟨a3, ha3⟩ : ∃ x, a + 3 = x := ⟨_, rfl⟩
    have i3 : (a : Int) + 3 = (a3 : Int) := by omega
    have w3 : IntKind.i64.wrap (a3 : Int) = (a3 : Int) := Go.IntWalk.i64_in _ (by have := HB.out; omega)
    have HA3 := Lib.hid ha3
    clear ht hf hbe hr ha3
    by_cases h1 : a3 ≤ n
    · have q1 : (a3 : Int) ≤ (n : Int) := by omega
      by_cases h2 : m ≤ 262144
      · have q2 : (m : Int) ≤ 262144 := by omega
        obtain ⟨ab, ao, rfl, hab, hcell⟩ := HRW.out (by have := HN.out; omega)
        obtain ⟨g, rfl⟩ : ∃ g, gk = g + 1 := ⟨gk - 1, by have := HF.out; have := HN.out; have := HA3.out; omega⟩
        have hstep := HT.out
        unfold toldGo at hstep
        rw [if_pos ⟨by have := HN.out; have := HA3.out; omega, h2⟩] at hstep
        obtain ⟨c0, hc0⟩ : ∃ c, (bs.getD a 0).toNat = c := ⟨_, rfl⟩
        obtain ⟨x1, hx1⟩ : ∃ c, (bs.getD (a + 1) 0).toNat = c := ⟨_, rfl⟩
        obtain ⟨x2, hx2⟩ : ∃ c, (bs.getD (a + 2) 0).toNat = c := ⟨_, rfl⟩
        have hc256 : c0 < 256 := by rw [← hc0]; exact (bs.getD a 0).toNat_lt
        have hx1b : x1 < 256 := by rw [← hx1]; exact (bs.getD (a + 1) 0).toNat_lt
        have hx2b : x2 < 256 := by rw [← hx2]; exact (bs.getD (a + 2) 0).toNat_lt
        have b0 : wr.cell? ⟨ab, ao + a, none⟩ = some (.int .u8 (c0 : Int)) := by rw [← hc0]; exact hcell a (by have := HN.out; have := HA3.out; omega)
        obtain ⟨a1, ha1⟩ : ∃ x, a + 1 = x := ⟨_, rfl⟩
        obtain ⟨a2, ha2⟩ : ∃ x, a + 2 = x := ⟨_, rfl⟩
        have b1 : wr.cell? ⟨ab, ao + a1, none⟩ = some (.int .u8 (x1 : Int)) := by rw [← hx1, ← ha1]; exact hcell (a + 1) (by have := HN.out; have := HA3.out; omega)
        have b2 : wr.cell? ⟨ab, ao + a2, none⟩ = some (.int .u8 (x2 : Int)) := by rw [← hx2, ← ha2]; exact hcell (a + 2) (by have := HN.out; have := HA3.out; omega)
        have i1 : (a : Int) + 1 = (a1 : Int) := by omega
        have i2 : (a : Int) + 2 = (a2 : Int) := by omega
        have w1 : IntKind.i64.wrap (a1 : Int) = (a1 : Int) := Go.IntWalk.i64_in _ (by have := HB.out; omega)
        have w2 : IntKind.i64.wrap (a2 : Int) = (a2 : Int) := Go.IntWalk.i64_in _ (by have := HB.out; omega)
        obtain ⟨sz, hsz⟩ : ∃ x, x1 * 256 + x2 = x := ⟨_, rfl⟩
        have htw : twoB bs (a + 1) = sz := by unfold twoB; rw [hx1, show a + 1 + 1 = a + 2 from rfl, hx2]; exact hsz
        have hszb : sz < 65536 := by omega
        have hor := or8 x1 x2 hx1b hx2b
        rw [hsz] at hor
        have hwx : IntKind.i64.wrap (x1 : Int) = (x1 : Int) := Go.IntWalk.i64_in _ (by omega)
        have hwy : IntKind.i64.wrap (x2 : Int) = (x2 : Int) := Go.IntWalk.i64_in _ (by omega)
        have hwx2 : IntKind.i64.wrap ((x1 : Int) * 256) = (x1 : Int) * 256 := Go.IntWalk.i64_in _ (by omega)
        have l0 : (a : Int) < (n : Int) := by omega
        have l1 : (a1 : Int) < (n : Int) := by omega
        have l2 : (a2 : Int) < (n : Int) := by omega
        rw [hc0, htw] at hstep
        have HC := Lib.hid hcell
        have HST := Lib.hid hstep
        have HI := Lib.hid (And.intro ha1 ha2)
        have H1 := Lib.hid h1
        have H2 := Lib.hid h2
        clear hstep hc0 hx1 hx2 ha1 ha2 hsz htw hcell h1 h2 hx1b hx2b
        go_upto_region 5 with fail
        go_still (by kernel_rfl)
        obtain ⟨wd, hwd⟩ : ∃ wd, wr.drew = wd := ⟨_, rfl⟩
        have BE2 : Hid (Below w.heap.size w wd) := Lib.hid (by rw [← hwd]; exact BE.out.drew)
        have HR2 : Hid (BRow wd w.heap.size (some ⟨ab, ao, none⟩) bs) := Lib.hid (by rw [← hwd]; exact HRW.out)
        rw [show ({ heap := wr.heap, tape := wr.tape, drawn := wr.drawn + 1, os := wr.os, output := wr.output } : World) = wd from hwd]
        obtain ⟨m1, hm1⟩ : ∃ x, m + sz = x := ⟨_, rfl⟩
        have j1 : (m : Int) + (sz : Int) = (m1 : Int) := by omega
        have v1 : IntKind.i64.wrap (m1 : Int) = (m1 : Int) := Go.IntWalk.i64_in _ (by have := H2.out; omega)
        clear hwd b0 b1 b2 BE HRW hor hwx hwy hwx2 l0 l1 l2 w1 w2 i1 i2
        by_cases h12 : c0 = 1 ∨ c0 = 2
        · have HST2 : Hid (toldGo bs g (a + 3 + sz + 1) (m + sz + 1) = R) := Lib.hid (by have := HST.out; rw [if_pos h12] at this; exact this)
          obtain ⟨m2, hm2⟩ : ∃ x, m1 + 1 = x := ⟨_, rfl⟩
          have j2 : (m1 : Int) + 1 = (m2 : Int) := by omega
          have v2 : IntKind.i64.wrap (m2 : Int) = (m2 : Int) := Go.IntWalk.i64_in _ (by have := H2.out; omega)
          obtain ⟨a4, ha4⟩ : ∃ x, a3 + sz = x := ⟨_, rfl⟩
          have i4 : (a3 : Int) + (sz : Int) = (a4 : Int) := by omega
          have w4 : IntKind.i64.wrap (a4 : Int) = (a4 : Int) := Go.IntWalk.i64_in _ (by have := HB.out; have := H1.out; omega)
          obtain ⟨a5, ha5⟩ : ∃ x, a4 + 1 = x := ⟨_, rfl⟩
          have i5 : (a4 : Int) + 1 = (a5 : Int) := by omega
          have w5 : IntKind.i64.wrap (a5 : Int) = (a5 : Int) := Go.IntWalk.i64_in _ (by have := HB.out; have := H1.out; omega)
          have HQ := Lib.hid (And.intro (And.intro hm1 hm2) (And.intro ha4 ha5))
          clear hm1 hm2 ha4 ha5
          have hcc : ((c0 : Int) == 1) = true ∨ (((c0 : Int) == 1) = false ∧ ((c0 : Int) == 2) = true) := by
            rcases h12 with h | h
            · exact .inl (beq_iff_eq.2 (by omega))
            · exact .inr ⟨beq_eq_false_iff_ne.2 (by omega), beq_iff_eq.2 (by omega)⟩
          clear h12
          rcases hcc with q5 | ⟨q5, q6⟩
          all_goals
            go_wp2
            go_roundg g
            case rel =>
              have h1 := HQ.out.1
              have h2 := HQ.out.2
              have h3 := HA3.out
              have h4 := H1.out
              have h5 := H2.out
              have h6 := HF.out
              exact ⟨m2, a5, rfl, rfl, by rw [← HST2.out, show m + sz + 1 = m2 by omega, show a + 3 + sz + 1 = a5 by omega], HR2.out, BE2.out, by omega, by omega, by omega⟩
            case measure => omega
        · have q5 : ((c0 : Int) == 1) = false := beq_eq_false_iff_ne.2 (by omega)
          have q6 : ((c0 : Int) == 2) = false := beq_eq_false_iff_ne.2 (by omega)
          have HST2 := Lib.hid (by have := HST.out; rw [if_neg h12] at this; exact this)
          clear h12 HST
          obtain ⟨a6, ha6⟩ : ∃ x, a + 6 = x := ⟨_, rfl⟩
          have i6 : (a : Int) + 6 = (a6 : Int) := by omega
          have w6 : IntKind.i64.wrap (a6 : Int) = (a6 : Int) := Go.IntWalk.i64_in _ (by have := HB.out; have := H1.out; omega)
          by_cases h128 : 128 ≤ c0
          · have q7 : (128 : Int) ≤ (c0 : Int) := by omega
            by_cases h6 : a6 ≤ n
            · have q8 : (a6 : Int) ≤ (n : Int) := by omega
              have HST3 := Lib.hid (by have := HST2.out; rw [if_pos ⟨h128, by have := HN.out; omega⟩] at this; exact this)
              have a31 := and31 c0 hc256
              obtain ⟨c31, hc31⟩ : ∃ v, c0 % 32 = v := ⟨_, rfl⟩
              have hcl : c31 < 32 := by omega
              rw [hc31] at a31
              have hw31 : IntKind.i64.wrap (c31 : Int) = (c31 : Int) := Go.IntWalk.i64_in _ (by omega)
              have hw32 : IntKind.i64.wrap ((c31 : Int) * 65536) = (c31 : Int) * 65536 := Go.IntWalk.i64_in _ (by omega)
              obtain ⟨ma, hma⟩ : ∃ x, m + c31 * 65536 = x := ⟨_, rfl⟩
              obtain ⟨mb, hmb⟩ : ∃ x, ma + sz = x := ⟨_, rfl⟩
              obtain ⟨mc, hmc⟩ : ∃ x, mb + 1 = x := ⟨_, rfl⟩
              have k1 : (m : Int) + (c31 : Int) * 65536 = (ma : Int) := by omega
              have k2 : (ma : Int) + (sz : Int) = (mb : Int) := by omega
              have k3 : (mb : Int) + 1 = (mc : Int) := by omega
              have z1 : IntKind.i64.wrap (ma : Int) = (ma : Int) := Go.IntWalk.i64_in _ (by have := H2.out; omega)
              have z2 : IntKind.i64.wrap (mb : Int) = (mb : Int) := Go.IntWalk.i64_in _ (by have := H2.out; omega)
              have z3 : IntKind.i64.wrap (mc : Int) = (mc : Int) := Go.IntWalk.i64_in _ (by have := H2.out; omega)
              have HQ := Lib.hid (And.intro hma (And.intro hmb hmc))
              obtain ⟨x3, hx3⟩ : ∃ c, (bs.getD (a + 3) 0).toNat = c := ⟨_, rfl⟩
              obtain ⟨x4, hx4⟩ : ∃ c, (bs.getD (a + 4) 0).toNat = c := ⟨_, rfl⟩
              have hx3b : x3 < 256 := by rw [← hx3]; exact (bs.getD (a + 3) 0).toNat_lt
              have hx4b : x4 < 256 := by rw [← hx4]; exact (bs.getD (a + 4) 0).toNat_lt
              obtain ⟨a4, ha4⟩ : ∃ x, a + 4 = x := ⟨_, rfl⟩
              have b3 : wd.cell? ⟨ab, ao + a3, none⟩ = some (.int .u8 (x3 : Int)) := by rw [← hx3, ← HA3.out]; exact HR2.out.addr (k := a + 3) (by have := HN.out; omega)
              have b4 : wd.cell? ⟨ab, ao + a4, none⟩ = some (.int .u8 (x4 : Int)) := by rw [← hx4, ← ha4]; exact HR2.out.addr (k := a + 4) (by have := HN.out; omega)
              have i4 : (a : Int) + 4 = (a4 : Int) := by omega
              have w4 : IntKind.i64.wrap (a4 : Int) = (a4 : Int) := Go.IntWalk.i64_in _ (by have := HB.out; have := H1.out; omega)
              have l3 : (a3 : Int) < (n : Int) := by omega
              have l4 : (a4 : Int) < (n : Int) := by omega
              have hwx : IntKind.i64.wrap (x3 : Int) = (x3 : Int) := Go.IntWalk.i64_in _ (by omega)
              have hwy : IntKind.i64.wrap (x4 : Int) = (x4 : Int) := Go.IntWalk.i64_in _ (by omega)
              have hwx2 : IntKind.i64.wrap ((x3 : Int) * 256) = (x3 : Int) * 256 := Go.IntWalk.i64_in _ (by omega)
              obtain ⟨a5, ha5⟩ : ∃ x, a + 5 = x := ⟨_, rfl⟩
              obtain ⟨ad, had⟩ : ∃ x, a5 + x3 * 256 = x := ⟨_, rfl⟩
              obtain ⟨ae, hae⟩ : ∃ x, ad + x4 = x := ⟨_, rfl⟩
              obtain ⟨af, haf⟩ : ∃ x, ae + 1 = x := ⟨_, rfl⟩
              obtain ⟨ag, hag⟩ : ∃ x, af + 1 = x := ⟨_, rfl⟩
              have i5 : (a : Int) + 5 = (a5 : Int) := by omega
              have id5 : (a5 : Int) + (x3 : Int) * 256 = (ad : Int) := by omega
              have ie5 : (ad : Int) + (x4 : Int) = (ae : Int) := by omega
              have if5 : (ae : Int) + 1 = (af : Int) := by omega
              have ig5 : (af : Int) + 1 = (ag : Int) := by omega
              have w5 : IntKind.i64.wrap (a5 : Int) = (a5 : Int) := Go.IntWalk.i64_in _ (by have := HB.out; have := H1.out; omega)
              have wd5 : IntKind.i64.wrap (ad : Int) = (ad : Int) := Go.IntWalk.i64_in _ (by have := HB.out; have := H1.out; omega)
              have we5 : IntKind.i64.wrap (ae : Int) = (ae : Int) := Go.IntWalk.i64_in _ (by have := HB.out; have := H1.out; omega)
              have wf5 : IntKind.i64.wrap (af : Int) = (af : Int) := Go.IntWalk.i64_in _ (by have := HB.out; have := H1.out; omega)
              have wg5 : IntKind.i64.wrap (ag : Int) = (ag : Int) := Go.IntWalk.i64_in _ (by have := HB.out; have := H1.out; omega)
              have HQ2 : Hid (twoB bs (a + 3) = x3 * 256 + x4 ∧ a + 5 = a5 ∧ a5 + x3 * 256 = ad ∧ ad + x4 = ae ∧ ae + 1 = af ∧ af + 1 = ag ∧ x3 < 256 ∧ x4 < 256 ∧ c31 < 32) := Lib.hid ⟨by unfold twoB; rw [hx3, show a + 3 + 1 = a + 4 from rfl, hx4], ha5, had, hae, haf, hag, hx3b, hx4b, hcl⟩
              have HC31 := Lib.hid hc31
              clear HST2 h128 h6 hma hmb hmc hx3 hx4 hx3b hx4b ha4 ha5 had hae haf hag hc31 hcl
              by_cases h192 : 192 ≤ c0
              · have q9 : (192 : Int) ≤ (c0 : Int) := by omega
                have HST4 : Hid (toldGo bs g (a + 5 + twoB bs (a + 3) + 1 + 1) (m + c0 % 32 * 65536 + sz + 1) = R) := Lib.hid (by have := HST3.out; rw [if_pos h192] at this; exact this)
                clear HST3 h192
                go_upto_region 12 with fail
                go_still (by kernel_rfl)
                obtain ⟨we, hwe⟩ : ∃ we, wd.drew = we := ⟨_, rfl⟩
                have BE3 : Hid (Below w.heap.size w we) := Lib.hid (by rw [← hwe]; exact BE2.out.drew)
                have HR3 : Hid (BRow we w.heap.size (some ⟨ab, ao, none⟩) bs) := Lib.hid (by rw [← hwe]; exact HR2.out)
                rw [show ({ heap := wd.heap, tape := wd.tape, drawn := wd.drawn + 1, os := wd.os, output := wd.output } : World) = we from hwe]
                clear hwe b3 b4
                go_wp2
                go_roundg g
                case rel =>
                  obtain ⟨y1, y2, y3, y4, y5, y6, y7, y8, y9⟩ := HQ2.out
                  obtain ⟨z1, z2, z3⟩ := HQ.out
                  have h1 := H1.out
                  have h2 := H2.out
                  have h3 := HA3.out
                  have h6 := HF.out
                  exact ⟨mc, ag, rfl, rfl, by rw [← HST4.out, HC31.out, y1, show m + c31 * 65536 + sz + 1 = mc by omega, show a + 5 + (x3 * 256 + x4) + 1 + 1 = ag by omega], HR3.out, BE3.out, by omega, by omega, by omega⟩
                case measure => omega
              · have q9 : (c0 : Int) < 192 := by omega
                have HST4 : Hid (toldGo bs g (a + 5 + twoB bs (a + 3) + 1) (m + c0 % 32 * 65536 + sz + 1) = R) := Lib.hid (by have := HST3.out; rw [if_neg h192] at this; exact this)
                clear HST3 h192
                go_upto_region 12 with fail
                go_still (by kernel_rfl)
                obtain ⟨we, hwe⟩ : ∃ we, wd.drew = we := ⟨_, rfl⟩
                have BE3 : Hid (Below w.heap.size w we) := Lib.hid (by rw [← hwe]; exact BE2.out.drew)
                have HR3 : Hid (BRow we w.heap.size (some ⟨ab, ao, none⟩) bs) := Lib.hid (by rw [← hwe]; exact HR2.out)
                rw [show ({ heap := wd.heap, tape := wd.tape, drawn := wd.drawn + 1, os := wd.os, output := wd.output } : World) = we from hwe]
                clear hwe b3 b4
                go_wp2
                go_roundg g
                case rel =>
                  obtain ⟨y1, y2, y3, y4, y5, y6, y7, y8, y9⟩ := HQ2.out
                  obtain ⟨z1, z2, z3⟩ := HQ.out
                  have h1 := H1.out
                  have h2 := H2.out
                  have h3 := HA3.out
                  have h6 := HF.out
                  exact ⟨mc, af, rfl, rfl, by rw [← HST4.out, HC31.out, y1, show m + c31 * 65536 + sz + 1 = mc by omega, show a + 5 + (x3 * 256 + x4) + 1 = af by omega], HR3.out, BE3.out, by omega, by omega, by omega⟩
                case measure => omega
            · have q8 : (n : Int) < (a6 : Int) := by omega
              have hst : m = R := by have := HST2.out; rw [if_neg (fun h => by have := HN.out; omega)] at this; exact this
              subst hst
              clear h6 HST2
              go_wp2
              go_ret
              exact ⟨rfl, BE2.out⟩
          · have q7 : (c0 : Int) < 128 := by omega
            have hst : m = R := by have := HST2.out; rw [if_neg (fun h => h128 h.1)] at this; exact this
            subst hst
            clear h128 HST2
            go_wp2
            go_ret
            exact ⟨rfl, BE2.out⟩
      · have q2 : (262144 : Int) < (m : Int) := by omega
        have hst := toldGo_stop (b := bs) (f := gk) (a := a) (m := m) (by omega)
        rw [HT.out] at hst
        subst hst
        clear h1 h2
        go_wp2
        go_ret
        exact ⟨rfl, BE.out⟩
    · have q1 : (n : Int) < (a3 : Int) := by omega
      have hst := toldGo_stop (b := bs) (f := gk) (a := a) (m := m) (by have := HN.out; have := HA3.out; omega)
      rw [HT.out] at hst
      subst hst
      clear h1
      go_wp2
      go_ret
      exact ⟨rfl, BE.out⟩
end Go.Proofs.Ytefbjamepbkklaa

/- All of LZMA2's walks. -/
