/- The contract of Parse at every level, of Sizes, and what the document says of abcabcabc. -/
import Derived.Test.YtjifnnghcaaonaaChecked
import Derived.Test.YtjifnnghcaaonaaFindW
import Derived.Test.YtjifnnghcaaonaaFindS
import Derived.Test.YtjifnnghcaaonaaFindT
import Derived.Lib.SlBytesConst
namespace Go.Proofs.Ytjifnnghcaaonaa
open Go.RowKit Fnd
set_option linter.unusedVariables false
set_option linter.unusedSimpArgs false

set_option maxRecDepth 100000 in
set_option maxHeartbeats 1000000 in
theorem parse_any (A : Option Addr) (bs : List UInt8) (n c : Nat) (fr level window least most : Int) (at_ lv win lo hi : Nat) (w : World) (hn : n = bs.length) (hc : bs.length ≤ c) (hcm : c ≤ maxLen) (hr : BRow w w.heap.size A bs) (hlen : bs.length ≤ 1048576)
    (h1 : min (max fr 0) bs.length = at_) (h2 : min (max level 0) 3 = lv) (h3 : min (max window 1) 16777216 = win) (h4 : min (max least 2) 65536 = lo) (h5 : max (lo : Int) (min most 65536) = hi) :
    Calls Try.prog 11 #[.slice A n c, .int .i64 fr, .int .i64 level, .int .i64 window, .int .i64 least, .int .i64 most] w fun e w' =>
      ∃ v l, e = .returned v ∧ OwnSq w' 25 w.heap.size v l ∧ Right bs win lo hi l at_ ∧ (at_ = bs.length → l = []) ∧ (lv = 0 → ∀ s ∈ l, s.mat = 0) ∧ (1 ≤ lv → Same bs at_ → l.length ≤ 2 + (bs.length - at_) / hi) ∧ l.length ≤ 2097153 ∧ Below w.heap.size w w' := by
  by_cases hat : at_ < bs.length
  · by_cases hlv : 1 ≤ lv
    · refine (parse_main A bs n c fr level window least most at_ lv win lo hi w hn hc hcm hr hlen h1 h2 h3 h4 h5 hat hlv).mono ?_
      rintro e w' ⟨v, l, rfl, h6, h7, h8, h9, h10⟩
      exact ⟨v, l, rfl, h6, h7, fun h => by omega, fun h => by omega, fun _ => h8, h9, h10⟩
    · have hlv0 : lv = 0 := by omega
      subst hlv0; subst hn
      obtain ⟨X, hX⟩ : ∃ X, max fr 0 = X := ⟨_, rfl⟩
      obtain ⟨Y, hY⟩ : ∃ X, max level 0 = X := ⟨_, rfl⟩
      rw [hX] at h1; rw [hY] at h2
      have f1 := fun w => max2_int (P := Try.prog) #[3, 3] 3 _ _ _ hX w
      have f2 := fun w => max2_int (P := Try.prog) #[3, 3] 3 _ _ _ hY w
      have f6 := fun w => min2_int (P := Try.prog) #[3, 3] 3 _ _ _ h1 w
      have f7 := fun w => min2_int (P := Try.prog) #[3, 3] 3 _ _ _ (show min Y 3 = 0 from h2) w
      have ne1 : ((at_ : Int) == (bs.length : Int)) = false := beq_eq_false_iff_ne.2 (by omega)
      have hcast : ((bs.length - at_ : Nat) : Int) = (bs.length : Int) - at_ := by omega
      have HC := Lib.hid hcast
      clear hX hY h1 h2 h3 h4 h5 hr hcast
      go_enter Try.func11, Try.ntmps11
      go_wp2
      go_ret
      have ho := OwnSq.one w 25 w.heap.size (Nat.le_refl _) ⟨((bs.length - at_ : Nat) : Int), 0, 0⟩
      simp only [HC.out] at ho
      exact ⟨_, [⟨(bs.length : Int) - at_, 0, 0⟩], rfl, ho, .inr ⟨rfl, bs.length - at_, by rw [HC.out], by omega, by omega⟩, fun h => by omega, fun _ s hs => by simp at hs; rw [hs], fun h => by omega, by simp, (Below.refl _ _).alloc (Nat.le_refl _) _⟩
  · have hat2 : at_ = bs.length := by omega
    subst hn
    obtain ⟨X, hX⟩ : ∃ X, max fr 0 = X := ⟨_, rfl⟩
    obtain ⟨Y, hY⟩ : ∃ X, max level 0 = X := ⟨_, rfl⟩
    rw [hX] at h1; rw [hY] at h2
    have f1 := fun w => max2_int (P := Try.prog) #[3, 3] 3 _ _ _ hX w
    have f2 := fun w => max2_int (P := Try.prog) #[3, 3] 3 _ _ _ hY w
    have f6 := fun w => min2_int (P := Try.prog) #[3, 3] 3 _ _ _ h1 w
    have f7 := fun w => min2_int (P := Try.prog) #[3, 3] 3 _ _ _ h2 w
    have ne1 : ((at_ : Int) == (bs.length : Int)) = true := beq_iff_eq.2 (by omega)
    clear hX hY h1 h2 h3 h4 h5 hr
    have HA := Lib.hid hat2
    clear hat2 hat
    go_enter Try.func11, Try.ntmps11
    go_wp2
    go_ret
    exact ⟨_, [], rfl, OwnSq.nil _ _ _, HA.out, fun _ => rfl, fun _ s hs => absurd hs (by simp), fun _ _ => by simp, by simp, Below.refl _ _⟩

theorem results_tmp5 {fn : Func} {t u v x y : Tmp} (h : fn.results = #[.tmp t, .tmp u, .tmp v, .tmp x, .tmp y]) (tmps : Array Value) (P : Program) (w : World) :
    (results fn tmps).run P w = .ok (.tuple #[tmps.getD t undef, tmps.getD u undef, tmps.getD v undef, tmps.getD x undef, tmps.getD y undef]) w := by
  simp [results, h]

theorem sz1 (x : Int) : max 2 (min x 65536) = min (max x 2) 65536 := by omega
theorem sz2 (x : Int) (n : Nat) : max 0 (min x n) = min (max x 0) n := by omega
theorem sz3 (x : Int) : max 0 (min x 3) = min (max x 0) 3 := by omega
theorem sz4 (x : Int) : max 1 (min x 16777216) = min (max x 1) 16777216 := by omega
theorem sz5 (x : Int) (lo : Nat) : max (lo : Int) (min (max x 0) 65536) = max (lo : Int) (min x 65536) := by omega
theorem sizes_any (n : Nat) (fr level window least most : Int) (at_ lv win lo hi : Nat) (w : World)
    (h1 : min (max fr 0) n = at_) (h2 : min (max level 0) 3 = lv) (h3 : min (max window 1) 16777216 = win) (h4 : min (max least 2) 65536 = lo) (h5 : max (lo : Int) (min most 65536) = hi) :
    Calls Try.prog 12 #[.int .i64 n, .int .i64 fr, .int .i64 level, .int .i64 window, .int .i64 least, .int .i64 most] w fun e w' =>
      e = .returned (.tuple #[.int .i64 at_, .int .i64 lv, .int .i64 win, .int .i64 lo, .int .i64 hi]) ∧ w = w' := by
  obtain ⟨X1, g1⟩ : ∃ X, min least 65536 = X := ⟨_, rfl⟩
  obtain ⟨X2, g2⟩ : ∃ X, min fr n = X := ⟨_, rfl⟩
  obtain ⟨X3, g3⟩ : ∃ X, min level 3 = X := ⟨_, rfl⟩
  obtain ⟨X4, g4⟩ : ∃ X, min window 16777216 = X := ⟨_, rfl⟩
  obtain ⟨X5, g5⟩ : ∃ X, max most 0 = X := ⟨_, rfl⟩
  obtain ⟨X6, g6⟩ : ∃ X, min X5 65536 = X := ⟨_, rfl⟩
  have e1 : max 2 X1 = lo := by rw [← g1]; exact (sz1 _).trans h4
  have e2 : max 0 X2 = at_ := by rw [← g2]; exact (sz2 _ _).trans h1
  have e3 : max 0 X3 = lv := by rw [← g3]; exact (sz3 _).trans h2
  have e4 : max 1 X4 = win := by rw [← g4]; exact (sz4 _).trans h3
  have e5 : max (lo : Int) X6 = hi := by rw [← g6, ← g5]; exact (sz5 _ _).trans h5
  have f1 := fun w => min2_int (P := Try.prog) #[3, 3] 3 _ _ _ g1 w
  have f2 := fun w => min2_int (P := Try.prog) #[3, 3] 3 _ _ _ g2 w
  have f3 := fun w => min2_int (P := Try.prog) #[3, 3] 3 _ _ _ g3 w
  have f4 := fun w => min2_int (P := Try.prog) #[3, 3] 3 _ _ _ g4 w
  have f5 := fun w => max2_int (P := Try.prog) #[3, 3] 3 _ _ _ g5 w
  have f6 := fun w => min2_int (P := Try.prog) #[3, 3] 3 _ _ _ g6 w
  have k1 := fun w => max2_int (P := Try.prog) #[3, 3] 3 _ _ _ e1 w
  have k2 := fun w => max2_int (P := Try.prog) #[3, 3] 3 _ _ _ e2 w
  have k3 := fun w => max2_int (P := Try.prog) #[3, 3] 3 _ _ _ e3 w
  have k4 := fun w => max2_int (P := Try.prog) #[3, 3] 3 _ _ _ e4 w
  have k5 := fun w => max2_int (P := Try.prog) #[3, 3] 3 _ _ _ e5 w
  clear g1 g2 g3 g4 g5 g6 e1 e2 e3 e4 e5 h1 h2 h3 h4 h5
  go_enter Try.func12, Try.ntmps12
  go_wp2
  (try simp only [Exit.inBlock, Exit.then]); refine bodyPost_ret (results_tmp5 rfl _ _ _) rfl ?_
  exact ⟨rfl, rfl⟩

/-! ### what comes behind -/
theorem Right.fits {bs : List UInt8} {win lo hi : Nat} (hb : bs.length ≤ 1048576) (hw : win ≤ 16777216) (hh : hi ≤ 65536) : ∀ {l : List Sq} {a : Nat}, Right bs win lo hi l a → ∀ s ∈ l, s.fits
  | [], _, _, s, hs => absurd hs (by simp)
  | t :: l, a, h, s, hs => by
    rcases h with ⟨m, ⟨L, M, K, rfl, h1, h2, h3, h4, h5, h6, h7, h8⟩, hr⟩ | ⟨rfl, L, rfl, h1, h2⟩
    · rcases List.mem_cons.1 hs with rfl | hs
      · unfold Sq.fits; simp only; omega
      · exact Right.fits hb hw hh hr s hs
    · rcases List.mem_cons.1 hs with rfl | hs
      · unfold Sq.fits; simp only; omega
      · exact absurd hs (by simp)
theorem litsGo_le {bs : List UInt8} {win lo hi : Nat} : ∀ {l : List Sq} {a : Nat}, Right bs win lo hi l a → (litsGo bs l a).length + a ≤ bs.length
  | [], a, h => by simp [litsGo]; exact Nat.le_of_eq h
  | t :: l, a, h => by
    rw [litsGo, List.length_append]
    rcases h with ⟨m, ⟨L, M, K, rfl, h1, h2, h3, h4, h5, h6, h7, h8⟩, hr⟩ | ⟨rfl, L, rfl, h1, h2⟩
    · have := litsGo_le hr
      simp only [Int.toNat_natCast, List.length_take, List.length_drop]
      rw [h1]
      omega
    · simp [litsGo]
      omega
theorem again_back {bs : List UInt8} {win lo hi : Nat} {l : List Sq} {a : Nat} (hb : bs.length ≤ maxC) (h : Right bs win lo hi l a) : back (bs.take a ++ litsGo bs l a) a l = .ok bs := by
  have hle := h.le
  have hl : (bs.take a).length = a := by rw [List.length_take]; omega
  unfold back
  rw [if_neg (by rw [List.length_append, hl]; omega)]
  simp only [Int.toNat_natCast]
  rw [List.take_append_of_le_length (by omega), List.take_of_length_le (by omega), List.drop_append_of_le_length (by omega), List.drop_of_length_le (by omega), List.nil_append, right_back hb l a h]
theorem sqrow_one (w : World) (T : TypeId) (s : Sq) : SqRow (w.alloc (.cells #[.int .i64 s.lits, .int .i64 s.mat, .int .i64 s.back] T)) (w.heap.size + 1) (some ⟨w.heap.size, 0, none⟩) [s] := by
  intro _
  refine ⟨w.heap.size, 0, rfl, by omega, fun k hk => ?_⟩
  obtain rfl : k = 0 := by simpa using hk
  refine ⟨?_, ?_, ?_⟩ <;> rw [(Pts.new w _ _).cell] <;> rfl
end Go.Proofs.Ytjifnnghcaaonaa
