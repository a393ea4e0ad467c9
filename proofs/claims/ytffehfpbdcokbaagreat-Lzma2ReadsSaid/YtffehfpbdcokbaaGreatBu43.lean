import Derived.Test.YtffehfpbdcokbaaGreatChecked
import Derived.Lib.SlBytesConst
import Derived.Test.YtffehfpbdcokbaaGreatBu39
import Derived.Test.YtffehfpbdcokbaaGreatBu41
import Derived.Test.YtffehfpbdcokbaaGreatBu42
set_option linter.unusedVariables false
set_option linter.unusedSimpArgs false
namespace Go.Proofs.YtffehfpbdcokbaaGreat
open Lib (hid)
open Go.RowKit Rng Win Lz Fnd
theorem right_go {bs:List UInt8} {win:Nat}:∀ (l:List Sq) (a:Nat),a≤bs.length→Right bs win 2 273 l a→rightGo bs l a=some bs.length
 | [],a,_,h=>by
  have h:a=bs.length:=h
  unfold rightGo
  rw [h]
 | s::l,a,ha,h=>by
  unfold rightGo
  rcases h with ⟨m,⟨L,M,K,rfl,h1,h2,h3,h4,h5,h6,h7,h8⟩,hr⟩ | ⟨rfl,L,rfl,h1,h2⟩
  ·rw [if_neg (by unfold RB1;simp only;omega),if_neg (by simp only;omega),if_neg (by unfold RB2;simp only;omega)]
   simp only [Int.toNat_natCast]
   rw [if_pos (show Same bs (a+L) M K from h8),h1]
   exact right_go l m h2 hr
  rw [if_neg (by unfold RB1;simp only;omega),if_pos rfl]
  simp only [Int.toNat_natCast]
  rw [h2]
  rfl
theorem right_fits {bs:List UInt8} {win:Nat} (hb:bs.length≤16777216) (hw:win≤16777216):∀ (l:List Sq) (a:Nat),Right bs win 2 273 l a→∀ s∈l,s.fits
 | [],_,_,s,hs=>by cases hs
 | t::l,a,h,s,hs=>by
  rcases h with ⟨m,⟨L,M,K,rfl,h1,h2,h3,h4,h5,h6,h7,h8⟩,hr⟩ | ⟨rfl,L,rfl,h1,h2⟩
  ·rcases List.mem_cons.1 hs with rfl | hs
   ·unfold Sq.fits;simp only;omega
   exact right_fits hb hw l m hr s hs
  rcases List.mem_cons.1 hs with rfl | hs
  ·unfold Sq.fits;simp only;omega
  cases hs
theorem okOps_cost {bs:List UInt8}:∀ (l:List (Option (Nat×Nat))) (a:Nat),OkOps bs a l→costOps l+50*a≤50*bs.length
 | [],a,h=>by
  have h:a=bs.length:=h
  show 0+50*a≤_
  omega
 | none::l,a,h=>by
  have h1:=okOps_cost l (a+1) h.2
  show 9+costOps l+50*a≤_
  omega
 | some m::l,a,h=>by
  obtain ⟨a1,a2,a3,a4,a5,a6⟩:=h
  have h1:=okOps_cost l (a+m.1) a6
  show 100+costOps l+50*a≤_
  omega
section
variable {P : Program} (w : World)
end
open Go.RowKit Fnd
open Go.RowKit Fnd
open Go.RowKit Fnd
set_option maxRecDepth 100000 in
set_option maxHeartbeats 1000000 in
theorem parse_any (A:Option Addr) (bs:List UInt8) (n c:Nat) (fr level window least most:Int) (at_ lv win lo hi:Nat) (w:World) (hn:n=bs.length) (hc:bs.length≤c) (hcm:c≤maxLen) (hr:BRow w w.heap.size A bs) (hlen:bs.length≤1048576)
 (h1:min (max fr 0) bs.length=at_) (h2:min (max level 0) 3=lv) (h3:min (max window 1) 16777216=win) (h4:min (max least 2) 65536=lo) (h5:max (lo:Int) (min most 65536)=hi) :
 Calls Tryz.prog 31 #[.slice A n c,.int .i64 fr,.int .i64 level,.int .i64 window,.int .i64 least,.int .i64 most] w fun e w' =>
  ∃ v l,e=.returned v∧OwnSq w' 138 w.heap.size v l∧Right bs win lo hi l at_∧(at_=bs.length→l=[])∧(lv=0→∀ s∈l,s.mat=0)∧(1≤lv→AllSame bs at_→l.length≤2+(bs.length-at_) / hi)∧l.length≤2097153∧Below w.heap.size w w':=by
 by_cases hat:at_<bs.length
 ·by_cases hlv:1≤lv
  ·refine (parse_main A bs n c fr level window least most at_ lv win lo hi w hn hc hcm hr hlen h1 h2 h3 h4 h5 hat hlv).mono ?_
   rintro e w' ⟨v,l,rfl,h6,h7,h8,h9,h10⟩
   exact ⟨v,l,rfl,h6,h7,fun h=>by omega,fun h=>by omega,fun _=>h8,h9,h10⟩
  have hlv0:lv=0:=by omega
  subst hlv0;subst hn
  obtain ⟨X,hX⟩:∃ X,max fr 0=X:=⟨_,rfl⟩
  obtain ⟨Y,hY⟩:∃ X,max level 0=X:=⟨_,rfl⟩
  rw [hX] at h1;rw [hY] at h2
  have f1:=fun w=>max2_int (P:=Tryz.prog) #[3,3] 3 _ _ _ hX w
  have f2:=fun w=>max2_int (P:=Tryz.prog) #[3,3] 3 _ _ _ hY w
  have f6:=fun w=>min2_int (P:=Tryz.prog) #[3,3] 3 _ _ _ h1 w
  have f7:=fun w=>min2_int (P:=Tryz.prog) #[3,3] 3 _ _ _ (show min Y 3=0 from h2) w
  have ne1:((at_:Int)==(bs.length:Int))=false:=beq_eq_false_iff_ne.2 (by omega)
  have hcast:((bs.length-at_:Nat):Int)=(bs.length:Int)-at_:=by omega
  have HC:=hid hcast
  clear hX hY h1 h2 h3 h4 h5 hr hcast
  go_enter Tryz.func31,Tryz.ntmps31
  go_wp2
  go_ret
  have ho:=OwnSq.one w 138 w.heap.size (Nat.le_refl _) ⟨((bs.length-at_:Nat):Int),0,0⟩
  simp only [HC.out] at ho
  exact ⟨_,[⟨(bs.length:Int)-at_,0,0⟩],rfl,ho,.inr ⟨rfl,bs.length-at_,by rw [HC.out],by omega,by omega⟩,fun h=>by omega,fun _ s hs=>by simp at hs;rw [hs],fun h=>by omega,by simp,(Below.refl _ _).alloc (Nat.le_refl _) _⟩
 have hat2:at_=bs.length:=by omega
 subst hn
 obtain ⟨X,hX⟩:∃ X,max fr 0=X:=⟨_,rfl⟩
 obtain ⟨Y,hY⟩:∃ X,max level 0=X:=⟨_,rfl⟩
 rw [hX] at h1;rw [hY] at h2
 have f1:=fun w=>max2_int (P:=Tryz.prog) #[3,3] 3 _ _ _ hX w
 have f2:=fun w=>max2_int (P:=Tryz.prog) #[3,3] 3 _ _ _ hY w
 have f6:=fun w=>min2_int (P:=Tryz.prog) #[3,3] 3 _ _ _ h1 w
 have f7:=fun w=>min2_int (P:=Tryz.prog) #[3,3] 3 _ _ _ h2 w
 have ne1:((at_:Int)==(bs.length:Int))=true:=beq_iff_eq.2 (by omega)
 clear hX hY h1 h2 h3 h4 h5 hr
 have HA:=hid hat2
 clear hat2 hat
 go_enter Tryz.func31,Tryz.ntmps31
 go_wp2
 go_ret
 exact ⟨_,[],rfl,OwnSq.nil _ _ _,HA.out,fun _=>rfl,fun _ s hs=>absurd hs (by simp),fun _ _=>by simp,by simp,Below.refl _ _⟩
end Go.Proofs.YtffehfpbdcokbaaGreat
