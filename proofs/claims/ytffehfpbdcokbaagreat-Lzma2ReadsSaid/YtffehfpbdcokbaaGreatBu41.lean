import Derived.Test.YtffehfpbdcokbaaGreatBu40
set_option linter.unusedVariables false
set_option linter.unusedSimpArgs false
namespace Go.Proofs.YtffehfpbdcokbaaGreat
open Lib (hid)
open Go.RowKit Fnd
def StepOk (bs:List UInt8) (win lo hi a:Nat) (s:Sq) (e:Nat):Prop :=
 ∃ L M K:Nat,s=⟨L,M,K⟩∧a+L+M=e∧e≤bs.length∧lo≤M∧M≤hi∧1≤K∧K≤win∧K≤a+L∧∀ k,k<M→bs.getD (a+L+k) 0=bs.getD (a+L+k-K) 0
def Pre (bs:List UInt8) (win lo hi:Nat):List Sq→Nat→Nat→Prop
 | [],a,e=>a=e
 | s::l,a,e=>∃ m,StepOk bs win lo hi a s m∧Pre bs win lo hi l m e
def Right (bs:List UInt8) (win lo hi:Nat):List Sq→Nat→Prop
 | [],a=>a=bs.length
 | s::l,a=>(∃ m,StepOk bs win lo hi a s m∧Right bs win lo hi l m)∨(l=[]∧∃ L:Nat,s=⟨L,0,0⟩∧0<L∧a+L=bs.length)
section
variable {bs : List UInt8} {win lo hi : Nat}
theorem Pre.snoc:∀ {l:List Sq} {a m e:Nat} {s:Sq},Pre bs win lo hi l a m→StepOk bs win lo hi m s e→Pre bs win lo hi (l++[s]) a e
 | [],a,m,e,s,h,hs=>by subst h;exact ⟨e,hs,rfl⟩
 | t::l,a,m,e,s,⟨m',h1,h2⟩,hs=>⟨m',h1,Pre.snoc h2 hs⟩
theorem Pre.right:∀ {l:List Sq} {a e:Nat},Pre bs win lo hi l a e→e=bs.length→Right bs win lo hi l a
 | [],a,e,h,he=>h.trans he
 | t::l,a,e,⟨m',h1,h2⟩,he=>.inl ⟨m',h1,Pre.right h2 he⟩
theorem Pre.tail:∀ {l:List Sq} {a e L:Nat},Pre bs win lo hi l a e→0<L→e+L=bs.length→Right bs win lo hi (l++[⟨L,0,0⟩]) a
 | [],a,e,L,h,hL,he=>by subst h;exact .inr ⟨rfl,L,rfl,hL,he⟩
 | t::l,a,e,L,⟨m',h1,h2⟩,hL,he=>.inl ⟨m',h1,Pre.tail h2 hL he⟩
end
structure CI (bs:List UInt8) (i:Nat) (f:Int→Option Int) (prev:List Int):Prop where
 f:∀ k p,f k=some p→0≤p∧p<i
 p:∀ j,j<bs.length → -1≤prev.getD j 0∧prev.getD j 0≤j
theorem CI.add {bs:List UInt8} {key i:Nat} {f:Int→Option Int} {prev:List Int} (h:CI bs i f prev) (hi:i<bs.length) (hl:prev.length=bs.length):CI bs (i+1) (addF bs key i f) (prev.set i (addP bs key i f)):=by
 refine ⟨fun k p hp=>?_,fun j hj=>?_⟩
 ·unfold addF at hp
  by_cases hk:i+key≤bs.length
  ·rw [if_pos hk] at hp
   by_cases hx:k=(keyAt bs key i:Int)
   ·simp only [if_pos hx,Option.some.injEq] at hp
    omega
   simp only [if_neg hx] at hp
   have:=h.f k p hp
   omega
  rw [if_neg hk] at hp
  have:=h.f k p hp
  omega
 by_cases hx:j=i
 ·subst hx
  have e:(prev.set j (addP bs key j f)).getD j 0=addP bs key j f:=by simp [List.getD,hl,hi]
  rw [e]
  unfold addP
  by_cases hk:j+key≤bs.length
  ·rw [if_pos hk]
   cases hf:f (keyAt bs key j) with
   | none=>simp
   | some p=>have:=h.f _ p hf;simp;omega
  rw [if_neg hk];omega
 have e:(prev.set i (addP bs key i f)).getD j 0=prev.getD j 0:=by
  simp only [List.getD]
  rw [List.getElem?_set_ne (fun e=>hx e.symm)]
 rw [e]
 exact h.p j hj
theorem CI.start (bs:List UInt8) (i:Nat):CI bs i (fun _=>none) (List.replicate bs.length 0) :=
 ⟨fun k p h=>absurd h (by simp),fun j hj=>by simp [List.getD,hj]⟩
def AllSame (bs:List UInt8) (at_:Nat):Prop:=∀ j,at_≤j→j<bs.length→bs.getD j 0=bs.getD at_ 0
def Near (bs:List UInt8) (key at_ i:Nat) (f:Int→Option Int):Prop:=at_<i→i+key≤bs.length→f (keyAt bs key i)=some ((i-1:Nat):Int)
theorem AllSame.key {bs:List UInt8} {at_ key i:Nat} (h:AllSame bs at_) (hi:at_≤i) (hk:i+1+key≤bs.length):keyAt bs key (i+1)=keyAt bs key i:=by
 unfold keyAt
 congr 1
 apply List.ext_getElem
 ·simp only [List.length_take,List.length_drop];omega
 intro j h1 h2
 simp only [List.getElem_take,List.getElem_drop]
 have a1:=h (i+1+j) (by omega) (by simp at h1;omega)
 have a2:=h (i+j) (by omega) (by simp at h1;omega)
 have b1:bs.getD (i+1+j) 0=bs[i+1+j]'(by simp at h1;omega):=by simp [List.getD,show i+1+j<bs.length by simp at h1;omega]
 have b2:bs.getD (i+j) 0=bs[i+j]'(by simp at h1;omega):=by simp [List.getD,show i+j<bs.length by simp at h1;omega]
 rw [← b1,← b2,a1,a2]
theorem Near.add {bs:List UInt8} {key at_ i:Nat} {f:Int→Option Int} (hs:AllSame bs at_) (hi:at_≤i):Near bs key at_ (i+1) (addF bs key i f):=by
 intro _ hk
 rw [hs.key hi hk]
 unfold addF
 rw [if_pos (by omega)]
 simp
theorem Near.whole {bs:List UInt8} {key at_ i win most:Nat} {f:Int→Option Int} (hs:AllSame bs at_) (h:Near bs key at_ i f) (hi:at_<i) (hk:i+key≤bs.length) (hw:1≤win):Whole bs key win (min most (bs.length-i)) i f :=
 ⟨hk,i-1,h hi hk,by omega,by omega,fun j hj=>by rw [hs (i-1+j) (by omega) (by omega),hs (i+j) (by omega) (by omega)]⟩
def Dead (n key least i:Nat):Prop:=n<i+key∨n-i<least
def Fewer (n at_ key least most i lits cnt:Nat):Prop :=
 (cnt=0∧lits≤1∧i=at_+lits)∨(0<cnt∧lits=0∧(cnt-1)*most+2≤i-at_)∨(Dead n key least i∧at_≤i∧(cnt=0∨(cnt-1)*most+2≤i-at_))∨(i=n∧lits=0∧0<cnt∧(cnt-2)*most+2≤i-at_)
section
variable {bs : List UInt8} {win key least most at_ i lits cnt size back : Nat} {f : Int → Option Int}
theorem size_whole (hs:AllSame bs at_) (hn:Near bs key at_ i f) (hi:at_<i) (hw:1≤win) (hL:Longest bs key win least most i f size back) (hlm:least≤most) (hd:¬ Dead bs.length key least i):size=min most (bs.length-i) :=
 hL.whole (hn.whole hs hi (by unfold Dead at hd;omega) hw) (by unfold Dead at hd;omega)
theorem Fewer.zero (hF:Fewer bs.length at_ key least most i lits cnt) (hs:AllSame bs at_) (hn:Near bs key at_ i f) (hw:1≤win) (hL:Longest bs key win least most i f 0 back) (hl2:2≤least) (hlm:least≤most) (hi:i<bs.length) :
 Fewer bs.length at_ key least most (i+1) (lits+1) cnt:=by
 have hdead:at_<i→Dead bs.length key least i:=fun h=>by
  refine Classical.byContradiction fun hd=>?_
  have:=size_whole hs hn h hw hL hlm hd
  unfold Dead at hd
  omega
 have hmono:Dead bs.length key least i→Dead bs.length key least (i+1):=by unfold Dead;omega
 rcases hF with ⟨rfl,h1,h2⟩ | ⟨h0,rfl,h2⟩ | ⟨h0,h1,h2⟩ | ⟨h0,_⟩
 ·by_cases hl:lits=0
  ·exact .inl ⟨rfl,by omega,by omega⟩
  exact .inr (.inr (.inl ⟨hmono (hdead (by omega)),by omega,.inl rfl⟩))
 ·exact .inr (.inr (.inl ⟨hmono (hdead (by omega)),by omega,.inr (by omega)⟩))
 ·exact .inr (.inr (.inl ⟨hmono h0,by omega,by rcases h2 with h2 | h2;exact .inl h2;exact .inr (by omega)⟩))
 omega
theorem Fewer.better {b2 s2:Nat} {f2:Int→Option Int} (hF:Fewer bs.length at_ key least most i lits cnt) (hs:AllSame bs at_) (hn:Near bs key at_ i f) (hw:1≤win) (hL:Longest bs key win least most i f size back)
 (hL2:Longest bs key win least most (i+1) f2 s2 b2) (hb:size+1<s2) (h0:size≠0) (hkl:key≤least) (hlm:least≤most):Fewer bs.length at_ key least most (i+1) (lits+1) cnt:=by
 have l1:=hL.lim
 have l2:s2≤most∧s2≤bs.length-(i+1):=⟨Nat.le_trans hL2.lim (Nat.min_le_left _ _),Nat.le_trans hL2.lim (Nat.min_le_right _ _)⟩
 have l3:=hL.lo
 have hnd:¬ Dead bs.length key least i:=by unfold Dead;omega
 have hno:at_<i→False:=fun h=>by
  have h9:size=min most (bs.length-i):=size_whole hs hn h hw hL hlm hnd
  rcases Nat.le_total most (bs.length-i) with h8 | h8
  ·rw [Nat.min_eq_left h8] at h9;omega
  rw [Nat.min_eq_right h8] at h9;omega
 rcases hF with ⟨rfl,h1,h2⟩ | ⟨h0,rfl,h2⟩ | ⟨h0,h1,h2⟩ | ⟨h0,_⟩
 ·by_cases hl:lits=0
  ·exact .inl ⟨rfl,by omega,by omega⟩
  exact (hno (by omega)).elim
 ·exact (hno (by omega)).elim
 ·exact (hnd h0).elim
 omega
theorem Fewer.hit (hF:Fewer bs.length at_ key least most i lits cnt) (hs:AllSame bs at_) (hn:Near bs key at_ i f) (hw:1≤win) (hL:Longest bs key win least most i f size back) (h0:size≠0) (hl2:2≤least) (hkl:key≤least) (hlm:least≤most) (hi:i<bs.length) :
 Fewer bs.length at_ key least most (i+size) 0 (cnt+1):=by
 have l1:=hL.lim
 have l3:=hL.lo
 have hnd:¬ Dead bs.length key least i:=by unfold Dead;omega
 rcases hF with ⟨rfl,h1,h2⟩ | ⟨h0,rfl,h2⟩ | ⟨h0,h1,h2⟩ | ⟨h0,_⟩
 ·exact .inr (.inl ⟨by omega,rfl,by simp;omega⟩)
 ·have hw2:=size_whole hs hn (by omega) hw hL hlm hnd
  have e:(cnt+1-1)*most=(cnt-1)*most+most:=by
   obtain ⟨c,rfl⟩:∃ c,cnt=c+1:=⟨cnt-1,by omega⟩
   simp [Nat.succ_mul]
  by_cases hm:size=most
  ·exact .inr (.inl ⟨by omega,rfl,by rw [e];omega⟩)
  exact .inr (.inr (.inr ⟨by omega,rfl,by omega,by rw [show cnt+1-2=cnt-1 by omega];omega⟩))
 ·exact (hnd h0).elim
 omega
theorem Fewer.total {tot n:Nat} (hF:Fewer n at_ key least most n lits cnt) (hm:0<most) (ht:tot=if 0<lits then cnt+1 else cnt):tot≤2+(n-at_) / most:=by
 have hd:∀ c:Nat,c*most+2≤n-at_→c≤(n-at_) / most:=fun c h=>(Nat.le_div_iff_mul_le hm).2 (by omega)
 have ht2:tot≤cnt+1∧(lits=0→tot=cnt):=by
  rw [ht];split <;> omega
 clear ht
 generalize (n-at_) / most=q at *
 rcases hF with ⟨rfl,h1,h2⟩ | ⟨h0,rfl,h2⟩ | ⟨h0,h1,h2⟩ | ⟨h0,h1,h2,h3⟩
 ·omega
 ·have:=hd _ h2;omega
 ·rcases h2 with h2 | h2
  ·omega
  have:=hd _ h2;omega
 have:=hd _ h3;omega
end
end Go.Proofs.YtffehfpbdcokbaaGreat
