import Derived.Deep.DeepCutAuto
import Derived.Deep.CutRange
import Derived.Test.YtablgjhnpphodaaGreatOpen
import Derived.Test.YtablgjhnpphodaaGreatBu1
import Derived.Test.YtablgjhnpphodaaGreatBu2
import Derived.Test.YtablgjhnpphodaaGreatBu3
set_option linter.unusedVariables false
set_option linter.unusedSimpArgs false
namespace Go.Proofs.YtablgjhnpphodaaGreat.Lz
open Go.RowKit Rng Win
structure Stays {τ:Type} (co:Cod τ) (β:τ→Prop):Prop where
 bit:∀ t p x,β t→β (co.bit t (fair p) x).2
 dir:∀ t x n,β t→β (co.dir t x n).2
section
variable {τ : Type} {co : Cod τ} {β : τ → Prop}
theorem stays_bitAt (K:Stays co β) (i x:Nat) {t:CP τ} (h:β t.d):β (bitAt co i x t).2.d:=K.bit _ _ _ h
theorem stays_treeGo (K:Stays co β) (base x:Nat):∀ (n m:Nat) {t:CP τ},β t.d→β (treeGo co base x n m t).2.d
 | 0,_,_,h=>h
 | n+1,m,t,h=>stays_treeGo K base x n _ (stays_bitAt K _ _ h)
theorem stays_treeAt (K:Stays co β) (base n x:Nat) {t:CP τ} (h:β t.d):β (treeAt co base n x t).2.d:=stays_treeGo K _ _ _ _ h
theorem stays_backGo (K:Stays co β) (base x n:Nat):∀ (k m o:Nat) {t:CP τ},β t.d→β (backGo co base x n k m o t).2.d
 | 0,_,_,_,h=>h
 | k+1,m,o,t,h=>stays_backGo K base x n k _ _ (stays_bitAt K _ _ h)
theorem stays_backAt (K:Stays co β) (base n x:Nat) {t:CP τ} (h:β t.d):β (backAt co base n x t).2.d:=stays_backGo K _ _ _ _ _ _ h
set_option maxRecDepth 100000 in
theorem stays_lenAt (K:Stays co β) (base n p:Nat) {t:CP τ} (h:β t.d):β (lenAt co base n p t).2.d:=by
 unfold Lz.lenAt
 simp only
 split
 ·exact stays_treeAt K (base+2+p*8) 3 (n-2) (stays_bitAt K _ _ h)
 split
 ·exact stays_treeAt K (base+130+p*8) 3 (n-10) (stays_bitAt K _ _ (stays_bitAt K _ _ h))
 exact stays_treeAt K (base+258) 8 (n-18) (stays_bitAt K _ _ (stays_bitAt K _ _ h))
theorem stays_distAt (K:Stays co β) (d size:Nat) {t:CP τ} (h:β t.d):β (distAt co d size t).2.d:=by
 unfold Lz.distAt
 simp only
 have h1:=stays_treeAt K (440+(min size 5-2)*64) 6 (slotOf d) h
 split
 ·exact h1
 split
 ·exact stays_backAt K _ _ _ h1
 refine stays_backAt K _ _ _ ?_
 exact K.dir _ _ _ h1
theorem stays_farGo (K:Stays co β) (base x far:Nat):∀ (n m:Nat) {t:CP τ},β t.d→β (farGo co base x far n m t).2.d
 | 0,_,_,h=>h
 | n+1,m,t,h=>by
  unfold Lz.farGo
  simp only
  split
  ·exact stays_farGo K base x far n _ (stays_bitAt K _ _ h)
  exact stays_treeGo K _ _ _ _ (stays_bitAt K _ _ h)
theorem stays_litAt (K:Stays co β) (lc lp st total ahead far x:Nat) {t:CP τ} (h:β t.d):β (litAt co lc lp st total ahead far x t).2.d:=by
 unfold Lz.litAt
 simp only
 split
 ·exact stays_farGo K _ _ _ _ _ h
 exact stays_treeGo K _ _ _ _ h
end
def Pair {σ τ:Type} (ρ:σ→τ→Prop) (s:CP σ) (t:CP τ):Prop:=ρ s.d t.d∧s.pr=t.pr
section
variable {σ τ : Type} {co : Cod σ} {co' : Cod τ} {ρ : σ → τ → Prop} {β : τ → Prop}
end
end Go.Proofs.YtablgjhnpphodaaGreat.Lz
namespace Go.Proofs.YtablgjhnpphodaaGreat.Lz
open Go.RowKit Rng Win
structure Backs {σ τ:Type} (co:Cod σ) (co':Cod τ) (ρ:σ→τ→Prop) (I γ:σ→Prop):Prop where
 inv:Stays co I
 back:∀ s p x,I s→γ (co.bit s (fair p) x).2→γ s
 backD:∀ s x n,I s→γ (co.dir s x n).2→γ s
 two:∀ s t p x y,I s→ρ s t→γ (co.bit s (fair p) x).2→(co.bit s (fair p) x).1=(co'.bit t (fair p) y).1∧ρ (co.bit s (fair p) x).2 (co'.bit t (fair p) y).2
 twoD:∀ s t x y n,n≤32→I s→ρ s t→γ (co.dir s x n).2→(co.dir s x n).1=(co'.dir t y n).1∧ρ (co.dir s x n).2 (co'.dir t y n).2
def BackR {σ τ α:Type} (ρ:σ→τ→Prop) (a:α×CP σ) (b:α×CP τ):Prop:=a.1=b.1∧Pair ρ a.2 b.2
section
variable {σ τ : Type} {co : Cod σ} {co' : Cod τ} {ρ : σ → τ → Prop} {I γ : σ → Prop}
def Since (I γ:σ→Prop) (s e:σ):Prop:=I e∧(γ e→γ s)
theorem since_stays (K:Backs co co' ρ I γ) (s:σ):Stays co (Since I γ s) :=
 ⟨fun t p x h=>⟨K.inv.bit t p x h.1,fun hg=>h.2 (K.back t p x h.1 hg)⟩,fun t x n h=>⟨K.inv.dir t x n h.1,fun hg=>h.2 (K.backD t x n h.1 hg)⟩⟩
theorem Since.refl {s:σ} (h:I s):Since I γ s s:=⟨h,fun hg=>hg⟩
theorem back_bitAt (K:Backs co co' ρ I γ) (i x y:Nat) {s:CP σ} {t:CP τ} (hi:I s.d) (h:Pair ρ s t) (hg:γ (bitAt co i x s).2.d):BackR ρ (bitAt co i x s) (bitAt co' i y t):=by
 unfold BackR Pair Lz.bitAt
 simp only
 rw [← h.2]
 obtain ⟨h1,h2⟩:=K.two s.d t.d (s.pr i) x y hi h.1 hg
 exact ⟨by rw [h1],h2,by rw [h1]⟩
theorem back_treeGo (K:Backs co co' ρ I γ) (base x y:Nat):∀ (n m:Nat) {s:CP σ} {t:CP τ},I s.d→Pair ρ s t→γ (treeGo co base x n m s).2.d→BackR ρ (treeGo co base x n m s) (treeGo co' base y n m t)
 | 0,m,s,t,hi,h,hg=>⟨rfl,h⟩
 | n+1,m,s,t,hi,h,hg=>by
  unfold Lz.treeGo at hg ⊢
  have hi1:=stays_bitAt K.inv (base+m) (x / 2 ^ n % 2) hi
  have hg1:=(stays_treeGo (since_stays K (bitAt co (base+m) (x / 2 ^ n % 2) s).2.d) base x n (2*m+(bitAt co (base+m) (x / 2 ^ n % 2) s).1) (Since.refl hi1)).2 hg
  obtain ⟨h1,h2⟩:=back_bitAt K (base+m) (x / 2 ^ n % 2) (y / 2 ^ n % 2) hi h hg1
  rw [← h1]
  exact back_treeGo K base x y n _ hi1 h2 hg
theorem back_treeAt (K:Backs co co' ρ I γ) (base n x y:Nat) {s:CP σ} {t:CP τ} (hi:I s.d) (h:Pair ρ s t) (hg:γ (treeAt co base n x s).2.d):BackR ρ (treeAt co base n x s) (treeAt co' base n y t):=by
 obtain ⟨h1,h2⟩:=back_treeGo K base x y n 1 hi h hg
 exact ⟨by unfold Lz.treeAt;simp only;rw [h1],h2⟩
theorem back_backGo (K:Backs co co' ρ I γ) (base x y n:Nat):∀ (k m o:Nat) {s:CP σ} {t:CP τ},I s.d→Pair ρ s t→γ (backGo co base x n k m o s).2.d→BackR ρ (backGo co base x n k m o s) (backGo co' base y n k m o t)
 | 0,m,o,s,t,hi,h,hg=>⟨rfl,h⟩
 | k+1,m,o,s,t,hi,h,hg=>by
  unfold Lz.backGo at hg ⊢
  have hi1:=stays_bitAt K.inv (base+m) (x / 2 ^ (n-(k+1)) % 2) hi
  have hg1:=(stays_backGo (since_stays K (bitAt co (base+m) (x / 2 ^ (n-(k+1)) % 2) s).2.d) base x n k (2*m+(bitAt co (base+m) (x / 2 ^ (n-(k+1)) % 2) s).1) (o+(bitAt co (base+m) (x / 2 ^ (n-(k+1)) % 2) s).1*2 ^ (n-(k+1))) (Since.refl hi1)).2 hg
  obtain ⟨h1,h2⟩:=back_bitAt K (base+m) (x / 2 ^ (n-(k+1)) % 2) (y / 2 ^ (n-(k+1)) % 2) hi h hg1
  rw [← h1]
  exact back_backGo K base x y n k _ _ hi1 h2 hg
theorem back_backAt (K:Backs co co' ρ I γ) (base n x y:Nat) {s:CP σ} {t:CP τ} (hi:I s.d) (h:Pair ρ s t) (hg:γ (backAt co base n x s).2.d):BackR ρ (backAt co base n x s) (backAt co' base n y t):=back_backGo K base x y n n 1 0 hi h hg
set_option maxRecDepth 100000 in
theorem back_lenAt (K:Backs co co' ρ I γ) (base n m p:Nat) {s:CP σ} {t:CP τ} (hi:I s.d) (h:Pair ρ s t) (hg:γ (lenAt co base n p s).2.d):BackR ρ (lenAt co base n p s) (lenAt co' base m p t):=by
 have hi1:=stays_bitAt K.inv base (b2n (decide (10≤n))) hi
 have hi2:=stays_bitAt K.inv (base+1) (b2n (decide (18≤n))) hi1
 have S1:=since_stays K (bitAt co base (b2n (decide (10≤n))) s).2.d
 have hg1:γ (bitAt co base (b2n (decide (10≤n))) s).2.d:=by
  have:Since I γ (bitAt co base (b2n (decide (10≤n))) s).2.d (lenAt co base n p s).2.d:=by
   unfold Lz.lenAt
   simp only
   split
   ·exact stays_treeAt S1 (base+2+p*8) 3 (n-2) (Since.refl hi1)
   split
   ·exact stays_treeAt S1 (base+130+p*8) 3 (n-10) (stays_bitAt S1 _ _ (Since.refl hi1))
   exact stays_treeAt S1 (base+258) 8 (n-18) (stays_bitAt S1 _ _ (Since.refl hi1))
  exact this.2 hg
 obtain ⟨h1,h2⟩:=back_bitAt K base (b2n (decide (10≤n))) (b2n (decide (10≤m))) hi h hg1
 unfold Lz.lenAt at hg ⊢
 simp only at hg ⊢
 rw [← h1]
 by_cases ha:(bitAt co base (b2n (decide (10≤n))) s).1=0
 ·rw [if_pos ha] at hg ⊢
  rw [if_pos ha]
  obtain ⟨k1,k2⟩:=back_treeAt K (base+2+p*8) 3 (n-2) (m-2) hi1 h2 hg
  exact ⟨by simp only;rw [k1],k2⟩
 rw [if_neg ha] at hg ⊢
 rw [if_neg ha]
 have S2:=since_stays K (bitAt co (base+1) (b2n (decide (18≤n))) (bitAt co base (b2n (decide (10≤n))) s).2).2.d
 have hg2:γ (bitAt co (base+1) (b2n (decide (18≤n))) (bitAt co base (b2n (decide (10≤n))) s).2).2.d:=by
  by_cases hc:(bitAt co (base+1) (b2n (decide (18≤n))) (bitAt co base (b2n (decide (10≤n))) s).2).1=0
  ·rw [if_pos hc] at hg
   exact (stays_treeAt S2 (base+130+p*8) 3 (n-10) (Since.refl hi2)).2 hg
  rw [if_neg hc] at hg
  exact (stays_treeAt S2 (base+258) 8 (n-18) (Since.refl hi2)).2 hg
 obtain ⟨g1,g2⟩:=back_bitAt K (base+1) (b2n (decide (18≤n))) (b2n (decide (18≤m))) hi1 h2 hg2
 rw [← g1]
 by_cases hc:(bitAt co (base+1) (b2n (decide (18≤n))) (bitAt co base (b2n (decide (10≤n))) s).2).1=0
 ·rw [if_pos hc] at hg ⊢
  rw [if_pos hc]
  obtain ⟨k1,k2⟩:=back_treeAt K (base+130+p*8) 3 (n-10) (m-10) hi2 g2 hg
  exact ⟨by simp only;rw [k1],k2⟩
 rw [if_neg hc] at hg ⊢
 rw [if_neg hc]
 obtain ⟨k1,k2⟩:=back_treeAt K (base+258) 8 (n-18) (m-18) hi2 g2 hg
 exact ⟨by simp only;rw [k1],k2⟩
theorem back_distAt (K:Backs co co' ρ I γ) (d e size:Nat) {s:CP σ} {t:CP τ} (hi:I s.d) (h:Pair ρ s t) (hsl:(treeAt co (440+(min size 5-2)*64) 6 (slotOf d) s).1<64) (hg:γ (distAt co d size s).2.d):BackR ρ (distAt co d size s) (distAt co' e size t):=by
 have hi1:=stays_treeAt K.inv (440+(min size 5-2)*64) 6 (slotOf d) hi
 have S1:=since_stays K (treeAt co (440+(min size 5-2)*64) 6 (slotOf d) s).2.d
 have hg1:γ (treeAt co (440+(min size 5-2)*64) 6 (slotOf d) s).2.d:=by
  have:Since I γ (treeAt co (440+(min size 5-2)*64) 6 (slotOf d) s).2.d (distAt co d size s).2.d:=by
   unfold Lz.distAt
   simp only
   split
   ·exact Since.refl hi1
   split
   ·exact stays_backAt S1 _ _ _ (Since.refl hi1)
   exact stays_backAt S1 _ _ _ (S1.dir _ _ _ (Since.refl hi1))
  exact this.2 hg
 obtain ⟨h1,h2⟩:=back_treeAt K (440+(min size 5-2)*64) 6 (slotOf d) (slotOf e) hi h hg1
 unfold Lz.distAt at hg ⊢
 simp only at hg ⊢
 rw [← h1]
 generalize Lz.treeAt co' (440+(min size 5-2)*64) 6 (slotOf e) t=T' at *
 generalize Lz.treeAt co (440+(min size 5-2)*64) 6 (slotOf d) s=T at *
 by_cases h4:T.1<4
 ·rw [if_pos h4]
  rw [if_pos h4]
  exact ⟨rfl,h2⟩
 rw [if_neg h4] at hg ⊢
 rw [if_neg h4]
 by_cases h14:T.1<14
 ·rw [if_pos h14] at hg ⊢
  rw [if_pos h14]
  obtain ⟨k1,k2⟩:=back_backAt K (696+(2+T.1 % 2)*2 ^ (T.1 / 2-1)-T.1) (T.1 / 2-1) (d-(2+T.1 % 2)*2 ^ (T.1 / 2-1)) (e-(2+T.1 % 2)*2 ^ (T.1 / 2-1)) hi1 h2 hg
  exact ⟨by simp only;rw [k1],k2⟩
 rw [if_neg h14] at hg ⊢
 rw [if_neg h14]
 have hi2:=K.inv.dir T.2.d ((d-(2+T.1 % 2)*2 ^ (T.1 / 2-1)) / 16) (T.1 / 2-1-4) hi1
 have hg2:=(stays_backAt (since_stays K (co.dir T.2.d ((d-(2+T.1 % 2)*2 ^ (T.1 / 2-1)) / 16) (T.1 / 2-1-4)).2) 824 4 (d % 16) (t:=⟨(co.dir T.2.d ((d-(2+T.1 % 2)*2 ^ (T.1 / 2-1)) / 16) (T.1 / 2-1-4)).2,T.2.pr⟩) (Since.refl hi2)).2 hg
 obtain ⟨g1,g2⟩:=K.twoD T.2.d T'.2.d ((d-(2+T.1 % 2)*2 ^ (T.1 / 2-1)) / 16) ((e-(2+T.1 % 2)*2 ^ (T.1 / 2-1)) / 16) (T.1 / 2-1-4) (by omega) hi1 h2.1 hg2
 rw [← g1]
 obtain ⟨k1,k2⟩:=back_backAt K 824 4 (d % 16) (e % 16) (s:=⟨(co.dir T.2.d ((d-(2+T.1 % 2)*2 ^ (T.1 / 2-1)) / 16) (T.1 / 2-1-4)).2,T.2.pr⟩) (t:=⟨(co'.dir T'.2.d ((e-(2+T.1 % 2)*2 ^ (T.1 / 2-1)) / 16) (T.1 / 2-1-4)).2,T'.2.pr⟩) hi2 ⟨g2,h2.2⟩ hg
 exact ⟨by simp only;rw [k1],k2⟩
theorem back_farGo (K:Backs co co' ρ I γ) (base x y far:Nat):∀ (n m:Nat) {s:CP σ} {t:CP τ},I s.d→Pair ρ s t→γ (farGo co base x far n m s).2.d→BackR ρ (farGo co base x far n m s) (farGo co' base y far n m t)
 | 0,m,s,t,hi,h,hg=>⟨rfl,h⟩
 | n+1,m,s,t,hi,h,hg=>by
  have hi1:=stays_bitAt K.inv (base+(1+far / 2 ^ n % 2)*256+m) (x / 2 ^ n % 2) hi
  have S1:=since_stays K (bitAt co (base+(1+far / 2 ^ n % 2)*256+m) (x / 2 ^ n % 2) s).2.d
  unfold Lz.farGo at hg ⊢
  simp only at hg ⊢
  have hg1:γ (bitAt co (base+(1+far / 2 ^ n % 2)*256+m) (x / 2 ^ n % 2) s).2.d:=by
   split at hg
   ·exact (stays_farGo S1 _ _ _ _ _ (Since.refl hi1)).2 hg
   exact (stays_treeGo S1 _ _ _ _ (Since.refl hi1)).2 hg
  obtain ⟨h1,h2⟩:=back_bitAt K (base+(1+far / 2 ^ n % 2)*256+m) (x / 2 ^ n % 2) (y / 2 ^ n % 2) hi h hg1
  rw [← h1]
  by_cases hw:(bitAt co (base+(1+far / 2 ^ n % 2)*256+m) (x / 2 ^ n % 2) s).1=far / 2 ^ n % 2
  ·rw [if_pos hw] at hg ⊢
   rw [if_pos hw]
   exact back_farGo K base x y far n _ hi1 h2 hg
  rw [if_neg hw] at hg ⊢
  rw [if_neg hw]
  exact back_treeGo K _ _ _ _ _ hi1 h2 hg
theorem back_litAt (K:Backs co co' ρ I γ) (lc lp st total ahead far x y:Nat) {s:CP σ} {t:CP τ} (hi:I s.d) (h:Pair ρ s t) (hg:γ (litAt co lc lp st total ahead far x s).2.d):BackR ρ (litAt co lc lp st total ahead far x s) (litAt co' lc lp st total ahead far y t):=by
 unfold Lz.litAt at hg ⊢
 simp only at hg ⊢
 by_cases h7:7≤st
 ·rw [if_pos h7] at hg ⊢
  rw [if_pos h7]
  obtain ⟨h1,h2⟩:=back_farGo K _ x y far 8 1 hi h hg
  exact ⟨by simp only;rw [h1],h2⟩
 rw [if_neg h7] at hg ⊢
 rw [if_neg h7]
 obtain ⟨h1,h2⟩:=back_treeGo K _ x y 8 1 hi h hg
 exact ⟨by simp only;rw [h1],h2⟩
end
end Go.Proofs.YtablgjhnpphodaaGreat.Lz
namespace Go.Proofs.YtablgjhnpphodaaGreat.Rng
open Go.RowKit
structure Enc where
 low:Nat
 size:Nat
 first:UInt8
 more:Nat
 out:List UInt8
 closed:Bool
def Enc.carry (e:Enc):UInt8:=UInt8.ofNat (e.low / 4294967296)
def Enc.shift (e:Enc):Enc :=
 if 4278190080≤e.low∧e.low<4294967296 then ⟨e.low*256 % 4294967296,e.size,e.first,e.more+1,e.out,e.closed⟩
 else ⟨e.low*256 % 4294967296,e.size,UInt8.ofNat (e.low / 16777216),0,e.out++(e.first+e.carry)::List.replicate e.more (255+e.carry),e.closed⟩
def Enc.order (e:Enc):Enc:=if e.size<16777216 then Enc.shift ⟨e.low,e.size*256,e.first,e.more,e.out,e.closed⟩ else e
def Enc.bit (e:Enc) (c:Nat) (one:Bool):Enc :=
 Enc.order (if one then ⟨e.low+e.size / 2048*c,e.size-e.size / 2048*c,e.first,e.more,e.out,e.closed⟩ else ⟨e.low,e.size / 2048*c,e.first,e.more,e.out,e.closed⟩)
def Enc.one (e:Enc) (one:Bool):Enc:=Enc.order ⟨if one then e.low+e.size / 2 else e.low,e.size / 2,e.first,e.more,e.out,e.closed⟩
def Enc.direct (x:Nat):Nat→Enc→Enc
 | 0,e=>e
 | n+1,e=>Enc.direct x n (e.one (x / 2 ^ n % 2==1))
def Enc.shifts:Nat→Enc→Enc
 | 0,e=>e
 | n+1,e=>Enc.shifts n e.shift
def newEnc:Enc:=⟨0,4294967295,0,0,[],false⟩
def Enc.close (e:Enc):Enc:=if e.closed then e else ⟨(e.shifts 5).low,(e.shifts 5).size,(e.shifts 5).first,(e.shifts 5).more,(e.shifts 5).out,true⟩
def Enc.cnt (e:Enc):Nat:=e.out.length+e.more
structure Enc.Ok (e:Enc):Prop where
 l:e.low≤8589934592
 s:e.size<4294967296
structure Enc.Run (e:Enc):Prop where
 l:e.low+e.size≤8589934592
 s:16777216≤e.size∧e.size<4294967296
theorem Enc.Run.ok {e:Enc} (h:e.Run):e.Ok:=by
 have h1:=h.l
 have h2:=h.s
 exact ⟨by omega,by omega⟩
theorem Enc.shift_cnt (e:Enc):e.shift.cnt=e.cnt+1:=by
 unfold Enc.shift Enc.cnt
 split
 ·simp only;omega
 simp only [List.length_append,List.length_cons,List.length_replicate];omega
theorem Enc.shift_size (e:Enc):e.shift.size=e.size:=by unfold Enc.shift;split <;> rfl
theorem Enc.shift_low (e:Enc):e.shift.low=e.low*256 % 4294967296:=by unfold Enc.shift;split <;> rfl
theorem Enc.shift_closed (e:Enc):e.shift.closed=e.closed:=by unfold Enc.shift;split <;> rfl
theorem Enc.Ok.shift {e:Enc} (h:e.Ok):e.shift.Ok:=by
 have h1:=h.l
 have h2:=h.s
 refine ⟨?_,by rw [Enc.shift_size];exact h2⟩
 rw [Enc.shift_low]
 omega
theorem Enc.order_stay {e:Enc} (h:16777216≤e.size):e.order=e:=if_neg (by omega)
theorem Enc.order_cnt (e:Enc):e.order.cnt≤e.cnt+1:=by
 unfold Enc.order
 split
 ·rw [Enc.shift_cnt];exact Nat.le_refl _
 omega
theorem Enc.order_closed (e:Enc):e.order.closed=e.closed:=by
 unfold Enc.order
 split
 ·rw [Enc.shift_closed]
 rfl
structure Enc.Pre (e:Enc):Prop where
 l:e.low+e.size≤8589934592
 s:65536≤e.size∧e.size<4294967296
theorem Enc.Pre.ok {e:Enc} (h:e.Pre):e.Ok:=by
 have h1:=h.l
 have h2:=h.s
 exact ⟨by omega,by omega⟩
theorem Enc.Pre.order {e:Enc} (h:e.Pre):e.order.Run:=by
 have h1:=h.l
 have h2:=h.s
 unfold Enc.order
 split
 ·refine ⟨?_,?_⟩
  ·rw [Enc.shift_size,Enc.shift_low];simp only;omega
  rw [Enc.shift_size];simp only;omega
 exact ⟨h1,by omega⟩
theorem newEnc_run:newEnc.Run:=⟨by show 0+4294967295≤8589934592;omega,by show 16777216≤4294967295∧4294967295<4294967296;omega⟩
theorem bound_bd {s c:Nat} (hs:16777216≤s) (h1:31≤c) (h2:c≤2017):65536≤s / 2048*c∧65536≤s-s / 2048*c∧s / 2048*c≤s:=by
 have hq:8192≤s / 2048:=by omega
 have hm:=Nat.div_mul_le_self s 2048
 generalize s / 2048=q at *
 have a1:8192*31≤q*c:=Nat.mul_le_mul hq h1
 have a2:q*c≤q*2017:=Nat.mul_le_mul_left _ h2
 omega
def Enc.cut (e:Enc) (c:Nat) (one:Bool):Enc :=
 if one then ⟨e.low+e.size / 2048*c,e.size-e.size / 2048*c,e.first,e.more,e.out,e.closed⟩ else ⟨e.low,e.size / 2048*c,e.first,e.more,e.out,e.closed⟩
theorem Enc.bit_cut (e:Enc) (c:Nat) (one:Bool):e.bit c one=(e.cut c one).order:=rfl
theorem Enc.Run.cut {e:Enc} (h:e.Run) {c:Nat} (h1:31≤c) (h2:c≤2017) (one:Bool):(e.cut c one).Pre:=by
 have a1:=h.l
 have a2:=h.s
 have hb:=bound_bd a2.1 h1 h2
 unfold Enc.cut
 split
 ·exact ⟨by simp only;omega,by simp only;omega⟩
 exact ⟨by simp only;omega,by simp only;omega⟩
theorem Enc.cut_cnt (e:Enc) (c:Nat) (one:Bool):(e.cut c one).cnt=e.cnt:=by unfold Enc.cut;split <;> rfl
theorem Enc.Run.bit {e:Enc} (h:e.Run) {c:Nat} (h1:31≤c) (h2:c≤2017) (one:Bool):(e.bit c one).Run:=(h.cut h1 h2 one).order
theorem Enc.bit_cnt (e:Enc) (c:Nat) (one:Bool):(e.bit c one).cnt≤e.cnt+1:=by
 rw [Enc.bit_cut]
 have:=Enc.order_cnt (e.cut c one)
 rw [Enc.cut_cnt] at this
 exact this
def Enc.half (e:Enc) (one:Bool):Enc:=⟨if one then e.low+e.size / 2 else e.low,e.size / 2,e.first,e.more,e.out,e.closed⟩
theorem Enc.one_half (e:Enc) (one:Bool):e.one one=(e.half one).order:=rfl
theorem Enc.Run.half {e:Enc} (h:e.Run) (one:Bool):(e.half one).Pre:=by
 have a1:=h.l
 have a2:=h.s
 unfold Enc.half
 refine ⟨?_,by simp only;omega⟩
 simp only
 split <;> omega
theorem Enc.Run.one {e:Enc} (h:e.Run) (one:Bool):(e.one one).Run:=(h.half one).order
theorem Enc.one_cnt (e:Enc) (one:Bool):(e.one one).cnt≤e.cnt+1:=Enc.order_cnt (e.half one)
theorem Enc.Run.direct {x:Nat}:∀ {n:Nat} {e:Enc},e.Run→(Enc.direct x n e).Run
 | 0,e,h=>h
 | n+1,e,h=>Enc.Run.direct (n:=n) (e:=e.one (x / 2 ^ n % 2==1)) (Enc.Run.one h _)
theorem Enc.direct_cnt {x:Nat}:∀ {n:Nat} {e:Enc},(Enc.direct x n e).cnt≤e.cnt+n
 | 0,e=>Nat.le_refl _
 | n+1,e=>by
  have h1:=Enc.direct_cnt (x:=x) (n:=n) (e:=e.one (x / 2 ^ n % 2==1))
  have h2:=Enc.one_cnt e (x / 2 ^ n % 2==1)
  rw [Enc.direct];omega
end Go.Proofs.YtablgjhnpphodaaGreat.Rng
namespace Go.Proofs.YtablgjhnpphodaaGreat
open Lib (hid)
open Go.RowKit Rng
structure EncAt (w:World) (T z b base:Nat) (v:Value) (e:Enc):Prop where
 p:Pts w b #[.int .u64 e.low,.int .u32 e.size,byteV e.first,.int .i64 ((e.more+z:Nat):Int),v,.bool e.closed] T
 o:OwnB w 5 base v e.out
 k:e.Ok
theorem BRow.one (w:World) (T:TypeId) (x:UInt8):BRow (w.alloc (.cells #[.int .u8 (x.toNat:Int)] T (0,0))) (w.heap.size+1) (some ⟨w.heap.size,0,none⟩) [x]:=by
 intro _
 refine ⟨w.heap.size,0,rfl,Nat.lt_succ_self _,fun j hj=>?_⟩
 obtain rfl:j=0:=by simpa using hj
 exact ((Pts.new w #[.int .u8 (x.toNat:Int)] T).cell 0).trans rfl
theorem and32_mod {x:Nat} (h:x<18446744073709551616):bits .and .u64 (x:Int) 4294967295=((x % 4294967296:Nat):Int):=by
 have e1:x<Num.M64:=h
 have e2:4294967295<Num.M64:=by unfold Num.M64;omega
 have h1:=Num.and64 e1 e2
 rw [show (4294967295:Nat)=2 ^ 32-1 by rfl,Nat.and_two_pow_sub_one_eq_mod] at h1
 exact h1
theorem Frm.transR {S S':Nat→Prop} {a b c:World} (h:Frm S a b) (k:Frm S' b c) (hm:∀ q,q<a.heap.size→S' q→S q):Frm S a c :=
 ⟨k.os.trans h.os,k.tape.trans h.tape,k.output.trans h.output,Nat.le_trans h.size k.size,fun i hi hn=>(k.block i (Nat.lt_of_lt_of_le hi h.size) (fun hs=>hn (hm i hi hs))).trans (h.block i hi hn)⟩
def Moved (w:World) (v u:Value):Prop:=u.ownBlock=v.ownBlock∨∃ g,u.ownBlock=some g∧w.heap.size≤g
theorem Moved.own {w:World} {v u:Value} (h:Moved w v u) {b:Nat}:∀ q,q<w.heap.size→u.ownBlock=some q→(q=b∨v.ownBlock=some q):=by
 intro q hq e
 rcases h with h | ⟨g,h,hg⟩
 ·exact .inr (h▸e)
 rw [h] at e;injection e with e;omega
def MidAt (w wx:World) (T b base low size first:Nat) (m:Int) (closed:Bool) (v u:Value) (out:List UInt8):Prop :=
 Pts wx b #[.int .u64 low,.int .u32 size,.int .u8 first,.int .i64 m,u,.bool closed] T∧OwnB wx 5 base u out∧Frm (fun x=>x=b∨v.ownBlock=some x) w wx∧Moved w v u
theorem MidAt.nb {w wx:World} {T b base low size first:Nat} {m:Int} {closed:Bool} {v u:Value} {out:List UInt8} (h:MidAt w wx T b base low size first m closed v u out) (hT:T≠5):u.ownBlock≠some b:=by
 intro hq
 obtain ⟨hp,ho,_⟩:=h
 rcases ho.form with ⟨e,_⟩ | ⟨g,cap,cur,e,_,hp',_⟩
 ·rw [e] at hq;cases hq
 rw [e] at hq
 injection hq with hq
 subst hq
 have e2:=hp'.symm.trans hp
 simp at e2
 exact hT e2.2.symm
set_option maxRecDepth 100000 in
set_option maxHeartbeats 2000000 in
theorem eshift_p (b base:Nat) (v:Value) (e:Enc) (w:World) (h:EncAt w 191 0 b base v e) (hbase:base≤w.heap.size) (hlen:e.cnt≤1000000) :
 Calls Tryz.prog 97 #[.pointer (some ⟨b,0,none⟩)] w fun r w'=>∃ v':Value,r=.returned (.tuple #[])∧EncAt w' 191 0 b base v' e.shift∧Frm (fun x=>x=b∨v.ownBlock=some x) w w' ∧
  Moved w v v':=by
 obtain ⟨hp,ho,hk⟩:=h
 obtain ⟨low,size,first,more,out,closed⟩:=e
 obtain ⟨hl,hs⟩:=hk
 simp only [Enc.cnt] at hl hs hlen hp ho
 have hnb:v.ownBlock≠some b:=by
  intro hq
  rcases ho.form with ⟨e,_⟩ | ⟨g,cap,cur,e,_,hp',_⟩
  ·rw [e] at hq;cases hq
  rw [e] at hq
  injection hq with hq
  subst hq
  have e2:=hp'.symm.trans hp
  simp at e2
 obtain ⟨A0,k0,rfl,hc0,hm0,hr0⟩:=ho.slice
 have c0:w.cell? ⟨b,0,none⟩=some (.int .u64 low):=by rw [hp.cell];rfl
 have c2:w.cell? ⟨b,2,none⟩=some (.int .u8 (first.toNat:Int)):=by rw [hp.cell];rfl
 have c3:w.cell? ⟨b,3,none⟩=some (.int .i64 more):=by rw [hp.cell];rfl
 have c4:w.cell? ⟨b,4,none⟩=some (.slice A0 out.length k0):=by rw [hp.cell];rfl
 have f0:=hp.frozen 0
 have f2:=hp.frozen 2
 have f3:=hp.frozen 3
 have f4:=hp.frozen 4
 obtain ⟨low2,hlow2⟩:∃ x,low*256 % 4294967296=x:=⟨_,rfl⟩
 have a1:bits .and .u64 ((low:Int)*256) 4294967295=(low2:Int):=by
  have h9:=and32_mod (x:=low*256) (by omega)
  rw [hlow2] at h9
  rw [← h9];congr 1
 have hw64:IntKind.u64.wrap ((low:Int)*256)=(low:Int)*256:=by rw [Go.IntWalk.u64_in _ (by omega)]
 have HP:=hid hp
 have HO:=hid ho
 have HNB:=hid hnb
 clear hp ho hnb hr0
 have HL2:=hid hlow2
 have hk2:=(show Enc.Ok ⟨low,size,first,more,out,closed⟩ from ⟨hl,hs⟩).shift
 by_cases hrun:4278190080≤low∧low<4294967296
 ·have h1:IntKind.u8.wrap ((low:Int) / 16777216)=255:=by rw [IntKind.wrap_u8'];omega
  have h2:IntKind.u8.wrap ((low:Int) / 4294967296)=0:=by rw [IntKind.wrap_u8'];omega
  have e:Enc.shift ⟨low,size,first,more,out,closed⟩=⟨low2,size,first,more+1,out,closed⟩:=by unfold Enc.shift;rw [if_pos hrun];simp only [hlow2]
  rw [e] at hk2
  have HK:=hid hk2
  have HE:=hid e
  clear hrun hl hs hlow2 hk2 e
  go_enter Tryz.func97,Tryz.ntmps97
  go_step3
  go_wp2
  try rw [Exit.noGoto_ret]
  refine bodyPost_ret (results_none rfl _ _ _) rfl ?_
  rw [HE.out]
  exact ⟨_,rfl,⟨(HP.out.set 0 (.int .u64 low2)).set 3 (.int .i64 ((more+1:Nat):Int)),(HO.out.other (p:=⟨b,0,none⟩) HNB.out _).other (p:=⟨b,3,none⟩) HNB.out _,HK.out⟩,((Frm.refl _ w).setCell (p:=⟨b,0,none⟩) (.inl rfl) _).setCell (p:=⟨b,3,none⟩) (.inl rfl) _,.inl rfl⟩
 obtain ⟨hi,hhi⟩:∃ x:UInt8,UInt8.ofNat (low / 16777216)=x:=⟨_,rfl⟩
 obtain ⟨cv,hcv⟩:∃ x:UInt8,UInt8.ofNat (low / 4294967296)=x:=⟨_,rfl⟩
 have h1:IntKind.u8.wrap ((low:Int) / 16777216)=(hi.toNat:Int):=by rw [IntKind.wrap_u8',← hhi,UInt8.toNat_ofNat'];omega
 have h2:IntKind.u8.wrap ((low:Int) / 4294967296)=(cv.toNat:Int):=by rw [IntKind.wrap_u8',← hcv,UInt8.toNat_ofNat'];omega
 have e:Enc.shift ⟨low,size,first,more,out,closed⟩=⟨low2,size,hi,0,out++(first+cv)::List.replicate more (255+cv),closed⟩:=by
  unfold Enc.shift Enc.carry;rw [if_neg hrun];simp only [hlow2,hhi,hcv]
 rw [e] at hk2
 have hh:(hi.toNat≠255)∨(hi.toNat=255∧cv.toNat≠0):=by
  rw [← hhi,← hcv,UInt8.toNat_ofNat',UInt8.toNat_ofNat'];omega
 have hx:IntKind.u8.wrap ((first.toNat:Int)+cv.toNat)=((first+cv).toNat:Int):=by rw [IntKind.wrap_u8',UInt8.toNat_add];omega
 have hy:IntKind.u8.wrap (255+(cv.toNat:Int))=((255+cv).toNat:Int):=by rw [IntKind.wrap_u8',UInt8.toNat_add];show _=((((255:UInt8).toNat+cv.toNat) % 2 ^ 8:Nat):Int);rw [show (255:UInt8).toNat=255 by rfl];omega
 obtain ⟨x,hxx⟩:∃ x:UInt8,first+cv=x:=⟨_,rfl⟩
 obtain ⟨y,hyy⟩:∃ y:UInt8,255+cv=y:=⟨_,rfl⟩
 rw [hxx] at hx
 rw [hyy] at hy
 rw [hxx,hyy] at e hk2
 have HK:=hid hk2
 have HE:=hid e
 clear hrun hl hs hlow2 hk2 e hhi hcv hxx hyy
 have htest:((hi.toNat:Int)==255)=false∨(((hi.toNat:Int)==255)=true∧((cv.toNat:Int)==0)=false):=by
  rcases hh with hh | ⟨hh,hh2⟩
  ·left;exact beq_eq_false_iff_ne.2 (by omega)
  right;exact ⟨by rw [hh];rfl,beq_eq_false_iff_ne.2 (by omega)⟩
 clear hh
 rcases htest with ht | ⟨ht,ht2⟩
 all_goals
  go_enter Tryz.func97,Tryz.ntmps97
  go_step3
  go_wp2
  go_cut [3] from 38 to 52 (fun s3 wx=>∃ (A2:Option Addr) (k2:Nat),s3=.int .u8 cv.toNat∧MidAt w wx 191 b base low2 size first.toNat more closed (.slice A0 out.length k0) (.slice A2 (out.length+1) k2) (out++[x]))
  case first =>
   have P1:=HP.out.set 0 (.int .u64 low2)
   have O1:=HO.out.other (p:=⟨b,0,none⟩) HNB.out (.int .u64 low2)
   have F1:=(Frm.refl (fun x=>x=b∨(Value.slice A0 out.length k0).ownBlock=some x) w).setCell (p:=⟨b,0,none⟩) (.inl rfl) (.int .u64 low2)
   have hb1:base≤(w.setCell ⟨b,0,none⟩ (.int .u64 low2)).heap.size:=Nat.le_trans hbase F1.size
   generalize w.setCell ⟨b,0,none⟩ (.int .u64 low2)=w1 at *
   have d2:w1.cell? ⟨b,2,none⟩=some (.int .u8 (first.toNat:Int)):=by rw [P1.cell];rfl
   have d4:w1.cell? ⟨b,4,none⟩=some (.slice A0 out.length k0):=by rw [P1.cell];rfl
   have g4:=P1.frozen 4
   have PA:=P1.alloc (.cells #[.int .u8 (x.toNat:Int)] 5)
   have d2':(w1.alloc (.cells #[.int .u8 (x.toNat:Int)] 5)).cell? ⟨b,2,none⟩=some (.int .u8 (first.toNat:Int)):=by rw [PA.cell];rfl
   have d4':(w1.alloc (.cells #[.int .u8 (x.toNat:Int)] 5)).cell? ⟨b,4,none⟩=some (.slice A0 out.length k0):=by rw [PA.cell];rfl
   have g4':=PA.frozen 4
   clear PA
   have PP1:=hid P1
   have OO1:=hid O1
   have FF1:=hid F1
   have hll:out.length+[x].length≤140737488355328:=by simp;omega
   have hb2:base≤(w1.alloc (.cells #[.int .u8 (x.toNat:Int)] 5)).heap.size:=by show base≤(w1.heap.push _).size;rw [Array.size_push];omega
   clear P1 O1 F1 c0 c2 c3 c4 f0 f2 f3 f4
   go_region_law (refine stepR_append_bytes _ rfl (.tmp 42) (.tmp 49) 27 rfl 5 base Tryz.underlying27 Tryz.info_u8 (.slice A0 out.length k0) out rfl ((OO1.out.drewN 1).alloc _) (some ⟨w1.heap.size,0,none⟩) 1 1 (w1.heap.size+1) [x] rfl rfl (BRow.one (w1.drewN 1) _ x) hll hb2 ?_;intro v2 w2 hown2 hfrm2 hnew2;obtain ⟨A2,k2,rfl,hc2,hm2,hr2⟩:=hown2.slice;have hp2:=((PP1.out.drewN 1).alloc _).frm hfrm2 (fun e=>HNB.out e);have z4:w2.cell? ⟨b,4,none⟩=some (.slice A0 out.length k0):=(hp2.cell 4).trans rfl;have y4:=hp2.frozen 4)
   all_goals
    have F2:Frm (fun x=>x=b∨(Value.slice A0 out.length k0).ownBlock=some x) w w2:=(((FF1.out.drewN 1).alloc _).trans (hfrm2.mono fun q _ hq=>.inr hq))
    have M2:Moved w (.slice A0 out.length k0) (.slice A2 (out.length+1) k2):=by
     rw [List.length_append] at hnew2
     rcases hnew2 with h | h
     ·exact .inl h
     exact .inr ⟨_,h,by have h9:=FF1.out.size;show _≤(w1.heap.push _).size;rw [Array.size_push];omega⟩
    rw [List.length_append] at hown2
    have hp3:=hp2.set 4 (.slice A2 (out.length+1) k2)
    go_wp2
    go_meet
    have hb3:=HP.out.lt
    have hnb2:(Value.slice A2 (out.length+1) k2).ownBlock≠some b:=by
     intro hq
     rcases M2 with h | ⟨g,h,hg⟩
     ·exact HNB.out (h▸hq)
     rw [h] at hq;injection hq with hq;omega
    exact ⟨A2,k2,rfl,hp3,hown2.other (p:=⟨b,4,none⟩) hnb2 _,F2.setCell (p:=⟨b,4,none⟩) (.inl rfl) _,M2⟩
  obtain ⟨A2,k2,rfl,hmid⟩:=hcut
  have hb3:=HP.out.lt
  have MD:=hid hmid
  clear hmid c0 c2 c3 c4 f0 f2 f3 f4
  go_wp2
  go_step3
  go_wp2
  go_loopg [57] more (fun gn s57 wr=>∃ (j:Nat) (A3:Option Addr) (k3:Nat),j+gn=more∧MidAt w wr 191 b base low2 size first.toNat ((more-j:Nat):Int) closed (.slice A0 out.length k0) (.slice A3 (out.length+1+j) k3) (out++x::List.replicate j y))
  case atStart=>exact ⟨0,A2,k2,by omega,MD.out⟩
  obtain ⟨j,A3,k3,hj,hm⟩:=hrel
  clear MD
  obtain ⟨mj,hmj⟩:∃ mj,more-j=mj:=⟨_,rfl⟩
  rw [hmj] at hm
  have P3:=hm.1
  have NB3:=hid (hm.nb (by decide))
  have hbw:=P3.lt
  have d3:wr.cell? ⟨b,3,none⟩=some (.int .i64 mj):=by rw [P3.cell];rfl
  have d4:wr.cell? ⟨b,4,none⟩=some (.slice A3 (out.length+1+j) k3):=by rw [P3.cell];rfl
  have d2:wr.cell? ⟨b,2,none⟩=some (.int .u8 (first.toNat:Int)):=by rw [P3.cell];rfl
  have g2:=P3.frozen 2
  have hws:=hm.2.2.1.size
  have MM:=hid hm
  have HJ:=hid hj
  clear P3 hm hj
  cases mj with
  | succ m2 =>
   have hz:((((m2+1:Nat):Int))==0)=false:=beq_eq_false_iff_ne.2 (by omega)
   have hm21:IntKind.i64.wrap (((m2+1:Nat):Int)-1)=(m2:Int):=by rw [Go.IntWalk.i64_in _ (by omega)];omega
   obtain ⟨mi,hmi⟩:∃ mi:Int,((m2+1:Nat):Int)=mi:=⟨_,rfl⟩
   rw [hmi] at hz hm21 d3
   have hmj2:=hid hmj
   have HMI:=hid hmi
   clear hmj hmi
   go_wp2_with (at_builtin;refine wpList_append_bytes _ rfl (.tmp 62) (.tmp 65) 27 rfl 5 base Tryz.underlying27 Tryz.info_u8 (.slice A3 (out.length+1+j) k3) (out++x::List.replicate j y) rfl ?own5 (some ⟨wr.heap.size,0,none⟩) 1 1 (wr.heap.size+1) [y] rfl rfl ?row5 ?len5 ?base5 ?next5)
   case own5=>exact MM.out.2.1.alloc _
   case row5=>exact BRow.one wr _ y
   case len5=>have:=HJ.out;simp;omega
   case base5=>show base≤(wr.heap.push _).size;rw [Array.size_push];omega
   case next5 =>
    intro v5 w5 hown5 hfrm5 hnew5
    obtain ⟨Y,hY⟩:∃ Y,Obj.cells #[.int .u8 (y.toNat:Int)] 5=Y:=⟨_,rfl⟩
    rw [hY] at hfrm5
    have hp5:=(MM.out.1.alloc Y).frm hfrm5 (fun e=>NB3.out e)
    have e3:w5.cell? ⟨b,3,none⟩=some (.int .i64 mi):=by rw [hp5.cell,← HMI.out];rfl
    have e4:w5.cell? ⟨b,4,none⟩=some (.slice A3 (out.length+1+j) k3):=by rw [hp5.cell];rfl
    have k3f:=hp5.frozen 3
    have k4f:=hp5.frozen 4
    have hsY:(wr.alloc Y).heap.size=wr.heap.size+1:=by show (wr.heap.push _).size=_;rw [Array.size_push]
    have F5:Frm (fun x=>x=b∨(Value.slice A0 out.length k0).ownBlock=some x) w w5:=(MM.out.2.2.1.alloc Y).transR hfrm5 (fun q hq e=>MM.out.2.2.2.own q hq e)
    have hM5:Moved w (.slice A0 out.length k0) v5:=by
     rcases hnew5 with h | h
     ·rcases MM.out.2.2.2 with h2 | ⟨g,h2,hg⟩
      ·exact .inl (h.trans h2)
      exact .inr ⟨g,h.trans h2,hg⟩
     exact .inr ⟨_,h,by omega⟩
    have hnb5:v5.ownBlock≠some b:=by
     intro hq
     rcases hM5 with h | ⟨g,h,hg⟩
     ·exact HNB.out (h▸hq)
     rw [h] at hq;injection hq with hq;omega
    rw [← List.replicate_succ'] at hown5
    have hl5:(out++x::List.replicate (j+1) y).length=out.length+1+(j+1):=by simp;omega
    obtain ⟨A5,k5,e5,_,_,_⟩:=hown5.slice
    rw [hl5] at e5
    subst e5
    have O5:=hid hown5
    have P5:=hid hp5
    have FF5:=hid F5
    have MM5:=hid hM5
    have NB5:=hid hnb5
    clear hown5 hfrm5 hnew5 hp5 F5 hM5 hnb5 hY hl5
    go_wp2
    go_roundg (more-(j+1))
    case measure=>have:=HJ.out;have:=hmj2.out;omega
    case rel =>
     refine ⟨j+1,A5,k5,by have:=HJ.out;have:=hmj2.out;omega,?_,(O5.out.other (p:=⟨b,4,none⟩) NB5.out _).other (p:=⟨b,3,none⟩) NB5.out _,(FF5.out.setCell (p:=⟨b,4,none⟩) (.inl rfl) _).setCell (p:=⟨b,3,none⟩) (.inl rfl) _,MM5.out⟩
     have hjm:more-(j+1)=m2:=by have:=hmj2.out;omega
     rw [hjm]
     exact (P5.out.set 4 _).set 3 _
  | zero =>
   obtain rfl:j=more:=by have:=HJ.out;omega
   have hz:((((0:Nat):Int))==0)=true:=rfl
   clear hmj
   go_wp2
   unfold Exit.noGoto
   go_end0
   rw [HE.out]
   exact ⟨_,rfl,⟨MM.out.1.set 2 (.int .u8 (hi.toNat:Int)),MM.out.2.1.other (p:=⟨b,2,none⟩) NB3.out _,HK.out⟩,MM.out.2.2.1.setCell (p:=⟨b,2,none⟩) (.inl rfl) _,MM.out.2.2.2⟩
open Go.RowKit Rng
open Go.RowKit Rng
theorem Moved.refl (w:World) (v:Value):Moved w v v:=.inl rfl
theorem Moved.trans {w w1:World} {v v1 v2:Value} (h:Moved w v v1) (h2:Moved w1 v1 v2) (hs:w.heap.size≤w1.heap.size):Moved w v v2:=by
 rcases h2 with h2 | ⟨g,h2,hg⟩
 ·rcases h with h | ⟨g,h,hg⟩
  ·exact .inl (h2.trans h)
  exact .inr ⟨g,h2.trans h,hg⟩
 exact .inr ⟨g,h2,by omega⟩
theorem EncAt.nb {w:World} {T z b base:Nat} {v:Value} {e:Enc} (h:EncAt w T z b base v e) (hT:T≠5):v.ownBlock≠some b:=by
 intro hq
 rcases h.o.form with ⟨e,_⟩ | ⟨g,cap,cur,e,_,hp',_⟩
 ·rw [e] at hq;cases hq
 rw [e] at hq
 injection hq with hq
 subst hq
 have e2:=hp'.symm.trans h.p
 simp at e2
 exact hT e2.2.symm
set_option maxRecDepth 100000 in
set_option maxHeartbeats 2000000 in
theorem eorder_p (b base:Nat) (v:Value) (e:Enc) (w:World) (h:EncAt w 191 0 b base v e) (hbase:base≤w.heap.size) (hlen:e.cnt<1000000) (hs:e.Pre) :
 Calls Tryz.prog 116 #[.pointer (some ⟨b,0,none⟩)] w fun r w'=>∃ v':Value,r=.returned (.tuple #[])∧EncAt w' 191 0 b base v' e.order∧Frm (fun x=>x=b∨v.ownBlock=some x) w w'∧Moved w v v':=by
 obtain ⟨G,hG⟩:∃ G,e.order=G:=⟨_,rfl⟩
 have hGs:16777216≤G.size:=by rw [← hG];exact hs.order.s.1
 have HS:=hid hs
 have HGS:=hid hGs
 have HG:=hid hG
 have HE:=hid h
 have HC:=hid hlen
 rw [hG]
 clear hs h hlen hG hGs
 go_enter Tryz.func116,Tryz.ntmps116
 go_wp2
 go_loopg [6] 1 (fun gn s6 wr=>∃ (e1:Enc) (v1:Value),EncAt wr 191 0 b base v1 e1∧((e1=e∧gn=1)∨e1=G)∧Frm (fun x=>x=b∨v.ownBlock=some x) w wr∧Moved w v v1)
 case atStart=>exact ⟨e,v,HE.out,.inl ⟨rfl,rfl⟩,Frm.refl _ _,Moved.refl _ _⟩
 obtain ⟨e1,v1,he1,hcase,hf,hm⟩:=hrel
 have hp:=he1.p
 have d1:wr.cell? ⟨b,1,none⟩=some (.int .u32 e1.size):=by rw [hp.cell];rfl
 have f1:=hp.frozen 1
 have E1:=hid he1
 have F1:=hid hf
 have M1:=hid hm
 clear hp he1 hf hm
 by_cases hlt:e1.size<16777216
 ·obtain ⟨rfl,rfl⟩:e1=e∧gk=1:=by
   rcases hcase with h | h
   ·exact h
   rw [h] at hlt;have:=HGS.out;omega
  have hsl:=HS.out.s.1
  obtain ⟨s,hse⟩:∃ s,e1.size=s:=⟨_,rfl⟩
  rw [hse] at d1 hlt
  have hd:(s:Int)<16777216:=by omega
  have hw1:IntKind.u32.wrap ((s:Int)*256)=((s*256:Nat):Int):=by rw [Go.IntWalk.u32_in _ (by omega)];omega
  obtain ⟨s2,hs2⟩:∃ s2,s*256=s2:=⟨_,rfl⟩
  rw [hs2] at hw1
  have HSE:=hid hse
  have HS2:=hid hs2
  have HLT:=hid hlt
  clear hcase hlt hse hs2 hsl
  go_wp2_with fail
  have hE2:EncAt (wr.setCell ⟨b,1,none⟩ (.int .u32 s2)) 191 0 b base v1 ⟨e1.low,e1.size*256,e1.first,e1.more,e1.out,e1.closed⟩:=by
   refine ⟨?_,E1.out.o.other (p:=⟨b,1,none⟩) (E1.out.nb (by decide)) _,⟨E1.out.k.l,?_⟩⟩
   ·rw [HSE.out,HS2.out];exact E1.out.p.set 1 _
   have:=HLT.out;rw [← HSE.out] at this;simp only;omega
  have hF2:=F1.out.setCell (p:=⟨b,1,none⟩) (.inl rfl) (.int .u32 s2)
  refine (eshift_p b base v1 _ _ hE2 (Nat.le_trans hbase hF2.size) (Nat.le_of_lt HC.out)).mono ?_
  rintro r w3 ⟨v3,rfl,hE3,hF3,hM3⟩
  have hG3:Enc.shift ⟨e1.low,e1.size*256,e1.first,e1.more,e1.out,e1.closed⟩=G:=by
   rw [← HG.out];unfold Enc.order;rw [if_pos (by have:=HLT.out;rw [← HSE.out] at this;exact this)]
  rw [hG3] at hE3
  have E3:=hid hE3
  have F3:=hid (hF2.transR hF3 (fun q hq hh=>hh.elim .inl (fun h2=>M1.out.own q hq h2)))
  have M3:=hid (M1.out.trans hM3 hF2.size)
  clear hE2 hF2 hE3 hF3 hM3 hG3
  go_wp2
  go_roundg 0
  case measure=>omega
  case rel=>exact ⟨G,v3,E3.out,.inr rfl,F3.out,M3.out⟩
 have hd:¬ ((e1.size:Int)<16777216):=by omega
 have hG1:e1=G:=by
  rcases hcase with ⟨h,_⟩ | h
  ·rw [← HG.out,← h,Enc.order_stay (by omega)]
  exact h
 subst hG1
 clear hcase hlt
 go_wp2
 go_end0
 first
  | exact ⟨_,rfl,E1.out,F1.out,M1.out⟩
  | exact ⟨rfl,_,E1.out,F1.out,M1.out⟩
open Go.RowKit Rng
theorem u64_add {a b:Nat} (h:a+b<18446744073709551616):IntKind.u64.wrap ((a:Int)+b)=((a+b:Nat):Int):=by rw [Go.IntWalk.u64_in _ (by omega)];omega
set_option maxRecDepth 100000 in
set_option maxHeartbeats 2000000 in
theorem ebit_p (b base pb po pv:Nat) (bit:Int) (one:Bool) (v:Value) (e:Enc) (w:World) (h:EncAt w 191 0 b base v e) (hbase:base≤w.heap.size) (hlen:e.cnt<1000000) (hs:e.Run) (hcl:e.closed=false)
 (hp:w.cell? ⟨pb,po,none⟩=some (.int .u16 pv)) (hfz:w.frozen? ⟨pb,po,none⟩=false) (hne:pb≠b) (hnv:v.ownBlock≠some pb) (hpv:pv<65536) (hone:one=decide (bit≠0)) :
 Calls Tryz.prog 102 #[.pointer (some ⟨b,0,none⟩),.pointer (some ⟨pb,po,none⟩),.int .i64 bit] w fun r w'=>∃ v':Value,r=.returned (.tuple #[])∧EncAt w' 191 0 b base v' (e.bit (fair pv) one) ∧
  Frm (fun x=>x=b∨v.ownBlock=some x) (w.setCell ⟨pb,po,none⟩ (.int .u16 (learn (fair pv) one))) w'∧Moved w v v':=by
 have hfb:=fair_bd pv
 obtain ⟨c,hcd⟩:∃ c,fair pv=c:=⟨_,rfl⟩
 rw [hcd] at hfb
 obtain ⟨hc31,hc17⟩:=hfb
 have hpre:=hs.cut hc31 hc17 one
 have hcc:(e.cut c one).cnt<1000000:=by rw [Enc.cut_cnt];exact hlen
 rw [hcd,Enc.bit_cut]
 have hb:=bound_bd hs.s.1 hc31 hc17
 have hs2:=hs.s.2
 have hlow:=hs.l
 have HPV:=hid hpv
 have HC:=hid hcd
 have HPRE:=hid hpre
 have HCC:=hid hcc
 have HE:=hid h
 have hpt:=h.p
 have hlt:=World.block_lt_of_cell? w ⟨pb,po,none⟩ hp
 have hnb:=h.nb (by decide)
 obtain ⟨q,hq⟩:∃ q:Nat,e.size / 2048=q:=⟨_,rfl⟩
 obtain ⟨bd,hbd⟩:∃ bd:Nat,q*c=bd:=⟨_,rfl⟩
 rw [hq,hbd] at hb
 have hcut:e.cut c one=if one then ⟨e.low+bd,e.size-bd,e.first,e.more,e.out,e.closed⟩ else ⟨e.low,bd,e.first,e.more,e.out,e.closed⟩:=by unfold Enc.cut;rw [hq,hbd]
 obtain ⟨s,hse⟩:∃ s,e.size=s:=⟨_,rfl⟩
 obtain ⟨lo,hlo⟩:∃ lo,e.low=lo:=⟨_,rfl⟩
 rw [hse] at hq hb hcut hs2
 rw [hlo,hse] at hlow
 rw [hlo] at hcut
 have hq1:(s:Int) / 2048=(q:Int):=by omega
 have hm1:IntKind.u32.wrap ((q:Int)*(c:Int))=(bd:Int):=by
  have e:(q:Int)*(c:Int)=(bd:Int):=by rw [← hbd];simp
  rw [e,Go.IntWalk.u32_in _ (by omega)]
 have hwc:IntKind.u32.wrap (c:Int)=(c:Int):=by rw [Go.IntWalk.u32_in _ (by omega)]
 have hwq:IntKind.u32.wrap (q:Int)=(q:Int):=by rw [Go.IntWalk.u32_in _ (by omega)]
 have hm2:IntKind.u32.wrap ((s:Int)-bd)=((s-bd:Nat):Int):=by rw [Go.IntWalk.u32_in _ (by omega)];omega
 have hm3:IntKind.u64.wrap ((lo:Int)+bd)=((lo+bd:Nat):Int):=u64_add (by omega)
 have hm4:IntKind.u64.wrap (bd:Int)=(bd:Int):=by rw [Go.IntWalk.u64_in _ (by omega)]
 obtain ⟨s3,hs3⟩:∃ s3:Nat,s-bd=s3:=⟨_,rfl⟩
 obtain ⟨lo3,hlo3⟩:∃ lo3:Nat,lo+bd=lo3:=⟨_,rfl⟩
 rw [hs3] at hm2 hcut
 rw [hlo3] at hm3 hcut
 have d0:w.cell? ⟨b,0,none⟩=some (.int .u64 lo):=by rw [hpt.cell,← hlo];rfl
 have d1:w.cell? ⟨b,1,none⟩=some (.int .u32 s):=by rw [hpt.cell,← hse];rfl
 have d5:w.cell? ⟨b,5,none⟩=some (.bool false):=by rw [hpt.cell,← hcl];rfl
 have g0:=hpt.frozen 0
 have g1:=hpt.frozen 1
 have HCUT:=hid hcut
 have HPT:=hid hpt
 have HNB:=hid hnb
 have HNV:=hid hnv
 have HLT:=hid hlt
 have HSE:=hid hse
 have HLO:=hid hlo
 have HS3:=hid hs3
 have HLO3:=hid hlo3
 clear hpv hcd hpre hcc h hs hlen hb hs2 hlow hq hbd hcut hs3 hlo3 hlo hse hpt hnb hnv hlt hcl
 by_cases hbit:bit=0
 ·subst hbit
  obtain rfl:one=false:=by rw [hone];rfl
  clear hone
  go_enter Tryz.func102,Tryz.ntmps102
  go_wp2_with fail
  refine (fair_p pv _ HPV.out).mono ?_;rintro r w1 ⟨rfl,rfl⟩
  rw [HC.out]
  go_wp2_with fail
  refine (learn_p c 0 false _ hc17 rfl).mono ?_;rintro r w2 ⟨rfl,rfl⟩
  go_wp2_with fail
  have hE2:EncAt ((w.setCell ⟨b,1,none⟩ (.int .u32 bd)).setCell ⟨pb,po,none⟩ (.int .u16 (learn c false))) 191 0 b base v (e.cut c false):=by
   have hk:=HPRE.out.ok
   rw [HCUT.out] at hk ⊢
   exact ⟨by have h9:=(HPT.out.set 1 (.int .u32 bd)).other (p:=⟨pb,po,none⟩) (fun e=>hne e.symm) (.int .u16 (learn c false));rw [HLO.out] at h9;exact h9,(HE.out.o.other (p:=⟨b,1,none⟩) HNB.out _).other (p:=⟨pb,po,none⟩) HNV.out _,hk⟩
  have hF2:=((Frm.refl (fun x=>x=b∨v.ownBlock=some x) w).setCell (p:=⟨b,1,none⟩) (.inl rfl) (.int .u32 bd)).setBoth (p:=⟨pb,po,none⟩) (fun h=>h.elim hne HNV.out) HLT.out (.int .u16 (learn c false))
  have hsz:((w.setCell ⟨b,1,none⟩ (.int .u32 bd)).setCell ⟨pb,po,none⟩ (.int .u16 (learn c false))).heap.size=w.heap.size:=by simp
  refine (eorder_p b base v _ _ hE2 (by rw [hsz];exact hbase) HCC.out HPRE.out).mono ?_
  rintro r w3 ⟨v3,rfl,hE3,hF3,hM3⟩
  have E3:=hid hE3
  have F3:=hid (hF2.trans hF3)
  have M3:=hid ((Moved.refl w v).trans hM3 (Nat.le_of_eq hsz.symm))
  clear hE2 hF2 hE3 hF3 hM3 hsz
  go_wp2
  go_end0
  first
   | exact ⟨_,rfl,E3.out,F3.out,M3.out⟩
   | exact ⟨rfl,_,E3.out,F3.out,M3.out⟩
 have hbz:(bit==0)=false:=beq_eq_false_iff_ne.2 hbit
 obtain rfl:one=true:=by rw [hone];exact decide_eq_true hbit
 have HBIT:=hid hbit
 clear hone hbit
 go_enter Tryz.func102,Tryz.ntmps102
 go_wp2_with fail
 refine (fair_p pv _ HPV.out).mono ?_;rintro r w1 ⟨rfl,rfl⟩
 rw [HC.out]
 go_wp2_with fail
 refine (learn_p c bit true _ hc17 (decide_eq_true HBIT.out).symm).mono ?_;rintro r w2 ⟨rfl,rfl⟩
 go_wp2_with fail
 have hE2:EncAt (((w.setCell ⟨b,0,none⟩ (.int .u64 lo3)).setCell ⟨b,1,none⟩ (.int .u32 s3)).setCell ⟨pb,po,none⟩ (.int .u16 (learn c true))) 191 0 b base v (e.cut c true):=by
  have hk:=HPRE.out.ok
  rw [HCUT.out] at hk ⊢
  exact ⟨((HPT.out.set 0 (.int .u64 lo3)).set 1 (.int .u32 s3)).other (p:=⟨pb,po,none⟩) (fun e=>hne e.symm) _,((HE.out.o.other (p:=⟨b,0,none⟩) HNB.out _).other (p:=⟨b,1,none⟩) HNB.out _).other (p:=⟨pb,po,none⟩) HNV.out _,hk⟩
 have hF2:=(((Frm.refl (fun x=>x=b∨v.ownBlock=some x) w).setCell (p:=⟨b,0,none⟩) (.inl rfl) (.int .u64 lo3)).setCell (p:=⟨b,1,none⟩) (.inl rfl) (.int .u32 s3)).setBoth (p:=⟨pb,po,none⟩) (fun h=>h.elim hne HNV.out) HLT.out (.int .u16 (learn c true))
 have hsz:(((w.setCell ⟨b,0,none⟩ (.int .u64 lo3)).setCell ⟨b,1,none⟩ (.int .u32 s3)).setCell ⟨pb,po,none⟩ (.int .u16 (learn c true))).heap.size=w.heap.size:=by simp
 refine (eorder_p b base v _ _ hE2 (by rw [hsz];exact hbase) HCC.out HPRE.out).mono ?_
 rintro r w3 ⟨v3,rfl,hE3,hF3,hM3⟩
 have E3:=hid hE3
 have F3:=hid (hF2.trans hF3)
 have M3:=hid ((Moved.refl w v).trans hM3 (Nat.le_of_eq hsz.symm))
 clear hE2 hF2 hE3 hF3 hM3 hsz
 go_wp2
 go_end0
 first
  | exact ⟨_,rfl,E3.out,F3.out,M3.out⟩
  | exact ⟨rfl,_,E3.out,F3.out,M3.out⟩
open Go.RowKit Rng
theorem bit_at {x t:Nat} (hx:x<4294967296):bits .and .u32 ((x:Int) / 2 ^ t) 1=((x / 2 ^ t % 2:Nat):Int):=by
 have h1:x / 2 ^ t<Num.M32:=Nat.lt_of_le_of_lt (Nat.div_le_self _ _) hx
 have h:=Num.and32_1 h1
 rw [← h]
 congr 1
set_option maxRecDepth 100000 in
set_option maxHeartbeats 2000000 in
theorem edirect_p (b base x:Nat) (n:Int) (v:Value) (e:Enc) (w:World) (h:EncAt w 191 0 b base v e) (hbase:base≤w.heap.size) (hlen:e.cnt+32<1000000) (hs:e.Run) (hcl:e.closed=false) (hx:x<4294967296) :
 Calls Tryz.prog 155 #[.pointer (some ⟨b,0,none⟩),.int .u32 x,.int .i64 n] w fun r w'=>∃ v':Value,r=.returned (.tuple #[])∧EncAt w' 191 0 b base v' (Enc.direct x (count n) e) ∧
  Frm (fun y=>y=b∨v.ownBlock=some y) w w'∧Moved w v v':=by
 obtain ⟨N,hN⟩:∃ N:Nat,count n=N:=⟨_,rfl⟩
 have hN2:N≤32:=by rw [← hN];unfold count;omega
 obtain ⟨y,hy⟩:∃ y:Int,max n 0=y:=⟨_,rfl⟩
 have f1:=fun w=>max2_num (P:=Tryz.prog) .i64 #[3,3] 3 n 0 y hy w
 have f2:=fun w=>min2_num (P:=Tryz.prog) .i64 #[3,3] 3 y 32 N (by rw [← hN];unfold count;omega) w
 obtain ⟨G,hG⟩:∃ G,Enc.direct x N e=G:=⟨_,rfl⟩
 rw [hN,hG]
 have d5:w.cell? ⟨b,5,none⟩=some (.bool false):=by rw [h.p.cell,← hcl];rfl
 have HG:=hid hG
 have HE:=hid h
 have HS:=hid hs
 have HCL:=hid hcl
 have HX:=hid hx
 have HLEN:=hid hlen
 clear hy hN hG h hs hcl hx hlen
 go_enter Tryz.func155,Tryz.ntmps155
 go_wp2
 go_loopw [6] (fun iv wr=>∃ (j:Nat) (e1:Enc) (v1:Value),iv=.int .i64 ((j:Int)-1)∧j≤N∧Enc.direct x j e1=G∧EncAt wr 191 0 b base v1 e1∧e1.Run∧e1.closed=false∧e1.cnt≤e.cnt+(N-j) ∧
  Frm (fun y=>y=b∨v.ownBlock=some y) w wr∧Moved w v v1) (fun iv _=>(intOf iv+1).toNat)
 case atStart=>exact ⟨N,e,v,rfl,by omega,HG.out,HE.out,HS.out,HCL.out,by omega,Frm.refl _ _,Moved.refl _ _⟩
 obtain ⟨j,e1,v1,rfl,hj,hg,he1,hr1,hc1,hn1,hf1,hm1⟩:=hrel
 have E1:=hid he1
 have R1:=hid hr1
 have C1:=hid hc1
 have N1:=hid hn1
 have F1:=hid hf1
 have M1:=hid hm1
 have G1:=hid hg
 have hpt:=he1.p
 have k5:wr.cell? ⟨b,5,none⟩=some (.bool false):=by rw [hpt.cell,← hc1];rfl
 clear he1 hr1 hc1 hn1 hf1 hm1 hg HE HS HCL
 cases j with
 | zero =>
  have hneg:¬ ((0:Int)≤((0:Nat):Int)-1):=by omega
  have h0:e1=G:=G1.out
  subst h0
  clear hpt G1
  go_wp2
  go_end0
  first
   | exact ⟨_,rfl,E1.out,F1.out,M1.out⟩
   | exact ⟨rfl,_,E1.out,F1.out,M1.out⟩
 | succ t =>
  have hti:(((t+1:Nat):Int)-1)=(t:Int):=by omega
  rw [hti]
  obtain ⟨s,hse⟩:∃ s,e1.size=s:=⟨_,rfl⟩
  obtain ⟨lo,hlo⟩:∃ lo,e1.low=lo:=⟨_,rfl⟩
  have d0:wr.cell? ⟨b,0,none⟩=some (.int .u64 lo):=by rw [hpt.cell,← hlo];rfl
  have d1:wr.cell? ⟨b,1,none⟩=some (.int .u32 s):=by rw [hpt.cell,← hse];rfl
  have g0:=hpt.frozen 0
  have g1:=hpt.frozen 1
  have hlow:=R1.out.l
  have hsz:=R1.out.s
  rw [hse] at hsz hlow
  rw [hlo] at hlow
  obtain ⟨q,hq⟩:∃ q,s / 2=q:=⟨_,rfl⟩
  obtain ⟨lo3,hlo3⟩:∃ lo3,lo+q=lo3:=⟨_,rfl⟩
  have hq1:(s:Int) / 2=(q:Int):=by omega
  have hq64:IntKind.u64.wrap (q:Int)=(q:Int):=by rw [Go.IntWalk.u64_in _ (by omega)]
  have hadd:IntKind.u64.wrap ((lo:Int)+q)=(lo3:Int):=by rw [u64_add (by omega),hlo3]
  have hbt:=bit_at (x:=x) (t:=t) HX.out
  have hg2:=G1.out
  rw [Enc.direct,Enc.one_half] at hg2
  have hcase:x / 2 ^ t % 2=0∨x / 2 ^ t % 2=1:=by omega
  have PT:=hid hpt
  have HSE:=hid hse
  have HLO:=hid hlo
  have HQ:=hid hq
  have HLO3:=hid hlo3
  have NB:=hid (E1.out.nb (by decide))
  have HN:=hid hj
  clear hpt hti hlow hsz hse hlo hq hlo3 G1
  rcases hcase with hb | hb
  ·rw [hb] at hbt hg2
   have hbt0:bits .and .u32 ((x:Int) / 2 ^ t) 1=0:=hbt
   have HG2:=hid hg2
   clear hbt hb hg2
   go_wp2_with fail
   have hE2:EncAt (wr.setCell ⟨b,1,none⟩ (.int .u32 q)) 191 0 b base v1 (e1.half (0==1)):=by
    refine ⟨?_,E1.out.o.other (p:=⟨b,1,none⟩) NB.out _,(R1.out.half _).ok⟩
    have h9:=PT.out.set 1 (.int .u32 q)
    rw [← HQ.out,← HSE.out] at h9 ⊢
    exact h9
   have hF2:=F1.out.setCell (p:=⟨b,1,none⟩) (.inl rfl) (.int .u32 q)
   refine (eorder_p b base v1 _ _ hE2 (Nat.le_trans hbase hF2.size) (by have h1:(e1.half (0==1)).cnt=e1.cnt:=rfl;have h2:=N1.out;have h3:=HLEN.out;have h4:=HN.out;omega) (R1.out.half _)).mono ?_
   rintro r w3 ⟨v3,rfl,hE3,hF3,hM3⟩
   have E3:=hid hE3
   have F3:=hid (hF2.transR hF3 (fun q hq hh=>hh.elim .inl (fun h2=>M1.out.own q hq h2)))
   have M3:=hid (M1.out.trans hM3 hF2.size)
   clear hE2 hF2 hE3 hF3 hM3
   go_wp2
   exact ⟨⟨t,_,v3,by go_num,by have:=HN.out;omega,HG2.out,E3.out,R1.out.one _,by rw [Enc.order_closed];exact C1.out,by have h1:=Enc.one_cnt e1 (0==1);have h2:=N1.out;have h3:=HN.out;rw [Enc.one_half] at h1;omega,F3.out,M3.out⟩,by simp [intOf] <;> omega⟩
  rw [hb] at hbt hg2
  have hbt0:bits .and .u32 ((x:Int) / 2 ^ t) 1=1:=hbt
  have HG2:=hid hg2
  clear hbt hb hg2
  go_wp2
  have hP2:=PT.out.set 1 (.int .u32 q)
  have hO2:=E1.out.o.other (p:=⟨b,1,none⟩) NB.out (.int .u32 q)
  have hF2:=F1.out.setCell (p:=⟨b,1,none⟩) (.inl rfl) (.int .u32 q)
  generalize wr.setCell ⟨b,1,none⟩ (.int .u32 q)=w2 at *
  have e0:w2.cell? ⟨b,0,none⟩=some (.int .u64 lo):=by rw [hP2.cell,← HLO.out];rfl
  have e1':w2.cell? ⟨b,1,none⟩=some (.int .u32 q):=by rw [hP2.cell];rfl
  have k0:=hP2.frozen 0
  have P2:=hid hP2
  have O2:=hid hO2
  have F2:=hid hF2
  clear hP2 hO2 hF2 d0 d1 g0 g1
  go_still_tail 12,(by kernel_rfl)
  change wpList _ _ _ _ _ w2.drew
  go_wp2_with fail
  have hE3:EncAt (w2.setCell ⟨b,0,none⟩ (.int .u64 lo3)).drew 191 0 b base v1 (e1.half (1==1)):=by
   refine ⟨?_,O2.out.other (p:=⟨b,0,none⟩) NB.out _,(R1.out.half _).ok⟩
   have h9:=(P2.out.set 0 (.int .u64 lo3)).drew
   rw [← HLO3.out,← HLO.out,← HQ.out,← HSE.out] at h9 ⊢
   exact h9
  have hF3:=(F2.out.setCell (p:=⟨b,0,none⟩) (.inl rfl) (.int .u64 lo3)).drew
  refine (eorder_p b base v1 _ _ hE3 (Nat.le_trans hbase hF3.size) (by have h1:(e1.half (1==1)).cnt=e1.cnt:=rfl;have h2:=N1.out;have h3:=HLEN.out;have h4:=HN.out;omega) (R1.out.half _)).mono ?_
  rintro r w3 ⟨v3,rfl,hE4,hF4,hM4⟩
  have E3:=hid hE4
  have F3:=hid (hF3.transR hF4 (fun q hq hh=>hh.elim .inl (fun h2=>M1.out.own q hq h2)))
  have M3:=hid (M1.out.trans hM4 hF3.size)
  clear hE3 hF3 hE4 hF4 hM4
  go_wp2
  exact ⟨⟨t,_,v3,by go_num,by have:=HN.out;omega,HG2.out,E3.out,R1.out.one _,by rw [Enc.order_closed];exact C1.out,by have h1:=Enc.one_cnt e1 (1==1);have h2:=N1.out;have h3:=HN.out;rw [Enc.one_half] at h1;omega,F3.out,M3.out⟩,by simp [intOf] <;> omega⟩
open Go.RowKit Rng
theorem Rng.Enc.shifts_step (n:Nat) (e:Enc):Enc.shifts (n+1) e=Enc.shifts n e.shift:=rfl
theorem close_open {e:Enc} (h:e.closed=false):e.close=⟨(e.shifts 5).low,(e.shifts 5).size,(e.shifts 5).first,(e.shifts 5).more,(e.shifts 5).out,true⟩:=by
 unfold Enc.close;rw [if_neg (by rw [h];simp)]
theorem close_shut {e:Enc} (h:e.closed=true):e.close=e:=if_pos h
def Rng.Enc.fin (e:Enc):Enc:=if e.closed then e else e.shifts 5
theorem Rng.Enc.close_fin (e:Enc):e.close=⟨e.fin.low,e.fin.size,e.fin.first,e.fin.more,e.fin.out,true⟩:=by
 cases h:e.closed with
 | true=>rw [close_shut h];unfold Enc.fin;rw [if_pos h,← h]
 | false=>rw [close_open h];unfold Enc.fin;rw [if_neg (by rw [h];simp)]
theorem eclose_fin (T z b base n7:Nat) (v v1 v7:Value) (e1:Enc) (w wr w7:World) (E1:EncAt wr T z b base v1 e1) (hT:T≠5) (F1:Frm (fun x=>x=b∨v.ownBlock=some x) w wr) (M1:Moved w v v1)
 (hown7:OwnB w7 5 w.heap.size v7 e1.out) (hfrm7:Frm (fun k=>(Value.slice (some ⟨wr.heap.size,0,none⟩) 0 0).ownBlock=some k) ((wr.setCell ⟨b,5,none⟩ (.bool true)).alloc (.cells #[] 5)) w7)
 (hnew7:v7.ownBlock=(Value.slice (some ⟨wr.heap.size,0,none⟩) 0 0).ownBlock∨v7.ownBlock=some n7) (hn7:wr.heap.size≤n7) :
 EncAt w7 T z b base v1 ⟨e1.low,e1.size,e1.first,e1.more,e1.out,true⟩∧Frm (fun x=>x=b∨v.ownBlock=some x) w w7∧Moved w v v1∧OwnB w7 5 w.heap.size v7 e1.out∧(∀ q,v7.ownBlock=some q→v1.ownBlock≠some q):=by
 have hbw:=E1.p.lt
 have hnb:=E1.nb hT
 have hs1:=F1.size
 refine ⟨⟨((E1.p.set 5 (.bool true)).alloc _).frm hfrm7 (fun h=>by have h':wr.heap.size=b:=Option.some.inj h;omega),((E1.o.other (p:=⟨b,5,none⟩) hnb _).alloc _).frm hfrm7 (fun q hq h=>by have h':wr.heap.size=q:=Option.some.inj h;have:=(E1.o.lt hq).2;omega),⟨E1.k.l,E1.k.s⟩⟩,
  ((F1.setCell (p:=⟨b,5,none⟩) (.inl rfl) (.bool true)).alloc _).transR hfrm7 (fun q hq h=>by have h':wr.heap.size=q:=Option.some.inj h;omega),M1,hown7,?_⟩
 intro q hq h
 have h1:=(E1.o.lt h).2
 rcases hnew7 with h2 | h2
 ·rw [h2] at hq;have h':wr.heap.size=q:=Option.some.inj hq;omega
 rw [h2] at hq;have h':n7=q:=Option.some.inj hq;omega
set_option maxRecDepth 100000 in
set_option maxHeartbeats 2000000 in
theorem eclose_p (b base:Nat) (v:Value) (e:Enc) (w:World) (h:EncAt w 191 0 b base v e) (hbase:base≤w.heap.size) (hlen:e.cnt+5<1000000) :
 Calls Tryz.prog 79 #[.pointer (some ⟨b,0,none⟩)] w fun r w'=>∃ v' rv:Value,r=.returned rv∧EncAt w' 191 0 b base v' e.close ∧
  Frm (fun x=>x=b∨v.ownBlock=some x) w w'∧Moved w v v'∧OwnB w' 5 w.heap.size rv e.close.out∧(∀ q,rv.ownBlock=some q→v'.ownBlock≠some q):=by
 rw [Enc.close_fin]
 obtain ⟨G,hG⟩:∃ G,e.fin=G:=⟨_,rfl⟩
 rw [hG]
 cases hcl:e.closed with
 | true =>
  have hfe:e=G:=by rw [← hG];unfold Enc.fin;rw [if_pos hcl]
  subst hfe
  have hpt:=h.p
  have k5:w.cell? ⟨b,5,none⟩=some (.bool true):=by rw [hpt.cell,← hcl];rfl
  have g5:=hpt.frozen 5
  have hbw:=hpt.lt
  have PT:=hid hpt
  have E1:=hid h
  have NB:=hid (h.nb (by decide))
  obtain ⟨A0,k0,e8,hc0,hm0,hr0⟩:=h.o.slice
  have k4:w.cell? ⟨b,4,none⟩=some (.slice A0 e.out.length k0):=by rw [hpt.cell,← e8];rfl
  have hlo:e.out.length≤1000000:=by unfold Rng.Enc.cnt at hlen;omega
  have RW:=hid hr0
  have E8:=hid e8
  clear h hpt hG hcl hr0 e8 hlen
  go_enter Tryz.func79,Tryz.ntmps79
  go_wp2
  go_loopw [3] (fun iv wr=>iv=.int .i64 0∧w=wr) (fun _ _=>0)
  case atStart=>exact ⟨rfl,rfl⟩
  case round =>
   obtain ⟨rfl,rfl⟩:=hrel
   go_wp2_with (at_builtin;refine wpList_append_bytes _ rfl (.tmp 22) (.tmp 26) 27 rfl 5 w.heap.size Tryz.underlying27 Tryz.info_u8 (.slice (some ⟨w.heap.size,0,none⟩) 0 0) [] rfl ?own5 A0 e.out.length k0 w.heap.size e.out rfl rfl ?row5 ?len5 ?base5 ?next5)
   case own5 =>
    have h9:=OwnB.made (w.setCell ⟨b,5,none⟩ (.bool true)) 5 w.heap.size (by simp)
    rw [show (w.setCell ⟨b,5,none⟩ (.bool true)).heap.size=w.heap.size by simp] at h9
    exact h9
   case row5=>exact ((RW.out.off (fun h0 ad e9 hk=>by
    apply NB.out
    rw [E8.out,e9]
    show some ad.block=some b
    rw [hk]) ((Frm.refl (· = b) w).setCell (p:=⟨b,5,none⟩) (by rfl) (.bool true))).below (((Below.refl _ _).alloc (Nat.le_of_eq (by simp)) _)))
   case len5=>simp;omega
   case base5=>show w.heap.size≤((w.setCell ⟨b,5,none⟩ (.bool true)).heap.push _).size;rw [Array.size_push];simp
   case next5 =>
    intro v7 w7 hown7 hfrm7 hnew7
    have hfin:=hid (eclose_fin _ _ b base _ v v v7 e w w w7 E1.out (by decide) (Frm.refl _ _) (Moved.refl _ _) hown7 hfrm7 hnew7 (by simp))
    clear hown7 hfrm7 hnew7
    go_wp2
    go_ret
    exact ⟨v,v7,rfl,hfin.out⟩
 | false =>
  have hfe:e.shifts 5=G:=by rw [← hG];unfold Enc.fin;rw [if_neg (by rw [hcl];simp)]
  have HFE:=hid hfe
  have HE:=hid h
  have HCL:=hid hcl
  have HLEN:=hid hlen
  clear hG hcl hfe h hlen
  go_enter Tryz.func79,Tryz.ntmps79
  go_wp2
  go_loopw [3] (fun iv wr=>∃ (i:Nat) (e1:Enc) (v1:Value),iv=.int .i64 i∧i≤5∧e1.shifts (5-i)=G∧EncAt wr 191 0 b base v1 e1∧e1.closed=false∧e1.cnt≤e.cnt+i ∧
   Frm (fun x=>x=b∨v.ownBlock=some x) w wr∧Moved w v v1) (fun iv _=>5-(intOf iv).toNat)
  case atStart=>exact ⟨0,e,v,rfl,by omega,HFE.out,HE.out,HCL.out,by omega,Frm.refl _ _,Moved.refl _ _⟩
  obtain ⟨i,e1,v1,rfl,hi,hg,he1,hc1,hn1,hf1,hm1⟩:=hrel
  have hpt:=he1.p
  have E1:=hid he1
  have C1:=hid hc1
  have N1:=hid hn1
  have F1:=hid hf1
  have M1:=hid hm1
  have k5:wr.cell? ⟨b,5,none⟩=some (.bool false):=by rw [hpt.cell,← hc1];rfl
  have g5:=hpt.frozen 5
  have hbw:=hpt.lt
  clear hc1 hn1 hf1 hm1 HE HCL
  by_cases hlt:i<5
  ·have hg2:=hg
   rw [show 5-i=(5-(i+1))+1 by omega,Enc.shifts_step] at hg2
   have HG2:=hid hg2
   clear hg hg2 hpt he1
   go_wp2_with fail
   refine (eshift_p b base v1 e1 _ E1.out (Nat.le_trans hbase F1.out.size) (by have:=N1.out;have:=HLEN.out;omega)).mono ?_
   rintro r w3 ⟨v3,rfl,hE3,hF3,hM3⟩
   have E3:=hid hE3
   have F3:=hid (F1.out.transR hF3 (fun q hq hh=>hh.elim .inl (fun h2=>M1.out.own q hq h2)))
   have M3:=hid (M1.out.trans hM3 F1.out.size)
   clear hE3 hF3 hM3
   go_wp2
   exact ⟨⟨i+1,e1.shift,v3,by go_num,by omega,HG2.out,E3.out,by rw [Enc.shift_closed];exact C1.out,by rw [Enc.shift_cnt];have:=N1.out;omega,F3.out,M3.out⟩,by simp [intOf];omega⟩
  obtain rfl:i=5:=by omega
  have hg5:e1=G:=hg
  subst hg5
  have PT:=hid hpt
  have NB:=hid (he1.nb (by decide))
  obtain ⟨A0,k0,e8,hc0,hm0,hr0⟩:=he1.o.slice
  have k4:wr.cell? ⟨b,4,none⟩=some (.slice A0 e1.out.length k0):=by rw [hpt.cell,← e8];rfl
  have hlo:e1.out.length≤1000000:=by have h1:=N1.out;have h2:=HLEN.out;unfold Rng.Enc.cnt at h1 h2;omega
  have RW:=hid hr0
  have E8:=hid e8
  clear hg hpt he1 hr0 e8
  go_wp2_with (at_builtin;refine wpList_append_bytes _ rfl (.tmp 22) (.tmp 26) 27 rfl 5 w.heap.size Tryz.underlying27 Tryz.info_u8 (.slice (some ⟨wr.heap.size,0,none⟩) 0 0) [] rfl ?own6 A0 e1.out.length k0 wr.heap.size e1.out rfl rfl ?row6 ?len6 ?base6 ?next6)
  case own6 =>
   have h9:=OwnB.made (wr.setCell ⟨b,5,none⟩ (.bool true)) 5 w.heap.size (by have:=F1.out.size;simp;omega)
   rw [show (wr.setCell ⟨b,5,none⟩ (.bool true)).heap.size=wr.heap.size by simp] at h9
   exact h9
  case row6=>exact ((RW.out.off (fun h0 ad e9 hk=>by
   apply NB.out
   rw [E8.out,e9]
   show some ad.block=some b
   rw [hk]) ((Frm.refl (· = b) wr).setCell (p:=⟨b,5,none⟩) (by rfl) (.bool true))).below (((Below.refl _ _).alloc (Nat.le_of_eq (by simp)) _)))
  case len6=>simp;omega
  case base6=>show w.heap.size≤((wr.setCell ⟨b,5,none⟩ (.bool true)).heap.push _).size;rw [Array.size_push];have:=F1.out.size;simp;omega
  intro v7 w7 hown7 hfrm7 hnew7
  have hfin:=hid (eclose_fin _ _ b base _ v v1 v7 e1 w wr w7 E1.out (by decide) F1.out M1.out hown7 hfrm7 hnew7 (by simp))
  clear hown7 hfrm7 hnew7
  go_wp2
  go_ret
  exact ⟨v1,v7,rfl,hfin.out⟩
theorem enew_p (w:World):Calls Tryz.prog 76 #[] w fun r w'=>r=.returned (.pointer (some ⟨w.heap.size,0,none⟩))∧EncAt w' 191 0 w.heap.size w.heap.size (.slice none 0 0) newEnc∧Below w.heap.size w w':=by
 go_enter Tryz.func76,Tryz.ntmps76
 go_wp2
 go_ret
 exact ⟨rfl,⟨Pts.new _ _ _,OwnB.nil _ _ _,newEnc_run.ok⟩,(Below.refl _ _).alloc (Nat.le_refl _) _⟩
open Go.RowKit
namespace Opn
open Go.ChangeShapes Go.WideShapes Go.Deep
section
variable {H : Type} {enc : TypeId × Value → H} {P : Program} {w : World}
end
end Opn
end Go.Proofs.YtablgjhnpphodaaGreat
namespace Go.Proofs.YtablgjhnpphodaaGreat.Rng
open Go.RowKit
def num:List UInt8→Nat
 | []=>0
 | x::l=>x.toNat*256 ^ l.length+num l
theorem num_app:∀ (l m:List UInt8),num (l++m)=num l*256 ^ m.length+num m
 | [],m=>by simp [num]
 | x::l,m=>by
  show x.toNat*256 ^ (l++m).length+num (l++m)=(x.toNat*256 ^ l.length+num l)*256 ^ m.length+num m
  rw [num_app l m,List.length_append,Nat.pow_add,Nat.add_mul,Nat.mul_assoc,Nat.add_assoc]
theorem num_snoc (l:List UInt8) (x:UInt8):num (l++[x])=num l*256+x.toNat:=by
 rw [num_app];simp [num]
theorem num_lt:∀ l:List UInt8,num l<256 ^ l.length
 | []=>by simp [num]
 | x::l=>by
  have h:=num_lt l
  have hx:=x.toNat_lt
  show x.toNat*256 ^ l.length+num l<256 ^ (l.length+1)
  rw [Nat.pow_succ]
  generalize 256 ^ l.length=P at *
  have h2:x.toNat*P≤255*P:=Nat.mul_le_mul_right P (by omega)
  omega
theorem num_rep255:∀ n,num (List.replicate n (255:UInt8))+1=256 ^ n
 | 0=>rfl
 | n+1=>by
  have h:=num_rep255 n
  show (255:UInt8).toNat*256 ^ (List.replicate n (255:UInt8)).length+num (List.replicate n (255:UInt8))+1=256 ^ (n+1)
  rw [List.length_replicate,Nat.pow_succ]
  show 255*256 ^ n+_+1=_
  omega
theorem num_rep0:∀ n,num (List.replicate n (0:UInt8))=0
 | 0=>rfl
 | n+1=>by
  show (0:UInt8).toNat*_+num (List.replicate n (0:UInt8))=0
  rw [num_rep0 n]
  show 0*_+0=0
  simp
def Enc.pend (e:Enc):Nat:=num (e.out++e.first::List.replicate e.more 255)
def Enc.T (e:Enc):Nat:=e.pend*4294967296+e.low
def Enc.Good (e:Enc) (s:Nat):Prop:=e.low+s≤8589934592∧(e.first=255→e.low+s≤4294967296)
theorem shift_stay {e:Enc} (h:4278190080≤e.low∧e.low<4294967296):e.shift=⟨e.low*256 % 4294967296,e.size,e.first,e.more+1,e.out,e.closed⟩:=if_pos h
theorem shift_go {e:Enc} (h:¬ (4278190080≤e.low∧e.low<4294967296)):e.shift=⟨e.low*256 % 4294967296,e.size,UInt8.ofNat (e.low / 16777216),0,e.out++(e.first+e.carry)::List.replicate e.more (255+e.carry),e.closed⟩:=if_neg h
theorem num_wait (o:List UInt8) (f:UInt8) (n:Nat):num (o++f::List.replicate n 255)+1=(num o*256+f.toNat+1)*256 ^ n:=by
 rw [num_app]
 show num o*256 ^ (f::List.replicate n (255:UInt8)).length+(f.toNat*256 ^ (List.replicate n (255:UInt8)).length+num (List.replicate n (255:UInt8)))+1=_
 have h:=num_rep255 n
 rw [List.length_cons,List.length_replicate,Nat.pow_succ,Nat.add_mul,Nat.add_mul]
 have e1:num o*(256 ^ n*256)=num o*256*256 ^ n:=by rw [Nat.mul_comm (256 ^ n) 256,Nat.mul_assoc]
 rw [e1]
 omega
theorem num_turn (o:List UInt8) (f:UInt8) (n:Nat) (hf:f≠255):num (o++(f+1)::List.replicate n 0)=num (o++f::List.replicate n 255)+1:=by
 rw [num_wait,num_app]
 show num o*256 ^ ((f+1)::List.replicate n (0:UInt8)).length+((f+1).toNat*256 ^ (List.replicate n (0:UInt8)).length+num (List.replicate n (0:UInt8)))=_
 have hn:f.toNat≠255:=fun h=>hf (UInt8.toNat_inj.1 h)
 have hl:=f.toNat_lt
 have e2:(f+1).toNat=f.toNat+1:=by
  rw [UInt8.toNat_add]
  show (f.toNat+1) % 256=_
  omega
 rw [num_rep0,List.length_cons,List.length_replicate,Nat.pow_succ,e2,Nat.add_mul (num o*256+f.toNat),Nat.add_mul]
 have e1:num o*(256 ^ n*256)=num o*256*256 ^ n:=by rw [Nat.mul_comm (256 ^ n) 256,Nat.mul_assoc]
 rw [e1,Nat.add_mul (num o*256)]
 omega
theorem shift_T {e:Enc} {s:Nat} (h:e.Good s) (hs:1≤s):e.shift.T=e.T*256:=by
 obtain ⟨h1,h2⟩:=h
 by_cases hc:4278190080≤e.low∧e.low<4294967296
 ·rw [shift_stay hc]
  show num (e.out++e.first::List.replicate (e.more+1) 255)*4294967296+e.low*256 % 4294967296=(num (e.out++e.first::List.replicate e.more 255)*4294967296+e.low)*256
  have e1:e.out++e.first::List.replicate (e.more+1) (255:UInt8)=(e.out++e.first::List.replicate e.more 255)++[255]:=by
   rw [List.replicate_succ'];simp
  rw [e1,num_snoc]
  generalize num (e.out++e.first::List.replicate e.more 255)=N
  show (N*256+255)*4294967296+_=_
  generalize e.low=L at *
  omega
 rw [shift_go hc]
 show num ((e.out++(e.first+e.carry)::List.replicate e.more (255+e.carry))++UInt8.ofNat (e.low / 16777216)::List.replicate 0 255)*4294967296+e.low*256 % 4294967296=(num (e.out++e.first::List.replicate e.more 255)*4294967296+e.low)*256
 have e3:(UInt8.ofNat (e.low / 16777216)).toNat=e.low / 16777216 % 256:=by rw [UInt8.toNat_ofNat']
 rw [show (UInt8.ofNat (e.low / 16777216)::List.replicate 0 255:List UInt8)=[UInt8.ofNat (e.low / 16777216)] from rfl,num_snoc,e3]
 by_cases hl:e.low<4294967296
 ·have hcar:e.carry=0:=by
   unfold Enc.carry
   rw [Nat.div_eq_of_lt hl];rfl
  rw [hcar,UInt8.add_zero,UInt8.add_zero]
  generalize num (e.out++e.first::List.replicate e.more 255)=N
  generalize e.low=L at *
  omega
 have hcar:e.carry=1:=by
  unfold Enc.carry
  have:e.low / 4294967296=1:=by omega
  rw [this];rfl
 have hf:e.first≠255:=fun hf=>by have:=h2 hf;omega
 rw [hcar,show (255:UInt8)+1=0 from rfl,num_turn _ _ _ hf]
 generalize num (e.out++e.first::List.replicate e.more 255)=N
 generalize e.low=L at *
 omega
theorem Enc.Good.shift {e:Enc} {s:Nat} (h:e.Good s) (hs2:s≤16777216):e.shift.Good (s*256):=by
 obtain ⟨h1,h2⟩:=h
 refine ⟨?_,?_⟩
 ·rw [Enc.shift_low]
  omega
 by_cases hc:4278190080≤e.low∧e.low<4294967296
 ·rw [shift_stay hc]
  intro hf
  have h3:=h2 hf
  show e.low*256 % 4294967296+s*256≤_
  omega
 rw [shift_go hc]
 intro hf
 show e.low*256 % 4294967296+s*256≤_
 have e3:(UInt8.ofNat (e.low / 16777216)).toNat=e.low / 16777216 % 256:=by rw [UInt8.toNat_ofNat']
 have e4:(UInt8.ofNat (e.low / 16777216)).toNat=255:=congrArg UInt8.toNat hf
 rw [e3] at e4
 omega
theorem Enc.Good.less {e:Enc} {s s':Nat} (h:e.Good s) (hs:s'≤s):e.Good s':=by
 obtain ⟨h1,h2⟩:=h
 exact ⟨by omega,fun hf=>by have:=h2 hf;omega⟩
theorem Enc.Good.shifts:∀ (n:Nat) {e:Enc},e.Good 1→(Enc.shifts n e).Good 1∧(Enc.shifts n e).T=e.T*256 ^ n∧(Enc.shifts n e).cnt=e.cnt+n
 | 0,e,h=>⟨h,by show e.T=e.T*256 ^ 0;simp,rfl⟩
 | n+1,e,h=>by
  have h1:e.shift.Good 1:=(h.shift (by decide)).less (by decide)
  obtain ⟨a1,a2,a3⟩:=Enc.Good.shifts n h1
  refine ⟨a1,?_,?_⟩
  ·show (Enc.shifts n e.shift).T=_
   rw [a2,shift_T h (Nat.le_refl _),Nat.pow_succ,Nat.mul_assoc,Nat.mul_comm 256]
  show (Enc.shifts n e.shift).cnt=_
  rw [a3,Enc.shift_cnt];omega
theorem five (e:Enc):(e.shifts 5).low=0∧(e.shifts 5).first=0∧(e.shifts 5).more=0:=by
 have h4:(e.shifts 4).low=0:=by
  show e.shift.shift.shift.shift.low=0
  rw [Enc.shift_low,Enc.shift_low,Enc.shift_low,Enc.shift_low]
  omega
 have h5:e.shifts 5=(e.shifts 4).shift:=rfl
 rw [h5,shift_go (by rw [h4];omega),h4]
 exact ⟨rfl,rfl,rfl⟩
theorem close_num {e:Enc} (hg:e.Good 1) (hc:e.closed=false):num e.close.out=e.T∧e.close.out.length=e.cnt+5:=by
 rw [close_open hc]
 obtain ⟨a1,a2,a3⟩:=Enc.Good.shifts 5 hg
 obtain ⟨b1,b2,b3⟩:=five e
 unfold Enc.T Enc.pend at a2
 unfold Enc.cnt at a3
 rw [b1,b2,b3] at a2
 rw [b3] at a3
 refine ⟨?_,a3⟩
 show num (e.shifts 5).out=e.T
 rw [show ((0:UInt8)::List.replicate 0 255:List UInt8)=[0] from rfl,num_snoc] at a2
 have h0:((0:UInt8).toNat)=0:=rfl
 rw [h0] at a2
 have e5:(256:Nat) ^ 5=1099511627776:=by decide
 rw [e5] at a2
 unfold Enc.T Enc.pend
 generalize num (e.shifts 5).out=X at *
 omega
def Sub (e f:Enc):Prop:=∃ m,f.cnt=e.cnt+m∧e.T*256 ^ m≤f.T∧f.T+f.size≤(e.T+e.size)*256 ^ m
theorem Sub.refl (e:Enc):Sub e e:=⟨0,rfl,by simp,by simp⟩
theorem Sub.trans {e f g:Enc} (h:Sub e f) (k:Sub f g):Sub e g:=by
 obtain ⟨m,h1,h2,h3⟩:=h
 obtain ⟨n,k1,k2,k3⟩:=k
 refine ⟨m+n,by omega,?_,?_⟩
 ·rw [Nat.pow_add,← Nat.mul_assoc]
  exact Nat.le_trans (Nat.mul_le_mul_right _ h2) k2
 rw [Nat.pow_add,← Nat.mul_assoc]
 exact Nat.le_trans k3 (Nat.mul_le_mul_right _ h3)
theorem sub_cut {e:Enc} (h:e.Run) {c:Nat} (h1:31≤c) (h2:c≤2017) (one:Bool):Sub e (e.cut c one):=by
 have hb:=bound_bd h.s.1 h1 h2
 refine ⟨0,by rw [Enc.cut_cnt];rfl,?_,?_⟩
 ·unfold Enc.cut;cases one
  ·show e.T*1≤e.T;omega
  show e.T*1≤e.pend*4294967296+(e.low+e.size / 2048*c)
  unfold Enc.T;omega
 unfold Enc.cut;cases one
 ·show e.T+e.size / 2048*c≤(e.T+e.size)*1;omega
 show e.pend*4294967296+(e.low+e.size / 2048*c)+(e.size-e.size / 2048*c)≤(e.T+e.size)*1
 unfold Enc.T;omega
theorem sub_half (e:Enc) (one:Bool):Sub e (e.half one):=by
 refine ⟨0,rfl,?_,?_⟩
 ·unfold Enc.half;cases one
  ·show e.T*1≤e.T;omega
  show e.T*1≤e.pend*4294967296+(e.low+e.size / 2)
  unfold Enc.T;omega
 unfold Enc.half;cases one
 ·show e.T+e.size / 2≤(e.T+e.size)*1;omega
 show e.pend*4294967296+(e.low+e.size / 2)+e.size / 2≤(e.T+e.size)*1
 unfold Enc.T;omega
theorem order_more {e:Enc} (hg:e.Good e.size) (hs:1≤e.size) (h:e.size<16777216):e.order.T=e.T*256∧e.order.size=e.size*256∧e.order.cnt=e.cnt+1∧e.order.Good e.order.size:=by
 have hg2:Enc.Good ⟨e.low,e.size*256,e.first,e.more,e.out,e.closed⟩ e.size:=hg
 have ho:e.order=Enc.shift ⟨e.low,e.size*256,e.first,e.more,e.out,e.closed⟩:=if_pos h
 rw [ho]
 refine ⟨?_,?_,?_,?_⟩
 ·rw [shift_T hg2 hs];rfl
 ·rw [Enc.shift_size]
 ·rw [Enc.shift_cnt];rfl
 rw [Enc.shift_size];exact hg2.shift (by omega)
theorem sub_order {e:Enc} (hg:e.Good e.size) (hs:1≤e.size):Sub e e.order∧e.order.Good e.order.size:=by
 by_cases h:e.size<16777216
 ·obtain ⟨a1,a2,a3,a4⟩:=order_more hg hs h
  refine ⟨⟨1,a3,?_,?_⟩,a4⟩
  ·rw [a1,Nat.pow_one];exact Nat.le_refl _
  rw [a1,a2,Nat.pow_one,Nat.add_mul];exact Nat.le_refl _
 have ho:e.order=e:=if_neg h
 rw [ho]
 exact ⟨Sub.refl e,hg⟩
theorem good_cut {e:Enc} (hr:e.Run) (hg:e.Good e.size) {c:Nat} (h1:31≤c) (h2:c≤2017) (one:Bool):(e.cut c one).Good (e.cut c one).size:=by
 have hb:=bound_bd hr.s.1 h1 h2
 obtain ⟨g1,g2⟩:=hg
 unfold Enc.cut;cases one
 ·exact ⟨by show e.low+e.size / 2048*c≤_;omega,fun hf=>by have:=g2 hf;show e.low+e.size / 2048*c≤_;omega⟩
 exact ⟨by show e.low+e.size / 2048*c+(e.size-e.size / 2048*c)≤_;omega,fun hf=>by have:=g2 hf;show e.low+e.size / 2048*c+(e.size-e.size / 2048*c)≤_;omega⟩
theorem good_half {e:Enc} (hg:e.Good e.size) (one:Bool):(e.half one).Good (e.half one).size:=by
 obtain ⟨g1,g2⟩:=hg
 unfold Enc.half;cases one
 ·exact ⟨by show e.low+e.size / 2≤_;omega,fun hf=>by have:=g2 hf;show e.low+e.size / 2≤_;omega⟩
 exact ⟨by show e.low+e.size / 2+e.size / 2≤_;omega,fun hf=>by have:=g2 hf;show e.low+e.size / 2+e.size / 2≤_;omega⟩
theorem sub_bit {e:Enc} (hr:e.Run) (hg:e.Good e.size) {c:Nat} (h1:31≤c) (h2:c≤2017) (one:Bool):Sub (e.cut c one) (e.bit c one)∧Sub e (e.bit c one)∧(e.bit c one).Good (e.bit c one).size:=by
 have hp:=hr.cut h1 h2 one
 obtain ⟨a,b⟩:=sub_order (good_cut hr hg h1 h2 one) (by have:=hp.s;omega)
 exact ⟨a,(sub_cut hr h1 h2 one).trans a,b⟩
theorem sub_one {e:Enc} (hr:e.Run) (hg:e.Good e.size) (one:Bool):Sub (e.half one) (e.one one)∧Sub e (e.one one)∧(e.one one).Good (e.one one).size:=by
 have hp:=hr.half one
 obtain ⟨a,b⟩:=sub_order (good_half hg one) (by have:=hp.s;omega)
 exact ⟨a,(sub_half e one).trans a,b⟩
theorem sub_direct (x:Nat):∀ (n:Nat) {e:Enc},e.Run→e.Good e.size→Sub e (Enc.direct x n e)∧(Enc.direct x n e).Good (Enc.direct x n e).size
 | 0,e,hr,hg=>⟨Sub.refl e,hg⟩
 | n+1,e,hr,hg=>by
  obtain ⟨a,b,c⟩:=sub_one hr hg (x / 2 ^ n % 2==1)
  obtain ⟨d1,d2⟩:=sub_direct x n (Enc.Run.one hr (x / 2 ^ n % 2==1)) c
  exact ⟨b.trans d1,d2⟩
structure Like (B:List UInt8) (e:Enc) (d:Dec):Prop where
 code:d.code+e.T=num (B.take (e.cnt+5))
 size:d.size=e.size
 rest:d.rest=B.drop (e.cnt+5)
 want:d.want=false
structure Told (B:List UInt8) (f:Enc):Prop where
 n:num B=f.T
 l:B.length=f.cnt+5
 s:1≤f.size
theorem told_range {B:List UInt8} {e f:Enc} (h:Told B f) (hs:Sub e f):e.T≤num (B.take (e.cnt+5))∧num (B.take (e.cnt+5))<e.T+e.size:=by
 obtain ⟨m,h1,h2,h3⟩:=hs
 have hl:=h.l
 have hn:=h.n
 have hsz:=h.s
 have hsplit:=num_app (B.take (e.cnt+5)) (B.drop (e.cnt+5))
 have hlt:=num_lt (B.drop (e.cnt+5))
 rw [List.take_append_drop] at hsplit
 have hdl:(B.drop (e.cnt+5)).length=m:=by rw [List.length_drop];omega
 rw [hdl] at hsplit hlt
 generalize num (B.take (e.cnt+5))=N at *
 generalize num (B.drop (e.cnt+5))=R at *
 have hP:0<256 ^ m:=Nat.pow_pos (by decide)
 generalize 256 ^ m=P at *
 refine ⟨?_,?_⟩
 ·have h5:e.T*P<(N+1)*P:=by rw [Nat.add_mul,Nat.one_mul];omega
  have:=Nat.lt_of_mul_lt_mul_right h5
  omega
 have h5:N*P<(e.T+e.size)*P:=by omega
 exact Nat.lt_of_mul_lt_mul_right h5
theorem take_more {B:List UInt8} {j:Nat} (h:j<B.length):num (B.take (j+1))=num (B.take j)*256+(B.getD j 0).toNat∧B.drop j=B.getD j 0::B.drop (j+1):=by
 have e1:B.take (j+1)=B.take j++[B.getD j 0]:=by
  rw [List.take_add_one,List.getElem?_eq_getElem h]
  simp [List.getD,List.getElem?_eq_getElem h]
 refine ⟨by rw [e1,num_snoc],?_⟩
 rw [List.drop_eq_getElem_cons h]
 simp [List.getD,List.getElem?_eq_getElem h]
theorem Like.order {B:List UInt8} {e f:Enc} {d:Dec} (k:Like B e d) (ht:Told B f) (hg:e.Good e.size) (hs:1≤e.size) (hsub:Sub e.order f):Like B e.order d.order:=by
 by_cases h:e.size<16777216
 ·obtain ⟨a1,a2,a3,a4⟩:=order_more hg hs h
  have hrange:=told_range ht ((sub_order hg hs).1.trans hsub)
  obtain ⟨m,h1,_,_⟩:=hsub
  rw [a3] at h1
  have hl:=ht.l
  have hj:e.cnt+5<B.length:=by omega
  obtain ⟨b1,b2⟩:=take_more hj
  have hx:=(B.getD (e.cnt+5) 0).toNat_lt
  have hcode:=k.code
  have hsz:=k.size
  have hr:=k.rest
  rw [b2] at hr
  have ho:d.order=⟨B.drop (e.cnt+5+1),d.size*256,d.code*256 % 4294967296+(B.getD (e.cnt+5) 0).toNat,d.want⟩:=by
   unfold Dec.order
   rw [if_neg (by omega),hr]
  rw [ho]
  generalize (B.getD (e.cnt+5) 0)=x at *
  refine ⟨?_,?_,?_,k.want⟩
  ·show d.code*256 % 4294967296+x.toNat+e.order.T=_
   rw [a1,a3,show e.cnt+1+5=e.cnt+5+1 by omega,b1]
   generalize num (B.take (e.cnt+5))=N at *
   generalize e.T=T at *
   omega
  ·show d.size*256=_;rw [a2,hsz]
  show _=B.drop (e.order.cnt+5);rw [a3]
 have ho:e.order=e:=if_neg h
 have hd:d.order=d:=by
  unfold Dec.order
  rw [if_pos (by have:=k.size;omega)]
 rw [ho,hd];exact k
theorem Like.bit {B:List UInt8} {e f:Enc} {d:Dec} (k:Like B e d.order) (ht:Told B f) {c:Nat} (one:Bool) (hsub:Sub (e.cut c one) f) (hle:e.size / 2048*c≤e.size):(d.bit c).1=one∧Like B (e.cut c one) (d.bit c).2:=by
 have hr:=told_range ht hsub
 rw [Enc.cut_cnt] at hr
 have h1:=k.code
 have h2:=k.size
 have h3:=k.rest
 have h4:=k.want
 unfold Dec.bit
 simp only
 generalize d.order=D at *
 cases one
 ·have hr2:num (B.take (e.cnt+5))<e.T+e.size / 2048*c:=hr.2
  have hlt:D.code<D.size / 2048*c:=by rw [h2];omega
  rw [if_pos hlt]
  refine ⟨rfl,?_,?_,h3,h4⟩
  ·exact h1
  show D.size / 2048*c=e.size / 2048*c;rw [h2]
 have hr1:e.pend*4294967296+(e.low+e.size / 2048*c)≤num (B.take (e.cnt+5)):=hr.1
 have hT:e.T=e.pend*4294967296+e.low:=rfl
 have hlt:¬ D.code<D.size / 2048*c:=by rw [h2];omega
 rw [if_neg hlt]
 refine ⟨rfl,?_,?_,h3,h4⟩
 ·show D.code-D.size / 2048*c+(e.pend*4294967296+(e.low+e.size / 2048*c))=_
  have h9:(e.cut c true).cnt=e.cnt:=rfl
  rw [h9,h2]
  rw [h2] at hlt
  omega
 show D.size-D.size / 2048*c=e.size-e.size / 2048*c;rw [h2]
theorem Like.one {B:List UInt8} {e f:Enc} {d:Dec} (k:Like B e d.order) (ht:Told B f) (one:Bool) (hsub:Sub (e.half one) f):d.one.1=one∧Like B (e.half one) d.one.2:=by
 have hr:=told_range ht hsub
 have h1:=k.code
 have h2:=k.size
 have h3:=k.rest
 have h4:=k.want
 unfold Dec.one
 simp only
 generalize d.order=D at *
 cases one
 ·have hr2:num (B.take (e.cnt+5))<e.T+e.size / 2:=hr.2
  have hlt:D.code<D.size / 2:=by rw [h2];omega
  rw [if_pos hlt]
  refine ⟨rfl,?_,?_,h3,h4⟩
  ·exact h1
  show D.size / 2=e.size / 2;rw [h2]
 have hr1:e.pend*4294967296+(e.low+e.size / 2)≤num (B.take (e.cnt+5)):=hr.1
 have hT:e.T=e.pend*4294967296+e.low:=rfl
 have hlt:¬ D.code<D.size / 2:=by rw [h2];omega
 rw [if_neg hlt]
 refine ⟨rfl,?_,?_,h3,h4⟩
 ·show D.code-D.size / 2+(e.pend*4294967296+(e.low+e.size / 2))=num (B.take (e.cnt+5))
  rw [h2]
  rw [h2] at hlt
  omega
 show D.size / 2=e.size / 2;rw [h2]
theorem Like.direct {B:List UInt8} {f:Enc} (ht:Told B f) (x:Nat):∀ (n x0:Nat) {e:Enc} {d:Dec},Like B e d.order→e.Run→e.Good e.size→Sub (Enc.direct x n e) f→n≤32→x0<2 ^ (32-n) →
 (Dec.direct n x0 d).1=x0*2 ^ n+x % 2 ^ n∧Like B (Enc.direct x n e) (Dec.direct n x0 d).2.order
 | 0,x0,e,d,k,hr,hg,hsub,hn,h0=>by
  refine ⟨?_,k⟩
  show x0=x0*2 ^ 0+x % 2 ^ 0
  rw [Nat.pow_zero,Nat.mod_one];omega
 | n+1,x0,e,d,k,hr,hg,hsub,hn,h0=>by
  obtain ⟨b,hb⟩:∃ b,(x / 2 ^ n % 2==1)=b:=⟨_,rfl⟩
  have hsub':Sub (Enc.direct x n (e.one b)) f:=by rw [← hb];exact hsub
  obtain ⟨s1,s2,s3⟩:=sub_one hr hg b
  have hr1:=Enc.Run.one hr b
  obtain ⟨s4,s5⟩:=sub_direct x n hr1 s3
  obtain ⟨k1,k2⟩:=k.one ht b (s1.trans (s4.trans hsub'))
  have k3:Like B (e.one b) d.one.2.order:=k2.order ht (good_half hg b) (by have:=(hr.half b).s;omega) (s4.trans hsub')
  have hp:2 ^ (32-n)=2 ^ (32-(n+1))*2:=by rw [← Nat.pow_succ];congr 1;omega
  have hle:2 ^ (32-n)≤2 ^ 32:=Nat.pow_le_pow_right (by decide) (by omega)
  have h32:(2:Nat) ^ 32=4294967296:=by decide
  have hx0:x0*2 % 4294967296=x0*2:=Nat.mod_eq_of_lt (by omega)
  have hbit:(if d.one.1 then 1 else 0)=x / 2 ^ n % 2:=by
   rw [k1,← hb]
   rcases Nat.mod_two_eq_zero_or_one (x / 2 ^ n) with h | h <;> rw [h] <;> rfl
  have hb2:=Nat.mod_lt (x / 2 ^ n) (show 2 > 0 by decide)
  have e1:Dec.direct (n+1) x0 d=Dec.direct n (x0*2+x / 2 ^ n % 2) d.one.2:=by
   show Dec.direct n (x0*2 % 4294967296+(if d.one.1 then 1 else 0)) d.one.2=_
   rw [hx0,hbit]
  have e2:Enc.direct x (n+1) e=Enc.direct x n (e.one b):=by rw [← hb];rfl
  obtain ⟨r1,r2⟩:=Like.direct ht x n (x0*2+x / 2 ^ n % 2) k3 hr1 s3 hsub' (by omega) (by omega)
  rw [e1,e2]
  refine ⟨?_,r2⟩
  rw [r1,Nat.mod_pow_succ,Nat.pow_succ,Nat.add_mul,Nat.mul_assoc,Nat.mul_comm 2 (2 ^ n),Nat.mul_comm (x / 2 ^ n % 2)]
  omega
theorem told_head {B:List UInt8} {f:Enc} (ht:Told B f) (hs:Sub newEnc f):newErr B=0∧Like B newEnc (newDec B).order:=by
 have hl:=ht.l
 obtain ⟨hr1,hr2⟩:=told_range ht hs
 have hT:newEnc.T=0:=rfl
 have hc:newEnc.cnt=0:=rfl
 have hz:newEnc.size=4294967295:=rfl
 rw [hT,hc,hz] at hr2
 match B,hl,hr2 with
 | b0::b1::b2::b3::b4::R,hl,hr2 =>
  have e5:num ((b0::b1::b2::b3::b4::R).take (0+5))=(((b0.toNat*256+b1.toNat)*256+b2.toNat)*256+b3.toNat)*256+b4.toNat:=by
   show b0.toNat*256 ^ 4+(b1.toNat*256 ^ 3+(b2.toNat*256 ^ 2+(b3.toNat*256 ^ 1+(b4.toNat*256 ^ 0+0))))=_
   omega
  rw [e5] at hr2
  have hb0:b0.toNat=0:=by omega
  have hb0':b0=0:=UInt8.toNat_inj.1 hb0
  refine ⟨?_,?_⟩
  ·unfold newErr
   rw [if_neg (by simp),if_pos (by rw [hb0'];rfl)]
  have ho:(newDec (b0::b1::b2::b3::b4::R)).order=newDec (b0::b1::b2::b3::b4::R):=if_pos (by show 16777216≤4294967295;omega)
  rw [ho]
  refine ⟨?_,rfl,rfl,rfl⟩
  rw [hT,hc,e5,hb0]
  show be4 _+0=_
  unfold be4
  simp
end Go.Proofs.YtablgjhnpphodaaGreat.Rng
namespace Go.Proofs.YtablgjhnpphodaaGreat.Lz
open Go.RowKit Rng Win
def inC:Cod Enc:=⟨fun e c x=>(decide (x≠0),e.bit c (decide (x≠0))),fun e x n=>(x % 2 ^ n,Enc.direct x n e)⟩
structure EncI (e:Enc):Prop where
 r:e.Run
 g:e.Good e.size
 c:e.closed=false
theorem closed_shift (e:Enc):e.shift.closed=e.closed:=by
 unfold Enc.shift
 split <;> rfl
theorem closed_order (e:Enc):e.order.closed=e.closed:=by
 unfold Enc.order
 split
 ·exact closed_shift _
 rfl
theorem closed_bit (e:Enc) (c:Nat) (one:Bool):(e.bit c one).closed=e.closed:=by
 unfold Enc.bit
 rw [closed_order]
 split <;> rfl
theorem closed_direct (x:Nat):∀ (n:Nat) (e:Enc),(Enc.direct x n e).closed=e.closed
 | 0,_=>rfl
 | n+1,e=>by
  show (Enc.direct x n (e.one (x / 2 ^ n % 2==1))).closed=_
  rw [closed_direct x n]
  unfold Enc.one
  rw [closed_order]
theorem encI_stays:Stays inC EncI :=
 ⟨fun t p x h=>⟨h.r.bit (fair_bd p).1 (fair_bd p).2 _,(sub_bit h.r h.g (fair_bd p).1 (fair_bd p).2 _).2.2,(closed_bit t _ _).trans h.c⟩,
  fun t x n h=>⟨h.r.direct,(sub_direct x n h.r h.g).2,(closed_direct x n t).trans h.c⟩⟩
def RD (B:List UInt8) (e:Enc) (d:Dec):Prop:=Like B e d.order
theorem ranges_back {B:List UInt8} {F:Enc} (ht:Rng.Told B F):Backs inC outC (RD B) EncI (fun e=>Sub e F) where
 inv:=encI_stays
 back:=fun s p x h hs=>(sub_bit h.r h.g (fair_bd p).1 (fair_bd p).2 _).2.1.trans hs
 backD:=fun s x n h hs=>(sub_direct x n h.r h.g).1.trans hs
 two:=by
  intro s t p x y h hk hs
  obtain ⟨h1,h2,h3⟩:=sub_bit h.r h.g (fair_bd p).1 (fair_bd p).2 (decide (x≠0))
  have hb:=bound_le s.size (fair p) (fair_bd p).2
  obtain ⟨k1,k2⟩:=Like.bit hk ht (decide (x≠0)) (h1.trans hs) hb
  refine ⟨k1.symm,?_⟩
  have hg:=good_cut h.r h.g (fair_bd p).1 (fair_bd p).2 (decide (x≠0))
  have hp:=(h.r.cut (fair_bd p).1 (fair_bd p).2 (decide (x≠0)))
  exact k2.order ht hg (by have:=hp.s;omega) hs
 twoD:=by
  intro s t x y n hn h hk hs
  obtain ⟨k1,k2⟩:=Like.direct ht x n 0 hk h.r h.g hs hn (Nat.two_pow_pos _)
  refine ⟨?_,k2⟩
  show x % 2 ^ n=(t.direct n 0).1
  rw [k1];omega
theorem told_end {B:List UInt8} {F:Enc} (ht:Rng.Told B F) {d:Dec} (h:RD B F d):d.fin=(0,0):=by
 have h1:=h.code
 have h2:=h.rest
 have h3:=h.want
 rw [← ht.l,List.take_of_length_le (Nat.le_refl _),ht.n] at h1
 rw [← ht.l,List.drop_of_length_le (Nat.le_refl _)] at h2
 unfold Dec.fin
 rw [if_neg (by rw [h3];decide),if_neg (by omega),h2]
 rfl
theorem told_close {F:Enc} (h:EncI F):Rng.Told F.close.out F:=by
 obtain ⟨h1,h2⟩:=close_num (h.g.less (by have:=h.r.s;omega)) h.c
 exact ⟨h1,h2,by have:=h.r.s;omega⟩
theorem encI_new:EncI newEnc:=⟨newEnc_run,by unfold Enc.Good;exact ⟨by decide,fun h=>by cases h⟩,rfl⟩
end Go.Proofs.YtablgjhnpphodaaGreat.Lz
namespace Go.Proofs.YtablgjhnpphodaaGreat
open Lib (hid)
open Go.RowKit Rng Win Lz
theorem bitIn_val (i x:Nat) (s:CP Enc) (h:x≤1):(bitAt inC i x s).1=x:=by
 unfold bitAt inC b2n
 simp only
 by_cases h0:x=0
 ·subst h0;rfl
 obtain rfl:x=1:=by omega
 rfl
theorem treeIn_val (base x:Nat):∀ (n m:Nat) (s:CP Enc),(treeGo inC base x n m s).1=m*2 ^ n+x % 2 ^ n
 | 0,m,s=>by
  show m=m*2 ^ 0+x % 2 ^ 0
  rw [Nat.pow_zero,Nat.mod_one];omega
 | n+1,m,s=>by
  unfold treeGo
  have hb:x / 2 ^ n % 2≤1:=by have:=Nat.mod_lt (x / 2 ^ n) (show 2 > 0 by decide);omega
  rw [treeIn_val base x n,bitIn_val _ _ _ hb,Nat.mod_pow_succ,Nat.pow_succ,Nat.add_mul,Nat.mul_assoc 2 m,Nat.mul_comm (x / 2 ^ n % 2)]
  have e:m*(2 ^ n*2)=2*(m*2 ^ n):=by rw [← Nat.mul_assoc,Nat.mul_comm]
  rw [e]
  omega
theorem cnt_treeIn (base x:Nat):∀ (n m:Nat) (s:CP Enc),(treeGo inC base x n m s).2.d.cnt≤s.d.cnt+n
 | 0,m,s=>Nat.le_refl _
 | n+1,m,s=>by
  unfold treeGo
  have h1:=cnt_treeIn base x n (2*m+(bitAt inC (base+m) (x / 2 ^ n % 2) s).1) (bitAt inC (base+m) (x / 2 ^ n % 2) s).2
  have h2:(bitAt inC (base+m) (x / 2 ^ n % 2) s).2.d.cnt≤s.d.cnt+1:=Enc.bit_cnt _ _ _
  omega
open Go.RowKit Rng Lz
theorem nil_in (v : Value) (w : World) : (nilAhead 371 169 v "Bit").run Tryz.prog w = .ok (some false) w := by kernel_rfl
theorem meth_inbit (v : Value) (w : World) : (method 371 169 v "Bit").run Tryz.prog w = .ok (88, v) w := by kernel_rfl
theorem meth_indir (v : Value) (w : World) : (method 371 169 v "Direct").run Tryz.prog w = .ok (156, v) w := by kernel_rfl
def IC (b:Nat) (O:Nat→Prop) (w:World) (e:Enc):Prop:=(∃ v,EncAt w 191 0 b 0 v e∧∀ q,v.ownBlock=some q→O q)∧O b∧(∀ q,w.heap.size≤q→O q)∧EncI e
def inV (b:Nat):Value:=.agg #[.pointer (some ⟨b,0,none⟩)]
theorem IC.keep (b:Nat) (O:Nat→Prop):KeepOK (IC b O) O:=by
 intro N w w' s h hf hN
 obtain ⟨⟨v,hv,hvo⟩,hb,hz,hi⟩:=h
 exact ⟨⟨v,⟨hv.p.frm hf (hN b hb),hv.o.frm hf (fun q hq=>hN q (hvo q hq)),hv.k⟩,hvo⟩,hb,fun q hq=>hz q (Nat.le_trans hf.size hq),hi⟩
theorem IC.moved {b:Nat} {O:Nat→Prop} {w w':World} {e:Enc} {v v':Value} (hz:∀ q,w.heap.size≤q→O q) (hvo:∀ q,v.ownBlock=some q→O q) (hb:O b) (hs:w.heap.size≤w'.heap.size) (h:EncAt w' 191 0 b 0 v' e) (hm:∀ q,v'.ownBlock=some q→v.ownBlock=some q∨w.heap.size≤q) (hi:EncI e):IC b O w' e :=
 ⟨⟨v',h,fun q hq=>by rcases hm q hq with e | e;exact hvo q e;exact hz q e⟩,hb,fun q hq=>hz q (Nat.le_trans hs hq),hi⟩
theorem Moved.cases {w:World} {v u:Value} (h:Moved w v u) (q:Nat) (hq:u.ownBlock=some q):v.ownBlock=some q∨w.heap.size≤q:=by
 rcases h with e | ⟨g,e,hg⟩
 ·exact .inl (e▸hq)
 rw [e] at hq;injection hq with hq;exact .inr (hq▸hg)
theorem LzAt.coder2 {σ:Type} {CA:World→σ→Prop} {own:Nat→Prop} {T:TypeId} {w w':World} {k:LK} {st:Nat} {rep:Nat→Nat} {s:CP σ} {d:σ} (h:LzAt CA own T w k st rep s) (hc:CA w' d) (hf:Frm own w w'):LzAt CA own T w' k st rep ⟨d,s.pr⟩∧Frm (Wr own k) w w' :=
 ⟨⟨hc,h.m.frm hf h.ne.1,h.l.frm hf h.ne.2.1,h.fit,h.ne⟩,hf.mono fun q _ e=>.inl e⟩
theorem ibit_lz {b:Nat} {O:Nat→Prop} {T:TypeId} {w:World} {k:LK} {st:Nat} {rep:Nat→Nat} {s:CP Enc} (h:LzAt (IC b O) O T w k st rep s) (hc:s.d.cnt<1000000) (i tb tq x:Nat) (xi:Int) (hx:xi=(x:Int)) (hx1:x≤1) (hp:Place k i) (he:plA k i=(tb,tq)) :
 Calls Tryz.prog 88 #[inV b,.pointer (some ⟨tb,tq,none⟩),.int .i64 xi] w fun e w'=>e=.returned (.int .i64 (x:Nat))∧LzAt (IC b O) O T w' k st rep (bitAt inC i x s).2∧Frm (Wr O k) w w':=by
 subst hx
 have hcell:=h.cell hp he
 obtain ⟨⟨v,hv,hvo⟩,hob,hoz,hI⟩:=h.c
 have hntb:¬ (tb=b):=fun e=>hcell.2.2.1 (e▸hob)
 have hnb:v.ownBlock≠some tb:=fun e=>hcell.2.2.1 (hvo tb e)
 have hlt:=hcell.2.2.2.2
 have H:=hid h
 have HCELL:=hid hcell
 have HV:=hid hv
 have HI:=hid hI
 have HPL:=hid (And.intro hp he)
 have HO:=hid (And.intro hvo (And.intro hob hoz))
 have HNB:=hid hnb
 clear h hcell hv hI hp he hvo hob hoz hnb
 unfold inV
 go_enter Tryz.func88,Tryz.ntmps88
 go_wp2_with fail
 obtain ⟨X,hX⟩:∃ X,Obj.cells #[.pointer (some ⟨b,0,none⟩)] 169=X:=⟨_,rfl⟩
 rw [hX]
 have hfr:=(Frm.refl (fun _=>False) w).alloc X
 have hbl:=hfr.block tb hlt id
 have hv2:EncAt (w.alloc X) 191 0 b 0 v s.d:=⟨HV.out.p.alloc _,HV.out.o.alloc _,HV.out.k⟩
 refine (ebit_p b 0 tb tq (s.pr i) x (decide (x≠0)) v s.d (w.alloc X) hv2 (Nat.zero_le _) hc HI.out.r HI.out.c (by rw [World.cell?_of_block hbl];exact HCELL.out.1) (by rw [World.frozen?_of_block hbl];exact HCELL.out.2.1) hntb HNB.out (H.out.fit i) (by
  by_cases h0:x=0
  ·subst h0;rfl
  rw [decide_eq_true h0,decide_eq_true (by omega)])).mono ?_
 rintro e w' ⟨v',rfl,h1,h2,h3⟩
 have hf:Frm O (w.setCell ⟨tb,tq,none⟩ (.int .u16 (learn (fair (s.pr i)) (decide (x≠0))))) w':=by
  refine (((Frm.refl O w).alloc X).setBoth HCELL.out.2.2.1 hlt _).trans (h2.mono fun q _ hq=>?_)
  rcases hq with e | e
  ·rw [e];exact HO.out.2.1
  exact HO.out.1 q e
 have hsz:(w.setCell ⟨tb,tq,none⟩ (.int .u16 (learn (fair (s.pr i)) (decide (x≠0))))).heap.size=w.heap.size:=by show (w.heap.modify _ _).size=_;simp
 have hI2:EncI (s.d.bit (fair (s.pr i)) (decide (x≠0))):=encI_stays.bit s.d (s.pr i) x HI.out
 have hl:=H.out.learnt (d:=s.d.bit (fair (s.pr i)) (decide (x≠0))) HPL.out.1 HPL.out.2 (Nat.lt_of_le_of_lt (learn_bd (fair_bd (s.pr i)).2 _) (by omega)) (w':=w') (IC.moved HO.out.2.2 HO.out.1 HO.out.2.1 (hsz▸hf.size) h1 (fun q hq=>by
  rcases h3.cases q hq with e | e
  ·exact .inl e
  exact .inr (Nat.le_trans hfr.size e)) hI2) hf
 have HL:=hid hl
 clear h1 h2 h3 hX hfr hbl hv2 hf hsz hI2 hl
 go_wp2
 go_ret
 exact ⟨rfl,HL.out.1,HL.out.2⟩
open Go.RowKit Rng Lz
theorem cnt_bitIn1 (i x:Nat) (s:CP Enc):(bitAt inC i x s).2.d.cnt≤s.d.cnt+1:=Enc.bit_cnt _ _ _
theorem cnt_backIn (base x n:Nat):∀ (r m o:Nat) (s:CP Enc),(backGo inC base x n r m o s).2.d.cnt≤s.d.cnt+r
 | 0,_,_,s=>Nat.le_refl _
 | r+1,m,o,s=>by
  unfold backGo
  have h1:=cnt_backIn base x n r (2*m+(bitAt inC (base+m) (x / 2 ^ (n-(r+1)) % 2) s).1) (o+(bitAt inC (base+m) (x / 2 ^ (n-(r+1)) % 2) s).1*2 ^ (n-(r+1))) (bitAt inC (base+m) (x / 2 ^ (n-(r+1)) % 2) s).2
  have h2:=cnt_bitIn1 (base+m) (x / 2 ^ (n-(r+1)) % 2) s
  omega
set_option maxRecDepth 100000 in
set_option maxHeartbeats 1000000 in
theorem tree_in (b:Nat) (O:Nat→Prop) (T:TypeId) (k:LK) (st:Nat) (rep:Nat→Nat) (s:CP Enc) (tb tq base n len cap x:Nat) (w:World) (h:LzAt (IC b O) O T w k st rep s) (hn:n≤8) (hlen:2 ^ n≤len) (hlc:len≤cap) (hx:x<4294967296) (hc:s.d.cnt+n<1000000)
 (hpl:∀ j,1≤j→j<2 ^ n→Place k (base+j)∧plA k (base+j)=(tb,tq+j)) :
 Calls Tryz.prog 104 #[.slice (some ⟨tb,tq,none⟩) len cap,.iface 169 (inV b),.int .i64 x,.int .i64 n] w fun e w'=>e=.returned (.int .i64 ((treeAt inC base n x s).1:Nat)) ∧
  LzAt (IC b O) O T w' k st rep (treeAt inC base n x s).2∧Frm (Wr O k) w w':=by
 obtain ⟨R,hR⟩:∃ R,treeGo inC base x n 1 s=R:=⟨_,rfl⟩
 unfold treeAt
 rw [hR]
 have HZ:=hid h
 have HR:=hid hR
 have HPL:=hid hpl
 have HCN:=hid hc
 clear h hR hpl hc
 go_enter Tryz.func104,Tryz.ntmps104
 go_wp2
 go_loopw [9,10] (fun mv iv wr=>∃ (r m:Nat) (i:Int) (s':CP Enc),mv=.int .i64 m∧iv=.int .i64 i∧i=(r:Int)-1∧r≤n∧2 ^ (n-r)≤m∧m<2 ^ (n-r+1)∧treeGo inC base x r m s'=R∧LzAt (IC b O) O T wr k st rep s'∧s'.d.cnt+r<1000000∧Frm (Wr O k) w wr) (fun _ iv _=>(intOf iv+1).toNat)
 case atStart=>exact ⟨n,1,(n:Int)-1,s,rfl,by go_num,rfl,Nat.le_refl _,by simp,by simp,HR.out,HZ.out,HCN.out,Frm.refl _ _⟩
 obtain ⟨r,m,i,s',rfl,rfl,hi,hr,hm1,hm2,hgo,hat,hcn,hfr⟩:=hrel
 have GO:=hid hgo
 have AT:=hid hat
 have FR:=hid hfr
 have CN:=hid hcn
 clear hgo hat hfr hcn
 cases r with
 | zero =>
  obtain rfl:i = -1:=by omega
  clear hi
  have hn256:2 ^ n≤2 ^ 8:=Nat.pow_le_pow_right (by omega) hn
  have hmn:2 ^ n≤m:=by simpa using hm1
  have hmm:m<2 ^ n*2:=by rw [← Nat.pow_succ];simpa using hm2
  obtain ⟨N2,hN2⟩:∃ N2:Nat,2 ^ n=N2:=⟨_,rfl⟩
  have hN3:(2:Int) ^ n=(N2:Int):=by rw [← hN2];simp
  rw [hN2] at hmn hmm hn256
  have GO2:(m,s')=R:=GO.out
  clear hm1 hm2
  go_wp2
  go_ret
  rw [hN2,← GO2]
  refine ⟨ret_int' ?_,AT.out,FR.out⟩
  show (m:Int)-(N2:Int)=((m-N2:Nat):Int)
  omega
 | succ q =>
  obtain rfl:i=(q:Int):=by omega
  clear hi
  have hpow:m<2 ^ n:=Nat.lt_of_lt_of_le hm2 (Nat.pow_le_pow_right (by omega) (by omega))
  have hml:m<len:=by omega
  have hm256:2 ^ n≤2 ^ 8:=Nat.pow_le_pow_right (by omega) hn
  have hmb:m<256:=by omega
  have hpos:1≤m:=Nat.le_trans (Nat.one_le_two_pow) hm1
  have HP:=hid (HPL.out m hpos hpow)
  have HM1:=hid hm1
  have HM2:=hid hm2
  have hq64:min q 64=q:=by omega
  have hqu:IntKind.u64.wrap (q:Int)=(q:Int):=Go.IntWalk.u64_in _ (by omega)
  obtain ⟨Pq,hPq⟩:∃ P,2 ^ q=P:=⟨_,rfl⟩
  have hPi:(2:Int) ^ q=(Pq:Int):=by rw [← hPq];simp
  obtain ⟨Y,hY⟩:∃ Y,x / Pq=Y:=⟨_,rfl⟩
  have hYi:(x:Int) / (Pq:Int)=(Y:Int):=by rw [← hY];exact (Int.natCast_ediv x Pq).symm
  have hYb:Y<4294967296:=by have:=Nat.div_le_self x Pq;omega
  obtain ⟨W,hW⟩:∃ W,Y % 2=W:=⟨_,rfl⟩
  have hWi:bits .and .i64 (Y:Int) 1=(W:Int):=by
   have:=and_i64 (a:=Y) (b:=1) (by omega) (by omega)
   rw [nat_mask1,hW] at this
   exact this
  have hWb:W≤1:=by omega
  obtain ⟨s2,hs2⟩:∃ s2,(bitAt inC (base+m) W s').2=s2:=⟨_,rfl⟩
  have hgo:treeGo inC base x q (2*m+W) s2=R:=by
   have h:=GO.out
   unfold treeGo at h
   rw [hPq,hY,hW,bitIn_val _ _ _ hWb,hs2] at h
   exact h
  have hcn:s2.d.cnt+q<1000000:=by have:=cnt_bitIn1 (base+m) W s';rw [hs2] at this;have:=CN.out;omega
  have HGOX:=hid hgo
  have HS2:=hid hs2
  have HCN2:=hid hcn
  clear hm1 hm2 hpow hm256 hlen hPq hY hW hs2 hgo hcn
  go_wp2
  have hno:=nil_in (inV b)
  have hme:=meth_inbit (inV b)
  have ATD:=hid (AT.out.later (IC.keep b O) ((Frm.refl _ wr).drew))
  have hob:=or_bit (m:=m) (b:=W) (by omega) hWb
  have hmw:IntKind.i64.wrap ((m:Int)*2)=(m:Int)*2:=Go.IntWalk.i64_in _ (by omega)
  go_region_with (first
   | (go_at_call 88;refine (ibit_lz ATD.out (by have:=CN.out;omega) (base+m) tb (tq+m) W W rfl hWb HP.out.1 HP.out.2).mono ?_;rintro e w2 ⟨rfl,h2,f2⟩;rw [HS2.out] at h2))
  all_goals
   have H2:=hid h2
   have F2:=hid ((FR.out.drew).trans f2)
   clear h2 f2
   go_wp2
   refine ⟨⟨q,2*m+W,(q:Int)-1,_,rfl,by go_num,rfl,by omega,?_,?_,HGOX.out,H2.out,HCN2.out,F2.out⟩,by simp [intOf]⟩
   ·have:=HM1.out
    rw [show n-q=n-(q+1)+1 by omega,Nat.pow_succ];omega
   have:=HM2.out
   rw [show n-q+1=n-(q+1)+1+1 by omega,Nat.pow_succ];omega
set_option maxRecDepth 100000 in
set_option maxHeartbeats 1000000 in
theorem back_in (b:Nat) (O:Nat→Prop) (T:TypeId) (k:LK) (st:Nat) (rep:Nat→Nat) (s:CP Enc) (tb tq base n len cap x:Nat) (w:World) (h:LzAt (IC b O) O T w k st rep s) (hn:n≤8) (hlen:2 ^ n≤len) (hlc:len≤cap) (hx:x<4294967296) (hc:s.d.cnt+n<1000000)
 (hpl:∀ j,1≤j→j<2 ^ n→Place k (base+j)∧plA k (base+j)=(tb,tq+j)) :
 Calls Tryz.prog 106 #[.slice (some ⟨tb,tq,none⟩) len cap,.iface 169 (inV b),.int .i64 x,.int .i64 n] w fun e w'=>e=.returned (.int .i64 ((backAt inC base n x s).1:Nat)) ∧
  LzAt (IC b O) O T w' k st rep (backAt inC base n x s).2∧Frm (Wr O k) w w':=by
 obtain ⟨R,hR⟩:∃ R,backGo inC base x n n 1 0 s=R:=⟨_,rfl⟩
 unfold backAt
 rw [hR]
 have HZ:=hid h
 have HR:=hid hR
 have HPL:=hid hpl
 have HCN:=hid hc
 clear h hR hpl hc
 go_enter Tryz.func106,Tryz.ntmps106
 go_wp2
 go_loopw [8,9,13] (fun ov mv cv wr=>∃ (r m o c:Nat) (s':CP Enc),ov=.int .i64 o∧mv=.int .i64 m∧cv=.int .i64 c∧c+r=n∧2 ^ c≤m∧m<2 ^ (c+1)∧o<2 ^ c∧backGo inC base x n r m o s'=R∧LzAt (IC b O) O T wr k st rep s'∧s'.d.cnt+r<1000000∧Frm (Wr O k) w wr) (fun _ _ cv _=>n-(intOf cv).toNat)
 case atStart=>exact ⟨n,1,0,0,s,rfl,rfl,rfl,by omega,by simp,by simp,by simp,HR.out,HZ.out,HCN.out,Frm.refl _ _⟩
 obtain ⟨r,m,o,c,s',rfl,rfl,rfl,hcr,hm1,hm2,ho,hgo,hat,hcn,hfr⟩:=hrel
 have GO:=hid hgo
 have AT:=hid hat
 have FR:=hid hfr
 have CN:=hid hcn
 clear hgo hat hfr hcn
 cases r with
 | zero =>
  obtain rfl:c=n:=by omega
  have GO2:(o,s')=R:=GO.out
  clear hcr hm1 hm2 ho
  go_wp2
  go_ret
  rw [← GO2]
  exact ⟨rfl,AT.out,FR.out⟩
 | succ q =>
  have hcn:c<n:=by omega
  have hpow:m<2 ^ n:=Nat.lt_of_lt_of_le hm2 (Nat.pow_le_pow_right (by omega) (by omega))
  have hml:m<len:=by omega
  have hm256:2 ^ n≤2 ^ 8:=Nat.pow_le_pow_right (by omega) hn
  have hmb:m<256:=by omega
  have hpos:1≤m:=Nat.le_trans (Nat.one_le_two_pow) hm1
  have hob0:o<256:=by have:2 ^ c≤2 ^ n:=Nat.pow_le_pow_right (by omega) (by omega);omega
  have HP:=hid (HPL.out m hpos hpow)
  have HM1:=hid hm1
  have HM2:=hid hm2
  have HO:=hid ho
  have hc2:2 ^ c≤2 ^ 8:=Nat.pow_le_pow_right (by omega) (by omega)
  obtain ⟨C2,hC2⟩:∃ C2:Nat,2 ^ c=C2:=⟨_,rfl⟩
  have hC3:(2:Int) ^ c=(C2:Int):=by rw [← hC2];simp
  have HC2:=hid hC2
  have hc64:min c 64=c:=by omega
  have hcu:IntKind.u64.wrap (c:Int)=(c:Int):=Go.IntWalk.u64_in _ (by omega)
  obtain ⟨Y,hY⟩:∃ Y,x / C2=Y:=⟨_,rfl⟩
  have hYi:(x:Int) / (C2:Int)=(Y:Int):=by rw [← hY];exact (Int.natCast_ediv x C2).symm
  have hYb:Y<4294967296:=by have:=Nat.div_le_self x C2;omega
  obtain ⟨W,hW⟩:∃ W,Y % 2=W:=⟨_,rfl⟩
  have hWi:bits .and .i64 (Y:Int) 1=(W:Int):=by
   have:=and_i64 (a:=Y) (b:=1) (by omega) (by omega)
   rw [nat_mask1,hW] at this
   exact this
  have hWb:W≤1:=by omega
  obtain ⟨s2,hs2⟩:∃ s2,(bitAt inC (base+m) W s').2=s2:=⟨_,rfl⟩
  have hgo:backGo inC base x n q (2*m+W) (o+W*C2) s2=R:=by
   have h:=GO.out
   unfold backGo at h
   rw [show n-(q+1)=c by omega,hC2,hY,hW,bitIn_val _ _ _ hWb,hs2] at h
   exact h
  have hcnn:s2.d.cnt+q<1000000:=by have:=cnt_bitIn1 (base+m) W s';rw [hs2] at this;have:=CN.out;omega
  have HGOX:=hid hgo
  have HS2:=hid hs2
  have HCN2:=hid hcnn
  rw [hC2] at hc2
  have hno:=nil_in (inV b)
  have hme:=meth_inbit (inV b)
  have ATD:=hid (AT.out.later (IC.keep b O) ((Frm.refl _ wr).drew))
  have hob:=or_bit (m:=m) (b:=W) (by omega) hWb
  have hmw:IntKind.i64.wrap ((m:Int)*2)=(m:Int)*2:=Go.IntWalk.i64_in _ (by omega)
  clear hm1 hm2 hpow hm256 hlen ho hC2 hY hW hs2 hgo hcnn
  go_wp2
  go_region_with (first
   | (go_at_call 88;refine (ibit_lz ATD.out (by have:=CN.out;omega) (base+m) tb (tq+m) W W rfl hWb HP.out.1 HP.out.2).mono ?_;rintro e w2 ⟨rfl,h2,f2⟩;rw [HS2.out] at h2))
  all_goals
   have H2:=hid h2
   have F2:=hid ((FR.out.drew).trans f2)
   clear h2 f2
   go_wp2
   have ho9:=HO.out
   rw [HC2.out] at ho9
   have hv:=or_hi_lz HC2.out ho9 hc2 hWb
   refine ⟨⟨q,2*m+W,o+W*C2,c+1,_,by rw [hv],by go_num,by go_num,by omega,?_,?_,?_,HGOX.out,H2.out,HCN2.out,F2.out⟩,by simp [intOf];omega⟩
   ·have:=HM1.out
    rw [Nat.pow_succ];omega
   ·have:=HM2.out
    rw [Nat.pow_succ];omega
   have h1:W*C2≤C2:=by
    have h:W=0∨W=1:=by omega
    rcases h with rfl | rfl <;> omega
   rw [Nat.pow_succ,HC2.out];omega
open Go.RowKit Rng Win Lz
theorem slot_parts {d:Nat} (h4:4≤d) (h:d<4294967296):∃ L c,Nat.log2 d=L+1∧1≤L∧L≤30∧d / 2 ^ L=c∧2≤c∧c≤3∧slotOf d=2*(L+1)+c % 2∧c*2 ^ L≤d∧d<c*2 ^ L+2 ^ L:=by
 have hd0:d≠0:=by omega
 have h1:=Nat.log2_self_le hd0
 have h2:=Nat.lt_log2_self (n:=d)
 have hl2:2≤Nat.log2 d:=(Nat.le_log2 hd0).2 (by show 2 ^ 2≤d;omega)
 have hl31:Nat.log2 d<32:=(Nat.log2_lt hd0).2 (by show d<2 ^ 32;omega)
 obtain ⟨L,hL⟩:∃ L,Nat.log2 d=L+1:=⟨Nat.log2 d-1,by omega⟩
 have hp:0<2 ^ L:=Nat.two_pow_pos L
 rw [hL] at h1 h2
 rw [Nat.pow_succ] at h1
 rw [Nat.pow_succ,Nat.pow_succ] at h2
 have c2:2≤d / 2 ^ L:=(Nat.le_div_iff_mul_le hp).2 (by omega)
 have c3:d / 2 ^ L<4:=(Nat.div_lt_iff_lt_mul hp).2 (by omega)
 have hm:=Nat.div_add_mod d (2 ^ L)
 have hml:=Nat.mod_lt d hp
 refine ⟨L,d / 2 ^ L,hL,by omega,by omega,rfl,c2,by omega,?_,?_,?_⟩
 ·unfold slotOf
  rw [if_neg (by omega),hL]
  rfl
 ·rw [Nat.mul_comm];omega
 rw [Nat.mul_comm];omega
theorem slot_lt {d:Nat} (h:d<4294967296):slotOf d<64:=by
 by_cases h4:d<4
 ·unfold slotOf;rw [if_pos h4];omega
 obtain ⟨L,c,-,h1,h2,-,h3,h4,h5,-,-⟩:=slot_parts (d:=d) (by omega) h
 rw [h5];omega
theorem slot_base {d:Nat} (h4:4≤d) (h:d<4294967296):4≤slotOf d∧(2+slotOf d % 2)*2 ^ (slotOf d / 2-1)≤d∧d<(2+slotOf d % 2)*2 ^ (slotOf d / 2-1)+2 ^ (slotOf d / 2-1):=by
 obtain ⟨L,c,-,h1,h2,h3,h5,h6,h7,h8,h9⟩:=slot_parts h4 h
 have e1:slotOf d / 2-1=L:=by rw [h7];omega
 have e2:2+slotOf d % 2=c:=by rw [h7];omega
 rw [e1,e2]
 exact ⟨by rw [h7];omega,h8,h9⟩
theorem treeAt_in (base n x:Nat) (s:CP Enc) (h:x<2 ^ n):(treeAt inC base n x s).1=x:=by
 unfold treeAt
 simp only
 rw [treeIn_val,Nat.one_mul,Nat.mod_eq_of_lt h]
 omega
theorem backGo_in (base x n:Nat):∀ (r m o:Nat) (s:CP Enc),r≤n→o=x % 2 ^ (n-r)→(backGo inC base x n r m o s).1=x % 2 ^ n
 | 0,m,o,s,_,h=>by simpa [backGo] using h
 | r+1,m,o,s,hr,h=>by
  unfold backGo
  have hb:x / 2 ^ (n-(r+1)) % 2≤1:=by have:=Nat.mod_lt (x / 2 ^ (n-(r+1))) (show 2 > 0 by decide);omega
  refine backGo_in base x n r _ _ _ (by omega) ?_
  rw [bitIn_val _ _ _ hb,h,show n-r=n-(r+1)+1 by omega,Nat.mod_pow_succ,Nat.mul_comm (x / 2 ^ (n-(r+1)) % 2)]
theorem backAt_in (base n x:Nat) (s:CP Enc) (h:x<2 ^ n):(backAt inC base n x s).1=x:=by
 unfold backAt
 rw [backGo_in base x n n 1 0 s (Nat.le_refl _) (by rw [Nat.sub_self,Nat.pow_zero,Nat.mod_one]),Nat.mod_eq_of_lt h]
set_option maxRecDepth 100000 in
theorem lenAt_in (base n p:Nat) (s:CP Enc) (h2:2≤n) (h:n≤273):(lenAt inC base n p s).1=n:=by
 unfold lenAt
 simp only
 have hb:∀ (q:Bool),b2n q≤1:=by intro q;cases q <;> decide
 rw [bitIn_val _ _ _ (hb _),bitIn_val _ _ _ (hb _)]
 by_cases h10:10≤n
 ·rw [show b2n (decide (10≤n))=1 by rw [decide_eq_true h10];rfl,if_neg (by omega)]
  by_cases h18:18≤n
  ·rw [show b2n (decide (18≤n))=1 by rw [decide_eq_true h18];rfl,if_neg (by omega)]
   simp only
   rw [treeAt_in _ _ _ _ (by omega)]
   omega
  rw [show b2n (decide (18≤n))=0 by rw [decide_eq_false h18];rfl,if_pos rfl]
  simp only
  rw [treeAt_in _ _ _ _ (by omega)]
  omega
 rw [show b2n (decide (10≤n))=0 by rw [decide_eq_false h10];rfl,if_pos rfl]
 simp only
 rw [treeAt_in _ _ _ _ (by omega)]
 omega
theorem distAt_in (d size:Nat) (s:CP Enc) (h:d<4294967296):(distAt inC d size s).1=d:=by
 unfold distAt
 simp only
 rw [treeAt_in _ _ _ _ (slot_lt h)]
 by_cases h4:d<4
 ·have e:slotOf d=d:=by unfold slotOf;rw [if_pos h4]
  rw [e,if_pos h4]
 obtain ⟨b1,b2,b3⟩:=slot_base (d:=d) (by omega) h
 rw [if_neg (by omega)]
 generalize ht:slotOf d=t at *
 generalize hB:(2+t % 2)*2 ^ (t / 2-1)=B at *
 by_cases h14:t<14
 ·rw [if_pos h14]
  simp only
  rw [backAt_in _ _ _ _ (by omega)]
  omega
 rw [if_neg h14]
 simp only
 rw [backAt_in _ _ _ _ (by omega)]
 obtain ⟨P,hP⟩:∃ P,t / 2-1-4=P:=⟨_,rfl⟩
 have e1:t / 2-1=P+4:=by omega
 have hv:(inC.dir (treeAt inC (440+(min size 5-2)*64) 6 t s).2.d ((d-B) / 16) (t / 2-1-4)).1=(d-B) / 16:=by
  show (d-B) / 16 % 2 ^ (t / 2-1-4)=_
  rw [hP]
  refine Nat.mod_eq_of_lt ?_
  rw [e1,Nat.pow_add] at b3
  have:(2:Nat) ^ 4=16:=by decide
  rw [this] at b3
  generalize 2 ^ P=Q at *
  omega
 rw [hv]
 have e2:B % 16=0:=by
  rw [← hB,e1,Nat.pow_add]
  have:(2:Nat) ^ 4=16:=by decide
  rw [this,← Nat.mul_assoc,Nat.mul_mod_left]
 rw [Nat.mod_eq_of_lt (by omega)]
 omega
theorem farIn_val (base x far:Nat):∀ (n m:Nat) (s:CP Enc),(farGo inC base x far n m s).1=m*2 ^ n+x % 2 ^ n
 | 0,m,s=>by
  show m=m*2 ^ 0+x % 2 ^ 0
  rw [Nat.pow_zero,Nat.mod_one];omega
 | n+1,m,s=>by
  unfold farGo
  simp only
  have hb:x / 2 ^ n % 2≤1:=by have:=Nat.mod_lt (x / 2 ^ n) (show 2 > 0 by decide);omega
  have e:(2*m+x / 2 ^ n % 2)*2 ^ n+x % 2 ^ n=m*2 ^ (n+1)+x % 2 ^ (n+1):=by
   rw [Nat.mod_pow_succ,Nat.pow_succ,Nat.add_mul,Nat.mul_assoc 2 m,Nat.mul_comm (x / 2 ^ n % 2)]
   have e:m*(2 ^ n*2)=2*(m*2 ^ n):=by rw [← Nat.mul_assoc,Nat.mul_comm]
   rw [e]
   omega
  rw [bitIn_val _ _ _ hb]
  split
  ·rw [farIn_val base x far n];exact e
  rw [treeIn_val];exact e
theorem litIn_any (lc lp st total ahead far:Nat) (x:UInt8) (s:CP Enc):(litAt inC lc lp st total ahead far x.toNat s).1=x.toNat:=by
 have hx:=x.toNat_lt
 unfold litAt
 simp only
 split
 ·rw [farIn_val];omega
 rw [treeIn_val];omega
end Go.Proofs.YtablgjhnpphodaaGreat
