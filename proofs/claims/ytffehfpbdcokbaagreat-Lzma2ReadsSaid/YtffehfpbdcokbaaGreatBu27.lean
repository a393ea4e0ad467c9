import Derived.Test.YtffehfpbdcokbaaGreatBu1
import Derived.Test.YtffehfpbdcokbaaGreatBu13
set_option linter.unusedVariables false
set_option linter.unusedSimpArgs false
namespace Go.Proofs.YtffehfpbdcokbaaGreat.Lz
open Go.RowKit Rng Win
structure Stays {τ:Type} (co:Cod τ) (β:τ→Prop):Prop where
 bit:∀ t p x,β t→β (co.bit t (fair p) x).2
 dir:∀ t x n,β t→β (co.dir t x n).2
section
variable {τ : Type} {co : Cod τ} {β : τ → Prop}
theorem stays_bitAt (K:Stays co β) (i x:Nat) {t:CP τ} (h:β t.d):β (bitAt co i x t).2.d:=K.bit _ _ _ h
theorem stays_treeGo (K:Stays co β) (base x:Nat):∀ (n m:Nat) {t:CP τ},β t.d→β (treeGo co base x n m t).2.d
 | 0,_,_,h=>h
 | n+1,m,t,h=>stays_treeGo K base x n _ (stays_bitAt K _ _ h)
theorem stays_treeAt (K:Stays co β) (base n x:Nat) {t:CP τ} (h:β t.d):β (treeAt co base n x t).2.d:=stays_treeGo K _ _ _ _ h
theorem stays_backGo (K:Stays co β) (base x n:Nat):∀ (k m o:Nat) {t:CP τ},β t.d→β (backGo co base x n k m o t).2.d
 | 0,_,_,_,h=>h
 | k+1,m,o,t,h=>stays_backGo K base x n k _ _ (stays_bitAt K _ _ h)
theorem stays_backAt (K:Stays co β) (base n x:Nat) {t:CP τ} (h:β t.d):β (backAt co base n x t).2.d:=stays_backGo K _ _ _ _ _ _ h
set_option maxRecDepth 100000 in
theorem stays_lenAt (K:Stays co β) (base n p:Nat) {t:CP τ} (h:β t.d):β (lenAt co base n p t).2.d:=by
 unfold Lz.lenAt
 simp only
 split
 ·exact stays_treeAt K (base+2+p*8) 3 (n-2) (stays_bitAt K _ _ h)
 split
 ·exact stays_treeAt K (base+130+p*8) 3 (n-10) (stays_bitAt K _ _ (stays_bitAt K _ _ h))
 exact stays_treeAt K (base+258) 8 (n-18) (stays_bitAt K _ _ (stays_bitAt K _ _ h))
theorem stays_distAt (K:Stays co β) (d size:Nat) {t:CP τ} (h:β t.d):β (distAt co d size t).2.d:=by
 unfold Lz.distAt
 simp only
 have h1:=stays_treeAt K (440+(min size 5-2)*64) 6 (slotOf d) h
 split
 ·exact h1
 split
 ·exact stays_backAt K _ _ _ h1
 refine stays_backAt K _ _ _ ?_
 exact K.dir _ _ _ h1
theorem stays_farGo (K:Stays co β) (base x far:Nat):∀ (n m:Nat) {t:CP τ},β t.d→β (farGo co base x far n m t).2.d
 | 0,_,_,h=>h
 | n+1,m,t,h=>by
  unfold Lz.farGo
  simp only
  split
  ·exact stays_farGo K base x far n _ (stays_bitAt K _ _ h)
  exact stays_treeGo K _ _ _ _ (stays_bitAt K _ _ h)
theorem stays_litAt (K:Stays co β) (lc lp st total ahead far x:Nat) {t:CP τ} (h:β t.d):β (litAt co lc lp st total ahead far x t).2.d:=by
 unfold Lz.litAt
 simp only
 split
 ·exact stays_farGo K _ _ _ _ _ h
 exact stays_treeGo K _ _ _ _ h
end
def Pair {σ τ:Type} (ρ:σ→τ→Prop) (s:CP σ) (t:CP τ):Prop:=ρ s.d t.d∧s.pr=t.pr
section
variable {σ τ : Type} {co : Cod σ} {co' : Cod τ} {ρ : σ → τ → Prop} {β : τ → Prop}
end
end Go.Proofs.YtffehfpbdcokbaaGreat.Lz
namespace Go.Proofs.YtffehfpbdcokbaaGreat.Lz
open Go.RowKit Rng Win
structure Backs {σ τ:Type} (co:Cod σ) (co':Cod τ) (ρ:σ→τ→Prop) (I γ:σ→Prop):Prop where
 inv:Stays co I
 back:∀ s p x,I s→γ (co.bit s (fair p) x).2→γ s
 backD:∀ s x n,I s→γ (co.dir s x n).2→γ s
 two:∀ s t p x y,I s→ρ s t→γ (co.bit s (fair p) x).2→(co.bit s (fair p) x).1=(co'.bit t (fair p) y).1∧ρ (co.bit s (fair p) x).2 (co'.bit t (fair p) y).2
 twoD:∀ s t x y n,n≤32→I s→ρ s t→γ (co.dir s x n).2→(co.dir s x n).1=(co'.dir t y n).1∧ρ (co.dir s x n).2 (co'.dir t y n).2
def BackR {σ τ α:Type} (ρ:σ→τ→Prop) (a:α×CP σ) (b:α×CP τ):Prop:=a.1=b.1∧Pair ρ a.2 b.2
section
variable {σ τ : Type} {co : Cod σ} {co' : Cod τ} {ρ : σ → τ → Prop} {I γ : σ → Prop}
def Since (I γ:σ→Prop) (s e:σ):Prop:=I e∧(γ e→γ s)
theorem since_stays (K:Backs co co' ρ I γ) (s:σ):Stays co (Since I γ s) :=
 ⟨fun t p x h=>⟨K.inv.bit t p x h.1,fun hg=>h.2 (K.back t p x h.1 hg)⟩,fun t x n h=>⟨K.inv.dir t x n h.1,fun hg=>h.2 (K.backD t x n h.1 hg)⟩⟩
theorem Since.refl {s:σ} (h:I s):Since I γ s s:=⟨h,fun hg=>hg⟩
theorem back_bitAt (K:Backs co co' ρ I γ) (i x y:Nat) {s:CP σ} {t:CP τ} (hi:I s.d) (h:Pair ρ s t) (hg:γ (bitAt co i x s).2.d):BackR ρ (bitAt co i x s) (bitAt co' i y t):=by
 unfold BackR Pair Lz.bitAt
 simp only
 rw [← h.2]
 obtain ⟨h1,h2⟩:=K.two s.d t.d (s.pr i) x y hi h.1 hg
 exact ⟨by rw [h1],h2,by rw [h1]⟩
theorem back_treeGo (K:Backs co co' ρ I γ) (base x y:Nat):∀ (n m:Nat) {s:CP σ} {t:CP τ},I s.d→Pair ρ s t→γ (treeGo co base x n m s).2.d→BackR ρ (treeGo co base x n m s) (treeGo co' base y n m t)
 | 0,m,s,t,hi,h,hg=>⟨rfl,h⟩
 | n+1,m,s,t,hi,h,hg=>by
  unfold Lz.treeGo at hg ⊢
  have hi1:=stays_bitAt K.inv (base+m) (x / 2 ^ n % 2) hi
  have hg1:=(stays_treeGo (since_stays K (bitAt co (base+m) (x / 2 ^ n % 2) s).2.d) base x n (2*m+(bitAt co (base+m) (x / 2 ^ n % 2) s).1) (Since.refl hi1)).2 hg
  obtain ⟨h1,h2⟩:=back_bitAt K (base+m) (x / 2 ^ n % 2) (y / 2 ^ n % 2) hi h hg1
  rw [← h1]
  exact back_treeGo K base x y n _ hi1 h2 hg
theorem back_treeAt (K:Backs co co' ρ I γ) (base n x y:Nat) {s:CP σ} {t:CP τ} (hi:I s.d) (h:Pair ρ s t) (hg:γ (treeAt co base n x s).2.d):BackR ρ (treeAt co base n x s) (treeAt co' base n y t):=by
 obtain ⟨h1,h2⟩:=back_treeGo K base x y n 1 hi h hg
 exact ⟨by unfold Lz.treeAt;simp only;rw [h1],h2⟩
theorem back_backGo (K:Backs co co' ρ I γ) (base x y n:Nat):∀ (k m o:Nat) {s:CP σ} {t:CP τ},I s.d→Pair ρ s t→γ (backGo co base x n k m o s).2.d→BackR ρ (backGo co base x n k m o s) (backGo co' base y n k m o t)
 | 0,m,o,s,t,hi,h,hg=>⟨rfl,h⟩
 | k+1,m,o,s,t,hi,h,hg=>by
  unfold Lz.backGo at hg ⊢
  have hi1:=stays_bitAt K.inv (base+m) (x / 2 ^ (n-(k+1)) % 2) hi
  have hg1:=(stays_backGo (since_stays K (bitAt co (base+m) (x / 2 ^ (n-(k+1)) % 2) s).2.d) base x n k (2*m+(bitAt co (base+m) (x / 2 ^ (n-(k+1)) % 2) s).1) (o+(bitAt co (base+m) (x / 2 ^ (n-(k+1)) % 2) s).1*2 ^ (n-(k+1))) (Since.refl hi1)).2 hg
  obtain ⟨h1,h2⟩:=back_bitAt K (base+m) (x / 2 ^ (n-(k+1)) % 2) (y / 2 ^ (n-(k+1)) % 2) hi h hg1
  rw [← h1]
  exact back_backGo K base x y n k _ _ hi1 h2 hg
theorem back_backAt (K:Backs co co' ρ I γ) (base n x y:Nat) {s:CP σ} {t:CP τ} (hi:I s.d) (h:Pair ρ s t) (hg:γ (backAt co base n x s).2.d):BackR ρ (backAt co base n x s) (backAt co' base n y t):=back_backGo K base x y n n 1 0 hi h hg
set_option maxRecDepth 100000 in
theorem back_lenAt (K:Backs co co' ρ I γ) (base n m p:Nat) {s:CP σ} {t:CP τ} (hi:I s.d) (h:Pair ρ s t) (hg:γ (lenAt co base n p s).2.d):BackR ρ (lenAt co base n p s) (lenAt co' base m p t):=by
 have hi1:=stays_bitAt K.inv base (b2n (decide (10≤n))) hi
 have hi2:=stays_bitAt K.inv (base+1) (b2n (decide (18≤n))) hi1
 have S1:=since_stays K (bitAt co base (b2n (decide (10≤n))) s).2.d
 have hg1:γ (bitAt co base (b2n (decide (10≤n))) s).2.d:=by
  have:Since I γ (bitAt co base (b2n (decide (10≤n))) s).2.d (lenAt co base n p s).2.d:=by
   unfold Lz.lenAt
   simp only
   split
   ·exact stays_treeAt S1 (base+2+p*8) 3 (n-2) (Since.refl hi1)
   split
   ·exact stays_treeAt S1 (base+130+p*8) 3 (n-10) (stays_bitAt S1 _ _ (Since.refl hi1))
   exact stays_treeAt S1 (base+258) 8 (n-18) (stays_bitAt S1 _ _ (Since.refl hi1))
  exact this.2 hg
 obtain ⟨h1,h2⟩:=back_bitAt K base (b2n (decide (10≤n))) (b2n (decide (10≤m))) hi h hg1
 unfold Lz.lenAt at hg ⊢
 simp only at hg ⊢
 rw [← h1]
 by_cases ha:(bitAt co base (b2n (decide (10≤n))) s).1=0
 ·rw [if_pos ha] at hg ⊢
  rw [if_pos ha]
  obtain ⟨k1,k2⟩:=back_treeAt K (base+2+p*8) 3 (n-2) (m-2) hi1 h2 hg
  exact ⟨by simp only;rw [k1],k2⟩
 rw [if_neg ha] at hg ⊢
 rw [if_neg ha]
 have S2:=since_stays K (bitAt co (base+1) (b2n (decide (18≤n))) (bitAt co base (b2n (decide (10≤n))) s).2).2.d
 have hg2:γ (bitAt co (base+1) (b2n (decide (18≤n))) (bitAt co base (b2n (decide (10≤n))) s).2).2.d:=by
  by_cases hc:(bitAt co (base+1) (b2n (decide (18≤n))) (bitAt co base (b2n (decide (10≤n))) s).2).1=0
  ·rw [if_pos hc] at hg
   exact (stays_treeAt S2 (base+130+p*8) 3 (n-10) (Since.refl hi2)).2 hg
  rw [if_neg hc] at hg
  exact (stays_treeAt S2 (base+258) 8 (n-18) (Since.refl hi2)).2 hg
 obtain ⟨g1,g2⟩:=back_bitAt K (base+1) (b2n (decide (18≤n))) (b2n (decide (18≤m))) hi1 h2 hg2
 rw [← g1]
 by_cases hc:(bitAt co (base+1) (b2n (decide (18≤n))) (bitAt co base (b2n (decide (10≤n))) s).2).1=0
 ·rw [if_pos hc] at hg ⊢
  rw [if_pos hc]
  obtain ⟨k1,k2⟩:=back_treeAt K (base+130+p*8) 3 (n-10) (m-10) hi2 g2 hg
  exact ⟨by simp only;rw [k1],k2⟩
 rw [if_neg hc] at hg ⊢
 rw [if_neg hc]
 obtain ⟨k1,k2⟩:=back_treeAt K (base+258) 8 (n-18) (m-18) hi2 g2 hg
 exact ⟨by simp only;rw [k1],k2⟩
theorem back_distAt (K:Backs co co' ρ I γ) (d e size:Nat) {s:CP σ} {t:CP τ} (hi:I s.d) (h:Pair ρ s t) (hsl:(treeAt co (440+(min size 5-2)*64) 6 (slotOf d) s).1<64) (hg:γ (distAt co d size s).2.d):BackR ρ (distAt co d size s) (distAt co' e size t):=by
 have hi1:=stays_treeAt K.inv (440+(min size 5-2)*64) 6 (slotOf d) hi
 have S1:=since_stays K (treeAt co (440+(min size 5-2)*64) 6 (slotOf d) s).2.d
 have hg1:γ (treeAt co (440+(min size 5-2)*64) 6 (slotOf d) s).2.d:=by
  have:Since I γ (treeAt co (440+(min size 5-2)*64) 6 (slotOf d) s).2.d (distAt co d size s).2.d:=by
   unfold Lz.distAt
   simp only
   split
   ·exact Since.refl hi1
   split
   ·exact stays_backAt S1 _ _ _ (Since.refl hi1)
   exact stays_backAt S1 _ _ _ (S1.dir _ _ _ (Since.refl hi1))
  exact this.2 hg
 obtain ⟨h1,h2⟩:=back_treeAt K (440+(min size 5-2)*64) 6 (slotOf d) (slotOf e) hi h hg1
 unfold Lz.distAt at hg ⊢
 simp only at hg ⊢
 rw [← h1]
 generalize Lz.treeAt co' (440+(min size 5-2)*64) 6 (slotOf e) t=T' at *
 generalize Lz.treeAt co (440+(min size 5-2)*64) 6 (slotOf d) s=T at *
 by_cases h4:T.1<4
 ·rw [if_pos h4]
  rw [if_pos h4]
  exact ⟨rfl,h2⟩
 rw [if_neg h4] at hg ⊢
 rw [if_neg h4]
 by_cases h14:T.1<14
 ·rw [if_pos h14] at hg ⊢
  rw [if_pos h14]
  obtain ⟨k1,k2⟩:=back_backAt K (696+(2+T.1 % 2)*2 ^ (T.1 / 2-1)-T.1) (T.1 / 2-1) (d-(2+T.1 % 2)*2 ^ (T.1 / 2-1)) (e-(2+T.1 % 2)*2 ^ (T.1 / 2-1)) hi1 h2 hg
  exact ⟨by simp only;rw [k1],k2⟩
 rw [if_neg h14] at hg ⊢
 rw [if_neg h14]
 have hi2:=K.inv.dir T.2.d ((d-(2+T.1 % 2)*2 ^ (T.1 / 2-1)) / 16) (T.1 / 2-1-4) hi1
 have hg2:=(stays_backAt (since_stays K (co.dir T.2.d ((d-(2+T.1 % 2)*2 ^ (T.1 / 2-1)) / 16) (T.1 / 2-1-4)).2) 824 4 (d % 16) (t:=⟨(co.dir T.2.d ((d-(2+T.1 % 2)*2 ^ (T.1 / 2-1)) / 16) (T.1 / 2-1-4)).2,T.2.pr⟩) (Since.refl hi2)).2 hg
 obtain ⟨g1,g2⟩:=K.twoD T.2.d T'.2.d ((d-(2+T.1 % 2)*2 ^ (T.1 / 2-1)) / 16) ((e-(2+T.1 % 2)*2 ^ (T.1 / 2-1)) / 16) (T.1 / 2-1-4) (by omega) hi1 h2.1 hg2
 rw [← g1]
 obtain ⟨k1,k2⟩:=back_backAt K 824 4 (d % 16) (e % 16) (s:=⟨(co.dir T.2.d ((d-(2+T.1 % 2)*2 ^ (T.1 / 2-1)) / 16) (T.1 / 2-1-4)).2,T.2.pr⟩) (t:=⟨(co'.dir T'.2.d ((e-(2+T.1 % 2)*2 ^ (T.1 / 2-1)) / 16) (T.1 / 2-1-4)).2,T'.2.pr⟩) hi2 ⟨g2,h2.2⟩ hg
 exact ⟨by simp only;rw [k1],k2⟩
theorem back_farGo (K:Backs co co' ρ I γ) (base x y far:Nat):∀ (n m:Nat) {s:CP σ} {t:CP τ},I s.d→Pair ρ s t→γ (farGo co base x far n m s).2.d→BackR ρ (farGo co base x far n m s) (farGo co' base y far n m t)
 | 0,m,s,t,hi,h,hg=>⟨rfl,h⟩
 | n+1,m,s,t,hi,h,hg=>by
  have hi1:=stays_bitAt K.inv (base+(1+far / 2 ^ n % 2)*256+m) (x / 2 ^ n % 2) hi
  have S1:=since_stays K (bitAt co (base+(1+far / 2 ^ n % 2)*256+m) (x / 2 ^ n % 2) s).2.d
  unfold Lz.farGo at hg ⊢
  simp only at hg ⊢
  have hg1:γ (bitAt co (base+(1+far / 2 ^ n % 2)*256+m) (x / 2 ^ n % 2) s).2.d:=by
   split at hg
   ·exact (stays_farGo S1 _ _ _ _ _ (Since.refl hi1)).2 hg
   exact (stays_treeGo S1 _ _ _ _ (Since.refl hi1)).2 hg
  obtain ⟨h1,h2⟩:=back_bitAt K (base+(1+far / 2 ^ n % 2)*256+m) (x / 2 ^ n % 2) (y / 2 ^ n % 2) hi h hg1
  rw [← h1]
  by_cases hw:(bitAt co (base+(1+far / 2 ^ n % 2)*256+m) (x / 2 ^ n % 2) s).1=far / 2 ^ n % 2
  ·rw [if_pos hw] at hg ⊢
   rw [if_pos hw]
   exact back_farGo K base x y far n _ hi1 h2 hg
  rw [if_neg hw] at hg ⊢
  rw [if_neg hw]
  exact back_treeGo K _ _ _ _ _ hi1 h2 hg
theorem back_litAt (K:Backs co co' ρ I γ) (lc lp st total ahead far x y:Nat) {s:CP σ} {t:CP τ} (hi:I s.d) (h:Pair ρ s t) (hg:γ (litAt co lc lp st total ahead far x s).2.d):BackR ρ (litAt co lc lp st total ahead far x s) (litAt co' lc lp st total ahead far y t):=by
 unfold Lz.litAt at hg ⊢
 simp only at hg ⊢
 by_cases h7:7≤st
 ·rw [if_pos h7] at hg ⊢
  rw [if_pos h7]
  obtain ⟨h1,h2⟩:=back_farGo K _ x y far 8 1 hi h hg
  exact ⟨by simp only;rw [h1],h2⟩
 rw [if_neg h7] at hg ⊢
 rw [if_neg h7]
 obtain ⟨h1,h2⟩:=back_treeGo K _ x y 8 1 hi h hg
 exact ⟨by simp only;rw [h1],h2⟩
end
end Go.Proofs.YtffehfpbdcokbaaGreat.Lz
namespace Go.Proofs.YtffehfpbdcokbaaGreat.Rng
open Go.RowKit
structure Enc where
 low:Nat
 size:Nat
 first:UInt8
 more:Nat
 out:List UInt8
 closed:Bool
def Enc.carry (e:Enc):UInt8:=UInt8.ofNat (e.low / 4294967296)
def Enc.shift (e:Enc):Enc :=
 if 4278190080≤e.low∧e.low<4294967296 then ⟨e.low*256 % 4294967296,e.size,e.first,e.more+1,e.out,e.closed⟩
 else ⟨e.low*256 % 4294967296,e.size,UInt8.ofNat (e.low / 16777216),0,e.out++(e.first+e.carry)::List.replicate e.more (255+e.carry),e.closed⟩
def Enc.order (e:Enc):Enc:=if e.size<16777216 then Enc.shift ⟨e.low,e.size*256,e.first,e.more,e.out,e.closed⟩ else e
def Enc.bit (e:Enc) (c:Nat) (one:Bool):Enc :=
 Enc.order (if one then ⟨e.low+e.size / 2048*c,e.size-e.size / 2048*c,e.first,e.more,e.out,e.closed⟩ else ⟨e.low,e.size / 2048*c,e.first,e.more,e.out,e.closed⟩)
def Enc.one (e:Enc) (one:Bool):Enc:=Enc.order ⟨if one then e.low+e.size / 2 else e.low,e.size / 2,e.first,e.more,e.out,e.closed⟩
def Enc.direct (x:Nat):Nat→Enc→Enc
 | 0,e=>e
 | n+1,e=>Enc.direct x n (e.one (x / 2 ^ n % 2==1))
def Enc.shifts:Nat→Enc→Enc
 | 0,e=>e
 | n+1,e=>Enc.shifts n e.shift
def newEnc:Enc:=⟨0,4294967295,0,0,[],false⟩
def Enc.close (e:Enc):Enc:=if e.closed then e else ⟨(e.shifts 5).low,(e.shifts 5).size,(e.shifts 5).first,(e.shifts 5).more,(e.shifts 5).out,true⟩
def Enc.cnt (e:Enc):Nat:=e.out.length+e.more
structure Enc.Ok (e:Enc):Prop where
 l:e.low≤8589934592
 s:e.size<4294967296
structure Enc.Run (e:Enc):Prop where
 l:e.low+e.size≤8589934592
 s:16777216≤e.size∧e.size<4294967296
theorem Enc.Run.ok {e:Enc} (h:e.Run):e.Ok:=by
 have h1:=h.l
 have h2:=h.s
 exact ⟨by omega,by omega⟩
theorem Enc.shift_cnt (e:Enc):e.shift.cnt=e.cnt+1:=by
 unfold Enc.shift Enc.cnt
 split
 ·simp only;omega
 simp only [List.length_append,List.length_cons,List.length_replicate];omega
theorem Enc.shift_size (e:Enc):e.shift.size=e.size:=by unfold Enc.shift;split <;> rfl
theorem Enc.shift_low (e:Enc):e.shift.low=e.low*256 % 4294967296:=by unfold Enc.shift;split <;> rfl
theorem Enc.shift_closed (e:Enc):e.shift.closed=e.closed:=by unfold Enc.shift;split <;> rfl
theorem Enc.Ok.shift {e:Enc} (h:e.Ok):e.shift.Ok:=by
 have h1:=h.l
 have h2:=h.s
 refine ⟨?_,by rw [Enc.shift_size];exact h2⟩
 rw [Enc.shift_low]
 omega
theorem Enc.order_stay {e:Enc} (h:16777216≤e.size):e.order=e:=if_neg (by omega)
theorem Enc.order_cnt (e:Enc):e.order.cnt≤e.cnt+1:=by
 unfold Enc.order
 split
 ·rw [Enc.shift_cnt];exact Nat.le_refl _
 omega
theorem Enc.order_closed (e:Enc):e.order.closed=e.closed:=by
 unfold Enc.order
 split
 ·rw [Enc.shift_closed]
 rfl
structure Enc.Pre (e:Enc):Prop where
 l:e.low+e.size≤8589934592
 s:65536≤e.size∧e.size<4294967296
theorem Enc.Pre.ok {e:Enc} (h:e.Pre):e.Ok:=by
 have h1:=h.l
 have h2:=h.s
 exact ⟨by omega,by omega⟩
theorem Enc.Pre.order {e:Enc} (h:e.Pre):e.order.Run:=by
 have h1:=h.l
 have h2:=h.s
 unfold Enc.order
 split
 ·refine ⟨?_,?_⟩
  ·rw [Enc.shift_size,Enc.shift_low];simp only;omega
  rw [Enc.shift_size];simp only;omega
 exact ⟨h1,by omega⟩
theorem newEnc_run:newEnc.Run:=⟨by show 0+4294967295≤8589934592;omega,by show 16777216≤4294967295∧4294967295<4294967296;omega⟩
theorem bound_bd {s c:Nat} (hs:16777216≤s) (h1:31≤c) (h2:c≤2017):65536≤s / 2048*c∧65536≤s-s / 2048*c∧s / 2048*c≤s:=by
 have hq:8192≤s / 2048:=by omega
 have hm:=Nat.div_mul_le_self s 2048
 generalize s / 2048=q at *
 have a1:8192*31≤q*c:=Nat.mul_le_mul hq h1
 have a2:q*c≤q*2017:=Nat.mul_le_mul_left _ h2
 omega
def Enc.cut (e:Enc) (c:Nat) (one:Bool):Enc :=
 if one then ⟨e.low+e.size / 2048*c,e.size-e.size / 2048*c,e.first,e.more,e.out,e.closed⟩ else ⟨e.low,e.size / 2048*c,e.first,e.more,e.out,e.closed⟩
theorem Enc.bit_cut (e:Enc) (c:Nat) (one:Bool):e.bit c one=(e.cut c one).order:=rfl
theorem Enc.Run.cut {e:Enc} (h:e.Run) {c:Nat} (h1:31≤c) (h2:c≤2017) (one:Bool):(e.cut c one).Pre:=by
 have a1:=h.l
 have a2:=h.s
 have hb:=bound_bd a2.1 h1 h2
 unfold Enc.cut
 split
 ·exact ⟨by simp only;omega,by simp only;omega⟩
 exact ⟨by simp only;omega,by simp only;omega⟩
theorem Enc.cut_cnt (e:Enc) (c:Nat) (one:Bool):(e.cut c one).cnt=e.cnt:=by unfold Enc.cut;split <;> rfl
theorem Enc.Run.bit {e:Enc} (h:e.Run) {c:Nat} (h1:31≤c) (h2:c≤2017) (one:Bool):(e.bit c one).Run:=(h.cut h1 h2 one).order
theorem Enc.bit_cnt (e:Enc) (c:Nat) (one:Bool):(e.bit c one).cnt≤e.cnt+1:=by
 rw [Enc.bit_cut]
 have:=Enc.order_cnt (e.cut c one)
 rw [Enc.cut_cnt] at this
 exact this
def Enc.half (e:Enc) (one:Bool):Enc:=⟨if one then e.low+e.size / 2 else e.low,e.size / 2,e.first,e.more,e.out,e.closed⟩
theorem Enc.one_half (e:Enc) (one:Bool):e.one one=(e.half one).order:=rfl
theorem Enc.Run.half {e:Enc} (h:e.Run) (one:Bool):(e.half one).Pre:=by
 have a1:=h.l
 have a2:=h.s
 unfold Enc.half
 refine ⟨?_,by simp only;omega⟩
 simp only
 split <;> omega
theorem Enc.Run.one {e:Enc} (h:e.Run) (one:Bool):(e.one one).Run:=(h.half one).order
theorem Enc.one_cnt (e:Enc) (one:Bool):(e.one one).cnt≤e.cnt+1:=Enc.order_cnt (e.half one)
theorem Enc.Run.direct {x:Nat}:∀ {n:Nat} {e:Enc},e.Run→(Enc.direct x n e).Run
 | 0,e,h=>h
 | n+1,e,h=>Enc.Run.direct (n:=n) (e:=e.one (x / 2 ^ n % 2==1)) (Enc.Run.one h _)
theorem Enc.direct_cnt {x:Nat}:∀ {n:Nat} {e:Enc},(Enc.direct x n e).cnt≤e.cnt+n
 | 0,e=>Nat.le_refl _
 | n+1,e=>by
  have h1:=Enc.direct_cnt (x:=x) (n:=n) (e:=e.one (x / 2 ^ n % 2==1))
  have h2:=Enc.one_cnt e (x / 2 ^ n % 2==1)
  rw [Enc.direct];omega
end Go.Proofs.YtffehfpbdcokbaaGreat.Rng
