import Derived.Test.YtffehfpbdcokbaaGreatBu1
import Derived.Test.YtffehfpbdcokbaaGreatBu19
import Derived.Test.YtffehfpbdcokbaaGreatBu22
set_option linter.unusedVariables false
set_option linter.unusedSimpArgs false
namespace Go.Proofs.YtffehfpbdcokbaaGreat
open Lib (hid)
open Go.RowKit Rng Win Lz
open Go.RowKit Rng Win Lz
def UpEnd (S most:Nat) (bs:List UInt8) (w:World) (e:Ending) (w':World):Prop :=
 ∃ v,OwnB w' 5 w.heap.size v (d2P S most bs).1∧Below w.heap.size w w' ∧
  (match (d2P S most bs).2 with
  | .inl z=>z≠0∧e=.returned (.tuple #[v,.int .i64 0,.int .i64 ((z:Nat):Int)])
  | .inr r=>r.length≤bs.length∧e=.returned (.tuple #[v,.int .i64 ((bs.length-r.length:Nat):Int),.int .i64 0]))
def leftOf (n xb:Nat) (w:World):Nat:=n-(intOf ((w.cell? ⟨xb,3,none⟩).getD (.int .i64 0))).toNat
theorem DmAt.left {w0 w:World} {K xb:Nat} {k:LK} {x:DS} {wb kb S:Nat} {A:Option Addr} {bs:List UInt8} {c most used:Nat} {all:List UInt8} {d:Nat} {wv ov:Value} {out:List UInt8} (h:DmAt w0 w K xb k x wb kb S A bs c most used all d wv ov out) (n:Nat):leftOf n xb w=n-used:=by
 unfold leftOf
 rw [h.cells.2.2.2.1]
 rfl
set_option maxRecDepth 100000 in
set_option maxHeartbeats 4000000 in
theorem up_p (A:Option Addr) (bs:List UInt8) (n c S most:Nat) (w:World) (hn:n=bs.length) (hr:BRow w w.heap.size A bs) (hc:n≤c) (hcm:c≤maxLen) (hub:n≤100000000) (hS:1≤S∧S≤16777216) (hm:most≤16777216) :
 Calls Tryz.prog 19 #[.slice A n c,.int .i64 S,.int .i64 most] w (UpEnd S most bs w):=by
 obtain ⟨R,hR⟩:∃ R,d2P S most bs=R:=⟨_,rfl⟩
 have HE:Hid (∀ e w',(∃ v,OwnB w' 5 w.heap.size v R.1∧Below w.heap.size w w'∧(match R.2 with | .inl z=>z≠0∧e=.returned (.tuple #[v,.int .i64 0,.int .i64 ((z:Nat):Int)]) | .inr r=>r.length≤n∧e=.returned (.tuple #[v,.int .i64 ((n-r.length:Nat):Int),.int .i64 0])))→UpEnd S most bs w e w'):=hid (by
  intro e w' h
  unfold UpEnd
  rw [hR,← hn]
  exact h)
 have HR:=hid hR
 have HRW:=hid (And.intro hn (And.intro hr (And.intro hc (And.intro hcm hub))))
 have HS:=hid (And.intro hS hm)
 have HL:=hid (rnew_led 16777216 w)
 clear hR hn hr hc hcm hub hS hm
 go_enter Tryz.func19,Tryz.ntmps19
 go_wp2_with fail
 refine HL.out.mono ?_;rintro e w1 ⟨rfl,hl1,hb1⟩
 have hch:=ch_ok (B:=bud 16777216) (n:=0) 0 (k:=(S:Int)) (by omega) (by have:=HS.out;show ¬ (16777216-0:Int)<S;omega)
 have HW:=hid (rnew_win w.heap.size S (bud 16777216) 0 0 w1 hl1 (by decide) (by decide) (by decide) HS.out.1.1 HS.out.1.2 hch.1)
 have HB1:=hid (And.intro hb1 (Pts.lt hl1))
 clear hl1 hb1 hch HL
 go_wp2_with fail
 refine HW.out.mono ?_;rintro e w2 ⟨wb,rfl,hw2,hwb,-,hf2⟩
 have HB2:Hid (Below w.heap.size w w2∧w.heap.size≤wb):=hid ⟨HB1.out.1.trans (hf2.below HB1.out.1.size (fun q hq=>by omega)),by have:=HB1.out.2;omega⟩
 have HW2:Hid (RWin w2 w.heap.size wb w.heap.size S true (.slice none 0 0) []):=hid ⟨hw2.p,OwnB.nil _ _ _⟩
 clear hw2 hwb hf2 HB1 HW
 have HN:=hid (refnew_p w2)
 go_wp2_with fail
 refine HN.out.mono ?_;rintro e w3 ⟨sb,lb,rfl,g1,g2,g3,hm3,hl3,hb3⟩
 have hs3:DStAt w3 (newK sb lb) 0 (fun _=>0) (fun _=>1024):=⟨hm3,hl3,fun _=>(by decide:1024<65536),g3⟩
 have hwin3:RWin w3 w.heap.size wb w.heap.size S true (.slice none 0 0) []:=⟨HW2.out.p.below hb3 HW2.out.p.lt,OwnB.nil _ _ _⟩
 have HB3:Hid (Below w.heap.size w w3∧w.heap.size≤sb∧w.heap.size≤lb):=hid ⟨HB2.out.1.trans (hb3.mono HB2.out.1.size),Nat.le_trans HB2.out.1.size g1,Nat.le_trans HB2.out.1.size g2⟩
 clear hm3 hl3 hb3 g1 g2 g3 HN HW2
 have HS3:=hid hs3
 have HWN:=hid hwin3
 clear hs3 hwin3
 go_wp2_with fail
 have hat:DmAt w (w3.alloc (.cells #[.pointer (some ⟨wb,0,none⟩),.pointer (some ⟨sb,0,none⟩),.slice A n c,.int .i64 0,.int .i64 0,.int .i64 most,.bool false,.bool false,.slice none 0 0] 82)) w.heap.size w3.heap.size (newK sb lb) newDS wb w.heap.size S A bs c most 0 [] 0 (.slice none 0 0) (.slice none 0 0) []:=by
  have hp:=Pts.new w3 #[.pointer (some ⟨wb,0,none⟩),.pointer (some ⟨sb,0,none⟩),.slice A n c,.int .i64 0,.int .i64 0,.int .i64 most,.bool false,.bool false,.slice none 0 0] 82
  have hf:Frm (fun _=>False) w3 (w3.alloc (.cells #[.pointer (some ⟨wb,0,none⟩),.pointer (some ⟨sb,0,none⟩),.slice A n c,.int .i64 0,.int .i64 0,.int .i64 most,.bool false,.bool false,.slice none 0 0] 82)):=(Frm.refl _ w3).alloc _
  refine ⟨?_,HS3.out.frm hf id id,⟨rfl,rfl,rfl⟩,⟨by show 3+0≤4;omega,by show 2≤4;omega⟩,⟨(by decide:(0:Nat)<12),fun _=>(by decide:(0:Nat)<4294967296)⟩,⟨Pts.alloc HWN.out.p _,OwnB.nil _ _ _⟩,?_,rfl,OwnB.nil _ _ _,(fun q h=>by cases h),⟨HB3.out.1.size,HB3.out.2.1,HB3.out.2.2,HB2.out.2⟩,HB3.out.1.trans (hf.below HB3.out.1.size (fun q h=>h.elim)),Nat.le_trans HB3.out.1.size hf.size,⟨Nat.zero_le _,HS.out.2⟩,Nat.le_refl _⟩
  ·rw [← HRW.out.1]
   exact hp
  show ([]:List UInt8)=lastN S []
  unfold lastN
  simp
 have HAT:=hid hat
 obtain ⟨xb,hxb⟩:∃ q,w3.heap.size=q:=⟨_,rfl⟩
 obtain ⟨w4,hw4⟩:∃ q,w3.alloc (.cells #[.pointer (some ⟨wb,0,none⟩),.pointer (some ⟨sb,0,none⟩),.slice A n c,.int .i64 0,.int .i64 0,.int .i64 most,.bool false,.bool false,.slice none 0 0] 82)=q:=⟨_,rfl⟩
 rw [hw4,hxb] at HAT
 rw [hw4,hxb]
 clear hat hw4 hxb HS3 HWN HB3 HB2
 go_loopw [12] (fun v12 wr=>True∧Hid (∃ (f used:Nat) (k:LK) (x:DS) (all out:List UInt8) (wv ov:Value),DmAt w wr w.heap.size xb k x wb w.heap.size S A bs c most used all 0 wv ov out∧used≤n∧n-used<f∧d2Go S most f x out (bs.drop used)=R)) (fun _ wr=>leftOf n xb wr)
 case atStart=>exact ⟨trivial,hid ⟨bs.length+1,0,_,_,_,_,_,_,HAT.out,Nat.zero_le _,by have:=HRW.out.1;omega,HR.out⟩⟩
 case round =>
 obtain ⟨-,HX⟩:=hrel
 obtain ⟨f,used,k,x,all,out,wv,ov,hat,hu,hf,hgo⟩:=HX.out
 obtain ⟨f1,rfl⟩:∃ f1,f=f1+1:=⟨f-1,by omega⟩
 unfold d2Go at hgo
 have HC:=hid (chunk_d hat HRW.out.2.1 (by have:=HRW.out;omega) (by have:=HRW.out.1;omega) HS.out.1)
 have HGO:=hid (And.intro hgo (And.intro hu (And.intro hf (hat.left n))))
 clear hat hu hf hgo HX HAT
 go_wp2_with fail
 refine HC.out.mono ?_;rintro e w5 hde
 rcases hde with ⟨z,h1,h2,rfl,ov',h4,h5,h6,h7⟩ | ⟨u',h1,h2,rfl,k',wv',ov',h4⟩ | ⟨t,y,u',h1,h2,h3,⟨h4,rfl,ov',h6,h7,h8,h9⟩ | ⟨h4,rfl,k',all',wv',ov',h6⟩⟩
 ·have hgo:=HGO.out.1
  rw [h1] at hgo
  have HZ:Hid ((out,Sum.inl z)=R):=hid hgo
  have HO:=hid (And.intro h5 (And.intro h6 h2))
  have q0:((z:Int)==0)=false:=beq_eq_false_iff_ne.2 (by omega)
  clear hgo h1 h2 h5 h6 h7 HC HGO
  go_wp2
  go_ret3
  refine HE.out _ _ ⟨ov',?_,HO.out.2.1,?_⟩
  ·rw [← HZ.out];exact HO.out.1
  rw [← HZ.out];exact ⟨HO.out.2.2,rfl⟩
 ·have hgo:=HGO.out.1
  rw [h1] at hgo
  have HZ:Hid ((out,Sum.inr (bs.drop u'))=R):=hid hgo
  have HO:=hid h4
  obtain ⟨-,-,-,c3,-,-,-,-,c8⟩:=h4.cells
  have HU:Hid (u'≤bs.length):=hid h2
  clear hgo h1 h2 h4 HC HGO
  go_upto_region 9 with fail
  go_quiet (fail)
  go_wp2
  go_ret3
  refine HE.out _ _ ⟨ov',?_,?_,?_⟩
  ·rw [← HZ.out];exact (HO.out.drewN _).o
  ·exact (HO.out.drewN _).b
  rw [← HZ.out]
  have e1:(bs.drop u').length=n-u':=by rw [List.length_drop,HRW.out.1]
  have e2:n-(bs.drop u').length=u':=by have:=HU.out;have:=HRW.out.1;omega
  refine ⟨by rw [e1];omega,?_⟩
  show _=Ending.returned (.tuple #[ov',.int .i64 ((n-(bs.drop u').length:Nat):Int),.int .i64 0])
  rw [e2]
  rfl
 ·have hgo:=HGO.out.1
  rw [h1] at hgo
  have hgo2:(if most<out.length+t.length then (out,Sum.inl 3) else d2Go S most f1 { y with total:=y.total+t.length } (out++t) (bs.drop u'))=R:=hgo
  rw [if_pos h4] at hgo2
  have HZ:Hid ((out,Sum.inl 3)=R):=hid hgo2
  have HO:=hid (And.intro h7 h8)
  clear hgo hgo2 h1 h2 h3 h4 h7 h8 h9 HC HGO
  go_wp2
  go_ret3
  refine HE.out _ _ ⟨ov',?_,HO.out.2,?_⟩
  ·rw [← HZ.out];exact HO.out.1
  rw [← HZ.out];exact ⟨by decide,rfl⟩
 have hgo:=HGO.out.1
 rw [h1] at hgo
 have hgo2:(if most<out.length+t.length then (out,Sum.inl 3) else d2Go S most f1 { y with total:=y.total+t.length } (out++t) (bs.drop u'))=R:=hgo
 rw [if_neg h4] at hgo2
 have HX2:Hid (∃ (f used:Nat) (k:LK) (x:DS) (all out:List UInt8) (wv ov:Value),DmAt w w5 w.heap.size xb k x wb w.heap.size S A bs c most used all 0 wv ov out∧used≤n∧n-used<f∧d2Go S most f x out (bs.drop used)=R) :=
  hid ⟨f1,u',k',_,all',_,wv',ov',h6,by have:=HRW.out.1;omega,by have:=HGO.out;have:=HRW.out.1;omega,hgo2⟩
 have HM:Hid (leftOf n xb w5<leftOf n xb wr):=hid (by rw [h6.left n,HGO.out.2.2.2];have:=HGO.out;have:=HRW.out.1;omega)
 clear hgo hgo2 h1 h2 h3 h4 h6 HC HGO
 go_wp2
 exact ⟨⟨trivial,HX2⟩,HM.out⟩
end Go.Proofs.YtffehfpbdcokbaaGreat
namespace Go.Proofs.YtffehfpbdcokbaaGreat.Crc
open Go.Proofs.YtffehfpbdcokbaaGreat.Num
def bit (P x:Nat):Nat:=if x % 2=1 then (x / 2) ^^^ P else x / 2
def bitsN (P:Nat):Nat→Nat→Nat
 | 0,x=>x
 | n+1,x=>bit P (bitsN P n x)
def byByte (P n:Nat) (b:UInt8):Nat:=(n / 256) ^^^ bitsN P 8 ((n % 256) ^^^ b.toNat)
def byBits (P n:Nat) (b:UInt8):Nat:=bitsN P 8 (n ^^^ b.toNat)
theorem half_lt {x:Nat} (h:x<M64):x / 2<M64:=by omega
theorem bit_lt {P x:Nat} (hP:P<M64) (hx:x<M64):bit P x<M64:=by
 unfold bit
 split
 ·exact xor_lt64 (half_lt hx) hP
 exact half_lt hx
theorem bitsN_lt {P x:Nat} (hP:P<M64) (hx:x<M64):∀ n,bitsN P n x<M64
 | 0=>hx
 | n+1=>bit_lt hP (bitsN_lt hP hx n)
theorem bit_lt32 {P x:Nat} (hP:P<M32) (hx:x<M32):bit P x<M32:=by
 unfold bit
 split
 ·exact xor_lt32 (by omega) hP
 omega
theorem bitsN_lt32 {P x:Nat} (hP:P<M32) (hx:x<M32):∀ n,bitsN P n x<M32
 | 0=>hx
 | n+1=>bit_lt32 hP (bitsN_lt32 hP hx n)
theorem half_xor (a b:Nat):(a ^^^ b) / 2=(a / 2) ^^^ (b / 2):=by
 have:=Nat.shiftRight_xor_distrib (a:=a) (b:=b) (i:=1)
 simpa [Nat.shiftRight_succ] using this
theorem mod_xor (a b:Nat):(a ^^^ b) % 2=(a % 2+b % 2) % 2:=by
 have h:=Nat.xor_mod_two_pow (a:=a) (b:=b) (n:=1)
 rw [show (2:Nat) ^ 1=2 from rfl] at h
 rw [h]
 rcases Nat.mod_two_eq_zero_or_one a with ha | ha <;> rcases Nat.mod_two_eq_zero_or_one b with hb | hb <;> rw [ha,hb] <;> rfl
theorem bit_xor (P a b:Nat):bit P (a ^^^ b)=bit P a ^^^ bit P b:=by
 unfold bit
 rw [mod_xor,half_xor]
 rcases Nat.mod_two_eq_zero_or_one a with ha | ha <;> rcases Nat.mod_two_eq_zero_or_one b with hb | hb <;> simp [ha,hb]
 ·rw [Nat.xor_assoc]
 ·rw [Nat.xor_assoc,Nat.xor_assoc,Nat.xor_comm P]
 rw [Nat.xor_assoc,Nat.xor_comm P (b / 2 ^^^ P),Nat.xor_assoc (b / 2),Nat.xor_self,Nat.xor_zero]
theorem bitsN_xor (P a b:Nat):∀ n,bitsN P n (a ^^^ b)=bitsN P n a ^^^ bitsN P n b
 | 0=>rfl
 | n+1=>by unfold bitsN;rw [bitsN_xor P a b n,bit_xor]
theorem bit_even (P x:Nat) (h:x % 2=0):bit P x=x / 2:=by unfold bit;rw [if_neg (by omega)]
theorem bitsN_high (P k:Nat):∀ n m,bitsN P n (k*2 ^ (m+n))=k*2 ^ m
 | 0,m=>by simp [bitsN]
 | n+1,m=>by
  unfold bitsN
  rw [show m+(n+1)=(m+1)+n by omega,bitsN_high P k n (m+1),bit_even]
  ·rw [Nat.pow_succ,← Nat.mul_assoc,Nat.mul_div_cancel _ (by omega)]
  rw [Nat.pow_succ,← Nat.mul_assoc,Nat.mul_mod_left]
theorem split_xor (n:Nat):n=(n / 256*256) ^^^ (n % 256):=by
 have h:(n / 256)*2 ^ 8 ^^^ (n % 256)=(n / 256)*2 ^ 8+n % 256:=by
  rw [← Nat.shiftLeft_eq]
  have h1:=Nat.shiftLeft_add_eq_or_of_lt (a:=n / 256) (b:=n % 256) (i:=8) (Nat.mod_lt _ (by omega))
  rw [h1]
  apply Nat.eq_of_testBit_eq
  intro i
  rw [Nat.testBit_xor,Nat.testBit_or,Nat.testBit_shiftLeft]
  by_cases hi:i<8
  ·simp [show ¬ (i≥8) by omega]
  have h2:(n % 256).testBit i=false:=by
   apply Nat.testBit_lt_two_pow
   have:2 ^ 8≤2 ^ i:=Nat.pow_le_pow_right (by omega) (by omega)
   have:=Nat.mod_lt n (show 256 > 0 by omega)
   omega
  simp [h2]
 rw [show (256:Nat)=2 ^ 8 from rfl] at *
 rw [h]
 exact (Nat.div_add_mod' n (2 ^ 8)).symm
theorem byByte_eq (P n:Nat) (b:UInt8):byByte P n b=byBits P n b:=by
 unfold byByte byBits
 have h:n ^^^ b.toNat=(n / 256*2 ^ 8) ^^^ ((n % 256) ^^^ b.toNat):=by
  rw [← Nat.xor_assoc]
  exact congrArg (· ^^^ b.toNat) (split_xor n)
 have h2:=bitsN_high P (n / 256) 8 0
 rw [Nat.zero_add,Nat.pow_zero,Nat.mul_one] at h2
 rw [h,bitsN_xor P (n / 256*2 ^ 8),h2]
def add (P n:Nat) (bs:List UInt8):Nat:=bs.foldl (byByte P) n
theorem add_append (P n:Nat) (a b:List UInt8):add P n (a++b)=add P (add P n a) b:=List.foldl_append
theorem byByte_lt {P n:Nat} (hP:P<M64) (hn:n<M64) (b:UInt8):byByte P n b<M64:=by
 have:=b.toNat_lt
 exact xor_lt64 (by omega) (bitsN_lt hP (Nat.lt_of_lt_of_le (xor_lt8 (Nat.mod_lt _ (by omega)) (by omega)) (by unfold M64;omega)) 8)
theorem add_lt {P:Nat} (hP:P<M64) (bs:List UInt8):∀ n,n<M64→add P n bs<M64:=by
 induction bs with
 | nil=>intro n h;exact h
 | cons b bs ih=>intro n h;exact ih _ (byByte_lt hP h b)
theorem byBits_lt32 {P n:Nat} (hP:P<M32) (hn:n<M32) (b:UInt8):byBits P n b<M32:=by
 have:=b.toNat_lt
 exact bitsN_lt32 hP (xor_lt32 hn (Nat.lt_of_lt_of_le this (by unfold M32;omega))) 8
theorem add_lt32 {P:Nat} (hP:P<M32) (bs:List UInt8):∀ n,n<M32→add P n bs<M32:=by
 induction bs with
 | nil=>intro n h;exact h
 | cons b bs ih=>intro n h;refine ih _ ?_;rw [byByte_eq];exact byBits_lt32 hP h b
end Go.Proofs.YtffehfpbdcokbaaGreat.Crc
