import Derived.Test.YtablgjhnpphodaaGreatBu16
set_option linter.unusedVariables false
set_option linter.unusedSimpArgs false
namespace Go.Proofs.YtablgjhnpphodaaGreat
open Lib (hid)
open Go.RowKit Rng Win Lz Box
theorem budOf_win {lv:Nat} (h:lv≤3):budOf ((2 ^ (16+2*lv):Nat):Int)=2 ^ (16+2*lv):=by
 rcases (by omega:lv=0∨lv=1∨lv=2∨lv=3) with rfl | rfl | rfl | rfl <;> decide
set_option maxRecDepth 100000 in
set_option maxHeartbeats 4000000 in
theorem lawClosed22 (level:Int) (A:Option Addr) (n c:Nat) (f:Nat→Int) (w:World) (hx : -9223372036854775808≤level∧level≤9223372036854775807)
 (hl:n≤c) (hm:c≤maxLen) (hr0:Opn.RowAt w w.heap.size A n (fun i=>.int .u8 (f i))) (hf:∀ i,i<n→0≤f i∧f i≤255) :
 Calls Tryz.prog 5 #[.int .i64 level,.slice A n c] w fun e w'=>e=.returned (.bool true)∧Below w.heap.size w w':=by
 obtain ⟨bs,hbs,hr⟩:=BRow.of_row hr0 hf
 have HR:=hid hr
 have HN:=hid hbs.symm
 have HLC:Hid (n≤c∧c≤maxLen):=hid ⟨hl,hm⟩
 clear hr0 hf hr hbs hm hx hl
 by_cases hbig:16384<n
 ·have q1:(16384:Int)<(n:Int):=by omega
  clear hbig
  go_enter Tryz.func5,Tryz.ntmps5
  go_wp2_with fail
  refine (en_new level w).mono ?_;rintro e w1 ⟨eb,O1,rfl,h1,hb1⟩
  have B1:=hid hb1
  clear h1 hb1
  go_wp2_with fail
  refine (write_nil A n c w1).mono ?_;rintro e w2 ⟨rfl,rfl⟩
  go_wp2_with fail
  refine (flush_nil w1).mono ?_;rintro e w2 ⟨rfl,rfl⟩
  go_wp2_with fail
  refine (xclose_nil w1).mono ?_;rintro e w2 ⟨rfl,rfl⟩
  go_wp2_with fail
  refine (wakes22 w1).mono ?_;rintro e w2 ⟨rfl,hb2⟩
  have B2:=hid (B1.out.trans (hb2.mono B1.out.size))
  clear hb2
  go_wp2
  go_ret
  exact ⟨rfl,B2.out⟩
 have q1:(n:Int)≤16384:=by omega
 have HB:=hid (show n≤16384 by omega)
 clear hbig
 go_enter Tryz.func5,Tryz.ntmps5
 go_wp2_with fail
 refine (en_new level w).mono ?_;rintro e w1 ⟨eb,O1,rfl,h1,hb1⟩
 obtain ⟨lv,hlv⟩:∃ lv,lvOf level=lv:=⟨_,rfl⟩
 have hl3:lv≤3:=by rw [← hlv];exact lvOf_le level
 have HWI:=hid (window22_p level)
 rw [hlv] at h1 HWI
 have B1:=hid hb1
 have HL3:=hid hl3
 have HW:=hid (en_write h1 rfl A bs n c w.heap.size HN.out (HR.out.below hb1) (BOff.of_row HR.out h1.ge) hb1.size HLC.out.1 (by show 0+n≤16384;have:=HB.out;omega))
 have G1:=hid h1.ge
 have R1:=hid (HR.out.below hb1)
 clear h1 hb1 hlv hl3
 go_wp2_with fail
 refine (write_nil A n c w1).mono ?_;rintro e w2 ⟨rfl,rfl⟩
 go_wp2_with fail
 refine (flush_nil w1).mono ?_;rintro e w2 ⟨rfl,rfl⟩
 go_wp2_with fail
 refine (xclose_nil w1).mono ?_;rintro e w2 ⟨rfl,rfl⟩
 go_wp2_with fail
 refine HW.out.mono ?_;rintro e w2 ⟨rfl,O2,h2,ho2,hf2⟩
 have B2:=hid (B1.out.trans (hf2.below B1.out.size (fun q hq=>G1.out q hq)))
 have G2:=hid h2.ge
 have HC:=hid (en_close h2 rfl HL3.out (by simp))
 clear h2 ho2 hf2 HW
 go_wp2_with fail
 refine HC.out.mono ?_;rintro e w3 ⟨A3,c3,r3,xs3,s3,rfl,ho3,hout3,hst3,hx3,⟨v3,sb3,own3,h3⟩,hcl3,hf3,hl3,-⟩
 obtain ⟨L3,hL3⟩:∃ L,r3.length=L:=⟨_,rfl⟩
 rw [hL3] at ho3
 simp only [hL3]
 have htx:newEnc.txt++bs=bs:=rfl
 have hrd:xP (2 ^ (16+2*lv)) r3=(bs,.inr []):=by
  have e:outS lv []++r3=endS lv xs3 bs:=hout3
  have e2:r3=endS lv xs3 bs:=e
  rw [e2]
  exact endS_readB HL3.out (Nat.le_refl _) hst3 (by have:=HN.out;have:=HB.out;omega) (by have:xs3.length≤0+1:=hx3;omega)
 have HS3:=hid (And.intro hL3 (And.intro hrd hl3))
 have B3:=hid (B2.out.trans (hf3.below B2.out.size (fun q hq=>G2.out q hq)))
 have H3:=hid (And.intro h3 hcl3)
 have R3:=hid ho3
 clear ho3 hout3 hst3 hx3 h3 hcl3 hf3 hl3 htx hL3 hrd HC
 go_wp2_with (at_builtin;refine wpList_append_bytes _ rfl (.tmp 48) (.tmp 50) 27 rfl 5 w3.heap.size Tryz.underlying27 Tryz.info_u8 (.slice none 0 0) [] rfl ?own1 A3 L3 c3 w3.heap.size r3 rfl HS3.out.1.symm ?row1 ?len1 ?base1 ?next1)
 case own1=>exact OwnB.nil _ _ _
 case row1=>exact R3.out.rowZ
 case len1=>have:=HS3.out;simp;omega
 case base1=>exact Nat.le_refl _
 case next1 =>
 intro v4 w4 hown4 hfrm4 hnew4
 have b4:Below w3.heap.size w3 w4:=hfrm4.below (Nat.le_refl _) (fun q e=>by cases e)
 have h4:=H3.out.1.below b4
 obtain ⟨A4,c4,e4,hc4,hm4,hr4⟩:=hown4.slice
 have e40:([]++r3:List UInt8)=r3:=rfl
 try simp only [List.nil_append] at e4 hc4 hr4
 rw [HS3.out.1] at e4 hc4
 subst e4
 have HD:=hid (member_p A4 r3 L3 c4 ((2 ^ (16+2*lv):Nat):Int) w4 HS3.out.1.symm hr4 hc4 hm4 (by have:=HS3.out;omega))
 have B4:=hid (B3.out.trans (b4.mono B3.out.size))
 have W1:=hid (write_closed _ _ _ _ _ _ _ _ A n c w4 h4 H3.out.2)
 have W2:=hid (flush_closed _ _ _ _ _ _ _ _ w4 h4 H3.out.2)
 have W3:=hid (xclose_closed _ _ _ _ _ _ _ _ w4 h4 H3.out.2)
 clear hown4 hfrm4 hnew4 b4 h4 hc4 hm4 hr4 e40 R3
 go_wp2_with fail
 refine W1.out.mono ?_;rintro e w5 ⟨rfl,rfl⟩
 go_wp2_with fail
 refine W2.out.mono ?_;rintro e w5 ⟨rfl,rfl⟩
 go_wp2_with fail
 refine W3.out.mono ?_;rintro e w5 ⟨rfl,rfl⟩
 go_wp2_with fail
 refine (HWI.out w4).mono ?_;rintro e w5 ⟨rfl,rfl⟩
 have hbw:=budOf_win HL3.out
 obtain ⟨BW,hBW⟩:∃ BW,2 ^ (16+2*lv)=BW:=⟨_,rfl⟩
 rw [hBW] at HD hbw HS3
 simp only [hBW]
 have HBW:=hid hbw
 clear hbw hBW W1 W2 W3 HWI
 go_wp2_with fail
 refine HD.out.mono ?_;rintro e w6 hd
 rw [HBW.out] at hd
 obtain ⟨A6,c6,rfl,-,hr6,hb6⟩:=mem_ok (m:=n) (u:=L3) hd HS3.out.2.1 HN.out.symm (by rw [HS3.out.1];rfl)
 have hB6:=B4.out.trans (hb6.mono B4.out.size)
 have k1:=run_conv_bytes (P:=Tryz.prog) w6 27 9 5 Tryz.underlying27 Tryz.underlying5 Tryz.underlying9 A6 n c6 _ bs HN.out hr6
 have k2:=run_conv_bytes (P:=Tryz.prog) w6 27 9 5 Tryz.underlying27 Tryz.underlying5 Tryz.underlying9 A n c _ bs HN.out (HR.out.below hB6)
 have B6:=hid hB6
 clear hd hr6 hb6 hB6 HD
 go_wp2_with fail
 refine (wakes22 w6).mono ?_;rintro e w7 ⟨rfl,hb7⟩
 have B7:=hid (B6.out.trans (hb7.mono B6.out.size))
 clear hb7
 go_wp2
 go_ret
 exact ⟨rfl,B7.out⟩
open Go.RowKit Rng Win Lz Box
open Go.RowKit Rng Win Lz Box
section
variable {K eb lv : Nat} {w wr w3 w4 : World} {O O3 : Nat → Prop} {s s3 : EncS} {xs xs3 : List (List UInt8)} {ov v4 : Value}
end
open Go.RowKit Rng Win Lz Box
section
variable {K eb lv : Nat} {w wr w3 w4 w' : World} {O O' : Nat → Prop} {s s' : EncS} {xs xs' : List (List UInt8)} {ov v4 : Value} {d : Int} {bs : List UInt8} {A : Option Addr} {r : List UInt8} {c : Nat}
end
open Go.RowKit Rng Win Lz Box
section
variable {K eb lv : Nat} {w wr w' : World} {O : Nat → Prop} {s : EncS} {xs : List (List UInt8)} {ov : Value}
end
open Go.RowKit Rng Win Lz Box
section
variable {K eb lv : Nat} {w wr w3 w4 : World} {O : Nat → Prop} {s : EncS} {xs xs3 : List (List UInt8)} {ov v4 : Value} {E r3 : List UInt8}
end
end Go.Proofs.YtablgjhnpphodaaGreat
