import Derived.Test.YtablgjhnpphodaaGreatBu16
set_option linter.unusedVariables false
set_option linter.unusedSimpArgs false
namespace Go.Proofs.YtablgjhnpphodaaGreat
open Lib (hid)
open Go.RowKit Rng Win Lz Box
theorem budOf_win {lv:Nat} (h:lv≤3):budOf ((2 ^ (16+2*lv):Nat):Int)=2 ^ (16+2*lv):=by
 rcases (by omega:lv=0∨lv=1∨lv=2∨lv=3) with rfl | rfl | rfl | rfl <;> decide
open Go.RowKit Rng Win Lz Box
theorem sumX_le {l:List XAct} {i:Nat}:sumX (l.take i)≤sumX l:=by
 unfold sumX
 conv=>rhs;rw [← List.take_append_drop i l]
 rw [List.map_append,List.sum_append]
 omega
theorem XActRow.at_ {w wr:World} {A:Option Addr} {l:List XAct} {i:Nat} (h:XActRow w w.heap.size A l) (hb:Below w.heap.size w wr) (hi:i<l.length):∃ b off,A=some ⟨b,off,none⟩∧b<w.heap.size ∧
 wr.cell? ⟨b,off+i*2,none⟩=some (.int .i64 (l.getD i default).d)∧wr.cell? ⟨b,off+i*2+1,none⟩=some (.slice (l.getD i default).A (l.getD i default).bs.length (l.getD i default).cap):=by
 obtain ⟨b,off,e,hlt,hc⟩:=h (by omega)
 obtain ⟨c0,c1⟩:=hc i hi
 have hbk:=hb.block b hlt
 exact ⟨b,off,e,hlt,(World.cell?_of_block hbk).trans c0,(World.cell?_of_block hbk).trans c1⟩
open Go.RowKit Rng Win Lz Box
theorem run_str_take {P:Program} (wx:World) (t:TypeId) (ht:P.underlying t=some .string) (x:List UInt8) (m:Nat) (h:m≤x.length) :
 (Instr.slice t (.string ⟨x.toArray⟩) none (some (.int .i64 (m:Int))) none).run P wx=.ok (.string ⟨(x.take m).toArray⟩) wx:=by
 have q:=run_slice_string_h (P:=P) wx t ⟨x.toArray⟩ ht .i64 (m:Int) (by omega) (by simp [ByteArray.size];omega)
 refine q.trans ?_
 have e:(ByteArray.mk x.toArray).extract 0 (m:Int).toNat=⟨(x.take m).toArray⟩:=by
  apply ByteArray.ext
  rw [ByteArray.data_extract]
  simp
 rw [e]
theorem mk_cat (a b:Array UInt8):ByteArray.mk a++ByteArray.mk b=ByteArray.mk (a++b):=by
 rw [ByteArray.mk_append_mk]
 congr 1
 apply Array.ext'
 simp
structure FlOut (K:Nat) (w wr:World) (O:Nat→Prop) (eb lv:Nat) (s:EncS) (xs:List (List UInt8)) (ov:Value):Prop where
 e:EnD wr K O eb lv s xs
 b:Below K w wr
 c:s.closed=false
 v:OwnB wr 5 K ov (outS lv xs)
 n:∀ q,ov.ownBlock=some q→¬ O q
section
variable {K eb lv : Nat} {w wr w3 w4 : World} {O O3 : Nat → Prop} {s s3 : EncS} {xs xs3 : List (List UInt8)} {ov v4 : Value}
theorem FlOut.len (h:FlOut K w wr O eb lv s xs ov):(outS lv xs).length≤24+s.txt.length+3*xs.length:=by
 have h1:=outS_len (lv:=lv) h.e.2.st
 have h2:=h.e.2.d
 omega
theorem FlOut.next (h:FlOut K w wr O eb lv s xs ov) (hK:K≤wr.heap.size) (h3:EnD w3 K O3 eb lv s3 xs3) (hc:s3.closed=false) (hO:∀ q,O3 q→O q∨wr.heap.size≤q) (hf:Frm O wr w3) {r3:List UInt8} (hr:outS lv xs++r3=outS lv xs3)
 (hown:OwnB w4 5 K v4 (outS lv xs++r3)) (hfrm:Frm (fun k=>ov.ownBlock=some k) w3 w4) (hnew:v4.ownBlock=ov.ownBlock∨v4.ownBlock=some w3.heap.size):FlOut K w w4 O3 eb lv s3 xs3 v4:=by
 have hn:∀ q,ov.ownBlock=some q→¬ O3 q:=fun q hq h3q=>by
  rcases hO q h3q with h1 | h1
  ·exact h.n q hq h1
  have:=(h.v.lt hq).2;omega
 refine ⟨h3.frm hfrm (fun q hq e=>hn q e hq),?_,hc,hr▸hown,fun q hq hO3=>?_⟩
 ·exact (h.b.trans (hf.below hK (fun q hq=>h.e.ge q hq))).trans (hfrm.below (Nat.le_trans hK hf.size) (fun q hq=>(h.v.lt hq).1))
 rcases hnew with e | e
 ·exact hn q (e▸hq) hO3
 rw [e] at hq
 have e2:=Option.some.inj hq
 have:=h3.lt q hO3
 omega
theorem FlOut.below {w':World} (h:FlOut K w wr O eb lv s xs ov) (hK:K≤wr.heap.size) (hb:Below wr.heap.size wr w'):FlOut K w w' O eb lv s xs ov :=
 ⟨h.e.below hb,h.b.trans (hb.mono hK),h.c,h.v.keepZ hb,h.n⟩
end
set_option maxRecDepth 100000 in
set_option maxHeartbeats 8000000 in
theorem lawFlush22 (level:Int) (A:Option Addr) (l:List XAct) (ln c:Nat) (w:World) (hx : -9223372036854775808≤level∧level≤9223372036854775807)
 (hln:ln=l.length) (hr:XActRow w w.heap.size A l) (hf:∀ s∈l,s.Fits w w.heap.size∧s.bs.length≤1048576) (hlm:l.length≤1048576) :
 Calls Tryz.prog 3 #[.int .i64 level,.slice A ln c] w fun e w'=>e=.returned (.bool true)∧Below w.heap.size w w':=by
 subst hln
 have HR:=hid hr
 have HF:=hid hf
 have HG:=hid (great22_any A l l.length c w.heap.size w rfl hr hf hlm)
 clear hr hf hx
 go_enter Tryz.func3,Tryz.ntmps3
 go_wp2_with fail
 refine HG.out.mono ?_;rintro e w0 ⟨hg | ⟨hg,hg1,hg2⟩,rfl⟩
 ·subst hg
  go_wp2_with fail
  refine (wakes22 w).mono ?_;rintro e w2 ⟨rfl,hb2⟩
  have B2:=hid hb2
  clear hb2
  go_wp2
  go_ret
  exact ⟨rfl,B2.out⟩
 subst hg
 have HS:=hid (And.intro hg1 hg2)
 clear hg1 hg2 HG
 go_wp2_with fail
 refine (en_new level w).mono ?_;rintro e w1 ⟨eb,O1,rfl,h1,hb1⟩
 have HWI:=hid (window22_p level)
 obtain ⟨lv,hlv⟩:∃ lv,lvOf level=lv:=⟨_,rfl⟩
 have HL3:Hid (lv≤3):=hid (by rw [← hlv];exact lvOf_le level)
 rw [hlv] at h1 HWI
 have hbw:=budOf_win HL3.out
 obtain ⟨BW,hBW⟩:∃ BW,2 ^ (16+2*lv)=BW:=⟨_,rfl⟩
 rw [hBW] at HWI hbw
 have HBW:=hid (And.intro hbw hBW)
 have H1:Hid (FlOut w.heap.size w w1 O1 eb lv newEnc [] (.slice none 0 0)):=hid ⟨h1,hb1,rfl,OwnB.nil _ _ _,fun q e=>by cases e⟩
 clear h1 hb1 hlv hbw hBW
 go_wp2
 go_loopw [6,7,8] (fun ov av iv wr=>∃ (i N Lo co:Nat) (Ao:Option Addr) (O:Nat→Prop) (s:EncS) (xs:List (List UInt8)) (SA:Array UInt8),iv=.int .i64 (i:Int)∧av=.string ⟨SA⟩∧ov=.slice Ao Lo co∧i≤l.length∧SA.size=N∧N≤16384 ∧
  Hid (FlOut w.heap.size w wr O eb lv s xs (.slice Ao Lo co)∧s.txt.toArray=SA∧Lo=(outS lv xs).length∧xs.length≤i∧s.txt.length=N∧N≤sumX (l.take i))) (fun _ _ iv _=>l.length-(intOf iv).toNat)
 case atStart=>exact ⟨0,0,0,0,none,O1,newEnc,[],#[],rfl,rfl,rfl,Nat.zero_le _,rfl,by decide,hid ⟨H1.out,rfl,rfl,Nat.le_refl _,rfl,Nat.zero_le _⟩⟩
 case round =>
 obtain ⟨i,N,Lo,co,Ao,O,s,xs,SA,rfl,rfl,rfl,hi,hSN,hN,HE⟩:=hrel
 by_cases g1:i<l.length
 ·obtain ⟨b,off,rfl,hbw,c0,c1⟩:=HR.out.at_ HE.out.1.b g1
  have hx:l.getD i default∈l:=by rw [List.getD,List.getElem?_eq_getElem g1];exact List.getElem_mem g1
  have hmu:=sumX_take g1
  have hle:=sumX_le (l:=l) (i:=i+1)
  obtain ⟨hfit,d5⟩:=HF.out _ hx
  obtain ⟨⟨d,A1,bs,cap⟩,hxx⟩:∃ x,l.getD i default=x:=⟨_,rfl⟩
  rw [hxx] at c0 c1 hfit hmu d5
  obtain ⟨n1,hn1⟩:∃ n1,bs.length=n1:=⟨_,rfl⟩
  simp only [hn1] at c0 c1 hmu d5
  have HX:=hid (And.intro hfit (And.intro hmu (And.intro hle (And.intro hn1 hxx))))
  have HXL:Hid (xs.length≤39):=hid (by have a1:=HE.out.2.2.2.1;have a2:=HS.out.1;omega)
  have HSZ:Hid (w.heap.size≤wr.heap.size):=hid HE.out.1.b.size
  have HLO:Hid (Lo≤24+N+3*39):=hid (by have a1:=HE.out.1.len;have a2:=HXL.out;have a3:=HE.out.2.2.1;have a4:=HE.out.2.2.2.2.1;omega)
  clear hx hmu hle hfit hxx hn1
  by_cases hd:d=1
  ·subst hd
   have HC:=hid (en_flush HE.out.1.e HE.out.1.c HL3.out (by have:=HXL.out;omega))
   go_wp2_with fail
   refine HC.out.mono ?_;rintro e w3 ⟨A3,c3,r3,xs3,s3,rfl,ho3,hout3,h3,ht3,hd3,hcl3,hx3,hf3,hl3⟩
   obtain ⟨L3,hL3⟩:∃ L,r3.length=L:=⟨_,rfl⟩
   rw [hL3] at ho3
   simp only [hL3]
   have v3:=HE.out.1.v.frm hf3 HE.out.1.n
   have b3:Below wr.heap.size wr w3→True:=fun _=>trivial
   have R3:=hid (And.intro ho3 v3)
   have c03:Hid (w3.cell? ⟨b,off+i*2,none⟩=some (.int .i64 1)):=hid ((World.cell?_of_block ((hf3.below HSZ.out (fun q hq=>HE.out.1.e.ge q hq)).block b hbw)).trans c0)
   have HS3:=hid (And.intro hL3 (And.intro h3 (And.intro hcl3 (And.intro hf3 (And.intro hout3 (And.intro ht3 (And.intro hd3 (And.intro hx3 hl3))))))))
   have Z3:=hid hf3.size
   clear ho3 hout3 h3 ht3 hd3 hcl3 hx3 hf3 hl3 hL3 v3 b3 HC
   go_wp2_with (at_builtin;refine wpList_append_bytes _ rfl (.tmp 31) (.tmp 33) 27 rfl 5 w.heap.size Tryz.underlying27 Tryz.info_u8 (.slice Ao Lo co) (outS lv xs) rfl ?own1 A3 L3 c3 w3.heap.size r3 rfl HS3.out.1.symm ?row1 ?len1 ?base1 ?next1)
   case own1=>exact R3.out.2
   case row1=>exact R3.out.1.rowZ
   case len1=>have a1:=HS3.out;have a2:=HLO.out;have a3:=HE.out.2.2.1;omega
   case base1=>have a1:=Z3.out;have a2:=HSZ.out;omega
   case next1 =>
   intro v4 w4 hown4 hfrm4 hnew4
   have h4:=HE.out.1.next HSZ.out HS3.out.2.1 HS3.out.2.2.1 (fun q hq=>.inl hq) HS3.out.2.2.2.1 HS3.out.2.2.2.2.1 hown4 hfrm4 hnew4
   obtain ⟨A4,c4,e4,hc4,hm4,hr4⟩:=h4.v.slice
   obtain ⟨L4,hL4⟩:∃ L,(outS lv xs3).length=L:=⟨_,rfl⟩
   rw [hL4] at e4 hc4
   subst e4
   have ht3:s3.txt=s.txt:=HS3.out.2.2.2.2.2.1
   have hx3:xs3.length≤40:=by have a1:=HS3.out.2.2.2.2.2.2.2.1;have a2:=HXL.out;omega
   have hlen4:=h4.len
   have hN3:s3.txt.length=N:=by rw [ht3];exact HE.out.2.2.2.2.1
   have hrd:xP BW (outS lv xs3)=(s.txt,.inl 10):=by
    rw [← HBW.out.2,outS_readB HL3.out (Nat.le_refl _) h4.e.2.st (by omega),HS3.out.2.2.2.2.2.2.1,ht3,List.take_length]
   have HD:=hid (member_p A4 (outS lv xs3) L4 c4 (BW:Int) w4 hL4.symm hr4 hc4 hm4 (by omega))
   rw [HBW.out.1] at HD
   have H4:=hid (And.intro h4 (And.intro hL4 (And.intro hx3 (And.intro hN3 (And.intro ht3 hrd)))))
   have c04:Hid (w4.cell? ⟨b,off+i*2,none⟩=some (.int .i64 1)):=hid ((World.cell?_of_block ((hfrm4.below (Nat.le_trans HSZ.out Z3.out) (fun q hq=>(HE.out.1.v.lt hq).1)).block b hbw)).trans c03.out)
   clear h4 hc4 hm4 hr4 hL4 ht3 hx3 hlen4 hN3 hrd hown4 hfrm4 hnew4 c0 c1 c03 R3
   go_wp2_with fail
   refine (HWI.out w4).mono ?_;rintro e w5 ⟨rfl,rfl⟩
   go_wp2_with fail
   refine HD.out.mono ?_;rintro e w6 hd
   obtain ⟨A6,c6,rfl,-,hr6,hb6,-⟩:=mem_err (m:=N) hd H4.out.2.2.2.2.2 HE.out.2.2.2.2.1
   have k1:=fun dd=>run_conv_bytes (P:=Tryz.prog) (w6.drewN dd) 27 9 5 Tryz.underlying27 Tryz.underlying5 Tryz.underlying9 A6 N c6 _ s.txt HE.out.2.2.2.2.1.symm (BRow.drewN hr6 dd)
   have k1w:=k1 0
   change (convert 27 9 (.slice A6 N c6)).run Tryz.prog w6=_ at k1w
   have kS:=fun wx=>run_str_take (P:=Tryz.prog) wx 9 Tryz.underlying9 s.txt N (Nat.le_of_eq HE.out.2.2.2.2.1.symm)
   have htk:s.txt.take N=s.txt:=List.take_of_length_le (Nat.le_of_eq HE.out.2.2.2.2.1)
   rw [htk,HE.out.2.1] at kS
   rw [HE.out.2.1] at k1 k1w
   have c06:∀ dd,(w6.drewN dd).cell? ⟨b,off+i*2,none⟩=some (.int .i64 1):=fun dd=>(World.cell?_of_block (hb6.block b (Nat.lt_of_lt_of_le hbw H4.out.1.b.size))).trans c04.out
   have h6:=fun dd=>(H4.out.1.below H4.out.1.b.size hb6).below (Nat.le_trans H4.out.1.b.size hb6.size) (below_drewN (Below.refl _ _) dd)
   have H6:=hid h6
   clear hd hr6 hb6 h6 htk HD c04
   go_upto_region 16 with fail
   go_quiet (fail)
   go_wp2
   refine ⟨⟨i+1,N,L4,c4,A4,O,s3,xs3,SA,by go_num,rfl,rfl,by omega,hSN,hN,hid ⟨H6.out _,?_,?_,?_,?_,?_⟩⟩,by simp [intOf];omega⟩
   ·rw [H4.out.2.2.2.2.1];exact HE.out.2.1
   ·exact H4.out.2.1.symm
   ·have a1:=HS3.out.2.2.2.2.2.2.2.1;have a2:=HE.out.2.2.2.1;omega
   ·exact H4.out.2.2.2.1
   have a1:=HE.out.2.2.2.2.2;have a2:=HX.out.2.1;omega
  have hts:s.txt.length+n1≤16384:=by
   have a1:=HE.out.2.2.2.2.1
   have a2:=HE.out.2.2.2.2.2
   have a3:=HX.out.2.1
   have a4:=HX.out.2.2.1
   have a5:=HS.out.2
   omega
  have HW:=hid (en_write HE.out.1.e HE.out.1.c A1 bs n1 cap w.heap.size HX.out.2.2.2.1.symm (HX.out.1.r.below HE.out.1.b) (BOff.of_row HX.out.1.r HE.out.1.e.ge) HSZ.out (by have:=HX.out.1.c.1;have e:=HX.out.2.2.2.1;simp only at this;omega) hts)
  go_wp2_with fail
  refine HW.out.mono ?_;rintro e w3 ⟨rfl,O3,h3,ho3,hf3⟩
  have v3:=HE.out.1.v.frm hf3 HE.out.1.n
  have b03:Below w.heap.size w w3:=HE.out.1.b.trans (hf3.below HSZ.out (fun q hq=>HE.out.1.e.ge q hq))
  obtain ⟨b2,off2,e2,hbw2,c03,c13⟩:=HR.out.at_ b03 g1
  injection e2 with e2
  injection e2 with e2 e2b
  subst e2;subst e2b
  rw [HX.out.2.2.2.2] at c03 c13
  simp only [HX.out.2.2.2.1] at c03 c13
  have C3:=hid (And.intro c03 c13)
  have R3:=hid v3
  have HS3:=hid (And.intro h3 (And.intro ho3 hf3))
  have Z3:=hid hf3.size
  have HTS:=hid hts
  clear h3 ho3 hf3 v3 b03 c03 c13 hbw2 HW hts
  go_wp2_with (at_builtin;refine wpList_append_bytes _ rfl (.tmp 35) (.tmp 42) 27 rfl 5 w.heap.size Tryz.underlying27 Tryz.info_u8 (.slice Ao Lo co) (outS lv xs) rfl ?own2 none 0 0 0 [] rfl rfl ?row2 ?len2 ?base2 ?next2)
  case own2=>exact R3.out
  case row2=>exact BRow.nil _ _ _
  case len2=>have a2:=HLO.out;have a3:=HE.out.2.2.1;simp;omega
  case base2=>have a1:=Z3.out;have a2:=HSZ.out;omega
  case next2 =>
  intro v4 w4 hown4 hfrm4 hnew4
  have h4:=HE.out.1.next (r3:=[]) HSZ.out HS3.out.1 HE.out.1.c HS3.out.2.1 HS3.out.2.2 (List.append_nil _) (by rw [List.append_nil];simpa using hown4) hfrm4 hnew4
  obtain ⟨A4,c4,e4,hc4,hm4,hr4⟩:=h4.v.slice
  rw [← HE.out.2.2.1] at e4 hc4
  subst e4
  obtain ⟨TX,hTX⟩:∃ TX,s.txt++bs=TX:=⟨_,rfl⟩
  have h4':FlOut w.heap.size w w4 O3 eb lv { s with txt:=TX } xs (.slice A4 Lo c4):=hTX▸h4
  have hNT:TX.length=N+n1:=by rw [← hTX,List.length_append,HE.out.2.2.2.2.1,HX.out.2.2.2.1]
  have hxl:xs.length≤39:=HXL.out
  obtain ⟨M,hM⟩:∃ M,(TX.take s.done).length=M:=⟨_,rfl⟩
  have hMN:M≤N+n1:=by rw [← hM,← hNT,List.length_take];exact Nat.min_le_right _ _
  have hMt:TX.take M=TX.take s.done:=by rw [← hM,List.length_take,← List.take_take,List.take_length]
  have hNb:N+n1≤16384:=by have:=HTS.out;have:=HE.out.2.2.2.2.1;omega
  have hrd:xP BW (outS lv xs)=(TX.take M,.inl 10):=by
   rw [← HBW.out.2,hMt]
   exact outS_readB HL3.out (Nat.le_refl _) h4'.e.2.st (by show TX.length≤16384;omega)
  have HD:=hid (member_p A4 (outS lv xs) Lo c4 (BW:Int) w4 HE.out.2.2.1 hr4 hc4 hm4 (by have:=HLO.out;omega))
  rw [HBW.out.1] at HD
  have H4:=hid (And.intro h4' (And.intro hTX (And.intro hNT (And.intro hMt (And.intro hrd hM)))))
  have C4:Hid (w4.cell? ⟨b,off+i*2,none⟩=some (.int .i64 d)∧w4.cell? ⟨b,off+i*2+1,none⟩=some (.slice A1 n1 cap)):=hid (by
   have hbb:=(hfrm4.below (Nat.le_trans HSZ.out Z3.out) (fun q hq=>(HE.out.1.v.lt hq).1)).block b hbw
   exact ⟨(World.cell?_of_block hbb).trans C3.out.1,(World.cell?_of_block hbb).trans C3.out.2⟩)
  have c14:=C4.out.2
  have k4:=run_conv_bytes (P:=Tryz.prog) w4 27 9 5 Tryz.underlying27 Tryz.underlying5 Tryz.underlying9 A1 n1 cap _ bs HX.out.2.2.2.1.symm (HX.out.1.r.below h4'.b)
  obtain ⟨s1,hs1⟩:∃ s1,bs.toArray=s1:=⟨_,rfl⟩
  have hsz1:s1.size=n1:=by rw [← hs1];simp [HX.out.2.2.2.1]
  have hsz:SA.size+s1.size≤9223372036854775807:=by omega
  rw [hs1] at k4
  obtain ⟨SB,hSB⟩:∃ SB,SA++s1=SB:=⟨_,rfl⟩
  have hSBt:TX.toArray=SB:=by rw [← hSB,← hs1,← HE.out.2.1,← hTX];simp
  have hSBs:SB.size=N+n1:=by rw [← hSBt];simpa using hNT
  have HSB:=hid (And.intro hs1 (And.intro hSB (And.intro hSBt hSBs)))
  have HM:=hid (And.intro hMN hNb)
  have cat:ByteArray.mk SA++ByteArray.mk s1=ByteArray.mk SB:=by rw [← hSB,mk_cat]
  clear h4 h4' hc4 hm4 hr4 hNT hxl hM hMt hrd hown4 hfrm4 hnew4 c0 c1 R3 C3 hTX hs1 hSB hSBt hSBs hMN hNb
  go_wp2_with fail
  refine (HWI.out w4).mono ?_;rintro e w5 ⟨rfl,rfl⟩
  go_wp2_with fail
  refine HD.out.mono ?_;rintro e w6 hd2
  obtain ⟨A6,c6,rfl,-,hr6,hb6,-⟩:=mem_err (m:=M) hd2 H4.out.2.2.2.2.1 (by rw [H4.out.2.2.2.1];exact H4.out.2.2.2.2.2)
  obtain ⟨SM,hSM⟩:∃ SM,(TX.take M).toArray=SM:=⟨_,rfl⟩
  have hlM:(TX.take M).length=M:=by rw [H4.out.2.2.2.1];exact H4.out.2.2.2.2.2
  have k1:=fun dd=>run_conv_bytes (P:=Tryz.prog) (w6.drewN dd) 27 9 5 Tryz.underlying27 Tryz.underlying5 Tryz.underlying9 A6 M c6 _ (TX.take M) hlM.symm (BRow.drewN hr6 dd)
  have k1w:=k1 0
  change (convert 27 9 (.slice A6 M c6)).run Tryz.prog w6=_ at k1w
  have kS:=fun wx=>run_str_take (P:=Tryz.prog) wx 9 Tryz.underlying9 TX M (by have:=H4.out.2.2.1;have:=HM.out.1;omega)
  rw [HSB.out.2.2.1] at kS
  rw [hSM] at kS k1 k1w
  have c06:∀ dd,(w6.drewN dd).cell? ⟨b,off+i*2,none⟩=some (.int .i64 d):=fun dd=>(World.cell?_of_block (hb6.block b (Nat.lt_of_lt_of_le hbw H4.out.1.b.size))).trans C4.out.1
  have h6:=fun dd=>(H4.out.1.below H4.out.1.b.size hb6).below (Nat.le_trans H4.out.1.b.size hb6.size) (below_drewN (Below.refl _ _) dd)
  have H6:=hid h6
  have qd:(d==1)=false:=by simp [hd]
  obtain ⟨NN,hNN⟩:∃ NN,N+n1=NN:=⟨_,rfl⟩
  have hSBs:=HSB.out.2.2.2
  rw [hNN] at hSBs
  have qMN:decide (NN<M)=false:=decide_eq_false (by have:=HM.out.1;omega)
  have qMN2:¬ NN<M:=by have:=HM.out.1;omega
  have HNN:=hid hNN
  clear hNN
  clear hd2 hr6 hb6 h6 HD C4 hlM hSM
  go_upto_region 16 with fail
  go_quiet (fail)
  go_wp2
  refine ⟨⟨i+1,N+n1,Lo,c4,A4,O3,{ s with txt:=TX },xs,SB,by go_num,rfl,rfl,by omega,HSB.out.2.2.2,HM.out.2,hid ⟨H6.out _,HSB.out.2.2.1,HE.out.2.2.1,?_,H4.out.2.2.1,?_⟩⟩,by simp [intOf];omega⟩
  ·have a2:=HE.out.2.2.2.1;omega
  have a1:=HE.out.2.2.2.2.2;have a2:=HX.out.2.1;omega
 obtain rfl:i=l.length:=by omega
 have B3:=hid HE.out.1.b
 go_wp2_with fail
 refine (wakes22 wr).mono ?_;rintro e w4 ⟨rfl,hb4⟩
 have B4:=hid (B3.out.trans (hb4.mono B3.out.size))
 clear hb4
 go_wp2
 go_ret
 exact ⟨rfl,B4.out⟩
open Go.RowKit Rng Win Lz Box
section
variable {K eb lv : Nat} {w wr w3 w4 w' : World} {O O' : Nat → Prop} {s s' : EncS} {xs xs' : List (List UInt8)} {ov v4 : Value} {d : Int} {bs : List UInt8} {A : Option Addr} {r : List UInt8} {c : Nat}
end
open Go.RowKit Rng Win Lz Box
section
variable {K eb lv : Nat} {w wr w' : World} {O : Nat → Prop} {s : EncS} {xs : List (List UInt8)} {ov : Value}
end
open Go.RowKit Rng Win Lz Box
section
variable {K eb lv : Nat} {w wr w3 w4 : World} {O : Nat → Prop} {s : EncS} {xs xs3 : List (List UInt8)} {ov v4 : Value} {E r3 : List UInt8}
end
end Go.Proofs.YtablgjhnpphodaaGreat
