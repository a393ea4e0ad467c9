import Derived.Test.YtablgjhnpphodaaGreatBu16
set_option linter.unusedVariables false
set_option linter.unusedSimpArgs false
namespace Go.Proofs.YtablgjhnpphodaaGreat
open Lib (hid)
open Go.RowKit Rng Win Lz Box
open Go.RowKit Rng Win Lz Box
theorem sumX_le {l:List XAct} {i:Nat}:sumX (l.take i)≤sumX l:=by
 unfold sumX
 conv=>rhs;rw [← List.take_append_drop i l]
 rw [List.map_append,List.sum_append]
 omega
theorem XActRow.at_ {w wr:World} {A:Option Addr} {l:List XAct} {i:Nat} (h:XActRow w w.heap.size A l) (hb:Below w.heap.size w wr) (hi:i<l.length):∃ b off,A=some ⟨b,off,none⟩∧b<w.heap.size ∧
 wr.cell? ⟨b,off+i*2,none⟩=some (.int .i64 (l.getD i default).d)∧wr.cell? ⟨b,off+i*2+1,none⟩=some (.slice (l.getD i default).A (l.getD i default).bs.length (l.getD i default).cap):=by
 obtain ⟨b,off,e,hlt,hc⟩:=h (by omega)
 obtain ⟨c0,c1⟩:=hc i hi
 have hbk:=hb.block b hlt
 exact ⟨b,off,e,hlt,(World.cell?_of_block hbk).trans c0,(World.cell?_of_block hbk).trans c1⟩
set_option maxRecDepth 100000 in
set_option maxHeartbeats 4000000 in
theorem lawSmall22 (level:Int) (A:Option Addr) (l:List XAct) (ln c:Nat) (w:World) (hx : -9223372036854775808≤level∧level≤9223372036854775807)
 (hln:ln=l.length) (hr:XActRow w w.heap.size A l) (hf:∀ s∈l,s.Fits w w.heap.size∧s.bs.length≤1048576) (hlm:l.length≤1048576) :
 Calls Tryz.prog 4 #[.int .i64 level,.slice A ln c] w fun e w'=>e=.returned (.bool true)∧Below w.heap.size w w':=by
 subst hln
 have HR:=hid hr
 have HF:=hid hf
 have HG:=hid (great22_any A l l.length c w.heap.size w rfl hr hf hlm)
 clear hr hf hx
 go_enter Tryz.func4,Tryz.ntmps4
 go_wp2_with fail
 refine HG.out.mono ?_;rintro e w0 ⟨hg | ⟨hg,hg1,hg2⟩,rfl⟩
 ·subst hg
  go_wp2_with fail
  refine (wakes22 w).mono ?_;rintro e w2 ⟨rfl,hb2⟩
  have B2:=hid hb2
  clear hb2
  go_wp2
  go_ret
  exact ⟨rfl,B2.out⟩
 subst hg
 have HS:=hid hg2
 clear hg2 HG
 go_wp2_with fail
 refine (en_new level w).mono ?_;rintro e w1 ⟨eb,O1,rfl,h1,hb1⟩
 obtain ⟨lv,hlv⟩:∃ lv,lvOf level=lv:=⟨_,rfl⟩
 have HL3:Hid (lv≤3):=hid (by rw [← hlv];exact lvOf_le level)
 rw [hlv] at h1
 have H1:=hid h1
 have B1:=hid hb1
 clear h1 hb1 hlv
 go_wp2
 go_loopw [6,7,8,9] (fun nv fv ov iv wr=>∃ (i N F T:Nat) (O:Nat→Prop) (s:EncS) (xs:List (List UInt8)),iv=.int .i64 (i:Int)∧nv=.int .i64 (N:Int)∧fv=.int .i64 (F:Int)∧ov=.int .i64 (T:Int)∧i≤l.length∧F≤i∧N≤16384∧T≤N+3*F+24 ∧
  Hid (EnD wr w.heap.size O eb lv s xs∧Below w.heap.size w wr∧s.closed=false∧s.txt.length=N∧T=(outS lv xs).length∧xs.length≤F∧N≤sumX (l.take i))) (fun _ _ _ iv _=>l.length-(intOf iv).toNat)
 case atStart=>exact ⟨0,0,0,0,O1,newEnc,[],rfl,rfl,rfl,rfl,Nat.zero_le _,Nat.le_refl _,by decide,by decide,hid ⟨H1.out,B1.out,rfl,rfl,rfl,Nat.le_refl _,Nat.zero_le _⟩⟩
 case round =>
 obtain ⟨i,N,F,T,O,s,xs,rfl,rfl,rfl,rfl,hi,hF,hN,hT,HE⟩:=hrel
 by_cases g1:i<l.length
 ·obtain ⟨b,off,rfl,hbw,c0,c1⟩:=HR.out.at_ HE.out.2.1 g1
  have hx:l.getD i default∈l:=by rw [List.getD,List.getElem?_eq_getElem g1];exact List.getElem_mem g1
  have hmu:=sumX_take g1
  have hle:=sumX_le (l:=l) (i:=i+1)
  obtain ⟨hfit,d5⟩:=HF.out _ hx
  obtain ⟨⟨d,A1,bs,cap⟩,hxx⟩:∃ x,l.getD i default=x:=⟨_,rfl⟩
  rw [hxx] at c0 c1 hfit hmu d5
  obtain ⟨n1,hn1⟩:∃ n1,bs.length=n1:=⟨_,rfl⟩
  simp only [hn1] at c0 c1 hmu d5
  have HX:=hid (And.intro hfit (And.intro hmu (And.intro hle hn1)))
  clear hx hmu hle hfit hxx hn1
  by_cases hd:d=1
  ·subst hd
   go_wp2_with fail
   refine (en_flush HE.out.1 HE.out.2.2.1 HL3.out (by have:=HE.out;omega)).mono ?_;rintro e w3 ⟨A3,c3,r3,xs3,s3,rfl,ho3,hout3,h3,ht3,hd3,hcl3,hx3,hf3,hl3⟩
   obtain ⟨L3,hL3⟩:∃ L,r3.length=L:=⟨_,rfl⟩
   simp only [hL3]
   have hol:=outS_len (lv:=lv) h3.2.st
   have hT3:T+L3=(outS lv xs3).length:=by rw [← hout3,List.length_append,hL3,HE.out.2.2.2.2.1]
   have hN3:s3.txt.length=N:=by rw [ht3];exact HE.out.2.2.2.1
   have hT4:T+L3≤N+3*(F+1)+24:=by
    have a1:=h3.2.d
    have a2:=HE.out.2.2.2.2.2.1
    omega
   have H3:=hid (And.intro h3 (And.intro (HE.out.2.1.trans (hf3.below HE.out.2.1.size (fun q hq=>h3.ge q hq))) (And.intro hcl3 (And.intro hN3 (And.intro hT3 (And.intro hx3 hl3))))))
   clear ho3 hout3 h3 ht3 hd3 hcl3 hx3 hf3 hl3 hL3 hol hT3 hN3
   have hq:¬ (N:Int)+(N:Int) / 64+64*(((F:Int)+1)+2)<(T:Int)+(L3:Int):=by omega
   go_wp2
   refine ⟨⟨i+1,N,F+1,T+L3,O,s3,xs3,by go_num,rfl,by go_num,by go_num,by omega,by omega,by omega,by omega,hid ⟨H3.out.1,H3.out.2.1,H3.out.2.2.1,H3.out.2.2.2.1,H3.out.2.2.2.2.1,?_,?_⟩⟩,by simp [intOf];omega⟩
   ·have a1:=H3.out.2.2.2.2.2.1;have a2:=HE.out.2.2.2.2.2.1;omega
   have a1:=HE.out.2.2.2.2.2.2;have a2:=HX.out.2.1;omega
  have hts:s.txt.length+n1≤16384:=by
   have a1:=HE.out.2.2.2.1
   have a2:=HE.out.2.2.2.2.2.2
   have a3:=HX.out.2.1
   have a4:=HX.out.2.2.1
   have a5:=HS.out
   omega
  have HW:=hid (en_write HE.out.1 HE.out.2.2.1 A1 bs n1 cap w.heap.size HX.out.2.2.2.symm (HX.out.1.r.below HE.out.2.1) (BOff.of_row HX.out.1.r HE.out.1.ge) HE.out.2.1.size (by have:=HX.out.1.c.1;have e:=HX.out.2.2.2;simp only at this;omega) hts)
  go_wp2_with fail
  refine HW.out.mono ?_;rintro e w3 ⟨rfl,O3,h3,ho3,hf3⟩
  have H3:=hid (And.intro h3 (HE.out.2.1.trans (hf3.below HE.out.2.1.size (fun q hq=>HE.out.1.ge q hq))))
  have hN1:N+n1≤16384:=by rw [← HE.out.2.2.2.1];exact hts
  have c1':w3.cell? ⟨b,off+i*2+1,none⟩=some (.slice A1 n1 cap):=(World.cell?_of_block ((hf3.below HE.out.2.1.size (fun q hq=>HE.out.1.ge q hq)).block b hbw)).trans c1
  clear h3 ho3 hf3 HW hts c0 c1
  have hq:¬ (N:Int)+(n1:Int)+((N:Int)+(n1:Int)) / 64+64*((F:Int)+2)<(T:Int):=by omega
  go_wp2
  refine ⟨⟨i+1,N+n1,F,T,O3,{ s with txt:=s.txt++bs },xs,by go_num,by go_num,rfl,by go_num,by omega,by omega,by omega,by omega,hid ⟨H3.out.1,H3.out.2,HE.out.2.2.1,?_,HE.out.2.2.2.2.1,HE.out.2.2.2.2.2.1,?_⟩⟩,by simp [intOf];omega⟩
  ·show (s.txt++bs).length=N+n1
   rw [List.length_append,HE.out.2.2.2.1,HX.out.2.2.2]
  have a1:=HE.out.2.2.2.2.2.2;have a2:=HX.out.2.1;omega
 obtain rfl:i=l.length:=by omega
 have HC:=hid (en_close HE.out.1 HE.out.2.2.1 HL3.out (by have:=HE.out;omega))
 go_wp2_with fail
 refine HC.out.mono ?_;rintro e w3 ⟨A3,c3,r3,xs3,s3,rfl,ho3,hout3,hst3,hx3,-,-,hf3,hl3,-⟩
 obtain ⟨L3,hL3⟩:∃ L,r3.length=L:=⟨_,rfl⟩
 simp only [hL3]
 have hel:=endS_len (lv:=lv) hst3
 have hT3:T+L3=(endS lv xs3 s.txt).length:=by rw [← hout3,List.length_append,hL3,HE.out.2.2.2.2.1]
 have hT4:T+L3≤N+3*(F+1)+95:=by
  have a1:=HE.out.2.2.2.1
  have a2:=HE.out.2.2.2.2.2.1
  omega
 have B3:=hid (HE.out.2.1.trans (hf3.below HE.out.2.1.size (fun q hq=>HE.out.1.ge q hq)))
 clear ho3 hout3 hst3 hx3 hf3 hl3 hL3 hel hT3 HC
 have hq:(T:Int)+(L3:Int)≤(N:Int)+(N:Int) / 64+64*((F:Int)+2):=by omega
 go_wp2_with fail
 refine (wakes22 w3).mono ?_;rintro e w4 ⟨rfl,hb4⟩
 have B4:=hid (B3.out.trans (hb4.mono B3.out.size))
 clear hb4
 go_wp2
 go_ret
 exact ⟨rfl,B4.out⟩
open Go.RowKit Rng Win Lz Box
section
variable {K eb lv : Nat} {w wr w3 w4 : World} {O O3 : Nat → Prop} {s s3 : EncS} {xs xs3 : List (List UInt8)} {ov v4 : Value}
end
open Go.RowKit Rng Win Lz Box
section
variable {K eb lv : Nat} {w wr w3 w4 w' : World} {O O' : Nat → Prop} {s s' : EncS} {xs xs' : List (List UInt8)} {ov v4 : Value} {d : Int} {bs : List UInt8} {A : Option Addr} {r : List UInt8} {c : Nat}
end
open Go.RowKit Rng Win Lz Box
section
variable {K eb lv : Nat} {w wr w' : World} {O : Nat → Prop} {s : EncS} {xs : List (List UInt8)} {ov : Value}
end
open Go.RowKit Rng Win Lz Box
section
variable {K eb lv : Nat} {w wr w3 w4 : World} {O : Nat → Prop} {s : EncS} {xs xs3 : List (List UInt8)} {ov v4 : Value} {E r3 : List UInt8}
end
end Go.Proofs.YtablgjhnpphodaaGreat
