import Derived.Test.YtablgjhnpphodaaGreatBu16
set_option linter.unusedVariables false
set_option linter.unusedSimpArgs false
namespace Go.Proofs.YtablgjhnpphodaaGreat
open Lib (hid)
open Go.RowKit Rng Win Lz Box
theorem budOf_win {lv:Nat} (h:lv≤3):budOf ((2 ^ (16+2*lv):Nat):Int)=2 ^ (16+2*lv):=by
 rcases (by omega:lv=0∨lv=1∨lv=2∨lv=3) with rfl | rfl | rfl | rfl <;> decide
open Go.RowKit Rng Win Lz Box
theorem sumX_le {l:List XAct} {i:Nat}:sumX (l.take i)≤sumX l:=by
 unfold sumX
 conv=>rhs;rw [← List.take_append_drop i l]
 rw [List.map_append,List.sum_append]
 omega
theorem XActRow.at_ {w wr:World} {A:Option Addr} {l:List XAct} {i:Nat} (h:XActRow w w.heap.size A l) (hb:Below w.heap.size w wr) (hi:i<l.length):∃ b off,A=some ⟨b,off,none⟩∧b<w.heap.size ∧
 wr.cell? ⟨b,off+i*2,none⟩=some (.int .i64 (l.getD i default).d)∧wr.cell? ⟨b,off+i*2+1,none⟩=some (.slice (l.getD i default).A (l.getD i default).bs.length (l.getD i default).cap):=by
 obtain ⟨b,off,e,hlt,hc⟩:=h (by omega)
 obtain ⟨c0,c1⟩:=hc i hi
 have hbk:=hb.block b hlt
 exact ⟨b,off,e,hlt,(World.cell?_of_block hbk).trans c0,(World.cell?_of_block hbk).trans c1⟩
open Go.RowKit Rng Win Lz Box
theorem mk_cat (a b:Array UInt8):ByteArray.mk a++ByteArray.mk b=ByteArray.mk (a++b):=by
 rw [ByteArray.mk_append_mk]
 congr 1
 apply Array.ext'
 simp
structure FlOut (K:Nat) (w wr:World) (O:Nat→Prop) (eb lv:Nat) (s:EncS) (xs:List (List UInt8)) (ov:Value):Prop where
 e:EnD wr K O eb lv s xs
 b:Below K w wr
 c:s.closed=false
 v:OwnB wr 5 K ov (outS lv xs)
 n:∀ q,ov.ownBlock=some q→¬ O q
section
variable {K eb lv : Nat} {w wr w3 w4 : World} {O O3 : Nat → Prop} {s s3 : EncS} {xs xs3 : List (List UInt8)} {ov v4 : Value}
theorem FlOut.len (h:FlOut K w wr O eb lv s xs ov):(outS lv xs).length≤24+s.txt.length+3*xs.length:=by
 have h1:=outS_len (lv:=lv) h.e.2.st
 have h2:=h.e.2.d
 omega
theorem FlOut.next (h:FlOut K w wr O eb lv s xs ov) (hK:K≤wr.heap.size) (h3:EnD w3 K O3 eb lv s3 xs3) (hc:s3.closed=false) (hO:∀ q,O3 q→O q∨wr.heap.size≤q) (hf:Frm O wr w3) {r3:List UInt8} (hr:outS lv xs++r3=outS lv xs3)
 (hown:OwnB w4 5 K v4 (outS lv xs++r3)) (hfrm:Frm (fun k=>ov.ownBlock=some k) w3 w4) (hnew:v4.ownBlock=ov.ownBlock∨v4.ownBlock=some w3.heap.size):FlOut K w w4 O3 eb lv s3 xs3 v4:=by
 have hn:∀ q,ov.ownBlock=some q→¬ O3 q:=fun q hq h3q=>by
  rcases hO q h3q with h1 | h1
  ·exact h.n q hq h1
  have:=(h.v.lt hq).2;omega
 refine ⟨h3.frm hfrm (fun q hq e=>hn q e hq),?_,hc,hr▸hown,fun q hq hO3=>?_⟩
 ·exact (h.b.trans (hf.below hK (fun q hq=>h.e.ge q hq))).trans (hfrm.below (Nat.le_trans hK hf.size) (fun q hq=>(h.v.lt hq).1))
 rcases hnew with e | e
 ·exact hn q (e▸hq) hO3
 rw [e] at hq
 have e2:=Option.some.inj hq
 have:=h3.lt q hO3
 omega
theorem FlOut.below {w':World} (h:FlOut K w wr O eb lv s xs ov) (hK:K≤wr.heap.size) (hb:Below wr.heap.size wr w'):FlOut K w w' O eb lv s xs ov :=
 ⟨h.e.below hb,h.b.trans (hb.mono hK),h.c,h.v.keepZ hb,h.n⟩
end
open Go.RowKit Rng Win Lz Box
section
variable {K eb lv : Nat} {w wr w3 w4 w' : World} {O O' : Nat → Prop} {s s' : EncS} {xs xs' : List (List UInt8)} {ov v4 : Value} {d : Int} {bs : List UInt8} {A : Option Addr} {r : List UInt8} {c : Nat}
end
open Go.RowKit Rng Win Lz Box
section
variable {K eb lv : Nat} {w wr w' : World} {O : Nat → Prop} {s : EncS} {xs : List (List UInt8)} {ov : Value}
theorem FlOut.off {S:Nat→Prop} (h:FlOut K w wr O eb lv s xs ov) (hK:K≤wr.heap.size) (hf:Frm S wr w') (h1:∀ q,O q→¬ S q) (h2:∀ q,ov.ownBlock=some q→¬ S q) (h3:∀ q,S q→K≤q):FlOut K w w' O eb lv s xs ov :=
 ⟨h.e.frm hf h1,h.b.trans (hf.below hK h3),h.c,h.v.frm hf h2,h.n⟩
theorem endS_cases {t:List UInt8} {BW:Nat} (h:lv≤3) (hBW:2 ^ (16+2*lv)=BW) (hs:Strs t 0 t.length xs) (hne:xs≠[]→0<t.length):∃ WV:Nat,winX (endS lv xs t)=((WV:Int),0)∧((WV=0∧t=[])∨(WV=BW∧0<t.length)):=by
 have q:=endS_win h xs t
 by_cases hx:xs=[]
 ·subst hx
  have h0:0=t.length:=hs
  exact ⟨0,q,.inl ⟨rfl,List.eq_nil_of_length_eq_zero h0.symm⟩⟩
 rw [if_neg hx,hBW] at q
 exact ⟨BW,q,.inr ⟨rfl,hne hx⟩⟩
end
set_option maxRecDepth 100000 in
set_option maxHeartbeats 8000000 in
theorem lawBack22 (level:Int) (A:Option Addr) (l:List XAct) (ln c:Nat) (w:World) (hx : -9223372036854775808≤level∧level≤9223372036854775807)
 (hln:ln=l.length) (hr:XActRow w w.heap.size A l) (hf:∀ s∈l,s.Fits w w.heap.size∧s.bs.length≤1048576) (hlm:l.length≤1048576) :
 Calls Tryz.prog 7 #[.int .i64 level,.slice A ln c] w fun e w'=>e=.returned (.bool true)∧Below w.heap.size w w':=by
 subst hln
 have HR:=hid hr
 have HF:=hid hf
 have HG:=hid (great22_any A l l.length c w.heap.size w rfl hr hf hlm)
 clear hr hf hx
 go_enter Tryz.func7,Tryz.ntmps7
 go_wp2_with fail
 refine HG.out.mono ?_;rintro e w0 ⟨hg | ⟨hg,hg1,hg2⟩,rfl⟩
 ·subst hg
  go_wp2_with fail
  refine (wakes22 w).mono ?_;rintro e w2 ⟨rfl,hb2⟩
  have B2:=hid hb2
  clear hb2
  go_wp2
  go_ret
  exact ⟨rfl,B2.out⟩
 subst hg
 have HS:=hid (And.intro hg1 hg2)
 clear hg1 hg2 HG
 go_wp2_with fail
 refine (en_new level w).mono ?_;rintro e w1 ⟨eb,O1,rfl,h1,hb1⟩
 have HWI:=hid (window22_p level)
 obtain ⟨lv,hlv⟩:∃ lv,lvOf level=lv:=⟨_,rfl⟩
 have HL3:Hid (lv≤3):=hid (by rw [← hlv];exact lvOf_le level)
 rw [hlv] at h1 HWI
 have hbw:=budOf_win HL3.out
 obtain ⟨BW,hBW⟩:∃ BW,2 ^ (16+2*lv)=BW:=⟨_,rfl⟩
 rw [hBW] at HWI hbw
 have HBW:=hid (And.intro hbw hBW)
 have H1:Hid (FlOut w.heap.size w w1 O1 eb lv newEnc [] (.slice none 0 0)):=hid ⟨h1,hb1,rfl,OwnB.nil _ _ _,fun q e=>by cases e⟩
 clear h1 hb1 hlv hbw hBW
 go_wp2
 go_loopw [6,7,8] (fun ov av iv wr=>∃ (i N Lo co:Nat) (Ao:Option Addr) (O:Nat→Prop) (s:EncS) (xs:List (List UInt8)) (SA:Array UInt8),iv=.int .i64 (i:Int)∧av=.string ⟨SA⟩∧ov=.slice Ao Lo co∧i≤l.length∧SA.size=N∧N≤16384 ∧
  Hid (FlOut w.heap.size w wr O eb lv s xs (.slice Ao Lo co)∧s.txt.toArray=SA∧Lo=(outS lv xs).length∧xs.length≤i∧s.txt.length=N∧N≤sumX (l.take i))) (fun _ _ iv _=>l.length-(intOf iv).toNat)
 case atStart=>exact ⟨0,0,0,0,none,O1,newEnc,[],#[],rfl,rfl,rfl,Nat.zero_le _,rfl,by decide,hid ⟨H1.out,rfl,rfl,Nat.le_refl _,rfl,Nat.zero_le _⟩⟩
 case round =>
 obtain ⟨i,N,Lo,co,Ao,O,s,xs,SA,rfl,rfl,rfl,hi,hSN,hN,HE⟩:=hrel
 obtain ⟨wo,rfl⟩:∃ wo,wo=wr:=⟨_,rfl⟩
 by_cases g1:i<l.length
 ·obtain ⟨b,off,rfl,hbw,c0,c1⟩:=HR.out.at_ HE.out.1.b g1
  have hx:l.getD i default∈l:=by rw [List.getD,List.getElem?_eq_getElem g1];exact List.getElem_mem g1
  have hmu:=sumX_take g1
  have hle:=sumX_le (l:=l) (i:=i+1)
  obtain ⟨hfit,d5⟩:=HF.out _ hx
  obtain ⟨⟨d,A1,bs,cap⟩,hxx⟩:∃ x,l.getD i default=x:=⟨_,rfl⟩
  rw [hxx] at c0 c1 hfit hmu d5
  obtain ⟨n1,hn1⟩:∃ n1,bs.length=n1:=⟨_,rfl⟩
  simp only [hn1] at c0 c1 hmu d5
  have HX:=hid (And.intro hfit (And.intro hmu (And.intro hle (And.intro hn1 hxx))))
  have HXL:Hid (xs.length≤39):=hid (by have a1:=HE.out.2.2.2.1;have a2:=HS.out.1;omega)
  have HSZ:Hid (w.heap.size≤wo.heap.size):=hid HE.out.1.b.size
  have HLO:Hid (Lo≤24+N+3*39):=hid (by have a1:=HE.out.1.len;have a2:=HXL.out;have a3:=HE.out.2.2.1;have a4:=HE.out.2.2.2.2.1;omega)
  clear hx hmu hle hfit hxx hn1
  by_cases hd:d=1
  ·subst hd
   have HC:=hid (en_flush HE.out.1.e HE.out.1.c HL3.out (by have:=HXL.out;omega))
   go_wp2_with fail
   refine HC.out.mono ?_;rintro e w3 ⟨A3,c3,r3,xs3,s3,rfl,ho3,hout3,h3,ht3,hd3,hcl3,hx3,hf3,hl3⟩
   obtain ⟨L3,hL3⟩:∃ L,r3.length=L:=⟨_,rfl⟩
   rw [hL3] at ho3
   simp only [hL3]
   have v3:=HE.out.1.v.frm hf3 HE.out.1.n
   have R3:=hid (And.intro ho3 v3)
   have HS3:=hid (And.intro hL3 (And.intro h3 (And.intro hcl3 (And.intro hf3 (And.intro hout3 (And.intro ht3 (And.intro hd3 (And.intro hx3 hl3))))))))
   have Z3:=hid hf3.size
   clear ho3 hout3 h3 ht3 hd3 hcl3 hx3 hf3 hl3 hL3 v3 HC
   go_wp2_with (at_builtin;refine wpList_append_bytes _ rfl (.tmp 35) (.tmp 37) 27 rfl 5 w.heap.size Tryz.underlying27 Tryz.info_u8 (.slice Ao Lo co) (outS lv xs) rfl ?own1 A3 L3 c3 w3.heap.size r3 rfl HS3.out.1.symm ?row1 ?len1 ?base1 ?next1)
   case own1=>exact R3.out.2
   case row1=>exact R3.out.1.rowZ
   case len1=>have a1:=HS3.out;have a2:=HLO.out;have a3:=HE.out.2.2.1;omega
   case base1=>have a1:=Z3.out;have a2:=HSZ.out;omega
   case next1 =>
   intro v4 w4 hown4 hfrm4 hnew4
   have h4:=HE.out.1.next HSZ.out HS3.out.2.1 HS3.out.2.2.1 (fun q hq=>.inl hq) HS3.out.2.2.2.1 HS3.out.2.2.2.2.1 hown4 hfrm4 hnew4
   obtain ⟨A4,c4,e4,hc4,hm4,hr4⟩:=h4.v.slice
   obtain ⟨L4,hL4⟩:∃ L,(outS lv xs3).length=L:=⟨_,rfl⟩
   rw [hL4] at e4
   subst e4
   have H4:=hid (And.intro h4 hL4)
   clear h4 hc4 hm4 hr4 hL4 hown4 hfrm4 hnew4 c0 c1 R3
   go_wp2
   refine ⟨⟨i+1,N,L4,c4,A4,O,s3,xs3,SA,by go_num,rfl,rfl,by omega,hSN,hN,hid ⟨H4.out.1,?_,?_,?_,?_,?_⟩⟩,by simp [intOf];omega⟩
   ·rw [HS3.out.2.2.2.2.2.1];exact HE.out.2.1
   ·exact H4.out.2.symm
   ·have a1:=HS3.out.2.2.2.2.2.2.2.1;have a2:=HE.out.2.2.2.1;omega
   ·rw [HS3.out.2.2.2.2.2.1];exact HE.out.2.2.2.2.1
   have a1:=HE.out.2.2.2.2.2;have a2:=HX.out.2.1;omega
  have hts:s.txt.length+n1≤16384:=by
   have a1:=HE.out.2.2.2.2.1
   have a2:=HE.out.2.2.2.2.2
   have a3:=HX.out.2.1
   have a4:=HX.out.2.2.1
   have a5:=HS.out.2
   omega
  have HTS:=hid hts
  have hcap:n1≤cap:=by have:=HX.out.1.c.1;have e:=HX.out.2.2.2.1;simp only at this;omega
  have hw4:=OwnB.made wo 5 wo.heap.size (Nat.le_refl _)
  have HM4:=hid hw4
  have qd:(d==1)=false:=by simp [hd]
  have ca1:(wo.alloc (.cells #[] 5)).cell? ⟨b,off+i*2+1,none⟩=some (.slice A1 n1 cap):=(((HE.out.1.b.alloc HSZ.out (.cells #[] 5)).cell (p:=⟨b,off+i*2+1,none⟩) hbw)).trans ((HE.out.1.b.cell (p:=⟨b,off+i*2+1,none⟩) hbw).symm.trans c1)
  clear hw4 hts
  go_wp2_with (at_builtin;refine wpList_append_bytes _ rfl (.tmp 39) (.tmp 44) 27 rfl 5 wo.heap.size Tryz.underlying27 Tryz.info_u8 (.slice (some ⟨wo.heap.size,0,none⟩) 0 0) [] rfl ?own4 A1 n1 cap w.heap.size bs rfl HX.out.2.2.2.1.symm ?row4 ?len4 ?base4 ?next4)
  case own4=>exact HM4.out
  case row4=>exact HX.out.1.r.below (HE.out.1.b.alloc HSZ.out _)
  case len4=>have:=HX.out.2.2.2.1;have:=HTS.out;simp;omega
  case base4=>simp
  case next4 =>
  intro v4 w4 hown4 hfrm4 hnew4
  try simp only [List.nil_append] at hown4
  obtain ⟨A4,c4,e4,hc4,hm4,hr4⟩:=hown4.slice
  rw [HX.out.2.2.2.1] at e4 hc4
  subst e4
  have f4:Frm (fun q=>q=wo.heap.size) wo w4:=((Frm.refl _ _).alloc _).trans (hfrm4.mono (by intro k _ hk;simp [Value.ownBlock] at hk;exact hk.symm))
  have b4:Below wo.heap.size wo w4:=f4.below (Nat.le_refl _) (fun q e=>Nat.le_of_eq e.symm)
  have h4:=HE.out.1.below HSZ.out b4
  have g4:∀ q,(Value.slice A4 n1 c4).ownBlock=some q→wo.heap.size≤q∧q<w4.heap.size:=fun q hq=>hown4.lt hq
  have HW:=hid (en_write h4.e h4.c A4 bs n1 c4 w4.heap.size HX.out.2.2.2.1.symm hr4 (fun _ ad e hq=>by have h1:=(g4 ad.block (by rw [e];rfl)).1;have h2:=HE.out.1.e.lt _ hq;omega) (Nat.le_refl _) hc4 HTS.out)
  have G4:=hid (And.intro h4 (And.intro g4 hown4))
  clear hown4 hfrm4 hnew4 hr4 hc4 hm4 f4 b4 h4 g4 ca1 c0 c1 HM4
  go_wp2_with fail
  refine HW.out.mono ?_;rintro e w5 ⟨rfl,O5,h5,ho5,hf5⟩
  have m5:=G4.out.2.2.frm hf5 (fun q hq hO=>by have h1:=(G4.out.2.1 q hq).1;have h2:=HE.out.1.e.lt q hO;omega)
  have v5:=G4.out.1.v.frm hf5 G4.out.1.n
  have HS5:=hid (And.intro h5 (And.intro ho5 (And.intro hf5 (And.intro m5 v5))))
  have Z5:=hid hf5.size
  have Z4:=hid G4.out.1.b.size
  clear h5 ho5 hf5 m5 v5 HW
  go_wp2_with (at_builtin;refine wpList_append_bytes _ rfl (.tmp 46) (.tmp 49) 27 rfl 5 w.heap.size Tryz.underlying27 Tryz.info_u8 (.slice Ao Lo co) (outS lv xs) rfl ?own2 none 0 0 0 [] rfl rfl ?row2 ?len2 ?base2 ?next2)
  case own2=>exact HS5.out.2.2.2.2
  case row2=>exact BRow.nil _ _ _
  case len2=>have a2:=HLO.out;have a3:=HE.out.2.2.1;simp;omega
  case base2=>have a1:=Z5.out;have a2:=Z4.out;omega
  case next2 =>
  intro v6 w6 hown6 hfrm6 hnew6
  have h6:=G4.out.1.next (r3:=[]) Z4.out HS5.out.1 HE.out.1.c HS5.out.2.1 HS5.out.2.2.1 (List.append_nil _) (by rw [List.append_nil];simpa using hown6) hfrm6 hnew6
  have m6:=HS5.out.2.2.2.1.frm hfrm6 (fun q hq e=>by have h1:=(G4.out.2.1 q hq).1;have h2:=(HE.out.1.v.lt e).2;omega)
  have hmO:∀ q,(Value.slice A4 n1 c4).ownBlock=some q→¬ O5 q:=fun q hq hO=>by
   have h1:=G4.out.2.1 q hq
   rcases HS5.out.2.1 q hO with h2 | h2
   ·have h3:=HE.out.1.e.lt q h2;omega
   omega
  have hmv:∀ q,v6.ownBlock=some q→¬ (Value.slice A4 n1 c4).ownBlock=some q:=fun q hq hm=>by
   have h1:=G4.out.2.1 q hm
   have z5:=Z5.out
   rcases hnew6 with e | e
   ·have h2:=(HE.out.1.v.lt (e▸hq)).2;omega
   rw [e] at hq;have e2:=Option.some.inj hq;omega
  obtain ⟨A6,c6,e6,-,-,-⟩:=h6.v.slice
  rw [← HE.out.2.2.1] at e6
  subst e6
  have hgk:∀ q,(Value.slice A4 n1 c4).ownBlock=some q→w.heap.size≤q:=fun q hq=>Nat.le_trans HSZ.out (G4.out.2.1 q hq).1
  have H6:=hid (And.intro h6 (And.intro hmO (And.intro hmv (And.intro m6 hgk))))
  clear h6 m6 hmO hmv hown6 hfrm6 hnew6 hgk
  go_wp2
  go_loopw [10] (fun kv wx=>∃ (t:Nat) (ms:List UInt8),t≤n1∧kv=.int .i64 t∧ms.length=n1∧OwnB wx 5 wo.heap.size (.slice A4 n1 c4) ms∧Frm (fun q=>(Value.slice A4 n1 c4).ownBlock=some q) w6 wx)
   (fun kv _=>n1-(intOf kv).toNat)
  case atStart=>exact ⟨0,bs,by omega,rfl,HX.out.2.2.2.1,H6.out.2.2.2.1,Frm.refl _ _⟩
  case round =>
  obtain ⟨t,ms,ht,rfl,hms,hmo,hmf⟩:=hrel
  by_cases htl:t<n1
  ·rcases hmo.form with ⟨_,hnil⟩ | ⟨g,kap,cur,hv,hbg,hp,hn2,hn3,hcs,hcc⟩
   ·rw [hnil] at hms
    have h0:n1=0:=hms.symm
    omega
   injection hv with e1 e2 e3
   subst e1;subst e3
   have kg:wr.cell? ⟨g,t,none⟩=some (.int .u8 ((ms.getD t 0).toNat:Int)):=by rw [hp.cell,hcc t (by omega)];rfl
   have fg:=hp.frozen t
   have hmo':=hmo.set t (by omega) (255 ^^^ ms.getD t 0)
   have hu:=(ms.getD t 0).toNat_lt
   have hmf':Frm (fun q=>(Value.slice (some ⟨g,0,none⟩) n1 c4).ownBlock=some q) w6 (wr.setCell ⟨g,t,none⟩ (byteV (255 ^^^ ms.getD t 0))):=hmf.setCell (by rfl) _
   have hby:byteV (255 ^^^ ms.getD t 0)=.int .u8 (bits .xor .u8 (if IntKind.u8.signed=true then -1 else IntKind.u8.max) ((ms.getD t 0).toNat:Int)):=by
    have h:=Num.xor8 (a:=255) (b:=(ms.getD t 0).toNat) (by omega) hu
    unfold byteV
    rw [UInt8.toNat_xor]
    congr 1
    exact h.symm
   rw [hby] at hmo' hmf'
   have HMO:=hid hmo'
   have HMF:=hid hmf'
   have HMS:=hid hms
   clear hmo' hmf' hby hcc hmo hmf e2 hms hn2 hcs
   generalize (ms.getD t 0).toNat=y at *
   go_wp2
   exact ⟨⟨t+1,_,htl,by go_num,by rw [List.length_set];exact HMS.out,HMO.out,HMF.out⟩,by simp [intOf];omega⟩
  have htt:t=n1:=by omega
  have h7:=H6.out.1.off H6.out.1.b.size hmf (fun q hq hm=>H6.out.2.1 q hm hq) (fun q hq hm=>H6.out.2.2.1 q hq hm) H6.out.2.2.2.2
  obtain ⟨b2,off2,e2,hbw2,-,c17⟩:=HR.out.at_ h7.b g1
  injection e2 with e2
  injection e2 with e2 e2b
  subst e2;subst e2b
  rw [HX.out.2.2.2.2] at c17
  simp only [HX.out.2.2.2.1] at c17
  have k4:=run_conv_bytes (P:=Tryz.prog) wr 27 9 5 Tryz.underlying27 Tryz.underlying5 Tryz.underlying9 A1 n1 cap _ bs HX.out.2.2.2.1.symm (HX.out.1.r.below h7.b)
  obtain ⟨s1,hs1⟩:∃ s1,bs.toArray=s1:=⟨_,rfl⟩
  have hsz1:s1.size=n1:=by rw [← hs1];simp [HX.out.2.2.2.1]
  have hsz:SA.size+s1.size≤9223372036854775807:=by have:=HTS.out;have:=HE.out.2.2.2.2.1;omega
  rw [hs1] at k4
  have HSB:=hid hs1
  have H7:=hid h7
  clear hmo hmf h7 hms hs1 hbw2
  go_wp2
  refine ⟨⟨i+1,N+n1,Lo,c6,A6,O5,{ s with txt:=s.txt++bs },xs,SA++s1,by go_num,by rw [mk_cat],rfl,by omega,by rw [Array.size_append];omega,?_,hid ⟨H7.out,?_,HE.out.2.2.1,?_,?_,?_⟩⟩,by simp [intOf];omega⟩
  ·have:=HTS.out;have:=HE.out.2.2.2.2.1;omega
  ·show (s.txt++bs).toArray=SA++s1
   rw [← HSB.out,← HE.out.2.1];simp
  ·have a2:=HE.out.2.2.2.1;omega
  ·show (s.txt++bs).length=N+n1
   rw [List.length_append,HE.out.2.2.2.2.1,HX.out.2.2.2.1]
  have a1:=HE.out.2.2.2.2.2;have a2:=HX.out.2.1;omega
 obtain rfl:i=l.length:=by omega
 have hxl:xs.length≤40:=by have a1:=HE.out.2.2.2.1;have a2:=HS.out.1;omega
 have HLO:Hid (Lo≤24+N+3*40):=hid (by have a1:=HE.out.1.len;have a3:=HE.out.2.2.1;have a4:=HE.out.2.2.2.2.1;omega)
 have HXL:=hid hxl
 have HSZ:Hid (w.heap.size≤wo.heap.size):=hid HE.out.1.b.size
 have HC:=hid (en_close HE.out.1.e HE.out.1.c HL3.out (by omega))
 clear hxl
 go_wp2_with fail
 refine HC.out.mono ?_;rintro e w3 ⟨A3,c3,r3,xs3,s3,rfl,ho3,hout3,hst3,hx3,-,-,hf3,hl3,hne3⟩
 obtain ⟨L3,hL3⟩:∃ L,r3.length=L:=⟨_,rfl⟩
 rw [hL3] at ho3
 simp only [hL3]
 have v3:=HE.out.1.v.frm hf3 HE.out.1.n
 have b3:Below w.heap.size w w3:=HE.out.1.b.trans (hf3.below HSZ.out (fun q hq=>HE.out.1.e.ge q hq))
 have R3:=hid (And.intro ho3 (And.intro v3 b3))
 have HS3:=hid (And.intro hL3 (And.intro hout3 (And.intro hst3 (And.intro hx3 (And.intro hl3 hne3)))))
 have Z3:=hid b3.size
 clear ho3 hout3 hst3 hx3 hf3 hl3 hL3 v3 b3 hne3 HC
 go_wp2_with (at_builtin;refine wpList_append_bytes _ rfl (.tmp 73) (.tmp 75) 27 rfl 5 w.heap.size Tryz.underlying27 Tryz.info_u8 (.slice Ao Lo co) (outS lv xs) rfl ?own3 A3 L3 c3 w3.heap.size r3 rfl HS3.out.1.symm ?row3 ?len3 ?base3 ?next3)
 case own3=>exact R3.out.2.1
 case row3=>exact R3.out.1.rowZ
 case len3=>have a1:=HS3.out;have a2:=HLO.out;have a3:=HE.out.2.2.1;omega
 case base3=>exact Z3.out
 case next3 =>
 intro v4 w4 hown4 hfrm4 hnew4
 rw [HS3.out.2.1] at hown4
 obtain ⟨E,hE⟩:∃ E,endS lv xs3 s.txt=E:=⟨_,rfl⟩
 rw [hE] at hown4
 obtain ⟨A4,c4,e4,hc4,hm4,hr4⟩:=hown4.slice
 obtain ⟨L4,hL4⟩:∃ L,E.length=L:=⟨_,rfl⟩
 rw [hL4] at e4 hc4
 subst e4
 have b4:=R3.out.2.2.trans (hfrm4.below Z3.out (fun q hq=>(HE.out.1.v.lt hq).1))
 have hrd:xP BW E=(s.txt,.inr []):=by
  rw [← HBW.out.2,← hE]
  exact endS_readB HL3.out (Nat.le_refl _) HS3.out.2.2.1 (by have:=HE.out.2.2.2.2.1;omega) (by have a1:=HS3.out.2.2.2.1;have a2:=HXL.out;omega)
 have hEL:L4≤20000:=by
  have a1:=endS_len (lv:=lv) HS3.out.2.2.1
  have a2:=HS3.out.2.2.2.1
  have a3:=HXL.out
  have a4:=HE.out.2.2.2.2.1
  rw [hE,hL4] at a1
  omega
 obtain ⟨WV,hWV,hWc⟩:=endS_cases HL3.out HBW.out.2 HS3.out.2.2.1 HS3.out.2.2.2.2.2
 rw [hE] at hWV
 have HD:=hid (member_p A4 E L4 c4 (BW:Int) w4 hL4.symm hr4 hc4 hm4 (by omega))
 rw [HBW.out.1] at HD
 have H4:=hid (And.intro hL4 (And.intro hrd (And.intro hWV (And.intro hWc (And.intro hr4 (And.intro hc4 hm4))))))
 have B4:=hid b4
 clear hown4 hfrm4 hnew4 hE hc4 hm4 hr4 hL4 b4 hrd hEL hWV hWc R3
 go_wp2_with fail
 refine (HWI.out w4).mono ?_;rintro e w5 ⟨rfl,rfl⟩
 go_wp2_with fail
 refine HD.out.mono ?_;rintro e w6 hd
 obtain ⟨A6,c6,rfl,-,hr6,hb6⟩:=mem_ok (m:=N) (u:=L4) hd H4.out.2.1 HE.out.2.2.2.2.1 (by rw [H4.out.1];rfl)
 have B6:=hid (B4.out.trans (hb6.mono B4.out.size))
 have R6:=hid hr6
 have HW:=hid (window_x A4 E L4 c4 w6 H4.out.1.symm ((H4.out.2.2.2.2.1.below hb6).more hb6.size) H4.out.2.2.2.2.2.1 H4.out.2.2.2.2.2.2)
 rw [H4.out.2.2.1] at HW
 simp only at HW
 clear hd hr6 hb6 HD
 go_wp2_with fail
 refine HW.out.mono ?_;rintro e w7 ⟨rfl,hb7⟩
 have B7:=hid (B6.out.trans (hb7.mono B6.out.size))
 have hr7:=(R6.out.below hb7).more hb7.size
 have k1:=fun dd=>run_conv_bytes (P:=Tryz.prog) (w7.drewN dd) 27 9 5 Tryz.underlying27 Tryz.underlying5 Tryz.underlying9 A6 N c6 _ s.txt HE.out.2.2.2.2.1.symm (BRow.drewN hr7 dd)
 rw [HE.out.2.1] at k1
 have k1w:=k1 0
 change (convert 27 9 (.slice A6 N c6)).run Tryz.prog w7=_ at k1w
 have hWc:=H4.out.2.2.2.1
 clear hb7 hr7 HW R6
 rcases hWc with ⟨rfl,ht0⟩ | ⟨rfl,ht0⟩
 ·obtain rfl:#[]=SA:=by rw [← HE.out.2.1,ht0]
  clear ht0 hSN
  go_wp2_with fail
  refine (HWI.out _).mono ?_;rintro e w8 ⟨rfl,rfl⟩
  go_wp2_with fail
  refine (wakes22 _).mono ?_;rintro e w8 ⟨rfl,hb8⟩
  have B8:=hid (B7.out.trans (hb8.mono B7.out.size))
  clear hb8
  go_wp2
  go_ret
  exact ⟨rfl,B8.out⟩
 have hBW0:0<WV:=by
  have a1:=(win_ge HL3.out).1
  rw [HBW.out.2] at a1
  omega
 have q0:(((WV:Nat):Int)==0)=false:=by simp;omega
 have q1:¬ ((WV:Nat):Int)=0:=by omega
 have hne:¬ (ByteArray.mk SA).toList=[]:=fun e=>by
  rw [ByteArray.toList_eq] at e
  have e2:=congrArg List.length e
  have e3:SA.size=0:=by simpa using e2
  have:=HE.out.2.2.2.2.1
  omega
 have hne2:((ByteArray.mk SA).toList==[])=false:=by simpa using hne
 have hne3:((ByteArray.mk SA).toList==(ByteArray.mk #[]).toList)=false:=by
  have e:(ByteArray.mk #[]).toList=[]:=by rw [ByteArray.toList_eq]
  rw [e];exact hne2
 have hne4:decide ((ByteArray.mk SA).toList=[])=false:=decide_eq_false hne
 have HT0:=hid ht0
 clear ht0
 go_wp2_with fail
 refine (HWI.out _).mono ?_;rintro e w8 ⟨rfl,rfl⟩
 go_wp2_with fail
 refine (wakes22 _).mono ?_;rintro e w8 ⟨rfl,hb8⟩
 have B8:=hid (B7.out.trans (hb8.mono B7.out.size))
 clear hb8
 go_wp2
 go_ret
 exact ⟨rfl,B8.out⟩
open Go.RowKit Rng Win Lz Box
section
variable {K eb lv : Nat} {w wr w3 w4 : World} {O : Nat → Prop} {s : EncS} {xs xs3 : List (List UInt8)} {ov v4 : Value} {E r3 : List UInt8}
end
end Go.Proofs.YtablgjhnpphodaaGreat
