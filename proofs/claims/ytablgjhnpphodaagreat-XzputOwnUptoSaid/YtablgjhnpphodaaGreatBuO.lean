import Derived.Test.YtablgjhnpphodaaGreatBu16
set_option linter.unusedVariables false
set_option linter.unusedSimpArgs false
namespace Go.Proofs.YtablgjhnpphodaaGreat
open Lib (hid)
open Go.RowKit Rng Win Lz Box
theorem budOf_win {lv:Nat} (h:lv≤3):budOf ((2 ^ (16+2*lv):Nat):Int)=2 ^ (16+2*lv):=by
 rcases (by omega:lv=0∨lv=1∨lv=2∨lv=3) with rfl | rfl | rfl | rfl <;> decide
open Go.RowKit Rng Win Lz Box
theorem sumX_le {l:List XAct} {i:Nat}:sumX (l.take i)≤sumX l:=by
 unfold sumX
 conv=>rhs;rw [← List.take_append_drop i l]
 rw [List.map_append,List.sum_append]
 omega
theorem XActRow.at_ {w wr:World} {A:Option Addr} {l:List XAct} {i:Nat} (h:XActRow w w.heap.size A l) (hb:Below w.heap.size w wr) (hi:i<l.length):∃ b off,A=some ⟨b,off,none⟩∧b<w.heap.size ∧
 wr.cell? ⟨b,off+i*2,none⟩=some (.int .i64 (l.getD i default).d)∧wr.cell? ⟨b,off+i*2+1,none⟩=some (.slice (l.getD i default).A (l.getD i default).bs.length (l.getD i default).cap):=by
 obtain ⟨b,off,e,hlt,hc⟩:=h (by omega)
 obtain ⟨c0,c1⟩:=hc i hi
 have hbk:=hb.block b hlt
 exact ⟨b,off,e,hlt,(World.cell?_of_block hbk).trans c0,(World.cell?_of_block hbk).trans c1⟩
open Go.RowKit Rng Win Lz Box
structure FlOut (K:Nat) (w wr:World) (O:Nat→Prop) (eb lv:Nat) (s:EncS) (xs:List (List UInt8)) (ov:Value):Prop where
 e:EnD wr K O eb lv s xs
 b:Below K w wr
 c:s.closed=false
 v:OwnB wr 5 K ov (outS lv xs)
 n:∀ q,ov.ownBlock=some q→¬ O q
section
variable {K eb lv : Nat} {w wr w3 w4 : World} {O O3 : Nat → Prop} {s s3 : EncS} {xs xs3 : List (List UInt8)} {ov v4 : Value}
theorem FlOut.len (h:FlOut K w wr O eb lv s xs ov):(outS lv xs).length≤24+s.txt.length+3*xs.length:=by
 have h1:=outS_len (lv:=lv) h.e.2.st
 have h2:=h.e.2.d
 omega
theorem FlOut.next (h:FlOut K w wr O eb lv s xs ov) (hK:K≤wr.heap.size) (h3:EnD w3 K O3 eb lv s3 xs3) (hc:s3.closed=false) (hO:∀ q,O3 q→O q∨wr.heap.size≤q) (hf:Frm O wr w3) {r3:List UInt8} (hr:outS lv xs++r3=outS lv xs3)
 (hown:OwnB w4 5 K v4 (outS lv xs++r3)) (hfrm:Frm (fun k=>ov.ownBlock=some k) w3 w4) (hnew:v4.ownBlock=ov.ownBlock∨v4.ownBlock=some w3.heap.size):FlOut K w w4 O3 eb lv s3 xs3 v4:=by
 have hn:∀ q,ov.ownBlock=some q→¬ O3 q:=fun q hq h3q=>by
  rcases hO q h3q with h1 | h1
  ·exact h.n q hq h1
  have:=(h.v.lt hq).2;omega
 refine ⟨h3.frm hfrm (fun q hq e=>hn q e hq),?_,hc,hr▸hown,fun q hq hO3=>?_⟩
 ·exact (h.b.trans (hf.below hK (fun q hq=>h.e.ge q hq))).trans (hfrm.below (Nat.le_trans hK hf.size) (fun q hq=>(h.v.lt hq).1))
 rcases hnew with e | e
 ·exact hn q (e▸hq) hO3
 rw [e] at hq
 have e2:=Option.some.inj hq
 have:=h3.lt q hO3
 omega
end
open Go.RowKit Rng Win Lz Box
def actB (d:Int) (bs:List UInt8):List UInt8:=if d=1 then [] else bs
def actTxt (l:List XAct):List UInt8:=(l.map fun x=>actB x.d x.bs).flatten
theorem actTxt_take {l:List XAct} {i:Nat} (h:i<l.length):actTxt (l.take (i+1))=actTxt (l.take i)++actB (l.getD i default).d (l.getD i default).bs:=by
 unfold actTxt
 rw [List.take_add_one,List.getElem?_eq_getElem h,List.getD,List.getElem?_eq_getElem h]
 rw [List.map_append,List.flatten_append]
 simp
theorem actB_len (d:Int) (bs:List UInt8):(actB d bs).length≤bs.length:=by
 unfold actB
 split <;> simp
theorem actTxt_len:∀ l:List XAct,(actTxt l).length≤sumX l
 | []=>Nat.le_refl _
 | x::l=>by
  have h1:=actTxt_len l
  have h2:=actB_len x.d x.bs
  have e1:actTxt (x::l)=actB x.d x.bs++actTxt l:=by simp [actTxt]
  have e2:sumX (x::l)=x.bs.length+sumX l:=by simp [sumX]
  rw [e1,e2,List.length_append]
  omega
structure ActEnd (w w':World) (K eb lv:Nat) (O:Nat→Prop) (s:EncS) (xs:List (List UInt8)) (d:Int) (bs:List UInt8) (A:Option Addr) (r:List UInt8) (c:Nat) (O':Nat→Prop) (s':EncS) (xs':List (List UInt8)):Prop where
 o:OwnB w' 5 w.heap.size (.slice A r.length c) r
 q:outS lv xs++r=outS lv xs'
 e:EnD w' K O' eb lv s' xs'
 t:s'.txt=s.txt++actB d bs
 c:s'.closed=false
 x:xs'.length≤xs.length+1
 b:∀ q,O' q→O q∨w.heap.size≤q
 f:Frm O w w'
 l:r.length≤20000
set_option maxRecDepth 100000 in
set_option maxHeartbeats 2000000 in
theorem act_p {w:World} {K eb lv:Nat} {O:Nat→Prop} {s:EncS} {xs:List (List UInt8)} (h:EnD w K O eb lv s xs) (hcl:s.closed=false) (hlv:lv≤3) (hx:xs.length≤99) (d:Int) (A:Option Addr) (bs:List UInt8) (n c B:Nat) (hn:n=bs.length) (hr:BRow w B A bs) (hoff:BOff O A bs) (hB:B≤w.heap.size) (hc:n≤c) (ht:s.txt.length+n≤16384) :
 Calls Tryz.prog 16 #[.pointer (some ⟨eb,0,none⟩),.agg #[.int .i64 d,.slice A n c]] w fun e w'=>∃ A' r c' O' s' xs' L,e=.returned (.slice A' L c')∧L=r.length∧ActEnd w w' K eb lv O s xs d bs A' r c' O' s' xs':=by
 have ba:=below_alloc w (.cells #[.int .i64 d,.slice A n c] 29)
 have fa:Frm O w (w.alloc (.cells #[.int .i64 d,.slice A n c] 29)):=(Frm.refl _ _).alloc _
 have hz:(w.alloc (.cells #[.int .i64 d,.slice A n c] 29)).heap.size=w.heap.size+1:=by simp
 have HA:=hid (And.intro (h.below ba) (And.intro fa hz))
 have HT:=hid (And.intro (hr.below (ba.mono hB)) (And.intro hoff (And.intro (show B≤w.heap.size+1 by omega) (And.intro hc (And.intro ht hn)))))
 clear ba fa hz h hr hoff hc hn
 by_cases hd:d=1
 ·subst hd
  have HC:=hid (en_flush HA.out.1 hcl hlv hx)
  go_enter Tryz.func16,Tryz.ntmps16
  go_wp2_with fail
  refine HC.out.mono ?_;rintro e w3 ⟨A3,c3,r3,xs3,s3,rfl,ho3,hout3,h3,ht3,hd3,hcl3,hx3,hf3,hl3⟩
  have H3:=hid (And.intro ho3 (And.intro hout3 (And.intro h3 (And.intro ht3 (And.intro hcl3 (And.intro hx3 (And.intro hf3 hl3)))))))
  clear ho3 hout3 h3 ht3 hcl3 hx3 hf3 hl3 hd3
  go_wp2
  go_ret
  refine ⟨A3,r3,c3,O,s3,xs3,_,rfl,rfl,H3.out.1.lowZ (by rw [HA.out.2.2];omega),H3.out.2.1,H3.out.2.2.1,?_,H3.out.2.2.2.2.1,H3.out.2.2.2.2.2.1,fun q hq=>.inl hq,HA.out.2.1.trans H3.out.2.2.2.2.2.2.1,H3.out.2.2.2.2.2.2.2⟩
  rw [H3.out.2.2.2.1]
  simp [actB]
 have qd:(d==1)=false:=by simp [hd]
 have HC:=hid (en_write HA.out.1 hcl A bs n c B HT.out.2.2.2.2.2 HT.out.1 HT.out.2.1 (by rw [HA.out.2.2];exact HT.out.2.2.1) HT.out.2.2.2.1 ht)
 have HQ:=hid hd
 clear hd
 go_enter Tryz.func16,Tryz.ntmps16
 go_wp2_with fail
 refine HC.out.mono ?_;rintro e w3 ⟨rfl,O3,h3,ho3,hf3⟩
 have H3:=hid (And.intro h3 (And.intro ho3 hf3))
 clear h3 ho3 hf3
 go_wp2
 go_ret
 refine ⟨none,[],0,O3,{ s with txt:=s.txt++bs },xs,0,rfl,rfl,OwnB.nil _ _ _,List.append_nil _,H3.out.1,?_,hcl,by omega,fun q hq=>?_,HA.out.2.1.trans H3.out.2.2,by simp⟩
 ·show s.txt++bs=s.txt++actB d bs
  unfold actB
  rw [if_neg HQ.out]
 rcases H3.out.2.1 q hq with h | h
 ·exact .inl h
 rw [HA.out.2.2] at h;exact .inr (by omega)
section
variable {K eb lv : Nat} {w wr w3 w4 w' : World} {O O' : Nat → Prop} {s s' : EncS} {xs xs' : List (List UInt8)} {ov v4 : Value} {d : Int} {bs : List UInt8} {A : Option Addr} {r : List UInt8} {c : Nat}
def UX (O:Nat→Prop) (ov:Value) (q:Nat):Prop:=O q∨ov.ownBlock=some q
theorem FlOut.ult (h:FlOut K w wr O eb lv s xs ov) (q:Nat) (hq:UX O ov q):q<wr.heap.size:=by
 rcases hq with hq | hq
 ·exact h.e.lt q hq
 exact (h.v.lt hq).2
theorem FlOut.act (h:FlOut K w wr O eb lv s xs ov) (hK:K≤wr.heap.size) (ha:ActEnd wr w3 K eb lv O s xs d bs A r c O' s' xs')
 (hown:OwnB w4 5 K v4 (outS lv xs++r)) (hfrm:Frm (fun k=>ov.ownBlock=some k) w3 w4) (hnew:v4.ownBlock=ov.ownBlock∨v4.ownBlock=some w3.heap.size) :
 FlOut K w w4 O' eb lv s' xs' v4∧(∀ q,UX O' v4 q→UX O ov q∨wr.heap.size≤q)∧Frm (UX O ov) wr w4:=by
 refine ⟨h.next hK ha.e ha.c ha.b ha.f ha.q hown hfrm hnew,fun q hq=>?_,(ha.f.mono (fun k _ hk=>.inl hk)).trans (hfrm.mono (fun k _ hk=>.inr hk))⟩
 rcases hq with hq | hq
 ·rcases ha.b q hq with h1 | h1
  ·exact .inl (.inl h1)
  exact .inr h1
 rcases hnew with e | e
 ·exact .inl (.inr (e▸hq))
 rw [e] at hq
 have e2:=Option.some.inj hq
 have:=ha.f.size
 exact .inr (by omega)
theorem FlOut.offU {S:Nat→Prop} (h:FlOut K w wr O eb lv s xs ov) (hK:K≤wr.heap.size) (hf:Frm S wr w') (h1:∀ q,UX O ov q→¬ S q) (hb:Below K w w'):FlOut K w w' O eb lv s xs ov :=
 ⟨h.e.frm hf (fun q hq=>h1 q (.inl hq)),hb,h.c,h.v.frm hf (fun q hq=>h1 q (.inr hq)),h.n⟩
end
open Go.RowKit Rng Win Lz Box
section
variable {K eb lv : Nat} {w wr w' : World} {O : Nat → Prop} {s : EncS} {xs : List (List UInt8)} {ov : Value}
end
open Go.RowKit Rng Win Lz Box
theorem EnD.low {w:World} {K K' eb lv:Nat} {O:Nat→Prop} {s:EncS} {xs:List (List UInt8)} (h:EnD w K O eb lv s xs) (hK:K'≤K):EnD w K' O eb lv s xs:=by
 obtain ⟨⟨v,sb,own,h⟩,hi⟩:=h
 exact ⟨⟨v,sb,own,h.p,h.r.lowZ hK,h.m,h.n1,h.n2,h.n3,Nat.le_trans hK h.k1,fun q hq=>Nat.le_trans hK (h.k2 q hq),h.o,Nat.le_trans hK h.z⟩,hi⟩
theorem sumX_up (l:List XAct) (i:Nat):sumX (l.take i)≤sumX (l.take (i+1)):=by
 have e:l.take i=(l.take (i+1)).take i:=by rw [List.take_take,Nat.min_eq_left (by omega)]
 rw [e]
 exact sumX_le
section
variable {K eb lv : Nat} {w wr w3 w4 : World} {O : Nat → Prop} {s : EncS} {xs xs3 : List (List UInt8)} {ov v4 : Value} {E r3 : List UInt8}
theorem FlOut.ends (h:FlOut K w wr O eb lv s xs ov) (hK:K≤wr.heap.size) (hf:Frm O wr w3) (hr:outS lv xs++r3=E)
 (hown:OwnB w4 5 K v4 (outS lv xs++r3)) (hfrm:Frm (fun k=>ov.ownBlock=some k) w3 w4) (hnew:v4.ownBlock=ov.ownBlock∨v4.ownBlock=some w3.heap.size) :
 OwnB w4 5 K v4 E∧Below K w w4∧Frm (UX O ov) wr w4∧(∀ q,v4.ownBlock=some q→ov.ownBlock=some q∨wr.heap.size≤q):=by
 refine ⟨hr▸hown,(h.b.trans (hf.below hK (fun q hq=>h.e.ge q hq))).trans (hfrm.below (Nat.le_trans hK hf.size) (fun q hq=>(h.v.lt hq).1)),(hf.mono (fun k _ hk=>.inl hk)).trans (hfrm.mono (fun k _ hk=>.inr hk)),fun q hq=>?_⟩
 rcases hnew with e | e
 ·exact .inl (e▸hq)
 rw [e] at hq
 have e2:=Option.some.inj hq
 have:=hf.size
 exact .inr (by omega)
end
set_option maxRecDepth 100000 in
set_option maxHeartbeats 8000000 in
theorem lawOwn22 (level:Int) (A:Option Addr) (l:List XAct) (ln c:Nat) (B:Option Addr) (m:List XAct) (lm d:Nat) (w:World) (hx : -9223372036854775808≤level∧level≤9223372036854775807)
 (hln:ln=l.length) (hr:XActRow w w.heap.size A l) (hf:∀ s∈l,s.Fits w w.heap.size∧s.bs.length≤1048576) (hlm:l.length≤1048576)
 (hlnm:lm=m.length) (hrm:XActRow w w.heap.size B m) (hfm:∀ s∈m,s.Fits w w.heap.size∧s.bs.length≤1048576) (hlmm:m.length≤1048576) :
 Calls Tryz.prog 6 #[.int .i64 level,.slice A ln c,.slice B lm d] w fun e w'=>e=.returned (.bool true)∧Below w.heap.size w w':=by
 subst hln
 subst hlnm
 have HR:=hid hr
 have HF:=hid hf
 have HRM:=hid hrm
 have HFM:=hid hfm
 have HG:=hid (great22_any A l l.length c w.heap.size w rfl hr hf hlm)
 have HGM:=hid (great22_any B m m.length d w.heap.size w rfl hrm hfm hlmm)
 clear hr hf hx hrm hfm
 go_enter Tryz.func6,Tryz.ntmps6
 go_wp2_with fail
 refine HG.out.mono ?_;rintro e w0 ⟨hg | ⟨hg,hg1,hg2⟩,rfl⟩
 ·subst hg
  go_wp2_with fail
  refine (wakes22 w).mono ?_;rintro e w2 ⟨rfl,hb2⟩
  have B2:=hid hb2
  clear hb2
  go_wp2
  go_ret
  exact ⟨rfl,B2.out⟩
 subst hg
 go_wp2_with fail
 refine HGM.out.mono ?_;rintro e w0 ⟨hg | ⟨hg,hgm1,hgm2⟩,rfl⟩
 ·subst hg
  go_wp2_with fail
  refine (wakes22 w).mono ?_;rintro e w2 ⟨rfl,hb2⟩
  have B2:=hid hb2
  clear hb2
  go_wp2
  go_ret
  exact ⟨rfl,B2.out⟩
 subst hg
 have HS:=hid (And.intro (And.intro hg1 hg2) (And.intro hgm1 hgm2))
 clear hg1 hg2 hgm1 hgm2 HG HGM
 go_wp2_with fail
 refine (en_new level w).mono ?_;rintro e w1 ⟨eb,O1,rfl,h1,hb1⟩
 have H1:=hid (And.intro h1 hb1)
 clear h1 hb1
 go_wp2_with fail
 refine (en_new _ w1).mono ?_;rintro e w2 ⟨fb,O2,rfl,h2,hb2⟩
 have H2:=hid (And.intro h2 hb2)
 clear h2 hb2
 go_wp2_with fail
 refine (en_new level w2).mono ?_;rintro e w3 ⟨gb,O3,rfl,h3,hb3⟩
 have HWI:=hid (window22_p level)
 obtain ⟨lv,hlv⟩:∃ lv,lvOf level=lv:=⟨_,rfl⟩
 have HL3:Hid (lv≤3):=hid (by rw [← hlv];exact lvOf_le level)
 rw [hlv] at h3 HWI H1
 obtain ⟨lw,HLW,hy0⟩:∃ lw,Hid (lw≤3)∧EnD w2 w1.heap.size O2 fb lw newEnc []:=⟨_,hid (lvOf_le _),H2.out.1⟩
 have hbw:=budOf_win HL3.out
 obtain ⟨BW,hBW⟩:∃ BW,2 ^ (16+2*lv)=BW:=⟨_,rfl⟩
 rw [hBW] at HWI hbw
 have HBW:=hid (And.intro hbw hBW)
 have z1:=H1.out.2.size
 have z2:=H2.out.2.size
 have z3:=hb3.size
 have b3:Below w.heap.size w w3:=(H1.out.2.trans (H2.out.2.mono z1)).trans (hb3.mono (Nat.le_trans z1 z2))
 have hx3:FlOut w.heap.size w w3 O1 eb lv newEnc [] (.slice none 0 0):=⟨(H1.out.1.below H2.out.2).below hb3,b3,rfl,OwnB.nil _ _ _,fun q e=>by cases e⟩
 have hy3:EnD w3 w.heap.size O2 fb lw newEnc []:=(hy0.below hb3).low z1
 have hz3:FlOut w.heap.size w w3 O3 gb lv newEnc [] (.slice none 0 0):=⟨h3.low (Nat.le_trans z1 z2),b3,rfl,OwnB.nil _ _ _,fun q e=>by cases e⟩
 have d12:∀ q,UX O1 (.slice none 0 0) q→¬ O2 q:=fun q hq hq2=>by
  rcases hq with hq | hq
  ·have a1:=H1.out.1.lt q hq;have a2:=H2.out.1.ge q hq2;omega
  cases hq
 have d13:∀ q,UX O1 (.slice none 0 0) q→¬ UX O3 (.slice none 0 0) q:=fun q hq hq2=>by
  rcases hq with hq | hq
  ·rcases hq2 with hq2 | hq2
   ·have a1:=H1.out.1.lt q hq;have a2:=h3.ge q hq2;omega
   cases hq2
  cases hq
 have d23:∀ q,O2 q→¬ UX O3 (.slice none 0 0) q:=fun q hq hq2=>by
  rcases hq2 with hq2 | hq2
  ·have a1:=H2.out.1.lt q hq;have a2:=h3.ge q hq2;omega
  cases hq2
 have H3:=hid (And.intro hx3 (And.intro hy3 (And.intro hz3 (And.intro d12 (And.intro d13 d23)))))
 clear h3 hb3 hlv hbw hBW z1 z2 z3 b3 hx3 hy3 hz3 d12 d13 d23 H1 H2 hy0
 go_wp2
 go_loopw [10,12] (fun ov iv wr=>∃ (i Lo co:Nat) (Ao:Option Addr) (Ox Oy:Nat→Prop) (s t:EncS) (xs ys:List (List UInt8)),iv=.int .i64 (i:Int)∧ov=.slice Ao Lo co∧i≤l.length ∧
  Hid (FlOut w.heap.size w wr Ox eb lv s xs (.slice Ao Lo co)∧s.txt=actTxt (l.take i)∧Lo=(outS lv xs).length∧xs.length≤i ∧
   (EnD wr w.heap.size Oy fb lw t ys∧t.closed=false∧ys.length≤i∧t.txt.length≤sumX (m.take i))∧FlOut w.heap.size w wr O3 gb lv newEnc [] (.slice none 0 0) ∧
   (∀ q,UX Ox (.slice Ao Lo co) q→¬ Oy q)∧(∀ q,UX Ox (.slice Ao Lo co) q→¬ UX O3 (.slice none 0 0) q)∧(∀ q,Oy q→¬ UX O3 (.slice none 0 0) q))) (fun _ iv _=>l.length-(intOf iv).toNat)
 case atStart=>exact ⟨0,0,0,none,O1,O2,newEnc,newEnc,[],[],rfl,rfl,Nat.zero_le _,hid ⟨H3.out.1,rfl,rfl,Nat.le_refl _,⟨H3.out.2.1,rfl,Nat.le_refl _,Nat.zero_le _⟩,H3.out.2.2.1,H3.out.2.2.2.1,H3.out.2.2.2.2.1,H3.out.2.2.2.2.2⟩⟩
 case round =>
 obtain ⟨i,Lo,co,Ao,Ox,Oy,s,t,xs,ys,rfl,rfl,hi,HE⟩:=hrel
 by_cases g1:i<l.length
 ·obtain ⟨b,off,rfl,hbw,c0,c1⟩:=HR.out.at_ HE.out.1.b g1
  have hx:l.getD i default∈l:=by rw [List.getD,List.getElem?_eq_getElem g1];exact List.getElem_mem g1
  have hmu:=sumX_take g1
  have hle:=sumX_le (l:=l) (i:=i+1)
  have htx:=actTxt_take g1
  have htl:=actTxt_len (l.take i)
  obtain ⟨hfit,d5⟩:=HF.out _ hx
  obtain ⟨⟨dd,A1,bs,cap⟩,hxx⟩:∃ x,l.getD i default=x:=⟨_,rfl⟩
  rw [hxx] at c0 c1 hfit hmu d5 htx
  obtain ⟨n1,hn1⟩:∃ n1,bs.length=n1:=⟨_,rfl⟩
  simp only [hn1] at c0 c1 hmu d5 htx
  have HX:=hid (And.intro hfit (And.intro hmu (And.intro hle (And.intro hn1 (And.intro htx htl)))))
  have HXL:Hid (xs.length≤39∧ys.length≤39):=hid (by have a1:=HE.out.2.2.2.1;have a2:=HS.out.1.1;have a3:=HE.out.2.2.2.2.1.2.2.1;omega)
  have HSZ:Hid (w.heap.size≤wr.heap.size):=hid HE.out.1.b.size
  have hts:s.txt.length+n1≤16384:=by
   have a1:=HE.out.2.1
   have a2:=HS.out.1.2
   rw [a1]
   omega
  have HLO:Hid (Lo≤16384+24+3*39):=hid (by have a1:=HE.out.1.len;have a2:=HXL.out;have a3:=HE.out.2.2.1;omega)
  have HC:=hid (act_p HE.out.1.e HE.out.1.c HL3.out (by have:=HXL.out;omega) dd A1 bs n1 cap w.heap.size hn1.symm (hfit.r.below HE.out.1.b) (BOff.of_row hfit.r HE.out.1.e.ge) HSZ.out (by have:=hfit.c.1;simp only at this;omega) hts)
  clear hx hmu hle hfit hxx hn1 htx htl hts
  go_wp2_with fail
  refine HC.out.mono ?_;rintro e w4 ⟨A4,r4,c4,O4,s4,xs4,L4,rfl,hL4,ha4⟩
  have v4:=HE.out.1.v.frm ha4.f HE.out.1.n
  have R4:=hid (And.intro hL4 (And.intro ha4 v4))
  have Z4:=hid ha4.f.size
  clear hL4 ha4 v4 HC
  go_wp2_with (at_builtin;refine wpList_append_bytes _ rfl (.tmp 40) (.tmp 46) 27 rfl 5 w.heap.size Tryz.underlying27 Tryz.info_u8 (.slice Ao Lo co) (outS lv xs) rfl ?own1 A4 L4 c4 w4.heap.size r4 rfl R4.out.1 ?row1 ?len1 ?base1 ?next1)
  case own1=>exact R4.out.2.2
  case row1=>exact R4.out.2.1.o.rowZ
  case len1=>have a1:=R4.out.2.1.l;have a2:=HLO.out;have a3:=HE.out.2.2.1;omega
  case base1=>have a1:=Z4.out;have a2:=HSZ.out;omega
  case next1 =>
  intro v5 w5 hown5 hfrm5 hnew5
  obtain ⟨h5,u5,f5⟩:=HE.out.1.act HSZ.out R4.out.2.1 hown5 hfrm5 hnew5
  obtain ⟨A5,c5,e5,-,-,-⟩:=h5.v.slice
  obtain ⟨L5,hL5⟩:∃ L,(outS lv xs4).length=L:=⟨_,rfl⟩
  rw [hL5] at e5
  subst e5
  have hy5:=HE.out.2.2.2.2.1.1.frm f5 (fun q hq hu=>HE.out.2.2.2.2.2.2.1 q hu hq)
  have hz5:=HE.out.2.2.2.2.2.1.offU HSZ.out f5 (fun q hq hu=>HE.out.2.2.2.2.2.2.2.1 q hu hq) h5.b
  have d12:∀ q,UX O4 (.slice A5 L5 c5) q→¬ Oy q:=fun q hq hq2=>by
   rcases u5 q hq with h | h
   ·exact HE.out.2.2.2.2.2.2.1 q h hq2
   have:=HE.out.2.2.2.2.1.1.lt q hq2;omega
  have d13:∀ q,UX O4 (.slice A5 L5 c5) q→¬ UX O3 (.slice none 0 0) q:=fun q hq hq2=>by
   rcases u5 q hq with h | h
   ·exact HE.out.2.2.2.2.2.2.2.1 q h hq2
   have:=HE.out.2.2.2.2.2.1.ult q hq2;omega
  have ht5:s4.txt=actTxt (l.take (i+1)):=by rw [R4.out.2.1.t,HE.out.2.1,HX.out.2.2.2.2.1]
  have hx5:xs4.length≤i+1:=by have a1:=R4.out.2.1.x;have a2:=HE.out.2.2.2.1;omega
  have H5:=hid (And.intro h5 (And.intro ht5 (And.intro hL5.symm (And.intro hx5 (And.intro hy5 (And.intro hz5 (And.intro d12 d13)))))))
  clear h5 u5 f5 hown5 hfrm5 hnew5 hL5 hy5 hz5 d12 d13 ht5 hx5 c0 c1 R4
  by_cases g2:i<m.length
  ·obtain ⟨b2,off2,rfl,hbw2,k0,k1⟩:=HRM.out.at_ H5.out.1.b g2
   have hx:m.getD i default∈m:=by rw [List.getD,List.getElem?_eq_getElem g2];exact List.getElem_mem g2
   have hmu:=sumX_take g2
   have hle:=sumX_le (l:=m) (i:=i+1)
   obtain ⟨hfit,e5⟩:=HFM.out _ hx
   obtain ⟨⟨dy,Ay,by_,capy⟩,hxx⟩:∃ x,m.getD i default=x:=⟨_,rfl⟩
   rw [hxx] at k0 k1 hfit hmu e5
   obtain ⟨n2,hn2⟩:∃ n2,by_.length=n2:=⟨_,rfl⟩
   simp only [hn2] at k0 k1 hmu e5
   have hts:t.txt.length+n2≤16384:=by
    have a1:=HE.out.2.2.2.2.1.2.2.2
    have a2:=HS.out.2.2
    omega
   have HC:=hid (act_p H5.out.2.2.2.2.1 HE.out.2.2.2.2.1.2.1 HLW.out (by have:=HXL.out;omega) dy Ay by_ n2 capy w.heap.size hn2.symm (hfit.r.below H5.out.1.b) (BOff.of_row hfit.r H5.out.2.2.2.2.1.ge) H5.out.1.b.size (by have:=hfit.c.1;simp only at this;omega) hts)
   have HY:=hid (And.intro hmu hn2)
   clear hx hmu hle hfit hxx hn2 hts
   go_wp2_with fail
   refine HC.out.mono ?_;rintro e w6 ⟨A6,r6,c6,O6,s6,xs6,L6,rfl,hL6,ha6⟩
   have h6:=H5.out.1.offU H5.out.1.b.size ha6.f (fun q hq hu=>H5.out.2.2.2.2.2.2.1 q hq hu) (H5.out.1.b.trans (ha6.f.below H5.out.1.b.size (fun q hq=>H5.out.2.2.2.2.1.ge q hq)))
   have hz6:=H5.out.2.2.2.2.2.1.offU H5.out.1.b.size ha6.f (fun q hq hu=>HE.out.2.2.2.2.2.2.2.2 q hu hq) h6.b
   have d12:∀ q,UX O4 (.slice A5 L5 c5) q→¬ O6 q:=fun q hq hq2=>by
    rcases ha6.b q hq2 with h | h
    ·exact H5.out.2.2.2.2.2.2.1 q hq h
    have:=H5.out.1.ult q hq;omega
   have d23:∀ q,O6 q→¬ UX O3 (.slice none 0 0) q:=fun q hq hq2=>by
    rcases ha6.b q hq with h | h
    ·exact HE.out.2.2.2.2.2.2.2.2 q h hq2
    have:=H5.out.2.2.2.2.2.1.ult q hq2;omega
   have hx6:xs6.length≤i+1:=by have a1:=ha6.x;have a2:=HE.out.2.2.2.2.1.2.2.1;omega
   have ht6:s6.txt.length≤sumX (m.take (i+1)):=by
    rw [ha6.t,List.length_append]
    have a1:=actB_len dy by_
    have a2:=HE.out.2.2.2.2.1.2.2.2
    have a3:=HY.out
    omega
   have H6:=hid (And.intro h6 (And.intro hz6 (And.intro d12 (And.intro d23 (And.intro hx6 (And.intro ht6 (And.intro ha6.e ha6.c)))))))
   clear h6 hz6 d12 d23 hx6 ht6 ha6 hL6 HC
   go_wp2
   exact ⟨⟨i+1,L5,c5,A5,O4,O6,s4,s6,xs4,xs6,by go_num,rfl,by omega,hid ⟨H6.out.1,H5.out.2.1,H5.out.2.2.1,H5.out.2.2.2.1,⟨H6.out.2.2.2.2.2.2.1,H6.out.2.2.2.2.2.2.2,H6.out.2.2.2.2.1,H6.out.2.2.2.2.2.1⟩,H6.out.2.1,H6.out.2.2.1,H5.out.2.2.2.2.2.2.2,H6.out.2.2.2.1⟩⟩,by simp [intOf];omega⟩
  have hup:=sumX_up m i
  have HUP:=hid hup
  clear hup
  go_wp2
  exact ⟨⟨i+1,L5,c5,A5,O4,Oy,s4,t,xs4,ys,by go_num,rfl,by omega,hid ⟨H5.out.1,H5.out.2.1,H5.out.2.2.1,H5.out.2.2.2.1,⟨H5.out.2.2.2.2.1,HE.out.2.2.2.2.1.2.1,by have:=HE.out.2.2.2.2.1.2.2.1;omega,Nat.le_trans HE.out.2.2.2.2.1.2.2.2 HUP.out⟩,H5.out.2.2.2.2.2.1,H5.out.2.2.2.2.2.2.1,H5.out.2.2.2.2.2.2.2,HE.out.2.2.2.2.2.2.2.2⟩⟩,by simp [intOf];omega⟩
 obtain rfl:i=l.length:=by omega
 have HQ:=hid HE.out.1
 have htx:s.txt=actTxt l:=by rw [HE.out.2.1,List.take_length]
 obtain ⟨T,hT⟩:∃ T,actTxt l=T:=⟨_,rfl⟩
 have hTl:T.length≤16384:=by rw [← hT];have a1:=actTxt_len l;have a2:=HS.out.1.2;omega
 have hxl:xs.length≤40:=by have a1:=HE.out.2.2.2.1;have a2:=HS.out.1.1;omega
 rw [hT] at htx
 have HT:=hid (And.intro hT (And.intro hTl (And.intro htx (And.intro hxl HE.out.2.2.1))))
 have HZ:=hid (And.intro HE.out.2.2.2.2.2.1 HE.out.2.2.2.2.2.2.2.1)
 clear htx hT hTl hxl HE
 obtain ⟨wo,rfl⟩:∃ wo,wo=wr:=⟨_,rfl⟩
 go_wp2
 go_loopw [11,13] (fun tv jv wr=>∃ (j Lt ct:Nat) (At:Option Addr) (Oz:Nat→Prop) (t:EncS) (zs:List (List UInt8)),jv=.int .i64 (j:Int)∧tv=.slice At Lt ct∧j≤l.length ∧
  Hid (FlOut w.heap.size w wr Ox eb lv s xs (.slice Ao Lo co)∧FlOut w.heap.size w wr Oz gb lv t zs (.slice At Lt ct)∧t.txt=actTxt (l.take j)∧Lt=(outS lv zs).length∧zs.length≤j ∧
   (∀ q,UX Ox (.slice Ao Lo co) q→¬ UX Oz (.slice At Lt ct) q))) (fun _ jv _=>l.length-(intOf jv).toNat)
 case atStart=>exact ⟨0,0,0,none,O3,newEnc,[],rfl,rfl,Nat.zero_le _,hid ⟨HQ.out,HZ.out.1,rfl,rfl,Nat.le_refl _,HZ.out.2⟩⟩
 case round =>
 obtain ⟨j,Lt,ct,At,Oz,t,zs,rfl,rfl,hj,HE⟩:=hrel
 by_cases g1:j<l.length
 ·obtain ⟨b,off,rfl,hbw,c0,c1⟩:=HR.out.at_ HE.out.1.b g1
  have hx:l.getD j default∈l:=by rw [List.getD,List.getElem?_eq_getElem g1];exact List.getElem_mem g1
  have hmu:=sumX_take g1
  have hle:=sumX_le (l:=l) (i:=j+1)
  have htx:=actTxt_take g1
  have htl:=actTxt_len (l.take j)
  obtain ⟨hfit,d5⟩:=HF.out _ hx
  obtain ⟨⟨dd,A1,bs,cap⟩,hxx⟩:∃ x,l.getD j default=x:=⟨_,rfl⟩
  rw [hxx] at c0 c1 hfit hmu d5 htx
  obtain ⟨n1,hn1⟩:∃ n1,bs.length=n1:=⟨_,rfl⟩
  simp only [hn1] at c0 c1 hmu d5 htx
  have HXL:Hid (zs.length≤39):=hid (by have a1:=HE.out.2.2.2.2.1;have a2:=HS.out.1.1;omega)
  have HSZ:Hid (w.heap.size≤wr.heap.size):=hid HE.out.1.b.size
  have hts:t.txt.length+n1≤16384:=by
   have a1:=HE.out.2.2.1
   have a2:=HS.out.1.2
   rw [a1]
   omega
  have HX:=hid htx
  have HLO:Hid (Lt≤16384+24+3*39):=hid (by have a1:=HE.out.2.1.len;have a2:=HXL.out;have a3:=HE.out.2.2.2.1;omega)
  have HC:=hid (act_p HE.out.2.1.e HE.out.2.1.c HL3.out (by have:=HXL.out;omega) dd A1 bs n1 cap w.heap.size hn1.symm (hfit.r.below HE.out.1.b) (BOff.of_row hfit.r HE.out.2.1.e.ge) HSZ.out (by have:=hfit.c.1;simp only at this;omega) hts)
  clear hx hmu hle hfit hxx hn1 htx htl hts
  go_wp2_with fail
  refine HC.out.mono ?_;rintro e w4 ⟨A4,r4,c4,O4,s4,xs4,L4,rfl,hL4,ha4⟩
  have v4:=HE.out.2.1.v.frm ha4.f HE.out.2.1.n
  have R4:=hid (And.intro hL4 (And.intro ha4 v4))
  have Z4:=hid ha4.f.size
  clear hL4 ha4 v4 HC
  go_wp2_with (at_builtin;refine wpList_append_bytes _ rfl (.tmp 64) (.tmp 70) 27 rfl 5 w.heap.size Tryz.underlying27 Tryz.info_u8 (.slice At Lt ct) (outS lv zs) rfl ?own2 A4 L4 c4 w4.heap.size r4 rfl R4.out.1 ?row2 ?len2 ?base2 ?next2)
  case own2=>exact R4.out.2.2
  case row2=>exact R4.out.2.1.o.rowZ
  case len2=>have a1:=R4.out.2.1.l;have a2:=HLO.out;have a3:=HE.out.2.2.2.1;omega
  case base2=>have a1:=Z4.out;have a2:=HSZ.out;omega
  case next2 =>
  intro v5 w5 hown5 hfrm5 hnew5
  obtain ⟨h5,u5,f5⟩:=HE.out.2.1.act HSZ.out R4.out.2.1 hown5 hfrm5 hnew5
  obtain ⟨A5,c5,e5,-,-,-⟩:=h5.v.slice
  obtain ⟨L5,hL5⟩:∃ L,(outS lv xs4).length=L:=⟨_,rfl⟩
  rw [hL5] at e5
  subst e5
  have hx5:=HE.out.1.offU HSZ.out f5 (fun q hq hu=>HE.out.2.2.2.2.2 q hq hu) h5.b
  have d13:∀ q,UX Ox (.slice Ao Lo co) q→¬ UX O4 (.slice A5 L5 c5) q:=fun q hq hq2=>by
   rcases u5 q hq2 with h | h
   ·exact HE.out.2.2.2.2.2 q hq h
   have:=HE.out.1.ult q hq;omega
  have ht5:s4.txt=actTxt (l.take (j+1)):=by rw [R4.out.2.1.t,HE.out.2.2.1,HX.out]
  have hz5:xs4.length≤j+1:=by have a1:=R4.out.2.1.x;have a2:=HE.out.2.2.2.2.1;omega
  have H5:=hid (And.intro hx5 (And.intro h5 (And.intro ht5 (And.intro hL5.symm (And.intro hz5 d13)))))
  clear h5 u5 f5 hown5 hfrm5 hnew5 hL5 hx5 hz5 d13 ht5 c0 c1 R4
  go_wp2
  exact ⟨⟨j+1,L5,c5,A5,O4,s4,xs4,by go_num,rfl,by omega,H5⟩,by simp [intOf];omega⟩
 obtain rfl:j=l.length:=by omega
 have htz:t.txt=T:=by rw [HE.out.2.2.1,List.take_length,HT.out.1]
 have hzl:zs.length≤40:=by have a1:=HE.out.2.2.2.2.1;have a2:=HS.out.1.1;omega
 have hlo:Lo≤16384+24+3*40:=by have a1:=HE.out.1.len;have a2:=HT.out;rw [a2.2.2.1] at a1;omega
 have hlt:Lt≤16384+24+3*40:=by have a1:=HE.out.2.1.len;have a2:=HT.out;have a3:=HE.out.2.2.2.1;rw [htz] at a1;omega
 have HSZ:Hid (w.heap.size≤wr.heap.size):=hid HE.out.1.b.size
 have HTZ:=hid (And.intro htz (And.intro hzl (And.intro hlo hlt)))
 have HC:=hid (en_close HE.out.1.e HE.out.1.c HL3.out (by have:=HT.out;omega))
 clear htz hzl hlo hlt
 go_wp2_with fail
 refine HC.out.mono ?_;rintro e w3 ⟨A3,c3,r3,xs3,s3,rfl,ho3,hout3,hst3,hx3,-,-,hf3,hl3,-⟩
 obtain ⟨L3,hL3⟩:∃ L,r3.length=L:=⟨_,rfl⟩
 rw [hL3] at ho3
 simp only [hL3]
 have v3:=HE.out.1.v.frm hf3 HE.out.1.n
 have R3:=hid (And.intro ho3 (And.intro v3 hf3))
 have HS3:=hid (And.intro hL3 (And.intro hout3 (And.intro hst3 (And.intro hx3 hl3))))
 have Z3:=hid hf3.size
 clear ho3 hout3 hst3 hx3 hf3 hl3 hL3 v3 HC
 go_wp2_with (at_builtin;refine wpList_append_bytes _ rfl (.tmp 72) (.tmp 74) 27 rfl 5 w.heap.size Tryz.underlying27 Tryz.info_u8 (.slice Ao Lo co) (outS lv xs) rfl ?own3 A3 L3 c3 w3.heap.size r3 rfl HS3.out.1.symm ?row3 ?len3 ?base3 ?next3)
 case own3=>exact R3.out.2.1
 case row3=>exact R3.out.1.rowZ
 case len3=>have a1:=HS3.out;have a2:=HTZ.out;have a3:=HT.out.2.2.2.2;omega
 case base3=>have a1:=Z3.out;have a2:=HSZ.out;omega
 case next3 =>
 intro v4 w4 hown4 hfrm4 hnew4
 obtain ⟨o4,b4,f4,n4⟩:=HE.out.1.ends HSZ.out R3.out.2.2 HS3.out.2.1 hown4 hfrm4 hnew4
 obtain ⟨E,hE⟩:∃ E,endS lv xs3 s.txt=E:=⟨_,rfl⟩
 rw [hE] at o4
 obtain ⟨A4,c4,e4,-,-,-⟩:=o4.slice
 obtain ⟨L4,hL4⟩:∃ L,E.length=L:=⟨_,rfl⟩
 rw [hL4] at e4
 subst e4
 have hz4:=HE.out.2.1.offU HSZ.out f4 (fun q hq hu=>HE.out.2.2.2.2.2 q hu hq) b4
 have n4':∀ q,(Value.slice A4 L4 c4).ownBlock=some q→¬ UX Oz (.slice At Lt ct) q:=fun q hq hq2=>by
  rcases n4 q hq with h | h
  ·exact HE.out.2.2.2.2.2 q (.inr h) hq2
  have:=HE.out.2.1.ult q hq2;omega
 have hrd:xP BW E=(T,.inr []):=by
  rw [← HBW.out.2,← hE,HT.out.2.2.1]
  refine endS_readB HL3.out (Nat.le_refl _) ?_ HT.out.2.1 (by have a1:=HS3.out.2.2.2.1;have a2:=HT.out.2.2.2.1;omega)
  rw [← HT.out.2.2.1]
  exact HS3.out.2.2.1
 have hEL:L4≤20000:=by
  have a1:=endS_len (lv:=lv) HS3.out.2.2.1
  have a2:=HS3.out.2.2.2.1
  have a3:=HT.out
  rw [hE,hL4,HT.out.2.2.1] at a1
  omega
 have H4:=hid (And.intro o4 (And.intro b4 (And.intro hz4 (And.intro n4' (And.intro hrd (And.intro hEL hL4))))))
 have HC:=hid (en_close hz4.e hz4.c HL3.out (by have:=HTZ.out;omega))
 clear o4 b4 f4 n4 n4' hz4 hrd hEL hL4 hE hown4 hfrm4 hnew4 R3
 go_wp2_with fail
 refine HC.out.mono ?_;rintro e w5 ⟨A5,c5,r5,xs5,s5,rfl,ho5,hout5,hst5,hx5,-,-,hf5,hl5,-⟩
 obtain ⟨L5,hL5⟩:∃ L,r5.length=L:=⟨_,rfl⟩
 rw [hL5] at ho5
 simp only [hL5]
 have v5:=H4.out.2.2.1.v.frm hf5 H4.out.2.2.1.n
 have R5:=hid (And.intro ho5 (And.intro v5 hf5))
 have HS5:=hid (And.intro hL5 (And.intro hout5 (And.intro hst5 (And.intro hx5 hl5))))
 have Z5:=hid hf5.size
 clear ho5 hout5 hst5 hx5 hf5 hl5 hL5 v5 HC
 go_wp2_with (at_builtin;refine wpList_append_bytes _ rfl (.tmp 76) (.tmp 78) 27 rfl 5 w.heap.size Tryz.underlying27 Tryz.info_u8 (.slice At Lt ct) (outS lv zs) rfl ?own4 A5 L5 c5 w5.heap.size r5 rfl HS5.out.1.symm ?row4 ?len4 ?base4 ?next4)
 case own4=>exact R5.out.2.1
 case row4=>exact R5.out.1.rowZ
 case len4=>have a1:=HS5.out;have a2:=HTZ.out;have a3:=HE.out.2.2.2.1;omega
 case base4=>have a1:=Z5.out;have a2:=H4.out.2.1.size;omega
 case next4 =>
 intro v6 w6 hown6 hfrm6 hnew6
 obtain ⟨o6,b6,f6,-⟩:=H4.out.2.2.1.ends H4.out.2.1.size R5.out.2.2 HS5.out.2.1 hown6 hfrm6 hnew6
 obtain ⟨F,hF⟩:∃ F,endS lv xs5 t.txt=F:=⟨_,rfl⟩
 rw [hF] at o6
 obtain ⟨A6,c6,e6,hc6,hm6,hr6⟩:=o6.slice
 obtain ⟨L6,hL6⟩:∃ L,F.length=L:=⟨_,rfl⟩
 rw [hL6] at e6 hc6
 subst e6
 have o4:=H4.out.1.frm f6 (fun q hq hu=>H4.out.2.2.2.1 q hq hu)
 obtain ⟨A4',c4',e4,hc4,hm4,hr4⟩:=o4.slice
 rw [H4.out.2.2.2.2.2.2] at e4 hc4
 injection e4 with e41 e42 e43
 subst e41;subst e43
 have hrd:xP BW F=(T,.inr []):=by
  rw [← HBW.out.2,← hF,HTZ.out.1]
  refine endS_readB HL3.out (Nat.le_refl _) ?_ HT.out.2.1 (by have a1:=HS5.out.2.2.2.1;have a2:=HTZ.out.2.1;omega)
  rw [← HTZ.out.1]
  exact HS5.out.2.2.1
 have hFL:L6≤20000:=by
  have a1:=endS_len (lv:=lv) HS5.out.2.2.1
  have a2:=HS5.out.2.2.2.1
  have a3:=HTZ.out
  have a4:=HT.out
  rw [hF,hL6,HTZ.out.1] at a1
  omega
 have HD:=hid (member_p A4 E L4 c4 (BW:Int) w6 H4.out.2.2.2.2.2.2.symm hr4 hc4 hm4 (by have:=H4.out.2.2.2.2.2.1;omega))
 rw [HBW.out.1] at HD
 have H6:=hid (And.intro hr6 (And.intro hc6 (And.intro hm6 (And.intro hrd (And.intro hFL (And.intro hL6 b6))))))
 obtain ⟨N,hN⟩:∃ N,T.length=N:=⟨_,rfl⟩
 have HN:=hid hN
 clear o6 b6 f6 hF hc6 hm6 hr6 hL6 hrd hFL o4 e42 hc4 hm4 hr4 hN hown6 hfrm6 hnew6 R5
 go_wp2_with fail
 refine (HWI.out w6).mono ?_;rintro e w7 ⟨rfl,rfl⟩
 go_wp2_with fail
 refine HD.out.mono ?_;rintro e w7 hd
 obtain ⟨A7,c7,rfl,-,hr7,hb7⟩:=mem_ok (m:=N) (u:=L4) hd H4.out.2.2.2.2.1 HN.out (by rw [H4.out.2.2.2.2.2.2];rfl)
 have B7:=hid (H6.out.2.2.2.2.2.2.trans (hb7.mono H6.out.2.2.2.2.2.2.size))
 have HDF:=hid (member_p A6 F L6 c6 (BW:Int) w7 H6.out.2.2.2.2.2.1.symm ((H6.out.1.below hb7).more hb7.size) H6.out.2.1 H6.out.2.2.1 (by have:=H6.out.2.2.2.2.1;omega))
 rw [HBW.out.1] at HDF
 have R7:=hid hr7
 clear hd hr7 hb7 HD
 go_wp2_with fail
 refine (HWI.out w7).mono ?_;rintro e w8 ⟨rfl,rfl⟩
 go_wp2_with fail
 refine HDF.out.mono ?_;rintro e w8 hd
 obtain ⟨A8,c8,rfl,-,hr8,hb8⟩:=mem_ok (m:=N) (u:=L6) hd H6.out.2.2.2.1 HN.out (by rw [H6.out.2.2.2.2.2.1];rfl)
 have B8:=hid (B7.out.trans (hb8.mono B7.out.size))
 have R8:=hid ((R7.out.below hb8).more hb8.size)
 have k1:=fun dd=>run_conv_bytes (P:=Tryz.prog) (w8.drewN dd) 27 9 5 Tryz.underlying27 Tryz.underlying5 Tryz.underlying9 A7 N c7 _ T HN.out.symm (BRow.drewN R8.out dd)
 have k2:=fun dd=>run_conv_bytes (P:=Tryz.prog) (w8.drewN dd) 27 9 5 Tryz.underlying27 Tryz.underlying5 Tryz.underlying9 A8 N c8 _ T HN.out.symm (BRow.drewN hr8 dd)
 have k1w:=k1 0
 change (convert 27 9 (.slice A7 N c7)).run Tryz.prog w8=_ at k1w
 have k2w:=k2 0
 change (convert 27 9 (.slice A8 N c8)).run Tryz.prog w8=_ at k2w
 clear hd hr8 hb8 HDF
 go_wp2_with fail
 refine (wakes22 _).mono ?_;rintro e w9 ⟨rfl,hb9⟩
 have B9:=hid (B8.out.trans (hb9.mono B8.out.size))
 clear hb9
 go_wp2
 go_ret
 exact ⟨rfl,B9.out⟩
end Go.Proofs.YtablgjhnpphodaaGreat
