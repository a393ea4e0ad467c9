import Derived.Test.YtffehfpbdcokbaaGreatBu17
import Derived.Test.YtffehfpbdcokbaaGreatBu31
import Derived.Test.YtffehfpbdcokbaaGreatBu33
set_option linter.unusedVariables false
set_option linter.unusedSimpArgs false
namespace Go.Proofs.YtffehfpbdcokbaaGreat
open Lib (hid)
open Go.RowKit Rng Lz Win
set_option maxRecDepth 100000 in
set_option maxHeartbeats 2000000 in
theorem putlit_p (O:Nat→Prop) (w:World) (k:LK) (g:WB) (A:Option Addr) (c:Nat) (bs:List UInt8) (shift:Int) (pos tot st:Nat) (rep:Nat→Nat) (s:CP Enc) (h:WrAt O w k g A c bs shift pos st rep s) (hk:k.Ok) (htot:(pos:Int)+shift=(tot:Int)) (ht:tot<4611686018427387904)
 (hpos:pos<bs.length) (hlen:bs.length≤140737488355328) (hst:st<12) (hrep:rep 0<4294967296) (hc:s.d.cnt+9<1000000) :
 Calls Tryz.prog 75 #[.pointer (some ⟨g.xb,0,none⟩)] w fun e w'=>e=.returned (.tuple #[])∧WrAt O w' k g A c bs shift (pos+1) (behS st 0) rep (putLit k bs tot pos st rep s)∧Frm (WZ k O g) w w':=by
 obtain ⟨AH,hAH⟩:∃ a,(if 0<tot∧0<pos then (bs.getD (pos-1) 0).toNat else 0)=a:=⟨_,rfl⟩
 obtain ⟨FA,hFA⟩:∃ a,(if rep 0+1≤pos then (bs.getD (pos-(rep 0+1)) 0).toNat else 0)=a:=⟨_,rfl⟩
 obtain ⟨X,hX⟩:∃ a,(bs.getD pos 0).toNat=a:=⟨_,rfl⟩
 obtain ⟨p,hp⟩:∃ p,tot % 2 ^ k.pb=p:=⟨_,rfl⟩
 obtain ⟨s1,hs1⟩:∃ s1,(bitAt inC (8+st*16+p) 0 s).2=s1:=⟨_,rfl⟩
 obtain ⟨s2,hs2⟩:∃ s2,(litAt inC k.lc k.lp st tot AH FA X s1).2=s2:=⟨_,rfl⟩
 have hput:putLit k bs tot pos st rep s=s2:=by unfold putLit;rw [hAH,hFA,hX,hp,hs1,hs2]
 rw [hput]
 have hah:AH<256:=by rw [← hAH];split;exact (bs.getD (pos-1) 0).toNat_lt;omega
 have hfa:FA<256:=by rw [← hFA];split;exact (bs.getD (pos-(rep 0+1)) 0).toNat_lt;omega
 have hXb:X<256:=by rw [← hX];exact (bs.getD pos 0).toNat_lt
 have hc1:s1.d.cnt≤s.d.cnt+1:=by rw [← hs1];exact cnt_bitIn1 _ _ _
 have hlitv:(litAt inC k.lc k.lp st tot AH FA X s1).1=X:=by rw [← hX];exact litIn_any _ _ _ _ _ _ _ _
 have hp16:p<16:=by
  have h1:2 ^ k.pb≤2 ^ 4:=Nat.pow_le_pow_right (by omega) hk.b
  have h2:tot % 2 ^ k.pb<2 ^ k.pb:=Nat.mod_lt _ (Nat.lt_of_lt_of_le (by omega) (Nat.one_le_two_pow))
  omega
 obtain ⟨ab,off,hA,hcell⟩:=h.byte (by omega)
 have HH:=hid h
 have HK:=hid hk
 have HPL:=hid (fun (w1:World) (h1:LzAt (IC g.eb O) O 136 w1 k st rep s)=>place_any 136 k st tot rep s w1 h1 hk ht)
 rw [hp] at HPL
 have P0:=hid (plm k (i:=8+st*16+p) (by omega) (by omega))
 obtain ⟨d0,d1,d2,d3,d4,d5,d6⟩:=h.cells
 have hsti:(st:Int)<12:=by omega
 have hpi:(p:Int)<16:=by omega
 have htw:IntKind.i64.wrap (tot:Int)=(tot:Int):=Go.IntWalk.i64_in _ (by omega)
 have HAH:=hid hAH
 have HFA:=hid hFA
 have HX:=hid hX
 have HS1:=hid hs1
 have HS2:=hid hs2
 have HC:=hid (And.intro hc hc1)
 have HLV:=hid hlitv
 have HREP:=hid hrep
 have HCELL:=hid hcell
 subst hA
 clear hcell h hk hp hAH hFA hX hs1 hs2 hput hc hc1 hlitv hrep
 go_enter Tryz.func75,Tryz.ntmps75
 go_wp2
 go_quiet (fail)
 have HD:=hid ((HH.out.drewN nq).drew)
 have FD:Hid (Frm (WZ k O g) w (w.drewN nq).drew):=hid (((Frm.refl _ w).drewN nq).drew)
 go_upto_region 2 with fail
 go_cut [36] from 37 (fun v wx=>WrAt O wx k g (some ⟨ab,off,none⟩) c bs shift pos st rep s1∧Frm (WZ k O g) w wx)
 case first =>
  go_region_with (first
   | (go_at_call 105;refine (HPL.out _ HD.out.lz).mono ?_;rintro e w2 ⟨rfl,rfl⟩)
   | (go_at_call 104;refine (ibit_lz HD.out.lz (by have:=HC.out;omega) (8+st*16+p) k.sb (8+st*16+p) 0 0 rfl (by omega) P0.out.1 P0.out.2).mono ?_;rintro e w2 ⟨rfl,h2,f2⟩;rw [HS1.out] at h2))
  all_goals
   have H2:=hid (HD.out.lzStep h2 f2)
   have F2:=hid (FD.out.trans (f2.mono fun q _ e=>.inl e))
   clear h2 f2
   go_wp2
   go_meet
   case rel=>exact ⟨H2.out,F2.out⟩
 case rest =>
 obtain ⟨h2,f2⟩:=hcut
 have H2:=hid h2
 have F2:=hid f2
 clear d0 d1 d2 d3 d4 d5 d6 HH HD FD
 obtain ⟨d0,d1,d2,d3,d4,d5,d6⟩:=h2.cells
 have hcell:=(h2.byte (by omega))
 clear h2 f2
 obtain ⟨β,hβ⟩:∃ β,decide (0<tot∧0<pos)=β:=⟨_,rfl⟩
 have Hβ:=hid hβ
 have hcell0:=hcell
 clear hβ hcell
 obtain ⟨ab',off',e9,hcell⟩:=hcell0
 injection e9 with e9
 injection e9 with e8 e7
 subst e8;subst e7
 have HCL:=hid hcell
 clear hcell
 go_upto_region 4 with fail
 go_cut [45] from 46 (fun v wx=>v=.bool β∧wx=wc)
 case first =>
  have hb:=Hβ.out
  by_cases h0:0<tot
  ·have h0i:(0:Int)<(tot:Int):=by omega
   by_cases h1:0<pos
   ·have h1i:(0:Int)<(pos:Int):=by omega
    rw [decide_eq_true ⟨h0,h1⟩] at hb
    subst hb
    clear h0 h1
    go_wp2
    go_meet
    case rel=>exact ⟨by first | rfl | (rw [decide_eq_true (show 0<pos by omega)]),rfl⟩
   obtain rfl:pos=0:=by omega
   rw [decide_eq_false (fun h=>h1 h.2)] at hb
   subst hb
   clear h0 h1
   go_wp2
   go_meet
   case rel=>exact ⟨rfl,rfl⟩
  obtain rfl:tot=0:=by omega
  rw [decide_eq_false (fun h=>h0 h.1)] at hb
  subst hb
  clear h0
  go_wp2
  go_meet
  case rel=>exact ⟨rfl,rfl⟩
 case rest =>
 obtain ⟨rfl,hwx⟩:=hcut
 subst hwx
 obtain ⟨w1,hw1⟩:∃ w1,w1=wc:=⟨_,rfl⟩
 subst hw1
 go_upto_if 45 with fail
 go_cut [4] from 46 (fun v wx=>v=.int .u8 AH∧WrAt O wx k g (some ⟨ab,off,none⟩) c bs shift pos st rep s1∧Frm (WZ k O g) w1 wx)
 case first =>
  have hb:=Hβ.out
  by_cases h01:0<tot∧0<pos
  ·rw [decide_eq_true h01] at hb
   subst hb
   have hA:=HAH.out
   rw [if_pos h01] at hA
   obtain ⟨q,hq⟩:∃ q,pos-1=q:=⟨_,rfl⟩
   rw [hq] at hA
   have hqi:(pos:Int)-1=(q:Int):=by omega
   have hqw:IntKind.i64.wrap (q:Int)=(q:Int):=Go.IntWalk.i64_in _ (by omega)
   have hcq:=HCL.out q (by omega)
   rw [hA] at hcq
   have hqb:q<bs.length:=by omega
   clear hA h01 hq
   go_wp2
   go_quiet (fail)
   have H3:=hid (H2.out.drewN nq)
   have F3:Hid (Frm (WZ k O g) w1 (w1.drewN nq)):=hid ((Frm.refl _ w1).drewN nq)
   go_wp2
   go_meet
   case rel=>exact ⟨rfl,H3.out,F3.out⟩
  rw [decide_eq_false h01] at hb
  subst hb
  have hA:=HAH.out
  rw [if_neg h01] at hA
  subst hA
  clear h01
  go_wp2
  go_meet
  case rel=>exact ⟨rfl,H2.out,Frm.refl _ _⟩
 case rest =>
 obtain ⟨rfl,h3,f3⟩:=hcut
 have H3:=hid h3
 have F3:=hid (F2.out.trans f3)
 clear d0 d1 d2 d3 d4 d5 d6 H2 F2 HCL f3
 obtain ⟨d0,d1,d2,d3,d4,d5,d6⟩:=h3.cells
 obtain ⟨ab',off',e9,hcell⟩:=h3.byte (by omega)
 injection e9 with e9
 injection e9 with e8 e7
 subst e8;subst e7
 have HCL:=hid hcell
 obtain ⟨r0,hr0⟩:∃ r,rep 0=r:=⟨_,rfl⟩
 obtain ⟨r1,hr1⟩:∃ r1,r0+1=r1:=⟨_,rfl⟩
 have hrb:=HREP.out
 rw [hr0] at d6 hrb
 have hr1i:(r0:Int)+1=(r1:Int):=by omega
 have hr0w:IntKind.i64.wrap (r0:Int)=(r0:Int):=Go.IntWalk.i64_in _ (by omega)
 have hr1w:IntKind.i64.wrap (r1:Int)=(r1:Int):=Go.IntWalk.i64_in _ (by omega)
 have hFF:=HFA.out
 rw [hr0,hr1] at hFF
 have HF1:=hid hFF
 have hr1p:1≤r1:=by omega
 clear h3 hcell hr0 hr1 hrb HFA hFF
 go_upto_region 7 with fail
 go_cut [69] from 70 (fun v wx=>v=.bool (decide (r1≤pos))∧wx=wc)
 case first =>
  go_wp2
  go_meet
  case rel=>exact ⟨by first | rfl | (congr 1;rw [decide_eq_decide];omega),rfl⟩
 case rest =>
 obtain ⟨rfl,hwx⟩:=hcut
 obtain ⟨w2,hw2⟩:∃ w2,w2=wc:=⟨_,rfl⟩
 subst hw2
 subst hwx
 go_upto_if 69 with fail
 go_cut [5] from 69 (fun v wx=>v=.int .u8 FA∧WrAt O wx k g (some ⟨ab,off,none⟩) c bs shift pos st rep s1∧Frm (WZ k O g) w2 wx)
 case first =>
  by_cases h01:r1≤pos
  ·have hdt:decide (r1≤pos)=true:=decide_eq_true h01
   have hA:=HF1.out
   rw [if_pos h01] at hA
   obtain ⟨q,hq⟩:∃ q,pos-r1=q:=⟨_,rfl⟩
   rw [hq] at hA
   have hqi:(pos:Int)-(r1:Int)=(q:Int):=by omega
   have hqw:IntKind.i64.wrap (q:Int)=(q:Int):=Go.IntWalk.i64_in _ (by omega)
   have hcq:=HCL.out q (by omega)
   rw [hA] at hcq
   have hqb:q<bs.length:=by omega
   simp only [hdt]
   clear hA h01 hq hdt
   go_wp2
   go_quiet (fail)
   have H4:=hid (H3.out.drewN nq)
   have F4:Hid (Frm (WZ k O g) w2 (w2.drewN nq)):=hid ((Frm.refl _ w2).drewN nq)
   go_wp2
   go_meet
   case rel=>exact ⟨rfl,H4.out,F4.out⟩
  have hdt:decide (r1≤pos)=false:=decide_eq_false h01
  have hA:=HF1.out
  rw [if_neg h01] at hA
  subst hA
  simp only [hdt]
  clear h01 hdt
  go_wp2
  go_meet
  case rel=>exact ⟨rfl,H3.out,Frm.refl _ _⟩
 case rest =>
 obtain ⟨rfl,h4,f4⟩:=hcut
 have H4:=hid h4
 have F4:=hid (F3.out.trans f4)
 clear d0 d1 d2 d3 d4 d5 d6 H3 F3 HCL f4
 obtain ⟨d0,d1,d2,d3,d4,d5,d6⟩:=h4.cells
 obtain ⟨ab',off',e9,hcell⟩:=h4.byte (by omega)
 injection e9 with e9
 injection e9 with e8 e7
 subst e8;subst e7
 have hcx:=hcell pos hpos
 rw [HX.out] at hcx
 have HD:=hid h4.drew
 have hXw:IntKind.i64.wrap (X:Int)=(X:Int):=Go.IntWalk.i64_in _ (by omega)
 clear h4 hcell
 go_upto_region 9 with fail
 go_cut [102] from 103 (fun v wx=>WrAt O wx k g (some ⟨ab,off,none⟩) c bs shift pos st rep s2∧Frm (WZ k O g) w wx)
 case first =>
  go_region_with (first
   | (go_at_call 106;refine (lit_in g.eb O 136 k st tot AH FA rep s1 _ HD.out.lz HK.out ht hah hfa X hXb (by have:=HC.out;omega)).mono ?_;rintro e w3 ⟨rfl,h3,f3⟩;rw [HS2.out] at h3))
  all_goals
   have H5:=hid (HD.out.lzStep h3 f3)
   have F5:=hid ((F4.out.drew).trans (f3.mono fun q _ e=>.inl e))
   clear h3 f3
   go_wp2
   go_meet
   case rel=>exact ⟨H5.out,F5.out⟩
 case rest =>
 obtain ⟨h5,f5⟩:=hcut
 have H5:=hid h5
 have F5:=hid f5
 clear d0 d1 d2 d3 d4 d5 d6 hcx H4 F4 HD h5 f5
 go_wp2_with fail
 refine (behind_any (IC.keep g.eb O) 136 k st 0 rep s2 _ H5.out.lz hst (by omega)).mono ?_;rintro e w7 ⟨rfl,h7,f7⟩
 have H7:=hid (H5.out.lzStep h7 f7)
 have F7:=hid (F5.out.trans (f7.mono fun q _ e=>.inl e))
 clear h7 f7
 obtain ⟨q0,q1,q2,q3,-,-,-⟩:=H7.out.cells
 have z3:=H7.out.p.frozen 3
 obtain ⟨p1,hp1⟩:∃ p1,pos+1=p1:=⟨_,rfl⟩
 have hp1i:(pos:Int)+1=(p1:Int):=by omega
 have hp1w:IntKind.i64.wrap (p1:Int)=(p1:Int):=Go.IntWalk.i64_in _ (by omega)
 have HM:=hid (H7.out.move p1)
 have HP1:=hid hp1
 clear hp1
 go_wp2
 go_end0
 refine ⟨rfl,?_,F7.out.trans HM.out.2⟩
 rw [HP1.out]
 exact HM.out.1
open Go.RowKit Rng Win Lz
def idxOf (rep:Nat→Nat) (d:Nat):Nat:=if rep 0=d then 0 else if rep 1=d then 1 else if rep 2=d then 2 else if rep 3=d then 3 else 4
theorem idxOf_le (rep:Nat→Nat) (d:Nat):idxOf rep d≤4:=by unfold idxOf;repeat' split
                                                         all_goals omega
theorem idxOf_rep {rep:Nat→Nat} {d:Nat} (h:idxOf rep d<4):rep (idxOf rep d)=d:=by
 unfold idxOf at h ⊢
 split
 ·assumption
 split
 ·assumption
 split
 ·assumption
 split
 ·assumption
 rename_i h0 h1 h2 h3
 rw [if_neg h0,if_neg h1,if_neg h2,if_neg h3] at h
 omega
def putRep {σ:Type} (co:Cod σ) (st p size j:Nat) (s:CP σ):CP σ :=
 let a:=(bitAt co (212+st) (if j=0 then 0 else 1) s).2
 let b:=if j=0 then (bitAt co (248+st*16+p) 1 a).2
  else
   let c:=(bitAt co (224+st) (if j=1 then 0 else 1) a).2
   if j=1 then c else (bitAt co (236+st) (j-2) c).2
 (lenAt co 1354 size p b).2
def putMatch (k:LK) (tot size d st:Nat) (rep:Nat→Nat) (s:CP Enc):Nat×(Nat→Nat)×CP Enc :=
 let p:=tot % 2 ^ k.pb
 let s1:=(bitAt inC (8+st*16+p) 1 s).2
 let j:=idxOf rep d
 if j=4 then
  let s2:=(bitAt inC (200+st) 0 s1).2
  let s3:=(lenAt inC 840 size p s2).2
  (behS st 1,(fun i=>if i=0 then d else shiftN rep 3 i),(distAt inC d size s3).2)
 else
  let s2:=(bitAt inC (200+st) 1 s1).2
  (behS st 2,(if j=0 then rep else takeS rep j),putRep inC st p size j s2)
open Go.RowKit Rng Lz Win
def idxV (j:Nat):Int:=if j=4 then -1 else j
set_option maxRecDepth 100000 in
set_option maxHeartbeats 1000000 in
theorem sindex_p (w:World) (b c0:Nat) (rep:Nat→Nat) (d:Nat) (hcell:∀ j,j<4→w.cell? ⟨b,4+j,none⟩=some (.int .u32 (rep j:Int))) (hd:d<4294967296) :
 Calls Tryz.prog 108 #[.slice (some ⟨b,4,none⟩) 4 c0,.int .u32 d] w fun e w'=>e=.returned (.int .i64 (idxV (idxOf rep d)))∧w=w':=by
 obtain ⟨J,hJ⟩:∃ J,idxOf rep d=J:=⟨_,rfl⟩
 rw [hJ]
 have HC:=hid hcell
 have HJ:=hid hJ
 clear hcell hJ
 go_enter Tryz.func108,Tryz.ntmps108
 go_wp2
 go_loopw [8] (fun iv wr=>∃ i:Nat,iv=.int .i64 i∧i≤4∧wr=w∧∀ j,j<i→rep j≠d) (fun iv _=>4-(intOf iv).toNat)
 case atStart=>exact ⟨0,rfl,by omega,by first | trivial | rfl,fun j hj=>by omega⟩
 case round =>
 obtain ⟨i,rfl,hi,hwr,hne⟩:=hrel
 subst hwr
 have HNE:=hid hne
 clear hne
 by_cases hlt:i<4
 ·have hc:=HC.out i hlt
  obtain ⟨r,hr⟩:∃ r,rep i=r:=⟨_,rfl⟩
  rw [hr] at hc
  by_cases he:d=r
  ·subst he
   have hv:J=i:=by
    rw [← HJ.out]
    have h0:=HNE.out
    unfold idxOf
    have a:i=0∨i=1∨i=2∨i=3:=by omega
    rcases a with rfl | rfl | rfl | rfl
    ·rw [if_pos hr]
    ·rw [if_neg (h0 0 (by omega)),if_pos hr]
    ·rw [if_neg (h0 0 (by omega)),if_neg (h0 1 (by omega)),if_pos hr]
    rw [if_neg (h0 0 (by omega)),if_neg (h0 1 (by omega)),if_neg (h0 2 (by omega)),if_pos hr]
   have hvi:idxV J=(i:Int):=by rw [hv];unfold idxV;rw [if_neg (by omega)]
   have HVI:=hid hvi
   clear hv hvi hr
   go_wp2
   go_ret
   exact ⟨ret_int' HVI.out.symm,rfl⟩
  have hei:((d:Int)==(r:Int))=false:=by rw [beq_eq_false_iff_ne];omega
  have HNR:Hid (rep i≠d):=hid (by rw [hr];exact fun e=>he e.symm)
  clear he hr
  go_wp2
  refine ⟨⟨i+1,by go_num,by omega,by first | trivial | rfl,fun j hj=>?_⟩,by simp [intOf];omega⟩
  by_cases hji:j=i
  ·rw [hji];exact HNR.out
  exact HNE.out j (by omega)
 obtain rfl:i=4:=by omega
 have hv:J=4:=by
  rw [← HJ.out]
  have h0:=HNE.out
  unfold idxOf
  rw [if_neg (h0 0 (by omega)),if_neg (h0 1 (by omega)),if_neg (h0 2 (by omega)),if_neg (h0 3 (by omega))]
 have hvi:idxV J = -1:=by rw [hv];rfl
 have HVI:=hid hvi
 clear hv hvi
 go_wp2
 go_ret
 exact ⟨ret_int' HVI.out.symm,rfl⟩
open Go.RowKit Rng Lz Win
theorem IC.narrow {b:Nat} {O:Nat→Prop} {w w':World} {e:Enc} (h:IC b O w e) (hf:Frm (fun _=>False) w w') (E:Nat→Prop) (hE:∀ q,E q→w.heap.size≤q∧q<w'.heap.size):IC b (fun q=>O q∧¬ E q) w' e:=by
 obtain ⟨⟨v,hv,hvo⟩,hb,hz,hi⟩:=h
 have hbl:=hv.p.lt
 refine ⟨⟨v,⟨hv.p.frm hf id,hv.o.frm hf (fun q hq=>id),hv.k⟩,fun q hq=>⟨hvo q hq,fun e=>?_⟩⟩,⟨hb,fun e=>by have:=(hE b e).1;omega⟩,fun q hq=>⟨hz q (Nat.le_trans hf.size hq),fun e=>by have:=(hE q e).2;omega⟩,hi⟩
 have h1:=(hE q e).1
 rcases hv.o.form with ⟨e2,_⟩ | ⟨g,cap,cur,e2,_,hp,_⟩
 ·rw [e2] at hq;cases hq
 rw [e2] at hq
 have hq':g=q:=by simpa [Value.ownBlock] using hq
 have:g<w.heap.size:=Pts.lt hp
 omega
theorem WrAt.narrow {O:Nat→Prop} {w w':World} {k:LK} {g:WB} {A:Option Addr} {c:Nat} {bs:List UInt8} {shift:Int} {pos st:Nat} {rep:Nat→Nat} {s:CP Enc} (h:WrAt O w k g A c bs shift pos st rep s) (hf:Frm (fun _=>False) w w') (E:Nat→Prop) (hE:∀ q,E q→w.heap.size≤q∧q<w'.heap.size):WrAt (fun q=>O q∧¬ E q) w' k g A c bs shift pos st rep s:=by
 have h':=h.lzStep (h.lz.later (IC.keep _ _) hf) (hf.mono fun _ _ e=>e.elim)
 refine ⟨⟨h.lz.c.narrow hf E hE,h'.lz.m,h'.lz.l,h'.lz.fit,fun e=>h'.lz.ne.1 e.1,fun e=>h'.lz.ne.2.1 e.1,h'.lz.ne.2.2⟩,h'.p,h'.r,?_,fun e=>h'.x e.1⟩
 intro h0 ad e hz2
 refine h.off h0 ad e ?_
 rcases hz2 with (e1 | e1) | e1
 ·exact .inl (.inl e1.1)
 ·exact .inl (.inr e1)
 exact .inr e1
theorem WrAt.widen {O O':Nat→Prop} {w w':World} {k:LK} {g:WB} {A:Option Addr} {c:Nat} {bs:List UInt8} {shift shift':Int} {pos st pos' st':Nat} {rep rep':Nat→Nat} {s s':CP Enc} (h:WrAt O' w' k g A c bs shift' pos' st' rep' s') (h0:WrAt O w k g A c bs shift pos st rep s) (hs:∀ q,O' q→O q) (hz:w.heap.size≤w'.heap.size):WrAt O w' k g A c bs shift' pos' st' rep' s':=by
 obtain ⟨⟨v,hv,hvo⟩,hb,_,hi⟩:=h.lz.c
 exact ⟨⟨⟨⟨v,hv,fun q hq=>hs q (hvo q hq)⟩,hs _ hb,fun q hq=>h0.lz.c.2.2.1 q (Nat.le_trans hz hq),hi⟩,h.lz.m,h.lz.l,h.lz.fit,h0.lz.ne⟩,h.p,h.r,h0.off,h0.x⟩
structure MAt (O:Nat→Prop) (w:World) (k:LK) (g:WB) (b3 b6:Nat) (A:Option Addr) (c:Nat) (bs:List UInt8) (shift:Int) (pos:Nat) (st:Nat) (rep:Nat→Nat) (s:CP Enc):Prop where
 m:WrAt O w k g A c bs shift pos st rep s
 p3:Pts w b3 #[.pointer (some ⟨g.xb,0,none⟩)] 152
 p6:Pts w b6 #[.pointer (some ⟨k.sb,0,none⟩)] 153
 o3:¬ O b3
 o6:¬ O b6
section
variable {O : Nat → Prop} {w w' : World} {k : LK} {g : WB} {b3 b6 : Nat} {A : Option Addr} {c : Nat} {bs : List UInt8} {shift : Int} {pos st : Nat} {rep : Nat → Nat} {s : CP Enc}
theorem MAt.lzStep {st':Nat} {rep':Nat→Nat} {s':CP Enc} (h:MAt O w k g b3 b6 A c bs shift pos st rep s) (hl:LzAt (IC g.eb O) O 136 w' k st' rep' s') (hf:Frm (Wr O k) w w'):MAt O w' k g b3 b6 A c bs shift pos st' rep' s':=by
 refine ⟨h.m.lzStep hl hf,h.p3.frm hf ?_,h.p6.frm hf ?_,h.o3,h.o6⟩
 ·rintro (e | e | e)
  ·exact h.o3 e
  ·exact h.p3.ne_of h.m.lz.m (by decide) e
  exact h.p3.ne_of h.m.lz.l (by decide) e
 rintro (e | e | e)
 ·exact h.o6 e
 ·exact h.p6.ne_of h.m.lz.m (by decide) e
 exact h.p6.ne_of h.m.lz.l (by decide) e
theorem MAt.drewN (h:MAt O w k g b3 b6 A c bs shift pos st rep s) (n:Nat):MAt O (w.drewN n) k g b3 b6 A c bs shift pos st rep s:=h.lzStep (h.m.lz.later (IC.keep _ _) ((Frm.refl _ w).drewN n)) ((Frm.refl _ w).drewN n)
theorem MAt.drew (h:MAt O w k g b3 b6 A c bs shift pos st rep s):MAt O w.drew k g b3 b6 A c bs shift pos st rep s:=h.lzStep (h.m.lz.later (IC.keep _ _) ((Frm.refl _ w).drew)) ((Frm.refl _ w).drew)
theorem MAt.cells (h:MAt O w k g b3 b6 A c bs shift pos st rep s):w.cell? ⟨b3,0,none⟩=some (.pointer (some ⟨g.xb,0,none⟩))∧w.cell? ⟨b6,0,none⟩=some (.pointer (some ⟨k.sb,0,none⟩))∧w.cell? ⟨g.xb,1,none⟩=some (.pointer (some ⟨g.eb,0,none⟩)) ∧
 w.cell? ⟨g.xb,3,none⟩=some (.int .i64 pos)∧w.cell? ⟨g.xb,4,none⟩=some (.int .i64 shift)∧w.cell? ⟨k.sb,3,none⟩=some (.int .i64 st)∧w.cell? ⟨g.xb,0,none⟩=some (.pointer (some ⟨k.sb,0,none⟩)):=by
 obtain ⟨d0,d1,-,d3,d4,d5,-⟩:=h.m.cells
 exact ⟨by rw [h.p3.cell];rfl,by rw [h.p6.cell];rfl,d1,d3,d4,d5,d0⟩
end
theorem MAt.narrow {O:Nat→Prop} {w w':World} {k:LK} {g:WB} {b3 b6:Nat} {A:Option Addr} {c:Nat} {bs:List UInt8} {shift:Int} {pos st:Nat} {rep:Nat→Nat} {s:CP Enc} (h:MAt O w k g b3 b6 A c bs shift pos st rep s) (hf:Frm (fun _=>False) w w') (E:Nat→Prop) (hE:∀ q,E q→w.heap.size≤q∧q<w'.heap.size):MAt (fun q=>O q∧¬ E q) w' k g b3 b6 A c bs shift pos st rep s :=
 ⟨h.m.narrow hf E hE,h.p3.frm hf id,h.p6.frm hf id,fun e=>h.o3 e.1,fun e=>h.o6 e.1⟩
theorem MAt.widen {O O':Nat→Prop} {w w':World} {k:LK} {g:WB} {b3 b6:Nat} {A:Option Addr} {c:Nat} {bs:List UInt8} {shift shift':Int} {pos st pos' st':Nat} {rep rep':Nat→Nat} {s s':CP Enc} (h:MAt O' w' k g b3 b6 A c bs shift' pos' st' rep' s') (h0:MAt O w k g b3 b6 A c bs shift pos st rep s) (hs:∀ q,O' q→O q) (hz:w.heap.size≤w'.heap.size):MAt O w' k g b3 b6 A c bs shift' pos' st' rep' s' :=
 ⟨h.m.widen h0.m hs hz,h.p3,h.p6,h0.o3,h0.o6⟩
def bitsIn (st:Nat):Nat→List Nat→CP Enc→CP Enc
 | _,[],s=>s
 | i,x::l,s=>bitsIn st (i+1) l (bitAt inC (212+i*12+st) x s).2
set_option maxRecDepth 100000 in
set_option maxHeartbeats 1000000 in
theorem bits_p (O:Nat→Prop) (w:World) (k:LK) (g:WB) (b3 b6:Nat) (A:Option Addr) (c:Nat) (bs:List UInt8) (shift:Int) (pos st:Nat) (rep:Nat→Nat) (s:CP Enc) (h:MAt O w k g b3 b6 A c bs shift pos st rep s) (hst:st<12)
 (bl c0:Nat) (l:List Nat) (hl:l.length≤3) (hl1:∀ j,j<l.length→l.getD j 0≤1) (hcell:∀ j,j<l.length→w.cell? ⟨bl,j,none⟩=some (.int .i64 (l.getD j 0:Int))) (hbl:¬ Wr O k bl) (hc:s.d.cnt+3<1000000) :
 Calls Tryz.prog 109 #[.slice (some ⟨bl,0,none⟩) l.length c0,.pointer (some ⟨b3,0,none⟩),.pointer (some ⟨b6,0,none⟩)] w fun e w'=>e=.returned (.tuple #[])∧MAt O w' k g b3 b6 A c bs shift pos st rep (bitsIn st 0 l s)∧Frm (Wr O k) w w':=by
 obtain ⟨R,hR⟩:∃ R,bitsIn st 0 l s=R:=⟨_,rfl⟩
 rw [hR]
 have hbw:0<l.length→bl<w.heap.size:=fun h0=>World.block_lt_of_cell? w ⟨bl,0,none⟩ (hcell 0 h0)
 obtain ⟨n,hn⟩:∃ n,l.length=n:=⟨_,rfl⟩
 have HH:=hid h
 have HR:=hid hR
 have HCELL:=hid hcell
 have HL1:=hid hl1
 have HN:=hid hn
 have HBL:=hid (And.intro hbl hbw)
 have hn3:n≤3:=by omega
 have hc':=hc
 have HCN:=hid hc'
 have hsti:(st:Int)<12:=by omega
 rw [hn]
 clear h hR hcell hl1 hl hbl hbw hc hc' hn
 go_enter Tryz.func109,Tryz.ntmps109
 go_wp2
 go_loopw [8] (fun iv wr=>∃ (i:Nat) (s':CP Enc),iv=.int .i64 i∧i≤n∧bitsIn st i (l.drop i) s'=R∧MAt O wr k g b3 b6 A c bs shift pos st rep s'∧s'.d.cnt+(3-i)<1000000∧Frm (Wr O k) w wr) (fun iv _=>n-(intOf iv).toNat)
 case atStart=>exact ⟨0,s,rfl,by omega,HR.out,HH.out,HCN.out,Frm.refl _ _⟩
 case round =>
 obtain ⟨i,s',rfl,hi,hgo,hm,hcn,hf⟩:=hrel
 have HGO:=hid hgo
 have HM:=hid hm
 have HC:=hid hcn
 have HF:=hid hf
 obtain ⟨d0,d1,d2,-,-,d5,-⟩:=hm.cells
 clear hgo hm hcn hf HH
 by_cases hlt:i<n
 ·have hil:i<l.length:=by have:=HN.out;omega
  have hcx:wr.cell? ⟨bl,i,none⟩=some (.int .i64 (l.getD i 0:Int)):=by
   rw [World.cell?_of_block (HF.out.block bl (HBL.out.2 (by omega)) HBL.out.1)]
   exact HCELL.out i hil
  obtain ⟨x,hx⟩:∃ x,l.getD i 0=x:=⟨_,rfl⟩
  have hx1:x≤1:=by rw [← hx];exact HL1.out i hil
  have hdrop:l.drop i=x::l.drop (i+1):=by
   rw [List.drop_eq_getElem_cons hil,← hx,List.getD_eq_getElem?_getD,List.getElem?_eq_getElem hil]
   rfl
  rw [hx] at hcx
  obtain ⟨s2,hs2⟩:∃ s2,(bitAt inC (212+i*12+st) x s').2=s2:=⟨_,rfl⟩
  have hgo2:bitsIn st (i+1) (l.drop (i+1)) s2=R:=by
   have h:=HGO.out
   rw [hdrop] at h
   unfold bitsIn at h
   rw [hs2] at h
   exact h
  have hc2:s2.d.cnt≤s'.d.cnt+1:=by rw [← hs2];exact cnt_bitIn1 _ _ _
  have HG2:=hid hgo2
  have HS2:=hid hs2
  have HC2:=hid hc2
  have P0:=hid (plm k (i:=212+i*12+st) (by omega) (by omega))
  have HD:=hid (HM.out.drew)
  have hi3:(i:Int)<3:=by omega
  clear hx hdrop hs2 hgo2 hc2 hil HGO
  go_wp2
  go_still_tail 15,(by kernel_rfl)
  change wpList _ _ _ _ _ wr.drew
  go_wp2_with fail
  refine (ibit_lz HD.out.m.lz (by have:=HC.out;omega) (212+i*12+st) k.sb (212+i*12+st) x x rfl hx1 P0.out.1 P0.out.2).mono ?_;rintro e w2 ⟨rfl,h2,f2⟩
  rw [HS2.out] at h2
  have H2:=hid (HD.out.lzStep h2 f2)
  have F2:=hid ((HF.out.drew).trans f2)
  clear h2 f2 d0 d1 d2 d5 hcx hx1 hsti hi3
  go_wp2
  exact ⟨⟨i+1,s2,by go_num,by omega,HG2.out,H2.out,by have:=HC.out;have:=HC2.out;omega,F2.out⟩,by simp [intOf];omega⟩
 obtain rfl:i=n:=by omega
 have HE:Hid (s'=R):=hid (by have:=HGO.out;rw [← HN.out,List.drop_length] at this;exact this)
 clear d0 d1 d2 d5
 go_wp2
 go_end0
 exact ⟨rfl,HE.out▸HM.out,HF.out⟩
open Go.RowKit Rng Lz Win
theorem two_boxes {O:Nat→Prop} {w:World} {k:LK} {g:WB} {A:Option Addr} {c:Nat} {bs:List UInt8} {shift:Int} {pos st:Nat} {rep:Nat→Nat} {s:CP Enc} (h:WrAt O w k g A c bs shift pos st rep s) :
 MAt (fun q=>O q∧¬ (q=w.heap.size∨q=w.heap.size+1)) ((w.alloc (.cells #[.pointer (some ⟨g.xb,0,none⟩)] 152)).alloc (.cells #[.pointer (some ⟨k.sb,0,none⟩)] 153)) k g w.heap.size (w.heap.size+1) A c bs shift pos st rep s ∧
  Frm (fun _=>False) w ((w.alloc (.cells #[.pointer (some ⟨g.xb,0,none⟩)] 152)).alloc (.cells #[.pointer (some ⟨k.sb,0,none⟩)] 153)):=by
 obtain ⟨p0,p1,_,hs⟩:=two_new w (.pointer (some ⟨g.xb,0,none⟩)) (.pointer (some ⟨k.sb,0,none⟩)) 152 153
 have hf:Frm (fun _=>False) w ((w.alloc (.cells #[.pointer (some ⟨g.xb,0,none⟩)] 152)).alloc (.cells #[.pointer (some ⟨k.sb,0,none⟩)] 153)):=((Frm.refl _ w).alloc _).alloc _
 exact ⟨⟨h.narrow hf (fun q=>q=w.heap.size∨q=w.heap.size+1) (fun q hq=>by rcases hq with e | e <;> omega),p0,p1,fun e=>e.2 (.inl rfl),fun e=>e.2 (.inr rfl)⟩,hf⟩
theorem LzAt.rep_cell {σ:Type} {CA:World→σ→Prop} {own:Nat→Prop} {T:TypeId} {w:World} {k:LK} {st:Nat} {rep:Nat→Nat} {s:CP σ} (h:LzAt CA own T w k st rep s) {j:Nat} (hj:j<4):w.cell? ⟨k.sb,4+j,none⟩=some (.int .u32 (rep j:Int)):=by
 rw [(h.hdr (i:=4+j) (by omega)).1]
 unfold mcell
 rw [if_neg (by omega),if_neg (by omega),if_neg (by omega),if_neg (by omega),if_pos (by omega),Nat.add_sub_cancel_left]
theorem index_num (w:World) (b c0:Nat) (rep:Nat→Nat) (d:Nat) (z:Int) (hz:idxV (idxOf rep d)=z) (hcell:∀ j,j<4→w.cell? ⟨b,4+j,none⟩=some (.int .u32 (rep j:Int))) (hd:d<4294967296) :
 Calls Tryz.prog 108 #[.slice (some ⟨b,4,none⟩) 4 c0,.int .u32 d] w fun e w'=>e=.returned (.int .i64 z)∧w=w':=by
 subst hz
 exact sindex_p w b c0 rep d hcell hd
theorem takeS_zero (rep:Nat→Nat):takeS rep 0=rep:=by
 funext j
 unfold takeS shiftN
 by_cases h:j=0
 ·rw [if_pos h,h]
 rw [if_neg h,if_neg (by omega)]
set_option maxRecDepth 100000 in
set_option maxHeartbeats 1000000 in
theorem take_zero {σ:Type} {CA:World→σ→Prop} {own:Nat→Prop} (hk:KeepOK CA own) (T:TypeId) (k:LK) (st:Nat) (rep:Nat→Nat) (s:CP σ) (w:World) (h:LzAt CA own T w k st rep s) :
 Calls Tryz.prog 112 #[.pointer (some ⟨k.sb,0,none⟩),.int .i64 0] w fun e w'=>e=.returned (.tuple #[])∧LzAt CA own T w' k st (takeS rep 0) s∧Frm (Wr own k) w w':=by
 have cn:w.cell? ⟨k.sb,4,none⟩=some (.int .u32 (rep 0)):=h.rep_cell (j:=0) (by omega)
 have AT:=hid h
 obtain ⟨d,hd⟩:∃ d,rep 0=d:=⟨_,rfl⟩
 rw [hd] at cn
 have HD:=hid hd
 clear h hd
 go_enter Tryz.func112,Tryz.ntmps112
 go_wp2
 refine QTail.wp_region_qtail_lit 11 (by kernel_rfl) (by kernel_rfl) ?_
 simp only [List.take_succ_cons,List.take_zero,List.drop_succ_cons,List.drop_zero]
 repeat (go_big_quiet_step (fail))
 refine wpQuiet_nil ?_
 rintro w' ⟨nr,rfl⟩
 obtain ⟨w5,hrun,h5,f5⟩:=rep_copy hk (AT.out.later hk ((Frm.refl _ w).drewN nr)) 0 3 4 3 (by omega)
 have z:=(h5.hdr (i:=4) (by omega))
 unfold mcell at z
 have z1:=z.1
 have z2:=z.2
 simp only [Nat.reduceEqDiff,if_false,Nat.reduceLT,if_true,Nat.reduceSub] at z1
 have h6:=h5.putRep 0 d (by omega) hk
 have e6:(fun j=>if j=0 then d else shiftN rep 0 j)=takeS rep 0:=by
  funext j
  unfold takeS
  rw [HD.out]
 rw [e6] at h6
 have H6:=hid h6
 have F5:=hid (((Frm.refl _ w).drewN nr).trans f5)
 clear h5 f5 h6 z e6
 go_wp2
 go_end0
 exact ⟨rfl,H6.out.1,F5.out.trans H6.out.2⟩
theorem take_num {σ:Type} {CA:World→σ→Prop} {own:Nat→Prop} (hk:KeepOK CA own) (T:TypeId) (k:LK) (st n:Nat) (z:Int) (rep:Nat→Nat) (s:CP σ) (w:World) (hz:z=(n:Int)) (h:LzAt CA own T w k st rep s) (hn:n≤3) :
 Calls Tryz.prog 112 #[.pointer (some ⟨k.sb,0,none⟩),.int .i64 z] w fun e w'=>e=.returned (.tuple #[])∧LzAt CA own T w' k st (takeS rep n) s∧Frm (Wr own k) w w':=by
 subst hz
 by_cases h0:n=0
 ·subst h0
  exact take_zero hk T k st rep s w h
 exact take_any hk T k st n rep s w h (by omega)
theorem cnt_bits (st:Nat):∀ (i:Nat) (l:List Nat) (s:CP Enc),l.length≤3→(bitsIn st i l s).d.cnt≤s.d.cnt+3
 | i,[],s,_=>by unfold bitsIn;omega
 | i,[a],s,_=>by unfold bitsIn bitsIn;have:=cnt_bitIn1 (212+i*12+st) a s;omega
 | i,[a,b],s,_=>by
  unfold bitsIn bitsIn bitsIn
  have h1:=cnt_bitIn1 (212+i*12+st) a s
  have h2:=cnt_bitIn1 (212+(i+1)*12+st) b (bitAt inC (212+i*12+st) a s).2
  omega
 | i,[a,b,c],s,_=>by
  unfold bitsIn bitsIn bitsIn bitsIn
  have h1:=cnt_bitIn1 (212+i*12+st) a s
  have h2:=cnt_bitIn1 (212+(i+1)*12+st) b (bitAt inC (212+i*12+st) a s).2
  have h3:=cnt_bitIn1 (212+(i+1+1)*12+st) c (bitAt inC (212+(i+1)*12+st) b (bitAt inC (212+i*12+st) a s).2).2
  omega
 | i,_::_::_::_::_,s,h=>absurd h (by simp)
def litCells (l:List Nat):Array Value:=(l.map fun x:Nat=>Value.int .i64 (x:Int)).toArray
theorem litCells_get (l:List Nat) {j:Nat} (h:j<l.length):(litCells l)[j]?=some (.int .i64 (l.getD j 0:Int)):=by
 unfold litCells
 rw [List.getElem?_toArray,List.getElem?_map,List.getElem?_eq_getElem h,List.getD_eq_getElem?_getD,List.getElem?_eq_getElem h]
 rfl
theorem bits_lit (O:Nat→Prop) (w:World) (k:LK) (g:WB) (b3 b6:Nat) (A:Option Addr) (c:Nat) (bs:List UInt8) (shift:Int) (pos st:Nat) (rep:Nat→Nat) (s:CP Enc) (h:MAt O w k g b3 b6 A c bs shift pos st rep s) (hst:st<12)
 (l:List Nat) (hl:l.length≤3) (hl1:∀ x∈l,x≤1) (hc:s.d.cnt+3<1000000) :
 Calls Tryz.prog 109 #[.slice (some ⟨w.heap.size,0,none⟩) l.length l.length,.pointer (some ⟨b3,0,none⟩),.pointer (some ⟨b6,0,none⟩)] (w.alloc (.cells (litCells l) 3)) fun e w'=>e=.returned (.tuple #[])∧MAt O w' k g b3 b6 A c bs shift pos st rep (bitsIn st 0 l s)∧Frm (Wr O k) w w':=by
 have hf:Frm (fun _=>False) w (w.alloc (.cells (litCells l) 3)):=(Frm.refl _ w).alloc _
 have hsz:(w.alloc (.cells (litCells l) 3)).heap.size=w.heap.size+1:=by show (w.heap.push _).size=_;rw [Array.size_push]
 have h1:=h.narrow hf (fun q=>q=w.heap.size) (fun q e=>by omega)
 have hp:=Pts.new w (litCells l) 3
 refine (bits_p (fun q=>O q∧¬ q=w.heap.size) (w.alloc (.cells (litCells l) 3)) k g b3 b6 A c bs shift pos st rep s h1 hst w.heap.size l.length l hl (fun j hj=>by
  rw [List.getD_eq_getElem?_getD,List.getElem?_eq_getElem hj]
  exact hl1 _ (List.getElem_mem hj)) (fun j hj=>by rw [hp.cell,litCells_get l hj]) (by
  rintro (e | e | e)
  ·exact e.2 rfl
  ·have:=h.m.lz.m.lt;omega
  have:=h.m.lz.l.lt;omega) hc).mono ?_
 rintro e w' ⟨rfl,h2,f2⟩
 refine ⟨rfl,h2.widen h (fun q hq=>hq.1) (by have:=f2.size;omega),(hf.mono fun _ _ e=>e.elim).trans (f2.mono fun q _ e=>?_)⟩
 rcases e with e | e
 ·exact .inl e.1
 exact .inr e
end Go.Proofs.YtffehfpbdcokbaaGreat
