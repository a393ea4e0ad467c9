import Derived.Test.YtffehfpbdcokbaaGreatBu34
set_option linter.unusedVariables false
set_option linter.unusedSimpArgs false
namespace Go.Proofs.YtffehfpbdcokbaaGreat
open Lib (hid)
open Go.RowKit Rng Lz Win
set_option maxRecDepth 100000 in
set_option maxHeartbeats 4000000 in
theorem putmatch_fresh (O:Nat→Prop) (w:World) (k:LK) (g:WB) (A:Option Addr) (c:Nat) (bs:List UInt8) (shift:Int) (pos tot st:Nat) (rep:Nat→Nat) (s:CP Enc) (h:WrAt O w k g A c bs shift pos st rep s) (hk:k.Ok) (htot:(pos:Int)+shift=(tot:Int)) (ht:tot<4611686018427387904)
 (size back d:Nat) (h2:2≤size) (hs:size≤273) (hbd:back=d+1) (hd:d<4294967296) (hpos:pos+size≤140737488355328) (hst:st<12) (hrep:∀ j,rep j<4294967296) (hc:s.d.cnt+100<1000000) (hj:idxOf rep d=4) :
 Calls Tryz.prog 76 #[.pointer (some ⟨g.xb,0,none⟩),.int .i64 size,.int .i64 back] w fun e w'=>e=.returned (.tuple #[])∧WrAt O w' k g A c bs shift (pos+size) (putMatch k tot size d st rep s).1 (putMatch k tot size d st rep s).2.1 (putMatch k tot size d st rep s).2.2∧Frm (WZ k O g) w w':=by
 obtain ⟨p,hp⟩:∃ p,tot % 2 ^ k.pb=p:=⟨_,rfl⟩
 have hp16:p<16:=by
  have h1:2 ^ k.pb≤2 ^ 4:=Nat.pow_le_pow_right (by omega) hk.b
  have h2:tot % 2 ^ k.pb<2 ^ k.pb:=Nat.mod_lt _ (Nat.lt_of_lt_of_le (by omega) (Nat.one_le_two_pow))
  omega
 obtain ⟨s1,hs1⟩:∃ s1,(bitAt inC (8+st*16+p) 1 s).2=s1:=⟨_,rfl⟩
 have hc1:s1.d.cnt≤s.d.cnt+1:=by rw [← hs1];exact cnt_bitIn1 _ _ _
 obtain ⟨s2,hs2⟩:∃ s2,(bitAt inC (200+st) 0 s1).2=s2:=⟨_,rfl⟩
 have hc2:s2.d.cnt≤s1.d.cnt+1:=by rw [← hs2];exact cnt_bitIn1 _ _ _
 obtain ⟨s3,hs3⟩:∃ s3,(lenAt inC 840 size p s2).2=s3:=⟨_,rfl⟩
 have hc3:s3.d.cnt≤s2.d.cnt+10:=by rw [← hs3];exact cnt_len _ _ _ _
 obtain ⟨s4,hs4⟩:∃ s4,(distAt inC d size s3).2=s4:=⟨_,rfl⟩
 obtain ⟨rep4,hrep4⟩:∃ r:Nat→Nat,(fun i=>if i=0 then d else shiftN rep 3 i)=r:=⟨_,rfl⟩
 have hput:putMatch k tot size d st rep s=(behS st 1,rep4,s4):=by unfold putMatch;simp only;rw [hp,hs1,hs2,hs3,hs4,hrep4,if_pos hj]
 have HS2:=hid hs2
 have HS3:=hid hs3
 have HS4:=hid hs4
 have HR4:=hid hrep4
 have HPUT:=hid hput
 have HH:=hid h
 have HB:=hid (two_boxes h)
 have hXO:=h.x
 have e0:(w.alloc (.cells #[.pointer (some ⟨g.xb,0,none⟩)] 152)).cell? ⟨g.xb,0,none⟩=some (.pointer (some ⟨k.sb,0,none⟩)):=(h.alloc _).cells.1
 have HPL:=hid (fun (w1:World) (O1:Nat→Prop) (h1:LzAt (IC g.eb O1) O1 136 w1 k st rep s)=>place_any 136 k st tot rep s w1 h1 hk ht)
 rw [hp] at HPL
 have P0:=hid (plm k (i:=8+st*16+p) (by omega) (by omega))
 have P1:=hid (plm k (i:=200+st) (by omega) (by omega))
 have HS1:=hid hs1
 have HREP:=hid hrep
 have HK:=hid hk
 have hsti:(st:Int)<12:=by omega
 have hpi:(p:Int)<16:=by omega
 have htw:IntKind.i64.wrap (tot:Int)=(tot:Int):=Go.IntWalk.i64_in _ (by omega)
 have hbk:(back:Int)-1=(d:Int):=by omega
 have hdw:IntKind.i64.wrap (d:Int)=(d:Int):=Go.IntWalk.i64_in _ (by omega)
 have hdu:IntKind.u32.wrap (d:Int)=(d:Int):=Go.IntWalk.u32_in _ (by omega)
 obtain ⟨pe,hpe⟩:∃ pe,pos+size=pe:=⟨_,rfl⟩
 have hpei:(pos:Int)+(size:Int)=(pe:Int):=by omega
 have hpew:IntKind.i64.wrap (pe:Int)=(pe:Int):=Go.IntWalk.i64_in _ (by omega)
 have hzi:idxV (idxOf rep d) = -1:=by rw [hj];rfl
 have HZ:=hid hzi
 have HDB:=hid hd
 rw [hput,hpe]
 clear h hk ht hrep hp hbd hd hpos hpe hj hzi hput hs1 hs2 hs3 hs4 hrep4
 have HC:=hid (And.intro hc (And.intro hc1 (And.intro hc2 hc3)))
 clear hc hc1 hc2 hc3
 go_enter Tryz.func76,Tryz.ntmps76
 go_upto_region 2 with fail
 obtain ⟨w2,hw2⟩:∃ w2,(w.alloc (.cells #[.pointer (some ⟨g.xb,0,none⟩)] 152)).alloc (.cells #[.pointer (some ⟨k.sb,0,none⟩)] 153)=w2:=⟨_,rfl⟩
 obtain ⟨b6,hb6⟩:∃ b,w.heap.size+1=b:=⟨_,rfl⟩
 obtain ⟨b3,hb3⟩:∃ b,w.heap.size=b:=⟨_,rfl⟩
 obtain ⟨O2,hO2⟩:∃ O2:Nat→Prop,(fun q=>O q∧¬ (q=b3∨q=b6))=O2:=⟨_,rfl⟩
 have hB:=HB.out
 have HO2:Hid (∀ q,O2 q→O q):=hid (fun q hq=>by rw [← hO2] at hq;exact hq.1)
 rw [hw2,hb6,hb3,hO2] at hB
 rw [hw2,hb6,hb3]
 have H2:=hid hB.1
 have F20:=hid hB.2
 have F2:Hid (Frm (Wr O2 k) w2 w2):=hid (Frm.refl _ _)
 clear hB HB e0 hw2 hb6 hb3 hO2
 obtain ⟨c3,c6,x1,x3,x4,y3,x0⟩:=H2.out.cells
 have HD:=hid H2.out.drew
 have FD:Hid (Frm (Wr O2 k) w2 w2.drew):=hid (F2.out.drew)
 go_still_tail 10,(by kernel_rfl)
 change wpList _ _ _ _ _ w2.drew
 go_wp2_with fail
 refine (HPL.out _ _ HD.out.m.lz).mono ?_;rintro e w3 ⟨rfl,rfl⟩
 have H3:=hid HD.out
 have F3:=hid FD.out
 obtain ⟨w3,hw3⟩:∃ w3,w2.drew=w3:=⟨_,rfl⟩
 rw [hw3] at H3 F3 ⊢
 clear HD FD H2 F2 hw3 htot htw HPL
 clear c3 c6 x1 x3 x4 y3 x0
 obtain ⟨c3,c6,x1,x3,x4,y3,x0⟩:=H3.out.cells
 go_upto_region 3 with fail
 have HD:=hid H3.out.drew
 have FD:Hid (Frm (Wr O2 k) w2 w3.drew):=hid (F3.out.drew)
 go_still_tail 14,(by kernel_rfl)
 change wpList _ _ _ _ _ w3.drew
 go_wp2_with fail
 refine (ibit_lz HD.out.m.lz (by have:=HC.out;omega) (8+st*16+p) k.sb (8+st*16+p) 1 _ rfl (by omega) P0.out.1 P0.out.2).mono ?_;rintro e w4 ⟨rfl,h0,f0⟩
 rw [HS1.out] at h0
 have H4:=hid (HD.out.lzStep h0 f0)
 have F4:=hid (FD.out.trans f0)
 clear h0 f0 HD FD H3 F3
 clear c3 c6 x1 x3 x4 y3 x0
 obtain ⟨c3,c6,x1,x3,x4,y3,x0⟩:=H4.out.cells
 go_wp2_with fail
 refine (index_num w4 k.sb 4 rep d _ HZ.out (fun j hj=>(H4.out.m.lz.rep_cell hj)) HDB.out).mono ?_;rintro e w5 ⟨rfl,hw5⟩
 subst hw5
 go_upto_region 10 with fail
 have HD:=hid H4.out.drew
 have FD:Hid (Frm (Wr O2 k) w2 w4.drew):=hid (F4.out.drew)
 go_still_tail 12,(by kernel_rfl)
 change wpList _ _ _ _ _ w4.drew
 go_wp2_with fail
 refine (ibit_lz HD.out.m.lz (by have:=HC.out;omega) (200+st) k.sb (200+st) 0 _ rfl (by omega) P1.out.1 P1.out.2).mono ?_;rintro e w5 ⟨rfl,h0,f0⟩
 rw [HS2.out] at h0
 have H5:=hid (HD.out.lzStep h0 f0)
 have F5:=hid (FD.out.trans f0)
 clear h0 f0 HD FD H4 F4
 clear c3 c6 x1 x3 x4 y3 x0
 obtain ⟨c3,c6,x1,x3,x4,y3,x0⟩:=H5.out.cells
 go_upto_region 11 with fail
 refine QTail.wp_region_qtail_lit 8 (by kernel_rfl) (by kernel_rfl) ?_
 simp only [List.take_succ_cons,List.take_zero,List.drop_succ_cons,List.drop_zero]
 repeat (go_big_quiet_step (fail))
 refine wpQuiet_nil ?_
 rintro w' ⟨nr,rfl⟩
 have HD:=hid (H5.out.drewN nr)
 have FD:Hid (Frm (Wr O2 k) w2 (w5.drewN nr)):=hid (F5.out.drewN nr)
 obtain ⟨w6,hrun,h6,f6⟩:=rep_copy (IC.keep g.eb O2) HD.out.m.lz 3 3 4 3 (by omega)
 have H6:=hid (HD.out.lzStep h6 f6)
 have F6:=hid (FD.out.trans f6)
 clear h6 f6 HD FD H5 F5
 clear c3 c6 x1 x3 x4 y3 x0
 obtain ⟨c3,c6,x1,x3,x4,y3,x0⟩:=H6.out.cells
 have y4:=(H6.out.m.lz.hdr (i:=4) (by omega)).2
 have v4:w6.cell? ⟨k.sb,4,none⟩=some (.int .u32 (shiftN rep 3 0:Int)):=H6.out.m.lz.rep_cell (j:=0) (by omega)
 have h7:=H6.out.m.lz.putRep 0 d (by omega) (IC.keep g.eb O2)
 rw [HR4.out] at h7
 have H7:=hid (H6.out.lzStep h7.1 h7.2)
 have F7:=hid (F6.out.trans h7.2)
 clear h7
 go_upto_region 13 with fail
 clear hrun y4 v4
 generalize w6.setCell ⟨k.sb,4,none⟩ (.int .u32 (d:Int))=w7 at *
 clear H6 F6
 clear c3 c6 x1 x3 x4 y3 x0
 obtain ⟨c3,c6,x1,x3,x4,y3,x0⟩:=H7.out.cells
 have HD:=hid H7.out.drew
 have FD:Hid (Frm (Wr O2 k) w2 w7.drew):=hid (F7.out.drew)
 go_still_tail 10,(by kernel_rfl)
 change wpList _ _ _ _ _ w7.drew
 go_wp2_with fail
 refine (lens_in g.eb O2 136 k _ _ _ 840 size p _ HD.out.m.lz (.inl rfl) hp16 h2 hs (by have:=HC.out;omega)).mono ?_;rintro e w8 ⟨rfl,h0,f0⟩
 rw [HS3.out] at h0
 have H8:=hid (HD.out.lzStep h0 f0)
 have F8:=hid (FD.out.trans f0)
 clear h0 f0 HD FD H7 F7
 clear c3 c6 x1 x3 x4 y3 x0
 obtain ⟨c3,c6,x1,x3,x4,y3,x0⟩:=H8.out.cells
 go_wp2_with fail
 have HD:=H8
 have FD:=F8
 refine (behind_any (IC.keep g.eb O2) 136 k st 1 _ _ _ HD.out.m.lz hst (by omega)).mono ?_;rintro e w9 ⟨rfl,h0,f0⟩
 have H9:=hid (HD.out.lzStep h0 f0)
 have F9:=hid (FD.out.trans f0)
 clear h0 f0 HD FD H8 F8
 clear c3 c6 x1 x3 x4 y3 x0
 obtain ⟨c3,c6,x1,x3,x4,y3,x0⟩:=H9.out.cells
 go_upto_region 15 with fail
 have HD:=hid H9.out.drew
 have FD:Hid (Frm (Wr O2 k) w2 w9.drew):=hid (F9.out.drew)
 go_still_tail 10,(by kernel_rfl)
 change wpList _ _ _ _ _ w9.drew
 go_wp2_with fail
 refine (dist_in g.eb O2 136 k (behS st 1) rep4 s3 d size _ HD.out.m.lz h2 (by omega) HDB.out (by have:=HC.out;omega)).mono ?_;rintro e w10 ⟨rfl,h0,f0⟩
 rw [HS4.out] at h0
 have H10:=hid (HD.out.lzStep h0 f0)
 have F10:=hid (FD.out.trans f0)
 clear h0 f0 HD FD H9 F9
 clear c3 c6 x1 x3 x4 y3 x0
 obtain ⟨c3,c6,x1,x3,x4,y3,x0⟩:=H10.out.cells
 have z3:=H10.out.m.p.frozen 3
 have HMV:=hid (H10.out.m.move pe)
 go_wp2
 refine bodyPost_ret (results_none rfl _ _ _) rfl ?_
 refine ⟨rfl,?_,?_⟩
 ·exact HMV.out.1.widen HH.out HO2.out (Nat.le_trans F20.out.size (Nat.le_trans F10.out.size HMV.out.2.size))
 refine (F20.out.mono fun q _ e=>e.elim).trans ((F10.out.mono fun q _ e=>?_).trans (HMV.out.2.mono fun q _ e=>?_))
 ·rcases e with e | e
  ·exact .inl (.inl (HO2.out q e))
  exact .inl (.inr e)
 rcases e with (e | e) | e
 ·exact .inl (.inl (HO2.out q e))
 ·exact .inl (.inr e)
 exact .inr e
open Go.RowKit Rng Lz Win
set_option maxRecDepth 100000 in
set_option maxHeartbeats 4000000 in
theorem putmatch_zero (O:Nat→Prop) (w:World) (k:LK) (g:WB) (A:Option Addr) (c:Nat) (bs:List UInt8) (shift:Int) (pos tot st:Nat) (rep:Nat→Nat) (s:CP Enc) (h:WrAt O w k g A c bs shift pos st rep s) (hk:k.Ok) (htot:(pos:Int)+shift=(tot:Int)) (ht:tot<4611686018427387904)
 (size back d:Nat) (h2:2≤size) (hs:size≤273) (hbd:back=d+1) (hd:d<4294967296) (hpos:pos+size≤140737488355328) (hst:st<12) (hrep:∀ j,rep j<4294967296) (hc:s.d.cnt+100<1000000) (hj:idxOf rep d=0) :
 Calls Tryz.prog 76 #[.pointer (some ⟨g.xb,0,none⟩),.int .i64 size,.int .i64 back] w fun e w'=>e=.returned (.tuple #[])∧WrAt O w' k g A c bs shift (pos+size) (putMatch k tot size d st rep s).1 (putMatch k tot size d st rep s).2.1 (putMatch k tot size d st rep s).2.2∧Frm (WZ k O g) w w':=by
 obtain ⟨p,hp⟩:∃ p,tot % 2 ^ k.pb=p:=⟨_,rfl⟩
 have hp16:p<16:=by
  have h1:2 ^ k.pb≤2 ^ 4:=Nat.pow_le_pow_right (by omega) hk.b
  have h2:tot % 2 ^ k.pb<2 ^ k.pb:=Nat.mod_lt _ (Nat.lt_of_lt_of_le (by omega) (Nat.one_le_two_pow))
  omega
 obtain ⟨s1,hs1⟩:∃ s1,(bitAt inC (8+st*16+p) 1 s).2=s1:=⟨_,rfl⟩
 have hc1:s1.d.cnt≤s.d.cnt+1:=by rw [← hs1];exact cnt_bitIn1 _ _ _
 obtain ⟨s2,hs2⟩:∃ s2,(bitAt inC (200+st) 1 s1).2=s2:=⟨_,rfl⟩
 have hc2:s2.d.cnt≤s1.d.cnt+1:=by rw [← hs2];exact cnt_bitIn1 _ _ _
 obtain ⟨s3,hs3⟩:∃ s3,bitsIn st 0 [0] s2=s3:=⟨_,rfl⟩
 have hc3:s3.d.cnt≤s2.d.cnt+3:=by rw [← hs3];exact cnt_bits _ _ _ _ (by simp)
 obtain ⟨s4,hs4⟩:∃ s4,(bitAt inC (248+st*16+p) 1 s3).2=s4:=⟨_,rfl⟩
 have hc4:s4.d.cnt≤s3.d.cnt+1:=by rw [← hs4];exact cnt_bitIn1 _ _ _
 obtain ⟨s5,hs5⟩:∃ s5,(lenAt inC 1354 size p s4).2=s5:=⟨_,rfl⟩
 have hput:putMatch k tot size d st rep s=(behS st 2,takeS rep 0,s5):=by
  unfold putMatch putRep;simp only;rw [hp,hs1,hj,if_neg (by omega),hs2,if_pos rfl,if_pos rfl,if_pos rfl,takeS_zero]
  have e:(bitAt inC (212+st) 0 s2).2=s3:=by rw [← hs3];unfold bitsIn bitsIn;rw [show 212+0*12+st=212+st by omega]
  rw [e,hs4,hs5]
 have HS2:=hid hs2
 have HS3:=hid hs3
 have HS4:=hid hs4
 have HS5:=hid hs5
 have HPUT:=hid hput
 have HH:=hid h
 have HB:=hid (two_boxes h)
 have hXO:=h.x
 have e0:(w.alloc (.cells #[.pointer (some ⟨g.xb,0,none⟩)] 152)).cell? ⟨g.xb,0,none⟩=some (.pointer (some ⟨k.sb,0,none⟩)):=(h.alloc _).cells.1
 have HPL:=hid (fun (w1:World) (O1:Nat→Prop) (h1:LzAt (IC g.eb O1) O1 136 w1 k st rep s)=>place_any 136 k st tot rep s w1 h1 hk ht)
 rw [hp] at HPL
 have P0:=hid (plm k (i:=8+st*16+p) (by omega) (by omega))
 have P1:=hid (plm k (i:=200+st) (by omega) (by omega))
 have P2:=hid (plm k (i:=248+st*16+p) (by omega) (by omega))
 have HS1:=hid hs1
 have HREP:=hid hrep
 have HK:=hid hk
 have hsti:(st:Int)<12:=by omega
 have hpi:(p:Int)<16:=by omega
 have htw:IntKind.i64.wrap (tot:Int)=(tot:Int):=Go.IntWalk.i64_in _ (by omega)
 have hbk:(back:Int)-1=(d:Int):=by omega
 have hdw:IntKind.i64.wrap (d:Int)=(d:Int):=Go.IntWalk.i64_in _ (by omega)
 have hdu:IntKind.u32.wrap (d:Int)=(d:Int):=Go.IntWalk.u32_in _ (by omega)
 obtain ⟨pe,hpe⟩:∃ pe,pos+size=pe:=⟨_,rfl⟩
 have hpei:(pos:Int)+(size:Int)=(pe:Int):=by omega
 have hpew:IntKind.i64.wrap (pe:Int)=(pe:Int):=Go.IntWalk.i64_in _ (by omega)
 have hzi:idxV (idxOf rep d)=0:=by rw [hj];rfl
 have HZ:=hid hzi
 have HDB:=hid hd
 rw [hput,hpe]
 clear h hk ht hrep hp hbd hd hpos hpe hj hzi hput hs1 hs2 hs3 hs4 hs5
 have HC:=hid (And.intro hc (And.intro hc1 (And.intro hc2 (And.intro hc3 hc4))))
 clear hc hc1 hc2 hc3 hc4
 go_enter Tryz.func76,Tryz.ntmps76
 go_upto_region 2 with fail
 obtain ⟨w2,hw2⟩:∃ w2,(w.alloc (.cells #[.pointer (some ⟨g.xb,0,none⟩)] 152)).alloc (.cells #[.pointer (some ⟨k.sb,0,none⟩)] 153)=w2:=⟨_,rfl⟩
 obtain ⟨b6,hb6⟩:∃ b,w.heap.size+1=b:=⟨_,rfl⟩
 obtain ⟨b3,hb3⟩:∃ b,w.heap.size=b:=⟨_,rfl⟩
 obtain ⟨O2,hO2⟩:∃ O2:Nat→Prop,(fun q=>O q∧¬ (q=b3∨q=b6))=O2:=⟨_,rfl⟩
 have hB:=HB.out
 have HO2:Hid (∀ q,O2 q→O q):=hid (fun q hq=>by rw [← hO2] at hq;exact hq.1)
 rw [hw2,hb6,hb3,hO2] at hB
 rw [hw2,hb6,hb3]
 have H2:=hid hB.1
 have F20:=hid hB.2
 have F2:Hid (Frm (Wr O2 k) w2 w2):=hid (Frm.refl _ _)
 clear hB HB e0 hw2 hb6 hb3 hO2
 obtain ⟨c3,c6,x1,x3,x4,y3,x0⟩:=H2.out.cells
 have HD:=hid H2.out.drew
 have FD:Hid (Frm (Wr O2 k) w2 w2.drew):=hid (F2.out.drew)
 go_still_tail 10,(by kernel_rfl)
 change wpList _ _ _ _ _ w2.drew
 go_wp2_with fail
 refine (HPL.out _ _ HD.out.m.lz).mono ?_;rintro e w3 ⟨rfl,rfl⟩
 have H3:=hid HD.out
 have F3:=hid FD.out
 obtain ⟨w3,hw3⟩:∃ w3,w2.drew=w3:=⟨_,rfl⟩
 rw [hw3] at H3 F3 ⊢
 clear HD FD H2 F2 hw3 htot htw HPL
 clear c3 c6 x1 x3 x4 y3 x0
 obtain ⟨c3,c6,x1,x3,x4,y3,x0⟩:=H3.out.cells
 go_upto_region 3 with fail
 have HD:=hid H3.out.drew
 have FD:Hid (Frm (Wr O2 k) w2 w3.drew):=hid (F3.out.drew)
 go_still_tail 14,(by kernel_rfl)
 change wpList _ _ _ _ _ w3.drew
 go_wp2_with fail
 refine (ibit_lz HD.out.m.lz (by have:=HC.out;omega) (8+st*16+p) k.sb (8+st*16+p) 1 _ rfl (by omega) P0.out.1 P0.out.2).mono ?_;rintro e w4 ⟨rfl,h0,f0⟩
 rw [HS1.out] at h0
 have H4:=hid (HD.out.lzStep h0 f0)
 have F4:=hid (FD.out.trans f0)
 clear h0 f0 HD FD H3 F3
 clear c3 c6 x1 x3 x4 y3 x0
 obtain ⟨c3,c6,x1,x3,x4,y3,x0⟩:=H4.out.cells
 go_wp2_with fail
 refine (index_num w4 k.sb 4 rep d _ HZ.out (fun j hj=>(H4.out.m.lz.rep_cell hj)) HDB.out).mono ?_;rintro e w5 ⟨rfl,hw5⟩
 subst hw5
 go_upto_region 18 with fail
 have HD:=hid H4.out.drew
 have FD:Hid (Frm (Wr O2 k) w2 w4.drew):=hid (F4.out.drew)
 go_still_tail 12,(by kernel_rfl)
 change wpList _ _ _ _ _ w4.drew
 go_wp2_with fail
 refine (ibit_lz HD.out.m.lz (by have:=HC.out;omega) (200+st) k.sb (200+st) 1 _ rfl (by omega) P1.out.1 P1.out.2).mono ?_;rintro e w5 ⟨rfl,h0,f0⟩
 rw [HS2.out] at h0
 have H5:=hid (HD.out.lzStep h0 f0)
 have F5:=hid (FD.out.trans f0)
 clear h0 f0 HD FD H4 F4
 clear c3 c6 x1 x3 x4 y3 x0
 obtain ⟨c3,c6,x1,x3,x4,y3,x0⟩:=H5.out.cells
 go_wp2_with fail
 refine (bits_lit O2 w5 k g b3 b6 A c bs shift pos st rep s2 H5.out hst [0] (by simp) (by simp) (by have:=HC.out;omega)).mono ?_;rintro e w6 ⟨rfl,h0,f0⟩
 rw [HS3.out] at h0
 have H6:=hid h0
 have F6:=hid (F5.out.trans f0)
 clear h0 f0 H5 F5
 clear c3 c6 x1 x3 x4 y3 x0
 obtain ⟨c3,c6,x1,x3,x4,y3,x0⟩:=H6.out.cells
 go_upto_region 20 with fail
 have HD:=hid H6.out.drew
 have FD:Hid (Frm (Wr O2 k) w2 w6.drew):=hid (F6.out.drew)
 go_still_tail 14,(by kernel_rfl)
 change wpList _ _ _ _ _ w6.drew
 go_wp2_with fail
 refine (ibit_lz HD.out.m.lz (by have:=HC.out;omega) (248+st*16+p) k.sb (248+st*16+p) 1 _ rfl (by omega) P2.out.1 P2.out.2).mono ?_;rintro e w7 ⟨rfl,h0,f0⟩
 rw [HS4.out] at h0
 have H7:=hid (HD.out.lzStep h0 f0)
 have F7:=hid (FD.out.trans f0)
 clear h0 f0 HD FD H6 F6
 clear c3 c6 x1 x3 x4 y3 x0
 obtain ⟨c3,c6,x1,x3,x4,y3,x0⟩:=H7.out.cells
 go_wp2_with fail
 have HD:=H7
 have FD:=F7
 refine (take_num (IC.keep g.eb O2) 136 k st 0 _ rep _ _ (by first | rfl | omega) HD.out.m.lz (by first | omega | (have:=HJ.out;omega))).mono ?_;rintro e w8 ⟨rfl,h0,f0⟩
 have H8:=hid (HD.out.lzStep h0 f0)
 have F8:=hid (FD.out.trans f0)
 clear h0 f0 HD FD H7 F7
 clear c3 c6 x1 x3 x4 y3 x0
 obtain ⟨c3,c6,x1,x3,x4,y3,x0⟩:=H8.out.cells
 go_upto_region 25 with fail
 have HD:=hid H8.out.drew
 have FD:Hid (Frm (Wr O2 k) w2 w8.drew):=hid (F8.out.drew)
 go_still_tail 10,(by kernel_rfl)
 change wpList _ _ _ _ _ w8.drew
 go_wp2_with fail
 refine (lens_in g.eb O2 136 k _ _ _ 1354 size p _ HD.out.m.lz (.inr rfl) hp16 h2 hs (by have:=HC.out;omega)).mono ?_;rintro e w9 ⟨rfl,h0,f0⟩
 rw [HS5.out] at h0
 have H9:=hid (HD.out.lzStep h0 f0)
 have F9:=hid (FD.out.trans f0)
 clear h0 f0 HD FD H8 F8
 clear c3 c6 x1 x3 x4 y3 x0
 obtain ⟨c3,c6,x1,x3,x4,y3,x0⟩:=H9.out.cells
 go_wp2_with fail
 have HD:=H9
 have FD:=F9
 refine (behind_any (IC.keep g.eb O2) 136 k st 2 _ _ _ HD.out.m.lz hst (by omega)).mono ?_;rintro e w10 ⟨rfl,h0,f0⟩
 have H10:=hid (HD.out.lzStep h0 f0)
 have F10:=hid (FD.out.trans f0)
 clear h0 f0 HD FD H9 F9
 clear c3 c6 x1 x3 x4 y3 x0
 obtain ⟨c3,c6,x1,x3,x4,y3,x0⟩:=H10.out.cells
 have z3:=H10.out.m.p.frozen 3
 have HMV:=hid (H10.out.m.move pe)
 go_wp2
 go_end0
 refine ⟨rfl,?_,?_⟩
 ·exact HMV.out.1.widen HH.out HO2.out (Nat.le_trans F20.out.size (Nat.le_trans F10.out.size HMV.out.2.size))
 refine (F20.out.mono fun q _ e=>e.elim).trans ((F10.out.mono fun q _ e=>?_).trans (HMV.out.2.mono fun q _ e=>?_))
 ·rcases e with e | e
  ·exact .inl (.inl (HO2.out q e))
  exact .inl (.inr e)
 rcases e with (e | e) | e
 ·exact .inl (.inl (HO2.out q e))
 ·exact .inl (.inr e)
 exact .inr e
open Go.RowKit Rng Lz Win
set_option maxRecDepth 100000 in
set_option maxHeartbeats 4000000 in
theorem putmatch_one (O:Nat→Prop) (w:World) (k:LK) (g:WB) (A:Option Addr) (c:Nat) (bs:List UInt8) (shift:Int) (pos tot st:Nat) (rep:Nat→Nat) (s:CP Enc) (h:WrAt O w k g A c bs shift pos st rep s) (hk:k.Ok) (htot:(pos:Int)+shift=(tot:Int)) (ht:tot<4611686018427387904)
 (size back d:Nat) (h2:2≤size) (hs:size≤273) (hbd:back=d+1) (hd:d<4294967296) (hpos:pos+size≤140737488355328) (hst:st<12) (hrep:∀ j,rep j<4294967296) (hc:s.d.cnt+100<1000000) (hj:idxOf rep d=1) :
 Calls Tryz.prog 76 #[.pointer (some ⟨g.xb,0,none⟩),.int .i64 size,.int .i64 back] w fun e w'=>e=.returned (.tuple #[])∧WrAt O w' k g A c bs shift (pos+size) (putMatch k tot size d st rep s).1 (putMatch k tot size d st rep s).2.1 (putMatch k tot size d st rep s).2.2∧Frm (WZ k O g) w w':=by
 obtain ⟨p,hp⟩:∃ p,tot % 2 ^ k.pb=p:=⟨_,rfl⟩
 have hp16:p<16:=by
  have h1:2 ^ k.pb≤2 ^ 4:=Nat.pow_le_pow_right (by omega) hk.b
  have h2:tot % 2 ^ k.pb<2 ^ k.pb:=Nat.mod_lt _ (Nat.lt_of_lt_of_le (by omega) (Nat.one_le_two_pow))
  omega
 obtain ⟨s1,hs1⟩:∃ s1,(bitAt inC (8+st*16+p) 1 s).2=s1:=⟨_,rfl⟩
 have hc1:s1.d.cnt≤s.d.cnt+1:=by rw [← hs1];exact cnt_bitIn1 _ _ _
 obtain ⟨s2,hs2⟩:∃ s2,(bitAt inC (200+st) 1 s1).2=s2:=⟨_,rfl⟩
 have hc2:s2.d.cnt≤s1.d.cnt+1:=by rw [← hs2];exact cnt_bitIn1 _ _ _
 obtain ⟨s4,hs4⟩:∃ s4,bitsIn st 0 [1,0] s2=s4:=⟨_,rfl⟩
 have hc4:s4.d.cnt≤s2.d.cnt+3:=by rw [← hs4];exact cnt_bits _ _ _ _ (by simp)
 obtain ⟨s5,hs5⟩:∃ s5,(lenAt inC 1354 size p s4).2=s5:=⟨_,rfl⟩
 have hput:putMatch k tot size d st rep s=(behS st 2,takeS rep 1,s5):=by
  unfold putMatch putRep;simp only;rw [hp,hs1,hj,if_neg (by omega),hs2];simp only [if_neg (show ¬ (1:Nat)=0 by omega),if_pos]
  have e:(bitAt inC (224+st) 0 (bitAt inC (212+st) 1 s2).2).2=s4:=by rw [← hs4];unfold bitsIn bitsIn bitsIn;rw [show 212+0*12+st=212+st by omega,show 212+(0+1)*12+st=224+st by omega]
  rw [e,hs5]
 have HS2:=hid hs2
 have HS4:=hid hs4
 have HS5:=hid hs5
 have HPUT:=hid hput
 have HH:=hid h
 have HB:=hid (two_boxes h)
 have hXO:=h.x
 have e0:(w.alloc (.cells #[.pointer (some ⟨g.xb,0,none⟩)] 152)).cell? ⟨g.xb,0,none⟩=some (.pointer (some ⟨k.sb,0,none⟩)):=(h.alloc _).cells.1
 have HPL:=hid (fun (w1:World) (O1:Nat→Prop) (h1:LzAt (IC g.eb O1) O1 136 w1 k st rep s)=>place_any 136 k st tot rep s w1 h1 hk ht)
 rw [hp] at HPL
 have P0:=hid (plm k (i:=8+st*16+p) (by omega) (by omega))
 have P1:=hid (plm k (i:=200+st) (by omega) (by omega))
 have HS1:=hid hs1
 have HREP:=hid hrep
 have HK:=hid hk
 have hsti:(st:Int)<12:=by omega
 have hpi:(p:Int)<16:=by omega
 have htw:IntKind.i64.wrap (tot:Int)=(tot:Int):=Go.IntWalk.i64_in _ (by omega)
 have hbk:(back:Int)-1=(d:Int):=by omega
 have hdw:IntKind.i64.wrap (d:Int)=(d:Int):=Go.IntWalk.i64_in _ (by omega)
 have hdu:IntKind.u32.wrap (d:Int)=(d:Int):=Go.IntWalk.u32_in _ (by omega)
 obtain ⟨pe,hpe⟩:∃ pe,pos+size=pe:=⟨_,rfl⟩
 have hpei:(pos:Int)+(size:Int)=(pe:Int):=by omega
 have hpew:IntKind.i64.wrap (pe:Int)=(pe:Int):=Go.IntWalk.i64_in _ (by omega)
 have hzi:idxV (idxOf rep d)=1:=by rw [hj];rfl
 have HZ:=hid hzi
 have HDB:=hid hd
 rw [hput,hpe]
 clear h hk ht hrep hp hbd hd hpos hpe hj hzi hput hs1 hs2 hs4 hs5
 have HC:=hid (And.intro hc (And.intro hc1 (And.intro hc2 hc4)))
 clear hc hc1 hc2 hc4
 go_enter Tryz.func76,Tryz.ntmps76
 go_upto_region 2 with fail
 obtain ⟨w2,hw2⟩:∃ w2,(w.alloc (.cells #[.pointer (some ⟨g.xb,0,none⟩)] 152)).alloc (.cells #[.pointer (some ⟨k.sb,0,none⟩)] 153)=w2:=⟨_,rfl⟩
 obtain ⟨b6,hb6⟩:∃ b,w.heap.size+1=b:=⟨_,rfl⟩
 obtain ⟨b3,hb3⟩:∃ b,w.heap.size=b:=⟨_,rfl⟩
 obtain ⟨O2,hO2⟩:∃ O2:Nat→Prop,(fun q=>O q∧¬ (q=b3∨q=b6))=O2:=⟨_,rfl⟩
 have hB:=HB.out
 have HO2:Hid (∀ q,O2 q→O q):=hid (fun q hq=>by rw [← hO2] at hq;exact hq.1)
 rw [hw2,hb6,hb3,hO2] at hB
 rw [hw2,hb6,hb3]
 have H2:=hid hB.1
 have F20:=hid hB.2
 have F2:Hid (Frm (Wr O2 k) w2 w2):=hid (Frm.refl _ _)
 clear hB HB e0 hw2 hb6 hb3 hO2
 obtain ⟨c3,c6,x1,x3,x4,y3,x0⟩:=H2.out.cells
 have HD:=hid H2.out.drew
 have FD:Hid (Frm (Wr O2 k) w2 w2.drew):=hid (F2.out.drew)
 go_still_tail 10,(by kernel_rfl)
 change wpList _ _ _ _ _ w2.drew
 go_wp2_with fail
 refine (HPL.out _ _ HD.out.m.lz).mono ?_;rintro e w3 ⟨rfl,rfl⟩
 have H3:=hid HD.out
 have F3:=hid FD.out
 obtain ⟨w3,hw3⟩:∃ w3,w2.drew=w3:=⟨_,rfl⟩
 rw [hw3] at H3 F3 ⊢
 clear HD FD H2 F2 hw3 htot htw HPL
 clear c3 c6 x1 x3 x4 y3 x0
 obtain ⟨c3,c6,x1,x3,x4,y3,x0⟩:=H3.out.cells
 go_upto_region 3 with fail
 have HD:=hid H3.out.drew
 have FD:Hid (Frm (Wr O2 k) w2 w3.drew):=hid (F3.out.drew)
 go_still_tail 14,(by kernel_rfl)
 change wpList _ _ _ _ _ w3.drew
 go_wp2_with fail
 refine (ibit_lz HD.out.m.lz (by have:=HC.out;omega) (8+st*16+p) k.sb (8+st*16+p) 1 _ rfl (by omega) P0.out.1 P0.out.2).mono ?_;rintro e w4 ⟨rfl,h0,f0⟩
 rw [HS1.out] at h0
 have H4:=hid (HD.out.lzStep h0 f0)
 have F4:=hid (FD.out.trans f0)
 clear h0 f0 HD FD H3 F3
 clear c3 c6 x1 x3 x4 y3 x0
 obtain ⟨c3,c6,x1,x3,x4,y3,x0⟩:=H4.out.cells
 go_wp2_with fail
 refine (index_num w4 k.sb 4 rep d _ HZ.out (fun j hj=>(H4.out.m.lz.rep_cell hj)) HDB.out).mono ?_;rintro e w5 ⟨rfl,hw5⟩
 subst hw5
 go_upto_region 22 with fail
 have HD:=hid H4.out.drew
 have FD:Hid (Frm (Wr O2 k) w2 w4.drew):=hid (F4.out.drew)
 go_still_tail 12,(by kernel_rfl)
 change wpList _ _ _ _ _ w4.drew
 go_wp2_with fail
 refine (ibit_lz HD.out.m.lz (by have:=HC.out;omega) (200+st) k.sb (200+st) 1 _ rfl (by omega) P1.out.1 P1.out.2).mono ?_;rintro e w5 ⟨rfl,h0,f0⟩
 rw [HS2.out] at h0
 have H5:=hid (HD.out.lzStep h0 f0)
 have F5:=hid (FD.out.trans f0)
 clear h0 f0 HD FD H4 F4
 clear c3 c6 x1 x3 x4 y3 x0
 obtain ⟨c3,c6,x1,x3,x4,y3,x0⟩:=H5.out.cells
 go_wp2_with fail
 refine (bits_lit O2 w5 k g b3 b6 A c bs shift pos st rep s2 H5.out hst [1,0] (by simp) (by simp) (by have:=HC.out;omega)).mono ?_;rintro e w6 ⟨rfl,h0,f0⟩
 rw [HS4.out] at h0
 have H6:=hid h0
 have F6:=hid (F5.out.trans f0)
 clear h0 f0 H5 F5
 clear c3 c6 x1 x3 x4 y3 x0
 obtain ⟨c3,c6,x1,x3,x4,y3,x0⟩:=H6.out.cells
 go_wp2_with fail
 have HD:=H6
 have FD:=F6
 refine (take_num (IC.keep g.eb O2) 136 k st 1 _ rep _ _ (by first | rfl | omega) HD.out.m.lz (by first | omega | (have:=HJ.out;omega))).mono ?_;rintro e w7 ⟨rfl,h0,f0⟩
 have H7:=hid (HD.out.lzStep h0 f0)
 have F7:=hid (FD.out.trans f0)
 clear h0 f0 HD FD H6 F6
 clear c3 c6 x1 x3 x4 y3 x0
 obtain ⟨c3,c6,x1,x3,x4,y3,x0⟩:=H7.out.cells
 go_upto_region 25 with fail
 have HD:=hid H7.out.drew
 have FD:Hid (Frm (Wr O2 k) w2 w7.drew):=hid (F7.out.drew)
 go_still_tail 10,(by kernel_rfl)
 change wpList _ _ _ _ _ w7.drew
 go_wp2_with fail
 refine (lens_in g.eb O2 136 k _ _ _ 1354 size p _ HD.out.m.lz (.inr rfl) hp16 h2 hs (by have:=HC.out;omega)).mono ?_;rintro e w8 ⟨rfl,h0,f0⟩
 rw [HS5.out] at h0
 have H8:=hid (HD.out.lzStep h0 f0)
 have F8:=hid (FD.out.trans f0)
 clear h0 f0 HD FD H7 F7
 clear c3 c6 x1 x3 x4 y3 x0
 obtain ⟨c3,c6,x1,x3,x4,y3,x0⟩:=H8.out.cells
 go_wp2_with fail
 have HD:=H8
 have FD:=F8
 refine (behind_any (IC.keep g.eb O2) 136 k st 2 _ _ _ HD.out.m.lz hst (by omega)).mono ?_;rintro e w9 ⟨rfl,h0,f0⟩
 have H9:=hid (HD.out.lzStep h0 f0)
 have F9:=hid (FD.out.trans f0)
 clear h0 f0 HD FD H8 F8
 clear c3 c6 x1 x3 x4 y3 x0
 obtain ⟨c3,c6,x1,x3,x4,y3,x0⟩:=H9.out.cells
 have z3:=H9.out.m.p.frozen 3
 have HMV:=hid (H9.out.m.move pe)
 go_wp2
 go_end0
 refine ⟨rfl,?_,?_⟩
 ·exact HMV.out.1.widen HH.out HO2.out (Nat.le_trans F20.out.size (Nat.le_trans F9.out.size HMV.out.2.size))
 refine (F20.out.mono fun q _ e=>e.elim).trans ((F9.out.mono fun q _ e=>?_).trans (HMV.out.2.mono fun q _ e=>?_))
 ·rcases e with e | e
  ·exact .inl (.inl (HO2.out q e))
  exact .inl (.inr e)
 rcases e with (e | e) | e
 ·exact .inl (.inl (HO2.out q e))
 ·exact .inl (.inr e)
 exact .inr e
open Go.RowKit Rng Lz Win
set_option maxRecDepth 100000 in
set_option maxHeartbeats 4000000 in
theorem putmatch_two (O:Nat→Prop) (w:World) (k:LK) (g:WB) (A:Option Addr) (c:Nat) (bs:List UInt8) (shift:Int) (pos tot st:Nat) (rep:Nat→Nat) (s:CP Enc) (h:WrAt O w k g A c bs shift pos st rep s) (hk:k.Ok) (htot:(pos:Int)+shift=(tot:Int)) (ht:tot<4611686018427387904)
 (size back d:Nat) (h2:2≤size) (hs:size≤273) (hbd:back=d+1) (hd:d<4294967296) (hpos:pos+size≤140737488355328) (hst:st<12) (hrep:∀ j,rep j<4294967296) (hc:s.d.cnt+100<1000000) (J:Nat) (hJ:J=2∨J=3) (hj:idxOf rep d=J) :
 Calls Tryz.prog 76 #[.pointer (some ⟨g.xb,0,none⟩),.int .i64 size,.int .i64 back] w fun e w'=>e=.returned (.tuple #[])∧WrAt O w' k g A c bs shift (pos+size) (putMatch k tot size d st rep s).1 (putMatch k tot size d st rep s).2.1 (putMatch k tot size d st rep s).2.2∧Frm (WZ k O g) w w':=by
 obtain ⟨p,hp⟩:∃ p,tot % 2 ^ k.pb=p:=⟨_,rfl⟩
 have hp16:p<16:=by
  have h1:2 ^ k.pb≤2 ^ 4:=Nat.pow_le_pow_right (by omega) hk.b
  have h2:tot % 2 ^ k.pb<2 ^ k.pb:=Nat.mod_lt _ (Nat.lt_of_lt_of_le (by omega) (Nat.one_le_two_pow))
  omega
 obtain ⟨s1,hs1⟩:∃ s1,(bitAt inC (8+st*16+p) 1 s).2=s1:=⟨_,rfl⟩
 have hc1:s1.d.cnt≤s.d.cnt+1:=by rw [← hs1];exact cnt_bitIn1 _ _ _
 obtain ⟨s2,hs2⟩:∃ s2,(bitAt inC (200+st) 1 s1).2=s2:=⟨_,rfl⟩
 have hc2:s2.d.cnt≤s1.d.cnt+1:=by rw [← hs2];exact cnt_bitIn1 _ _ _
 obtain ⟨s4,hs4⟩:∃ s4,bitsIn st 0 [1,1,J-2] s2=s4:=⟨_,rfl⟩
 have hc4:s4.d.cnt≤s2.d.cnt+3:=by rw [← hs4];exact cnt_bits _ _ _ _ (by simp)
 obtain ⟨s5,hs5⟩:∃ s5,(lenAt inC 1354 size p s4).2=s5:=⟨_,rfl⟩
 have hput:putMatch k tot size d st rep s=(behS st 2,takeS rep J,s5):=by
  unfold putMatch putRep;simp only;rw [hp,hs1,hj,if_neg (by omega),hs2];simp only [if_neg (show ¬ J=0 by omega),if_neg (show ¬ J=1 by omega)]
  have e:(bitAt inC (236+st) (J-2) (bitAt inC (224+st) 1 (bitAt inC (212+st) 1 s2).2).2).2=s4:=by rw [← hs4];unfold bitsIn bitsIn bitsIn bitsIn;rw [show 212+0*12+st=212+st by omega,show 212+(0+1)*12+st=224+st by omega,show 212+(0+1+1)*12+st=236+st by omega]
  rw [e,hs5]
 have HS2:=hid hs2
 have HS4:=hid hs4
 have HS5:=hid hs5
 have HPUT:=hid hput
 have HH:=hid h
 have HB:=hid (two_boxes h)
 have hXO:=h.x
 have e0:(w.alloc (.cells #[.pointer (some ⟨g.xb,0,none⟩)] 152)).cell? ⟨g.xb,0,none⟩=some (.pointer (some ⟨k.sb,0,none⟩)):=(h.alloc _).cells.1
 have HPL:=hid (fun (w1:World) (O1:Nat→Prop) (h1:LzAt (IC g.eb O1) O1 136 w1 k st rep s)=>place_any 136 k st tot rep s w1 h1 hk ht)
 rw [hp] at HPL
 have P0:=hid (plm k (i:=8+st*16+p) (by omega) (by omega))
 have P1:=hid (plm k (i:=200+st) (by omega) (by omega))
 have HS1:=hid hs1
 have HREP:=hid hrep
 have HK:=hid hk
 have hsti:(st:Int)<12:=by omega
 have hpi:(p:Int)<16:=by omega
 have htw:IntKind.i64.wrap (tot:Int)=(tot:Int):=Go.IntWalk.i64_in _ (by omega)
 have hbk:(back:Int)-1=(d:Int):=by omega
 have hdw:IntKind.i64.wrap (d:Int)=(d:Int):=Go.IntWalk.i64_in _ (by omega)
 have hdu:IntKind.u32.wrap (d:Int)=(d:Int):=Go.IntWalk.u32_in _ (by omega)
 obtain ⟨pe,hpe⟩:∃ pe,pos+size=pe:=⟨_,rfl⟩
 have hpei:(pos:Int)+(size:Int)=(pe:Int):=by omega
 have hpew:IntKind.i64.wrap (pe:Int)=(pe:Int):=Go.IntWalk.i64_in _ (by omega)
 have hzi:idxV (idxOf rep d)=(J:Int):=by rw [hj];unfold idxV;rw [if_neg (by omega)]
 have HZ:=hid hzi
 have HDB:=hid hd
 rw [hput,hpe]
 clear h hk ht hrep hp hbd hd hpos hpe hj hzi hput hs1 hs2 hs4 hs5
 have HC:=hid (And.intro hc (And.intro hc1 (And.intro hc2 hc4)))
 clear hc hc1 hc2 hc4
 go_enter Tryz.func76,Tryz.ntmps76
 go_upto_region 2 with fail
 obtain ⟨w2,hw2⟩:∃ w2,(w.alloc (.cells #[.pointer (some ⟨g.xb,0,none⟩)] 152)).alloc (.cells #[.pointer (some ⟨k.sb,0,none⟩)] 153)=w2:=⟨_,rfl⟩
 obtain ⟨b6,hb6⟩:∃ b,w.heap.size+1=b:=⟨_,rfl⟩
 obtain ⟨b3,hb3⟩:∃ b,w.heap.size=b:=⟨_,rfl⟩
 obtain ⟨O2,hO2⟩:∃ O2:Nat→Prop,(fun q=>O q∧¬ (q=b3∨q=b6))=O2:=⟨_,rfl⟩
 have hB:=HB.out
 have HO2:Hid (∀ q,O2 q→O q):=hid (fun q hq=>by rw [← hO2] at hq;exact hq.1)
 rw [hw2,hb6,hb3,hO2] at hB
 rw [hw2,hb6,hb3]
 have H2:=hid hB.1
 have F20:=hid hB.2
 have F2:Hid (Frm (Wr O2 k) w2 w2):=hid (Frm.refl _ _)
 clear hB HB e0 hw2 hb6 hb3 hO2
 obtain ⟨c3,c6,x1,x3,x4,y3,x0⟩:=H2.out.cells
 have HD:=hid H2.out.drew
 have FD:Hid (Frm (Wr O2 k) w2 w2.drew):=hid (F2.out.drew)
 go_still_tail 10,(by kernel_rfl)
 change wpList _ _ _ _ _ w2.drew
 go_wp2_with fail
 refine (HPL.out _ _ HD.out.m.lz).mono ?_;rintro e w3 ⟨rfl,rfl⟩
 have H3:=hid HD.out
 have F3:=hid FD.out
 obtain ⟨w3,hw3⟩:∃ w3,w2.drew=w3:=⟨_,rfl⟩
 rw [hw3] at H3 F3 ⊢
 clear HD FD H2 F2 hw3 htot htw HPL
 clear c3 c6 x1 x3 x4 y3 x0
 obtain ⟨c3,c6,x1,x3,x4,y3,x0⟩:=H3.out.cells
 go_upto_region 3 with fail
 have HD:=hid H3.out.drew
 have FD:Hid (Frm (Wr O2 k) w2 w3.drew):=hid (F3.out.drew)
 go_still_tail 14,(by kernel_rfl)
 change wpList _ _ _ _ _ w3.drew
 go_wp2_with fail
 refine (ibit_lz HD.out.m.lz (by have:=HC.out;omega) (8+st*16+p) k.sb (8+st*16+p) 1 _ rfl (by omega) P0.out.1 P0.out.2).mono ?_;rintro e w4 ⟨rfl,h0,f0⟩
 rw [HS1.out] at h0
 have H4:=hid (HD.out.lzStep h0 f0)
 have F4:=hid (FD.out.trans f0)
 clear h0 f0 HD FD H3 F3
 clear c3 c6 x1 x3 x4 y3 x0
 obtain ⟨c3,c6,x1,x3,x4,y3,x0⟩:=H4.out.cells
 go_wp2_with fail
 refine (index_num w4 k.sb 4 rep d _ HZ.out (fun j hj=>(H4.out.m.lz.rep_cell hj)) HDB.out).mono ?_;rintro e w5 ⟨rfl,hw5⟩
 subst hw5
 have hJ2:2≤J:=by omega
 have hJ3:J≤3:=by omega
 have j0:((J:Int) == -1)=false:=beq_eq_false_iff_ne.2 (by omega)
 have j1:((J:Int)==0)=false:=beq_eq_false_iff_ne.2 (by omega)
 have j2:((J:Int)==1)=false:=beq_eq_false_iff_ne.2 (by omega)
 obtain ⟨J2,hJ2e⟩:∃ J2,J-2=J2:=⟨_,rfl⟩
 have hJi:(J:Int)-2=(J2:Int):=by omega
 have hJw:IntKind.i64.wrap (J2:Int)=(J2:Int):=Go.IntWalk.i64_in _ (by omega)
 rw [hJ2e] at HS4
 have HJ:=hid (And.intro hJ2e (And.intro hJ2 hJ3))
 clear hJ hJ2 hJ3 hJ2e
 go_upto_region 7 with fail
 have HD:=hid H4.out.drew
 have FD:Hid (Frm (Wr O2 k) w2 w4.drew):=hid (F4.out.drew)
 go_still_tail 12,(by kernel_rfl)
 change wpList _ _ _ _ _ w4.drew
 go_wp2_with fail
 refine (ibit_lz HD.out.m.lz (by have:=HC.out;omega) (200+st) k.sb (200+st) 1 _ rfl (by omega) P1.out.1 P1.out.2).mono ?_;rintro e w5 ⟨rfl,h0,f0⟩
 rw [HS2.out] at h0
 have H5:=hid (HD.out.lzStep h0 f0)
 have F5:=hid (FD.out.trans f0)
 clear h0 f0 HD FD H4 F4
 clear c3 c6 x1 x3 x4 y3 x0
 obtain ⟨c3,c6,x1,x3,x4,y3,x0⟩:=H5.out.cells
 go_wp2_with fail
 refine (bits_lit O2 w5 k g b3 b6 A c bs shift pos st rep s2 H5.out hst [1,1,J2] (by simp) (by simp;have:=HJ.out;omega) (by have:=HC.out;omega)).mono ?_;rintro e w6 ⟨rfl,h0,f0⟩
 rw [HS4.out] at h0
 have H6:=hid h0
 have F6:=hid (F5.out.trans f0)
 clear h0 f0 H5 F5
 clear c3 c6 x1 x3 x4 y3 x0
 obtain ⟨c3,c6,x1,x3,x4,y3,x0⟩:=H6.out.cells
 go_wp2_with fail
 have HD:=H6
 have FD:=F6
 refine (take_num (IC.keep g.eb O2) 136 k st J _ rep _ _ (by first | rfl | omega) HD.out.m.lz (by first | omega | (have:=HJ.out;omega))).mono ?_;rintro e w7 ⟨rfl,h0,f0⟩
 have H7:=hid (HD.out.lzStep h0 f0)
 have F7:=hid (FD.out.trans f0)
 clear h0 f0 HD FD H6 F6
 clear c3 c6 x1 x3 x4 y3 x0
 obtain ⟨c3,c6,x1,x3,x4,y3,x0⟩:=H7.out.cells
 go_upto_region 25 with fail
 have HD:=hid H7.out.drew
 have FD:Hid (Frm (Wr O2 k) w2 w7.drew):=hid (F7.out.drew)
 go_still_tail 10,(by kernel_rfl)
 change wpList _ _ _ _ _ w7.drew
 go_wp2_with fail
 refine (lens_in g.eb O2 136 k _ _ _ 1354 size p _ HD.out.m.lz (.inr rfl) hp16 h2 hs (by have:=HC.out;omega)).mono ?_;rintro e w8 ⟨rfl,h0,f0⟩
 rw [HS5.out] at h0
 have H8:=hid (HD.out.lzStep h0 f0)
 have F8:=hid (FD.out.trans f0)
 clear h0 f0 HD FD H7 F7
 clear c3 c6 x1 x3 x4 y3 x0
 obtain ⟨c3,c6,x1,x3,x4,y3,x0⟩:=H8.out.cells
 go_wp2_with fail
 have HD:=H8
 have FD:=F8
 refine (behind_any (IC.keep g.eb O2) 136 k st 2 _ _ _ HD.out.m.lz hst (by omega)).mono ?_;rintro e w9 ⟨rfl,h0,f0⟩
 have H9:=hid (HD.out.lzStep h0 f0)
 have F9:=hid (FD.out.trans f0)
 clear h0 f0 HD FD H8 F8
 clear c3 c6 x1 x3 x4 y3 x0
 obtain ⟨c3,c6,x1,x3,x4,y3,x0⟩:=H9.out.cells
 have z3:=H9.out.m.p.frozen 3
 have HMV:=hid (H9.out.m.move pe)
 go_wp2
 go_end0
 refine ⟨rfl,?_,?_⟩
 ·exact HMV.out.1.widen HH.out HO2.out (Nat.le_trans F20.out.size (Nat.le_trans F9.out.size HMV.out.2.size))
 refine (F20.out.mono fun q _ e=>e.elim).trans ((F9.out.mono fun q _ e=>?_).trans (HMV.out.2.mono fun q _ e=>?_))
 ·rcases e with e | e
  ·exact .inl (.inl (HO2.out q e))
  exact .inl (.inr e)
 rcases e with (e | e) | e
 ·exact .inl (.inl (HO2.out q e))
 ·exact .inl (.inr e)
 exact .inr e
end Go.Proofs.YtffehfpbdcokbaaGreat
