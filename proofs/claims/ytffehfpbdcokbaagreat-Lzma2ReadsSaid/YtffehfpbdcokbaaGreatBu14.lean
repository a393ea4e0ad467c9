import Derived.Deep.CutBlock
import Derived.Test.YtffehfpbdcokbaaGreatBu5
import Derived.Test.YtffehfpbdcokbaaGreatBu13
set_option linter.unusedVariables false
set_option linter.unusedSimpArgs false
namespace Go.Proofs.YtffehfpbdcokbaaGreat
open Lib (hid)
open Go.RowKit Rng Win Lz
theorem opOf_size {st p:Nat} {rep:Nat→Nat} {s:CP Dec}:1≤(opOf outC st p rep s).1∧(opOf outC st p rep s).1≤300∧(opOf outC st p rep s).2.1=(if (bitAt outC (200+st) 0 s).1=1 then behS st (if (opOf outC st p rep s).1=1 then 3 else 2) else behS st 1):=by
 unfold opOf
 simp only
 split
 ·unfold repOf
  simp only
  split
  ·split
   ·simp only
    exact ⟨by omega,by omega,by simp⟩
   have:=lenAt_lt outC 1354 2 p (bitAt outC (248+st*16+p) 0 (bitAt outC (212+st) 0 (bitAt outC (200+st) 0 s).2).2).2
   simp only
   exact ⟨by omega,by omega,by rw [if_neg (by omega)]⟩
  split
  ·have:=lenAt_lt outC 1354 2 p (bitAt outC (236+st) 0 (bitAt outC (224+st) 0 (bitAt outC (212+st) 0 (bitAt outC (200+st) 0 s).2).2).2).2
   simp only
   exact ⟨by omega,by omega,by rw [if_neg (by omega)]⟩
  have:=lenAt_lt outC 1354 2 p (bitAt outC (224+st) 0 (bitAt outC (212+st) 0 (bitAt outC (200+st) 0 s).2).2).2
  simp only
  exact ⟨by omega,by omega,by rw [if_neg (by omega)]⟩
 have:=lenAt_lt outC 840 2 p (bitAt outC (200+st) 0 s).2
 simp only
 exact ⟨by omega,by omega,trivial⟩
theorem shift3 (rep:Nat→Nat):(fun j=>if j=1 then rep 0 else if j=2 then rep 1 else if j=3 then rep 2 else rep j)=shiftN rep 3:=by
 funext j
 unfold shiftN
 by_cases h1:j=1
 ·subst h1;rfl
 by_cases h2:j=2
 ·subst h2;rfl
 by_cases h3:j=3
 ·subst h3;rfl
 rw [if_neg h1,if_neg h2,if_neg h3,if_neg (by omega)]
theorem row_keep {w w':World} {N:Nat→Prop} {q:Nat} {x:UInt8} (h:BRow w (q+1) (some ⟨q,0,none⟩) [x]) (hf:Frm N w w') (hn:¬ N q):BRow w' (q+1) (some ⟨q,0,none⟩) [x] :=
 h.offN (fun _ ad e hk=>by injection e with e;rw [← e] at hk;exact hn hk) hf
section
variable {Z : Nat → Prop} {w0 w w' : World} {k : LK} {g : DB} {st : Nat} {rep : Nat → Nat} {s : CP Dec} {all : List UInt8} {wv : Value}
set_option maxRecDepth 100000 in
set_option maxHeartbeats 600000 in
theorem dstep_p (h:DzAt Z w0 w k g st rep s all wv) (hk:k.Ok) (total room:Nat) (ht:total<4611686018427387904) (hst:st<12) (hrep:∀ j,rep j<4294967296) (hS:1≤g.S∧g.S≤16777216) (hroom:1≤room∧room≤4294967296) (hl:all.length≤60000000) :
 Calls Tryz.prog 147 #[.pointer (some ⟨k.sb,0,none⟩),.pointer (some ⟨g.db,0,none⟩),.pointer (some ⟨g.wb,0,none⟩),.int .i64 total,.int .i64 room] w (DStep Z w0 k g all (stepOf k g.S total room ⟨st,rep,s,lastN g.S all⟩)):=by
 obtain ⟨R,hR⟩:∃ R,stepOf k g.S total room ⟨st,rep,s,lastN g.S all⟩=R:=⟨_,rfl⟩
 rw [hR]
 unfold stepOf at hR
 dsimp only at hR
 have c2:w.cell? ⟨k.sb,2,none⟩=some (.int .i64 k.pb):=(h.hd (i:=2) (by omega)).1
 have hpb:=hk.b
 have HK:=hid hk
 have HST:=hid hst
 have HREP:=hid hrep
 have HS:=hid hS
 have HRM:=hid hroom
 have HL:=hid hl
 have HTT:=hid ht
 have HH:=hid h
 obtain ⟨ex,he⟩:∃ e,k.pb=e:=⟨_,rfl⟩
 rw [he] at c2 hpb hR
 have hP1:2 ^ ex≤2 ^ 4:=Nat.pow_le_pow_right (by omega) hpb
 obtain ⟨P,hP⟩:∃ P,2 ^ ex=P:=⟨_,rfl⟩
 have hPi:(2:Int) ^ ex=(P:Int):=by rw [← hP];simp
 have hm:=and_mask ht hP (by omega)
 rw [hP] at hP1 hR
 obtain ⟨p,hp⟩:∃ R,total % P=R:=⟨_,rfl⟩
 have hp16:p<16:=by rw [← hp];exact Nat.lt_of_lt_of_le (Nat.mod_lt _ (by rw [← hP];exact Nat.one_le_two_pow)) hP1
 rw [hp] at hm hR
 have hpi:(p:Int)<16:=by omega
 have hsti:(st:Int)<12:=by omega
 obtain ⟨d3,-⟩:=h.st3
 obtain ⟨⟨a,sa⟩,ha⟩:∃ x,bitAt outC (8+st*16+p) 0 s=x:=⟨_,rfl⟩
 have hal:a≤1:=by have:=bitAt_le outC (8+st*16+p) 0 s;rw [ha] at this;exact this
 rw [ha] at hR
 dsimp only at hR
 have HA:=hid ha
 have HR:=hid hR
 have P0:=hid (plm k (i:=8+st*16+p) (by omega) (by omega))
 have HD:=hid h.drew
 have hPb:P≤16:=hP1
 clear h hk hst hrep hS hroom hl ht he hP hp hR ha hP1
 go_enter Tryz.func147,Tryz.ntmps147
 go_upto_region 2 with fail
 clear hm hPi hpb c2 hPb
 go_still_tail 11,(by kernel_rfl)
 change wpList _ _ _ _ _ w.drew
 go_wp2_with fail
 refine (dz_bit HD.out.lz (8+st*16+p) k.sb (8+st*16+p) P0.out.1 P0.out.2).mono ?_;rintro e w2 ⟨rfl,h2,f2⟩
 rw [HA.out] at h2 ⊢
 dsimp only at h2 ⊢
 have H2:=hid (HD.out.lzStep h2 f2)
 clear h2 f2 HD d3
 by_cases ha0:a=0
 ·have hR:=HR.out
  rw [if_pos ha0] at hR
  have qa:((a:Int)==0)=true:=beq_iff_eq.2 (by omega)
  obtain ⟨⟨b,sl⟩,hb⟩:∃ x,litOf outC k st total rep (lastN g.S all) sa=x:=⟨_,rfl⟩
  have hbl:b<256:=by
   have:=litAt_lt outC k.lc k.lp st total (if 0<total then (atB (lastN g.S all) 1).toNat else 0) (if rep 0<16777216 then (atB (lastN g.S all) (rep 0+1)).toNat else 0) 0 sa
   have e:litOf outC k st total rep (lastN g.S all) sa=litAt outC k.lc k.lp st total (if 0<total then (atB (lastN g.S all) 1).toNat else 0) (if rep 0<16777216 then (atB (lastN g.S all) (rep 0+1)).toNat else 0) 0 sa:=rfl
   rw [← e,hb] at this
   exact this
  rw [hb] at hR
  dsimp only at hR
  obtain ⟨x,rfl⟩:∃ x:UInt8,x.toNat=b:=⟨UInt8.ofNat b,by rw [UInt8.toNat_ofNat'];omega⟩
  rw [UInt8.ofNat_toNat] at hR
  have HB:=hid hb
  have HR2:=hid hR
  obtain ⟨xn,hxn⟩:∃ n,x.toNat=n:=⟨_,rfl⟩
  have HXN:=hid hxn
  clear ha0 hR hb hal HR hbl
  go_wp2_with fail
  refine (dliteral_p g.db g.rb g.R 180 k g.bw g.wb g.kb g.S st total rep sa wv all _ H2.out.lz H2.out.win HK.out HTT.out (by have:=HL.out;omega)).mono ?_;rintro e w3 ⟨rfl,h3,f3⟩
  rw [HB.out] at h3 ⊢
  dsimp only at h3 ⊢
  have H3:=hid (H2.out.lzStep h3 f3)
  rw [hxn]
  clear h3 f3 hxn
  have hrow:BRow (w3.alloc (.cells #[.int .u8 (xn:Int)] 5)) (w3.heap.size+1) (some ⟨w3.heap.size,0,none⟩) [x]:=by
   have:=BRow.oneW w3 5 x
   rw [HXN.out] at this
   exact this
  have HRW:=hid hrow
  clear hrow
  go_wp2_with fail
  refine (rput_on g.bw g.wb g.kb g.S 1 (w3.heap.size+1) 1 wv all [x] (some ⟨w3.heap.size,0,none⟩) _ (H3.out.alloc _).win rfl HRW.out (by have:=HL.out;simp;omega) (by have:=H3.out.bs;simp;omega)).mono ?_;rintro e w4 ⟨wv4,rfl,h4,f4,m4⟩
  have H4:=hid ((H3.out.alloc _).winStep h4 f4 m4)
  have HRW4:=hid (row_keep HRW.out f4 (by
   rintro (e | e)
   ·have:=H3.out.win.p.lt;omega
   have:=(H3.out.win.o.lt e).2;omega))
  have Z4:=hid f4.size
  have d3:=H4.out.st3.1
  clear h4 f4 m4
  go_wp2_with fail
  refine (dbehind_p st 0 _ HST.out (by omega)).mono ?_;rintro e w5 ⟨rfl,hb5⟩
  have H5:=hid (H4.out.below hb5)
  have HRW5:=hid (row_keep HRW4.out (Frm.of_below (S:=fun _=>False) hb5) (fun h=>h))
  have Z5:=hid hb5.size
  obtain ⟨d5,e5⟩:=H5.out.st3
  have H6:=hid (H5.out.putSt (behS st 0))
  have HRW6:=hid (row_keep HRW5.out ((Frm.refl (· = k.sb) w5).setCell (p:=⟨k.sb,3,none⟩) rfl (.int .i64 (behS st 0:Nat))) (fun e=>by have:=H3.out.lz.m.lt;omega))
  clear hb5 d3
  go_wp2
  go_ret2
  refine .inr ⟨[x],_,_,_,wv4,HR2.out.symm,rfl,?_,H6.out,?_⟩
  ·refine HRW6.out.more ?_
   have z4:=Z4.out
   have z5:=Z5.out
   rw [World.size_alloc] at z4
   show _≤(w5.heap.modify _ _).size
   rw [Array.size_modify]
   omega
  exact lastN_lastN _ _ _
 have hR:=HR.out
 rw [if_neg ha0] at hR
 have qa:((a:Int)==0)=false:=beq_eq_false_iff_ne.2 (by omega)
 obtain ⟨OP,hOP⟩:∃ x,opOf outC st p rep sa=x:=⟨_,rfl⟩
 have hsz:=opOf_size (st:=st) (p:=p) (rep:=rep) (s:=sa)
 have hinv:=opOf_inv outC p sa HST.out HREP.out
 rw [hOP] at hR hsz hinv
 obtain ⟨⟨c,sc⟩,hc⟩:∃ x,bitAt outC (200+st) 0 sa=x:=⟨_,rfl⟩
 have hcl:c≤1:=by have:=bitAt_le outC (200+st) 0 sa;rw [hc] at this;exact this
 rw [hc] at hsz
 dsimp only at hsz
 unfold opOf at hOP
 rw [hc] at hOP
 dsimp only at hOP
 have HR2:=hid hR
 have HOP:=hid hOP
 have HSZ:=hid hsz
 have HINV:=hid hinv
 have HC:=hid hc
 have P1:=hid (plm k (i:=200+st) (by omega) (by omega))
 have HD:=hid H2.out.drew
 obtain ⟨d3,-⟩:=H2.out.st3
 clear ha0 hR hOP hsz hinv hc hal HR
 go_upto_region 8 with fail
 go_still_tail 9,(by kernel_rfl)
 change wpList _ _ _ _ _ w2.drew
 go_wp2_with fail
 refine (dz_bit HD.out.lz (200+st) k.sb (200+st) P1.out.1 P1.out.2).mono ?_;rintro e w3 ⟨rfl,h3,f3⟩
 rw [HC.out] at h3 ⊢
 dsimp only at h3 ⊢
 have H3:=hid (HD.out.lzStep h3 f3)
 clear h3 f3 HD d3
 go_upto_if 67 with fail
 go_cut [14] from 15 (fun v wx=>v=.int .i64 (OP.1:Int)∧DzAt Z w0 wx k g OP.2.1 OP.2.2.1 OP.2.2.2 all wv)
 case first =>
  by_cases hc0:c=0
  ·have qc:((c:Int)==0)=true:=beq_iff_eq.2 (by omega)
   go_upto_region 9 with fail
   have hOP:=HOP.out
   rw [if_neg (by omega)] at hOP
   obtain ⟨⟨ls,sl⟩,hls⟩:∃ x,lenAt outC 840 2 p sc=x:=⟨_,rfl⟩
   rw [hls] at hOP
   dsimp only at hOP
   obtain ⟨⟨ds,sd⟩,hds⟩:∃ x,distAt outC 0 ls sl=x:=⟨_,rfl⟩
   rw [hds] at hOP
   dsimp only at hOP
   have hlb:=lenAt_lt outC 840 2 p sc
   rw [hls] at hlb
   dsimp only at hlb
   have HLS:=hid hls
   have HDS:=hid hds
   have HO2:=hid hOP
   clear hc0 hOP hls hds HOP hcl
   -- the three moves
   have r2:w3.cell? ⟨k.sb,6,none⟩=some (.int .u32 (rep 2:Int)):=(H3.out.rp 2 (by omega)).1
   have r3c:w3.cell? ⟨k.sb,7,none⟩=some (.int .u32 (rep 3:Int)):=(H3.out.rp 3 (by omega)).1
   have r3f:w3.frozen? ⟨k.sb,7,none⟩=false:=(H3.out.rp 3 (by omega)).2
   go_still_tail 9,(by kernel_rfl)
   change wpList _ _ _ _ _ w3.drew
   go_upto_region 10 with fail
   obtain ⟨w4,hw4⟩:∃ W,(w3.setCell ⟨k.sb,7,none⟩ (.int .u32 (rep 2:Int))).drew=W:=⟨_,rfl⟩
   have H4:Hid (DzAt Z w0 w4 k g st (fun j=>if j=3 then rep 2 else rep j) sc all wv):=hid (by rw [← hw4];exact (H3.out.putRep 3 (rep 2) (by omega)).drew)
   rw [hw4]
   clear hw4 r2 r3c r3f
   have r1:w4.cell? ⟨k.sb,5,none⟩=some (.int .u32 (rep 1:Int)):=by have:=(H4.out.rp 1 (by omega)).1;simpa using this
   have r2c:w4.cell? ⟨k.sb,6,none⟩=some (.int .u32 (rep 2:Int)):=by have:=(H4.out.rp 2 (by omega)).1;simpa using this
   have r2f:w4.frozen? ⟨k.sb,6,none⟩=false:=(H4.out.rp 2 (by omega)).2
   go_still_tail 9,(by kernel_rfl)
   change wpList _ _ _ _ _ w4.drew
   go_upto_region 11 with fail
   obtain ⟨w5,hw5⟩:∃ W,(w4.setCell ⟨k.sb,6,none⟩ (.int .u32 (rep 1:Int))).drew=W:=⟨_,rfl⟩
   have H5:Hid (DzAt Z w0 w5 k g st (fun j=>if j=2 then rep 1 else if j=3 then rep 2 else rep j) sc all wv):=hid (by rw [← hw5];exact (H4.out.putRep 2 (rep 1) (by omega)).drew)
   rw [hw5]
   clear hw5 r1 r2c r2f
   have r0:w5.cell? ⟨k.sb,4,none⟩=some (.int .u32 (rep 0:Int)):=by have:=(H5.out.rp 0 (by omega)).1;simpa using this
   have r1c:w5.cell? ⟨k.sb,5,none⟩=some (.int .u32 (rep 1:Int)):=by have:=(H5.out.rp 1 (by omega)).1;simpa using this
   have r1f:w5.frozen? ⟨k.sb,5,none⟩=false:=(H5.out.rp 1 (by omega)).2
   go_still_tail 9,(by kernel_rfl)
   change wpList _ _ _ _ _ w5.drew
   go_upto_region 12 with fail
   obtain ⟨w6,hw6⟩:∃ W,(w5.setCell ⟨k.sb,5,none⟩ (.int .u32 (rep 0:Int))).drew=W:=⟨_,rfl⟩
   have H6:Hid (DzAt Z w0 w6 k g st (shiftN rep 3) sc all wv):=hid (by rw [← hw6,← shift3];exact (H5.out.putRep 1 (rep 0) (by omega)).drew)
   rw [hw6]
   clear hw6 r0 r1c r1f
   go_wp2_with fail
   refine (dlen_p g.db g.rb g.R 180 k st (shiftN rep 3) sc 840 p _ H6.out.lz (.inl rfl) (by omega)).mono ?_;rintro e w7 ⟨rfl,h7,f7⟩
   rw [HLS.out] at h7 ⊢
   dsimp only at h7 ⊢
   have H7:=hid (H6.out.lzStep h7 f7)
   have d3:=H7.out.st3.1
   clear h7 f7
   go_wp2_with fail
   refine (dbehind_p st 1 _ HST.out (by omega)).mono ?_;rintro e w8 ⟨rfl,hb8⟩
   have H8:=hid (H7.out.below hb8)
   obtain ⟨d8,e8⟩:=H8.out.st3
   clear hb8 d3
   go_upto_region 14 with fail
   obtain ⟨w9,hw9⟩:∃ W,w8.setCell ⟨k.sb,3,none⟩ (.int .i64 (behS st 1:Nat))=W:=⟨_,rfl⟩
   have H9:Hid (DzAt Z w0 w9 k g (behS st 1) (shiftN rep 3) sl all wv):=hid (by rw [← hw9];exact H8.out.putSt (behS st 1))
   rw [hw9]
   clear hw9 d8 e8
   have HD9:=hid H9.out.drew
   obtain ⟨hl1,hl2⟩:=hlb
   go_region_with (first
    | (go_at_call 164;refine (ddist_p g.db g.rb g.R 180 k (behS st 1) (shiftN rep 3) sl ls _ HD9.out.lz hl1 hl2).mono ?_;rintro e w10 ⟨rfl,h10,f10⟩;rw [HDS.out] at h10 ⊢;have hx10:=HD9.out.lzStep h10 f10;have r0c:w10.cell? ⟨k.sb,4,none⟩=some (.int .u32 (shiftN rep 3 0:Int)):=(hx10.rp 0 (by omega)).1;have r0f:w10.frozen? ⟨k.sb,4,none⟩=false:=(hx10.rp 0 (by omega)).2))
   all_goals
    have H10:=hid (hx10.putRep 0 ds (by omega))
    clear hx10 r0c r0f h10 f10
    go_wp2
    go_meet
    case rel=>rw [← HO2.out];exact ⟨rfl,H10.out⟩
  have qc:((c:Int)==0)=false:=beq_eq_false_iff_ne.2 (by omega)
  have hc1:c=1:=by omega
  have hOP:=HOP.out
  rw [if_pos hc1] at hOP
  have hsz:=HSZ.out
  rw [if_pos hc1] at hsz
  have HO2:=hid hOP
  have HZ2:=hid hsz
  clear hc0 hc1 hOP hsz HOP hcl
  go_wp2_with fail
  refine (dagain_p g.db g.rb g.R 180 k st p rep sc _ H3.out.lz HST.out hp16).mono ?_;rintro e w4 ⟨rfl,h4,f4⟩
  rw [HO2.out] at h4 ⊢
  have H4:=hid (H3.out.lzStep h4 f4)
  have d3:=H4.out.st3.1
  clear h4 f4
  by_cases h1:OP.1=1
  ·have q1:((OP.1:Int)==1)=true:=beq_iff_eq.2 (by omega)
   have e1:OP.2.1=behS st 3:=by have:=HZ2.out.2.2;rw [if_pos h1] at this;exact this
   have HE1:=hid e1
   clear h1 e1
   obtain ⟨sz,hsz⟩:∃ z,OP.1=z:=⟨_,rfl⟩
   rw [hsz] at q1 ⊢
   have HSZ2:=hid hsz
   clear hsz
   go_wp2_with fail
   refine (dbehind_p st 3 _ HST.out (by omega)).mono ?_;rintro e w8 ⟨rfl,hb8⟩
   have H8:=hid (H4.out.below hb8)
   obtain ⟨d8,e8⟩:=H8.out.st3
   have H9:=hid (H8.out.putSt (behS st 3))
   clear hb8 d3
   go_wp2
   go_meet
   case rel=>rw [HE1.out,HSZ2.out];exact ⟨rfl,H9.out⟩
  have q1:((OP.1:Int)==1)=false:=beq_eq_false_iff_ne.2 (by omega)
  have e1:OP.2.1=behS st 2:=by have:=HZ2.out.2.2;rw [if_neg h1] at this;exact this
  have HE1:=hid e1
  clear h1 e1
  obtain ⟨sz,hsz⟩:∃ z,OP.1=z:=⟨_,rfl⟩
  rw [hsz] at q1 ⊢
  have HSZ2:=hid hsz
  clear hsz
  go_wp2_with fail
  refine (dbehind_p st 2 _ HST.out (by omega)).mono ?_;rintro e w8 ⟨rfl,hb8⟩
  have H8:=hid (H4.out.below hb8)
  obtain ⟨d8,e8⟩:=H8.out.st3
  have H9:=hid (H8.out.putSt (behS st 2))
  clear hb8 d3
  go_wp2
  go_meet
  case rel=>rw [HE1.out,HSZ2.out];exact ⟨rfl,H9.out⟩
 case rest =>
 obtain ⟨rfl,h4⟩:=hcut
 have H4:=hid h4
 obtain ⟨⟨sz,sn,rn,cn⟩,rfl⟩:∃ x:Nat×Nat×(Nat→Nat)×CP Dec,x=OP:=⟨OP,rfl⟩
 dsimp only at h4 ⊢
 have hR:(if sz≤room∧rn 0+1≤(lastN g.S all).length then some (cyc (lastN g.S all) (rn 0+1) sz,(⟨sn,rn,cn,lastN g.S (lastN g.S all++cyc (lastN g.S all) (rn 0+1) sz)⟩:RS)) else none)=R:=HR2.out
 have hsz:=HSZ.out
 have hin:=HINV.out
 dsimp only at hsz hin
 obtain ⟨hs1,hs2,-⟩:=hsz
 obtain ⟨r0,hr0⟩:∃ r,rn 0=r:=⟨_,rfl⟩
 have hcr:=(h4.rp 0 (by omega)).1
 have r0c:wc.cell? ⟨k.sb,4,none⟩=some (.int .u32 (r0:Int)):=by rw [← hr0];exact hcr
 have hlen:=lastN_length g.S all
 rw [hr0] at hR
 have H4:=hid h4
 have HR3:=hid hR
 have HLN:=hid hlen
 have hr32:r0<4294967296:=by rw [← hr0];exact hin.2.2.2 0
 have HR32:=hid hr32
 clear h4 hcr hR hlen hin hr0 hr32 HR2 HSZ HINV HOP H2 H3
 by_cases hroom:room<sz
 ·have q1:(room:Int)<(sz:Int):=by omega
  have HN:Hid (none=R):=hid (by have:=HR3.out;rw [if_neg (by omega)] at this;exact this)
  clear hroom HR3
  go_wp2
  go_ret2
  exact .inl ⟨HN.out.symm,⟨_,_,_,rfl⟩,H4.out.f⟩
 have q1:¬ (room:Int)<(sz:Int):=by omega
 have HRM2:=hid hroom
 clear hroom
 go_upto_if 142 with fail
 by_cases hbig:16777216≤r0
 ·have hb1:decide ((16777216:Int)≤(r0:Int))=true:=decide_eq_true (by omega)
  have HN:Hid (none=R):=hid (by
   have:=HR3.out
   have hS:=HS.out
   have hL:=HLN.out
   rw [if_neg (by omega)] at this
   exact this)
  simp only [hb1]
  clear hbig HR3 hb1
  go_wp2
  go_ret2
  exact .inl ⟨HN.out.symm,⟨_,_,_,rfl⟩,H4.out.f⟩
 have hb1:decide ((16777216:Int)≤(r0:Int))=false:=decide_eq_false (by omega)
 simp only [hb1]
 obtain ⟨r1,hr1⟩:∃ r,r0+1=r:=⟨_,rfl⟩
 have hz:(r0:Int)+1=(r1:Int):=by omega
 have hw0:IntKind.i64.wrap (r0:Int)=(r0:Int):=Go.IntWalk.i64_in _ (by omega)
 have hw1:IntKind.i64.wrap (r1:Int)=(r1:Int):=Go.IntWalk.i64_in _ (by omega)
 have HR1:=hid (And.intro hr1 (show r0<16777216 by omega))
 clear hbig hb1 hr1
 by_cases hok:r1≤g.S∧r1≤all.length
 ·have HOK:=hid hok
  have HN:Hid (some (cyc all r1 sz,(⟨sn,rn,cn,lastN g.S (lastN g.S all++cyc all r1 sz)⟩:RS))=R):=hid (by
   have:=HR3.out
   have hL:=HLN.out
   have h1:=HR1.out.1
   have h2:=HRM2.out
   rw [if_pos (by omega),h1,cyc_last (by omega) hok.1 hok.2] at this
   exact this)
  clear hok HR3
  go_wp2_with fail
  refine (rcopy_big g.bw g.wb g.kb g.S r1 sz wv all _ H4.out.win H4.out.bs (by have:=HL.out;omega) (by omega) (by have:=HR1.out.1;omega) HOK.out.1 HOK.out.2).mono ?_;rintro e w5 ⟨A5,c5,v5,rfl,hr5,h5,f5,m5⟩
  have H5:=hid (H4.out.winStep h5 f5 m5)
  have HR5:=hid hr5
  clear hr5 h5 f5 m5
  go_wp2
  go_ret2
  refine .inr ⟨cyc all r1 sz,_,A5,c5,v5,HN.out.symm,by rw [cyc_length];rfl,HR5.out,H5.out,?_⟩
  exact lastN_lastN _ _ _
 have HN:Hid (none=R):=hid (by
  have:=HR3.out
  have hL:=HLN.out
  have h1:=HR1.out.1
  rw [if_neg (by omega)] at this
  exact this)
 have HOK:=hid hok
 clear hok HR3
 go_wp2_with fail
 refine (rcopy_bad g.bw g.wb g.kb g.S (r1:Int) (sz:Int) wv all _ H4.out.win (by omega) (by have:=HOK.out;have:=HR1.out.1;omega)).mono ?_;rintro e w5 ⟨rfl,rfl⟩
 go_wp2
 go_ret2
 exact .inl ⟨HN.out.symm,⟨_,_,_,rfl⟩,H4.out.f⟩
end
open Go.RowKit Rng Lz
theorem dzero_list:Tryz.zeroCells180.toList=(List.replicate 4 (Value.int .i64 0)++List.replicate 4 (Value.int .u32 0))++List.replicate 1860 (Value.int .u16 0)++[Value.slice none 0 0]:=by kernel_rfl
theorem dzero_size:Tryz.zeroCells180.size=1869:=by kernel_rfl
theorem dzero_q:Tryz.zeroCells180=qcells 0 0 0 0 (fun _=>0) (fun _=>0) (.slice none 0 0):=by
 refine qcells_eq dzero_size fun j hj=>?_
 rw [← Array.getElem?_toList,dzero_list]
 have hX:(List.replicate 4 (Value.int .i64 0)++List.replicate 4 (Value.int .u32 0)).length=8:=rfl
 obtain ⟨N,hN⟩:∃ N,N=1860:=⟨_,rfl⟩
 rw [← hN]
 unfold qcell
 by_cases h8:j<8
 ·rw [List.append_assoc,List.getElem?_append_left (by rw [hX];exact h8)]
  have a:j=0∨j=1∨j=2∨j=3∨j=4∨j=5∨j=6∨j=7:=by omega
  rcases a with rfl | rfl | rfl | rfl | rfl | rfl | rfl | rfl <;> rfl
 rw [split_get _ [] _ _ N hX (by omega),if_neg (show ¬ j=0 by omega),if_neg (show ¬ j=1 by omega),if_neg (show ¬ j=2 by omega),if_neg (show ¬ j=3 by omega),if_neg h8]
 by_cases hu:j<1868
 ·rw [if_pos (show j<8+N by omega),if_pos hu];rfl
 rw [if_neg (show ¬ j<8+N by omega),if_neg hu,if_pos (by omega)]
theorem dmade_q:(Tryz.zeroCells180.setIfInBounds 0 (.int .i64 3)).setIfInBounds 2 (.int .i64 2)=qcells 3 0 2 0 (fun _=>0) (fun _=>0) (.slice none 0 0):=by
 rw [dzero_q]
 refine qcells_eq (by rw [Array.size_setIfInBounds,Array.size_setIfInBounds,qcells_size]) fun j hj=>?_
 by_cases e2:j=2
 ·subst e2
  rw [Array.getElem?_setIfInBounds_self_of_lt (by rw [Array.size_setIfInBounds,qcells_size];omega)]
  rfl
 rw [Array.getElem?_setIfInBounds_ne (fun h=>e2 h.symm)]
 by_cases e0:j=0
 ·subst e0
  rw [Array.getElem?_setIfInBounds_self_of_lt (by rw [qcells_size];omega)]
  rfl
 rw [Array.getElem?_setIfInBounds_ne (fun h=>e0 h.symm),qcells_get _ _ _ _ _ _ _ hj]
 unfold qcell
 simp only [if_neg e0,if_neg e2]
set_option maxRecDepth 100000 in
set_option maxHeartbeats 1000000 in
theorem refnew_p (w:World):Calls Tryz.prog 40 #[] w fun e w'=>∃ b lb,e=.returned (.pointer (some ⟨b,0,none⟩))∧w.heap.size≤b∧w.heap.size≤lb∧b≠lb ∧
 Pts w' b (mcells (newK b lb) 0 (fun _=>0) (fun _=>1024)) 180∧Pts w' lb (lcells (newK b lb) (fun _=>1024)) 117∧Below w.heap.size w w':=by
 have hma:=dmade_q
 go_enter Tryz.func40,Tryz.ntmps40
 go_wp2_with fail
 have hp:=Pts.new w (qcells 3 0 2 0 (fun _=>0) (fun _=>0) (.slice none 0 0)) 180
 have hb:=(Below.refl w.heap.size w).alloc (Nat.le_refl _) (.cells (qcells 3 0 2 0 (fun _=>0) (fun _=>0) (.slice none 0 0)) 180)
 have hsz:(w.alloc (.cells (qcells 3 0 2 0 (fun _=>0) (fun _=>0) (.slice none 0 0)) 180)).heap.size=w.heap.size+1:=by show (w.heap.push _).size=_;rw [Array.size_push]
 generalize w.alloc (.cells (qcells 3 0 2 0 (fun _=>0) (fun _=>0) (.slice none 0 0)) 180)=wa at *
 refine (dreset_p w.heap.size 3 0 2 0 _ _ _ 180 wa hp (by omega) ⟨none,0,0,rfl⟩ (by omega)).mono ?_;rintro e w1 ⟨rfl,lb,h1,h2,h3,f1⟩
 have H2:=hid h2
 have H3:=hid h3
 have B1:=hid (hb.trans (f1.below hb.size (fun q hq=>by omega)))
 have hlb:w.heap.size<lb:=by omega
 clear h2 h3 f1 hma
 go_wp2
 go_ret
 exact ⟨w.heap.size,lb,rfl,Nat.le_refl _,by omega,by omega,H2.out,H3.out,B1.out⟩
end Go.Proofs.YtffehfpbdcokbaaGreat
