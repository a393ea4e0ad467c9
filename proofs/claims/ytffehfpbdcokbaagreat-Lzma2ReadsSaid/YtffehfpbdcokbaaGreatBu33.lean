import Derived.Test.YtffehfpbdcokbaaGreatBu4
import Derived.Test.YtffehfpbdcokbaaGreatBu8
import Derived.Test.YtffehfpbdcokbaaGreatBu32
set_option linter.unusedVariables false
set_option linter.unusedSimpArgs false
namespace Go.Proofs.YtffehfpbdcokbaaGreat
open Lib (hid)
open Go.RowKit Rng Lz
set_option maxRecDepth 100000 in
set_option maxHeartbeats 2000000 in
theorem lit_in (b:Nat) (O:Nat→Prop) (T:TypeId) (k:LK) (st total ahead far:Nat) (rep:Nat→Nat) (s:CP Enc) (w:World) (h:LzAt (IC b O) O T w k st rep s) (hk:k.Ok) (ht:total<4611686018427387904) (ha:ahead<256) (hfa:far<256) (X:Nat) (hX8:X<256) (hcn:s.d.cnt+8<1000000) :
 Calls Tryz.prog 106 #[.pointer (some ⟨k.sb,0,none⟩),.iface 155 (inV b),.int .i64 X,.int .i64 total,.int .u8 ahead,.int .u8 far] w fun e w'=>e=.returned (.int .u8 ((litAt inC k.lc k.lp st total ahead far X s).1:Nat)) ∧
  LzAt (IC b O) O T w' k st rep (litAt inC k.lc k.lp st total ahead far X s).2∧Frm (Wr O k) w w':=by
 have c0:w.cell? ⟨k.sb,0,none⟩=some (.int .i64 k.lc):=(h.hdr (i:=0) (by omega)).1
 have c1:w.cell? ⟨k.sb,1,none⟩=some (.int .i64 k.lp):=(h.hdr (i:=1) (by omega)).1
 have c3:w.cell? ⟨k.sb,3,none⟩=some (.int .i64 st):=(h.hdr (i:=3) (by omega)).1
 have c9:w.cell? ⟨k.sb,1868,none⟩=some (.slice (some ⟨k.lb,0,none⟩) k.L k.L):=by rw [h.m.cell,mcells_get _ _ _ _ (by omega)];rfl
 have hok:=hk.a
 obtain ⟨R,hR⟩:∃ R,litAt inC k.lc k.lp st total ahead far X s=R:=⟨_,rfl⟩
 rw [hR]
 unfold litAt at hR
 have hLL:k.L=768*(2 ^ k.lp*2 ^ k.lc):=by unfold LK.L;rw [Nat.pow_add,Nat.mul_comm (2 ^ k.lc)]
 have PLL:∀ j,j<k.L→Place k (4096+j)∧plA k (4096+j)=(k.lb,j):=fun j hj=>pll k hj
 obtain ⟨lc,hlc⟩:∃ e,k.lc=e:=⟨_,rfl⟩
 obtain ⟨lp,hlp⟩:∃ e,k.lp=e:=⟨_,rfl⟩
 obtain ⟨L,hL⟩:∃ e,k.L=e:=⟨_,rfl⟩
 rw [hL] at hLL PLL c9
 rw [hlc] at hLL hR c0 hok
 rw [hlp] at hLL hR c1 hok
 have hP1:2 ^ lp≤2 ^ 4:=Nat.pow_le_pow_right (by omega) (by omega)
 have hP2:2 ^ lc≤2 ^ 4:=Nat.pow_le_pow_right (by omega) (by omega)
 obtain ⟨E,hE⟩:∃ E,8-lc=E:=⟨_,rfl⟩
 have hPE:2 ^ E*2 ^ lc=256:=by rw [← hE,← Nat.pow_add,show 8-lc+lc=8 by omega]
 obtain ⟨P1,hp1⟩:∃ P,2 ^ lp=P:=⟨_,rfl⟩
 obtain ⟨P2,hp2⟩:∃ P,2 ^ lc=P:=⟨_,rfl⟩
 obtain ⟨P3,hp3⟩:∃ P,2 ^ E=P:=⟨_,rfl⟩
 have hi1:(2:Int) ^ lp=(P1:Int):=by rw [← hp1];simp
 have hi2:(2:Int) ^ lc=(P2:Int):=by rw [← hp2];simp
 have hi3:(2:Int) ^ E=(P3:Int):=by rw [← hp3];simp
 have hand:=and_mask ht hp1 (by omega)
 rw [hE,hp1,hp2,hp3] at hR
 rw [hp1,hp2] at hLL
 rw [hp1] at hP1
 rw [hp2] at hP2
 rw [hp2,hp3] at hPE
 have hP1p:1≤P1:=by rw [← hp1];exact Nat.one_le_two_pow
 have hP2p:1≤P2:=by rw [← hp2];exact Nat.one_le_two_pow
 have hP3p:1≤P3:=by rw [← hp3];exact Nat.one_le_two_pow
 have ha1:total % P1<P1:=Nat.mod_lt _ (by omega)
 obtain ⟨A1,hA1⟩:∃ A,total % P1=A:=⟨_,rfl⟩
 rw [hA1] at hand hR ha1
 have ha3:ahead / P3<P2:=by rw [Nat.div_lt_iff_lt_mul (by omega),Nat.mul_comm];omega
 have hi4:(ahead:Int) / (P3:Int)=((ahead / P3:Nat):Int):=(Int.natCast_ediv ahead P3).symm
 obtain ⟨A3,hA3⟩:∃ A,ahead / P3=A:=⟨_,rfl⟩
 rw [hA3] at hR ha3 hi4
 have hA2:A1*P2+P2≤P1*P2:=by
  have:=Nat.mul_le_mul_right P2 (show A1+1≤P1 by omega)
  rw [Nat.add_mul,Nat.one_mul] at this
  exact this
 have hPP:P1*P2≤16*16:=Nat.mul_le_mul hP1 hP2
 have hi5:(A1:Int)*(P2:Int)=((A1*P2:Nat):Int):=by simp
 obtain ⟨A2,hA2e⟩:∃ A,A1*P2=A:=⟨_,rfl⟩
 rw [hA2e] at hR hA2 hi5
 obtain ⟨PP,hPPe⟩:∃ A,P1*P2=A:=⟨_,rfl⟩
 rw [hPPe] at hA2 hPP hLL
 obtain ⟨SET,hSET⟩:∃ A,A2+A3=A:=⟨_,rfl⟩
 rw [hSET] at hR
 have hset:(A2:Int)+(A3:Int)=(SET:Int):=by omega
 have hE8:(8:Int)-(lc:Int)=(E:Int):=by omega
 have hE64:min E 64=E:=by omega
 have hlc64:min lc 64=lc:=by omega
 have hlp64:min lp 64=lp:=by omega
 have hEu:IntKind.u64.wrap (E:Int)=(E:Int):=Go.IntWalk.u64_in _ (by omega)
 have hlcu:IntKind.u64.wrap (lc:Int)=(lc:Int):=Go.IntWalk.u64_in _ (by omega)
 have hlpu:IntKind.u64.wrap (lp:Int)=(lp:Int):=Go.IntWalk.u64_in _ (by omega)
 have hfit:768*SET+768≤L:=by omega
 have hSB:SET<256:=by omega
 obtain ⟨X0,hX0⟩:∃ A,768*SET=A:=⟨_,rfl⟩
 obtain ⟨X1,hX1⟩:∃ A,X0+768=A:=⟨_,rfl⟩
 have hxi0:(768:Int)*(SET:Int)=(X0:Int):=by omega
 have hxi1:(X0:Int)+768=(X1:Int):=by omega
 rw [hX0] at hR hfit
 have hsl:=fun w=>slice_lits k.lb L X0 X1 hfit hX1.symm w
 have b1:P1≤16:=by omega
 have b2:P2≤16:=by omega
 have b3:P3≤256:=by have:=Nat.mul_le_mul_left P3 hP2p;omega
 have b4:A1≤16:=by omega
 have b5:A2≤256:=by omega
 have b6:A3≤16:=by omega
 have b7:X0≤200000:=by omega
 have b8:X1≤200768:=by omega
 have AT:=hid h
 have HCN:=hid hcn
 have HX8:=hid hX8
 clear hcn hX8
 have HRR:=hid hR
 have HPL:=hid PLL
 have HFIT:=hid hfit
 clear h hk hR PLL hlc hlp hL hLL hp1 hp2 hp3 hP1 hP2 hPE hA1 hA3 hA2e hPPe hSET hE hA2 hPP ha1 ha3 hok hP1p hP2p hP3p hfit hX0 hX1
 go_enter Tryz.func106,Tryz.ntmps106
 go_wp2
 go_quiet (fail)
 go_upto_if 58 with fail
 obtain ⟨RR,hRR⟩:∃ RR,(if 7≤st then farGo inC (4096+X0) X far 8 1 s else treeGo inC (4096+X0) X 8 1 s)=RR:=⟨_,rfl⟩
 rw [hRR] at HRR
 have HQ:=hid hRR
 have ATD:=hid (AT.out.later (IC.keep b O) ((Frm.refl _ w).drewN nq))
 have FD:=hid ((Frm.refl (Wr O k) w).drewN nq)
 clear hRR hsl hand hi1 hi2 hi3 hi4 hi5 hset hE8 hE64 hlc64 hlp64 hEu hlcu hlpu hxi0 hxi1 b1 b2 b3 b4 b5 b6 b8 c0 c1 c9
 have hno:=nil_in (inV b)
 have hme:=meth_inbit (inV b)
 go_cut [15,16] from 19 to 94 (fun nv iv wx=>∃ (r m:Nat) (i:Int) (s':CP Enc),nv=.int .i64 m∧iv=.int .i64 i∧i=(r:Int)-1∧r≤8∧2 ^ (8-r)≤m∧m<2 ^ (8-r+1)∧treeGo inC (4096+X0) X r m s'=RR∧LzAt (IC b O) O T wx k st rep s'∧s'.d.cnt+r<1000000∧Frm (Wr O k) w wx)
 case first =>
  by_cases h7:7≤st
  ·have h7i:(7:Int)≤(st:Int):=by omega
   have hRR:=HQ.out
   rw [if_pos h7] at hRR
   have HQ2:=hid hRR
   have h7d:decide (7≤st)=true:=decide_eq_true h7
   clear hRR HQ AT HRR
   go_wp2
   go_step3
   go_wp2
   go_step3
   go_wp2
   have h7e:decide ((7:Int)≤(st:Int))=true:=decide_eq_true h7i
   simp only [h7e]
   clear h7 h7i h7d h7e
   go_loopw [15,16] (fun nv iv wx=>∃ (r m:Nat) (i:Int) (s':CP Enc),nv=.int .i64 m∧iv=.int .i64 i∧i=(r:Int)-1∧r≤8∧2 ^ (8-r)≤m∧m<2 ^ (8-r+1)∧farGo inC (4096+X0) X far r m s'=RR∧LzAt (IC b O) O T wx k st rep s'∧s'.d.cnt+r<1000000∧Frm (Wr O k) w wx) (fun _ iv _=>(intOf iv+1).toNat)
   case atStart=>exact ⟨8,1,7,s,rfl,rfl,by omega,by omega,by simp,by simp,HQ2.out,ATD.out,HCN.out,FD.out⟩
   case round =>
   obtain ⟨r,m,i,s',rfl,rfl,hi,hr,hm1,hm2,hgo,hat,hcn,hfr⟩:=hrel
   have GO:=hid hgo
   have AT:=hid hat
   have FR:=hid hfr
   have CN:=hid hcn
   clear hgo hat hfr hcn ATD FD HQ2
   cases r with
   | zero =>
    obtain rfl:i = -1:=by omega
    have HM1:=hid hm1
    have HM2:=hid hm2
    clear hi hm1 hm2
    go_wp2
    simp only [Exit.noGoto_normal]
    go_wp2
    go_meet
    case rel=>exact ⟨0,m,-1,s',rfl,rfl,by omega,by omega,HM1.out,HM2.out,GO.out,AT.out,CN.out,FR.out⟩
   | succ q =>
    obtain rfl:i=(q:Int):=by omega
    clear hi
    have hpow:m<2 ^ 8:=Nat.lt_of_lt_of_le hm2 (Nat.pow_le_pow_right (by omega) (by omega))
    have hmb:m<256:=by omega
    have HM1:=hid hm1
    have HM2:=hid hm2
    have hq64:min q 64=q:=by omega
    have hqu:IntKind.u64.wrap (q:Int)=(q:Int):=Go.IntWalk.u64_in _ (by omega)
    obtain ⟨Pq,hPq⟩:∃ P,2 ^ q=P:=⟨_,rfl⟩
    have hPi:(2:Int) ^ q=(Pq:Int):=by rw [← hPq];simp
    have hFi:(far:Int) / (Pq:Int)=((far / Pq:Nat):Int):=(Int.natCast_ediv far Pq).symm
    have hFl:far / Pq≤far:=Nat.div_le_self _ _
    obtain ⟨Fq,hFq⟩:∃ F,far / Pq=F:=⟨_,rfl⟩
    rw [hFq] at hFi hFl
    obtain ⟨W,hW⟩:∃ W,Fq % 2=W:=⟨_,rfl⟩
    have hWi:bits .and .i64 (Fq:Int) 1=(W:Int):=by
     have:=and_i64 (a:=Fq) (b:=1) (by omega) (by omega)
     rw [nat_mask1,hW] at this
     exact this
    have hWb:W≤1:=by omega
    obtain ⟨Y,hY⟩:∃ Y,X / Pq=Y:=⟨_,rfl⟩
    have hYi:(X:Int) / (Pq:Int)=(Y:Int):=by rw [← hY];exact (Int.natCast_ediv X Pq).symm
    have hYb:Y<256:=by have:=Nat.div_le_self X Pq;have:=HX8.out;omega
    obtain ⟨V,hV⟩:∃ V,Y % 2=V:=⟨_,rfl⟩
    have hVi:bits .and .i64 (Y:Int) 1=(V:Int):=by
     have:=and_i64 (a:=Y) (b:=1) (by omega) (by omega)
     rw [nat_mask1,hV] at this
     exact this
    have hVb:V≤1:=by omega
    have hgo:(if V=W then farGo inC (4096+X0) X far q (2*m+V) (bitAt inC (4096+X0+(1+W)*256+m) V s').2
     else treeGo inC (4096+X0) X q (2*m+V) (bitAt inC (4096+X0+(1+W)*256+m) V s').2)=RR:=by
     have h:=GO.out
     unfold farGo at h
     simp only at h
     rw [hPq,hFq,hW,hY,hV,bitIn_val _ _ _ hVb] at h
     exact h
    obtain ⟨WW,hWW⟩:∃ x,(1+W)*256=x:=⟨_,rfl⟩
    obtain ⟨V1,hV1⟩:∃ x,1+W=x:=⟨_,rfl⟩
    have hV1i:(1:Int)+(W:Int)=(V1:Int):=by omega
    have hV1b:V1≤2:=by omega
    have hWWi:(V1:Int)*256=(WW:Int):=by omega
    obtain ⟨IX,hIX⟩:∃ x,WW+m=x:=⟨_,rfl⟩
    have hIXi:(WW:Int)+(m:Int)=(IX:Int):=by omega
    have hIXb:IX<768:=by omega
    have hw1:IntKind.i64.wrap (V1:Int)=(V1:Int):=Go.IntWalk.i64_in _ (by omega)
    have hw2:IntKind.i64.wrap (WW:Int)=(WW:Int):=Go.IntWalk.i64_in _ (by omega)
    have hw3:IntKind.i64.wrap (IX:Int)=(IX:Int):=Go.IntWalk.i64_in _ (by omega)
    have hWWb:WW≤512:=by omega
    have HP:=hid (HPL.out (X0+IX) (by have:=HFIT.out;omega))
    have eix:4096+X0+(1+W)*256+m=4096+(X0+IX):=by omega
    rw [eix] at hgo
    have ATD:=hid (AT.out.later (IC.keep b O) ((Frm.refl _ _).drew))
    obtain ⟨s2,hs2⟩:∃ x,(bitAt inC (4096+(X0+IX)) V s').2=x:=⟨_,rfl⟩
    rw [hs2] at hgo
    have hcn2:s2.d.cnt+q<1000000:=by have:=cnt_bitIn1 (4096+(X0+IX)) V s';rw [hs2] at this;have:=CN.out;omega
    have hob:=or_bit (m:=m) (b:=V) (by omega) hVb
    have HS2:=hid hs2
    have CN2:=hid hcn2
    have hmw:IntKind.i64.wrap ((m:Int)*2)=(m:Int)*2:=Go.IntWalk.i64_in _ (by omega)
    have G2:=hid hgo
    clear hm1 hm2 hpow hs2 hcn2 hgo hPq hFq hW hWW hIX hV1 eix GO hY hV
    have hbw:V=W∨¬ V=W:=by omega
    rcases hbw with hbw | hbw
    ·have hne:((V:Int) != (W:Int))=false:=by rw [hbw];simp
     have G3:=hid (show farGo inC (4096+X0) X far q (2*m+V) s2=RR by have:=G2.out;rw [if_pos hbw] at this;exact this)
     clear G2 hbw
     go_wp2
     go_region_with (first
      | (go_at_call 104;refine (ibit_lz ATD.out (by have:=CN.out;omega) (4096+(X0+IX)) k.lb (X0+IX) V V rfl hVb HP.out.1 HP.out.2).mono ?_;rintro e w2 ⟨rfl,h2,f2⟩;rw [HS2.out] at h2))
     all_goals
      have H2:=hid h2
      have F2:=hid ((FR.out.drew).trans f2)
      clear h2 f2
      go_wp2
      have e1:2 ^ (8-q)≤2*m+V:=by
       have:=HM1.out
       rw [show 8-q=8-(q+1)+1 by omega,Nat.pow_succ];omega
      have e2:2*m+V<2 ^ (8-q+1):=by
       have:=HM2.out
       rw [show 8-q+1=8-(q+1)+1+1 by omega,Nat.pow_succ];omega
      exact ⟨⟨q,2*m+V,(q:Int)-1,_,by go_num,by go_num,rfl,by omega,e1,e2,G3.out,H2.out,CN2.out,F2.out⟩,by simp [intOf]⟩
    have hne:((V:Int) != (W:Int))=true:=by rw [bne_iff_ne];omega
    have G3:=hid (show treeGo inC (4096+X0) X q (2*m+V) s2=RR by have:=G2.out;rw [if_neg hbw] at this;exact this)
    clear G2 hbw
    go_wp2
    go_region_with (first
     | (go_at_call 104;refine (ibit_lz ATD.out (by have:=CN.out;omega) (4096+(X0+IX)) k.lb (X0+IX) V V rfl hVb HP.out.1 HP.out.2).mono ?_;rintro e w2 ⟨rfl,h2,f2⟩;rw [HS2.out] at h2))
    all_goals
     have H2:=hid h2
     have F2:=hid ((FR.out.drew).trans f2)
     clear h2 f2
     go_wp2
     simp only [Exit.noGoto_normal]
     go_wp2
     go_meet
     case rel =>
     refine ⟨q,2*m+V,(q:Int)-1,_,by go_num,by go_num,rfl,by omega,?_,?_,G3.out,H2.out,CN2.out,F2.out⟩
     ·have:=HM1.out
      rw [show 8-q=8-(q+1)+1 by omega,Nat.pow_succ];omega
     have:=HM2.out
     rw [show 8-q+1=8-(q+1)+1+1 by omega,Nat.pow_succ];omega
  have h7i:(st:Int)<7:=by omega
  have h7d:decide (7≤st)=false:=decide_eq_false h7
  have hRR:=HQ.out
  rw [if_neg h7] at hRR
  have HQ2:=hid hRR
  clear hRR HQ AT HRR
  go_wp2
  go_meet
  case rel=>exact ⟨8,1,7,s,rfl,rfl,by omega,by omega,by simp,by simp,HQ2.out,ATD.out,HCN.out,FD.out⟩
 case rest =>
 obtain ⟨r0,m0,i0,s0,rfl,rfl,hi0,hr0,hm01,hm02,hgo0,hat0,hcn0,hfr0⟩:=hcut
 have GO0:=hid hgo0
 have AT0:=hid hat0
 have FR0:=hid hfr0
 have CN0:=hid hcn0
 clear hgo0 hat0 hfr0 hcn0 AT ATD FD HQ
 have HI0:=hid hi0
 clear hi0
 go_wp2
 go_loopw [15,16] (fun nv iv wx=>∃ (r m:Nat) (i:Int) (s':CP Enc),nv=.int .i64 m∧iv=.int .i64 i∧i=(r:Int)-1∧r≤8∧2 ^ (8-r)≤m∧m<2 ^ (8-r+1)∧treeGo inC (4096+X0) X r m s'=RR∧LzAt (IC b O) O T wx k st rep s'∧s'.d.cnt+r<1000000∧Frm (Wr O k) w wx) (fun _ iv _=>(intOf iv+1).toNat)
 case atStart=>exact ⟨r0,m0,i0,s0,rfl,rfl,HI0.out,hr0,hm01,hm02,GO0.out,AT0.out,CN0.out,FR0.out⟩
 case round =>
 obtain ⟨r,m,i,s',rfl,rfl,hi,hr,hm1,hm2,hgo,hat,hcn,hfr⟩:=hrel
 have GO:=hid hgo
 have AT:=hid hat
 have FR:=hid hfr
 have CN:=hid hcn
 clear hgo hat hfr hcn CN0 GO0 AT0 FR0 HI0 hm01 hm02 hr0
 cases r with
 | zero =>
  obtain rfl:i = -1:=by omega
  clear hi
  have GO2:(m,s')=RR:=GO.out
  have hma:256≤m:=by simpa using hm1
  have hmb:m<512:=by simpa using hm2
  clear hm1 hm2 hr
  go_wp2
  go_ret
  rw [← HRR.out,← GO2]
  refine ⟨ret_u32 ?_,AT.out,FR.out⟩
  show _=((m-256:Nat):Int)
  omega
 | succ q =>
  obtain rfl:i=(q:Int):=by omega
  clear hi
  have hpow:m<2 ^ 8:=Nat.lt_of_lt_of_le hm2 (Nat.pow_le_pow_right (by omega) (by omega))
  have hml:m<768:=by omega
  have hmb:m<256:=by omega
  have hpos:1≤m:=Nat.le_trans (Nat.one_le_two_pow) hm1
  have HP:=hid (HPL.out (X0+m) (by have:=HFIT.out;omega))
  have HM1:=hid hm1
  have HM2:=hid hm2
  have ATD:=hid (AT.out.later (IC.keep b O) ((Frm.refl _ _).drew))
  have hq64:min q 64=q:=by omega
  have hqu:IntKind.u64.wrap (q:Int)=(q:Int):=Go.IntWalk.u64_in _ (by omega)
  obtain ⟨Pq,hPq⟩:∃ P,2 ^ q=P:=⟨_,rfl⟩
  have hPi:(2:Int) ^ q=(Pq:Int):=by rw [← hPq];simp
  obtain ⟨Y,hY⟩:∃ Y,X / Pq=Y:=⟨_,rfl⟩
  have hYi:(X:Int) / (Pq:Int)=(Y:Int):=by rw [← hY];exact (Int.natCast_ediv X Pq).symm
  have hYb:Y<256:=by have:=Nat.div_le_self X Pq;have:=HX8.out;omega
  obtain ⟨V,hV⟩:∃ V,Y % 2=V:=⟨_,rfl⟩
  have hVi:bits .and .i64 (Y:Int) 1=(V:Int):=by
   have:=and_i64 (a:=Y) (b:=1) (by omega) (by omega)
   rw [nat_mask1,hV] at this
   exact this
  have hVb:V≤1:=by omega
  obtain ⟨s2,hs2⟩:∃ x,(bitAt inC (4096+X0+m) V s').2=x:=⟨_,rfl⟩
  have hgo:treeGo inC (4096+X0) X q (2*m+V) s2=RR:=by
   have h:=GO.out
   unfold treeGo at h
   rw [hPq,hY,hV,bitIn_val _ _ _ hVb,hs2] at h
   exact h
  have hcn2:s2.d.cnt+q<1000000:=by have:=cnt_bitIn1 (4096+X0+m) V s';rw [hs2] at this;have:=CN.out;omega
  have hob:=or_bit (m:=m) (b:=V) (by omega) hVb
  have HS2:=hid hs2
  have CN2:=hid hcn2
  have G3:=hid hgo
  have hmw:IntKind.i64.wrap ((m:Int)*2)=(m:Int)*2:=Go.IntWalk.i64_in _ (by omega)
  clear hm1 hm2 hpow hs2 hcn2 hgo hPq hY hV
  go_wp2
  go_region_with (first
   | (go_at_call 104;refine (ibit_lz ATD.out (by have:=CN.out;omega) (4096+X0+m) k.lb (X0+m) V V rfl hVb (by rw [Nat.add_assoc];exact HP.out.1) (by rw [Nat.add_assoc];exact HP.out.2)).mono ?_;rintro e w2 ⟨rfl,h2,f2⟩;rw [HS2.out] at h2))
  all_goals
   have H2:=hid h2
   have F2:=hid ((FR.out.drew).trans f2)
   clear h2 f2
   go_wp2
   refine ⟨⟨q,2*m+V,(q:Int)-1,_,rfl,by go_num,rfl,by omega,?_,?_,G3.out,H2.out,CN2.out,F2.out⟩,by simp [intOf]⟩
   ·have:=HM1.out
    rw [show 8-q=8-(q+1)+1 by omega,Nat.pow_succ];omega
   have:=HM2.out
   rw [show 8-q+1=8-(q+1)+1+1 by omega,Nat.pow_succ];omega
open Go.RowKit Rng Lz
theorem min3_put {P:Program} (ts:Array TypeId) (t:TypeId) (x y z n:Int) (h:min x (min y z)=n) (w:World):(Builtin.min_ ts t #[.int .i64 x,.int .i64 y,.int .i64 z]).run P w=.ok (.int .i64 n) w:=by
 have e:(if z<(if y<x then y else x) then z else (if y<x then y else x))=n:=by split <;> split <;> omega
 rw [← e]
 simp [Builtin.min_,Builtin.min2]
theorem putreset_st (k0 lc lp pb st:Nat) (rep:Nat→Nat) (pr:Pr) (lv:Value) (T:TypeId) (w:World) (hp:Pts w k0 (qcells lc lp pb st rep pr lv) T) (hcl:lc+lp≤4) (hlv:∃ A n c,lv=.slice A n c) (hpb:pb≤4) :
 Calls Tryz.prog 32 #[.pointer (some ⟨k0,0,none⟩)] w fun e w'=>e=.returned (.tuple #[])∧∃ lb,w.heap.size≤lb∧Pts w' k0 (mcells ⟨k0,lb,lc,lp,pb⟩ 0 (fun _=>0) (fun _=>1024)) T∧Pts w' lb (lcells ⟨k0,lb,lc,lp,pb⟩ (fun _=>1024)) 117∧Frm (· = k0) w w':=by
 have HP:=hid hp
 clear hp
 go_enter Tryz.func32,Tryz.ntmps32
 go_wp2_with fail
 refine (mreset_any k0 lc lp pb st rep pr lv T w HP.out hcl hlv hpb).mono ?_;rintro e w1 ⟨rfl,lb,h1,h2,h3,f1⟩
 have H2:=hid h2
 have H3:=hid h3
 have F1:=hid f1
 clear h2 h3 f1
 go_wp2
 go_end0
 exact ⟨rfl,lb,h1,H2.out,H3.out,F1.out⟩
theorem zero66_size:Tryz.zeroCells136.size=1869:=by kernel_rfl
theorem made_hdr (lc lp pb:Nat):((Tryz.zeroCells134.setIfInBounds 0 (.int .i64 (lc:Int))).setIfInBounds 1 (.int .i64 (lp:Int))).setIfInBounds 2 (.int .i64 (pb:Int))=qcells lc lp pb 0 (fun _=>0) (fun _=>0) (.slice none 0 0):=by
 rw [zero_q,qcells_hdr]
theorem made_put (lc lp pb:Nat):Array.foldl (fun (cs:Array Value) x=>cs.setIfInBounds x.2 x.1) Tryz.zeroCells136 (((Tryz.zeroCells134.setIfInBounds 0 (.int .i64 (lc:Int))).setIfInBounds 1 (.int .i64 (lp:Int))).setIfInBounds 2 (.int .i64 (pb:Int))).zipIdx 0 1869=qcells lc lp pb 0 (fun _=>0) (fun _=>0) (.slice none 0 0):=by
 rw [made_hdr]
 exact fold_all _ _ 1869 (qcells_size _ _ _ _ _ _ _) zero66_size
set_option maxRecDepth 100000 in
set_option maxHeartbeats 1000000 in
theorem putnew_p (lc lp pb:Nat) (h1:lc+lp≤4) (h2:pb≤4) (w:World):Calls Tryz.prog 30 #[.int .i64 lc,.int .i64 lp,.int .i64 pb] w fun e w'=>∃ b lb,e=.returned (.tuple #[.pointer (some ⟨b,0,none⟩),.int .i64 0])∧w.heap.size≤b∧w.heap.size≤lb∧b≠lb ∧
 Pts w' b (mcells ⟨b,lb,lc,lp,pb⟩ 0 (fun _=>0) (fun _=>1024)) 136∧Pts w' lb (lcells ⟨b,lb,lc,lp,pb⟩ (fun _=>1024)) 117∧Below w.heap.size w w':=by
 obtain ⟨m,hm⟩:∃ m:Nat,min lc (min lp pb)=m:=⟨_,rfl⟩
 have hmi:min (lc:Int) (min (lp:Int) (pb:Int))=(m:Int):=by omega
 have hmin:=fun w=>min3_put (P:=Tryz.prog) #[3,3,3] 3 _ _ _ _ hmi w
 have e1:(lc:Int)≤4:=by omega
 have e2:(lp:Int)≤4:=by omega
 have e3:(lc:Int)+(lp:Int)≤4:=by omega
 have e4:(pb:Int)≤4:=by omega
 have H12:=hid (And.intro h1 h2)
 clear hm hmi h1 h2
 go_enter Tryz.func30,Tryz.ntmps30
 go_upto_region 3 with fail
 have hma:=made_put lc lp pb
 clear e1 e2 e3 e4 hmin
 go_wp2_with fail
 have hp:=Pts.new w (qcells lc lp pb 0 (fun _=>0) (fun _=>0) (.slice none 0 0)) 136
 have hb:=(Below.refl w.heap.size w).alloc (Nat.le_refl _) (.cells (qcells lc lp pb 0 (fun _=>0) (fun _=>0) (.slice none 0 0)) 136)
 have hsz:(w.alloc (.cells (qcells lc lp pb 0 (fun _=>0) (fun _=>0) (.slice none 0 0)) 136)).heap.size=w.heap.size+1:=by show (w.heap.push _).size=_;rw [Array.size_push]
 generalize w.alloc (.cells (qcells lc lp pb 0 (fun _=>0) (fun _=>0) (.slice none 0 0)) 136)=wa at *
 refine (putreset_st w.heap.size lc lp pb 0 _ _ _ 136 wa hp H12.out.1 ⟨none,0,0,rfl⟩ H12.out.2).mono ?_;rintro e w1 ⟨rfl,lb,h1,h2,h3,f1⟩
 have H2:=hid h2
 have H3:=hid h3
 have B1:=hid (hb.trans (f1.below hb.size (fun q hq=>by omega)))
 have hlb:w.heap.size<lb:=by omega
 clear h2 h3 f1 hma
 go_wp2
 go_ret2
 exact ⟨w.heap.size,lb,rfl,Nat.le_refl _,by omega,by omega,H2.out,H3.out,B1.out⟩
open Go.RowKit Rng Lz Win
structure WB where
 eb:Nat
 xb:Nat
def WZ (k:LK) (O:Nat→Prop) (g:WB) (q:Nat):Prop:=Wr O k q∨q=g.xb
structure WrAt (O:Nat→Prop) (w:World) (k:LK) (g:WB) (A:Option Addr) (c:Nat) (bs:List UInt8) (shift:Int) (pos:Nat) (st:Nat) (rep:Nat→Nat) (s:CP Enc):Prop where
 lz:LzAt (IC g.eb O) O 136 w k st rep s
 p:Pts w g.xb #[.pointer (some ⟨k.sb,0,none⟩),.pointer (some ⟨g.eb,0,none⟩),.slice A bs.length c,.int .i64 pos,.int .i64 shift] 157
 r:BRow w w.heap.size A bs
 off:BOff (WZ k O g) A bs
 x:¬ O g.xb
section
variable {O : Nat → Prop} {w w' : World} {k : LK} {g : WB} {A : Option Addr} {c : Nat} {bs : List UInt8} {shift : Int} {pos st : Nat} {rep : Nat → Nat} {s : CP Enc}
theorem BRow.apart {B:Nat} {N:Nat→Prop} (h:BRow w B A bs) (ho:BOff N A bs) (hf:Frm N w w'):BRow w' B A bs:=by
 intro h0
 obtain ⟨b,off,rfl,hlt,hc⟩:=h h0
 refine ⟨b,off,rfl,hlt,fun j hj=>?_⟩
 have hN:¬ N b:=ho h0 _ rfl
 have hcell:=hc j hj
 have hb:=World.block_lt_of_cell? w ⟨b,off+j,none⟩ hcell
 rw [World.cell?_of_block (hf.block b hb hN)]
 exact hcell
theorem WrAt.lzStep {st':Nat} {rep':Nat→Nat} {s':CP Enc} (h:WrAt O w k g A c bs shift pos st rep s) (hl:LzAt (IC g.eb O) O 136 w' k st' rep' s') (hf:Frm (Wr O k) w w'):WrAt O w' k g A c bs shift pos st' rep' s':=by
 refine ⟨hl,h.p.frm hf ?_,(h.r.apart h.off (hf.mono fun q _ e=>.inl e)).more hf.size,h.off,h.x⟩
 rintro (e | e | e)
 ·exact h.x e
 ·exact h.p.ne_of h.lz.m (by decide) e
 exact h.p.ne_of h.lz.l (by decide) e
theorem WrAt.drewN (h:WrAt O w k g A c bs shift pos st rep s) (n:Nat):WrAt O (w.drewN n) k g A c bs shift pos st rep s:=h.lzStep (h.lz.later (IC.keep _ _) ((Frm.refl _ w).drewN n)) ((Frm.refl _ w).drewN n)
theorem WrAt.drew (h:WrAt O w k g A c bs shift pos st rep s):WrAt O w.drew k g A c bs shift pos st rep s:=h.lzStep (h.lz.later (IC.keep _ _) ((Frm.refl _ w).drew)) ((Frm.refl _ w).drew)
theorem WrAt.move (h:WrAt O w k g A c bs shift pos st rep s) (pos':Nat):WrAt O (w.setCell ⟨g.xb,3,none⟩ (.int .i64 pos')) k g A c bs shift pos' st rep s∧Frm (WZ k O g) w (w.setCell ⟨g.xb,3,none⟩ (.int .i64 pos')):=by
 have hf:Frm (· = g.xb) w (w.setCell ⟨g.xb,3,none⟩ (.int .i64 pos')):=Frm.setCell (S:=fun x=>x=g.xb) (Frm.refl _ w) (p:=⟨g.xb,3,none⟩) (by rfl) _
 refine ⟨⟨h.lz.frm (IC.keep _ _) hf ?_,h.p.set 3 _,(h.r.apart h.off (hf.mono fun q _ e=>.inr e)).more hf.size,h.off,h.x⟩,hf.mono fun q _ e=>.inr e⟩
 rintro q (e | e | e) e2
 ·exact h.x (e2▸e)
 ·exact h.p.ne_of h.lz.m (by decide) (e2.symm.trans e)
 exact h.p.ne_of h.lz.l (by decide) (e2.symm.trans e)
theorem WrAt.cells (h:WrAt O w k g A c bs shift pos st rep s):w.cell? ⟨g.xb,0,none⟩=some (.pointer (some ⟨k.sb,0,none⟩))∧w.cell? ⟨g.xb,1,none⟩=some (.pointer (some ⟨g.eb,0,none⟩))∧w.cell? ⟨g.xb,2,none⟩=some (.slice A bs.length c) ∧
 w.cell? ⟨g.xb,3,none⟩=some (.int .i64 pos)∧w.cell? ⟨g.xb,4,none⟩=some (.int .i64 shift)∧w.cell? ⟨k.sb,3,none⟩=some (.int .i64 st)∧w.cell? ⟨k.sb,4,none⟩=some (.int .u32 (rep 0)):=by
 refine ⟨by rw [h.p.cell];rfl,by rw [h.p.cell];rfl,by rw [h.p.cell];rfl,by rw [h.p.cell];rfl,by rw [h.p.cell];rfl,(h.lz.hdr (i:=3) (by omega)).1,(h.lz.hdr (i:=4) (by omega)).1⟩
theorem WrAt.byte (h:WrAt O w k g A c bs shift pos st rep s):0<bs.length→∃ b off,A=some ⟨b,off,none⟩∧∀ j,j<bs.length→w.cell? ⟨b,off+j,none⟩=some (.int .u8 ((bs.getD j 0).toNat:Int)):=by
 intro h0
 obtain ⟨b,off,e,_,hc⟩:=h.r h0
 exact ⟨b,off,e,hc⟩
theorem WrAt.alloc (h:WrAt O w k g A c bs shift pos st rep s) (X:Obj):WrAt O (w.alloc X) k g A c bs shift pos st rep s:=h.lzStep (h.lz.later (IC.keep _ _) ((Frm.refl _ w).alloc X)) ((Frm.refl _ w).alloc X)
end
def putLit (k:LK) (bs:List UInt8) (tot pos st:Nat) (rep:Nat→Nat) (s:CP Enc):CP Enc :=
 (litAt inC k.lc k.lp st tot (if 0<tot∧0<pos then (bs.getD (pos-1) 0).toNat else 0) (if rep 0+1≤pos then (bs.getD (pos-(rep 0+1)) 0).toNat else 0) (bs.getD pos 0).toNat (bitAt inC (8+st*16+tot % 2 ^ k.pb) 0 s).2).2
end Go.Proofs.YtffehfpbdcokbaaGreat
