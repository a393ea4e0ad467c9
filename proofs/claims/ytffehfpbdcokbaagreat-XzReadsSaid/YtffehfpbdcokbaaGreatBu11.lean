import Derived.Deep.RegionLaw
import Derived.Test.YtffehfpbdcokbaaGreatBu1
import Derived.Test.YtffehfpbdcokbaaGreatBu2
import Derived.Test.YtffehfpbdcokbaaGreatBu3
import Derived.Test.YtffehfpbdcokbaaGreatBu6
import Derived.Test.YtffehfpbdcokbaaGreatBu8
import Derived.Test.YtffehfpbdcokbaaGreatBu9
import Derived.Test.YtffehfpbdcokbaaGreatBu10
set_option linter.unusedVariables false
set_option linter.unusedSimpArgs false
namespace Go.Proofs.YtffehfpbdcokbaaGreat
open Lib (hid)
open Go.RowKit Rng Win Lz
theorem atB_last {S:Nat} {all:List UInt8} {back:Nat} (h1:1≤back) (h2:back≤S) (h3:back≤all.length):atB (lastN S all) back=all.getD (all.length-back) 0:=by
 have hl:=lastN_length S all
 unfold atB
 rw [if_pos ⟨h1,by rw [hl];omega⟩,hl]
 unfold lastN
 rw [List.getD_eq_getElem?_getD,List.getD_eq_getElem?_getD,List.getElem?_drop,show all.length-S+(min S all.length-back)=all.length-back by omega]
theorem atB_none {S:Nat} {all:List UInt8} {back:Nat} (h:S<back∨all.length<back):atB (lastN S all) back=0:=by
 have hl:=lastN_length S all
 unfold atB
 rw [if_neg (by rw [hl];omega)]
theorem rat_c (base wb kb S back:Nat) (z:Int) (v:Value) (all:List UInt8) (w:World) (hw:RWin w base wb kb S true v all) (hz:z=(back:Int)) (h1:1≤back) (hl:all.length≤140737488355328) :
 Calls Tryz.prog 174 #[.pointer (some ⟨wb,0,none⟩),.int .i64 z] w fun e w'=>(∃ ok,e=.returned (.tuple #[.int .u8 ((atB (lastN S all) back).toNat:Int),.bool ok]))∧∃ d,w'=w.drewN d:=by
 subst hz
 by_cases h:S<back∨all.length<back
 ·refine (rat_no base wb kb S true (back:Int) v all w hw (by omega)).mono ?_
  rintro e w' ⟨rfl,rfl⟩
  rw [atB_none h]
  exact ⟨⟨false,rfl⟩,0,rfl⟩
 refine (rat_yes base wb kb S back v all w hw h1 (by omega) (by omega) hl).mono ?_
 rintro e w' ⟨rfl,hd⟩
 rw [atB_last h1 (by omega) (by omega)]
 exact ⟨⟨true,rfl⟩,hd⟩
theorem dslice_lits (b L f g:Nat) (hf:f+768≤L) (hg:g=f+768) (w:World) :
 (Instr.sliceAt 131 (.slice (some ⟨b,0,none⟩) L L) (some (.int .i64 (f:Int))) (some (.int .i64 (g:Int))) none).run Tryz.prog w=.ok (.slice (some ⟨b,f,none⟩) 768 (L-f)) w:=by
 have h:¬ L=f:=by omega
 have h2:g-f=768:=by omega
 have h3:g≤L:=by omega
 have h4:f≤g:=by omega
 simp [go_sem,h,h2,h3,h4]
def farX (far r:Nat):Nat:=far*2 ^ (8-r) % 256
theorem farX_top {far q:Nat} (hf:far<256) (hq:q<8):farX far (q+1) / 128=far / 2 ^ q % 2∧farX far (q+1)*2 % 256=farX far q:=by
 unfold farX
 rcases (by omega:q=0∨q=1∨q=2∨q=3∨q=4∨q=5∨q=6∨q=7) with rfl | rfl | rfl | rfl | rfl | rfl | rfl | rfl
 all_goals
  simp only [Nat.reduceSub,Nat.reduceAdd,Nat.reducePow]
  omega
theorem farX_lt (far r:Nat):farX far r<256:=Nat.mod_lt _ (by decide)
set_option maxRecDepth 100000 in
set_option maxHeartbeats 4000000 in
theorem dliteral_p (db rb:Nat) (Rw:Obj) (T:TypeId) (k:LK) (base wb kb S st total:Nat) (rep:Nat→Nat) (s:CP Dec) (v:Value) (all:List UInt8) (w:World) (h:LzAt (DCr db rb Rw) (DO db rb) T w k st rep s) (hw:RWin w base wb kb S true v all)
 (hk:k.Ok) (ht:total<4611686018427387904) (hl:all.length≤140737488355328) :
 Calls Tryz.prog 161 #[.pointer (some ⟨k.sb,0,none⟩),.pointer (some ⟨db,0,none⟩),.pointer (some ⟨wb,0,none⟩),.int .i64 total] w fun e w'=>e=.returned (.int .u8 ((litOf outC k st total rep (lastN S all) s).1:Nat)) ∧
  LzAt (DCr db rb Rw) (DO db rb) T w' k st rep (litOf outC k st total rep (lastN S all) s).2∧Frm (Wr (DO db rb) k) w w':=by
 obtain ⟨ahead,hahe⟩:∃ a,(if 0<total then (atB (lastN S all) 1).toNat else 0)=a:=⟨_,rfl⟩
 obtain ⟨far,hfar⟩:∃ a,(if rep 0<16777216 then (atB (lastN S all) (rep 0+1)).toNat else 0)=a:=⟨_,rfl⟩
 unfold litOf
 rw [hahe,hfar]
 have ha:ahead<256:=by
  rw [← hahe];split
  ·exact (atB (lastN S all) 1).toNat_lt
  decide
 have hfa:far<256:=by
  rw [← hfar];split
  ·exact (atB (lastN S all) (rep 0+1)).toNat_lt
  decide
 have HAH:=hid hahe
 have HFAR:=hid hfar
 have HATS:=hid (fun (wd:World) (n back:Nat) (z:Int) (e:wd=w.drewN n) (hz:z=(back:Int)) (h1:1≤back)=>rat_c base wb kb S back z v all wd (by rw [e];exact ⟨hw.p.drewN n,hw.o.drewN n⟩) hz h1 hl)
 clear hahe hfar
 have c0:w.cell? ⟨k.sb,0,none⟩=some (.int .i64 k.lc):=(h.hdr (i:=0) (by omega)).1
 have c1:w.cell? ⟨k.sb,1,none⟩=some (.int .i64 k.lp):=(h.hdr (i:=1) (by omega)).1
 have c3:w.cell? ⟨k.sb,3,none⟩=some (.int .i64 st):=(h.hdr (i:=3) (by omega)).1
 have c4:w.cell? ⟨k.sb,4,none⟩=some (.int .u32 (rep 0)):=(h.hdr (i:=4) (by omega)).1
 have c9:w.cell? ⟨k.sb,1868,none⟩=some (.slice (some ⟨k.lb,0,none⟩) k.L k.L):=by rw [h.m.cell,mcells_get _ _ _ _ (by omega)];rfl
 have hok:=hk.a
 obtain ⟨R,hR⟩:∃ R,litAt outC k.lc k.lp st total ahead far 0 s=R:=⟨_,rfl⟩
 rw [hR]
 unfold litAt at hR
 have hLL:k.L=768*(2 ^ k.lp*2 ^ k.lc):=by unfold LK.L;rw [Nat.pow_add,Nat.mul_comm (2 ^ k.lc)]
 have PLL:∀ j,j<k.L→Place k (4096+j)∧plA k (4096+j)=(k.lb,j):=fun j hj=>pll k hj
 obtain ⟨lc,hlc⟩:∃ e,k.lc=e:=⟨_,rfl⟩
 obtain ⟨lp,hlp⟩:∃ e,k.lp=e:=⟨_,rfl⟩
 obtain ⟨L,hL⟩:∃ e,k.L=e:=⟨_,rfl⟩
 rw [hL] at hLL PLL c9
 rw [hlc] at hLL hR c0 hok
 rw [hlp] at hLL hR c1 hok
 have hP1:2 ^ lp≤2 ^ 4:=Nat.pow_le_pow_right (by omega) (by omega)
 have hP2:2 ^ lc≤2 ^ 4:=Nat.pow_le_pow_right (by omega) (by omega)
 obtain ⟨E,hE⟩:∃ E,8-lc=E:=⟨_,rfl⟩
 have hPE:2 ^ E*2 ^ lc=256:=by rw [← hE,← Nat.pow_add,show 8-lc+lc=8 by omega]
 obtain ⟨P1,hp1⟩:∃ P,2 ^ lp=P:=⟨_,rfl⟩
 obtain ⟨P2,hp2⟩:∃ P,2 ^ lc=P:=⟨_,rfl⟩
 obtain ⟨P3,hp3⟩:∃ P,2 ^ E=P:=⟨_,rfl⟩
 have hi1:(2:Int) ^ lp=(P1:Int):=by rw [← hp1];simp
 have hi2:(2:Int) ^ lc=(P2:Int):=by rw [← hp2];simp
 have hi3:(2:Int) ^ E=(P3:Int):=by rw [← hp3];simp
 have hand:=and_mask ht hp1 (by omega)
 rw [hE,hp1,hp2,hp3] at hR
 rw [hp1,hp2] at hLL
 rw [hp1] at hP1
 rw [hp2] at hP2
 rw [hp2,hp3] at hPE
 have hP1p:1≤P1:=by rw [← hp1];exact Nat.one_le_two_pow
 have hP2p:1≤P2:=by rw [← hp2];exact Nat.one_le_two_pow
 have hP3p:1≤P3:=by rw [← hp3];exact Nat.one_le_two_pow
 have ha1:total % P1<P1:=Nat.mod_lt _ (by omega)
 obtain ⟨A1,hA1⟩:∃ A,total % P1=A:=⟨_,rfl⟩
 rw [hA1] at hand hR ha1
 have ha3:ahead / P3<P2:=by rw [Nat.div_lt_iff_lt_mul (by omega),Nat.mul_comm];omega
 have hi4:(ahead:Int) / (P3:Int)=((ahead / P3:Nat):Int):=(Int.natCast_ediv ahead P3).symm
 obtain ⟨A3,hA3⟩:∃ A,ahead / P3=A:=⟨_,rfl⟩
 rw [hA3] at hR ha3 hi4
 have hA2:A1*P2+P2≤P1*P2:=by
  have:=Nat.mul_le_mul_right P2 (show A1+1≤P1 by omega)
  rw [Nat.add_mul,Nat.one_mul] at this
  exact this
 have hPP:P1*P2≤16*16:=Nat.mul_le_mul hP1 hP2
 have hi5:(A1:Int)*(P2:Int)=((A1*P2:Nat):Int):=by simp
 obtain ⟨A2,hA2e⟩:∃ A,A1*P2=A:=⟨_,rfl⟩
 rw [hA2e] at hR hA2 hi5
 obtain ⟨PP,hPPe⟩:∃ A,P1*P2=A:=⟨_,rfl⟩
 rw [hPPe] at hA2 hPP hLL
 obtain ⟨SET,hSET⟩:∃ A,A2+A3=A:=⟨_,rfl⟩
 rw [hSET] at hR
 have hset:(A2:Int)+(A3:Int)=(SET:Int):=by omega
 have hE8:(8:Int)-(lc:Int)=(E:Int):=by omega
 have hE64:min E 64=E:=by omega
 have hlc64:min lc 64=lc:=by omega
 have hlp64:min lp 64=lp:=by omega
 have hEu:IntKind.u64.wrap (E:Int)=(E:Int):=Go.IntWalk.u64_in _ (by omega)
 have hlcu:IntKind.u64.wrap (lc:Int)=(lc:Int):=Go.IntWalk.u64_in _ (by omega)
 have hlpu:IntKind.u64.wrap (lp:Int)=(lp:Int):=Go.IntWalk.u64_in _ (by omega)
 have hfit:768*SET+768≤L:=by omega
 have hSB:SET<256:=by omega
 obtain ⟨X0,hX0⟩:∃ A,768*SET=A:=⟨_,rfl⟩
 obtain ⟨X1,hX1⟩:∃ A,X0+768=A:=⟨_,rfl⟩
 have hxi0:(768:Int)*(SET:Int)=(X0:Int):=by omega
 have hxi1:(X0:Int)+768=(X1:Int):=by omega
 rw [hX0] at hR hfit
 have hsl:=fun w=>dslice_lits k.lb L X0 X1 hfit hX1.symm w
 have b1:P1≤16:=by omega
 have b2:P2≤16:=by omega
 have b3:P3≤256:=by have:=Nat.mul_le_mul_left P3 hP2p;omega
 have b4:A1≤16:=by omega
 have b5:A2≤256:=by omega
 have b6:A3≤16:=by omega
 have b7:X0≤200000:=by omega
 have b8:X1≤200768:=by omega
 have AT:=hid h
 have HRR:=hid hR
 have HPL:=hid PLL
 have HFIT:=hid hfit
 clear h hk hR PLL hlc hlp hL hLL hp1 hp2 hp3 hP1 hP2 hPE hA1 hA3 hA2e hPPe hSET hE hA2 hPP ha1 ha3 hok hP1p hP2p hP3p hfit hX0 hX1 hw hl
 go_enter Tryz.func161,Tryz.ntmps161
 go_upto_if 17 with fail
 go_cut [9] from 10 (fun v wx=>v=.int .u8 (ahead:Int)∧∃ n,wx=w.drewN n)
 case first =>
  by_cases h0:0<total
  ·have h0i:(0:Int)<(total:Int):=by omega
   have HAH2:=hid (show (atB (lastN S all) 1).toNat=ahead by have:=HAH.out;rw [if_pos h0] at this;exact this)
   clear h0
   go_wp2_with fail
   refine (HATS.out w 0 1 _ rfl rfl (by omega)).mono ?_;rintro e w2 ⟨⟨ok,rfl⟩,n2,rfl⟩
   rw [HAH2.out]
   go_wp2
   go_meet
   case rel=>exact ⟨rfl,n2,rfl⟩
  have h0i:¬ (0:Int)<(total:Int):=by omega
  have HAH2:=hid (show 0=ahead by have:=HAH.out;rw [if_neg h0] at this;exact this)
  clear h0
  go_wp2
  go_meet
  case rel=>exact ⟨by rw [← HAH2.out];rfl,0,rfl⟩
 case rest =>
 obtain ⟨rfl,n1,hw1⟩:=hcut
 have AT1:=hid (AT.out.later (DCr.keep db rb Rw) ((Frm.refl _ w).drewN n1))
 have F1:Hid (Frm (Wr (DO db rb) k) w (w.drewN n1)):=hid ((Frm.refl _ w).drewN n1)
 have d0:wc.cell? ⟨k.sb,0,none⟩=some (.int .i64 lc):=by rw [hw1];exact c0
 have d1:wc.cell? ⟨k.sb,1,none⟩=some (.int .i64 lp):=by rw [hw1];exact c1
 have d3:wc.cell? ⟨k.sb,3,none⟩=some (.int .i64 st):=by rw [hw1];exact c3
 have d4:wc.cell? ⟨k.sb,4,none⟩=some (.int .u32 (rep 0)):=by rw [hw1];exact c4
 have d9:wc.cell? ⟨k.sb,1868,none⟩=some (.slice (some ⟨k.lb,0,none⟩) L L):=by rw [hw1];exact c9
 rw [← hw1] at AT1 F1
 have HW1:=hid hw1
 clear c0 c1 c3 c4 c9 AT hw1 HAH
 go_wp2
 go_quiet (fail)
 go_upto_if 59 with fail
 obtain ⟨RR,hRR⟩:∃ RR,(if 7≤st then farGo outC (4096+X0) 0 far 8 1 s else treeGo outC (4096+X0) 0 8 1 s)=RR:=⟨_,rfl⟩
 rw [hRR] at HRR
 have HQ:=hid hRR
 have AT2:=hid (AT1.out.later (DCr.keep db rb Rw) ((Frm.refl _ wc).drewN nq))
 have F2:Hid (Frm (Wr (DO db rb) k) w (wc.drewN nq)):=hid (F1.out.drewN nq)
 have HW2:Hid (wc.drewN nq=w.drewN (n1+nq)∨True):=hid (.inr trivial)
 obtain ⟨w2,hw2⟩:∃ w2,wc.drewN nq=w2:=⟨_,rfl⟩
 have e3:w2.cell? ⟨k.sb,3,none⟩=some (.int .i64 st):=by rw [← hw2];exact d3
 have e4:w2.cell? ⟨k.sb,4,none⟩=some (.int .u32 (rep 0)):=by rw [← hw2];exact d4
 have HW3:Hid (wc.drewN nq=w2):=hid hw2
 rw [hw2] at AT2 F2
 rw [hw2]
 clear hRR hsl hand hi1 hi2 hi3 hi4 hi5 hset hE8 hE64 hlc64 hlp64 hEu hlcu hlpu hxi0 hxi1 b1 b2 b3 b4 b5 b6 b8 d0 d1 d3 d4 d9 AT1 F1 hw2 HW2
 go_cut [12] from 13 (fun mv wx=>∃ (r m:Nat) (s':CP Dec),mv=.int .i64 (m:Int)∧r≤8∧2 ^ (8-r)≤m∧m<2 ^ (8-r+1)∧treeGo outC (4096+X0) 0 r m s'=RR∧LzAt (DCr db rb Rw) (DO db rb) T wx k st rep s'∧Frm (Wr (DO db rb) k) w wx)
 case first =>
  by_cases h7:7≤st
  ·have h7i:(7:Int)≤(st:Int):=by omega
   have hRR:=HQ.out
   rw [if_pos h7] at hRR
   have HQ2:=hid hRR
   clear hRR HQ HRR h7
   go_upto_if 65 with fail
   go_cut [13] from 14 (fun v wx=>v=.int .u8 (far:Int)∧∃ n,wx=w2.drewN n)
   case first =>
    by_cases hr0:rep 0<16777216
    ·have hr0i:(rep 0:Int)<16777216:=by omega
     have HF2:=hid (show (atB (lastN S all) (rep 0+1)).toNat=far by have:=HFAR.out;rw [if_pos hr0] at this;exact this)
     have h0i2:decide ((rep 0:Int)<16777216)=true:=decide_eq_true hr0i
     simp only [h0i2]
     have hz:(rep 0:Int)+1=((rep 0+1:Nat):Int):=by omega
     obtain ⟨z1,hz1⟩:∃ z1,(rep 0:Int)+1=z1:=⟨_,rfl⟩
     obtain ⟨r0,hr00⟩:∃ r0,rep 0=r0:=⟨_,rfl⟩
     have hr0b:r0<16777216:=by omega
     rw [hr00] at e4 hr0i hz hz1 HF2
     have HZ:=hid (hz1.symm.trans hz)
     have hwr:IntKind.i64.wrap (r0:Int)=(r0:Int):=Go.IntWalk.i64_in _ (by omega)
     have hwz:IntKind.i64.wrap z1=z1:=Go.IntWalk.i64_in _ (by omega)
     clear hr0 hz hr00 hr0b hr0i h0i2
     go_wp2_with fail
     refine (HATS.out w2 (n1+nq) (r0+1) _ (by rw [← HW3.out,HW1.out];exact World.drewN_drewN _ _ _) HZ.out (by omega)).mono ?_;rintro e w4 ⟨⟨ok,rfl⟩,n2,rfl⟩
     rw [HF2.out]
     go_wp2
     go_meet
     case rel=>exact ⟨rfl,n2,rfl⟩
    have hr0i:¬ ((rep 0:Int)<16777216):=by omega
    have HF2:=hid (show 0=far by have:=HFAR.out;rw [if_neg hr0] at this;exact this)
    have h0i2:decide ((rep 0:Int)<16777216)=false:=decide_eq_false hr0i
    simp only [h0i2]
    clear hr0 hr0i h0i2
    go_wp2
    go_meet
    case rel=>exact ⟨by rw [← HF2.out];rfl,0,rfl⟩
   case rest =>
   obtain ⟨rfl,n2,hw3⟩:=hcut
   have AT3:=hid (AT2.out.later (DCr.keep db rb Rw) ((Frm.refl _ w2).drewN n2))
   have F3:Hid (Frm (Wr (DO db rb) k) w (w2.drewN n2)):=hid (F2.out.drewN n2)
   rw [← hw3] at AT3 F3
   clear hw3 AT2 F2 e3 e4 HW3 HW1 HATS HFAR
   go_wp2
   go_loopw [12,13] (fun mv xv wr=>∃ (r m:Nat) (s':CP Dec),mv=.int .i64 (m:Int)∧xv=.int .u8 (farX far r:Int)∧r≤8∧2 ^ (8-r)≤m∧m<2 ^ (8-r+1)∧farGo outC (4096+X0) 0 far r m s'=RR∧LzAt (DCr db rb Rw) (DO db rb) T wr k st rep s'∧Frm (Wr (DO db rb) k) w wr) (fun mv _ _=>256-(intOf mv).toNat)
   case atStart=>exact ⟨8,1,s,rfl,by unfold farX;simp;omega,by omega,by simp,by simp,HQ2.out,AT3.out,F3.out⟩
   case round =>
   obtain ⟨r,m,s',rfl,rfl,hr,hm1,hm2,hgo,hat,hfr⟩:=hrel
   have GO:=hid hgo
   have AT:=hid hat
   have FR:=hid hfr
   clear hgo hat hfr AT3 F3 HQ2
   cases r with
   | zero =>
    have hm3:256≤m:=by simpa using hm1
    have hmi:¬ (m:Int)<256:=by omega
    have HM2:=hid hm2
    have HM1:=hid hm1
    clear hm1 hm2 hm3
    go_wp2
    go_meet
    case rel=>exact ⟨0,m,s',rfl,by omega,HM1.out,HM2.out,GO.out,AT.out,FR.out⟩
   | succ q =>
    have hq8:q<8:=by omega
    have hpow:m<2 ^ 8:=Nat.lt_of_lt_of_le hm2 (Nat.pow_le_pow_right (by omega) (by omega))
    have hmb:m<256:=by omega
    have hpos:1≤m:=Nat.le_trans (Nat.one_le_two_pow) hm1
    have HM1:=hid hm1
    have HM2:=hid hm2
    obtain ⟨g1,g2⟩:=farX_top hfa hq8
    have gl:=farX_lt far (q+1)
    have gl2:=farX_lt far q
    obtain ⟨X,hX⟩:∃ X,farX far (q+1)=X:=⟨_,rfl⟩
    rw [hX] at g1 g2 gl ⊢
    obtain ⟨X2,hX2⟩:∃ X,farX far q=X:=⟨_,rfl⟩
    rw [hX2] at g2 gl2
    obtain ⟨W,hW⟩:∃ W,far / 2 ^ q % 2=W:=⟨_,rfl⟩
    rw [hW] at g1
    have hXi:(X:Int) / 128=(W:Int):=by omega
    have hX2i:(X:Int)*2 % 256=(X2:Int):=by omega
    have hWb:W≤1:=by omega
    have hgo:(if (bitAt outC (4096+X0+(1+W)*256+m) 0 s').1=W then farGo outC (4096+X0) 0 far q (2*m+(bitAt outC (4096+X0+(1+W)*256+m) 0 s').1) (bitAt outC (4096+X0+(1+W)*256+m) 0 s').2
     else treeGo outC (4096+X0) 0 q (2*m+(bitAt outC (4096+X0+(1+W)*256+m) 0 s').1) (bitAt outC (4096+X0+(1+W)*256+m) 0 s').2)=RR:=by
     rw [← GO.out]
     show _=(if (bitAt outC (4096+X0+(1+far / 2 ^ q % 2)*256+m) (0 / 2 ^ q % 2) s').1=far / 2 ^ q % 2 then farGo outC (4096+X0) 0 far q (2*m+(bitAt outC (4096+X0+(1+far / 2 ^ q % 2)*256+m) (0 / 2 ^ q % 2) s').1) (bitAt outC (4096+X0+(1+far / 2 ^ q % 2)*256+m) (0 / 2 ^ q % 2) s').2
      else treeGo outC (4096+X0) 0 q (2*m+(bitAt outC (4096+X0+(1+far / 2 ^ q % 2)*256+m) (0 / 2 ^ q % 2) s').1) (bitAt outC (4096+X0+(1+far / 2 ^ q % 2)*256+m) (0 / 2 ^ q % 2) s').2)
     rw [Nat.zero_div,Nat.zero_mod,hW]
    obtain ⟨WW,hWW⟩:∃ x,(1+W)*256=x:=⟨_,rfl⟩
    obtain ⟨V1,hV1⟩:∃ x,1+W=x:=⟨_,rfl⟩
    have hV1i:(1:Int)+(W:Int)=(V1:Int):=by omega
    have hV1b:V1≤2:=by omega
    have hWWi:(V1:Int)*256=(WW:Int):=by omega
    obtain ⟨IX,hIX⟩:∃ x,WW+m=x:=⟨_,rfl⟩
    have hIXi:(WW:Int)+(m:Int)=(IX:Int):=by omega
    have hIXb:IX<768:=by omega
    have hw1:IntKind.i64.wrap (V1:Int)=(V1:Int):=Go.IntWalk.i64_in _ (by omega)
    have hw2:IntKind.i64.wrap (WW:Int)=(WW:Int):=Go.IntWalk.i64_in _ (by omega)
    have hw3:IntKind.i64.wrap (IX:Int)=(IX:Int):=Go.IntWalk.i64_in _ (by omega)
    have hWWb:WW≤512:=by omega
    have HP:=hid (HPL.out (X0+IX) (by have:=HFIT.out;omega))
    have eix:4096+X0+(1+W)*256+m=4096+(X0+IX):=by omega
    rw [eix] at hgo
    have hbl:=bitAt_le outC (4096+(X0+IX)) 0 s'
    obtain ⟨⟨bb,s2⟩,hbb⟩:∃ x,bitAt outC (4096+(X0+IX)) 0 s'=x:=⟨_,rfl⟩
    rw [hbb] at hbl hgo
    dsimp only at hbl hgo
    have HBB:=hid hbb
    have HX2:=hid hX2
    have G2:=hid hgo
    clear hm1 hm2 hpow hbb hgo hW hWW hIX hV1 eix GO g1 g2 hX hX2
    go_wp2_with fail
    refine (dz_bit AT.out (4096+(X0+IX)) k.lb (X0+IX) HP.out.1 HP.out.2).mono ?_;rintro e w4 ⟨rfl,h4,f4⟩
    rw [HBB.out] at h4 ⊢
    dsimp only at h4 ⊢
    have H4:=hid h4
    have F4:=hid (FR.out.trans f4)
    have e1:Hid (2 ^ (8-q)≤2*m+bb):=hid (by
     have:=HM1.out
     rw [show 8-q=8-(q+1)+1 by omega,Nat.pow_succ];omega)
    have e2:Hid (2*m+bb<2 ^ (8-q+1)):=hid (by
     have:=HM2.out
     rw [show 8-q+1=8-(q+1)+1+1 by omega,Nat.pow_succ];omega)
    clear h4 f4
    have hbw:bb=W∨¬ bb=W:=by omega
    rcases hbw with hbw | hbw
    ·have hne:((bb:Int) != (W:Int))=false:=by rw [hbw];simp
     have G3:=hid (show farGo outC (4096+X0) 0 far q (2*m+bb) s2=RR by have:=G2.out;rw [if_pos hbw] at this;exact this)
     clear G2 hbw
     go_wp2
     exact ⟨⟨q,2*m+bb,s2,by go_num,by rw [HX2.out,hX2i],by omega,e1.out,e2.out,G3.out,H4.out,F4.out⟩,by simp [intOf];omega⟩
    have hne:((bb:Int) != (W:Int))=true:=by simp;omega
    have G3:=hid (show treeGo outC (4096+X0) 0 q (2*m+bb) s2=RR by have:=G2.out;rw [if_neg hbw] at this;exact this)
    clear G2 hbw
    go_wp2
    go_meet
    case rel=>exact ⟨q,2*m+bb,s2,by go_num,by omega,e1.out,e2.out,G3.out,H4.out,F4.out⟩
  have h7i:¬ (7:Int)≤(st:Int):=by omega
  have hRR:=HQ.out
  rw [if_neg h7] at hRR
  have HQ2:=hid hRR
  clear hRR HQ HRR h7
  go_wp2
  go_meet
  case rel=>exact ⟨8,1,s,rfl,by omega,by simp,by simp,HQ2.out,AT2.out,F2.out⟩
 case rest =>
 obtain ⟨r,m,s',rfl,hr,hm1,hm2,hgo,hat,hfr⟩:=hcut
 have HI:=hid (And.intro hm1 (And.intro hm2 (And.intro hgo (And.intro hat (And.intro hfr hr)))))
 clear hm1 hm2 hgo hat hfr hr AT2 F2 e3 e4 HW3 HW1 HATS HFAR HQ
 go_wp2
 go_loopw [12] (fun mv wr=>∃ (r m:Nat) (s':CP Dec),mv=.int .i64 (m:Int)∧r≤8∧2 ^ (8-r)≤m∧m<2 ^ (8-r+1)∧treeGo outC (4096+X0) 0 r m s'=RR∧LzAt (DCr db rb Rw) (DO db rb) T wr k st rep s'∧Frm (Wr (DO db rb) k) w wr) (fun mv _=>256-(intOf mv).toNat)
 case atStart=>exact ⟨r,m,s',rfl,HI.out.2.2.2.2.2,HI.out.1,HI.out.2.1,HI.out.2.2.1,HI.out.2.2.2.1,HI.out.2.2.2.2.1⟩
 case round =>
 clear HI
 obtain ⟨r,m,s',rfl,hr,hm1,hm2,hgo,hat,hfr⟩:=hrel
 have GO:=hid hgo
 have AT:=hid hat
 have FR:=hid hfr
 clear hgo hat hfr
 cases r with
 | zero =>
  have hm3:256≤m:=by simpa using hm1
  have hm4:m<512:=by simpa using hm2
  have hmi:¬ (m:Int)<256:=by omega
  have GO2:(m,s')=RR:=GO.out
  have HR2:=HRR.out
  rw [← GO2] at HR2
  obtain ⟨m5,hm5⟩:∃ m5,m-256=m5:=⟨_,rfl⟩
  have hm6:(m:Int)-256=(m5:Int):=by omega
  have hm7:(m5:Int) % 256=(m5:Int):=by omega
  have hm8:IntKind.u8.wrap (m5:Int)=(m5:Int):=Go.IntWalk.u8_in _ (by omega)
  have hm9:IntKind.i64.wrap (m5:Int)=(m5:Int):=Go.IntWalk.i64_in _ (by omega)
  have HM5:=hid hm5
  have HR3:=hid HR2
  clear hm1 hm2 hm3 hm4 GO GO2 HR2 hm5
  go_wp2
  go_ret
  rw [← HR3.out]
  refine ⟨?_,AT.out,FR.out⟩
  show _=Ending.returned (.int .u8 ((m-256:Nat):Int))
  rw [HM5.out]
  rfl
 | succ q =>
  have hpow:m<2 ^ 8:=Nat.lt_of_lt_of_le hm2 (Nat.pow_le_pow_right (by omega) (by omega))
  have hmb:m<256:=by omega
  have hpos:1≤m:=Nat.le_trans (Nat.one_le_two_pow) hm1
  have HM1:=hid hm1
  have HM2:=hid hm2
  have HP:=hid (HPL.out (X0+m) (by have:=HFIT.out;omega))
  have hbl:=bitAt_le outC (4096+(X0+m)) 0 s'
  obtain ⟨⟨bb,s2⟩,hbb⟩:∃ x,bitAt outC (4096+(X0+m)) 0 s'=x:=⟨_,rfl⟩
  have G3:Hid (treeGo outC (4096+X0) 0 q (2*m+bb) s2=RR):=hid (by
   rw [← GO.out]
   show _=treeGo outC (4096+X0) 0 q (2*m+(bitAt outC (4096+X0+m) (0 / 2 ^ q % 2) s').1) (bitAt outC (4096+X0+m) (0 / 2 ^ q % 2) s').2
   rw [Nat.zero_div,Nat.zero_mod,show 4096+X0+m=4096+(X0+m) by omega,hbb])
  rw [hbb] at hbl
  dsimp only at hbl
  have HBB:=hid hbb
  clear hm1 hm2 hpow hbb GO
  go_wp2_with fail
  refine (dz_bit AT.out (4096+(X0+m)) k.lb (X0+m) HP.out.1 HP.out.2).mono ?_;rintro e w4 ⟨rfl,h4,f4⟩
  rw [HBB.out] at h4 ⊢
  dsimp only at h4 ⊢
  have H4:=hid h4
  have F4:=hid (FR.out.trans f4)
  have e1:Hid (2 ^ (8-q)≤2*m+bb):=hid (by
   have:=HM1.out
   rw [show 8-q=8-(q+1)+1 by omega,Nat.pow_succ];omega)
  have e2:Hid (2*m+bb<2 ^ (8-q+1)):=hid (by
   have:=HM2.out
   rw [show 8-q+1=8-(q+1)+1+1 by omega,Nat.pow_succ];omega)
  clear h4 f4
  go_wp2
  exact ⟨⟨q,2*m+bb,s2,by go_num,by omega,e1.out,e2.out,G3.out,H4.out,F4.out⟩,by simp [intOf];omega⟩
open Go.RowKit
theorem stepR_append_bytes {P:Program} (w:World) {ops:Array Oper} {o:Oper} {a:Act} {K:Act→World→Prop} {Q:Exit→Act→World→Prop} {E:Prop} (hg:o.guard=none) (s x:Operand) (t:TypeId)
 (ho:o.op=.call { callee:=.builtin .append,args:=#[s,x],argTypes:=#[t,t] })
 (T base:Nat) (ht:P.underlying t=some (.slice T)) (hinfo:(P.info? T).map (fun i=>(i.zero,i.size,i.bytes))=some (some (.int .u8 0),1,1))
 (v:Value) (bs:List UInt8) (hs:a.eval s=v) (hown:OwnB w T base v bs) (A:Option Addr) (m c B:Nat) (news:List UInt8) (hx:a.eval x=.slice A m c) (hm:m=news.length) (hnews:BRow w B A news)
 (hlen:bs.length+news.length≤140737488355328) (hbase:base≤w.heap.size)
 (h:∀ v' w',OwnB w' T base v' (bs++news)→Frm (fun k=>v.ownBlock=some k) w w'→(v'.ownBlock=v.ownBlock∨v'.ownBlock=some w.heap.size)→K (a.put o.dst v') w') :
 if Region.wanted o (yielded ops a.tmps)=true then Oper.wp P o a w K Q else E:=by
 have hw:Region.wanted o (yielded ops a.tmps)=true:=by simp [Region.wanted,hg]
 rw [if_pos hw]
 exact wp_append_bytes w s x t ho T base ht hinfo v bs hs hown A m c B news hx hm hnews hlen hbase h
open Go.RowKit Rng
theorem slice_fromR (A:Option Addr) (n c f:Nat) (hf:f≤n) (hn:n≤c) (w:World) :
 (Instr.sliceAt 22 (.slice A n c) (some (.int .i64 (f:Int))) none none).run Tryz.prog w=.ok (.slice (if c=f then A else A.map (·.add f)) (n-f) (c-f)) w:=by
 by_cases hcf:c=f
 ·simp [go_sem,hcf]
  intro h;omega
 simp [go_sem,hcf]
 intro h;omega
theorem or_at {x y:Nat} (i:Nat) (hx:x % 2 ^ i=0) (hy:y<2 ^ i) (h:x+y<4294967296):bits .or .u32 (x:Int) (y:Int)=((x+y:Nat):Int):=by
 have e1:x<Num.M32:=by show x<4294967296;omega
 have e2:y<Num.M32:=by show y<4294967296;omega
 have h1:=Num.or32 e1 e2
 have h3:=Nat.shiftLeft_add_eq_or_of_lt (a:=x / 2 ^ i) (b:=y) (i:=i) hy
 have e:(x / 2 ^ i) <<< i=x:=by rw [Nat.shiftLeft_eq];exact Nat.div_mul_cancel (Nat.dvd_of_mod_eq_zero hx)
 rw [e] at h3
 rw [← h3] at h1
 exact h1
def be4 (bs:List UInt8):Nat:=(((bs.getD 1 0).toNat*256+(bs.getD 2 0).toNat)*256+(bs.getD 3 0).toNat)*256+(bs.getD 4 0).toNat
def newDec (bs:List UInt8):Dec:=⟨bs.drop 5,4294967295,be4 bs,false⟩
theorem be4_lt (bs:List UInt8):be4 bs<4294967296:=by
 unfold be4
 have h1:=(bs.getD 1 0).toNat_lt
 have h2:=(bs.getD 2 0).toNat_lt
 have h3:=(bs.getD 3 0).toNat_lt
 have h4:=(bs.getD 4 0).toNat_lt
 omega
theorem newDec_fits (bs:List UInt8):(newDec bs).Fits:=⟨by show 4294967295<4294967296;omega,be4_lt bs⟩
def newErr (bs:List UInt8):Int:=if bs.length<5 then 10 else if bs.getD 0 0=0 then 0 else 11
theorem dnew_bad_p (A:Option Addr) (bs:List UInt8) (n c B:Nat) (w:World) (hn:n=bs.length) (hr:BRow w B A bs) (hc:bs.length≤c) (hcm:c≤maxLen) (h:newErr bs≠0) :
 Calls Tryz.prog 140 #[.slice A n c] w fun e w'=>e=.returned (.tuple #[.pointer none,.int .i64 (newErr bs)])∧w=w':=by
 subst hn
 by_cases h5:bs.length<5
 ·have e:newErr bs=10:=if_pos h5
  rw [e]
  clear h e
  go_enter Tryz.func140,Tryz.ntmps140
  go_wp2
  go_ret2
  exact ⟨rfl,rfl⟩
 by_cases h0:bs.getD 0 0=0
 ·exact absurd (by unfold newErr;rw [if_neg h5,if_pos h0]) h
 have e:newErr bs=11:=by unfold newErr;rw [if_neg h5,if_neg h0]
 rw [e]
 obtain ⟨ab,off,rfl,hab,hcell⟩:=hr (by omega)
 have x0:w.cell? ⟨ab,off,none⟩=some (.int .u8 ((bs.getD 0 0).toNat:Int)):=hcell 0 (by omega)
 have hne:(((bs.getD 0 0).toNat:Int)==0)=false:=by
  have h9:(bs.getD 0 0).toNat≠0:=fun e=>h0 (UInt8.toNat_inj.1 (by simpa using e))
  exact beq_eq_false_iff_ne.2 (by omega)
 generalize ((bs.getD 0 0).toNat:Int)=x at *
 have hlen:5≤bs.length:=by omega
 clear h e h0 hcell h5 hr
 go_enter Tryz.func140,Tryz.ntmps140
 go_wp2
 go_ret2
 exact ⟨rfl,rfl⟩
theorem dnew_bad_r (A:Option Addr) (bs:List UInt8) (n c B:Nat) (w:World) (hn:n=bs.length) (hr:BRow w B A bs) (hc:bs.length≤c) (hcm:c≤maxLen) (h:newErr bs≠0) :
 Calls Tryz.prog 146 #[.slice A n c] w fun e w'=>e=.returned (.tuple #[.pointer none,.int .i64 (newErr bs)])∧w=w':=by
 subst hn
 by_cases h5:bs.length<5
 ·have e:newErr bs=10:=if_pos h5
  rw [e]
  clear h e
  go_enter Tryz.func146,Tryz.ntmps146
  go_wp2
  go_ret2
  exact ⟨rfl,rfl⟩
 by_cases h0:bs.getD 0 0=0
 ·exact absurd (by unfold newErr;rw [if_neg h5,if_pos h0]) h
 have e:newErr bs=11:=by unfold newErr;rw [if_neg h5,if_neg h0]
 rw [e]
 obtain ⟨ab,off,rfl,hab,hcell⟩:=hr (by omega)
 have x0:w.cell? ⟨ab,off,none⟩=some (.int .u8 ((bs.getD 0 0).toNat:Int)):=hcell 0 (by omega)
 have hne:(((bs.getD 0 0).toNat:Int)==0)=false:=by
  have h9:(bs.getD 0 0).toNat≠0:=fun e=>h0 (UInt8.toNat_inj.1 (by simpa using e))
  exact beq_eq_false_iff_ne.2 (by omega)
 generalize ((bs.getD 0 0).toNat:Int)=x at *
 have hlen:5≤bs.length:=by omega
 clear h e h0 hcell h5 hr
 go_enter Tryz.func146,Tryz.ntmps146
 go_wp2
 go_ret2
 exact ⟨rfl,rfl⟩
theorem newRow {w W:World} {bs:List UInt8} {A:Option Addr} {c:Nat} (hr:BRow w w.heap.size A bs) (hb:Below w.heap.size w W) (hc:bs.length≤c):BRow W W.heap.size (if c=5 then A else A.map (·.add 5)) (bs.drop 5) :=
 ((hr.drop (k:=5) (cap:=c) hc).below hb).more hb.size
theorem newRow5 {w W:World} {bs:List UInt8} {ab off c:Nat} (hc5:¬ c=5) (hr:BRow w w.heap.size (some ⟨ab,off,none⟩) bs) (hb:Below w.heap.size w W) (hc:bs.length≤c):BRow W W.heap.size (some ⟨ab,off+5,none⟩) (bs.drop 5):=by
 have h9:=newRow hr hb hc
 rw [if_neg hc5,Option.map_some,Opn.add_at] at h9
 exact h9
theorem newRow0 {w W:World} {bs:List UInt8} {ab off c:Nat} (hc5:c=5) (hr:BRow w w.heap.size (some ⟨ab,off,none⟩) bs) (hb:Below w.heap.size w W) (hc:bs.length≤c):BRow W W.heap.size (some ⟨ab,off,none⟩) (bs.drop 5):=by
 have h9:=newRow hr hb hc
 rw [if_pos hc5] at h9
 exact h9
theorem DecAt.made {W:World} {T b ab c5 be:Nat} {A5:Option Addr} {bs:List UInt8} (hp:Pts W b #[.slice A5 (bs.length-5) c5,.int .u32 ((4294967295:Nat):Int),.int .u32 be,.bool false] T) (hr:BRow W W.heap.size A5 (bs.drop 5)) (ho:∀ ad,A5=some ad→ad.block=ab)
 (hc:bs.length-5≤c5) (hcm:c5≤maxLen) (hfit:Dec.Fits ⟨bs.drop 5,4294967295,be,false⟩) (hn:ab≠b):DecAt W T b ab ⟨bs.drop 5,4294967295,be,false⟩:=by
 refine ⟨⟨A5,c5,?_,hr,fun h0 ad e=>by simpa using ho ad e,?_,hcm⟩,hfit,hn⟩
 ·show Pts _ _ #[.slice _ (bs.drop 5).length _,_,_,_] _
  rw [List.length_drop]
  exact hp
 show (bs.drop 5).length≤_
 rw [List.length_drop]
 exact hc
set_option maxRecDepth 100000 in
set_option maxHeartbeats 1000000 in
theorem dnew_r (A:Option Addr) (bs:List UInt8) (n c:Nat) (w:World) (hn:n=bs.length) (hr:BRow w w.heap.size A bs) (hc:bs.length≤c) (hcm:c≤maxLen) (h:newErr bs=0) :
 Calls Tryz.prog 146 #[.slice A n c] w fun e w'=>∃ b rb off,A=some ⟨rb,off,none⟩∧e=.returned (.tuple #[.pointer (some ⟨b,0,none⟩),.int .i64 0])∧DecAt w' 268 b rb (newDec bs)∧w.heap.size≤b∧Below w.heap.size w w':=by
 subst hn
 have h5:5≤bs.length:=by
  unfold newErr at h
  by_cases h5:bs.length<5
  ·rw [if_pos h5] at h;cases h
  omega
 have h0:bs.getD 0 0=0:=by
  unfold newErr at h
  rw [if_neg (by omega)] at h
  by_cases h0:bs.getD 0 0=0
  ·exact h0
  rw [if_neg h0] at h;cases h
 obtain ⟨ab,off,rfl,hab,hcell⟩:=hr (by omega)
 have x0:w.cell? ⟨ab,off,none⟩=some (.int .u8 0):=by have:=hcell 0 (by omega);rw [h0] at this;exact this
 have x1:w.cell? ⟨ab,off+1,none⟩=some (.int .u8 ((bs.getD 1 0).toNat:Int)):=hcell 1 (by omega)
 have x2:w.cell? ⟨ab,off+2,none⟩=some (.int .u8 ((bs.getD 2 0).toNat:Int)):=hcell 2 (by omega)
 have x3:w.cell? ⟨ab,off+3,none⟩=some (.int .u8 ((bs.getD 3 0).toNat:Int)):=hcell 3 (by omega)
 have x4:w.cell? ⟨ab,off+4,none⟩=some (.int .u8 ((bs.getD 4 0).toNat:Int)):=hcell 4 (by omega)
 have y1:=(bs.getD 1 0).toNat_lt
 have y2:=(bs.getD 2 0).toNat_lt
 have y3:=(bs.getD 3 0).toNat_lt
 have y4:=(bs.getD 4 0).toNat_lt
 have hbe:be4 bs=(((bs.getD 1 0).toNat*256+(bs.getD 2 0).toNat)*256+(bs.getD 3 0).toNat)*256+(bs.getD 4 0).toNat:=rfl
 generalize (bs.getD 1 0).toNat=a1 at *
 generalize (bs.getD 2 0).toNat=a2 at *
 generalize (bs.getD 3 0).toNat=a3 at *
 generalize (bs.getD 4 0).toNat=a4 at *
 have o1:bits .or .u32 ((a1:Int)*16777216) ((a2:Int)*65536)=((a1*16777216+a2*65536:Nat):Int):=or_at (x:=a1*16777216) (y:=a2*65536) 24 (by omega) (by omega) (by omega)
 have o2:bits .or .u32 ((a1*16777216+a2*65536:Nat):Int) ((a3:Int)*256)=((a1*16777216+a2*65536+a3*256:Nat):Int):=or_at (x:=a1*16777216+a2*65536) (y:=a3*256) 16 (by omega) (by omega) (by omega)
 have o3:bits .or .u32 ((a1*16777216+a2*65536+a3*256:Nat):Int) (a4:Int)=((be4 bs:Nat):Int):=by
  rw [or_at (x:=a1*16777216+a2*65536+a3*256) (y:=a4) 8 (by omega) (by omega) (by omega),hbe];congr 1;omega
 obtain ⟨z1,hz1⟩:∃ z1,a1*16777216+a2*65536=z1:=⟨_,rfl⟩
 obtain ⟨z2,hz2⟩:∃ z2,z1+a3*256=z2:=⟨_,rfl⟩
 rw [hz1,hz2] at o3
 rw [hz1,hz2] at o2
 rw [hz1] at o1
 have HR:=hid hr
 have hfit:=hid (newDec_fits bs)
 obtain ⟨be,hbe2⟩:∃ be,be4 bs=be:=⟨_,rfl⟩
 have hnd:newDec bs=⟨bs.drop 5,4294967295,be,false⟩:=by rw [← hbe2];rfl
 rw [hbe2] at o3
 rw [hnd] at hfit ⊢
 have hc5:¬ c=5∨c=5:=by omega
 clear hr hcell h0 h hbe hz1 hz2 hbe2 hnd
 rcases hc5 with hc5 | hc5
 all_goals
  go_enter Tryz.func146,Tryz.ntmps146
  go_wp2
  go_quiet (fail)
  go_wp2
  go_ret2
  have bel:∀ o,Below w.heap.size w ((w.drewN nq).alloc o):=fun o=>(((Frm.refl (fun _=>False) w).drewN nq).alloc o).below (Nat.le_refl _) (fun _ h=>h.elim)
  first
   | exact ⟨w.heap.size,ab,off,rfl,rfl,DecAt.made (Pts.new (w.drewN nq) _ _) (newRow5 hc5 HR.out (bel _) hc) (fun ad e=>by injection e with e;rw [← e]) (by omega) (by omega) hfit.out (by omega),Nat.le_refl _,bel _⟩
   | exact ⟨w.heap.size,ab,off,rfl,rfl,DecAt.made (Pts.new (w.drewN nq) _ _) (newRow0 hc5 HR.out (bel _) hc) (fun ad e=>by injection e with e;rw [← e]) (by omega) (by omega) hfit.out (by omega),Nat.le_refl _,bel _⟩
def beN (bs:List UInt8):Nat→Nat
 | 0=>0
 | j+1=>beN bs j*256+(bs.getD (j+1) 0).toNat
theorem beN_lt (bs:List UInt8):∀ j,beN bs j<256 ^ j
 | 0=>by simp [beN]
 | j+1=>by
  have h1:=beN_lt bs j
  have h2:=(bs.getD (j+1) 0).toNat_lt
  rw [beN,Nat.pow_succ]
  omega
theorem beN_4 (bs:List UInt8):beN bs 4=be4 bs:=by simp [beN,be4]
set_option maxRecDepth 100000 in
set_option maxHeartbeats 1000000 in
theorem dnew_p (A:Option Addr) (bs:List UInt8) (n c:Nat) (w:World) (hn:n=bs.length) (hr:BRow w w.heap.size A bs) (hc:bs.length≤c) (hcm:c≤maxLen) (hlen:bs.length≤140737488355328) (h:newErr bs=0) :
 Calls Tryz.prog 140 #[.slice A n c] w fun e w'=>∃ b rb,e=.returned (.tuple #[.pointer (some ⟨b,0,none⟩),.int .i64 0])∧DecAt w' 265 b rb (newDec bs)∧w.heap.size≤b∧w.heap.size≤rb∧Below w.heap.size w w':=by
 subst hn
 have h5:5≤bs.length:=by
  unfold newErr at h
  by_cases h5:bs.length<5
  ·rw [if_pos h5] at h;cases h
  omega
 have h0:bs.getD 0 0=0:=by
  unfold newErr at h
  rw [if_neg (by omega)] at h
  by_cases h0:bs.getD 0 0=0
  ·exact h0
  rw [if_neg h0] at h;cases h
 obtain ⟨ab,off,rfl,hab,hcell⟩:=hr (by omega)
 have x0:w.cell? ⟨ab,off,none⟩=some (.int .u8 0):=by have:=hcell 0 (by omega);rw [h0] at this;exact this
 have HR:=hid hr
 have HC:=hid hcell
 have hc1:¬ c=1:=by omega
 clear hr hcell h0 h
 go_enter Tryz.func140,Tryz.ntmps140
 go_wp2
 have P0:=Pts.new w #[.slice none 0 0,.int .u32 4294967295,.int .u32 0,.bool false] 265
 have B0:=(Below.refl w.heap.size w).alloc (Nat.le_refl _) (.cells #[.slice none 0 0,.int .u32 4294967295,.int .u32 0,.bool false] 265)
 generalize w.alloc (.cells #[.slice none 0 0,.int .u32 4294967295,.int .u32 0,.bool false] 265)=w0 at *
 have PP:=hid P0
 have BB:=hid B0
 clear P0 B0 x0
 go_loopw [21] (fun iv wr=>∃ j:Nat,iv=.int .i64 j∧j≤4∧Pts wr w.heap.size #[.slice none 0 0,.int .u32 4294967295,.int .u32 (beN bs j),.bool false] 265∧w.heap.size<wr.heap.size∧Below w.heap.size w wr) (fun iv _=>4-(intOf iv).toNat)
 case atStart=>exact ⟨0,rfl,by omega,PP.out,PP.out.lt,BB.out⟩
 case round =>
 obtain ⟨j,rfl,hj,hp,hsz,hb⟩:=hrel
 clear PP BB
 by_cases hj4:j<4
 ·have x1:wr.cell? ⟨ab,off+1+j,none⟩=some (.int .u8 ((bs.getD (j+1) 0).toNat:Int)):=by
   rw [hb.cell (p:=⟨ab,off+1+j,none⟩) hab,show off+1+j=off+(j+1) by omega];exact HC.out (j+1) (by omega)
  have y1:=(bs.getD (j+1) 0).toNat_lt
  have hl:=beN_lt bs j
  have hl3:beN bs j<256 ^ 3:=Nat.lt_of_lt_of_le hl (Nat.pow_le_pow_right (by omega) (by omega))
  have hst:beN bs (j+1)=beN bs j*256+(bs.getD (j+1) 0).toNat:=rfl
  generalize (bs.getD (j+1) 0).toNat=xn at *
  have d2:wr.cell? ⟨w.heap.size,2,none⟩=some (.int .u32 (beN bs j)):=by rw [hp.cell];rfl
  have g2:=hp.frozen 2
  have o1:bits .or .u32 ((beN bs j*256:Nat):Int) (xn:Int)=((beN bs (j+1):Nat):Int):=by
   rw [or_at (x:=beN bs j*256) (y:=xn) 8 (by omega) (by omega) (by omega),hst]
  have hwx:IntKind.u32.wrap (xn:Int)=(xn:Int):=by rw [Go.IntWalk.u32_in _ (by omega)]
  have hwz:IntKind.u32.wrap ((beN bs j:Int)*256)=((beN bs j*256:Nat):Int):=by rw [Go.IntWalk.u32_in _ (by omega)];omega
  obtain ⟨z,hz⟩:∃ z,beN bs j*256=z:=⟨_,rfl⟩
  rw [hz] at o1 hwz
  have HP:=hid hp
  have HB:=hid hb
  clear hl hl3 hst hz hp hb y1
  generalize beN bs j=m at *
  obtain ⟨m2,hm2⟩:∃ m2,beN bs (j+1)=m2:=⟨_,rfl⟩
  rw [hm2] at o1
  have HM2:=hid hm2
  clear hm2
  go_wp2
  exact ⟨⟨j+1,by go_num,by omega,by rw [HM2.out];exact HP.out.set 2 _,Nat.lt_of_lt_of_le hsz ((Frm.refl (fun _=>True) wr).setCell (p:=⟨w.heap.size,2,none⟩) trivial _).size,HB.out.setCell (p:=⟨w.heap.size,2,none⟩) (Nat.le_refl _) _⟩,by simp [intOf];omega⟩
 obtain rfl:j=4:=by omega
 have HP:=hid hp
 have HB:=hid hb
 have d0:wr.cell? ⟨w.heap.size,0,none⟩=some (.slice none 0 0):=by rw [hp.cell];rfl
 have f0:=hp.frozen 0
 clear hp hb
 go_wp2
 have hsf:∀ w,(Instr.sliceAt 22 (.slice (some ⟨ab,off,none⟩) bs.length c) (some (.int .i64 5)) none none).run Tryz.prog w=.ok (.slice (if c=5 then some (⟨ab,off,none⟩:Addr) else (some (⟨ab,off,none⟩:Addr)).map (·.add 5)) (bs.length-5) (c-5)) w:=fun w=>slice_fromR (some ⟨ab,off,none⟩) bs.length c 5 h5 hc w
 have hrow:=((HR.out.drop (k:=5) (cap:=c) hc).below HB.out)
 have hnl:bs.length-5=(bs.drop 5).length:=List.length_drop.symm
 have hfit:=hid (newDec_fits bs)
 have hnd:newDec bs=⟨bs.drop 5,4294967295,beN bs 4,false⟩:=by rw [beN_4];rfl
 rw [hnd] at hfit
 have HND:=hid hnd
 generalize (if c=5 then some (⟨ab,off,none⟩:Addr) else (some (⟨ab,off,none⟩:Addr)).map (·.add 5))=Ad at *
 obtain ⟨nw,hnw⟩:∃ nw,bs.drop 5=nw:=⟨_,rfl⟩
 rw [hnw] at hrow hnl hfit HND
 have ROW:=hid hrow
 have NL:=hid hnl
 have hll:([]:List UInt8).length+nw.length≤140737488355328:=by rw [← hnl];simp;omega
 have hbase:w.heap.size≤wr.heap.size:=by omega
 clear hrow hnl hnd hnw
 go_region_law (refine stepR_append_bytes _ rfl (.tmp 41) (.tmp 43) 22 rfl 5 w.heap.size Tryz.underlying22 Tryz.info_u8 (.slice none 0 0) [] rfl (OwnB.nil _ _ _) Ad (bs.length-5) (c-5) w.heap.size nw rfl NL.out (ROW.out.drewN 1) hll hbase ?_;intro v1 w1 hown1 hfrm1 hnew1;rw [List.nil_append] at hown1;obtain ⟨A1,c1,rfl,hc1,hm1,hr1⟩:=hown1.slice;have hp1:=HP.out.drew.frm hfrm1 (fun e=>by cases e);have z1:=hp1.frozen 0;have z0:w1.cell? ⟨w.heap.size,0,none⟩=some (.slice none 0 0):=(hp1.cell 0).trans rfl)
 all_goals
  have P4:=hid (hp1.set 0 (.slice A1 nw.length c1))
  have hbo:BOff (· ≠ wr.heap.size) A1 nw:=by
   intro h0 ad e hk
   rcases hnew1 with h9 | h9
   ·rw [e] at h9;cases h9
   rw [e] at h9;injection h9 with h9;exact hk h9
  have F4:=(Frm.refl (· = w.heap.size) w1).setCell (p:=⟨w.heap.size,0,none⟩) (by rfl) (.slice A1 nw.length c1)
  have R4:=hid ((hr1.off (hbo.of_ne (by omega)) F4).more F4.size)
  have HBO:=hid hbo
  have B4:=hid (((HB.out.drew.trans (hfrm1.below HB.out.drew.size (fun k hk=>by cases hk))).setCell (p:=⟨w.heap.size,0,none⟩) (Nat.le_refl _) (.slice A1 nw.length c1)))
  clear hr1 hp1 hown1 hfrm1 hnew1 z0 z1 hbo F4
  go_wp2
  go_ret2
  rw [HND.out]
  exact ⟨w.heap.size,wr.heap.size,rfl,⟨⟨A1,c1,P4.out,R4.out,HBO.out,hc1,hm1⟩,hfit.out,by omega⟩,Nat.le_refl _,hbase,B4.out⟩
end Go.Proofs.YtffehfpbdcokbaaGreat
