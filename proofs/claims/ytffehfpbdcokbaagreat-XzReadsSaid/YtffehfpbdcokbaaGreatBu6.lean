import Derived.Test.YtffehfpbdcokbaaGreatChecked
import Derived.Test.YtffehfpbdcokbaaGreatFrm
import Derived.WalkKit
import Derived.Lib.Hide
import Derived.BigQuiet
import Derived.Deep.QuietTactic
import Derived.OwnWalk
import Derived.Deep.LoopGhost
import Derived.Deep.RegionHeld3
import Derived.Deep.RegionLaw
import Derived.Laws.CopyOwn
import Derived.Laws.CopyRow
import Derived.Test.YtffehfpbdcokbaaGreatBu1
import Derived.Test.YtffehfpbdcokbaaGreatBu5
set_option linter.unusedVariables false
set_option linter.unusedSimpArgs false
namespace Go.Proofs.YtffehfpbdcokbaaGreat
open Lib (hid)
open Go.RowKit Rng Lz
theorem dtree_num (db rb:Nat) (Rw:Obj) (T:TypeId) (k:LK) (st:Nat) (rep:Nat→Nat) (s:CP Dec) (R:Nat×CP Dec) (tb tq base n len cap:Nat) (z:Int) (w:World) (h:LzAt (DCr db rb Rw) (DO db rb) T w k st rep s) (hn:n≤8) (hz:z=(n:Int)) (hlen:2 ^ n≤len) (hlc:len≤cap)
 (hpl:∀ j,1≤j→j<2 ^ n→Place k (base+j)∧plA k (base+j)=(tb,tq+j)) (hR:treeAt outC base n 0 s=R) :
 Calls Tryz.prog 175 #[.pointer (some ⟨db,0,none⟩),.slice (some ⟨tb,tq,none⟩) len cap,.int .i64 z] w fun e w'=>e=.returned (.int .i64 (R.1:Nat))∧LzAt (DCr db rb Rw) (DO db rb) T w' k st rep R.2∧Frm (Wr (DO db rb) k) w w':=by
 subst hz;subst hR
 exact dtree_p db rb Rw T k st rep s tb tq base n len cap w h hn hlen hlc hpl
theorem dback_num (db rb:Nat) (Rw:Obj) (T:TypeId) (k:LK) (st:Nat) (rep:Nat→Nat) (s:CP Dec) (R:Nat×CP Dec) (tb tq f base n len cap:Nat) (z g:Int) (w:World) (h:LzAt (DCr db rb Rw) (DO db rb) T w k st rep s) (hn:n≤8) (hz:z=(n:Int)) (hg:g=(f:Int)) (hlen:f+2 ^ n≤len) (hlc:len≤cap) (hl2:len≤4096)
 (hpl:∀ j,1≤j→j<2 ^ n→Place k (base+j)∧plA k (base+j)=(tb,tq+(f+j))) (hR:backAt outC base n 0 s=R) :
 Calls Tryz.prog 176 #[.pointer (some ⟨db,0,none⟩),.slice (some ⟨tb,tq,none⟩) len cap,.int .i64 g,.int .i64 z] w fun e w'=>e=.returned (.int .u32 (R.1:Nat))∧LzAt (DCr db rb Rw) (DO db rb) T w' k st rep R.2∧Frm (Wr (DO db rb) k) w w':=by
 subst hz;subst hg;subst hR
 exact dback_p db rb Rw T k st rep s tb tq f base n len cap w h hn hlen hlc hl2 hpl
theorem lenAt_two (base p:Nat) (s:CP Dec):lenAt outC base 2 p s=(if (bitAt outC base 0 s).1=0 then (2+(treeAt outC (base+2+p*8) 3 0 (bitAt outC base 0 s).2).1,(treeAt outC (base+2+p*8) 3 0 (bitAt outC base 0 s).2).2)
 else if (bitAt outC (base+1) 0 (bitAt outC base 0 s).2).1=0 then (10+(treeAt outC (base+130+p*8) 3 0 (bitAt outC (base+1) 0 (bitAt outC base 0 s).2).2).1,(treeAt outC (base+130+p*8) 3 0 (bitAt outC (base+1) 0 (bitAt outC base 0 s).2).2).2)
 else (18+(treeAt outC (base+258) 8 0 (bitAt outC (base+1) 0 (bitAt outC base 0 s).2).2).1,(treeAt outC (base+258) 8 0 (bitAt outC (base+1) 0 (bitAt outC base 0 s).2).2).2)):=by
 unfold lenAt
 simp only [show b2n (decide (10≤2))=0 by rfl,show b2n (decide (18≤2))=0 by rfl,Nat.sub_self,show 2-10=0 by rfl,show 2-18=0 by rfl]
set_option maxRecDepth 100000 in
set_option maxHeartbeats 1000000 in
theorem dlen_p (db rb:Nat) (Rw:Obj) (T:TypeId) (k:LK) (st:Nat) (rep:Nat→Nat) (s:CP Dec) (base p:Nat) (w:World) (h:LzAt (DCr db rb Rw) (DO db rb) T w k st rep s) (hb:base=840∨base=1354) (hp:p<16) :
 Calls Tryz.prog 163 #[.pointer (some ⟨db,0,none⟩),.pointer (some ⟨k.sb,base,none⟩),.int .i64 p] w fun e w'=>e=.returned (.int .i64 ((lenAt outC base 2 p s).1:Nat)) ∧
  LzAt (DCr db rb Rw) (DO db rb) T w' k st rep (lenAt outC base 2 p s).2∧Frm (Wr (DO db rb) k) w w':=by
 obtain ⟨R,hR⟩:∃ R,lenAt outC base 2 p s=R:=⟨_,rfl⟩
 rw [hR]
 rw [lenAt_two] at hR
 have AT:=hid h
 have HB:=hid hb
 have P0:=hid (plm k (i:=base) (by omega) (by omega))
 have P1:=hid (plm k (i:=base+1) (by omega) (by omega))
 have hpi:(p:Int)<16:=by omega
 obtain ⟨⟨a,sa⟩,ha⟩:∃ x,bitAt outC base 0 s=x:=⟨_,rfl⟩
 have hal:a≤1:=by have:=bitAt_le outC base 0 s;rw [ha] at this;exact this
 rw [ha] at hR
 dsimp only at hR
 have HA:=hid ha
 have HRR:=hid hR
 clear h hb hR ha
 obtain ⟨T0,hT0⟩:∃ x,base+2+p*8=x:=⟨_,rfl⟩
 obtain ⟨T1,hT1⟩:∃ x,base+130+p*8=x:=⟨_,rfl⟩
 obtain ⟨T2,hT2⟩:∃ x,base+258=x:=⟨_,rfl⟩
 have PL0:=hid (fun (j:Nat) (h1:1≤j) (h2:j<2 ^ 3)=>plm k (i:=T0+j) (by have:=HB.out;omega) (by have:=HB.out;omega))
 have PL1:=hid (fun (j:Nat) (h1:1≤j) (h2:j<2 ^ 3)=>plm k (i:=T1+j) (by have:=HB.out;omega) (by have:=HB.out;omega))
 have PL2:=hid (fun (j:Nat) (h1:1≤j) (h2:j<2 ^ 8)=>plm k (i:=T2+j) (by have:=HB.out;omega) (by have:=HB.out;omega))
 rw [hT0,hT1,hT2] at HRR
 go_enter Tryz.func163,Tryz.ntmps163
 go_wp2_with fail
 refine (dz_bit AT.out base k.sb base P0.out.1 P0.out.2).mono ?_;rintro e w2 ⟨rfl,h2,f2⟩
 rw [HA.out] at h2 ⊢
 dsimp only at h2 ⊢
 have H2:=hid h2
 have F2:=hid f2
 clear h2 f2 AT
 by_cases ha0:a=0
 ·have hR:=HRR.out
  rw [if_pos ha0] at hR
  have qa:((a:Int)==0)=true:=beq_iff_eq.2 (by omega)
  obtain ⟨⟨u,su⟩,hu⟩:∃ x,treeAt outC T0 3 0 sa=x:=⟨_,rfl⟩
  rw [hu] at hR
  dsimp only at hR
  have HU:=hid hu
  have HR:=hid hR
  have hul:u<256:=by have:=treeAt_lt outC T0 3 0 sa (by omega);rw [hu] at this;exact this
  clear ha0 HRR hu hR hal
  go_wp2_with fail
  refine (dtree_num db rb Rw T k st rep _ _ k.sb T0 T0 3 _ _ _ _ H2.out (by omega) rfl (by omega) (Nat.le_refl _) PL0.out HU.out).mono ?_;rintro e w4 ⟨rfl,h4,f4⟩
  have H4:=hid h4
  have F4:=hid (F2.out.trans f4)
  clear h4 f4
  go_wp2
  go_ret
  rw [← HR.out]
  refine ⟨ret_int' ?_,H4.out,F4.out⟩
  show _=((2+u:Nat):Int)
  first | omega | (unfold wrap64;omega)
 have hR:=HRR.out
 rw [if_neg ha0] at hR
 have qa:((a:Int)==0)=false:=beq_eq_false_iff_ne.2 (by omega)
 obtain ⟨⟨c,sc⟩,hc⟩:∃ x,bitAt outC (base+1) 0 sa=x:=⟨_,rfl⟩
 have hcl:c≤1:=by have:=bitAt_le outC (base+1) 0 sa;rw [hc] at this;exact this
 rw [hc] at hR
 dsimp only at hR
 have HC:=hid hc
 have HR:=hid hR
 clear ha0 HRR hc hR hal
 go_wp2_with fail
 refine (dz_bit H2.out (base+1) k.sb (base+1) P1.out.1 P1.out.2).mono ?_;rintro e w3 ⟨rfl,h3,f3⟩
 rw [HC.out] at h3 ⊢
 dsimp only at h3 ⊢
 have H3:=hid h3
 have F3:=hid (F2.out.trans f3)
 clear h3 f3
 by_cases hc0:c=0
 ·have hR:=HR.out
  rw [if_pos hc0] at hR
  have qc:((c:Int)==0)=true:=beq_iff_eq.2 (by omega)
  obtain ⟨⟨u,su⟩,hu⟩:∃ x,treeAt outC T1 3 0 sc=x:=⟨_,rfl⟩
  rw [hu] at hR
  dsimp only at hR
  have HU:=hid hu
  have HR2:=hid hR
  have hul:u<256:=by have:=treeAt_lt outC T1 3 0 sc (by omega);rw [hu] at this;exact this
  clear hc0 HR hu hR hcl
  go_wp2_with fail
  refine (dtree_num db rb Rw T k st rep _ _ k.sb T1 T1 3 _ _ _ _ H3.out (by omega) rfl (by omega) (Nat.le_refl _) PL1.out HU.out).mono ?_;rintro e w4 ⟨rfl,h4,f4⟩
  have H4:=hid h4
  have F4:=hid (F3.out.trans f4)
  clear h4 f4
  go_wp2
  go_ret
  rw [← HR2.out]
  refine ⟨ret_int' ?_,H4.out,F4.out⟩
  show _=((10+u:Nat):Int)
  first | omega | (unfold wrap64;omega)
 have hR:=HR.out
 rw [if_neg hc0] at hR
 have qc:((c:Int)==0)=false:=beq_eq_false_iff_ne.2 (by omega)
 obtain ⟨⟨u,su⟩,hu⟩:∃ x,treeAt outC T2 8 0 sc=x:=⟨_,rfl⟩
 rw [hu] at hR
 dsimp only at hR
 have HU:=hid hu
 have HR2:=hid hR
 have hul:u<256:=by have:=treeAt_lt outC T2 8 0 sc (by omega);rw [hu] at this;exact this
 clear hc0 HR hu hR hcl
 go_wp2_with fail
 refine (dtree_num db rb Rw T k st rep _ _ k.sb T2 T2 8 _ _ _ _ H3.out (by omega) rfl (by omega) (Nat.le_refl _) PL2.out HU.out).mono ?_;rintro e w4 ⟨rfl,h4,f4⟩
 have H4:=hid h4
 have F4:=hid (F3.out.trans f4)
 clear h4 f4
 go_wp2
 go_ret
 rw [← HR2.out]
 refine ⟨ret_int' ?_,H4.out,F4.out⟩
 show _=((18+u:Nat):Int)
 first | omega | (unfold wrap64;omega)
set_option maxRecDepth 100000 in
set_option maxHeartbeats 1000000 in
theorem ddist_p (db rb:Nat) (Rw:Obj) (T:TypeId) (k:LK) (st:Nat) (rep:Nat→Nat) (s:CP Dec) (size:Nat) (w:World) (h:LzAt (DCr db rb Rw) (DO db rb) T w k st rep s) (hs:2≤size) (hsz:size≤300) :
 Calls Tryz.prog 164 #[.pointer (some ⟨k.sb,0,none⟩),.pointer (some ⟨db,0,none⟩),.int .i64 size] w fun e w'=>e=.returned (.int .u32 ((distAt outC 0 size s).1:Nat)) ∧
  LzAt (DCr db rb Rw) (DO db rb) T w' k st rep (distAt outC 0 size s).2∧Frm (Wr (DO db rb) k) w w':=by
 obtain ⟨R,hR⟩:∃ R,distAt outC 0 size s=R:=⟨_,rfl⟩
 rw [hR]
 unfold distAt at hR
 simp only [show slotOf 0=0 by rfl,Nat.zero_sub,Nat.zero_div,Nat.zero_mod] at hR
 obtain ⟨q,hq⟩:∃ q,min size 5-2=q:=⟨_,rfl⟩
 have hq3:q<4:=by omega
 obtain ⟨Q2,hQ2⟩:∃ Q2,q+2=Q2:=⟨_,rfl⟩
 have hmin:min (size:Int) 5=(Q2:Int):=by omega
 have hmn:=fun w=>min2_num (P:=Tryz.prog) .i64 #[3,3] 3 _ _ _ hmin w
 have hqs:(Q2:Int)-2=(q:Int):=by omega
 have hqw:IntKind.i64.wrap (q:Int)=(q:Int):=Go.IntWalk.i64_in _ (by omega)
 have hqi:(q:Int)<4:=by omega
 rw [hq] at hR
 obtain ⟨TB,hTB⟩:∃ x,440+q*64=x:=⟨_,rfl⟩
 rw [hTB] at hR
 have PL:=hid (fun (j:Nat) (h1:1≤j) (h2:j<2 ^ 6)=>plm k (i:=TB+j) (by omega) (by omega))
 obtain ⟨⟨t,s1⟩,ht⟩:∃ x,treeAt outC TB 6 0 s=x:=⟨_,rfl⟩
 rw [ht] at hR
 have htl:t<64:=by
  have:=treeGo_lt outC TB 0 6 1 s
  have e:t=(treeGo outC TB 0 6 1 s).1-2 ^ 6:=by unfold treeAt at ht;exact (congrArg Prod.fst ht).symm
  omega
 dsimp only at hR
 have HT:=hid ht
 have HRR:=hid hR
 have AT:=hid h
 have ATD:=hid (h.later (DCr.keep db rb Rw) ((Frm.refl _ w).drew))
 clear h hR ht hmin hq hQ2
 go_enter Tryz.func164,Tryz.ntmps164
 go_wp2_with fail
 refine (dtree_num db rb Rw T k st rep _ _ k.sb TB TB 6 _ _ _ _ AT.out (by omega) rfl (by omega) (Nat.le_refl _) PL.out HT.out).mono ?_;rintro e w2 ⟨rfl,h2,f2⟩
 dsimp only at h2 ⊢
 have H2:=hid h2
 have F2:=hid f2
 clear h2 f2 AT ATD
 by_cases ht4:t<4
 ·have hR:=HRR.out
  rw [if_pos ht4] at hR
  subst hR
  have htw:IntKind.u32.wrap (t:Int)=(t:Int):=Go.IntWalk.u32_in _ (by omega)
  clear HRR
  go_wp2
  go_ret
  exact ⟨rfl,H2.out,F2.out⟩
 have hR:=HRR.out
 rw [if_neg ht4] at hR
 clear HRR
 obtain ⟨K,P,bs,hK,hP,hbs,hPi,hK30,hb32,hbi⟩:=slot_nums (t:=t) (by omega) htl
 rw [hK,hP,hbs] at hR
 obtain ⟨K1,hK1⟩:∃ K1,t / 2=K1:=⟨_,rfl⟩
 have hk1:(t:Int) / 2=(K1:Int):=by omega
 have hk2:(K1:Int)-1=(K:Int):=by omega
 obtain ⟨b1,hb1⟩:∃ b1,t % 2=b1:=⟨_,rfl⟩
 have hand:bits .and .i64 (t:Int) 1=(b1:Int):=by
  have:=and_i64 (a:=t) (b:=1) (by omega) (by omega)
  rw [nat_mask1,hb1] at this
  exact this
 obtain ⟨c1,hc1⟩:∃ c1,2+b1=c1:=⟨_,rfl⟩
 have hc2:(2:Int)+(b1:Int)=(c1:Int):=by omega
 have hcb:(c1:Int)*(P:Int)=(bs:Int):=by rw [← hbi,hb1,hc2]
 have hwc:IntKind.u32.wrap (c1:Int)=(c1:Int):=Go.IntWalk.u32_in _ (by omega)
 have hwb:IntKind.u32.wrap (bs:Int)=(bs:Int):=Go.IntWalk.u32_in _ (by omega)
 have hKu:IntKind.u64.wrap (K:Int)=(K:Int):=Go.IntWalk.u64_in _ (by omega)
 have hKm:min K 64=K:=by omega
 have hb1b:b1≤1:=by omega
 have hc1b:c1≤3:=by omega
 by_cases ht14:t<14
 ·rw [if_pos ht14] at hR
  obtain ⟨l1,l2,l3⟩:=slot_low (by omega) ht14 hK hP hbs
  obtain ⟨off,hoff⟩:∃ off,bs-t=off:=⟨_,rfl⟩
  have hoi:(bs:Int)-(t:Int)=(off:Int):=by omega
  have hKp:2 ^ K=P:=hP
  have HRR:=hid hR
  have HP:=hid hP
  have hti:(t:Int)<14:=by omega
  have hPp:1≤P:=by rw [← hP];exact Nat.one_le_two_pow
  have hoff2:696+bs-t=696+off:=by omega
  rw [hoff2] at HRR
  obtain ⟨O,hO⟩:∃ O,696+off=O:=⟨_,rfl⟩
  rw [hO] at HRR
  have PL2:=hid (fun (j:Nat) (h1:1≤j) (h2:j<2 ^ K)=>(by have q:=plm k (i:=O+j) (by omega) (by rw [hP] at h2;omega);rw [show O+j=696+(off+j) by omega] at q ⊢;exact q:Place k (O+j)∧plA k (O+j)=(k.sb,696+(off+j))))
  obtain ⟨⟨u,s2⟩,hu⟩:∃ x,backAt outC O K 0 s1=x:=⟨_,rfl⟩
  have hul:u<P:=by have:=backAt_lt outC O K 0 s1;rw [hu,hP] at this;exact this
  have HU:=hid hu
  have hlen:off+2 ^ K≤128:=by rw [hP];omega
  have HLEN:=hid hlen
  clear hR hbs hK hK1 hb1 hc1 hbi hP hKp hoff hoff2 hO hlen hu
  go_wp2_with fail
  refine (dback_num db rb Rw T k st rep _ _ k.sb 696 off O K _ _ _ _ _ H2.out (by omega) rfl rfl HLEN.out (Nat.le_refl _) (by omega) PL2.out HU.out).mono ?_;rintro e w4 ⟨rfl,h4,f4⟩
  have H4:=hid h4
  have F4:=hid (F2.out.trans f4)
  have hR:=HRR.out
  rw [HU.out] at hR
  clear h4 f4 HRR
  go_wp2
  go_ret
  rw [← hR]
  refine ⟨ret_u32 ?_,H4.out,F4.out⟩
  show _=((bs+u:Nat):Int)
  omega
 rw [if_neg ht14] at hR
 obtain ⟨K4,hK4⟩:∃ K4,K-4=K4:=⟨_,rfl⟩
 have hk4:(K:Int)-4=(K4:Int):=by omega
 rw [hK4] at hR
 obtain ⟨⟨v,d2⟩,hv⟩:∃ x,outC.dir s1.d 0 K4=x:=⟨_,rfl⟩
 rw [hv] at hR
 dsimp only at hR
 obtain ⟨⟨u,s3⟩,hu⟩:∃ x,backAt outC 824 4 0 ⟨d2,s1.pr⟩=x:=⟨_,rfl⟩
 rw [hu] at hR
 have hul:u<16:=by have:=backAt_lt outC 824 4 0 ⟨d2,s1.pr⟩;rw [hu] at this;exact this
 have PL2:=hid (fun (j:Nat) (h1:1≤j) (h2:j<2 ^ 4)=>(by have q:=plm k (i:=824+j) (by omega) (by omega);rw [show 824+j=824+(0+j) by omega] at q ⊢;exact q:Place k (824+j)∧plA k (824+j)=(k.sb,824+(0+j))))
 have HRR:=hid hR
 have HV:=hid hv
 have HU:=hid hu
 have hti:¬ ((t:Int)<14):=by omega
 have hq0:(0:Nat)+2 ^ 4≤16:=by omega
 have hK32:K4≤32:=by omega
 have h824:2 ^ 4≤16:=by omega
 clear hR hbs hK hK1 hb1 hc1 hbi hP hK4 hv hu
 go_wp2_with fail
 refine (dz_dir H2.out _ K4 rfl hK32 v d2 HV.out).mono ?_;rintro e w3 ⟨rfl,h3,f3⟩
 have H3:=hid h3
 have F3:=hid (F2.out.trans f3)
 clear h3 f3
 go_wp2_with fail
 refine (dback_num db rb Rw T k st rep _ _ k.sb 824 0 824 4 _ _ _ _ _ H3.out (by omega) rfl rfl hq0 (Nat.le_refl _) (by omega) PL2.out HU.out).mono ?_;rintro e w4 ⟨rfl,h4,f4⟩
 have H4:=hid h4
 have F4:=hid (F3.out.trans f4)
 have hR:=HRR.out
 clear h4 f4 HRR
 go_wp2
 go_ret
 rw [← hR]
 refine ⟨ret_u32 ?_,H4.out,F4.out⟩
 show _=(((bs+v*16+u) % 4294967296:Nat):Int)
 omega
theorem Tryz.info_u8:(Tryz.prog.info? 5).map (fun i=>(i.zero,i.size,i.bytes))=some (some (.int .u8 0),1,1):=by kernel_rfl
open Go.RowKit
theorem load64 (b o:Nat) (x:Int) (w:World) (h:w.cell? ⟨b,o,none⟩=some (.int .i64 x)) :
 Calls Tryz.prog 114 #[.pointer (some ⟨b,o,none⟩)] w fun e w'=>e=.returned (.int .i64 x)∧w=w':=by
 have hl:=run_call_load (P:=Tryz.prog) Tryz.func137 (by kernel_rfl) (by kernel_rfl) (by kernel_rfl) .i64 (by kernel_rfl) h
 go_enter Tryz.func114,Tryz.ntmps114
 go_wp2
 go_ret
 exact ⟨rfl,rfl⟩
theorem cas64 (b o:Nat) (x y:Int) (w:World) (h:w.cell? ⟨b,o,none⟩=some (.int .i64 x)) (hf:w.frozen? ⟨b,o,none⟩=false) :
 Calls Tryz.prog 115 #[.pointer (some ⟨b,o,none⟩),.int .i64 x,.int .i64 y] w fun e w'=>e=.returned (.bool true)∧w.setCell ⟨b,o,none⟩ (.int .i64 y)=w':=by
 have hl:=run_call_cas_hit (P:=Tryz.prog) Tryz.func138 (by kernel_rfl) (by kernel_rfl) (by kernel_rfl) .i64 (by kernel_rfl) (y:=y) h hf
 go_enter Tryz.func115,Tryz.ntmps115
 go_wp2
 go_ret
 exact ⟨rfl,rfl⟩
def ledCells (B n m:Int):Array Value:=#[.int .i64 B,.int .i64 n,.int .i64 m]
def Led (w:World) (b:Nat) (B n m:Int):Prop:=Pts w b (ledCells B n m) 167
theorem top_lt (b:Nat) (m n:Int) (w:World) (h:w.cell? ⟨b,2,none⟩=some (.int .i64 m)) (hf:w.frozen? ⟨b,2,none⟩=false) (hmn:m<n) :
 Calls Tryz.prog 116 #[.pointer (some ⟨b,0,none⟩),.int .i64 n] w fun e w'=>e=.returned (.tuple #[])∧w.setCell ⟨b,2,none⟩ (.int .i64 n)=w':=by
 go_enter Tryz.func116,Tryz.ntmps116
 go_wp2_with (go_at_call 114;refine (load64 _ _ _ _ h).mono ?_;rintro e w' ⟨rfl,rfl⟩)
 refine wp_loop_once ?_
 go_wp2_with (go_at_call 115;refine (cas64 _ _ _ _ _ h hf).mono ?_;rintro e w' ⟨rfl,rfl⟩)
 refine bodyPost_ret (results_none rfl _ _ _) rfl ?_
 exact ⟨rfl,rfl⟩
theorem top_ge (b:Nat) (m n:Int) (w:World) (h:w.cell? ⟨b,2,none⟩=some (.int .i64 m)) (hmn:n≤m) :
 Calls Tryz.prog 116 #[.pointer (some ⟨b,0,none⟩),.int .i64 n] w fun e w'=>e=.returned (.tuple #[])∧w=w':=by
 go_enter Tryz.func116,Tryz.ntmps116
 go_wp2_with (go_at_call 114;refine (load64 _ _ _ _ h).mono ?_;rintro e w' ⟨rfl,rfl⟩)
 refine wp_loop_once ?_
 go_wp2
 go_end0
 exact ⟨rfl,rfl⟩
theorem ret_int {k:IntKind} {a b:Int} (h:a=b):Ending.returned (.int k a)=.returned (.int k b):=by rw [h]
def chE (B n k:Int):Int:=if k<0 then 2 else if B-n<k then 40 else 0
def chN (B n k:Int):Int:=if k<0 then n else if B-n<k then n else n+k
def chM (B n m k:Int):Int:=if k<0 then m else if B-n<k then m else max m (n+k)
theorem ch_neg {B n k:Int} (m:Int) (h:k<0):chE B n k=2∧chN B n k=n∧chM B n m k=m:=by
 unfold chE chN chM;simp [h]
theorem ch_over {B n k:Int} (m:Int) (h:¬ k<0) (h':B-n<k):chE B n k=40∧chN B n k=n∧chM B n m k=m:=by
 unfold chE chN chM;simp [h,h']
theorem ch_ok {B n k:Int} (m:Int) (h:¬ k<0) (h':¬ B-n<k):chE B n k=0∧chN B n k=n+k∧chM B n m k=max m (n+k):=by
 unfold chE chN chM;simp [h,h']
theorem Led.set {w:World} {b:Nat} {B n m n':Int} (h:Led w b B n m):Led (w.setCell ⟨b,1,none⟩ (.int .i64 n')) b B n' m:=Pts.set h 1 _
theorem Led.set2 {w:World} {b:Nat} {B n m m':Int} (h:Led w b B n m):Led (w.setCell ⟨b,2,none⟩ (.int .i64 m')) b B n m':=Pts.set h 2 _
theorem charge_led (b:Nat) (B n m k:Int) (w:World) (h:Led w b B n m) (hB:0≤B∧B≤16777216) (hn:0≤n∧n≤B) (hm:n≤m∧m≤B) :
 Calls Tryz.prog 78 #[.pointer (some ⟨b,0,none⟩),.int .i64 k] w fun e w' =>
  e=.returned (.int .i64 (chE B n k))∧Led w' b B (chN B n k) (chM B n m k)∧Frm (· = b) w w':=by
 have h0:w.cell? ⟨b,0,none⟩=some (.int .i64 B):=h.cell 0
 have h1:w.cell? ⟨b,1,none⟩=some (.int .i64 n):=h.cell 1
 have h2:w.cell? ⟨b,2,none⟩=some (.int .i64 m):=h.cell 2
 have f1:=h.frozen 1
 have f2:=h.frozen 2
 have h2':(w.setCell ⟨b,1,none⟩ (.int .i64 (n+k))).cell? ⟨b,2,none⟩=some (.int .i64 m):=(Led.set h).cell 2
 have f2':(w.setCell ⟨b,1,none⟩ (.int .i64 (n+k))).frozen? ⟨b,2,none⟩=false:=(Led.set h).frozen 2
 have HL:=hid h
 clear h
 obtain ⟨hB0,hB1⟩:=hB
 obtain ⟨hn0,hn1⟩:=hn
 obtain ⟨hm0,hm1⟩:=hm
 by_cases hk:k<0
 ·go_enter Tryz.func78,Tryz.ntmps78
  go_wp2
  go_ret
  exact ⟨by simp [chE,hk],by simpa [chN,chM,hk] using HL.out,Frm.refl _ _⟩
 by_cases hov:B-n<k
 ·go_enter Tryz.func78,Tryz.ntmps78
  go_wp2
  refine wp_loop_once ?_
  go_wp2_with (go_at_call 114;refine (load64 _ _ _ _ h1).mono ?_;rintro e w' ⟨rfl,rfl⟩)
  go_ret
  exact ⟨by simp [chE,hk,hov],by simpa [chN,chM,hk,hov] using HL.out,Frm.refl _ _⟩
 by_cases hmn:m<n+k
 ·go_enter Tryz.func78,Tryz.ntmps78
  go_wp2
  refine wp_loop_once ?_
  go_wp2_with (first | (go_at_call 114;refine (load64 _ _ _ _ h1).mono ?_;rintro e w' ⟨rfl,rfl⟩) | (go_at_call 115;refine (cas64 _ _ _ _ _ h1 f1).mono ?_;rintro e w' ⟨rfl,rfl⟩) | (go_at_call 116;refine (top_lt _ _ _ _ h2' f2' (by omega)).mono ?_;rintro e w' ⟨rfl,rfl⟩))
  go_ret
  have e1:chM B n m k=n+k:=by unfold chM;rw [if_neg (by omega),if_neg (by omega)];omega
  have e2:chN B n k=n+k:=by unfold chN;rw [if_neg (by omega),if_neg (by omega)]
  exact ⟨ret_int (by unfold chE;rw [if_neg (by omega),if_neg (by omega)]),by rw [e1,e2];exact Led.set2 (Led.set HL.out),((Frm.refl _ _).setCell (by rfl) _).setCell (by rfl) _⟩
 go_enter Tryz.func78,Tryz.ntmps78
 go_wp2
 refine wp_loop_once ?_
 go_wp2_with (first | (go_at_call 114;refine (load64 _ _ _ _ h1).mono ?_;rintro e w' ⟨rfl,rfl⟩) | (go_at_call 115;refine (cas64 _ _ _ _ _ h1 f1).mono ?_;rintro e w' ⟨rfl,rfl⟩) | (go_at_call 116;refine (top_ge _ _ _ _ h2' (by omega)).mono ?_;rintro e w' ⟨rfl,rfl⟩))
 go_ret
 have e1:chM B n m k=m:=by unfold chM;rw [if_neg (by omega),if_neg (by omega)];omega
 have e2:chN B n k=n+k:=by unfold chN;rw [if_neg (by omega),if_neg (by omega)]
 exact ⟨ret_int (by unfold chE;rw [if_neg (by omega),if_neg (by omega)]),by rw [e1,e2];exact Led.set HL.out,(Frm.refl _ _).setCell (by rfl) _⟩
def bud (B:Int):Int:=min (max B 0) 16777216
theorem new_led (B:Int) (w:World) :
 Calls Tryz.prog 35 #[.int .i64 B] w fun e w'=>e=.returned (.pointer (some ⟨w.heap.size,0,none⟩))∧Led w' w.heap.size (bud B) 0 0∧Below w.heap.size w w':=by
 go_enter Tryz.func35,Tryz.ntmps35
 go_wp2
 all_goals
  go_ret
  refine ⟨rfl,?_,(Below.refl _ _).alloc (Nat.le_refl _) _⟩
  first | (rw [show bud B=0 by unfold bud;omega];exact Pts.new _ _ _) | (rw [show bud B=16777216 by unfold bud;omega];exact Pts.new _ _ _) | (rw [show bud B=B by unfold bud;omega];exact Pts.new _ _ _)
open Go.RowKit
theorem dropped_no (b k:Nat) (rv av sv:Value) (w:World) (hp:Pts w b #[rv,av,sv,.pointer (some ⟨k,0,none⟩)] 160) :
 Calls Tryz.prog 139 #[.pointer (some ⟨b,0,none⟩)] w fun e w'=>e=.returned (.bool false)∧w=w':=by
 have c3:w.cell? ⟨b,3,none⟩=some (.pointer (some ⟨k,0,none⟩)):=by rw [hp.cell];rfl
 clear hp
 go_enter Tryz.func139,Tryz.ntmps139
 go_wp2
 go_ret
 exact ⟨rfl,rfl⟩
set_option maxRecDepth 100000 in
theorem at_in (b k a S cap back:Nat) (A:Option Addr) (R:List UInt8) (w:World) (hp:Pts w b #[.slice A R.length cap,.int .i64 a,.int .i64 S,.pointer (some ⟨k,0,none⟩)] 160) (hr:BRow w w.heap.size A R)
 (hR:R.length≤16777216) (ha:a≤16777216) (h1:1≤back) (h2:back≤R.length) :
 Calls Tryz.prog 171 #[.pointer (some ⟨b,0,none⟩),.int .i64 back] w fun e w'=>e=.returned (.tuple #[.int .u8 ((R.getD ((a+R.length-back) % R.length) 0).toNat:Int),.bool true])∧∃ d,w'=w.drewN d:=by
 have c0:w.cell? ⟨b,0,none⟩=some (.slice A R.length cap):=by rw [hp.cell];rfl
 have c1:w.cell? ⟨b,1,none⟩=some (.int .i64 a):=by rw [hp.cell];rfl
 have HP:=hid hp
 obtain ⟨g,off,rfl,hg,hc⟩:=hr (by omega)
 have hlt:(a+R.length-back) % R.length<R.length:=Nat.mod_lt _ (by omega)
 have e1:=hc _ hlt
 have hne:((R.length:Int)==0)=false:=beq_eq_false_iff_ne.2 (by omega)
 have hm:((a:Int)+R.length-back) % (R.length:Int)=(((a+R.length-back) % R.length:Nat):Int):=by
  rw [Int.natCast_emod];congr 1;omega
 have hsub:back≤a+R.length:=by omega
 unfold byteV at e1
 generalize R.getD ((a+R.length-back) % R.length) 0=x at *
 generalize (a+R.length-back) % R.length=q at *
 clear hp hc hr
 go_enter Tryz.func171,Tryz.ntmps171
 go_wp2_with (go_at_call 139;refine (dropped_no _ _ _ _ _ _ HP.out).mono ?_;rintro e w1 ⟨rfl,rfl⟩)
 go_quiet (fail)
 go_wp2
 go_ret2
 exact ⟨rfl,_,rfl⟩
open Go.RowKit Win
structure WinAt (w:World) (base b k S:Nat) (v:Value) (R:List UInt8) (a:Nat):Prop where
 p:Pts w b #[v,.int .i64 a,.int .i64 S,.pointer (some ⟨k,0,none⟩)] 160
 o:OwnB w 5 base v R
 n:R.length≤S
 lt:a<S
 z:R.length<S→a=0
theorem slice_zero (A:Option Addr) (n c:Nat) (w:World):(Instr.sliceAt 22 (.slice A n c) none (some (.int .i64 0)) none).run Tryz.prog w=.ok (.slice A 0 c) w:=by
 simp [go_sem]
theorem slice_from (A:Option Addr) (n c f:Nat) (hf:f≤n) (hn:n≤c) (w:World) :
 (Instr.sliceAt 22 (.slice A n c) (some (.int .i64 (f:Int))) none none).run Tryz.prog w=.ok (.slice (if c=f then A else A.map (·.add f)) (n-f) (c-f)) w:=by
 by_cases hcf:c=f
 ·simp [go_sem,hcf]
  intro h;omega
 simp [go_sem,hcf]
 intro h;omega
theorem step_append_bytes {P:Program} (w:World) {ops:Array Oper} {o:Oper} {a:Act} {K:Act→World→Prop} {Q:Exit→Act→World→Prop} {E:Prop} (hg:o.guard=none) (s x:Operand) (t:TypeId)
 (ho:o.op=.call { callee:=.builtin .append,args:=#[s,x],argTypes:=#[t,t] })
 (T base:Nat) (ht:P.underlying t=some (.slice T)) (hinfo:(P.info? T).map (fun i=>(i.zero,i.size,i.bytes))=some (some (.int .u8 0),1,1))
 (v:Value) (bs:List UInt8) (hs:a.eval s=v) (hown:OwnB w T base v bs) (A:Option Addr) (m c B:Nat) (news:List UInt8) (hx:a.eval x=.slice A m c) (hm:m=news.length) (hnews:BRow w B A news)
 (hlen:bs.length+news.length≤140737488355328) (hbase:base≤w.heap.size)
 (h:∀ v' w',OwnB w' T base v' (bs++news)→Frm (fun k=>v.ownBlock=some k) w w'→(v'.ownBlock=v.ownBlock∨v'.ownBlock=some w.heap.size)→K (a.put o.dst v') w') :
 if Region.wanted o (yielded ops a.tmps)=true then Oper.wp P o a w K Q else E:=by
 have hw:Region.wanted o (yielded ops a.tmps)=true:=by simp [Region.wanted,hg]
 rw [if_pos hw]
 exact wp_append_bytes w s x t ho T base ht hinfo v bs hs hown A m c B news hx hm hnews hlen hbase h
set_option maxRecDepth 100000 in
set_option maxHeartbeats 1000000 in
theorem put_big_any (base b k S a c B:Nat) (v:Value) (R:List UInt8) (A:Option Addr) (bs:List UInt8) (w:World) (hw:WinAt w base b k S v R a) (hr:BRow w B A bs) (hc:bs.length≤c) (hcm:c≤maxLen) (hlen:bs.length≤16777216) (hbase:base≤w.heap.size)
 (hS:S≤bs.length) (hS1:1≤S) (hB:B≤w.heap.size) :
 Calls Tryz.prog 118 #[.pointer (some ⟨b,0,none⟩),.slice A bs.length c] w fun e w'=>∃ v':Value,e=.returned (.tuple #[])∧WinAt w' base b k S v' (bs.drop (bs.length-S)) 0 ∧
  Frm (fun x=>x=b∨v.ownBlock=some x) w w'∧(v'.ownBlock=v.ownBlock∨v'.ownBlock=some w.heap.size):=by
 obtain ⟨A0,k0,rfl,hc0,hm0,hr0⟩:=hw.o.slice
 have c0:w.cell? ⟨b,0,none⟩=some (.slice A0 R.length k0):=by rw [hw.p.cell];rfl
 have c2:w.cell? ⟨b,2,none⟩=some (.int .i64 S):=by rw [hw.p.cell];rfl
 have HW:=hid hw
 have hcut:=hw.o.cut (k:=0) (Nat.zero_le _)
 rw [List.take_zero] at hcut
 have CUT:=hid hcut
 have HR:=hid (hr.drop (k:=bs.length-S) (cap:=c) hc)
 have hsf:=fun w=>slice_from A bs.length c (bs.length-S) (by omega) hc w
 have hsub:((bs.length-S:Nat):Int)=(bs.length:Int)-S:=by omega
 rw [hsub,show bs.length-(bs.length-S)=S by omega] at hsf
 have hnl:S=(bs.drop (bs.length-S)).length:=by rw [List.length_drop];omega
 have NL:=hid hnl
 have hsz:=fun w=>slice_zero A0 R.length k0 w
 generalize (if c=bs.length-S then A else A.map (·.add (bs.length-S)))=Ad at *
 generalize bs.drop (bs.length-S)=nw at *
 clear hw hr hcut hsub hnl hr0
 have hne:∀ q,(Value.slice A0 R.length k0).ownBlock=some q→q≠b:=by
  rintro q hq rfl
  rcases HW.out.o.form with ⟨e,_⟩ | ⟨g,cap,cur,e,_,hp,_⟩
  ·rw [e] at hq;cases hq
  rw [e] at hq
  injection hq with hq
  subst hq
  have e2:=hp.symm.trans HW.out.p
  simp at e2
 have NE:=hid hne
 clear hne
 go_enter Tryz.func118,Tryz.ntmps118
 go_wp2_with (go_at_call 139;refine (dropped_no _ _ _ _ _ _ HW.out.p).mono ?_;rintro e w1 ⟨rfl,rfl⟩)
 have NE2:Hid (∀ q,(Value.slice A0 0 k0).ownBlock=some q→q≠b):=hid (by intro q hq;apply NE.out q;cases A0 <;> exact hq)
 have a1:IntKind.i64.wrap ((bs.length:Int)-S)=(bs.length:Int)-S:=IntWalk.i64_in _ (by omega)
 have f0:=HW.out.p.frozen 0
 have hll:([]:List UInt8).length+nw.length≤140737488355328:=by rw [← NL.out];simp;omega
 go_region_law (refine step_append_bytes _ rfl (.tmp 24) (.tmp 33) 22 rfl 5 base Tryz.underlying22 Tryz.info_u8 (.slice A0 0 k0) [] rfl (CUT.out.drewN 1) Ad S (c-(bs.length-S)) B nw rfl NL.out (HR.out.drewN 1) hll hbase ?_;intro v1 w1 hown1 hfrm1 hnew1;rw [List.nil_append] at hown1;obtain ⟨A1,c1,rfl,hc1,hm1,hr1⟩:=hown1.slice;have hp1:=HW.out.p.drew.frm (S:=fun k=>(Value.slice A0 0 k0).ownBlock=some k) hfrm1 (fun e=>NE2.out b e rfl);have z0:w1.cell? ⟨b,0,none⟩=some (.slice A0 R.length k0):=(hp1.cell 0).trans rfl;have z1:=hp1.frozen 0)
 all_goals
  have hp2:Pts (w1.setCell ⟨b,0,none⟩ (.slice A1 nw.length c1)) b #[.slice A1 nw.length c1,.int .i64 a,.int .i64 S,.pointer (some ⟨k,0,none⟩)] 160:=hp1.set 0 _
  have y1:(w1.setCell ⟨b,0,none⟩ (.slice A1 nw.length c1)).cell? ⟨b,1,none⟩=some (.int .i64 a):=by rw [hp2.cell];rfl
  have y2:=hp2.frozen 1
  have hp3:Pts ((w1.setCell ⟨b,0,none⟩ (.slice A1 nw.length c1)).setCell ⟨b,1,none⟩ (.int .i64 0)) b #[.slice A1 nw.length c1,.int .i64 0,.int .i64 S,.pointer (some ⟨k,0,none⟩)] 160:=hp2.set 1 _
  have hnb:∀ q,(Value.slice A1 nw.length c1).ownBlock=some q→q≠b:=by
   rintro q hq rfl
   rcases hown1.form with ⟨e,_⟩ | ⟨g,cp,cur,e,_,hp,_⟩
   ·rw [e] at hq;cases hq
   rw [e] at hq
   injection hq with hq
   subst hq
   have e2:=hp.symm.trans hp1
   simp at e2
  have ho3:OwnB ((w1.setCell ⟨b,0,none⟩ (.slice A1 nw.length c1)).setCell ⟨b,1,none⟩ (.int .i64 0)) 5 base (.slice A1 nw.length c1) nw:=by
   have h:=(hown1.other (p:=⟨b,0,none⟩) (fun e=>hnb _ e rfl) (.slice A1 nw.length c1)).other (p:=⟨b,1,none⟩) (fun e=>hnb _ e rfl) (.int .i64 0)
   simpa using h
  have hf3:Frm (fun x=>x=b∨(Value.slice A0 R.length k0).ownBlock=some x) w ((w1.setCell ⟨b,0,none⟩ (.slice A1 nw.length c1)).setCell ⟨b,1,none⟩ (.int .i64 0)) :=
   ((((Frm.refl _ w).drew).trans (hfrm1.mono (fun q _ hq=>.inr (by cases A0 <;> exact hq)))).setCell (by left;rfl) _).setCell (by left;rfl) _
  have P3:=hid hp3
  have O3:=hid ho3
  have F3:=hid hf3
  have N3:=hid hnew1
  clear hp1 hp2 hp3 hnb ho3 hf3 hnew1 hown1 hfrm1 z0 z1 hr1
  go_wp2
  refine bodyPost_ret (results_none rfl _ _ _) rfl ?_
  refine ⟨_,rfl,⟨P3.out,O3.out,by rw [← NL.out];exact Nat.le_refl _,by omega,fun h=>rfl⟩,F3.out,?_⟩
  rcases N3.out with h | h
  ·left;rw [h];cases A0 <;> rfl
  right;exact h
open Go.RowKit Win
theorem over_map (R b:List UInt8) (a n:Nat) (X:List Value) (hX:X.take R.length=R.map byteV) (h1:a+n≤R.length) (h2:n≤b.length) :
 (X.take a++(b.take n).map byteV++X.drop (a+n)).take R.length=(over R b a n).map byteV:=by
 have hXl:R.length≤X.length:=by
  have:=congrArg List.length hX
  rw [List.length_take,List.length_map] at this
  omega
 have l1:(X.take a).length=a:=by rw [List.length_take];omega
 have l2:((b.take n).map byteV).length=n:=by rw [List.length_map,List.length_take];omega
 have e1:X.take a=(R.take a).map byteV:=by
  rw [List.map_take,← hX,List.take_take];congr 1;omega
 have e2:(X.drop (a+n)).take (R.length-(a+n))=(R.drop (a+n)).map byteV:=by
  rw [List.map_drop,← hX,List.drop_take]
 unfold over
 rw [List.map_append,List.map_append,← e1,← e2,List.take_append,List.take_of_length_le (by rw [List.length_append,l1,l2];omega),List.length_append,l1,l2]
theorem run_copy_bytes {P:Program} (w:World) (t ty T base:Nat) (ht:P.underlying t=some (.slice T)) (hs1:(P.info? T).map (·.size)=some 1) (g cap a:Nat) (R:List UInt8)
 (hown:OwnB w T base (.slice (some ⟨g,0,none⟩) R.length cap) R) (ha:a<R.length) (A:Option Addr) (c B n:Nat) (news:List UInt8) (hnews:BRow w B A news) (h0:0<news.length) (hn:n=min news.length (R.length-a)) (dc:Nat) :
 ∃ w',(Builtin.copy_ #[t,t] ty #[.slice (some ⟨g,a,none⟩) (R.length-a) dc,.slice A news.length c]).run P w=.ok (.int .i64 n) w'∧OwnB w' T base (.slice (some ⟨g,0,none⟩) (over R news a n).length cap) (over R news a n)∧Frm (fun k=>k=g) w w':=by
 obtain ⟨b,off,rfl,hb,hc⟩:=hnews h0
 obtain ⟨hl,hr⟩:=hown
 rcases hr with ⟨hv,_⟩ | ⟨g',cap',cur,hv,hbg,hh,hnc,hcm,hcs,ht'⟩
 ·cases hv
 injection hv with e1 e2 e3
 injection e1 with e1
 injection e1 with e1
 subst e1;subst e3
 simp only [Nat.mul_one] at ht' hcs
 have hnl:((news.take n).map byteV).length=n:=by rw [List.length_map,List.length_take];omega
 have hrun:=run_copy_row (P:=P) w t t ty T g a (R.length-a) dc ⟨b,off,none⟩ news.length c cur T ((news.take n).map byteV) ht hs1 hh (by rw [hnl,hn]) (by
  intro j v hj
  rw [List.getElem?_map,List.getElem?_take] at hj
  by_cases hjn:j<n
  ·rw [if_pos hjn] at hj
   obtain ⟨x,hx,rfl⟩:=Option.map_eq_some_iff.1 hj
   rw [Opn.add_at,hc j (by omega)]
   simp [List.getD,hx]
  rw [if_neg hjn] at hj;simp at hj) (by rw [hnl];omega) (oneCell_byte _)
 rw [hnl] at hrun
 refine ⟨_,hrun,⟨by simp,.inr ⟨g,cap,_,rfl,hbg,setRow_heap w g cur _ T (0,0) hh,?_,hcm,?_,?_⟩⟩,⟨rfl,rfl,rfl,by simp,fun k hk hne=>setRow_other w g k _ hne⟩⟩
 ·rw [over_length (by omega) (by omega)];exact hnc
 ·simp only [List.size_toArray,List.length_append,List.length_take,List.length_drop,hnl,Array.length_toList,Nat.mul_one];omega
 rw [Nat.mul_one,over_length (by omega) (by omega)]
 exact over_map R news a n cur.toList ht' (by omega) (by omega)
theorem step_copy_bytes {P:Program} (w:World) {ops:Array Oper} {o:Oper} {a:Act} {K:Act→World→Prop} {Q:Exit→Act→World→Prop} {E:Prop} (hg:o.guard=none) (s x:Operand) (t:TypeId)
 (ho:o.op=.call { callee:=.builtin .copy,args:=#[s,x],argTypes:=#[t,t] })
 (T base:Nat) (ht:P.underlying t=some (.slice T)) (hs1:(P.info? T).map (·.size)=some 1) (g cap at_:Nat) (R:List UInt8) (dc:Nat) (hs:a.eval s=.slice (some ⟨g,at_,none⟩) (R.length-at_) dc)
 (hown:OwnB w T base (.slice (some ⟨g,0,none⟩) R.length cap) R) (ha:at_<R.length) (A:Option Addr) (m c B n:Nat) (news:List UInt8) (hx:a.eval x=.slice A m c) (hm:m=news.length) (hnews:BRow w B A news) (h0:0<news.length) (hn:n=min news.length (R.length-at_))
 (h:∀ w',OwnB w' T base (.slice (some ⟨g,0,none⟩) (over R news at_ n).length cap) (over R news at_ n)→Frm (fun k=>k=g) w w'→K (a.put o.dst (.int .i64 n)) w') :
 if Region.wanted o (yielded ops a.tmps)=true then Oper.wp P o a w K Q else E:=by
 have hw:Region.wanted o (yielded ops a.tmps)=true:=by simp [Region.wanted,hg]
 rw [if_pos hw]
 subst hm
 obtain ⟨w',hrun,h2,h3⟩:=run_copy_bytes (P:=P) w t o.type T base ht hs1 g cap at_ R hown ha A c B n news hnews h0 hn dc
 unfold Oper.wp execOp
 simp only [ho,resolve,invoke,builtin,Sem.run_bind,Sem.run_pure,Result.andThen_ok,List.map_toArray,List.map_cons,List.map_nil,hs,hx,hrun]
 exact h w' h2 h3
end Go.Proofs.YtffehfpbdcokbaaGreat
