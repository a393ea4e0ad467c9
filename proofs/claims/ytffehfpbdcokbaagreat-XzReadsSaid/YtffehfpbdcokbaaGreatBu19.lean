import Derived.Test.YtffehfpbdcokbaaGreatBu18
set_option linter.unusedVariables false
set_option linter.unusedSimpArgs false
namespace Go.Proofs.YtffehfpbdcokbaaGreat
open Lib (hid)
open Go.RowKit Rng Win Lz
def DmEnd (w0:World) (K xb wb kb S:Nat) (A:Option Addr) (bs:List UInt8) (c most used:Nat) (x:DS) (all out:List UInt8) (R:OneR) (e:Ending) (w':World):Prop :=
 (∃ z:Nat,R=.err z∧z≠0∧e=.returned (.tuple #[.bool false,.int .i64 (z:Int)])∧DmOut w0 K xb out w') ∨
 (∃ u',R=.fin (bs.drop u')∧u'≤bs.length∧e=.returned (.tuple #[.bool true,.int .i64 0])∧∃ k' wv' ov',DmAt w0 w' K xb k' x wb kb S A bs c most u' all 0 wv' ov' out) ∨
 (∃ t y u',R=.told t y (bs.drop u')∧used<u'∧u'≤bs.length∧((most<out.length+t.length∧e=.returned (.tuple #[.bool false,.int .i64 3])∧DmOut w0 K xb out w') ∨
   (¬ most<out.length+t.length∧e=.returned (.tuple #[.bool false,.int .i64 0])∧∃ k' all' wv' ov',DmAt w0 w' K xb k' { y with total:=y.total+t.length } wb kb S A bs c most u' all' 0 wv' ov' (out++t))))
theorem DmEnd.of {w0:World} {K xb wb kb S:Nat} {A:Option Addr} {bs:List UInt8} {c most used u1:Nat} {x:DS} {all out:List UInt8} {R:OneR} {v:Value} {w':World} (h:DmBody w0 K xb wb kb S A bs c most u1 out R (.returned v) w') (hu:used<u1) :
 DmEnd w0 K xb wb kb S A bs c most used x all out R (.returned (.tuple #[.bool false,v])) w':=by
 rcases h with ⟨z,a,b,d,e⟩ | ⟨t,y,u',a,b,d,⟨e,f,g⟩ | ⟨e,f,g⟩⟩
 ·injection d with d
  subst d
  exact .inl ⟨z,a,b,rfl,e⟩
 ·injection f with f
  subst f
  exact .inr (.inr ⟨t,y,u',a,by omega,d,.inl ⟨e,rfl,g⟩⟩)
 injection f with f
 subst f
 exact .inr (.inr ⟨t,y,u',a,by omega,d,.inr ⟨e,rfl,g⟩⟩)
theorem DmBody.ret {w0:World} {K xb wb kb S:Nat} {A:Option Addr} {bs:List UInt8} {c most u1:Nat} {out:List UInt8} {R:OneR} {e:Ending} {w':World} (h:DmBody w0 K xb wb kb S A bs c most u1 out R e w'):∃ v,e=.returned v:=by
 rcases h with ⟨z,a,b,d,e⟩ | ⟨t,y,u',a,b,d,⟨e,f,g⟩ | ⟨e,f,g⟩⟩
 ·exact ⟨_,d⟩
 ·exact ⟨_,f⟩
 exact ⟨_,f⟩
theorem headN_5 {c:Nat}:headN c=5→128≤c:=by unfold headN;repeat' split
                                            all_goals omega
theorem headN_3 {c:Nat} (h:headN c≠0) (h1:headN c≠1):(c<3∧headN c=3∧1≤c)∨(128≤c∧(headN c=5∨headN c=6)∧(192≤c→headN c=6)):=by
 unfold headN at h h1 ⊢
 by_cases e1:c=0
 ·rw [if_pos e1] at h1;exact absurd rfl h1
 rw [if_neg e1] at h h1 ⊢
 by_cases e2:c<3
 ·rw [if_pos e2];exact .inl ⟨e2,rfl,by omega⟩
 rw [if_neg e2] at h h1 ⊢
 by_cases e3:c<128
 ·rw [if_pos e3] at h;exact absurd rfl h
 rw [if_neg e3]
 by_cases e4:c<192
 ·rw [if_pos e4];exact .inr ⟨by omega,.inl rfl,by omega⟩
 rw [if_neg e4];exact .inr ⟨by omega,.inr rfl,fun _=>rfl⟩
theorem headN_5i {c:Nat}:headN c=5↔128≤c∧c<192:=by
 unfold headN
 repeat' split
 all_goals omega
theorem headN_1 {c:Nat}:headN c=1↔c=0:=by
 unfold headN
 repeat' split
 all_goals omega
section
variable {w0 w : World} {K xb : Nat} {k : LK} {x : DS} {wb kb S : Nat} {A : Option Addr} {bs : List UInt8} {c most used : Nat} {all : List UInt8} {wv ov : Value} {out : List UInt8}
theorem plain_h (h:DmAt w0 w K xb k x wb kb S A bs c most used all 0 wv ov out) (hrow:BRow w0 K A bs) (hcap:bs.length≤c∧bs.length≤100000000) (hus:used≤bs.length) (hb ho hl hc:Nat) (hl3:hl=3) (hd:List UInt8) (hh:HdAt w0 K hb ho hd) (hlen:hd.length=3) (hhc:hl≤hc) (cc:Nat) (hcc:(hd.getD 0 0).toNat=cc) (hk3:cc=1∨cc=2) :
 Calls Tryz.prog 85 #[.pointer (some ⟨xb,0,none⟩),.slice (some ⟨hb,ho,none⟩) hl hc] w (DmBody w0 K xb wb kb S A bs c most used out (oneBody S x cc hd (bs.drop used))):=by
 subst hl3
 subst hcc
 exact plain_d h hrow hcap hus hb ho hc hd hh hlen hhc hk3
set_option maxRecDepth 100000 in
set_option maxHeartbeats 8000000 in
theorem chunk_d (h:DmAt w0 w K xb k x wb kb S A bs c most used all 0 wv ov out) (hrow:BRow w0 K A bs) (hcap:bs.length≤c∧bs.length≤100000000∧c≤maxLen) (hus:used≤bs.length) (hS:1≤S∧S≤16777216) :
 Calls Tryz.prog 41 #[.pointer (some ⟨xb,0,none⟩)] w (DmEnd w0 K xb wb kb S A bs c most used x all out (one S x (bs.drop used))):=by
 obtain ⟨R,hR⟩:∃ R,one S x (bs.drop used)=R:=⟨_,rfl⟩
 rw [hR]
 unfold one at hR
 obtain ⟨LB,hLB⟩:∃ L,bs.length=L:=⟨_,rfl⟩
 obtain ⟨rm,hrm⟩:∃ r,LB-used=r:=⟨_,rfl⟩
 have hdl:(bs.drop used).length=rm:=by rw [List.length_drop,hLB];exact hrm
 rw [hdl] at hR
 rw [hLB] at hcap hus
 have HH:=hid h
 have HROW:=hid hrow
 have HSS:=hid hS
 obtain ⟨-,-,c2,c3,-,-,-,-,-⟩:=h.cells
 rw [hLB] at c2
 by_cases hz:LB≤used
 ·have qd:decide (LB≤used)=true:=decide_eq_true hz
  rw [if_pos (by omega)] at hR
  have HR:=hid hR
  clear h hR hrow hcap hus hS hLB hrm hdl hz
  go_enter Tryz.func41,Tryz.ntmps41
  go_upto_region 1 with fail
  go_quiet (fail)
  go_wp2
  go_ret2
  exact .inl ⟨10,HR.out.symm,by decide,rfl,(HH.out.drewN _).outE⟩
 have qd:decide (LB≤used)=false:=decide_eq_false hz
 rw [if_neg (by omega)] at hR
 obtain ⟨hb,off,hA,hbK,hbyte⟩:=hrow (by omega)
 obtain ⟨u8c,hu8⟩:∃ v,(bs.drop used).getD 0 0=v:=⟨_,rfl⟩
 rw [hu8] at hR
 obtain ⟨cc,hcc⟩:∃ v,u8c.toNat=v:=⟨_,rfl⟩
 rw [hcc] at hR
 have hcc2:cc<256:=by rw [← hcc];exact u8c.toNat_lt
 subst hA
 obtain ⟨ho,hho⟩:∃ o,off+used=o:=⟨_,rfl⟩
 have k0:∀ W,DmAt w0 W K xb k x wb kb S (some ⟨hb,off,none⟩) bs c most used all 0 wv ov out→W.cell? ⟨hb,ho,none⟩=some (.int .u8 (cc:Int)):=by
  intro W hW
  have h1:=(World.cell?_of_block (hW.b.block hb hbK)).trans (hbyte used (by omega))
  rw [hho] at h1
  have e2:bs.getD used 0=u8c:=by
   rw [← hu8,List.getD_eq_getElem?_getD,List.getD_eq_getElem?_getD,List.getElem?_drop,Nat.add_zero]
  rw [e2] at h1
  unfold byteV at h1
  rw [hcc] at h1
  exact h1
 have HHD:Hid (∀ hl,hl≤rm→HdAt w0 K hb ho ((bs.drop used).take hl)):=hid (by
  intro hl hhl
  refine ⟨hbK,fun i hi=>?_⟩
  rw [List.length_take] at hi
  have h1:=hbyte (used+i) (by omega)
  rw [← Nat.add_assoc,hho] at h1
  rw [h1]
  congr 2
  rw [List.getD_eq_getElem?_getD,List.getD_eq_getElem?_getD,List.getElem?_take,if_pos (by omega),List.getElem?_drop])
 have HG0:Hid (∀ hl,1≤hl→((bs.drop used).take hl).getD 0 0=u8c):=hid (by
  intro hl hhl
  rw [← hu8,List.getD_eq_getElem?_getD,List.getD_eq_getElem?_getD,List.getElem?_take,if_pos (by omega)])
 have K0:=hid k0
 have hlx:(used:Int)<(LB:Int):=by omega
 have HR:=hid hR
 have HLB:=hid (And.intro hLB (And.intro hrm (And.intro hdl (And.intro hcap (And.intro hus hz)))))
 have HC:=hid (And.intro hcc hcc2)
 clear h hR hrow hcap hus hS hLB hrm hdl hz hbyte hu8 hcc hcc2 k0
 go_enter Tryz.func41,Tryz.ntmps41
 go_upto_region 1 with fail
 go_quiet (fail)
 have H1:=hid (HH.out.drewN nq)
 obtain ⟨w1,hw1⟩:∃ W,w.drewN nq=W:=⟨_,rfl⟩
 rw [hw1] at H1
 rw [hw1]
 clear c2 c3 hw1 HH qd
 obtain ⟨-,-,c2,c3,-,-,-,-,-⟩:=H1.out.cells
 rw [HLB.out.1] at c2
 have k0:=K0.out _ H1.out
 go_upto_region 3 with fail
 go_quiet (fail)
 have H2:=hid (H1.out.drewN nq)
 obtain ⟨w2,hw2⟩:∃ W,w1.drewN nq=W:=⟨_,rfl⟩
 rw [hw2] at H2
 rw [hw2]
 clear c2 c3 hw2 H1 hlx k0
 have HHe:=hid (head_d cc w2 HC.out.2)
 obtain ⟨hl,hhl⟩:∃ l,headN cc=l:=⟨_,rfl⟩
 rw [hhl] at HHe
 have hl6:hl≤6:=by rw [← hhl];exact headN_le cc
 rw [hhl] at HR
 by_cases hl0:hl=0
 ·have HRR:=hid (show OneR.err 11=R by have:=HR.out;rw [if_pos hl0] at this;exact this)
  subst hl0
  clear HR hhl hl6
  go_wp2_with fail
  refine HHe.out.mono ?_;rintro e w3 ⟨rfl,rfl⟩
  go_wp2
  go_ret2
  exact .inl ⟨11,HRR.out.symm,by decide,rfl,H2.out.outE⟩
 have q0:((hl:Int)==0)=false:=beq_eq_false_iff_ne.2 (by omega)
 have HR2:=hid (by have:=HR.out;rw [if_neg hl0] at this;exact this)
 have HHL:=hid (And.intro hhl (And.intro hl6 hl0))
 clear hhl hl6 hl0 HR
 obtain ⟨hLB,hrm,hdl,⟨hcp1,hcp2,hcp3⟩,hus,hz⟩:=HLB.out
 have y2:(LB:Int)-(used:Int)=(rm:Int):=by omega
 have y2w:IntKind.i64.wrap (rm:Int)=(rm:Int):=Go.IntWalk.i64_in _ (by omega)
 clear hLB hrm hdl hcp1 hcp2 hcp3 hus hz
 obtain ⟨-,-,c2,c3,-,-,-,-,-⟩:=H2.out.cells
 rw [HLB.out.1] at c2
 by_cases hsh:rm<hl
 ·have qd:decide (rm<hl)=true:=decide_eq_true hsh
  have HRR:=hid (show OneR.err 10=R by have:=HR2.out;rw [if_pos hsh] at this;exact this)
  clear HR2 hsh
  go_wp2_with fail
  refine HHe.out.mono ?_;rintro e w3 ⟨rfl,rfl⟩
  go_upto_region 7 with fail
  go_quiet (fail)
  go_wp2
  go_ret2
  exact .inl ⟨10,HRR.out.symm,by decide,rfl,(H2.out.drewN _).outE⟩
 have qd:decide (rm<hl)=false:=decide_eq_false hsh
 have HR3:=hid (by have:=HR2.out;rw [if_neg hsh] at this;exact this)
 have HSH:=hid hsh
 clear HR2 hsh
 go_wp2_with fail
 refine HHe.out.mono ?_;rintro e w3 ⟨rfl,rfl⟩
 go_upto_region 7 with fail
 go_quiet (fail)
 have H3:=hid (H2.out.drewN nq)
 obtain ⟨w3,hw3⟩:∃ W,w2.drewN nq=W:=⟨_,rfl⟩
 rw [hw3] at H3
 rw [hw3]
 clear c2 c3 hw3 H2 qd HHe y2 y2w
 obtain ⟨-,-,c2,c3,-,-,-,-,-⟩:=H3.out.cells
 rw [HLB.out.1] at c2
 obtain ⟨u2,hu2⟩:∃ u,used+hl=u:=⟨_,rfl⟩
 obtain ⟨hLB,hrm,hdl,⟨hcp1,hcp2,hcp3⟩,hus,hz⟩:=HLB.out
 have hl1:1≤hl:=by have:=HHL.out;omega
 have hsh:=HSH.out
 have y1:(used:Int)+(hl:Int)=(u2:Int):=by omega
 have y1w:IntKind.i64.wrap (u2:Int)=(u2:Int):=Go.IntWalk.i64_in _ (by have:=HHL.out;omega)
 obtain ⟨c',hc'⟩:∃ a,c-used=a:=⟨_,rfl⟩
 have hsl:∀ w,(Instr.sliceAt 22 (.slice (some ⟨hb,off,none⟩) LB c) (some (.int .i64 (used:Int))) (some (.int .i64 (u2:Int))) none).run Tryz.prog w=.ok (.slice (some ⟨hb,ho,none⟩) hl c') w:=by
  intro w
  have h0:=slice_cutD (some ⟨hb,off,none⟩) LB c used u2 hl hu2 (by omega) hcp1 hl1 w
  have h1:(some (⟨hb,off,none⟩:Addr)).map (·.add used)=some ⟨hb,ho,none⟩:=by
   rw [← hho]
   unfold Addr.add
   split
   ·rename_i h;subst h;rfl
   rfl
  rw [h1,hc'] at h0
  exact h0
 have HU:=hid (And.intro hu2 (And.intro (show u2≤LB by omega) (And.intro (show hl≤c' by omega) (show hl≤rm by omega))))
 clear hLB hrm hdl hcp1 hcp2 hcp3 hus hz hl1 hsh hu2 hc'
 go_upto_region 9 with fail
 go_quiet (fail)
 have H4:=hid (H3.out.drewN nq)
 obtain ⟨w4,hw4⟩:∃ W,w3.drewN nq=W:=⟨_,rfl⟩
 rw [hw4] at H4
 rw [hw4]
 clear c2 c3 hw4 H3 hsl
 obtain ⟨-,-,-,c3,-,-,c6,c7,-⟩:=H4.out.cells
 have f3:=H4.out.fz 3
 by_cases hc0:cc=0
 ·have q:((cc:Int)==0)=true:=beq_iff_eq.2 (by omega)
  have hl1:hl=1:=by rw [← HHL.out.1];exact headN_1.2 hc0
  obtain ⟨u1,hu1⟩:∃ u,used+1=u:=⟨_,rfl⟩
  have z1:(used:Int)+1=(u1:Int):=by omega
  have z1w:IntKind.i64.wrap (u1:Int)=(u1:Int):=Go.IntWalk.i64_in _ (by have:=HU.out;have:=HLB.out;omega)
  have HRR:Hid (OneR.fin (bs.drop u1)=R):=hid (by have:=HR3.out;rw [if_pos hl1,List.drop_drop,hu1] at this;exact this)
  have HU1:Hid (u1≤LB):=hid (by have:=HU.out;omega)
  have H5:Hid (DmAt w0 (w4.setCell ⟨xb,3,none⟩ (.int .i64 (u1:Int))) K xb k x wb kb S (some ⟨hb,off,none⟩) bs c most u1 all 0 wv ov out):=hid (H4.out.turn 3 _ rfl rfl rfl rfl ⟨rfl,rfl,rfl⟩ rfl H4.out.ht H4.out.al)
  clear hc0 hl1 hu1 HR3 c6 c7 y1 y1w
  go_wp2
  go_ret2
  exact .inr (.inl ⟨u1,HRR.out.symm,by rw [HLB.out.1];exact HU1.out,rfl,_,_,_,H5.out⟩)
 have q:((cc:Int)==0)=false:=beq_eq_false_iff_ne.2 (by omega)
 have HR4:=hid (by have:=HR3.out;rw [if_neg (fun h=>hc0 (headN_1.1 (HHL.out.1.trans h)))] at this;exact this)
 have HN3:=hid (headN_3 (c:=cc) (by rw [HHL.out.1];exact HHL.out.2.2) (fun h=>hc0 (headN_1.1 h)))
 clear hc0 HR3
 obtain ⟨bg,hbg⟩:∃ b,x.begun=b:=⟨_,rfl⟩
 obtain ⟨pr,hpr⟩:∃ b,x.props=b:=⟨_,rfl⟩
 rw [hbg] at c6
 rw [hpr] at c7
 have HBP:=hid (And.intro hbg hpr)
 clear hbg hpr
 have H5:Hid (DmAt w0 (w4.setCell ⟨xb,3,none⟩ (.int .i64 (u2:Int))) K xb k x wb kb S (some ⟨hb,off,none⟩) bs c most u2 all 0 wv ov out):=hid (H4.out.turn 3 _ rfl rfl rfl rfl ⟨rfl,rfl,rfl⟩ rfl H4.out.ht H4.out.al)
 have HBH:Hid (badHead x cc↔(bg=false∧cc≠1∧cc<224)∨((128≤cc∧cc<192)∧pr=false)):=hid (by unfold badHead;rw [HBP.out.1,HBP.out.2,headN_5i])
 cases bg
 ·by_cases h1:cc=1
  ·have q1:((cc:Int)==1)=true:=beq_iff_eq.2 (by omega)
   have q5:¬ (128:Int)≤(cc:Int):=by omega
   have hnb:¬ badHead x cc:=by rw [HBH.out];omega
   have HR5:=hid (by have:=HR4.out;rw [if_neg hnb] at this;exact this)
   have p2:(cc:Int)≤2:=by omega
   have hl3:hl=3:=by have h1:=HN3.out;have h2:=HHL.out.1;omega
   have HPL:=hid (plain_h H5.out HROW.out ⟨by have:=HLB.out;omega,by have:=HLB.out;omega⟩ (by have:=HU.out;have:=HLB.out;omega) hb ho hl c' hl3 _ (HHD.out hl HU.out.2.2.2) (by rw [List.length_take];have:=HU.out;have:=HLB.out;omega) HU.out.2.2.1 cc (by rw [HG0.out hl (by omega),HC.out.1]) (by have h1:=HN3.out;omega))
   clear hl3
   have e3:(bs.drop used).drop hl=bs.drop u2:=by rw [List.drop_drop,HU.out.1]
   rw [e3] at HR5
   rw [HR5.out] at HPL
   clear HR5 e3 hnb
   go_wp2_with fail
   refine HPL.out.mono ?_;rintro e w6 hbd
   obtain ⟨ev,rfl⟩:=hbd.ret
   have HBD:=hid hbd
   clear hbd
   go_wp2
   go_ret2
   exact DmEnd.of HBD.out (by have:=HU.out;have:=HHL.out;omega)
  have q1:((cc:Int)==1)=false:=beq_eq_false_iff_ne.2 (by omega)
  by_cases h224:cc<224
  ·have q2:(cc:Int)<224:=by omega
   have HRR:Hid (OneR.err 11=R):=hid (by have:=HR4.out;rw [if_pos (by rw [HBH.out];exact .inl ⟨rfl,h1,h224⟩)] at this;exact this)
   clear y1 y1w f3
   go_wp2
   go_ret2
   exact .inl ⟨11,HRR.out.symm,by decide,rfl,H4.out.outE⟩
  have q2:¬ (cc:Int)<224:=by omega
  have q5:(128:Int)≤(cc:Int):=by omega
  have q6:¬ (cc:Int)<192:=by omega
  have hnb:¬ badHead x cc:=by rw [HBH.out];omega
  have HR5:=hid (by have:=HR4.out;rw [if_neg hnb] at this;exact this)
  have p2:¬ (cc:Int)≤2:=by omega
  have HPL:=hid (packed_d H5.out HROW.out (by have:=HLB.out;omega) (by have:=HU.out;have:=HLB.out;omega) HSS.out hb ho hl c' _ (HHD.out hl HU.out.2.2.2) (by rw [List.length_take];have:=HU.out;have:=HLB.out;omega) (by have h1:=HN3.out;have h2:=HHL.out.1;omega) HU.out.2.2.1 cc (by rw [HG0.out hl (by have:=HHL.out;omega),HC.out.1]) (by have h1:=HN3.out;omega) (by have h1:=HN3.out;have h2:=HHL.out.1;omega))
  have e3:(bs.drop used).drop hl=bs.drop u2:=by rw [List.drop_drop,HU.out.1]
  rw [e3] at HR5
  rw [HR5.out] at HPL
  clear HR5 e3 hnb
  go_wp2_with fail
  refine HPL.out.mono ?_;rintro e w6 hbd
  obtain ⟨ev,rfl⟩:=hbd.ret
  have HBD:=hid hbd
  clear hbd
  go_wp2
  go_ret2
  exact DmEnd.of HBD.out (by have:=HU.out;have:=HHL.out;omega)
 by_cases h128:128≤cc
 ·have q5:(128:Int)≤(cc:Int):=by omega
  by_cases h192:cc<192
  ·have q6:(cc:Int)<192:=by omega
   cases pr
   ·skip
    have HRR:Hid (OneR.err 11=R):=hid (by have:=HR4.out;rw [if_pos (by rw [HBH.out];exact .inr ⟨⟨h128,h192⟩,rfl⟩)] at this;exact this)
    clear y1 y1w f3
    go_wp2
    go_ret2
    exact .inl ⟨11,HRR.out.symm,by decide,rfl,H4.out.outE⟩
   have hnb:¬ badHead x cc:=by rw [HBH.out];rintro (⟨h,_⟩ | ⟨_,h⟩) <;> cases h
   have HR5:=hid (by have:=HR4.out;rw [if_neg hnb] at this;exact this)
   have p2:¬ (cc:Int)≤2:=by omega
   have HPL:=hid (packed_d H5.out HROW.out (by have:=HLB.out;omega) (by have:=HU.out;have:=HLB.out;omega) HSS.out hb ho hl c' _ (HHD.out hl HU.out.2.2.2) (by rw [List.length_take];have:=HU.out;have:=HLB.out;omega) (by have h1:=HN3.out;have h2:=HHL.out.1;omega) HU.out.2.2.1 cc (by rw [HG0.out hl (by have:=HHL.out;omega),HC.out.1]) (by have h1:=HN3.out;omega) (by have h1:=HN3.out;have h2:=HHL.out.1;omega))
   have e3:(bs.drop used).drop hl=bs.drop u2:=by rw [List.drop_drop,HU.out.1]
   rw [e3] at HR5
   rw [HR5.out] at HPL
   clear HR5 e3 hnb
   go_wp2_with fail
   refine HPL.out.mono ?_;rintro e w6 hbd
   obtain ⟨ev,rfl⟩:=hbd.ret
   have HBD:=hid hbd
   clear hbd
   go_wp2
   go_ret2
   exact DmEnd.of HBD.out (by have:=HU.out;have:=HHL.out;omega)
  have q6:¬ (cc:Int)<192:=by omega
  have hnb:¬ badHead x cc:=by rw [HBH.out];rintro (⟨h,_⟩ | ⟨⟨_,h⟩,_⟩);(cases h);exact h192 h
  have HR5:=hid (by have:=HR4.out;rw [if_neg hnb] at this;exact this)
  have p2:¬ (cc:Int)≤2:=by omega
  have HPL:=hid (packed_d H5.out HROW.out (by have:=HLB.out;omega) (by have:=HU.out;have:=HLB.out;omega) HSS.out hb ho hl c' _ (HHD.out hl HU.out.2.2.2) (by rw [List.length_take];have:=HU.out;have:=HLB.out;omega) (by have h1:=HN3.out;have h2:=HHL.out.1;omega) HU.out.2.2.1 cc (by rw [HG0.out hl (by have:=HHL.out;omega),HC.out.1]) (by have h1:=HN3.out;omega) (by have h1:=HN3.out;have h2:=HHL.out.1;omega))
  have e3:(bs.drop used).drop hl=bs.drop u2:=by rw [List.drop_drop,HU.out.1]
  rw [e3] at HR5
  rw [HR5.out] at HPL
  clear HR5 e3 hnb
  go_wp2_with fail
  refine HPL.out.mono ?_;rintro e w6 hbd
  obtain ⟨ev,rfl⟩:=hbd.ret
  have HBD:=hid hbd
  clear hbd
  go_wp2
  go_ret2
  exact DmEnd.of HBD.out (by have:=HU.out;have:=HHL.out;omega)
 have q5:¬ (128:Int)≤(cc:Int):=by omega
 have hnb:¬ badHead x cc:=by rw [HBH.out];rintro (⟨h,_⟩ | ⟨⟨h,_⟩,_⟩);(cases h);exact h128 h
 have h3:cc<3:=by have h1:=HN3.out;omega
 have HR5:=hid (by have:=HR4.out;rw [if_neg hnb] at this;exact this)
 have p2:(cc:Int)≤2:=by omega
 have hl3:hl=3:=by have h1:=HN3.out;have h2:=HHL.out.1;omega
 have HPL:=hid (plain_h H5.out HROW.out ⟨by have:=HLB.out;omega,by have:=HLB.out;omega⟩ (by have:=HU.out;have:=HLB.out;omega) hb ho hl c' hl3 _ (HHD.out hl HU.out.2.2.2) (by rw [List.length_take];have:=HU.out;have:=HLB.out;omega) HU.out.2.2.1 cc (by rw [HG0.out hl (by omega),HC.out.1]) (by have h1:=HN3.out;omega))
 clear hl3
 have e3:(bs.drop used).drop hl=bs.drop u2:=by rw [List.drop_drop,HU.out.1]
 rw [e3] at HR5
 rw [HR5.out] at HPL
 clear HR5 e3 hnb
 go_wp2_with fail
 refine HPL.out.mono ?_;rintro e w6 hbd
 obtain ⟨ev,rfl⟩:=hbd.ret
 have HBD:=hid hbd
 clear hbd
 go_wp2
 go_ret2
 exact DmEnd.of HBD.out (by have:=HU.out;have:=HHL.out;omega)
end
open Go.RowKit Rng Win Lz
set_option maxRecDepth 8000 in
set_option maxHeartbeats 2000000 in
theorem body_set (rb fb wb kb base S B0:Nat) (k:LK) (x:DS) (wv:Value) (A:Option Addr) (n c used:Nat) (most:Int) (bs hd:List UInt8) (hb off cc:Nat) (w:World)
 (h:RdS w rb fb wb kb base S k x wv A n c used most) (hB:∀ q,RdB rb fb wb k wv q→B0≤q) (hB0:B0≤w.heap.size) (hS:S≤16777216) (hn:n=bs.length) (hr:BRow w B0 A bs) (hc:n≤c) (hcm:c≤maxLen)
 (hhr:BRow w B0 (some ⟨hb,off,none⟩) hd) (hdl:hd.length=6) (hcc:(hd.getD 0 0).toNat=cc) (hleg:192≤cc) (hu:used+n≤4611686018427387904) (ht:x.total<9223372036854775808) :
 Calls Tryz.prog 81 #[.pointer (some ⟨rb,0,none⟩),.slice (some ⟨hb,off,none⟩) 6 6] w (BodyEnd rb fb wb kb base S B0 k wv most (used+n) w (oneBody S x cc hd bs)):=by
 have b0:w.cell? ⟨hb,off,none⟩=some (.int .u8 ((cc:Nat):Int)):=by rw [← hcc];exact hhr.addr (k:=0) (by omega)
 have b1:w.cell? ⟨hb,off+1,none⟩=some (.int .u8 (((hd.getD 1 0).toNat:Nat):Int)):=hhr.addr (k:=1) (by omega)
 have b2:w.cell? ⟨hb,off+2,none⟩=some (.int .u8 (((hd.getD 2 0).toNat:Nat):Int)):=hhr.addr (k:=2) (by omega)
 have b3:w.cell? ⟨hb,off+3,none⟩=some (.int .u8 (((hd.getD 3 0).toNat:Nat):Int)):=hhr.addr (k:=3) (by omega)
 have b4:w.cell? ⟨hb,off+4,none⟩=some (.int .u8 (((hd.getD 4 0).toNat:Nat):Int)):=hhr.addr (k:=4) (by omega)
 have b5:w.cell? ⟨hb,off+5,none⟩=some (.int .u8 (((hd.getD 5 0).toNat:Nat):Int)):=hhr.addr (k:=5) (by omega)
 have hc256:cc<256:=by rw [← hcc];exact (hd.getD 0 0).toNat_lt
 obtain ⟨N,hN⟩:∃ N,twoB hd 1+1=N:=⟨_,rfl⟩
 obtain ⟨M,hM⟩:∃ M,twoB hd 3+1=M:=⟨_,rfl⟩
 have hNl:N≤65536:=by have:=twoB_le hd 1;omega
 have hMl:M≤65536:=by have:=twoB_le hd 3;omega
 have hM1:1≤M:=by omega
 have hl1:=(hd.getD 1 0).toNat_lt
 have hl2:=(hd.getD 2 0).toNat_lt
 have hl3:=(hd.getD 3 0).toNat_lt
 have hl4:=(hd.getD 4 0).toNat_lt
 have e8:=shl8 (hd.getD 1 0)
 have e8b:=shl8 (hd.getD 3 0)
 have hsum:((hd.getD 1 0).toNat:Int)*256+((hd.getD 2 0).toNat:Int)+1=(N:Int):=by have e:twoB hd 1=(hd.getD 1 0).toNat*256+(hd.getD 2 0).toNat:=rfl;omega
 have hsumb:((hd.getD 3 0).toNat:Int)*256+((hd.getD 4 0).toNat:Int)+1=(M:Int):=by have e:twoB hd 3=(hd.getD 3 0).toNat*256+(hd.getD 4 0).toNat:=rfl;omega
 obtain ⟨h1v,hh1⟩:∃ v,(hd.getD 1 0).toNat=v:=⟨_,rfl⟩
 obtain ⟨h2v,hh2⟩:∃ v,(hd.getD 2 0).toNat=v:=⟨_,rfl⟩
 obtain ⟨h3v,hh3⟩:∃ v,(hd.getD 3 0).toNat=v:=⟨_,rfl⟩
 obtain ⟨h4v,hh4⟩:∃ v,(hd.getD 4 0).toNat=v:=⟨_,rfl⟩
 rw [hh1] at b1 e8 hsum hl1
 rw [hh2] at b2 hsum hl2
 rw [hh3] at b3 e8b hsumb hl3
 rw [hh4] at b4 hsumb hl4
 obtain ⟨p,hp⟩:∃ v,(hd.getD 5 0).toNat=v:=⟨_,rfl⟩
 have hp255:p≤255:=by have:=(hd.getD 5 0).toNat_lt;omega
 rw [hp] at b5
 have hw1:IntKind.i64.wrap ((h1v:Int)*256+(h2v:Int))=(h1v:Int)*256+(h2v:Int):=Go.IntWalk.i64_in _ (by omega)
 have hw1b:IntKind.i64.wrap ((h3v:Int)*256+(h4v:Int))=(h3v:Int)*256+(h4v:Int):=Go.IntWalk.i64_in _ (by omega)
 have hw2:IntKind.i64.wrap (N:Int)=(N:Int):=Go.IntWalk.i64_in _ (by omega)
 have hw2b:IntKind.i64.wrap (M:Int)=(M:Int):=Go.IntWalk.i64_in _ (by omega)
 have hwa:IntKind.i64.wrap (h1v:Int)=(h1v:Int):=Go.IntWalk.i64_in _ (by omega)
 have hwb:IntKind.i64.wrap (h2v:Int)=(h2v:Int):=Go.IntWalk.i64_in _ (by omega)
 have hwc:IntKind.i64.wrap (h3v:Int)=(h3v:Int):=Go.IntWalk.i64_in _ (by omega)
 have hwd:IntKind.i64.wrap (h4v:Int)=(h4v:Int):=Go.IntWalk.i64_in _ (by omega)
 have a31:=and31 cc (by omega)
 obtain ⟨c31,hc31⟩:∃ v,cc % 32=v:=⟨_,rfl⟩
 have hcl:c31<32:=by omega
 rw [hc31] at a31
 have hw31:IntKind.i64.wrap (c31:Int)=(c31:Int):=Go.IntWalk.i64_in _ (by omega)
 have hw32:IntKind.i64.wrap ((c31:Int)*65536)=(c31:Int)*65536:=Go.IntWalk.i64_in _ (by omega)
 obtain ⟨T,hT⟩:∃ T,N+c31*65536=T:=⟨_,rfl⟩
 have hTl:T≤2097152:=by omega
 have hT1:1≤T:=by omega
 have hti:(N:Int)+(c31:Int)*65536=(T:Int):=by omega
 have hwt:IntKind.i64.wrap (T:Int)=(T:Int):=Go.IntWalk.i64_in _ (by omega)
 have q1:((cc:Int)==1)=false:=beq_eq_false_iff_ne.2 (by omega)
 have q3:(3:Int)≤(cc:Int):=by omega
 have q4:(192:Int)≤(cc:Int):=by omega
 have D0:=hid (h.later ((Frm.refl (fun _=>False) w).drew))
 have F0:Hid (Frm (fun _=>False) w w.drew):=hid ((Frm.refl (fun _=>False) w).drew)
 have HR0:Hid (BRow w.drew B0 A bs):=hid (hr.drewN 1)
 obtain ⟨r0,r1,r2,r3,r4,r5,r6⟩:=D0.out.cells
 have d3:w.drew.cell? ⟨hb,off+3,none⟩=some (.int .u8 (h3v:Int)):=b3
 have d4:w.drew.cell? ⟨hb,off+4,none⟩=some (.int .u8 (h4v:Int)):=b4
 have d5:w.drew.cell? ⟨hb,off+5,none⟩=some (.int .u8 (p:Int)):=b5
 have HBH:=hid (hhr.drewN 1)
 obtain ⟨y,hy⟩:∃ y,x.dict cc=y:=⟨_,rfl⟩
 have hyt:y.total<9223372036854775808:=by have:=dict_total x cc;rw [hy] at this;omega
 have HO:Hid (oneBody S x cc hd bs=if bs.length<M then .err 10 else if badP p then .err 11 else oneLz S { y.reset with lc:=p % 9,lp:=p / 9 % 5,pb:=p / 45,props:=true } T (bs.take M) (bs.drop M)):=hid (by
  unfold oneBody
  rw [if_neg (by omega),hM,hN,hc31,hT,hp,hy]
  split
  ·rfl
  by_cases hbp:badP p
  ·rw [if_pos ⟨hleg,hbp⟩,if_pos hbp]
  rw [if_neg (fun h=>hbp h.2),if_neg hbp]
  unfold DS.set
  rw [if_pos hleg])
 have HB:=hid hB
 have HH:=hid (And.intro hh3 (And.intro hh4 hp))
 have HT:=hid (And.intro hTl hT1)
 clear h hcc hB hN hM hhr hh1 hh2 hh3 hh4 hc31 hT b3 b4 b5 hp r0 r1 r2 r3 r4 r5 r6 hTl hT1
 go_enter Tryz.func81,Tryz.ntmps81
 go_upto_region 2 with fail
 go_still (by kernel_rfl)
 obtain ⟨w0,hw0⟩:∃ w0,w.drew=w0:=⟨_,rfl⟩
 rw [hw0] at D0 F0 HR0 d3 d4 d5
 have HBH2:Hid (BRow w0 B0 (some ⟨hb,off,none⟩) hd):=hid (by have h:=HBH.out;change BRow w.drew _ _ _ at h;rw [hw0] at h;exact h)
 rw [show ({ heap:=w.heap,tape:=w.tape,drawn:=w.drawn+1,os:=w.os,output:=w.output }:World)=w0 from hw0]
 clear hwa e8 hwb hw1 hsum hw2 b0 b1 b2 hw0
 have hfr:∀ i,w0.frozen? ⟨rb,i,none⟩=false:=fun i=>D0.out.p.frozen i
 obtain ⟨r0,r1,r2,r3,r4,r5,r6⟩:=D0.out.cells
 clear r1 r2 r3 r4 r5 r6 hfr HBH
 go_upto_block 0 with fail
 go_cut [] from 13 (fun wx=>Dict1 w0 rb fb wb kb base S k x cc wv A n c used most wx)
 case first =>
  by_cases h224:224≤cc
  ·have q5:(224:Int)≤(cc:Int):=by omega
   go_wp2_with fail
   refine (clear_c base wb kb S x.C wv _ D0.out.win).mono ?_;rintro e w2 ⟨v',rfl,hw2,hf2,ho2⟩
   obtain ⟨n1,n2,n3,n4,n5,n6,n7,n8,n9,n10⟩:=D0.out.ne
   have D2:=D0.out.win' hw2 hf2 (by rintro q (e | e | e | e) e2 <;> omega)
   obtain ⟨D3,f3⟩:=D2.begin
   have hp3:=D2.p
   have c3:=hp3.cell 3
   have c5:=hp3.cell 5
   have z3:=hp3.frozen 3
   have z5:=hp3.frozen 5
   have DD:=hid D3
   have FF:=hid ((hf2.mono (S':=fun q=>q=rb∨q=wb) fun q _ e=>.inr e).trans (f3.mono fun q _ e=>.inl e))
   have HY2:Hid (x.dict cc={ { x with C:=[] } with total:=0,begun:=true }):=hid (by unfold DS.dict DS.clear;rw [if_neg (by omega),if_pos h224])
   clear hw2 hf2 n1 n2 n3 n4 n5 n6 n7 n8 n9 n10 D2 D3 f3 hp3 r0
   go_wp2
   go_meet
   case rel=>exact ⟨v',by rw [HY2.out];exact DD.out,ho2,FF.out⟩
  have q5:(cc:Int)<224:=by omega
  go_wp2
  go_meet
  case rel=>exact Dict1.not D0.out (by omega) (by omega)
 case rest =>
 obtain ⟨wv1,e1,ho1,f1⟩:=hcut
 rw [hy] at e1
 have hBR:∀ q,q=rb∨q=wb→B0≤q:=by
  rintro q (e | e)
  ·exact HB.out q (.inl e)
  exact HB.out q (.inr (.inr (.inl e)))
 have hz0:B0≤w0.heap.size:=Nat.le_trans hB0 F0.out.size
 have hr1:BRow wc B0 A bs:=row_kept HR0.out f1 hz0 hBR
 have hbr1:BRow wc B0 (some ⟨hb,off,none⟩) hd:=row_kept HBH2.out f1 hz0 hBR
 have d3c:wc.drew.cell? ⟨hb,off+3,none⟩=some (.int .u8 (h3v:Int)):=by rw [← HH.out.1];exact hbr1.addr (k:=3) (by omega)
 have d4c:wc.drew.cell? ⟨hb,off+4,none⟩=some (.int .u8 (h4v:Int)):=by rw [← HH.out.2.1];exact hbr1.addr (k:=4) (by omega)
 have F1:Hid (Frm (RdB rb fb wb k wv) w wc.drew):=hid (((F0.out.mono fun _ _ e=>e.elim).trans (f1.mono fun q _ e=>by rcases e with e | e;exact .inl e;exact .inr (.inr (.inl e)))).drew)
 have D1:=hid (e1.later ((Frm.refl (fun _=>False) wc).drew))
 have HR1:Hid (BRow wc.drew B0 A bs):=hid (hr1.drewN 1)
 have HBR1:Hid (BRow wc.drew B0 (some ⟨hb,off,none⟩) hd):=hid (hbr1.drewN 1)
 have hz1:B0≤wc.drew.heap.size:=Nat.le_trans hB0 F1.out.size
 obtain ⟨r0,r1,r2,r3,r4,r5,r6⟩:=D1.out.cells
 clear e1 f1 hr1 hbr1 hBR D0 F0 HR0 HBH2 d3 d4 d5 r0 r1 r3 r4 r5 r6
 go_upto_region 15 with fail
 refine wp_region_stc 15 (by kernel_rfl) (by kernel_rfl) ?_
 simp only [List.take_succ_cons,List.take_zero,List.drop_succ_cons,List.drop_zero]
 repeat still_step
 refine wpStill_nil ?_
 change wpList _ _ _ _ _ wc.drew
 obtain ⟨w1,hw1⟩:∃ w1,wc.drew=w1:=⟨_,rfl⟩
 rw [hw1] at D1 F1 HR1 HBR1 hz1
 rw [hw1]
 clear hw1 r2 d3c d4c e8b hw1b hwc hwd a31 hw31 hw32 hti
 by_cases hM2:M≤n
 ·have HT1:=hid (take_p fb A n c used M w1 D1.out.src hc hM2 (by omega))
  go_wp2_with fail
  refine HT1.out.mono ?_;rintro e w2 ⟨rfl,hs2,hf2⟩
  go_wp2_with fail
  change wpStill _ _ _ _ _ _
  repeat still_step
  refine wpStill_nil ?_
  have d2:=D1.out.src' hs2 hf2
  have hfb:B0≤fb:=HB.out fb (.inr (.inl rfl))
  have hz2:B0≤w2.heap.size:=Nat.le_trans hz1 hf2.size
  have hr2:BRow w2 B0 A bs:=row_kept HR1.out hf2 hz1 (fun q e=>by rw [e];exact hfb)
  have hbr2:BRow w2 B0 (some ⟨hb,off,none⟩) hd:=row_kept HBR1.out hf2 hz1 (fun q e=>by rw [e];exact hfb)
  have F2:Hid (Frm (RdB rb fb wb k wv) w w2.drew):=hid ((F1.out.trans (hf2.mono fun q _ e=>.inr (.inl e))).drew)
  have hMb:M≤bs.length:=by omega
  have D2:=hid (d2.later ((Frm.refl (fun _=>False) w2).drew))
  have HR2:Hid (BRow w2.drew B0 A bs):=hid (hr2.drewN 1)
  have hz2d:B0≤w2.drew.heap.size:=hz2
  have d5:w2.drew.cell? ⟨hb,off+5,none⟩=some (.int .u8 (p:Int)):=by rw [← HH.out.2.2];exact hbr2.addr (k:=5) (by omega)
  obtain ⟨r0,r1,r2,r3,r4,r5,r6⟩:=D2.out.cells
  clear HT1 hs2 hf2 d2 hr2 hbr2 D1 F1 HR1 HBR1 r0 r2 r3 r4 r5 r6
  go_upto_region 19 with fail
  refine wp_region_stc 7 (by kernel_rfl) (by kernel_rfl) ?_
  simp only [List.take_succ_cons,List.take_zero,List.drop_succ_cons,List.drop_zero]
  repeat still_step
  refine wpStill_nil ?_
  change wpList _ _ _ _ _ w2.drew
  obtain ⟨w3,hw3⟩:∃ w3,w2.drew=w3:=⟨_,rfl⟩
  rw [hw3] at D2 F2 HR2 hz2d
  rw [hw3]
  clear hw3 r1 d5 hz2
  have hsb:B0≤k.sb:=HB.out _ (.inr (.inr (.inr (.inl rfl))))
  by_cases hbp:badP p
  ·have HPr:=hid (set_bad k y.st p y.rep y.pr w3 D2.out.s hp255 hbp)
   go_wp2_with fail
   refine HPr.out.mono ?_;rintro e w4 ⟨rfl,hf4⟩
   go_wp2_with fail
   change wpStill _ _ _ _ _ _
   repeat still_step
   refine wpStill_nil ?_
   go_wp2
   go_ret2
   rw [HO.out,if_neg (by omega),if_pos hbp]
   exact ⟨F2.out.trans (hf4.mono fun q _ e=>.inr (.inr (.inr (.inl e)))),rfl,(D2.out.ownB hyt (by omega)).frm hf4 D2.out.ne.2.2.1 D2.out.ne.2.2.2.2.2.1⟩
  have HPr:=hid (set_s k y.st p y.rep y.pr w3 D2.out.s hp255 hbp)
  go_wp2_with fail
  refine HPr.out.mono ?_;rintro e w4 ⟨rfl,lb,hlb,hs4,hf4⟩
  go_wp2_with fail
  change wpStill _ _ _ _ _ _
  repeat still_step
  refine wpStill_nil ?_
  have hpk:p % 9+p / 9 % 5≤4∧p / 45≤4:=by unfold badP at hbp;omega
  have d4:=D2.out.st' (k':=⟨k.sb,lb,p % 9,p / 9 % 5,p / 45⟩) (y:={ y.reset with lc:=p % 9,lp:=p / 9 % 5,pb:=p / 45 }) rfl hlb hs4 ⟨rfl,rfl,rfl⟩ ⟨hpk.1,hpk.2⟩ ⟨(by decide:(0:Nat)<12),fun _=>(by decide:(0:Nat)<4294967296)⟩ ⟨rfl,rfl,rfl,rfl⟩ hf4
  have hr4:BRow w4 B0 A bs:=row_kept HR2.out hf4 hz2d (fun q e=>by rw [e];exact hsb)
  have hz4:B0≤w4.heap.size:=Nat.le_trans hz2d hf4.size
  have hlb2:w.heap.size≤lb:=Nat.le_trans F2.out.size hlb
  have F4:=F2.out.trans (hf4.mono fun q _ e=>(.inr (.inr (.inr (.inl e))):RdB rb fb wb k wv q))
  obtain ⟨d5,f5⟩:=d4.setP
  have p6:=d4.p.cell 6
  have z6:=d4.p.frozen 6
  have hrb:B0≤rb:=HB.out _ (.inl rfl)
  have hr5:=row_kept hr4 f5 hz4 (fun q e=>by rw [e];exact hrb)
  have F5:=hid (F4.trans (f5.mono fun q _ e=>(.inl e:RdB rb fb wb k wv q)))
  have D5:=hid d5
  have HR5:=hid hr5
  have hz5:B0≤(w4.setCell ⟨rb,6,none⟩ (.bool true)).heap.size:=Nat.le_trans hz4 f5.size
  clear HPr hs4 hf4 d4 hr4 D2 F2 HR2 hlb F4 d5 f5 hr5 hz4
  go_upto_region 25 with fail
  obtain ⟨w5,hw5⟩:∃ w5,w4.setCell ⟨rb,6,none⟩ (.bool true)=w5:=⟨_,rfl⟩
  rw [hw5] at D5 F5 HR5 hz5
  rw [hw5]
  clear hw5 p6 z6
  obtain ⟨r0,r1,r2,r3,r4,r5,r6⟩:=D5.out.cells
  clear r2 r4 r5 r6
  have D6:=hid (D5.out.later ((Frm.refl (fun _=>False) w5).drew))
  have F6:=hid (F5.out.drew)
  have HR6:Hid (BRow w5.drew B0 A bs):=hid (HR5.out.drewN 1)
  have hz6:B0≤w5.drew.heap.size:=hz5
  have HC:=hid (chunk_p ⟨k.sb,lb,p % 9,p / 9 % 5,p / 45⟩ 0 (fun _=>0) (fun _=>1024) base wb kb S y.C (bs.take M) wv1 A T M M y.total w5.drew D6.out.s D6.out.win D6.out.b hS D6.out.ok D6.out.st.1 D6.out.st.2 (take_len hMb).symm ((HR6.out.take M).more hz6) (by rw [take_len hMb];exact Nat.le_refl _) (by unfold maxLen;omega) (by rw [take_len hMb];omega) HT.out.2 HT.out.1 hyt)
  refine wp_region_stc 14 (by kernel_rfl) (by kernel_rfl) ?_
  simp only [List.take_succ_cons,List.take_zero,List.drop_succ_cons,List.drop_zero]
  repeat still_step
  refine wpStill_nil ?_
  change wpList _ _ _ _ _ w5.drew
  go_wp2_with fail
  refine HC.out.mono ?_;rintro e w7 hce
  obtain ⟨tv,ev,he⟩:∃ tv ev,e=.returned (.tuple #[tv,ev]):=by
   rcases hce.2 with ⟨_,h2⟩ | ⟨_,_,tv,_,_,h2,_⟩
   ·exact ⟨_,_,h2⟩
   exact ⟨_,_,h2⟩
  subst he
  go_wp2_with fail
  change wpStill _ _ _ _ _ _
  repeat still_step
  refine wpStill_nil ?_
  go_wp2
  go_ret2
  rw [HO.out,if_neg (by omega),if_neg hbp]
  exact chunk_tells D6.out F6.out HB.out hB0 rfl (.inr hlb2) ho1 ((HR6.out.drop (by omega))) (by rw [List.length_drop];omega) (by omega) (by omega) (by omega) hyt hce
 have HT1:=hid (take_no fb A n c used M w1 D1.out.src (by omega))
 go_wp2_with fail
 refine HT1.out.mono ?_;rintro e w2 ⟨rfl,rfl⟩
 go_wp2_with fail
 change wpStill _ _ _ _ _ _
 repeat still_step
 refine wpStill_nil ?_
 go_wp2
 go_ret2
 rw [HO.out,if_pos (by omega)]
 exact ⟨F1.out,rfl,D1.out.ownB hyt (Nat.le_add_right _ _)⟩
end Go.Proofs.YtffehfpbdcokbaaGreat
