import Derived.Test.YtffehfpbdcokbaaGreatBu31
set_option linter.unusedVariables false
set_option linter.unusedSimpArgs false
namespace Go.Proofs.YtffehfpbdcokbaaGreat
open Lib (hid)
open Go.RowKit Rng Lz
theorem tree_ino (b:Nat) (O:Nat→Prop) (T:TypeId) (k:LK) (st:Nat) (rep:Nat→Nat) (s:CP Enc) (R:Nat×CP Enc) (tb tq base n len cap x:Nat) (xi z:Int) (w:World) (h:LzAt (IC b O) O T w k st rep s) (hn:n≤8) (hz:z=(n:Int)) (hxi:xi=(x:Int)) (hlen:2 ^ n≤len) (hlc:len≤cap) (hx:x<4294967296) (hc:s.d.cnt+n<1000000)
 (hpl:∀ j,1≤j→j<2 ^ n→Place k (base+j)∧plA k (base+j)=(tb,tq+j)) (hR:treeAt inC base n x s=R) :
 Calls Tryz.prog 134 #[.slice (some ⟨tb,tq,none⟩) len cap,.iface 155 (inV b),.int .i64 xi,.int .i64 z] w fun e w'=>e=.returned (.int .i64 (R.1:Nat)) ∧
  LzAt (IC b O) O T w' k st rep R.2∧Frm (Wr O k) w w':=by
 subst hz;subst hR;subst hxi
 exact tree_in b O T k st rep s tb tq base n len cap x w h hn hlen hlc hx hc hpl
theorem cnt_treeAt (base n x:Nat) (s:CP Enc):(treeAt inC base n x s).2.d.cnt≤s.d.cnt+n:=cnt_treeIn base x n 1 s
set_option maxRecDepth 100000 in
theorem cnt_len (base n p:Nat) (s:CP Enc):(lenAt inC base n p s).2.d.cnt≤s.d.cnt+10:=by
 have h1:=cnt_bitIn1 base (b2n (decide (10≤n))) s
 have h2:=cnt_bitIn1 (base+1) (b2n (decide (18≤n))) (bitAt inC base (b2n (decide (10≤n))) s).2
 unfold lenAt
 simp only
 split
 ·have:=cnt_treeAt (base+2+p*8) 3 (n-2) (bitAt inC base (b2n (decide (10≤n))) s).2
  simp only;omega
 split
 ·have:=cnt_treeAt (base+130+p*8) 3 (n-10) (bitAt inC (base+1) (b2n (decide (18≤n))) (bitAt inC base (b2n (decide (10≤n))) s).2).2
  simp only;omega
 have:=cnt_treeAt (base+258) 8 (n-18) (bitAt inC (base+1) (b2n (decide (18≤n))) (bitAt inC base (b2n (decide (10≤n))) s).2).2
 simp only;omega
theorem beq0 (x:Nat):((x:Int)==0)=decide (x=0):=by
 by_cases h:x=0
 ·subst h;rfl
 rw [decide_eq_false h,beq_eq_false_iff_ne];omega
theorem bool01_num (y:Bool) (x:Nat) (hx:b2n y=x) (w:World):Calls Tryz.prog 133 #[.bool y] w fun e w'=>e=.returned (.int .i64 (x:Nat))∧w=w':=by
 subst hx;exact bool01_any y w
set_option maxRecDepth 100000 in
set_option maxHeartbeats 2000000 in
theorem lens_in (b:Nat) (O:Nat→Prop) (T:TypeId) (k:LK) (st:Nat) (rep:Nat→Nat) (s:CP Enc) (base n p:Nat) (w:World) (h:LzAt (IC b O) O T w k st rep s) (hb:base=840∨base=1354) (hp:p<16) (hn2:2≤n) (hn:n≤273) (hc:s.d.cnt+10<1000000) :
 Calls Tryz.prog 110 #[.pointer (some ⟨k.sb,base,none⟩),.iface 155 (inV b),.int .i64 n,.int .i64 p] w fun e w'=>e=.returned (.int .i64 ((lenAt inC base n p s).1:Nat)) ∧
  LzAt (IC b O) O T w' k st rep (lenAt inC base n p s).2∧Frm (Wr O k) w w':=by
 obtain ⟨R,hR⟩:∃ R,lenAt inC base n p s=R:=⟨_,rfl⟩
 rw [hR]
 have hv:R.1=n:=by rw [← hR];exact lenAt_in base n p s hn2 hn
 rw [hv]
 unfold lenAt at hR
 simp only at hR
 have ATD:=hid (h.later (IC.keep b O) ((Frm.refl _ w).drew))
 have HB:=hid hb
 have P0:=hid (plm k (i:=base) (by omega) (by omega))
 have P1:=hid (plm k (i:=base+1) (by omega) (by omega))
 have hno:=nil_in (inV b)
 have hme:=meth_inbit (inV b)
 have hpi:(p:Int)<16:=by omega
 obtain ⟨T0,hT0⟩:∃ x,base+2+p*8=x:=⟨_,rfl⟩
 obtain ⟨T1,hT1⟩:∃ x,base+130+p*8=x:=⟨_,rfl⟩
 obtain ⟨T2,hT2⟩:∃ x,base+258=x:=⟨_,rfl⟩
 have PL0:=hid (fun (j:Nat) (h1:1≤j) (h2:j<2 ^ 3)=>plm k (i:=T0+j) (by have:=HB.out;omega) (by have:=HB.out;omega))
 have PL1:=hid (fun (j:Nat) (h1:1≤j) (h2:j<2 ^ 3)=>plm k (i:=T1+j) (by have:=HB.out;omega) (by have:=HB.out;omega))
 have PL2:=hid (fun (j:Nat) (h1:1≤j) (h2:j<2 ^ 8)=>plm k (i:=T2+j) (by have:=HB.out;omega) (by have:=HB.out;omega))
 rw [hT0,hT1,hT2] at hR
 obtain ⟨n2,hn2e⟩:∃ n2,n-2=n2:=⟨_,rfl⟩
 have hn2i:(n:Int)-2=(n2:Int):=by omega
 have hn2w:IntKind.i64.wrap (n2:Int)=(n2:Int):=Go.IntWalk.i64_in _ (by omega)
 rw [hn2e] at hR
 obtain ⟨x1,hx1⟩:∃ x,b2n (decide (10≤n))=x:=⟨_,rfl⟩
 obtain ⟨x2,hx2⟩:∃ x,b2n (decide (18≤n))=x:=⟨_,rfl⟩
 have hb1:x1≤1:=by rw [← hx1];cases decide (10≤n) <;> decide
 have hb2:x2≤1:=by rw [← hx2];cases decide (18≤n) <;> decide
 have hd1:b2n (decide ((8:Int)≤(n2:Int)))=x1:=by rw [← hx1];congr 1;rw [decide_eq_decide];omega
 have hd2:b2n (decide ((16:Int)≤(n2:Int)))=x2:=by rw [← hx2];congr 1;rw [decide_eq_decide];omega
 rw [hx1,hx2] at hR
 obtain ⟨s1,hs1⟩:∃ s1,(bitAt inC base x1 s).2=s1:=⟨_,rfl⟩
 obtain ⟨s2,hs2⟩:∃ s2,(bitAt inC (base+1) x2 s1).2=s2:=⟨_,rfl⟩
 rw [bitIn_val _ _ _ hb1,hs1,bitIn_val _ _ _ hb2,hs2] at hR
 have hc1:s1.d.cnt≤s.d.cnt+1:=by rw [← hs1];exact cnt_bitIn1 _ _ _
 have hc2:s2.d.cnt≤s1.d.cnt+1:=by rw [← hs2];exact cnt_bitIn1 _ _ _
 have HC:=hid (And.intro hc (And.intro hc1 hc2))
 have HS1:=hid hs1
 have HS2:=hid hs2
 have HR:=hid hR
 have HD1:=hid hd1
 have HD2:=hid hd2
 have HN:=hid (And.intro hn2e (And.intro hn2 (And.intro hn (And.intro hx1 hx2))))
 have HB12:=hid (And.intro hb1 hb2)
 have HV:=hid hv
 clear h hb hR hc hs1 hs2 hc1 hc2 hd1 hd2 hn2e hn2 hn hx1 hx2 hv hb1 hb2
 go_enter Tryz.func110,Tryz.ntmps110
 go_upto_region 2 with fail
 go_cut [23] from 11 (fun v wx=>v=.bool (decide (x1=0))∧LzAt (IC b O) O T wx k st rep s1∧Frm (Wr O k) w wx)
 case first =>
  go_region_with (first
   | (go_at_call 133;refine (bool01_num _ x1 HD1.out _).mono ?_;rintro e w2 ⟨rfl,rfl⟩)
   | (go_at_call 104;refine (ibit_lz ATD.out (by have:=HC.out;omega) base k.sb base x1 x1 rfl HB12.out.1 P0.out.1 P0.out.2).mono ?_;rintro e w2 ⟨rfl,h2,f2⟩;rw [HS1.out] at h2))
  all_goals
   have H2:=hid h2
   have F2:=hid (((Frm.refl _ w).drew).trans f2)
   clear h2 f2
   go_wp2
   go_meet
   case rel=>exact ⟨by rw [← beq0],H2.out,F2.out⟩
 case rest =>
 obtain ⟨rfl,h2,f2⟩:=hcut
 have H2:=hid h2
 have F2:=hid f2
 clear h2 f2 ATD
 by_cases h0:x1=0
 ·have hdt:decide (x1=0)=true:=decide_eq_true h0
  have hlt:¬ 10≤n:=by
   intro h10
   have:=HN.out.2.2.2.1
   rw [decide_eq_true h10,h0] at this
   cases this
  have HR2:Hid ((2+(treeAt inC T0 3 n2 s1).1,(treeAt inC T0 3 n2 s1).2)=R):=hid (by have:=HR.out;rw [if_pos h0] at this;exact this)
  rw [hdt]
  clear HR hdt
  have HR:=HR2
  clear HR2
  obtain ⟨⟨u,su⟩,hu⟩:∃ yy,treeAt inC T0 3 n2 s1=yy:=⟨_,rfl⟩
  have hu1:u=n2:=by have:=treeAt_in T0 3 n2 s1 (by have:=HN.out;omega);rw [hu] at this;exact this
  subst hu1
  rw [hu] at HR
  have HU:=hid hu
  have HSU:Hid (su=R.2):=hid (by rw [← HR.out])
  have HUB:Hid (u<4294967296):=hid (by have:=HN.out;omega)
  have hvv:((2+u:Nat):Int)=(n:Int):=by have:=HN.out;omega
  clear hu HR
  go_wp2_with fail
  refine (tree_ino b O T k st rep s1 _ k.sb T0 T0 3 _ _ u _ _ _ H2.out (by omega) rfl rfl (by omega) (Nat.le_refl _) HUB.out (by have:=HC.out;omega) PL0.out HU.out).mono ?_;rintro e w4 ⟨rfl,h4,f4⟩
  have H4:Hid (LzAt (IC b O) O T w4 k st rep R.2):=hid (by rw [← HSU.out];exact h4)
  have F4:=hid (F2.out.trans f4)
  clear h4 f4
  go_wp2
  go_ret
  refine ⟨ret_int' ?_,H4.out,F4.out⟩
  have hfin:=HN.out
  first | omega | (unfold wrap64;omega)
 have hdt:decide (x1=0)=false:=decide_eq_false h0
 have hge:10≤n:=by
  refine Classical.byContradiction fun h10=>h0 ?_
  have:=HN.out.2.2.2.1
  rw [decide_eq_false h10] at this
  exact this.symm
 have HR1:=hid (show (if x2=0 then (10+(treeAt inC T1 3 (n-10) s2).1,(treeAt inC T1 3 (n-10) s2).2) else (18+(treeAt inC T2 8 (n-18) s2).1,(treeAt inC T2 8 (n-18) s2).2))=R by have:=HR.out;rw [if_neg h0] at this;exact this)
 have ATD:=hid (H2.out.later (IC.keep b O) ((Frm.refl _ wc).drew))
 rw [hdt]
 clear HR hdt
 go_upto_region 4 with fail
 go_cut [46] from 11 (fun v wx=>v=.bool (decide (x2=0))∧LzAt (IC b O) O T wx k st rep s2∧Frm (Wr O k) w wx)
 case first =>
  go_region_with (first
   | (go_at_call 133;refine (bool01_num _ x2 HD2.out _).mono ?_;rintro e w2 ⟨rfl,rfl⟩)
   | (go_at_call 104;refine (ibit_lz ATD.out (by have:=HC.out;omega) (base+1) k.sb (base+1) x2 x2 rfl HB12.out.2 P1.out.1 P1.out.2).mono ?_;rintro e w2 ⟨rfl,h2,f2⟩;rw [HS2.out] at h2))
  all_goals
   have H3:=hid h2
   have F3:=hid ((F2.out.drew).trans f2)
   clear h2 f2
   go_wp2
   go_meet
   case rel=>exact ⟨by rw [← beq0],H3.out,F3.out⟩
 case rest =>
 obtain ⟨rfl,h2,f2⟩:=hcut
 have H3:=hid h2
 have F3:=hid f2
 clear h2 f2 ATD H2 F2
 by_cases h1:x2=0
 ·have hdt:decide (x2=0)=true:=decide_eq_true h1
  have hlt:¬ 18≤n:=by
   intro h18
   have:=HN.out.2.2.2.2
   rw [decide_eq_true h18,h1] at this
   cases this
  have HR:=hid (show (10+(treeAt inC T1 3 (n-10) s2).1,(treeAt inC T1 3 (n-10) s2).2)=R by have:=HR1.out;rw [if_pos h1] at this;exact this)
  rw [hdt]
  clear HR1 hdt
  obtain ⟨y,hy⟩:∃ y,n-10=y:=⟨_,rfl⟩
  rw [hy] at HR
  have hyi:(n2:Int)-8=(y:Int):=by have:=HN.out;omega
  have hyw:IntKind.i64.wrap (y:Int)=(y:Int):=Go.IntWalk.i64_in _ (by have:=HN.out;omega)
  obtain ⟨⟨u,su⟩,hu⟩:∃ yy,treeAt inC T1 3 y s2=yy:=⟨_,rfl⟩
  have hu1:u=y:=by have:=treeAt_in T1 3 y s2 (by have:=HN.out;omega);rw [hu] at this;exact this
  subst hu1
  rw [hu] at HR
  have HU:=hid hu
  have HSU:Hid (su=R.2):=hid (by rw [← HR.out])
  have HUB:Hid (u<4294967296):=hid (by have:=HN.out;omega)
  have hvv:((10+u:Nat):Int)=(n:Int):=by have:=HN.out;omega
  clear hu HR
  go_wp2_with fail
  refine (tree_ino b O T k st rep s2 _ k.sb T1 T1 3 _ _ u _ _ _ H3.out (by omega) rfl rfl (by omega) (Nat.le_refl _) HUB.out (by have:=HC.out;omega) PL1.out HU.out).mono ?_;rintro e w4 ⟨rfl,h4,f4⟩
  have H4:Hid (LzAt (IC b O) O T w4 k st rep R.2):=hid (by rw [← HSU.out];exact h4)
  have F4:=hid (F3.out.trans f4)
  clear h4 f4
  go_wp2
  go_ret
  refine ⟨ret_int' ?_,H4.out,F4.out⟩
  have hfin:=HN.out
  first | omega | (unfold wrap64;omega)
 have hdt:decide (x2=0)=false:=decide_eq_false h1
 have hge2:18≤n:=by
  refine Classical.byContradiction fun h18=>h1 ?_
  have:=HN.out.2.2.2.2
  rw [decide_eq_false h18] at this
  exact this.symm
 have HR:=hid (show (18+(treeAt inC T2 8 (n-18) s2).1,(treeAt inC T2 8 (n-18) s2).2)=R by have:=HR1.out;rw [if_neg h1] at this;exact this)
 rw [hdt]
 clear HR1 hdt
 obtain ⟨y,hy⟩:∃ y,n-18=y:=⟨_,rfl⟩
 rw [hy] at HR
 have hyi:(n2:Int)-16=(y:Int):=by have:=HN.out;omega
 have hyw:IntKind.i64.wrap (y:Int)=(y:Int):=Go.IntWalk.i64_in _ (by have:=HN.out;omega)
 obtain ⟨⟨u,su⟩,hu⟩:∃ yy,treeAt inC T2 8 y s2=yy:=⟨_,rfl⟩
 have hu1:u=y:=by have:=treeAt_in T2 8 y s2 (by have:=HN.out;omega);rw [hu] at this;exact this
 subst hu1
 rw [hu] at HR
 have HU:=hid hu
 have HSU:Hid (su=R.2):=hid (by rw [← HR.out])
 have HUB:Hid (u<4294967296):=hid (by have:=HN.out;omega)
 have hvv:((18+u:Nat):Int)=(n:Int):=by have:=HN.out;omega
 clear hu HR
 go_wp2_with fail
 refine (tree_ino b O T k st rep s2 _ k.sb T2 T2 8 _ _ u _ _ _ H3.out (by omega) rfl rfl (by omega) (Nat.le_refl _) HUB.out (by have:=HC.out;omega) PL2.out HU.out).mono ?_;rintro e w4 ⟨rfl,h4,f4⟩
 have H4:Hid (LzAt (IC b O) O T w4 k st rep R.2):=hid (by rw [← HSU.out];exact h4)
 have F4:=hid (F3.out.trans f4)
 clear h4 f4
 go_wp2
 go_ret
 refine ⟨ret_int' ?_,H4.out,F4.out⟩
 have hfin:=HN.out
 first | omega | (unfold wrap64;omega)
open Go.RowKit Rng Lz
theorem slot_any_low (d:Nat) (w:World) (h:d<4):Calls Tryz.prog 135 #[.int .u32 d] w fun e w'=>e=.returned (.int .i64 (slotOf d:Nat))∧w=w':=by
 have hi:(d:Int)<4:=by omega
 have hs:slotOf d=d:=by unfold slotOf;rw [if_pos h]
 have hw:IntKind.i64.wrap (d:Int)=(d:Int):=Go.IntWalk.i64_in _ (by omega)
 rw [hs]
 clear hs
 go_enter Tryz.func135,Tryz.ntmps135
 go_wp2
 go_ret
 exact ⟨rfl,rfl⟩
set_option maxRecDepth 100000 in
set_option maxHeartbeats 1000000 in
theorem slot_any (d:Nat) (w:World) (h:d<4294967296):Calls Tryz.prog 135 #[.int .u32 d] w fun e w'=>e=.returned (.int .i64 (slotOf d:Nat))∧w=w':=by
 by_cases h4:d<4
 ·exact slot_any_low d w h4
 obtain ⟨L,c,h1,h2,h3,h5,h6,h7,h8,h9,h10⟩:=slot_parts (d:=d) (by omega) h
 rw [h8]
 have hi:¬ ((d:Int)<4):=by omega
 have hi2:(4:Int)≤(d:Int):=by omega
 obtain ⟨P,hP⟩:∃ P,2 ^ L=P:=⟨_,rfl⟩
 have hPi:(2:Int) ^ L=(P:Int):=by rw [← hP];simp
 rw [hP] at h5 h9 h10
 have hci:(d:Int) / (P:Int)=(c:Int):=by rw [← h5];exact (Int.natCast_ediv d P).symm
 obtain ⟨c1,hc1⟩:∃ c1,c % 2=c1:=⟨_,rfl⟩
 have hand:bits .and .u32 (c:Int) 1=(c1:Int):=by rw [← hc1];exact Num.and32_1 (by show c<4294967296;omega)
 have hc1b:c1≤1:=by omega
 have hc1w:IntKind.i64.wrap (c1:Int)=(c1:Int):=Go.IntWalk.i64_in _ (by omega)
 have hLu:IntKind.u64.wrap (L:Int)=(L:Int):=Go.IntWalk.u64_in _ (by omega)
 have hLm:min L 64=L:=by omega
 have hLm2:min L 32=L:=by omega
 have HP:=hid hP
 have HD:Hid (P*2≤d∧d<P*4):=hid (by
  have e1:c=2∨c=3:=by omega
  rcases e1 with rfl | rfl <;> omega)
 rw [hc1]
 clear h1 h5 h8 h9 h10 hP hc1
 go_enter Tryz.func135,Tryz.ntmps135
 go_wp2
 go_loopw [3,4] (fun nv xv wr=>∃ j x:Nat,nv=.int .i64 j∧xv=.int .u32 x∧x=d / 2 ^ j∧j≤L+1∧wr=w) (fun nv _ _=>L+1-(intOf nv).toNat)
 case atStart=>exact ⟨0,d,rfl,rfl,by rw [Nat.pow_zero,Nat.div_one],by omega,by first | trivial | rfl⟩
 case round =>
 obtain ⟨j,x,rfl,rfl,hx,hj,hwr⟩:=hrel
 subst hwr
 by_cases hjl:j≤L
 ·have hx2:2≤x:=by
   rw [hx]
   refine (Nat.le_div_iff_mul_le (Nat.two_pow_pos j)).2 ?_
   have h1:2 ^ j≤2 ^ L:=Nat.pow_le_pow_right (by omega) hjl
   rw [HP.out] at h1
   have:=HD.out
   omega
  have hx3:(1:Int)<(x:Int):=by omega
  have hxb:x<4294967296:=by rw [hx];have:=Nat.div_le_self d (2 ^ j);omega
  obtain ⟨y,hy⟩:∃ y,x / 2=y:=⟨_,rfl⟩
  have hyi:(x:Int) / 2=(y:Int):=by omega
  have HY:Hid (y=d / 2 ^ (j+1)):=hid (by rw [← hy,hx,Nat.pow_succ,Nat.div_div_eq_div_mul])
  clear hx hx2 hy
  go_wp2
  exact ⟨⟨j+1,y,by go_num,rfl,HY.out,by omega,by first | trivial | rfl⟩,by simp [intOf];omega⟩
 obtain rfl:j=L+1:=by omega
 have hx1:x=1:=by
  rw [hx,Nat.pow_succ,HP.out]
  have:=HD.out
  refine Nat.div_eq_of_lt_le ?_ ?_ <;> omega
 subst hx1
 clear hx hjl hj
 go_wp2
 go_ret
 refine ⟨ret_int' ?_,rfl⟩
 first | omega | (unfold wrap64;omega)
theorem idir_lz {b:Nat} {O:Nat→Prop} {T:TypeId} {w:World} {k:LK} {st:Nat} {rep:Nat→Nat} {s:CP Enc} (h:LzAt (IC b O) O T w k st rep s) (hc:s.d.cnt+32<1000000) (x n:Nat) (zi:Int) (hz:zi=(n:Int)) (hn:n≤31) (hx:x<4294967296) :
 Calls Tryz.prog 196 #[inV b,.int .u32 x,.int .i64 zi] w fun e w'=>e=.returned (.int .u32 ((inC.dir s.d x n).1:Nat))∧LzAt (IC b O) O T w' k st rep ⟨(inC.dir s.d x n).2,s.pr⟩∧Frm (Wr O k) w w':=by
 subst hz
 obtain ⟨⟨v,hv,hvo⟩,hob,hoz,hI⟩:=h.c
 have H:=hid h
 have HV:=hid hv
 have HI:=hid hI
 have HO:=hid (And.intro hvo (And.intro hob hoz))
 have hcn:count (n:Int)=n:=by unfold count;omega
 have HCN:=hid hcn
 obtain ⟨P,hP⟩:∃ P,2 ^ n=P:=⟨_,rfl⟩
 have hPb:P≤2147483648:=by
  rw [← hP]
  have:2 ^ n≤2 ^ 31:=Nat.pow_le_pow_right (by omega) hn
  simpa using this
 have hP1:1≤P:=by rw [← hP];exact Nat.one_le_two_pow
 have hPi:(2:Int) ^ n=(P:Int):=by rw [← hP];simp
 obtain ⟨M,hM⟩:∃ M,P-1=M:=⟨_,rfl⟩
 have hMi:(P:Int)-1=(M:Int):=by omega
 have hPw:IntKind.u32.wrap (P:Int)=(P:Int):=Go.IntWalk.u32_in _ (by omega)
 have hMw:IntKind.u32.wrap (M:Int)=(M:Int):=Go.IntWalk.u32_in _ (by omega)
 have hnu:IntKind.u64.wrap (n:Int)=(n:Int):=Go.IntWalk.u64_in _ (by omega)
 have hn64:min n 64=n:=by omega
 obtain ⟨y,hy⟩:∃ y,x % 2 ^ n=y:=⟨_,rfl⟩
 have hand:bits .and .u32 (x:Int) (M:Int)=(y:Int):=by
  have h1:=Num.and32 (a:=x) (b:=M) hx (by show M<4294967296;omega)
  rw [h1,← hM,← hP,Nat.and_two_pow_sub_one_eq_mod,hy]
 have HY:Hid ((inC.dir s.d x n).1=y):=hid hy
 rw [HY.out]
 clear h hv hI hvo hob hoz hcn hP hM hy
 unfold inV
 go_enter Tryz.func196,Tryz.ntmps196
 go_wp2_with fail
 obtain ⟨X,hX⟩:∃ X,Obj.cells #[.pointer (some ⟨b,0,none⟩)] 155=X:=⟨_,rfl⟩
 rw [hX]
 have hfr:=(Frm.refl (fun _=>False) w).alloc X
 have hv2:EncAt (w.alloc X) 206 0 b 0 v s.d:=⟨HV.out.p.alloc _,HV.out.o.alloc _,HV.out.k⟩
 refine (edirect_p b 0 x n v s.d (w.alloc X) hv2 (Nat.zero_le _) hc HI.out.r HI.out.c hx).mono ?_
 rintro e w' ⟨v',rfl,h1,h2,h3⟩
 rw [HCN.out] at h1
 have hf:Frm O w w':=(((Frm.refl O w).alloc X)).trans (h2.mono fun q _ hq=>by
  rcases hq with e | e
  ·rw [e];exact HO.out.2.1
  exact HO.out.1 q e)
 have hI2:EncI (Enc.direct x n s.d):=encI_stays.dir s.d x n HI.out
 have hl:=H.out.coder2 (d:=Enc.direct x n s.d) (w':=w') (IC.moved HO.out.2.2 HO.out.1 HO.out.2.1 hf.size h1 (fun q hq=>by
  rcases h3.cases q hq with e | e
  ·exact .inl e
  exact .inr (Nat.le_trans hfr.size e)) hI2) hf
 have HL:=hid hl
 clear h1 h2 h3 hX hfr hv2 hf hI2 hl
 go_wp2
 go_ret
 exact ⟨rfl,HL.out.1,HL.out.2⟩
theorem back_ino (b:Nat) (O:Nat→Prop) (T:TypeId) (k:LK) (st:Nat) (rep:Nat→Nat) (s:CP Enc) (R:Nat×CP Enc) (tb tq base n len cap x:Nat) (xi z:Int) (w:World) (h:LzAt (IC b O) O T w k st rep s) (hn:n≤8) (hz:z=(n:Int)) (hxi:xi=(x:Int)) (hlen:2 ^ n≤len) (hlc:len≤cap) (hx:x<4294967296) (hc:s.d.cnt+n<1000000)
 (hpl:∀ j,1≤j→j<2 ^ n→Place k (base+j)∧plA k (base+j)=(tb,tq+j)) (hR:backAt inC base n x s=R) :
 Calls Tryz.prog 136 #[.slice (some ⟨tb,tq,none⟩) len cap,.iface 155 (inV b),.int .i64 xi,.int .i64 z] w fun e w'=>e=.returned (.int .i64 (R.1:Nat)) ∧
  LzAt (IC b O) O T w' k st rep R.2∧Frm (Wr O k) w w':=by
 subst hz;subst hR;subst hxi
 exact back_in b O T k st rep s tb tq base n len cap x w h hn hlen hlc hx hc hpl
theorem slot_num (d t:Nat) (w:World) (h:d<4294967296) (ht:slotOf d=t):Calls Tryz.prog 135 #[.int .u32 d] w fun e w'=>e=.returned (.int .i64 (t:Nat))∧w=w':=by
 subst ht;exact slot_any d w h
set_option maxRecDepth 100000 in
set_option maxHeartbeats 2000000 in
theorem dist_in (b:Nat) (O:Nat→Prop) (T:TypeId) (k:LK) (st:Nat) (rep:Nat→Nat) (s:CP Enc) (d size:Nat) (w:World) (h:LzAt (IC b O) O T w k st rep s) (hs:2≤size) (hsz:size≤300) (hd:d<4294967296) (hc:s.d.cnt+50<1000000) :
 Calls Tryz.prog 111 #[.pointer (some ⟨k.sb,0,none⟩),.iface 155 (inV b),.int .u32 d,.int .i64 size] w fun e w'=>e=.returned (.int .u32 (d:Nat)) ∧
  LzAt (IC b O) O T w' k st rep (distAt inC d size s).2∧Frm (Wr O k) w w':=by
 obtain ⟨R,hR⟩:∃ R,distAt inC d size s=R:=⟨_,rfl⟩
 rw [hR]
 unfold distAt at hR
 simp only at hR
 obtain ⟨q,hq⟩:∃ q,min size 5-2=q:=⟨_,rfl⟩
 have hq3:q<4:=by omega
 obtain ⟨Q2,hQ2⟩:∃ Q2,q+2=Q2:=⟨_,rfl⟩
 have hmin:min (size:Int) 5=(Q2:Int):=by omega
 have hmn:=fun w=>min2_num (P:=Tryz.prog) .i64 #[3,3] 3 _ _ _ hmin w
 have hqs:(Q2:Int)-2=(q:Int):=by omega
 have hqw:IntKind.i64.wrap (q:Int)=(q:Int):=Go.IntWalk.i64_in _ (by omega)
 have hqi:(q:Int)<4:=by omega
 rw [hq] at hR
 obtain ⟨TB,hTB⟩:∃ x,440+q*64=x:=⟨_,rfl⟩
 rw [hTB] at hR
 have PL:=hid (fun (j:Nat) (h1:1≤j) (h2:j<2 ^ 6)=>plm k (i:=TB+j) (by omega) (by omega))
 have htl:=slot_lt hd
 have hbase:4≤d→4≤slotOf d∧(2+slotOf d % 2)*2 ^ (slotOf d / 2-1)≤d∧d<(2+slotOf d % 2)*2 ^ (slotOf d / 2-1)+2 ^ (slotOf d / 2-1):=fun h4=>slot_base h4 hd
 have hlow:d<4→slotOf d=d:=fun h4=>by unfold slotOf;rw [if_pos h4]
 obtain ⟨t,ht⟩:∃ t,slotOf d=t:=⟨_,rfl⟩
 rw [ht] at hR htl hbase hlow
 obtain ⟨s1,hs1⟩:∃ s1,(treeAt inC TB 6 t s).2=s1:=⟨_,rfl⟩
 rw [treeAt_in _ _ _ _ htl,hs1] at hR
 have hc1:s1.d.cnt≤s.d.cnt+6:=by rw [← hs1];exact cnt_treeAt TB 6 t s
 have HT:=hid hs1
 have HTV:Hid ((treeAt inC TB 6 t s).1=t):=hid (treeAt_in _ _ _ _ htl)
 have HC:=hid (And.intro hc hc1)
 have HRR:=hid hR
 have HSL:=hid ht
 have HBASE:=hid hbase
 have HLOW:=hid hlow
 have HDB:=hid hd
 have ATD:=hid (h.later (IC.keep b O) ((Frm.refl _ w).drew))
 clear h hR hs1 hmin hq hQ2 hc hc1 ht hbase hlow
 go_enter Tryz.func111,Tryz.ntmps111
 go_upto_region 1 with fail
 go_cut [9] from 12 (fun v wx=>v=.int .i64 t∧LzAt (IC b O) O T wx k st rep s1∧Frm (Wr O k) w wx)
 case first =>
  go_region_with (first
   | (go_at_call 135;refine (slot_num d t _ HDB.out HSL.out).mono ?_;rintro e w2 ⟨rfl,rfl⟩)
   | (go_at_call 134;refine (tree_ino b O T k st rep _ _ k.sb TB TB 6 _ _ t _ _ _ ATD.out (by omega) rfl rfl (by omega) (Nat.le_refl _) (by omega) (by have:=HC.out;omega) PL.out rfl).mono ?_;rintro e w2 ⟨rfl,h2,f2⟩;rw [HTV.out];rw [HT.out] at h2))
  all_goals
   have H2:=hid h2
   have F2:=hid (((Frm.refl _ w).drew).trans f2)
   clear h2 f2
   go_wp2
   go_meet
   case rel=>exact ⟨rfl,H2.out,F2.out⟩
 case rest =>
 obtain ⟨rfl,h2,f2⟩:=hcut
 have H2:=hid h2
 have F2:=hid f2
 clear h2 f2 ATD
 by_cases ht4:t<4
 ·have hd4:d<4:=Classical.byContradiction fun h4=>by have:=(HBASE.out (by omega)).1;omega
  have htd:=HLOW.out hd4
  have hR:=HRR.out
  rw [if_pos ht4] at hR
  subst hR
  subst htd
  have htw:IntKind.u32.wrap (t:Int)=(t:Int):=Go.IntWalk.u32_in _ (by omega)
  clear HRR
  go_wp2
  go_ret
  exact ⟨rfl,H2.out,F2.out⟩
 have hd4:4≤d:=Classical.byContradiction fun h4=>by have:=HLOW.out (by omega);omega
 obtain ⟨-,g1,g2⟩:=HBASE.out hd4
 have hR:=HRR.out
 rw [if_neg ht4] at hR
 clear HRR
 obtain ⟨K,P,bs,hK,hP,hbs,hPi,hK30,hb32,hbi⟩:=slot_nums (t:=t) (by omega) htl
 rw [hK,hP,hbs] at g1 g2
 rw [hK,hP,hbs] at hR
 obtain ⟨y,hy⟩:∃ y,d-bs=y:=⟨_,rfl⟩
 rw [hy] at hR
 have hyi:(d:Int)-(bs:Int)=(y:Int):=by omega
 have hyP:y<P:=by omega
 have hPle:P≤1073741824:=by
  rw [← hP]
  have:2 ^ K≤2 ^ 30:=Nat.pow_le_pow_right (by omega) hK30
  simpa using this
 have hyw:IntKind.u32.wrap (y:Int)=(y:Int):=Go.IntWalk.u32_in _ (by omega)
 have hyw2:IntKind.i64.wrap (y:Int)=(y:Int):=Go.IntWalk.i64_in _ (by omega)
 have hdb:bs+y=d:=by omega
 obtain ⟨K1,hK1⟩:∃ K1,t / 2=K1:=⟨_,rfl⟩
 have hk1:(t:Int) / 2=(K1:Int):=by omega
 have hk2:(K1:Int)-1=(K:Int):=by omega
 obtain ⟨b1,hb1⟩:∃ b1,t % 2=b1:=⟨_,rfl⟩
 have hand:bits .and .i64 (t:Int) 1=(b1:Int):=by
  have:=and_i64 (a:=t) (b:=1) (by omega) (by omega)
  rw [nat_mask1,hb1] at this
  exact this
 obtain ⟨c1,hc1⟩:∃ c1,2+b1=c1:=⟨_,rfl⟩
 have hc2:(2:Int)+(b1:Int)=(c1:Int):=by omega
 have hcb:(c1:Int)*(P:Int)=(bs:Int):=by rw [← hbi,hb1,hc2]
 have hwc:IntKind.u32.wrap (c1:Int)=(c1:Int):=Go.IntWalk.u32_in _ (by omega)
 have hwb:IntKind.u32.wrap (bs:Int)=(bs:Int):=Go.IntWalk.u32_in _ (by omega)
 have hKu:IntKind.u64.wrap (K:Int)=(K:Int):=Go.IntWalk.u64_in _ (by omega)
 have hKm:min K 64=K:=by omega
 have hb1b:b1≤1:=by omega
 have hc1b:c1≤3:=by omega
 have HDY:=hid (And.intro hdb hd4)
 by_cases ht14:t<14
 ·rw [if_pos ht14] at hR
  obtain ⟨l1,l2,l3⟩:=slot_low (by omega) ht14 hK hP hbs
  obtain ⟨off,hoff⟩:∃ off,bs-t=off:=⟨_,rfl⟩
  have hoi:(bs:Int)-(t:Int)=(off:Int):=by omega
  have hoff2:696+bs-t=696+off:=by omega
  rw [hoff2] at hR
  have hti:(t:Int)<14:=by omega
  have hPp:1≤P:=by rw [← hP];exact Nat.one_le_two_pow
  have hsl:=fun w=>slice_places k.sb 696 off (by omega) w
  obtain ⟨OF,hO⟩:∃ OF,696+off=OF:=⟨_,rfl⟩
  rw [hO] at hR hsl
  have PL2:=hid (fun (j:Nat) (h1:1≤j) (h2:j<2 ^ K)=>plm k (i:=OF+j) (by omega) (by rw [hP] at h2;omega))
  have HU:Hid ((backAt inC OF K y s1).1=y):=hid (backAt_in _ _ _ _ (by rw [hP];exact hyP))
  have hlen:2 ^ K≤128-off:=by rw [hP];omega
  have HLEN:=hid hlen
  have HRX:=hid hR
  obtain ⟨N9,hN9⟩:∃ N9,128-off=N9:=⟨_,rfl⟩
  rw [hN9] at hsl HLEN
  clear hR hbs hK hK1 hb1 hc1 hbi hP hoff hoff2 hO hlen hN9 g1 g2 hy hdb
  go_wp2_with fail
  refine (back_ino b O T k st rep _ _ k.sb OF OF K _ _ y _ _ _ H2.out (by omega) rfl rfl HLEN.out (Nat.le_refl _) (by omega) (by have:=HC.out;omega) PL2.out rfl).mono ?_;rintro e w4 ⟨rfl,h4,f4⟩
  rw [HU.out]
  have H4:Hid (LzAt (IC b O) O T w4 k st rep R.2):=hid (by rw [← HRX.out];exact h4)
  have F4:=hid (F2.out.trans f4)
  clear h4 f4
  go_wp2
  go_ret
  refine ⟨ret_u32 ?_,H4.out,F4.out⟩
  have:=HDY.out
  omega
 rw [if_neg ht14] at hR
 obtain ⟨K4,hK4⟩:∃ K4,K-4=K4:=⟨_,rfl⟩
 have hk4:(K:Int)-4=(K4:Int):=by omega
 rw [hK4] at hR
 obtain ⟨y4,hy4⟩:∃ y4,y / 16=y4:=⟨_,rfl⟩
 have hy4i:(y:Int) / 16=(y4:Int):=by omega
 rw [hy4] at hR
 obtain ⟨z,hz⟩:∃ z,d % 16=z:=⟨_,rfl⟩
 rw [hz] at hR
 have hzi:bits .and .u32 (d:Int) 15=(z:Int):=by
  have h1:=Num.and32 (a:=d) (b:=15) HDB.out (by decide)
  rw [show (15:Nat)=2 ^ 4-1 by rfl,Nat.and_two_pow_sub_one_eq_mod] at h1
  rw [← hz]
  exact h1
 have hzb:z<16:=by omega
 have hzw:IntKind.i64.wrap (z:Int)=(z:Int):=Go.IntWalk.i64_in _ (by omega)
 have hP4:P=2 ^ K4*16:=by rw [← hP,show K=K4+4 by omega,Nat.pow_add]
 have HV4:Hid ((inC.dir s1.d y4 K4).1=y4):=hid (by
  show y4 % 2 ^ K4=y4
  refine Nat.mod_eq_of_lt ?_
  generalize 2 ^ K4=Q at *
  omega)
 have hbs16:bs % 16=0:=by
  rw [← hbs,hP4,← Nat.mul_assoc,Nat.mul_mod_left]
 have hfin:bs+y4*16+z=d:=by omega
 have HU:Hid ((backAt inC 824 4 z ⟨(inC.dir s1.d y4 K4).2,s1.pr⟩).1=z):=hid (backAt_in _ _ _ _ (by omega))
 have hcd:(inC.dir s1.d y4 K4).2.cnt≤s1.d.cnt+K4:=Enc.direct_cnt
 have HCD:=hid hcd
 have PL2:=hid (fun (j:Nat) (h1:1≤j) (h2:j<2 ^ 4)=>plm k (i:=824+j) (by omega) (by omega))
 have HRX:=hid hR
 have hti:¬ ((t:Int)<14):=by omega
 have hmd:=meth_indir (inV b)
 have hK32:K4≤31:=by omega
 have h824:2 ^ 4≤16:=by omega
 have HFIN:=hid (And.intro hfin (show y4≤67108864 by omega))
 clear hR hbs hK hK1 hb1 hc1 hbi hP hK4 g1 g2 hy hdb hy4 hz hP4 hbs16 hfin hcd
 go_wp2_with fail
 refine (idir_lz H2.out (by have:=HC.out;omega) y4 K4 _ rfl hK32 (by have:=HFIN.out;omega)).mono ?_;rintro e w3 ⟨rfl,h3,f3⟩
 rw [HV4.out]
 have H3:=hid h3
 have F3:=hid (F2.out.trans f3)
 clear h3 f3
 go_wp2_with fail
 refine (back_ino b O T k st rep _ _ k.sb 824 824 4 _ _ z _ _ _ H3.out (by omega) rfl rfl h824 (Nat.le_refl _) (by omega) (by have:=HC.out;have:=HCD.out;simp only;omega) PL2.out rfl).mono ?_;rintro e w4 ⟨rfl,h4,f4⟩
 rw [HU.out]
 have H4:Hid (LzAt (IC b O) O T w4 k st rep R.2):=hid (by rw [← HRX.out];exact h4)
 have F4:=hid (F3.out.trans f4)
 clear h4 f4
 go_wp2
 go_ret
 refine ⟨ret_u32 ?_,H4.out,F4.out⟩
 have:=HFIN.out
 omega
end Go.Proofs.YtffehfpbdcokbaaGreat
