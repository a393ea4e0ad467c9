import Derived.Test.YtablgjhnpphodaaGreatBu2
import Derived.Test.YtablgjhnpphodaaGreatBu3
import Derived.Test.YtablgjhnpphodaaGreatBu11
set_option linter.unusedVariables false
set_option linter.unusedSimpArgs false
namespace Go.Proofs.YtablgjhnpphodaaGreat
open Lib (hid)
open Go.RowKit Rng Lz
theorem tree_ino (b:Nat) (O:Nat→Prop) (T:TypeId) (k:LK) (st:Nat) (rep:Nat→Nat) (s:CP Enc) (R:Nat×CP Enc) (tb tq base n len cap x:Nat) (xi z:Int) (w:World) (h:LzAt (IC b O) O T w k st rep s) (hn:n≤8) (hz:z=(n:Int)) (hxi:xi=(x:Int)) (hlen:2 ^ n≤len) (hlc:len≤cap) (hx:x<4294967296) (hc:s.d.cnt+n<1000000)
 (hpl:∀ j,1≤j→j<2 ^ n→Place k (base+j)∧plA k (base+j)=(tb,tq+j)) (hR:treeAt inC base n x s=R) :
 Calls Tryz.prog 104 #[.slice (some ⟨tb,tq,none⟩) len cap,.iface 169 (inV b),.int .i64 xi,.int .i64 z] w fun e w'=>e=.returned (.int .i64 (R.1:Nat)) ∧
  LzAt (IC b O) O T w' k st rep R.2∧Frm (Wr O k) w w':=by
 subst hz;subst hR;subst hxi
 exact tree_in b O T k st rep s tb tq base n len cap x w h hn hlen hlc hx hc hpl
theorem cnt_treeAt (base n x:Nat) (s:CP Enc):(treeAt inC base n x s).2.d.cnt≤s.d.cnt+n:=cnt_treeIn base x n 1 s
set_option maxRecDepth 100000 in
theorem cnt_len (base n p:Nat) (s:CP Enc):(lenAt inC base n p s).2.d.cnt≤s.d.cnt+10:=by
 have h1:=cnt_bitIn1 base (b2n (decide (10≤n))) s
 have h2:=cnt_bitIn1 (base+1) (b2n (decide (18≤n))) (bitAt inC base (b2n (decide (10≤n))) s).2
 unfold lenAt
 simp only
 split
 ·have:=cnt_treeAt (base+2+p*8) 3 (n-2) (bitAt inC base (b2n (decide (10≤n))) s).2
  simp only;omega
 split
 ·have:=cnt_treeAt (base+130+p*8) 3 (n-10) (bitAt inC (base+1) (b2n (decide (18≤n))) (bitAt inC base (b2n (decide (10≤n))) s).2).2
  simp only;omega
 have:=cnt_treeAt (base+258) 8 (n-18) (bitAt inC (base+1) (b2n (decide (18≤n))) (bitAt inC base (b2n (decide (10≤n))) s).2).2
 simp only;omega
theorem beq0 (x:Nat):((x:Int)==0)=decide (x=0):=by
 by_cases h:x=0
 ·subst h;rfl
 rw [decide_eq_false h,beq_eq_false_iff_ne];omega
theorem bool01_num (y:Bool) (x:Nat) (hx:b2n y=x) (w:World):Calls Tryz.prog 103 #[.bool y] w fun e w'=>e=.returned (.int .i64 (x:Nat))∧w=w':=by
 subst hx;exact bool01_any y w
set_option maxRecDepth 100000 in
set_option maxHeartbeats 2000000 in
theorem lens_in (b:Nat) (O:Nat→Prop) (T:TypeId) (k:LK) (st:Nat) (rep:Nat→Nat) (s:CP Enc) (base n p:Nat) (w:World) (h:LzAt (IC b O) O T w k st rep s) (hb:base=840∨base=1354) (hp:p<16) (hn2:2≤n) (hn:n≤273) (hc:s.d.cnt+10<1000000) :
 Calls Tryz.prog 94 #[.pointer (some ⟨k.sb,base,none⟩),.iface 169 (inV b),.int .i64 n,.int .i64 p] w fun e w'=>e=.returned (.int .i64 ((lenAt inC base n p s).1:Nat)) ∧
  LzAt (IC b O) O T w' k st rep (lenAt inC base n p s).2∧Frm (Wr O k) w w':=by
 obtain ⟨R,hR⟩:∃ R,lenAt inC base n p s=R:=⟨_,rfl⟩
 rw [hR]
 have hv:R.1=n:=by rw [← hR];exact lenAt_in base n p s hn2 hn
 rw [hv]
 unfold lenAt at hR
 simp only at hR
 have ATD:=hid (h.later (IC.keep b O) ((Frm.refl _ w).drew))
 have HB:=hid hb
 have P0:=hid (plm k (i:=base) (by omega) (by omega))
 have P1:=hid (plm k (i:=base+1) (by omega) (by omega))
 have hno:=nil_in (inV b)
 have hme:=meth_inbit (inV b)
 have hpi:(p:Int)<16:=by omega
 obtain ⟨T0,hT0⟩:∃ x,base+2+p*8=x:=⟨_,rfl⟩
 obtain ⟨T1,hT1⟩:∃ x,base+130+p*8=x:=⟨_,rfl⟩
 obtain ⟨T2,hT2⟩:∃ x,base+258=x:=⟨_,rfl⟩
 have PL0:=hid (fun (j:Nat) (h1:1≤j) (h2:j<2 ^ 3)=>plm k (i:=T0+j) (by have:=HB.out;omega) (by have:=HB.out;omega))
 have PL1:=hid (fun (j:Nat) (h1:1≤j) (h2:j<2 ^ 3)=>plm k (i:=T1+j) (by have:=HB.out;omega) (by have:=HB.out;omega))
 have PL2:=hid (fun (j:Nat) (h1:1≤j) (h2:j<2 ^ 8)=>plm k (i:=T2+j) (by have:=HB.out;omega) (by have:=HB.out;omega))
 rw [hT0,hT1,hT2] at hR
 obtain ⟨n2,hn2e⟩:∃ n2,n-2=n2:=⟨_,rfl⟩
 have hn2i:(n:Int)-2=(n2:Int):=by omega
 have hn2w:IntKind.i64.wrap (n2:Int)=(n2:Int):=Go.IntWalk.i64_in _ (by omega)
 rw [hn2e] at hR
 obtain ⟨x1,hx1⟩:∃ x,b2n (decide (10≤n))=x:=⟨_,rfl⟩
 obtain ⟨x2,hx2⟩:∃ x,b2n (decide (18≤n))=x:=⟨_,rfl⟩
 have hb1:x1≤1:=by rw [← hx1];cases decide (10≤n) <;> decide
 have hb2:x2≤1:=by rw [← hx2];cases decide (18≤n) <;> decide
 have hd1:b2n (decide ((8:Int)≤(n2:Int)))=x1:=by rw [← hx1];congr 1;rw [decide_eq_decide];omega
 have hd2:b2n (decide ((16:Int)≤(n2:Int)))=x2:=by rw [← hx2];congr 1;rw [decide_eq_decide];omega
 rw [hx1,hx2] at hR
 obtain ⟨s1,hs1⟩:∃ s1,(bitAt inC base x1 s).2=s1:=⟨_,rfl⟩
 obtain ⟨s2,hs2⟩:∃ s2,(bitAt inC (base+1) x2 s1).2=s2:=⟨_,rfl⟩
 rw [bitIn_val _ _ _ hb1,hs1,bitIn_val _ _ _ hb2,hs2] at hR
 have hc1:s1.d.cnt≤s.d.cnt+1:=by rw [← hs1];exact cnt_bitIn1 _ _ _
 have hc2:s2.d.cnt≤s1.d.cnt+1:=by rw [← hs2];exact cnt_bitIn1 _ _ _
 have HC:=hid (And.intro hc (And.intro hc1 hc2))
 have HS1:=hid hs1
 have HS2:=hid hs2
 have HR:=hid hR
 have HD1:=hid hd1
 have HD2:=hid hd2
 have HN:=hid (And.intro hn2e (And.intro hn2 (And.intro hn (And.intro hx1 hx2))))
 have HB12:=hid (And.intro hb1 hb2)
 have HV:=hid hv
 clear h hb hR hc hs1 hs2 hc1 hc2 hd1 hd2 hn2e hn2 hn hx1 hx2 hv hb1 hb2
 go_enter Tryz.func94,Tryz.ntmps94
 go_upto_region 2 with fail
 go_cut [23] from 11 (fun v wx=>v=.bool (decide (x1=0))∧LzAt (IC b O) O T wx k st rep s1∧Frm (Wr O k) w wx)
 case first =>
  go_region_with (first
   | (go_at_call 103;refine (bool01_num _ x1 HD1.out _).mono ?_;rintro e w2 ⟨rfl,rfl⟩)
   | (go_at_call 88;refine (ibit_lz ATD.out (by have:=HC.out;omega) base k.sb base x1 x1 rfl HB12.out.1 P0.out.1 P0.out.2).mono ?_;rintro e w2 ⟨rfl,h2,f2⟩;rw [HS1.out] at h2))
  all_goals
   have H2:=hid h2
   have F2:=hid (((Frm.refl _ w).drew).trans f2)
   clear h2 f2
   go_wp2
   go_meet
   case rel=>exact ⟨by rw [← beq0],H2.out,F2.out⟩
 obtain ⟨rfl,h2,f2⟩:=hcut
 have H2:=hid h2
 have F2:=hid f2
 clear h2 f2 ATD
 by_cases h0:x1=0
 ·have hdt:decide (x1=0)=true:=decide_eq_true h0
  have hlt:¬ 10≤n:=by
   intro h10
   have:=HN.out.2.2.2.1
   rw [decide_eq_true h10,h0] at this
   cases this
  have HR2:Hid ((2+(treeAt inC T0 3 n2 s1).1,(treeAt inC T0 3 n2 s1).2)=R):=hid (by have:=HR.out;rw [if_pos h0] at this;exact this)
  rw [hdt]
  clear HR hdt
  have HR:=HR2
  clear HR2
  obtain ⟨⟨u,su⟩,hu⟩:∃ yy,treeAt inC T0 3 n2 s1=yy:=⟨_,rfl⟩
  have hu1:u=n2:=by have:=treeAt_in T0 3 n2 s1 (by have:=HN.out;omega);rw [hu] at this;exact this
  subst hu1
  rw [hu] at HR
  have HU:=hid hu
  have HSU:Hid (su=R.2):=hid (by rw [← HR.out])
  have HUB:Hid (u<4294967296):=hid (by have:=HN.out;omega)
  have hvv:((2+u:Nat):Int)=(n:Int):=by have:=HN.out;omega
  clear hu HR
  go_wp2_with fail
  refine (tree_ino b O T k st rep s1 _ k.sb T0 T0 3 _ _ u _ _ _ H2.out (by omega) rfl rfl (by omega) (Nat.le_refl _) HUB.out (by have:=HC.out;omega) PL0.out HU.out).mono ?_;rintro e w4 ⟨rfl,h4,f4⟩
  have H4:Hid (LzAt (IC b O) O T w4 k st rep R.2):=hid (by rw [← HSU.out];exact h4)
  have F4:=hid (F2.out.trans f4)
  clear h4 f4
  go_wp2
  go_ret
  refine ⟨ret_int' ?_,H4.out,F4.out⟩
  have hfin:=HN.out
  first | omega | (unfold wrap64;omega)
 have hdt:decide (x1=0)=false:=decide_eq_false h0
 have hge:10≤n:=by
  refine Classical.byContradiction fun h10=>h0 ?_
  have:=HN.out.2.2.2.1
  rw [decide_eq_false h10] at this
  exact this.symm
 have HR1:=hid (show (if x2=0 then (10+(treeAt inC T1 3 (n-10) s2).1,(treeAt inC T1 3 (n-10) s2).2) else (18+(treeAt inC T2 8 (n-18) s2).1,(treeAt inC T2 8 (n-18) s2).2))=R by have:=HR.out;rw [if_neg h0] at this;exact this)
 have ATD:=hid (H2.out.later (IC.keep b O) ((Frm.refl _ wc).drew))
 rw [hdt]
 clear HR hdt
 go_upto_region 4 with fail
 go_cut [46] from 11 (fun v wx=>v=.bool (decide (x2=0))∧LzAt (IC b O) O T wx k st rep s2∧Frm (Wr O k) w wx)
 case first =>
  go_region_with (first
   | (go_at_call 103;refine (bool01_num _ x2 HD2.out _).mono ?_;rintro e w2 ⟨rfl,rfl⟩)
   | (go_at_call 88;refine (ibit_lz ATD.out (by have:=HC.out;omega) (base+1) k.sb (base+1) x2 x2 rfl HB12.out.2 P1.out.1 P1.out.2).mono ?_;rintro e w2 ⟨rfl,h2,f2⟩;rw [HS2.out] at h2))
  all_goals
   have H3:=hid h2
   have F3:=hid ((F2.out.drew).trans f2)
   clear h2 f2
   go_wp2
   go_meet
   case rel=>exact ⟨by rw [← beq0],H3.out,F3.out⟩
 obtain ⟨rfl,h2,f2⟩:=hcut
 have H3:=hid h2
 have F3:=hid f2
 clear h2 f2 ATD H2 F2
 by_cases h1:x2=0
 ·have hdt:decide (x2=0)=true:=decide_eq_true h1
  have hlt:¬ 18≤n:=by
   intro h18
   have:=HN.out.2.2.2.2
   rw [decide_eq_true h18,h1] at this
   cases this
  have HR:=hid (show (10+(treeAt inC T1 3 (n-10) s2).1,(treeAt inC T1 3 (n-10) s2).2)=R by have:=HR1.out;rw [if_pos h1] at this;exact this)
  rw [hdt]
  clear HR1 hdt
  obtain ⟨y,hy⟩:∃ y,n-10=y:=⟨_,rfl⟩
  rw [hy] at HR
  have hyi:(n2:Int)-8=(y:Int):=by have:=HN.out;omega
  have hyw:IntKind.i64.wrap (y:Int)=(y:Int):=Go.IntWalk.i64_in _ (by have:=HN.out;omega)
  obtain ⟨⟨u,su⟩,hu⟩:∃ yy,treeAt inC T1 3 y s2=yy:=⟨_,rfl⟩
  have hu1:u=y:=by have:=treeAt_in T1 3 y s2 (by have:=HN.out;omega);rw [hu] at this;exact this
  subst hu1
  rw [hu] at HR
  have HU:=hid hu
  have HSU:Hid (su=R.2):=hid (by rw [← HR.out])
  have HUB:Hid (u<4294967296):=hid (by have:=HN.out;omega)
  have hvv:((10+u:Nat):Int)=(n:Int):=by have:=HN.out;omega
  clear hu HR
  go_wp2_with fail
  refine (tree_ino b O T k st rep s2 _ k.sb T1 T1 3 _ _ u _ _ _ H3.out (by omega) rfl rfl (by omega) (Nat.le_refl _) HUB.out (by have:=HC.out;omega) PL1.out HU.out).mono ?_;rintro e w4 ⟨rfl,h4,f4⟩
  have H4:Hid (LzAt (IC b O) O T w4 k st rep R.2):=hid (by rw [← HSU.out];exact h4)
  have F4:=hid (F3.out.trans f4)
  clear h4 f4
  go_wp2
  go_ret
  refine ⟨ret_int' ?_,H4.out,F4.out⟩
  have hfin:=HN.out
  first | omega | (unfold wrap64;omega)
 have hdt:decide (x2=0)=false:=decide_eq_false h1
 have hge2:18≤n:=by
  refine Classical.byContradiction fun h18=>h1 ?_
  have:=HN.out.2.2.2.2
  rw [decide_eq_false h18] at this
  exact this.symm
 have HR:=hid (show (18+(treeAt inC T2 8 (n-18) s2).1,(treeAt inC T2 8 (n-18) s2).2)=R by have:=HR1.out;rw [if_neg h1] at this;exact this)
 rw [hdt]
 clear HR1 hdt
 obtain ⟨y,hy⟩:∃ y,n-18=y:=⟨_,rfl⟩
 rw [hy] at HR
 have hyi:(n2:Int)-16=(y:Int):=by have:=HN.out;omega
 have hyw:IntKind.i64.wrap (y:Int)=(y:Int):=Go.IntWalk.i64_in _ (by have:=HN.out;omega)
 obtain ⟨⟨u,su⟩,hu⟩:∃ yy,treeAt inC T2 8 y s2=yy:=⟨_,rfl⟩
 have hu1:u=y:=by have:=treeAt_in T2 8 y s2 (by have:=HN.out;omega);rw [hu] at this;exact this
 subst hu1
 rw [hu] at HR
 have HU:=hid hu
 have HSU:Hid (su=R.2):=hid (by rw [← HR.out])
 have HUB:Hid (u<4294967296):=hid (by have:=HN.out;omega)
 have hvv:((18+u:Nat):Int)=(n:Int):=by have:=HN.out;omega
 clear hu HR
 go_wp2_with fail
 refine (tree_ino b O T k st rep s2 _ k.sb T2 T2 8 _ _ u _ _ _ H3.out (by omega) rfl rfl (by omega) (Nat.le_refl _) HUB.out (by have:=HC.out;omega) PL2.out HU.out).mono ?_;rintro e w4 ⟨rfl,h4,f4⟩
 have H4:Hid (LzAt (IC b O) O T w4 k st rep R.2):=hid (by rw [← HSU.out];exact h4)
 have F4:=hid (F3.out.trans f4)
 clear h4 f4
 go_wp2
 go_ret
 refine ⟨ret_int' ?_,H4.out,F4.out⟩
 have hfin:=HN.out
 first | omega | (unfold wrap64;omega)
open Go.RowKit Rng Lz
theorem slot_any_low (d:Nat) (w:World) (h:d<4):Calls Tryz.prog 105 #[.int .u32 d] w fun e w'=>e=.returned (.int .i64 (slotOf d:Nat))∧w=w':=by
 have hi:(d:Int)<4:=by omega
 have hs:slotOf d=d:=by unfold slotOf;rw [if_pos h]
 have hw:IntKind.i64.wrap (d:Int)=(d:Int):=Go.IntWalk.i64_in _ (by omega)
 rw [hs]
 clear hs
 go_enter Tryz.func105,Tryz.ntmps105
 go_wp2
 go_ret
 exact ⟨rfl,rfl⟩
set_option maxRecDepth 100000 in
set_option maxHeartbeats 1000000 in
theorem slot_any (d:Nat) (w:World) (h:d<4294967296):Calls Tryz.prog 105 #[.int .u32 d] w fun e w'=>e=.returned (.int .i64 (slotOf d:Nat))∧w=w':=by
 by_cases h4:d<4
 ·exact slot_any_low d w h4
 obtain ⟨L,c,h1,h2,h3,h5,h6,h7,h8,h9,h10⟩:=slot_parts (d:=d) (by omega) h
 rw [h8]
 have hi:¬ ((d:Int)<4):=by omega
 have hi2:(4:Int)≤(d:Int):=by omega
 obtain ⟨P,hP⟩:∃ P,2 ^ L=P:=⟨_,rfl⟩
 have hPi:(2:Int) ^ L=(P:Int):=by rw [← hP];simp
 rw [hP] at h5 h9 h10
 have hci:(d:Int) / (P:Int)=(c:Int):=by rw [← h5];exact (Int.natCast_ediv d P).symm
 obtain ⟨c1,hc1⟩:∃ c1,c % 2=c1:=⟨_,rfl⟩
 have hand:bits .and .u32 (c:Int) 1=(c1:Int):=by rw [← hc1];exact Num.and32_1 (by show c<4294967296;omega)
 have hc1b:c1≤1:=by omega
 have hc1w:IntKind.i64.wrap (c1:Int)=(c1:Int):=Go.IntWalk.i64_in _ (by omega)
 have hLu:IntKind.u64.wrap (L:Int)=(L:Int):=Go.IntWalk.u64_in _ (by omega)
 have hLm:min L 64=L:=by omega
 have hLm2:min L 32=L:=by omega
 have HP:=hid hP
 have HD:Hid (P*2≤d∧d<P*4):=hid (by
  have e1:c=2∨c=3:=by omega
  rcases e1 with rfl | rfl <;> omega)
 rw [hc1]
 clear h1 h5 h8 h9 h10 hP hc1
 go_enter Tryz.func105,Tryz.ntmps105
 go_wp2
 go_loopw [3,4] (fun nv xv wr=>∃ j x:Nat,nv=.int .i64 j∧xv=.int .u32 x∧x=d / 2 ^ j∧j≤L+1∧wr=w) (fun nv _ _=>L+1-(intOf nv).toNat)
 case atStart=>exact ⟨0,d,rfl,rfl,by rw [Nat.pow_zero,Nat.div_one],by omega,by first | trivial | rfl⟩
 obtain ⟨j,x,rfl,rfl,hx,hj,hwr⟩:=hrel
 subst hwr
 by_cases hjl:j≤L
 ·have hx2:2≤x:=by
   rw [hx]
   refine (Nat.le_div_iff_mul_le (Nat.two_pow_pos j)).2 ?_
   have h1:2 ^ j≤2 ^ L:=Nat.pow_le_pow_right (by omega) hjl
   rw [HP.out] at h1
   have:=HD.out
   omega
  have hx3:(1:Int)<(x:Int):=by omega
  have hxb:x<4294967296:=by rw [hx];have:=Nat.div_le_self d (2 ^ j);omega
  obtain ⟨y,hy⟩:∃ y,x / 2=y:=⟨_,rfl⟩
  have hyi:(x:Int) / 2=(y:Int):=by omega
  have HY:Hid (y=d / 2 ^ (j+1)):=hid (by rw [← hy,hx,Nat.pow_succ,Nat.div_div_eq_div_mul])
  clear hx hx2 hy
  go_wp2
  exact ⟨⟨j+1,y,by go_num,rfl,HY.out,by omega,by first | trivial | rfl⟩,by simp [intOf];omega⟩
 obtain rfl:j=L+1:=by omega
 have hx1:x=1:=by
  rw [hx,Nat.pow_succ,HP.out]
  have:=HD.out
  refine Nat.div_eq_of_lt_le ?_ ?_ <;> omega
 subst hx1
 clear hx hjl hj
 go_wp2
 go_ret
 refine ⟨ret_int' ?_,rfl⟩
 first | omega | (unfold wrap64;omega)
theorem idir_lz {b:Nat} {O:Nat→Prop} {T:TypeId} {w:World} {k:LK} {st:Nat} {rep:Nat→Nat} {s:CP Enc} (h:LzAt (IC b O) O T w k st rep s) (hc:s.d.cnt+32<1000000) (x n:Nat) (zi:Int) (hz:zi=(n:Int)) (hn:n≤31) (hx:x<4294967296) :
 Calls Tryz.prog 156 #[inV b,.int .u32 x,.int .i64 zi] w fun e w'=>e=.returned (.int .u32 ((inC.dir s.d x n).1:Nat))∧LzAt (IC b O) O T w' k st rep ⟨(inC.dir s.d x n).2,s.pr⟩∧Frm (Wr O k) w w':=by
 subst hz
 obtain ⟨⟨v,hv,hvo⟩,hob,hoz,hI⟩:=h.c
 have H:=hid h
 have HV:=hid hv
 have HI:=hid hI
 have HO:=hid (And.intro hvo (And.intro hob hoz))
 have hcn:count (n:Int)=n:=by unfold count;omega
 have HCN:=hid hcn
 obtain ⟨P,hP⟩:∃ P,2 ^ n=P:=⟨_,rfl⟩
 have hPb:P≤2147483648:=by
  rw [← hP]
  have:2 ^ n≤2 ^ 31:=Nat.pow_le_pow_right (by omega) hn
  simpa using this
 have hP1:1≤P:=by rw [← hP];exact Nat.one_le_two_pow
 have hPi:(2:Int) ^ n=(P:Int):=by rw [← hP];simp
 obtain ⟨M,hM⟩:∃ M,P-1=M:=⟨_,rfl⟩
 have hMi:(P:Int)-1=(M:Int):=by omega
 have hPw:IntKind.u32.wrap (P:Int)=(P:Int):=Go.IntWalk.u32_in _ (by omega)
 have hMw:IntKind.u32.wrap (M:Int)=(M:Int):=Go.IntWalk.u32_in _ (by omega)
 have hnu:IntKind.u64.wrap (n:Int)=(n:Int):=Go.IntWalk.u64_in _ (by omega)
 have hn64:min n 64=n:=by omega
 obtain ⟨y,hy⟩:∃ y,x % 2 ^ n=y:=⟨_,rfl⟩
 have hand:bits .and .u32 (x:Int) (M:Int)=(y:Int):=by
  have h1:=Num.and32 (a:=x) (b:=M) hx (by show M<4294967296;omega)
  rw [h1,← hM,← hP,Nat.and_two_pow_sub_one_eq_mod,hy]
 have HY:Hid ((inC.dir s.d x n).1=y):=hid hy
 rw [HY.out]
 clear h hv hI hvo hob hoz hcn hP hM hy
 unfold inV
 go_enter Tryz.func156,Tryz.ntmps156
 go_wp2_with fail
 obtain ⟨X,hX⟩:∃ X,Obj.cells #[.pointer (some ⟨b,0,none⟩)] 169=X:=⟨_,rfl⟩
 rw [hX]
 have hfr:=(Frm.refl (fun _=>False) w).alloc X
 have hv2:EncAt (w.alloc X) 191 0 b 0 v s.d:=⟨HV.out.p.alloc _,HV.out.o.alloc _,HV.out.k⟩
 refine (edirect_p b 0 x n v s.d (w.alloc X) hv2 (Nat.zero_le _) hc HI.out.r HI.out.c hx).mono ?_
 rintro e w' ⟨v',rfl,h1,h2,h3⟩
 rw [HCN.out] at h1
 have hf:Frm O w w':=(((Frm.refl O w).alloc X)).trans (h2.mono fun q _ hq=>by
  rcases hq with e | e
  ·rw [e];exact HO.out.2.1
  exact HO.out.1 q e)
 have hI2:EncI (Enc.direct x n s.d):=encI_stays.dir s.d x n HI.out
 have hl:=H.out.coder2 (d:=Enc.direct x n s.d) (w':=w') (IC.moved HO.out.2.2 HO.out.1 HO.out.2.1 hf.size h1 (fun q hq=>by
  rcases h3.cases q hq with e | e
  ·exact .inl e
  exact .inr (Nat.le_trans hfr.size e)) hI2) hf
 have HL:=hid hl
 clear h1 h2 h3 hX hfr hv2 hf hI2 hl
 go_wp2
 go_ret
 exact ⟨rfl,HL.out.1,HL.out.2⟩
theorem back_ino (b:Nat) (O:Nat→Prop) (T:TypeId) (k:LK) (st:Nat) (rep:Nat→Nat) (s:CP Enc) (R:Nat×CP Enc) (tb tq base n len cap x:Nat) (xi z:Int) (w:World) (h:LzAt (IC b O) O T w k st rep s) (hn:n≤8) (hz:z=(n:Int)) (hxi:xi=(x:Int)) (hlen:2 ^ n≤len) (hlc:len≤cap) (hx:x<4294967296) (hc:s.d.cnt+n<1000000)
 (hpl:∀ j,1≤j→j<2 ^ n→Place k (base+j)∧plA k (base+j)=(tb,tq+j)) (hR:backAt inC base n x s=R) :
 Calls Tryz.prog 106 #[.slice (some ⟨tb,tq,none⟩) len cap,.iface 169 (inV b),.int .i64 xi,.int .i64 z] w fun e w'=>e=.returned (.int .i64 (R.1:Nat)) ∧
  LzAt (IC b O) O T w' k st rep R.2∧Frm (Wr O k) w w':=by
 subst hz;subst hR;subst hxi
 exact back_in b O T k st rep s tb tq base n len cap x w h hn hlen hlc hx hc hpl
theorem slot_num (d t:Nat) (w:World) (h:d<4294967296) (ht:slotOf d=t):Calls Tryz.prog 105 #[.int .u32 d] w fun e w'=>e=.returned (.int .i64 (t:Nat))∧w=w':=by
 subst ht;exact slot_any d w h
set_option maxRecDepth 100000 in
set_option maxHeartbeats 2000000 in
theorem dist_in (b:Nat) (O:Nat→Prop) (T:TypeId) (k:LK) (st:Nat) (rep:Nat→Nat) (s:CP Enc) (d size:Nat) (w:World) (h:LzAt (IC b O) O T w k st rep s) (hs:2≤size) (hsz:size≤300) (hd:d<4294967296) (hc:s.d.cnt+50<1000000) :
 Calls Tryz.prog 95 #[.pointer (some ⟨k.sb,0,none⟩),.iface 169 (inV b),.int .u32 d,.int .i64 size] w fun e w'=>e=.returned (.int .u32 (d:Nat)) ∧
  LzAt (IC b O) O T w' k st rep (distAt inC d size s).2∧Frm (Wr O k) w w':=by
 obtain ⟨R,hR⟩:∃ R,distAt inC d size s=R:=⟨_,rfl⟩
 rw [hR]
 unfold distAt at hR
 simp only at hR
 obtain ⟨q,hq⟩:∃ q,min size 5-2=q:=⟨_,rfl⟩
 have hq3:q<4:=by omega
 obtain ⟨Q2,hQ2⟩:∃ Q2,q+2=Q2:=⟨_,rfl⟩
 have hmin:min (size:Int) 5=(Q2:Int):=by omega
 have hmn:=fun w=>min2_num (P:=Tryz.prog) .i64 #[3,3] 3 _ _ _ hmin w
 have hqs:(Q2:Int)-2=(q:Int):=by omega
 have hqw:IntKind.i64.wrap (q:Int)=(q:Int):=Go.IntWalk.i64_in _ (by omega)
 have hqi:(q:Int)<4:=by omega
 rw [hq] at hR
 obtain ⟨TB,hTB⟩:∃ x,440+q*64=x:=⟨_,rfl⟩
 rw [hTB] at hR
 have PL:=hid (fun (j:Nat) (h1:1≤j) (h2:j<2 ^ 6)=>plm k (i:=TB+j) (by omega) (by omega))
 have htl:=slot_lt hd
 have hbase:4≤d→4≤slotOf d∧(2+slotOf d % 2)*2 ^ (slotOf d / 2-1)≤d∧d<(2+slotOf d % 2)*2 ^ (slotOf d / 2-1)+2 ^ (slotOf d / 2-1):=fun h4=>slot_base h4 hd
 have hlow:d<4→slotOf d=d:=fun h4=>by unfold slotOf;rw [if_pos h4]
 obtain ⟨t,ht⟩:∃ t,slotOf d=t:=⟨_,rfl⟩
 rw [ht] at hR htl hbase hlow
 obtain ⟨s1,hs1⟩:∃ s1,(treeAt inC TB 6 t s).2=s1:=⟨_,rfl⟩
 rw [treeAt_in _ _ _ _ htl,hs1] at hR
 have hc1:s1.d.cnt≤s.d.cnt+6:=by rw [← hs1];exact cnt_treeAt TB 6 t s
 have HT:=hid hs1
 have HTV:Hid ((treeAt inC TB 6 t s).1=t):=hid (treeAt_in _ _ _ _ htl)
 have HC:=hid (And.intro hc hc1)
 have HRR:=hid hR
 have HSL:=hid ht
 have HBASE:=hid hbase
 have HLOW:=hid hlow
 have HDB:=hid hd
 have ATD:=hid (h.later (IC.keep b O) ((Frm.refl _ w).drew))
 clear h hR hs1 hmin hq hQ2 hc hc1 ht hbase hlow
 go_enter Tryz.func95,Tryz.ntmps95
 go_upto_region 1 with fail
 go_cut [9] from 12 (fun v wx=>v=.int .i64 t∧LzAt (IC b O) O T wx k st rep s1∧Frm (Wr O k) w wx)
 case first =>
  go_region_with (first
   | (go_at_call 105;refine (slot_num d t _ HDB.out HSL.out).mono ?_;rintro e w2 ⟨rfl,rfl⟩)
   | (go_at_call 104;refine (tree_ino b O T k st rep _ _ k.sb TB TB 6 _ _ t _ _ _ ATD.out (by omega) rfl rfl (by omega) (Nat.le_refl _) (by omega) (by have:=HC.out;omega) PL.out rfl).mono ?_;rintro e w2 ⟨rfl,h2,f2⟩;rw [HTV.out];rw [HT.out] at h2))
  all_goals
   have H2:=hid h2
   have F2:=hid (((Frm.refl _ w).drew).trans f2)
   clear h2 f2
   go_wp2
   go_meet
   case rel=>exact ⟨rfl,H2.out,F2.out⟩
 obtain ⟨rfl,h2,f2⟩:=hcut
 have H2:=hid h2
 have F2:=hid f2
 clear h2 f2 ATD
 by_cases ht4:t<4
 ·have hd4:d<4:=Classical.byContradiction fun h4=>by have:=(HBASE.out (by omega)).1;omega
  have htd:=HLOW.out hd4
  have hR:=HRR.out
  rw [if_pos ht4] at hR
  subst hR
  subst htd
  have htw:IntKind.u32.wrap (t:Int)=(t:Int):=Go.IntWalk.u32_in _ (by omega)
  clear HRR
  go_wp2
  go_ret
  exact ⟨rfl,H2.out,F2.out⟩
 have hd4:4≤d:=Classical.byContradiction fun h4=>by have:=HLOW.out (by omega);omega
 obtain ⟨-,g1,g2⟩:=HBASE.out hd4
 have hR:=HRR.out
 rw [if_neg ht4] at hR
 clear HRR
 obtain ⟨K,P,bs,hK,hP,hbs,hPi,hK30,hb32,hbi⟩:=slot_nums (t:=t) (by omega) htl
 rw [hK,hP,hbs] at g1 g2
 rw [hK,hP,hbs] at hR
 obtain ⟨y,hy⟩:∃ y,d-bs=y:=⟨_,rfl⟩
 rw [hy] at hR
 have hyi:(d:Int)-(bs:Int)=(y:Int):=by omega
 have hyP:y<P:=by omega
 have hPle:P≤1073741824:=by
  rw [← hP]
  have:2 ^ K≤2 ^ 30:=Nat.pow_le_pow_right (by omega) hK30
  simpa using this
 have hyw:IntKind.u32.wrap (y:Int)=(y:Int):=Go.IntWalk.u32_in _ (by omega)
 have hyw2:IntKind.i64.wrap (y:Int)=(y:Int):=Go.IntWalk.i64_in _ (by omega)
 have hdb:bs+y=d:=by omega
 obtain ⟨K1,hK1⟩:∃ K1,t / 2=K1:=⟨_,rfl⟩
 have hk1:(t:Int) / 2=(K1:Int):=by omega
 have hk2:(K1:Int)-1=(K:Int):=by omega
 obtain ⟨b1,hb1⟩:∃ b1,t % 2=b1:=⟨_,rfl⟩
 have hand:bits .and .i64 (t:Int) 1=(b1:Int):=by
  have:=and_i64 (a:=t) (b:=1) (by omega) (by omega)
  rw [nat_mask1,hb1] at this
  exact this
 obtain ⟨c1,hc1⟩:∃ c1,2+b1=c1:=⟨_,rfl⟩
 have hc2:(2:Int)+(b1:Int)=(c1:Int):=by omega
 have hcb:(c1:Int)*(P:Int)=(bs:Int):=by rw [← hbi,hb1,hc2]
 have hwc:IntKind.u32.wrap (c1:Int)=(c1:Int):=Go.IntWalk.u32_in _ (by omega)
 have hwb:IntKind.u32.wrap (bs:Int)=(bs:Int):=Go.IntWalk.u32_in _ (by omega)
 have hKu:IntKind.u64.wrap (K:Int)=(K:Int):=Go.IntWalk.u64_in _ (by omega)
 have hKm:min K 64=K:=by omega
 have hb1b:b1≤1:=by omega
 have hc1b:c1≤3:=by omega
 have HDY:=hid (And.intro hdb hd4)
 by_cases ht14:t<14
 ·rw [if_pos ht14] at hR
  obtain ⟨l1,l2,l3⟩:=slot_low (by omega) ht14 hK hP hbs
  obtain ⟨off,hoff⟩:∃ off,bs-t=off:=⟨_,rfl⟩
  have hoi:(bs:Int)-(t:Int)=(off:Int):=by omega
  have hoff2:696+bs-t=696+off:=by omega
  rw [hoff2] at hR
  have hti:(t:Int)<14:=by omega
  have hPp:1≤P:=by rw [← hP];exact Nat.one_le_two_pow
  have hsl:=fun w=>slice_places k.sb 696 off (by omega) w
  obtain ⟨OF,hO⟩:∃ OF,696+off=OF:=⟨_,rfl⟩
  rw [hO] at hR hsl
  have PL2:=hid (fun (j:Nat) (h1:1≤j) (h2:j<2 ^ K)=>plm k (i:=OF+j) (by omega) (by rw [hP] at h2;omega))
  have HU:Hid ((backAt inC OF K y s1).1=y):=hid (backAt_in _ _ _ _ (by rw [hP];exact hyP))
  have hlen:2 ^ K≤128-off:=by rw [hP];omega
  have HLEN:=hid hlen
  have HRX:=hid hR
  obtain ⟨N9,hN9⟩:∃ N9,128-off=N9:=⟨_,rfl⟩
  rw [hN9] at hsl HLEN
  clear hR hbs hK hK1 hb1 hc1 hbi hP hoff hoff2 hO hlen hN9 g1 g2 hy hdb
  go_wp2_with fail
  refine (back_ino b O T k st rep _ _ k.sb OF OF K _ _ y _ _ _ H2.out (by omega) rfl rfl HLEN.out (Nat.le_refl _) (by omega) (by have:=HC.out;omega) PL2.out rfl).mono ?_;rintro e w4 ⟨rfl,h4,f4⟩
  rw [HU.out]
  have H4:Hid (LzAt (IC b O) O T w4 k st rep R.2):=hid (by rw [← HRX.out];exact h4)
  have F4:=hid (F2.out.trans f4)
  clear h4 f4
  go_wp2
  go_ret
  refine ⟨ret_u32 ?_,H4.out,F4.out⟩
  have:=HDY.out
  omega
 rw [if_neg ht14] at hR
 obtain ⟨K4,hK4⟩:∃ K4,K-4=K4:=⟨_,rfl⟩
 have hk4:(K:Int)-4=(K4:Int):=by omega
 rw [hK4] at hR
 obtain ⟨y4,hy4⟩:∃ y4,y / 16=y4:=⟨_,rfl⟩
 have hy4i:(y:Int) / 16=(y4:Int):=by omega
 rw [hy4] at hR
 obtain ⟨z,hz⟩:∃ z,d % 16=z:=⟨_,rfl⟩
 rw [hz] at hR
 have hzi:bits .and .u32 (d:Int) 15=(z:Int):=by
  have h1:=Num.and32 (a:=d) (b:=15) HDB.out (by decide)
  rw [show (15:Nat)=2 ^ 4-1 by rfl,Nat.and_two_pow_sub_one_eq_mod] at h1
  rw [← hz]
  exact h1
 have hzb:z<16:=by omega
 have hzw:IntKind.i64.wrap (z:Int)=(z:Int):=Go.IntWalk.i64_in _ (by omega)
 have hP4:P=2 ^ K4*16:=by rw [← hP,show K=K4+4 by omega,Nat.pow_add]
 have HV4:Hid ((inC.dir s1.d y4 K4).1=y4):=hid (by
  show y4 % 2 ^ K4=y4
  refine Nat.mod_eq_of_lt ?_
  generalize 2 ^ K4=Q at *
  omega)
 have hbs16:bs % 16=0:=by
  rw [← hbs,hP4,← Nat.mul_assoc,Nat.mul_mod_left]
 have hfin:bs+y4*16+z=d:=by omega
 have HU:Hid ((backAt inC 824 4 z ⟨(inC.dir s1.d y4 K4).2,s1.pr⟩).1=z):=hid (backAt_in _ _ _ _ (by omega))
 have hcd:(inC.dir s1.d y4 K4).2.cnt≤s1.d.cnt+K4:=Enc.direct_cnt
 have HCD:=hid hcd
 have PL2:=hid (fun (j:Nat) (h1:1≤j) (h2:j<2 ^ 4)=>plm k (i:=824+j) (by omega) (by omega))
 have HRX:=hid hR
 have hti:¬ ((t:Int)<14):=by omega
 have hmd:=meth_indir (inV b)
 have hK32:K4≤31:=by omega
 have h824:2 ^ 4≤16:=by omega
 have HFIN:=hid (And.intro hfin (show y4≤67108864 by omega))
 clear hR hbs hK hK1 hb1 hc1 hbi hP hK4 g1 g2 hy hdb hy4 hz hP4 hbs16 hfin hcd
 go_wp2_with fail
 refine (idir_lz H2.out (by have:=HC.out;omega) y4 K4 _ rfl hK32 (by have:=HFIN.out;omega)).mono ?_;rintro e w3 ⟨rfl,h3,f3⟩
 rw [HV4.out]
 have H3:=hid h3
 have F3:=hid (F2.out.trans f3)
 clear h3 f3
 go_wp2_with fail
 refine (back_ino b O T k st rep _ _ k.sb 824 824 4 _ _ z _ _ _ H3.out (by omega) rfl rfl h824 (Nat.le_refl _) (by omega) (by have:=HC.out;have:=HCD.out;simp only;omega) PL2.out rfl).mono ?_;rintro e w4 ⟨rfl,h4,f4⟩
 rw [HU.out]
 have H4:Hid (LzAt (IC b O) O T w4 k st rep R.2):=hid (by rw [← HRX.out];exact h4)
 have F4:=hid (F3.out.trans f4)
 clear h4 f4
 go_wp2
 go_ret
 refine ⟨ret_u32 ?_,H4.out,F4.out⟩
 have:=HFIN.out
 omega
open Go.RowKit Rng Lz
set_option maxRecDepth 100000 in
set_option maxHeartbeats 2000000 in
theorem lit_in (b:Nat) (O:Nat→Prop) (T:TypeId) (k:LK) (st total ahead far:Nat) (rep:Nat→Nat) (s:CP Enc) (w:World) (h:LzAt (IC b O) O T w k st rep s) (hk:k.Ok) (ht:total<4611686018427387904) (ha:ahead<256) (hfa:far<256) (X:Nat) (hX8:X<256) (hcn:s.d.cnt+8<1000000) :
 Calls Tryz.prog 90 #[.pointer (some ⟨k.sb,0,none⟩),.iface 169 (inV b),.int .i64 X,.int .i64 total,.int .u8 ahead,.int .u8 far] w fun e w'=>e=.returned (.int .u8 ((litAt inC k.lc k.lp st total ahead far X s).1:Nat)) ∧
  LzAt (IC b O) O T w' k st rep (litAt inC k.lc k.lp st total ahead far X s).2∧Frm (Wr O k) w w':=by
 have c0:w.cell? ⟨k.sb,0,none⟩=some (.int .i64 k.lc):=(h.hdr (i:=0) (by omega)).1
 have c1:w.cell? ⟨k.sb,1,none⟩=some (.int .i64 k.lp):=(h.hdr (i:=1) (by omega)).1
 have c3:w.cell? ⟨k.sb,3,none⟩=some (.int .i64 st):=(h.hdr (i:=3) (by omega)).1
 have c9:w.cell? ⟨k.sb,1868,none⟩=some (.slice (some ⟨k.lb,0,none⟩) k.L k.L):=by rw [h.m.cell,mcells_get _ _ _ _ (by omega)];rfl
 have hok:=hk.a
 obtain ⟨R,hR⟩:∃ R,litAt inC k.lc k.lp st total ahead far X s=R:=⟨_,rfl⟩
 rw [hR]
 unfold litAt at hR
 have hLL:k.L=768*(2 ^ k.lp*2 ^ k.lc):=by unfold LK.L;rw [Nat.pow_add,Nat.mul_comm (2 ^ k.lc)]
 have PLL:∀ j,j<k.L→Place k (4096+j)∧plA k (4096+j)=(k.lb,j):=fun j hj=>pll k hj
 obtain ⟨lc,hlc⟩:∃ e,k.lc=e:=⟨_,rfl⟩
 obtain ⟨lp,hlp⟩:∃ e,k.lp=e:=⟨_,rfl⟩
 obtain ⟨L,hL⟩:∃ e,k.L=e:=⟨_,rfl⟩
 rw [hL] at hLL PLL c9
 rw [hlc] at hLL hR c0 hok
 rw [hlp] at hLL hR c1 hok
 have hP1:2 ^ lp≤2 ^ 4:=Nat.pow_le_pow_right (by omega) (by omega)
 have hP2:2 ^ lc≤2 ^ 4:=Nat.pow_le_pow_right (by omega) (by omega)
 obtain ⟨E,hE⟩:∃ E,8-lc=E:=⟨_,rfl⟩
 have hPE:2 ^ E*2 ^ lc=256:=by rw [← hE,← Nat.pow_add,show 8-lc+lc=8 by omega]
 obtain ⟨P1,hp1⟩:∃ P,2 ^ lp=P:=⟨_,rfl⟩
 obtain ⟨P2,hp2⟩:∃ P,2 ^ lc=P:=⟨_,rfl⟩
 obtain ⟨P3,hp3⟩:∃ P,2 ^ E=P:=⟨_,rfl⟩
 have hi1:(2:Int) ^ lp=(P1:Int):=by rw [← hp1];simp
 have hi2:(2:Int) ^ lc=(P2:Int):=by rw [← hp2];simp
 have hi3:(2:Int) ^ E=(P3:Int):=by rw [← hp3];simp
 have hand:=and_mask ht hp1 (by omega)
 rw [hE,hp1,hp2,hp3] at hR
 rw [hp1,hp2] at hLL
 rw [hp1] at hP1
 rw [hp2] at hP2
 rw [hp2,hp3] at hPE
 have hP1p:1≤P1:=by rw [← hp1];exact Nat.one_le_two_pow
 have hP2p:1≤P2:=by rw [← hp2];exact Nat.one_le_two_pow
 have hP3p:1≤P3:=by rw [← hp3];exact Nat.one_le_two_pow
 have ha1:total % P1<P1:=Nat.mod_lt _ (by omega)
 obtain ⟨A1,hA1⟩:∃ A,total % P1=A:=⟨_,rfl⟩
 rw [hA1] at hand hR ha1
 have ha3:ahead / P3<P2:=by rw [Nat.div_lt_iff_lt_mul (by omega),Nat.mul_comm];omega
 have hi4:(ahead:Int) / (P3:Int)=((ahead / P3:Nat):Int):=(Int.natCast_ediv ahead P3).symm
 obtain ⟨A3,hA3⟩:∃ A,ahead / P3=A:=⟨_,rfl⟩
 rw [hA3] at hR ha3 hi4
 have hA2:A1*P2+P2≤P1*P2:=by
  have:=Nat.mul_le_mul_right P2 (show A1+1≤P1 by omega)
  rw [Nat.add_mul,Nat.one_mul] at this
  exact this
 have hPP:P1*P2≤16*16:=Nat.mul_le_mul hP1 hP2
 have hi5:(A1:Int)*(P2:Int)=((A1*P2:Nat):Int):=by simp
 obtain ⟨A2,hA2e⟩:∃ A,A1*P2=A:=⟨_,rfl⟩
 rw [hA2e] at hR hA2 hi5
 obtain ⟨PP,hPPe⟩:∃ A,P1*P2=A:=⟨_,rfl⟩
 rw [hPPe] at hA2 hPP hLL
 obtain ⟨SET,hSET⟩:∃ A,A2+A3=A:=⟨_,rfl⟩
 rw [hSET] at hR
 have hset:(A2:Int)+(A3:Int)=(SET:Int):=by omega
 have hE8:(8:Int)-(lc:Int)=(E:Int):=by omega
 have hE64:min E 64=E:=by omega
 have hlc64:min lc 64=lc:=by omega
 have hlp64:min lp 64=lp:=by omega
 have hEu:IntKind.u64.wrap (E:Int)=(E:Int):=Go.IntWalk.u64_in _ (by omega)
 have hlcu:IntKind.u64.wrap (lc:Int)=(lc:Int):=Go.IntWalk.u64_in _ (by omega)
 have hlpu:IntKind.u64.wrap (lp:Int)=(lp:Int):=Go.IntWalk.u64_in _ (by omega)
 have hfit:768*SET+768≤L:=by omega
 have hSB:SET<256:=by omega
 obtain ⟨X0,hX0⟩:∃ A,768*SET=A:=⟨_,rfl⟩
 obtain ⟨X1,hX1⟩:∃ A,X0+768=A:=⟨_,rfl⟩
 have hxi0:(768:Int)*(SET:Int)=(X0:Int):=by omega
 have hxi1:(X0:Int)+768=(X1:Int):=by omega
 rw [hX0] at hR hfit
 have hsl:=fun w=>slice_lits k.lb L X0 X1 hfit hX1.symm w
 have b1:P1≤16:=by omega
 have b2:P2≤16:=by omega
 have b3:P3≤256:=by have:=Nat.mul_le_mul_left P3 hP2p;omega
 have b4:A1≤16:=by omega
 have b5:A2≤256:=by omega
 have b6:A3≤16:=by omega
 have b7:X0≤200000:=by omega
 have b8:X1≤200768:=by omega
 have AT:=hid h
 have HCN:=hid hcn
 have HX8:=hid hX8
 clear hcn hX8
 have HRR:=hid hR
 have HPL:=hid PLL
 have HFIT:=hid hfit
 clear h hk hR PLL hlc hlp hL hLL hp1 hp2 hp3 hP1 hP2 hPE hA1 hA3 hA2e hPPe hSET hE hA2 hPP ha1 ha3 hok hP1p hP2p hP3p hfit hX0 hX1
 go_enter Tryz.func90,Tryz.ntmps90
 go_wp2
 go_quiet (fail)
 go_upto_if 58 with fail
 obtain ⟨RR,hRR⟩:∃ RR,(if 7≤st then farGo inC (4096+X0) X far 8 1 s else treeGo inC (4096+X0) X 8 1 s)=RR:=⟨_,rfl⟩
 rw [hRR] at HRR
 have HQ:=hid hRR
 have ATD:=hid (AT.out.later (IC.keep b O) ((Frm.refl _ w).drewN nq))
 have FD:=hid ((Frm.refl (Wr O k) w).drewN nq)
 clear hRR hsl hand hi1 hi2 hi3 hi4 hi5 hset hE8 hE64 hlc64 hlp64 hEu hlcu hlpu hxi0 hxi1 b1 b2 b3 b4 b5 b6 b8 c0 c1 c9
 have hno:=nil_in (inV b)
 have hme:=meth_inbit (inV b)
 go_cut [15,16] from 19 to 94 (fun nv iv wx=>∃ (r m:Nat) (i:Int) (s':CP Enc),nv=.int .i64 m∧iv=.int .i64 i∧i=(r:Int)-1∧r≤8∧2 ^ (8-r)≤m∧m<2 ^ (8-r+1)∧treeGo inC (4096+X0) X r m s'=RR∧LzAt (IC b O) O T wx k st rep s'∧s'.d.cnt+r<1000000∧Frm (Wr O k) w wx)
 case first =>
  by_cases h7:7≤st
  ·have h7i:(7:Int)≤(st:Int):=by omega
   have hRR:=HQ.out
   rw [if_pos h7] at hRR
   have HQ2:=hid hRR
   have h7d:decide (7≤st)=true:=decide_eq_true h7
   clear hRR HQ AT HRR
   go_wp2
   go_step3
   go_wp2
   go_step3
   go_wp2
   have h7e:decide ((7:Int)≤(st:Int))=true:=decide_eq_true h7i
   simp only [h7e]
   clear h7 h7i h7d h7e
   go_loopw [15,16] (fun nv iv wx=>∃ (r m:Nat) (i:Int) (s':CP Enc),nv=.int .i64 m∧iv=.int .i64 i∧i=(r:Int)-1∧r≤8∧2 ^ (8-r)≤m∧m<2 ^ (8-r+1)∧farGo inC (4096+X0) X far r m s'=RR∧LzAt (IC b O) O T wx k st rep s'∧s'.d.cnt+r<1000000∧Frm (Wr O k) w wx) (fun _ iv _=>(intOf iv+1).toNat)
   case atStart=>exact ⟨8,1,7,s,rfl,rfl,by omega,by omega,by simp,by simp,HQ2.out,ATD.out,HCN.out,FD.out⟩
   obtain ⟨r,m,i,s',rfl,rfl,hi,hr,hm1,hm2,hgo,hat,hcn,hfr⟩:=hrel
   have GO:=hid hgo
   have AT:=hid hat
   have FR:=hid hfr
   have CN:=hid hcn
   clear hgo hat hfr hcn ATD FD HQ2
   cases r with
   | zero =>
    obtain rfl:i = -1:=by omega
    have HM1:=hid hm1
    have HM2:=hid hm2
    clear hi hm1 hm2
    go_wp2
    simp only [Exit.noGoto_normal]
    go_wp2
    go_meet
    case rel=>exact ⟨0,m,-1,s',rfl,rfl,by omega,by omega,HM1.out,HM2.out,GO.out,AT.out,CN.out,FR.out⟩
   | succ q =>
    obtain rfl:i=(q:Int):=by omega
    clear hi
    have hpow:m<2 ^ 8:=Nat.lt_of_lt_of_le hm2 (Nat.pow_le_pow_right (by omega) (by omega))
    have hmb:m<256:=by omega
    have HM1:=hid hm1
    have HM2:=hid hm2
    have hq64:min q 64=q:=by omega
    have hqu:IntKind.u64.wrap (q:Int)=(q:Int):=Go.IntWalk.u64_in _ (by omega)
    obtain ⟨Pq,hPq⟩:∃ P,2 ^ q=P:=⟨_,rfl⟩
    have hPi:(2:Int) ^ q=(Pq:Int):=by rw [← hPq];simp
    have hFi:(far:Int) / (Pq:Int)=((far / Pq:Nat):Int):=(Int.natCast_ediv far Pq).symm
    have hFl:far / Pq≤far:=Nat.div_le_self _ _
    obtain ⟨Fq,hFq⟩:∃ F,far / Pq=F:=⟨_,rfl⟩
    rw [hFq] at hFi hFl
    obtain ⟨W,hW⟩:∃ W,Fq % 2=W:=⟨_,rfl⟩
    have hWi:bits .and .i64 (Fq:Int) 1=(W:Int):=by
     have:=and_i64 (a:=Fq) (b:=1) (by omega) (by omega)
     rw [nat_mask1,hW] at this
     exact this
    have hWb:W≤1:=by omega
    obtain ⟨Y,hY⟩:∃ Y,X / Pq=Y:=⟨_,rfl⟩
    have hYi:(X:Int) / (Pq:Int)=(Y:Int):=by rw [← hY];exact (Int.natCast_ediv X Pq).symm
    have hYb:Y<256:=by have:=Nat.div_le_self X Pq;have:=HX8.out;omega
    obtain ⟨V,hV⟩:∃ V,Y % 2=V:=⟨_,rfl⟩
    have hVi:bits .and .i64 (Y:Int) 1=(V:Int):=by
     have:=and_i64 (a:=Y) (b:=1) (by omega) (by omega)
     rw [nat_mask1,hV] at this
     exact this
    have hVb:V≤1:=by omega
    have hgo:(if V=W then farGo inC (4096+X0) X far q (2*m+V) (bitAt inC (4096+X0+(1+W)*256+m) V s').2
     else treeGo inC (4096+X0) X q (2*m+V) (bitAt inC (4096+X0+(1+W)*256+m) V s').2)=RR:=by
     have h:=GO.out
     unfold farGo at h
     simp only at h
     rw [hPq,hFq,hW,hY,hV,bitIn_val _ _ _ hVb] at h
     exact h
    obtain ⟨WW,hWW⟩:∃ x,(1+W)*256=x:=⟨_,rfl⟩
    obtain ⟨V1,hV1⟩:∃ x,1+W=x:=⟨_,rfl⟩
    have hV1i:(1:Int)+(W:Int)=(V1:Int):=by omega
    have hV1b:V1≤2:=by omega
    have hWWi:(V1:Int)*256=(WW:Int):=by omega
    obtain ⟨IX,hIX⟩:∃ x,WW+m=x:=⟨_,rfl⟩
    have hIXi:(WW:Int)+(m:Int)=(IX:Int):=by omega
    have hIXb:IX<768:=by omega
    have hw1:IntKind.i64.wrap (V1:Int)=(V1:Int):=Go.IntWalk.i64_in _ (by omega)
    have hw2:IntKind.i64.wrap (WW:Int)=(WW:Int):=Go.IntWalk.i64_in _ (by omega)
    have hw3:IntKind.i64.wrap (IX:Int)=(IX:Int):=Go.IntWalk.i64_in _ (by omega)
    have hWWb:WW≤512:=by omega
    have HP:=hid (HPL.out (X0+IX) (by have:=HFIT.out;omega))
    have eix:4096+X0+(1+W)*256+m=4096+(X0+IX):=by omega
    rw [eix] at hgo
    have ATD:=hid (AT.out.later (IC.keep b O) ((Frm.refl _ _).drew))
    obtain ⟨s2,hs2⟩:∃ x,(bitAt inC (4096+(X0+IX)) V s').2=x:=⟨_,rfl⟩
    rw [hs2] at hgo
    have hcn2:s2.d.cnt+q<1000000:=by have:=cnt_bitIn1 (4096+(X0+IX)) V s';rw [hs2] at this;have:=CN.out;omega
    have hob:=or_bit (m:=m) (b:=V) (by omega) hVb
    have HS2:=hid hs2
    have CN2:=hid hcn2
    have hmw:IntKind.i64.wrap ((m:Int)*2)=(m:Int)*2:=Go.IntWalk.i64_in _ (by omega)
    have G2:=hid hgo
    clear hm1 hm2 hpow hs2 hcn2 hgo hPq hFq hW hWW hIX hV1 eix GO hY hV
    have hbw:V=W∨¬ V=W:=by omega
    rcases hbw with hbw | hbw
    ·have hne:((V:Int) != (W:Int))=false:=by rw [hbw];simp
     have G3:=hid (show farGo inC (4096+X0) X far q (2*m+V) s2=RR by have:=G2.out;rw [if_pos hbw] at this;exact this)
     clear G2 hbw
     go_wp2
     go_region_with (first
      | (go_at_call 88;refine (ibit_lz ATD.out (by have:=CN.out;omega) (4096+(X0+IX)) k.lb (X0+IX) V V rfl hVb HP.out.1 HP.out.2).mono ?_;rintro e w2 ⟨rfl,h2,f2⟩;rw [HS2.out] at h2))
     all_goals
      have H2:=hid h2
      have F2:=hid ((FR.out.drew).trans f2)
      clear h2 f2
      go_wp2
      have e1:2 ^ (8-q)≤2*m+V:=by
       have:=HM1.out
       rw [show 8-q=8-(q+1)+1 by omega,Nat.pow_succ];omega
      have e2:2*m+V<2 ^ (8-q+1):=by
       have:=HM2.out
       rw [show 8-q+1=8-(q+1)+1+1 by omega,Nat.pow_succ];omega
      exact ⟨⟨q,2*m+V,(q:Int)-1,_,by go_num,by go_num,rfl,by omega,e1,e2,G3.out,H2.out,CN2.out,F2.out⟩,by simp [intOf]⟩
    have hne:((V:Int) != (W:Int))=true:=by rw [bne_iff_ne];omega
    have G3:=hid (show treeGo inC (4096+X0) X q (2*m+V) s2=RR by have:=G2.out;rw [if_neg hbw] at this;exact this)
    clear G2 hbw
    go_wp2
    go_region_with (first
     | (go_at_call 88;refine (ibit_lz ATD.out (by have:=CN.out;omega) (4096+(X0+IX)) k.lb (X0+IX) V V rfl hVb HP.out.1 HP.out.2).mono ?_;rintro e w2 ⟨rfl,h2,f2⟩;rw [HS2.out] at h2))
    all_goals
     have H2:=hid h2
     have F2:=hid ((FR.out.drew).trans f2)
     clear h2 f2
     go_wp2
     simp only [Exit.noGoto_normal]
     go_wp2
     go_meet
     refine ⟨q,2*m+V,(q:Int)-1,_,by go_num,by go_num,rfl,by omega,?_,?_,G3.out,H2.out,CN2.out,F2.out⟩
     ·have:=HM1.out
      rw [show 8-q=8-(q+1)+1 by omega,Nat.pow_succ];omega
     have:=HM2.out
     rw [show 8-q+1=8-(q+1)+1+1 by omega,Nat.pow_succ];omega
  have h7i:(st:Int)<7:=by omega
  have h7d:decide (7≤st)=false:=decide_eq_false h7
  have hRR:=HQ.out
  rw [if_neg h7] at hRR
  have HQ2:=hid hRR
  clear hRR HQ AT HRR
  go_wp2
  go_meet
  case rel=>exact ⟨8,1,7,s,rfl,rfl,by omega,by omega,by simp,by simp,HQ2.out,ATD.out,HCN.out,FD.out⟩
 obtain ⟨r0,m0,i0,s0,rfl,rfl,hi0,hr0,hm01,hm02,hgo0,hat0,hcn0,hfr0⟩:=hcut
 have GO0:=hid hgo0
 have AT0:=hid hat0
 have FR0:=hid hfr0
 have CN0:=hid hcn0
 clear hgo0 hat0 hfr0 hcn0 AT ATD FD HQ
 have HI0:=hid hi0
 clear hi0
 go_wp2
 go_loopw [15,16] (fun nv iv wx=>∃ (r m:Nat) (i:Int) (s':CP Enc),nv=.int .i64 m∧iv=.int .i64 i∧i=(r:Int)-1∧r≤8∧2 ^ (8-r)≤m∧m<2 ^ (8-r+1)∧treeGo inC (4096+X0) X r m s'=RR∧LzAt (IC b O) O T wx k st rep s'∧s'.d.cnt+r<1000000∧Frm (Wr O k) w wx) (fun _ iv _=>(intOf iv+1).toNat)
 case atStart=>exact ⟨r0,m0,i0,s0,rfl,rfl,HI0.out,hr0,hm01,hm02,GO0.out,AT0.out,CN0.out,FR0.out⟩
 obtain ⟨r,m,i,s',rfl,rfl,hi,hr,hm1,hm2,hgo,hat,hcn,hfr⟩:=hrel
 have GO:=hid hgo
 have AT:=hid hat
 have FR:=hid hfr
 have CN:=hid hcn
 clear hgo hat hfr hcn CN0 GO0 AT0 FR0 HI0 hm01 hm02 hr0
 cases r with
 | zero =>
  obtain rfl:i = -1:=by omega
  clear hi
  have GO2:(m,s')=RR:=GO.out
  have hma:256≤m:=by simpa using hm1
  have hmb:m<512:=by simpa using hm2
  clear hm1 hm2 hr
  go_wp2
  go_ret
  rw [← HRR.out,← GO2]
  refine ⟨ret_u32 ?_,AT.out,FR.out⟩
  show _=((m-256:Nat):Int)
  omega
 | succ q =>
  obtain rfl:i=(q:Int):=by omega
  clear hi
  have hpow:m<2 ^ 8:=Nat.lt_of_lt_of_le hm2 (Nat.pow_le_pow_right (by omega) (by omega))
  have hml:m<768:=by omega
  have hmb:m<256:=by omega
  have hpos:1≤m:=Nat.le_trans (Nat.one_le_two_pow) hm1
  have HP:=hid (HPL.out (X0+m) (by have:=HFIT.out;omega))
  have HM1:=hid hm1
  have HM2:=hid hm2
  have ATD:=hid (AT.out.later (IC.keep b O) ((Frm.refl _ _).drew))
  have hq64:min q 64=q:=by omega
  have hqu:IntKind.u64.wrap (q:Int)=(q:Int):=Go.IntWalk.u64_in _ (by omega)
  obtain ⟨Pq,hPq⟩:∃ P,2 ^ q=P:=⟨_,rfl⟩
  have hPi:(2:Int) ^ q=(Pq:Int):=by rw [← hPq];simp
  obtain ⟨Y,hY⟩:∃ Y,X / Pq=Y:=⟨_,rfl⟩
  have hYi:(X:Int) / (Pq:Int)=(Y:Int):=by rw [← hY];exact (Int.natCast_ediv X Pq).symm
  have hYb:Y<256:=by have:=Nat.div_le_self X Pq;have:=HX8.out;omega
  obtain ⟨V,hV⟩:∃ V,Y % 2=V:=⟨_,rfl⟩
  have hVi:bits .and .i64 (Y:Int) 1=(V:Int):=by
   have:=and_i64 (a:=Y) (b:=1) (by omega) (by omega)
   rw [nat_mask1,hV] at this
   exact this
  have hVb:V≤1:=by omega
  obtain ⟨s2,hs2⟩:∃ x,(bitAt inC (4096+X0+m) V s').2=x:=⟨_,rfl⟩
  have hgo:treeGo inC (4096+X0) X q (2*m+V) s2=RR:=by
   have h:=GO.out
   unfold treeGo at h
   rw [hPq,hY,hV,bitIn_val _ _ _ hVb,hs2] at h
   exact h
  have hcn2:s2.d.cnt+q<1000000:=by have:=cnt_bitIn1 (4096+X0+m) V s';rw [hs2] at this;have:=CN.out;omega
  have hob:=or_bit (m:=m) (b:=V) (by omega) hVb
  have HS2:=hid hs2
  have CN2:=hid hcn2
  have G3:=hid hgo
  have hmw:IntKind.i64.wrap ((m:Int)*2)=(m:Int)*2:=Go.IntWalk.i64_in _ (by omega)
  clear hm1 hm2 hpow hs2 hcn2 hgo hPq hY hV
  go_wp2
  go_region_with (first
   | (go_at_call 88;refine (ibit_lz ATD.out (by have:=CN.out;omega) (4096+X0+m) k.lb (X0+m) V V rfl hVb (by rw [Nat.add_assoc];exact HP.out.1) (by rw [Nat.add_assoc];exact HP.out.2)).mono ?_;rintro e w2 ⟨rfl,h2,f2⟩;rw [HS2.out] at h2))
  all_goals
   have H2:=hid h2
   have F2:=hid ((FR.out.drew).trans f2)
   clear h2 f2
   go_wp2
   refine ⟨⟨q,2*m+V,(q:Int)-1,_,rfl,by go_num,rfl,by omega,?_,?_,G3.out,H2.out,CN2.out,F2.out⟩,by simp [intOf]⟩
   ·have:=HM1.out
    rw [show 8-q=8-(q+1)+1 by omega,Nat.pow_succ];omega
   have:=HM2.out
   rw [show 8-q+1=8-(q+1)+1+1 by omega,Nat.pow_succ];omega
open Go.RowKit Rng Lz
theorem min3_put {P:Program} (ts:Array TypeId) (t:TypeId) (x y z n:Int) (h:min x (min y z)=n) (w:World):(Builtin.min_ ts t #[.int .i64 x,.int .i64 y,.int .i64 z]).run P w=.ok (.int .i64 n) w:=by
 have e:(if z<(if y<x then y else x) then z else (if y<x then y else x))=n:=by split <;> split <;> omega
 rw [← e]
 simp [Builtin.min_,Builtin.min2]
theorem putreset_st (k0 lc lp pb st:Nat) (rep:Nat→Nat) (pr:Pr) (lv:Value) (T:TypeId) (w:World) (hp:Pts w k0 (qcells lc lp pb st rep pr lv) T) (hcl:lc+lp≤4) (hlv:∃ A n c,lv=.slice A n c) (hpb:pb≤4) :
 Calls Tryz.prog 60 #[.pointer (some ⟨k0,0,none⟩)] w fun e w'=>e=.returned (.tuple #[])∧∃ lb,w.heap.size≤lb∧Pts w' k0 (mcells ⟨k0,lb,lc,lp,pb⟩ 0 (fun _=>0) (fun _=>1024)) T∧Pts w' lb (lcells ⟨k0,lb,lc,lp,pb⟩ (fun _=>1024)) 131∧Frm (· = k0) w w':=by
 have HP:=hid hp
 clear hp
 go_enter Tryz.func60,Tryz.ntmps60
 go_wp2_with fail
 refine (mreset_any k0 lc lp pb st rep pr lv T w HP.out hcl hlv hpb).mono ?_;rintro e w1 ⟨rfl,lb,h1,h2,h3,f1⟩
 have H2:=hid h2
 have H3:=hid h3
 have F1:=hid f1
 clear h2 h3 f1
 go_wp2
 go_end0
 exact ⟨rfl,lb,h1,H2.out,H3.out,F1.out⟩
theorem zero66_size:Tryz.zeroCells150.size=1869:=by kernel_rfl
theorem made_hdr (lc lp pb:Nat):((Tryz.zeroCells148.setIfInBounds 0 (.int .i64 (lc:Int))).setIfInBounds 1 (.int .i64 (lp:Int))).setIfInBounds 2 (.int .i64 (pb:Int))=qcells lc lp pb 0 (fun _=>0) (fun _=>0) (.slice none 0 0):=by
 rw [zero_q,qcells_hdr]
theorem made_put (lc lp pb:Nat):Array.foldl (fun (cs:Array Value) x=>cs.setIfInBounds x.2 x.1) Tryz.zeroCells150 (((Tryz.zeroCells148.setIfInBounds 0 (.int .i64 (lc:Int))).setIfInBounds 1 (.int .i64 (lp:Int))).setIfInBounds 2 (.int .i64 (pb:Int))).zipIdx 0 1869=qcells lc lp pb 0 (fun _=>0) (fun _=>0) (.slice none 0 0):=by
 rw [made_hdr]
 exact fold_all _ _ 1869 (qcells_size _ _ _ _ _ _ _) zero66_size
set_option maxRecDepth 100000 in
set_option maxHeartbeats 1000000 in
theorem putnew_p (lc lp pb:Nat) (h1:lc+lp≤4) (h2:pb≤4) (w:World):Calls Tryz.prog 58 #[.int .i64 lc,.int .i64 lp,.int .i64 pb] w fun e w'=>∃ b lb,e=.returned (.tuple #[.pointer (some ⟨b,0,none⟩),.int .i64 0])∧w.heap.size≤b∧w.heap.size≤lb∧b≠lb ∧
 Pts w' b (mcells ⟨b,lb,lc,lp,pb⟩ 0 (fun _=>0) (fun _=>1024)) 150∧Pts w' lb (lcells ⟨b,lb,lc,lp,pb⟩ (fun _=>1024)) 131∧Below w.heap.size w w':=by
 obtain ⟨m,hm⟩:∃ m:Nat,min lc (min lp pb)=m:=⟨_,rfl⟩
 have hmi:min (lc:Int) (min (lp:Int) (pb:Int))=(m:Int):=by omega
 have hmin:=fun w=>min3_put (P:=Tryz.prog) #[3,3,3] 3 _ _ _ _ hmi w
 have e1:(lc:Int)≤4:=by omega
 have e2:(lp:Int)≤4:=by omega
 have e3:(lc:Int)+(lp:Int)≤4:=by omega
 have e4:(pb:Int)≤4:=by omega
 have H12:=hid (And.intro h1 h2)
 clear hm hmi h1 h2
 go_enter Tryz.func58,Tryz.ntmps58
 go_upto_region 3 with fail
 have hma:=made_put lc lp pb
 clear e1 e2 e3 e4 hmin
 go_wp2_with fail
 have hp:=Pts.new w (qcells lc lp pb 0 (fun _=>0) (fun _=>0) (.slice none 0 0)) 150
 have hb:=(Below.refl w.heap.size w).alloc (Nat.le_refl _) (.cells (qcells lc lp pb 0 (fun _=>0) (fun _=>0) (.slice none 0 0)) 150)
 have hsz:(w.alloc (.cells (qcells lc lp pb 0 (fun _=>0) (fun _=>0) (.slice none 0 0)) 150)).heap.size=w.heap.size+1:=by show (w.heap.push _).size=_;rw [Array.size_push]
 generalize w.alloc (.cells (qcells lc lp pb 0 (fun _=>0) (fun _=>0) (.slice none 0 0)) 150)=wa at *
 refine (putreset_st w.heap.size lc lp pb 0 _ _ _ 150 wa hp H12.out.1 ⟨none,0,0,rfl⟩ H12.out.2).mono ?_;rintro e w1 ⟨rfl,lb,h1,h2,h3,f1⟩
 have H2:=hid h2
 have H3:=hid h3
 have B1:=hid (hb.trans (f1.below hb.size (fun q hq=>by omega)))
 have hlb:w.heap.size<lb:=by omega
 clear h2 h3 f1 hma
 go_wp2
 go_ret2
 exact ⟨w.heap.size,lb,rfl,Nat.le_refl _,by omega,by omega,H2.out,H3.out,B1.out⟩
open Go.RowKit Rng Lz Win
structure WB where
 eb:Nat
 xb:Nat
def WZ (k:LK) (O:Nat→Prop) (g:WB) (q:Nat):Prop:=Wr O k q∨q=g.xb
structure WrAt (O:Nat→Prop) (w:World) (k:LK) (g:WB) (A:Option Addr) (c:Nat) (bs:List UInt8) (shift:Int) (pos:Nat) (st:Nat) (rep:Nat→Nat) (s:CP Enc):Prop where
 lz:LzAt (IC g.eb O) O 150 w k st rep s
 p:Pts w g.xb #[.pointer (some ⟨k.sb,0,none⟩),.pointer (some ⟨g.eb,0,none⟩),.slice A bs.length c,.int .i64 pos,.int .i64 shift] 171
 r:BRow w w.heap.size A bs
 off:BOff (WZ k O g) A bs
 x:¬ O g.xb
section
variable {O : Nat → Prop} {w w' : World} {k : LK} {g : WB} {A : Option Addr} {c : Nat} {bs : List UInt8} {shift : Int} {pos st : Nat} {rep : Nat → Nat} {s : CP Enc}
theorem BRow.apart {B:Nat} {N:Nat→Prop} (h:BRow w B A bs) (ho:BOff N A bs) (hf:Frm N w w'):BRow w' B A bs:=by
 intro h0
 obtain ⟨b,off,rfl,hlt,hc⟩:=h h0
 refine ⟨b,off,rfl,hlt,fun j hj=>?_⟩
 have hN:¬ N b:=ho h0 _ rfl
 have hcell:=hc j hj
 have hb:=World.block_lt_of_cell? w ⟨b,off+j,none⟩ hcell
 rw [World.cell?_of_block (hf.block b hb hN)]
 exact hcell
theorem WrAt.lzStep {st':Nat} {rep':Nat→Nat} {s':CP Enc} (h:WrAt O w k g A c bs shift pos st rep s) (hl:LzAt (IC g.eb O) O 150 w' k st' rep' s') (hf:Frm (Wr O k) w w'):WrAt O w' k g A c bs shift pos st' rep' s':=by
 refine ⟨hl,h.p.frm hf ?_,(h.r.apart h.off (hf.mono fun q _ e=>.inl e)).more hf.size,h.off,h.x⟩
 rintro (e | e | e)
 ·exact h.x e
 ·exact h.p.ne_of h.lz.m (by decide) e
 exact h.p.ne_of h.lz.l (by decide) e
theorem WrAt.drewN (h:WrAt O w k g A c bs shift pos st rep s) (n:Nat):WrAt O (w.drewN n) k g A c bs shift pos st rep s:=h.lzStep (h.lz.later (IC.keep _ _) ((Frm.refl _ w).drewN n)) ((Frm.refl _ w).drewN n)
theorem WrAt.drew (h:WrAt O w k g A c bs shift pos st rep s):WrAt O w.drew k g A c bs shift pos st rep s:=h.lzStep (h.lz.later (IC.keep _ _) ((Frm.refl _ w).drew)) ((Frm.refl _ w).drew)
theorem WrAt.move (h:WrAt O w k g A c bs shift pos st rep s) (pos':Nat):WrAt O (w.setCell ⟨g.xb,3,none⟩ (.int .i64 pos')) k g A c bs shift pos' st rep s∧Frm (WZ k O g) w (w.setCell ⟨g.xb,3,none⟩ (.int .i64 pos')):=by
 have hf:Frm (· = g.xb) w (w.setCell ⟨g.xb,3,none⟩ (.int .i64 pos')):=Frm.setCell (S:=fun x=>x=g.xb) (Frm.refl _ w) (p:=⟨g.xb,3,none⟩) (by rfl) _
 refine ⟨⟨h.lz.frm (IC.keep _ _) hf ?_,h.p.set 3 _,(h.r.apart h.off (hf.mono fun q _ e=>.inr e)).more hf.size,h.off,h.x⟩,hf.mono fun q _ e=>.inr e⟩
 rintro q (e | e | e) e2
 ·exact h.x (e2▸e)
 ·exact h.p.ne_of h.lz.m (by decide) (e2.symm.trans e)
 exact h.p.ne_of h.lz.l (by decide) (e2.symm.trans e)
theorem WrAt.cells (h:WrAt O w k g A c bs shift pos st rep s):w.cell? ⟨g.xb,0,none⟩=some (.pointer (some ⟨k.sb,0,none⟩))∧w.cell? ⟨g.xb,1,none⟩=some (.pointer (some ⟨g.eb,0,none⟩))∧w.cell? ⟨g.xb,2,none⟩=some (.slice A bs.length c) ∧
 w.cell? ⟨g.xb,3,none⟩=some (.int .i64 pos)∧w.cell? ⟨g.xb,4,none⟩=some (.int .i64 shift)∧w.cell? ⟨k.sb,3,none⟩=some (.int .i64 st)∧w.cell? ⟨k.sb,4,none⟩=some (.int .u32 (rep 0)):=by
 refine ⟨by rw [h.p.cell];rfl,by rw [h.p.cell];rfl,by rw [h.p.cell];rfl,by rw [h.p.cell];rfl,by rw [h.p.cell];rfl,(h.lz.hdr (i:=3) (by omega)).1,(h.lz.hdr (i:=4) (by omega)).1⟩
theorem WrAt.byte (h:WrAt O w k g A c bs shift pos st rep s):0<bs.length→∃ b off,A=some ⟨b,off,none⟩∧∀ j,j<bs.length→w.cell? ⟨b,off+j,none⟩=some (.int .u8 ((bs.getD j 0).toNat:Int)):=by
 intro h0
 obtain ⟨b,off,e,_,hc⟩:=h.r h0
 exact ⟨b,off,e,hc⟩
theorem WrAt.alloc (h:WrAt O w k g A c bs shift pos st rep s) (X:Obj):WrAt O (w.alloc X) k g A c bs shift pos st rep s:=h.lzStep (h.lz.later (IC.keep _ _) ((Frm.refl _ w).alloc X)) ((Frm.refl _ w).alloc X)
end
def putLit (k:LK) (bs:List UInt8) (tot pos st:Nat) (rep:Nat→Nat) (s:CP Enc):CP Enc :=
 (litAt inC k.lc k.lp st tot (if 0<tot∧0<pos then (bs.getD (pos-1) 0).toNat else 0) (if rep 0+1≤pos then (bs.getD (pos-(rep 0+1)) 0).toNat else 0) (bs.getD pos 0).toNat (bitAt inC (8+st*16+tot % 2 ^ k.pb) 0 s).2).2
open Go.RowKit Rng Lz Win
set_option maxRecDepth 100000 in
set_option maxHeartbeats 2000000 in
theorem putlit_p (O:Nat→Prop) (w:World) (k:LK) (g:WB) (A:Option Addr) (c:Nat) (bs:List UInt8) (shift:Int) (pos tot st:Nat) (rep:Nat→Nat) (s:CP Enc) (h:WrAt O w k g A c bs shift pos st rep s) (hk:k.Ok) (htot:(pos:Int)+shift=(tot:Int)) (ht:tot<4611686018427387904)
 (hpos:pos<bs.length) (hlen:bs.length≤140737488355328) (hst:st<12) (hrep:rep 0<4294967296) (hc:s.d.cnt+9<1000000) :
 Calls Tryz.prog 77 #[.pointer (some ⟨g.xb,0,none⟩)] w fun e w'=>e=.returned (.tuple #[])∧WrAt O w' k g A c bs shift (pos+1) (behS st 0) rep (putLit k bs tot pos st rep s)∧Frm (WZ k O g) w w':=by
 obtain ⟨AH,hAH⟩:∃ a,(if 0<tot∧0<pos then (bs.getD (pos-1) 0).toNat else 0)=a:=⟨_,rfl⟩
 obtain ⟨FA,hFA⟩:∃ a,(if rep 0+1≤pos then (bs.getD (pos-(rep 0+1)) 0).toNat else 0)=a:=⟨_,rfl⟩
 obtain ⟨X,hX⟩:∃ a,(bs.getD pos 0).toNat=a:=⟨_,rfl⟩
 obtain ⟨p,hp⟩:∃ p,tot % 2 ^ k.pb=p:=⟨_,rfl⟩
 obtain ⟨s1,hs1⟩:∃ s1,(bitAt inC (8+st*16+p) 0 s).2=s1:=⟨_,rfl⟩
 obtain ⟨s2,hs2⟩:∃ s2,(litAt inC k.lc k.lp st tot AH FA X s1).2=s2:=⟨_,rfl⟩
 have hput:putLit k bs tot pos st rep s=s2:=by unfold putLit;rw [hAH,hFA,hX,hp,hs1,hs2]
 rw [hput]
 have hah:AH<256:=by rw [← hAH];split;exact (bs.getD (pos-1) 0).toNat_lt;omega
 have hfa:FA<256:=by rw [← hFA];split;exact (bs.getD (pos-(rep 0+1)) 0).toNat_lt;omega
 have hXb:X<256:=by rw [← hX];exact (bs.getD pos 0).toNat_lt
 have hc1:s1.d.cnt≤s.d.cnt+1:=by rw [← hs1];exact cnt_bitIn1 _ _ _
 have hlitv:(litAt inC k.lc k.lp st tot AH FA X s1).1=X:=by rw [← hX];exact litIn_any _ _ _ _ _ _ _ _
 have hp16:p<16:=by
  have h1:2 ^ k.pb≤2 ^ 4:=Nat.pow_le_pow_right (by omega) hk.b
  have h2:tot % 2 ^ k.pb<2 ^ k.pb:=Nat.mod_lt _ (Nat.lt_of_lt_of_le (by omega) (Nat.one_le_two_pow))
  omega
 obtain ⟨ab,off,hA,hcell⟩:=h.byte (by omega)
 have HH:=hid h
 have HK:=hid hk
 have HPL:=hid (fun (w1:World) (h1:LzAt (IC g.eb O) O 150 w1 k st rep s)=>place_any 150 k st tot rep s w1 h1 hk ht)
 rw [hp] at HPL
 have P0:=hid (plm k (i:=8+st*16+p) (by omega) (by omega))
 obtain ⟨d0,d1,d2,d3,d4,d5,d6⟩:=h.cells
 have hsti:(st:Int)<12:=by omega
 have hpi:(p:Int)<16:=by omega
 have htw:IntKind.i64.wrap (tot:Int)=(tot:Int):=Go.IntWalk.i64_in _ (by omega)
 have HAH:=hid hAH
 have HFA:=hid hFA
 have HX:=hid hX
 have HS1:=hid hs1
 have HS2:=hid hs2
 have HC:=hid (And.intro hc hc1)
 have HLV:=hid hlitv
 have HREP:=hid hrep
 have HCELL:=hid hcell
 subst hA
 clear hcell h hk hp hAH hFA hX hs1 hs2 hput hc hc1 hlitv hrep
 go_enter Tryz.func77,Tryz.ntmps77
 go_wp2
 go_quiet (fail)
 have HD:=hid ((HH.out.drewN nq).drew)
 have FD:Hid (Frm (WZ k O g) w (w.drewN nq).drew):=hid (((Frm.refl _ w).drewN nq).drew)
 go_upto_region 2 with fail
 go_cut [36] from 37 (fun v wx=>WrAt O wx k g (some ⟨ab,off,none⟩) c bs shift pos st rep s1∧Frm (WZ k O g) w wx)
 case first =>
  go_region_with (first
   | (go_at_call 89;refine (HPL.out _ HD.out.lz).mono ?_;rintro e w2 ⟨rfl,rfl⟩)
   | (go_at_call 88;refine (ibit_lz HD.out.lz (by have:=HC.out;omega) (8+st*16+p) k.sb (8+st*16+p) 0 0 rfl (by omega) P0.out.1 P0.out.2).mono ?_;rintro e w2 ⟨rfl,h2,f2⟩;rw [HS1.out] at h2))
  all_goals
   have H2:=hid (HD.out.lzStep h2 f2)
   have F2:=hid (FD.out.trans (f2.mono fun q _ e=>.inl e))
   clear h2 f2
   go_wp2
   go_meet
   case rel=>exact ⟨H2.out,F2.out⟩
 obtain ⟨h2,f2⟩:=hcut
 have H2:=hid h2
 have F2:=hid f2
 clear d0 d1 d2 d3 d4 d5 d6 HH HD FD
 obtain ⟨d0,d1,d2,d3,d4,d5,d6⟩:=h2.cells
 have hcell:=(h2.byte (by omega))
 clear h2 f2
 obtain ⟨β,hβ⟩:∃ β,decide (0<tot∧0<pos)=β:=⟨_,rfl⟩
 have Hβ:=hid hβ
 have hcell0:=hcell
 clear hβ hcell
 obtain ⟨ab',off',e9,hcell⟩:=hcell0
 injection e9 with e9
 injection e9 with e8 e7
 subst e8;subst e7
 have HCL:=hid hcell
 clear hcell
 go_upto_region 4 with fail
 go_cut [45] from 46 (fun v wx=>v=.bool β∧wx=wc)
 case first =>
  have hb:=Hβ.out
  by_cases h0:0<tot
  ·have h0i:(0:Int)<(tot:Int):=by omega
   by_cases h1:0<pos
   ·have h1i:(0:Int)<(pos:Int):=by omega
    rw [decide_eq_true ⟨h0,h1⟩] at hb
    subst hb
    clear h0 h1
    go_wp2
    go_meet
    case rel=>exact ⟨by first | rfl | (rw [decide_eq_true (show 0<pos by omega)]),rfl⟩
   obtain rfl:pos=0:=by omega
   rw [decide_eq_false (fun h=>h1 h.2)] at hb
   subst hb
   clear h0 h1
   go_wp2
   go_meet
   case rel=>exact ⟨rfl,rfl⟩
  obtain rfl:tot=0:=by omega
  rw [decide_eq_false (fun h=>h0 h.1)] at hb
  subst hb
  clear h0
  go_wp2
  go_meet
  case rel=>exact ⟨rfl,rfl⟩
 obtain ⟨rfl,hwx⟩:=hcut
 subst hwx
 obtain ⟨w1,hw1⟩:∃ w1,w1=wc:=⟨_,rfl⟩
 subst hw1
 go_upto_if 45 with fail
 go_cut [4] from 46 (fun v wx=>v=.int .u8 AH∧WrAt O wx k g (some ⟨ab,off,none⟩) c bs shift pos st rep s1∧Frm (WZ k O g) w1 wx)
 case first =>
  have hb:=Hβ.out
  by_cases h01:0<tot∧0<pos
  ·rw [decide_eq_true h01] at hb
   subst hb
   have hA:=HAH.out
   rw [if_pos h01] at hA
   obtain ⟨q,hq⟩:∃ q,pos-1=q:=⟨_,rfl⟩
   rw [hq] at hA
   have hqi:(pos:Int)-1=(q:Int):=by omega
   have hqw:IntKind.i64.wrap (q:Int)=(q:Int):=Go.IntWalk.i64_in _ (by omega)
   have hcq:=HCL.out q (by omega)
   rw [hA] at hcq
   have hqb:q<bs.length:=by omega
   clear hA h01 hq
   go_wp2
   go_quiet (fail)
   have H3:=hid (H2.out.drewN nq)
   have F3:Hid (Frm (WZ k O g) w1 (w1.drewN nq)):=hid ((Frm.refl _ w1).drewN nq)
   go_wp2
   go_meet
   case rel=>exact ⟨rfl,H3.out,F3.out⟩
  rw [decide_eq_false h01] at hb
  subst hb
  have hA:=HAH.out
  rw [if_neg h01] at hA
  subst hA
  clear h01
  go_wp2
  go_meet
  case rel=>exact ⟨rfl,H2.out,Frm.refl _ _⟩
 obtain ⟨rfl,h3,f3⟩:=hcut
 have H3:=hid h3
 have F3:=hid (F2.out.trans f3)
 clear d0 d1 d2 d3 d4 d5 d6 H2 F2 HCL f3
 obtain ⟨d0,d1,d2,d3,d4,d5,d6⟩:=h3.cells
 obtain ⟨ab',off',e9,hcell⟩:=h3.byte (by omega)
 injection e9 with e9
 injection e9 with e8 e7
 subst e8;subst e7
 have HCL:=hid hcell
 obtain ⟨r0,hr0⟩:∃ r,rep 0=r:=⟨_,rfl⟩
 obtain ⟨r1,hr1⟩:∃ r1,r0+1=r1:=⟨_,rfl⟩
 have hrb:=HREP.out
 rw [hr0] at d6 hrb
 have hr1i:(r0:Int)+1=(r1:Int):=by omega
 have hr0w:IntKind.i64.wrap (r0:Int)=(r0:Int):=Go.IntWalk.i64_in _ (by omega)
 have hr1w:IntKind.i64.wrap (r1:Int)=(r1:Int):=Go.IntWalk.i64_in _ (by omega)
 have hFF:=HFA.out
 rw [hr0,hr1] at hFF
 have HF1:=hid hFF
 have hr1p:1≤r1:=by omega
 clear h3 hcell hr0 hr1 hrb HFA hFF
 go_upto_region 7 with fail
 go_cut [69] from 70 (fun v wx=>v=.bool (decide (r1≤pos))∧wx=wc)
 case first =>
  go_wp2
  go_meet
  case rel=>exact ⟨by first | rfl | (congr 1;rw [decide_eq_decide];omega),rfl⟩
 obtain ⟨rfl,hwx⟩:=hcut
 obtain ⟨w2,hw2⟩:∃ w2,w2=wc:=⟨_,rfl⟩
 subst hw2
 subst hwx
 go_upto_if 69 with fail
 go_cut [5] from 69 (fun v wx=>v=.int .u8 FA∧WrAt O wx k g (some ⟨ab,off,none⟩) c bs shift pos st rep s1∧Frm (WZ k O g) w2 wx)
 case first =>
  by_cases h01:r1≤pos
  ·have hdt:decide (r1≤pos)=true:=decide_eq_true h01
   have hA:=HF1.out
   rw [if_pos h01] at hA
   obtain ⟨q,hq⟩:∃ q,pos-r1=q:=⟨_,rfl⟩
   rw [hq] at hA
   have hqi:(pos:Int)-(r1:Int)=(q:Int):=by omega
   have hqw:IntKind.i64.wrap (q:Int)=(q:Int):=Go.IntWalk.i64_in _ (by omega)
   have hcq:=HCL.out q (by omega)
   rw [hA] at hcq
   have hqb:q<bs.length:=by omega
   simp only [hdt]
   clear hA h01 hq hdt
   go_wp2
   go_quiet (fail)
   have H4:=hid (H3.out.drewN nq)
   have F4:Hid (Frm (WZ k O g) w2 (w2.drewN nq)):=hid ((Frm.refl _ w2).drewN nq)
   go_wp2
   go_meet
   case rel=>exact ⟨rfl,H4.out,F4.out⟩
  have hdt:decide (r1≤pos)=false:=decide_eq_false h01
  have hA:=HF1.out
  rw [if_neg h01] at hA
  subst hA
  simp only [hdt]
  clear h01 hdt
  go_wp2
  go_meet
  case rel=>exact ⟨rfl,H3.out,Frm.refl _ _⟩
 obtain ⟨rfl,h4,f4⟩:=hcut
 have H4:=hid h4
 have F4:=hid (F3.out.trans f4)
 clear d0 d1 d2 d3 d4 d5 d6 H3 F3 HCL f4
 obtain ⟨d0,d1,d2,d3,d4,d5,d6⟩:=h4.cells
 obtain ⟨ab',off',e9,hcell⟩:=h4.byte (by omega)
 injection e9 with e9
 injection e9 with e8 e7
 subst e8;subst e7
 have hcx:=hcell pos hpos
 rw [HX.out] at hcx
 have HD:=hid h4.drew
 have hXw:IntKind.i64.wrap (X:Int)=(X:Int):=Go.IntWalk.i64_in _ (by omega)
 clear h4 hcell
 go_upto_region 9 with fail
 go_cut [102] from 103 (fun v wx=>WrAt O wx k g (some ⟨ab,off,none⟩) c bs shift pos st rep s2∧Frm (WZ k O g) w wx)
 case first =>
  go_region_with (first
   | (go_at_call 90;refine (lit_in g.eb O 150 k st tot AH FA rep s1 _ HD.out.lz HK.out ht hah hfa X hXb (by have:=HC.out;omega)).mono ?_;rintro e w3 ⟨rfl,h3,f3⟩;rw [HS2.out] at h3))
  all_goals
   have H5:=hid (HD.out.lzStep h3 f3)
   have F5:=hid ((F4.out.drew).trans (f3.mono fun q _ e=>.inl e))
   clear h3 f3
   go_wp2
   go_meet
   case rel=>exact ⟨H5.out,F5.out⟩
 obtain ⟨h5,f5⟩:=hcut
 have H5:=hid h5
 have F5:=hid f5
 clear d0 d1 d2 d3 d4 d5 d6 hcx H4 F4 HD h5 f5
 go_wp2_with fail
 refine (behind_any (IC.keep g.eb O) 150 k st 0 rep s2 _ H5.out.lz hst (by omega)).mono ?_;rintro e w7 ⟨rfl,h7,f7⟩
 have H7:=hid (H5.out.lzStep h7 f7)
 have F7:=hid (F5.out.trans (f7.mono fun q _ e=>.inl e))
 clear h7 f7
 obtain ⟨q0,q1,q2,q3,-,-,-⟩:=H7.out.cells
 have z3:=H7.out.p.frozen 3
 obtain ⟨p1,hp1⟩:∃ p1,pos+1=p1:=⟨_,rfl⟩
 have hp1i:(pos:Int)+1=(p1:Int):=by omega
 have hp1w:IntKind.i64.wrap (p1:Int)=(p1:Int):=Go.IntWalk.i64_in _ (by omega)
 have HM:=hid (H7.out.move p1)
 have HP1:=hid hp1
 clear hp1
 go_wp2
 go_end0
 refine ⟨rfl,?_,F7.out.trans HM.out.2⟩
 rw [HP1.out]
 exact HM.out.1
open Go.RowKit Rng Win Lz
def idxOf (rep:Nat→Nat) (d:Nat):Nat:=if rep 0=d then 0 else if rep 1=d then 1 else if rep 2=d then 2 else if rep 3=d then 3 else 4
theorem idxOf_le (rep:Nat→Nat) (d:Nat):idxOf rep d≤4:=by unfold idxOf;repeat' split
                                                         all_goals omega
theorem idxOf_rep {rep:Nat→Nat} {d:Nat} (h:idxOf rep d<4):rep (idxOf rep d)=d:=by
 unfold idxOf at h ⊢
 split
 ·assumption
 split
 ·assumption
 split
 ·assumption
 split
 ·assumption
 rename_i h0 h1 h2 h3
 rw [if_neg h0,if_neg h1,if_neg h2,if_neg h3] at h
 omega
def putRep {σ:Type} (co:Cod σ) (st p size j:Nat) (s:CP σ):CP σ :=
 let a:=(bitAt co (212+st) (if j=0 then 0 else 1) s).2
 let b:=if j=0 then (bitAt co (248+st*16+p) 1 a).2
  else
   let c:=(bitAt co (224+st) (if j=1 then 0 else 1) a).2
   if j=1 then c else (bitAt co (236+st) (j-2) c).2
 (lenAt co 1354 size p b).2
def putMatch (k:LK) (tot size d st:Nat) (rep:Nat→Nat) (s:CP Enc):Nat×(Nat→Nat)×CP Enc :=
 let p:=tot % 2 ^ k.pb
 let s1:=(bitAt inC (8+st*16+p) 1 s).2
 let j:=idxOf rep d
 if j=4 then
  let s2:=(bitAt inC (200+st) 0 s1).2
  let s3:=(lenAt inC 840 size p s2).2
  (behS st 1,(fun i=>if i=0 then d else shiftN rep 3 i),(distAt inC d size s3).2)
 else
  let s2:=(bitAt inC (200+st) 1 s1).2
  (behS st 2,(if j=0 then rep else takeS rep j),putRep inC st p size j s2)
open Go.RowKit Rng Lz Win
def idxV (j:Nat):Int:=if j=4 then -1 else j
set_option maxRecDepth 100000 in
set_option maxHeartbeats 1000000 in
theorem sindex_p (w:World) (b c0:Nat) (rep:Nat→Nat) (d:Nat) (hcell:∀ j,j<4→w.cell? ⟨b,4+j,none⟩=some (.int .u32 (rep j:Int))) (hd:d<4294967296) :
 Calls Tryz.prog 92 #[.slice (some ⟨b,4,none⟩) 4 c0,.int .u32 d] w fun e w'=>e=.returned (.int .i64 (idxV (idxOf rep d)))∧w=w':=by
 obtain ⟨J,hJ⟩:∃ J,idxOf rep d=J:=⟨_,rfl⟩
 rw [hJ]
 have HC:=hid hcell
 have HJ:=hid hJ
 clear hcell hJ
 go_enter Tryz.func92,Tryz.ntmps92
 go_wp2
 go_loopw [8] (fun iv wr=>∃ i:Nat,iv=.int .i64 i∧i≤4∧wr=w∧∀ j,j<i→rep j≠d) (fun iv _=>4-(intOf iv).toNat)
 case atStart=>exact ⟨0,rfl,by omega,by first | trivial | rfl,fun j hj=>by omega⟩
 obtain ⟨i,rfl,hi,hwr,hne⟩:=hrel
 subst hwr
 have HNE:=hid hne
 clear hne
 by_cases hlt:i<4
 ·have hc:=HC.out i hlt
  obtain ⟨r,hr⟩:∃ r,rep i=r:=⟨_,rfl⟩
  rw [hr] at hc
  by_cases he:d=r
  ·subst he
   have hv:J=i:=by
    rw [← HJ.out]
    have h0:=HNE.out
    unfold idxOf
    have a:i=0∨i=1∨i=2∨i=3:=by omega
    rcases a with rfl | rfl | rfl | rfl
    ·rw [if_pos hr]
    ·rw [if_neg (h0 0 (by omega)),if_pos hr]
    ·rw [if_neg (h0 0 (by omega)),if_neg (h0 1 (by omega)),if_pos hr]
    rw [if_neg (h0 0 (by omega)),if_neg (h0 1 (by omega)),if_neg (h0 2 (by omega)),if_pos hr]
   have hvi:idxV J=(i:Int):=by rw [hv];unfold idxV;rw [if_neg (by omega)]
   have HVI:=hid hvi
   clear hv hvi hr
   go_wp2
   go_ret
   exact ⟨ret_int' HVI.out.symm,rfl⟩
  have hei:((d:Int)==(r:Int))=false:=by rw [beq_eq_false_iff_ne];omega
  have HNR:Hid (rep i≠d):=hid (by rw [hr];exact fun e=>he e.symm)
  clear he hr
  go_wp2
  refine ⟨⟨i+1,by go_num,by omega,by first | trivial | rfl,fun j hj=>?_⟩,by simp [intOf];omega⟩
  by_cases hji:j=i
  ·rw [hji];exact HNR.out
  exact HNE.out j (by omega)
 obtain rfl:i=4:=by omega
 have hv:J=4:=by
  rw [← HJ.out]
  have h0:=HNE.out
  unfold idxOf
  rw [if_neg (h0 0 (by omega)),if_neg (h0 1 (by omega)),if_neg (h0 2 (by omega)),if_neg (h0 3 (by omega))]
 have hvi:idxV J = -1:=by rw [hv];rfl
 have HVI:=hid hvi
 clear hv hvi
 go_wp2
 go_ret
 exact ⟨ret_int' HVI.out.symm,rfl⟩
open Go.RowKit Rng Lz Win
theorem IC.narrow {b:Nat} {O:Nat→Prop} {w w':World} {e:Enc} (h:IC b O w e) (hf:Frm (fun _=>False) w w') (E:Nat→Prop) (hE:∀ q,E q→w.heap.size≤q∧q<w'.heap.size):IC b (fun q=>O q∧¬ E q) w' e:=by
 obtain ⟨⟨v,hv,hvo⟩,hb,hz,hi⟩:=h
 have hbl:=hv.p.lt
 refine ⟨⟨v,⟨hv.p.frm hf id,hv.o.frm hf (fun q hq=>id),hv.k⟩,fun q hq=>⟨hvo q hq,fun e=>?_⟩⟩,⟨hb,fun e=>by have:=(hE b e).1;omega⟩,fun q hq=>⟨hz q (Nat.le_trans hf.size hq),fun e=>by have:=(hE q e).2;omega⟩,hi⟩
 have h1:=(hE q e).1
 rcases hv.o.form with ⟨e2,_⟩ | ⟨g,cap,cur,e2,_,hp,_⟩
 ·rw [e2] at hq;cases hq
 rw [e2] at hq
 have hq':g=q:=by simpa [Value.ownBlock] using hq
 have:g<w.heap.size:=Pts.lt hp
 omega
theorem WrAt.narrow {O:Nat→Prop} {w w':World} {k:LK} {g:WB} {A:Option Addr} {c:Nat} {bs:List UInt8} {shift:Int} {pos st:Nat} {rep:Nat→Nat} {s:CP Enc} (h:WrAt O w k g A c bs shift pos st rep s) (hf:Frm (fun _=>False) w w') (E:Nat→Prop) (hE:∀ q,E q→w.heap.size≤q∧q<w'.heap.size):WrAt (fun q=>O q∧¬ E q) w' k g A c bs shift pos st rep s:=by
 have h':=h.lzStep (h.lz.later (IC.keep _ _) hf) (hf.mono fun _ _ e=>e.elim)
 refine ⟨⟨h.lz.c.narrow hf E hE,h'.lz.m,h'.lz.l,h'.lz.fit,fun e=>h'.lz.ne.1 e.1,fun e=>h'.lz.ne.2.1 e.1,h'.lz.ne.2.2⟩,h'.p,h'.r,?_,fun e=>h'.x e.1⟩
 intro h0 ad e hz2
 refine h.off h0 ad e ?_
 rcases hz2 with (e1 | e1) | e1
 ·exact .inl (.inl e1.1)
 ·exact .inl (.inr e1)
 exact .inr e1
theorem WrAt.widen {O O':Nat→Prop} {w w':World} {k:LK} {g:WB} {A:Option Addr} {c:Nat} {bs:List UInt8} {shift shift':Int} {pos st pos' st':Nat} {rep rep':Nat→Nat} {s s':CP Enc} (h:WrAt O' w' k g A c bs shift' pos' st' rep' s') (h0:WrAt O w k g A c bs shift pos st rep s) (hs:∀ q,O' q→O q) (hz:w.heap.size≤w'.heap.size):WrAt O w' k g A c bs shift' pos' st' rep' s':=by
 obtain ⟨⟨v,hv,hvo⟩,hb,_,hi⟩:=h.lz.c
 exact ⟨⟨⟨⟨v,hv,fun q hq=>hs q (hvo q hq)⟩,hs _ hb,fun q hq=>h0.lz.c.2.2.1 q (Nat.le_trans hz hq),hi⟩,h.lz.m,h.lz.l,h.lz.fit,h0.lz.ne⟩,h.p,h.r,h0.off,h0.x⟩
structure MAt (O:Nat→Prop) (w:World) (k:LK) (g:WB) (b3 b6:Nat) (A:Option Addr) (c:Nat) (bs:List UInt8) (shift:Int) (pos:Nat) (st:Nat) (rep:Nat→Nat) (s:CP Enc):Prop where
 m:WrAt O w k g A c bs shift pos st rep s
 p3:Pts w b3 #[.pointer (some ⟨g.xb,0,none⟩)] 166
 p6:Pts w b6 #[.pointer (some ⟨k.sb,0,none⟩)] 167
 o3:¬ O b3
 o6:¬ O b6
section
variable {O : Nat → Prop} {w w' : World} {k : LK} {g : WB} {b3 b6 : Nat} {A : Option Addr} {c : Nat} {bs : List UInt8} {shift : Int} {pos st : Nat} {rep : Nat → Nat} {s : CP Enc}
theorem MAt.lzStep {st':Nat} {rep':Nat→Nat} {s':CP Enc} (h:MAt O w k g b3 b6 A c bs shift pos st rep s) (hl:LzAt (IC g.eb O) O 150 w' k st' rep' s') (hf:Frm (Wr O k) w w'):MAt O w' k g b3 b6 A c bs shift pos st' rep' s':=by
 refine ⟨h.m.lzStep hl hf,h.p3.frm hf ?_,h.p6.frm hf ?_,h.o3,h.o6⟩
 ·rintro (e | e | e)
  ·exact h.o3 e
  ·exact h.p3.ne_of h.m.lz.m (by decide) e
  exact h.p3.ne_of h.m.lz.l (by decide) e
 rintro (e | e | e)
 ·exact h.o6 e
 ·exact h.p6.ne_of h.m.lz.m (by decide) e
 exact h.p6.ne_of h.m.lz.l (by decide) e
theorem MAt.drewN (h:MAt O w k g b3 b6 A c bs shift pos st rep s) (n:Nat):MAt O (w.drewN n) k g b3 b6 A c bs shift pos st rep s:=h.lzStep (h.m.lz.later (IC.keep _ _) ((Frm.refl _ w).drewN n)) ((Frm.refl _ w).drewN n)
theorem MAt.drew (h:MAt O w k g b3 b6 A c bs shift pos st rep s):MAt O w.drew k g b3 b6 A c bs shift pos st rep s:=h.lzStep (h.m.lz.later (IC.keep _ _) ((Frm.refl _ w).drew)) ((Frm.refl _ w).drew)
theorem MAt.cells (h:MAt O w k g b3 b6 A c bs shift pos st rep s):w.cell? ⟨b3,0,none⟩=some (.pointer (some ⟨g.xb,0,none⟩))∧w.cell? ⟨b6,0,none⟩=some (.pointer (some ⟨k.sb,0,none⟩))∧w.cell? ⟨g.xb,1,none⟩=some (.pointer (some ⟨g.eb,0,none⟩)) ∧
 w.cell? ⟨g.xb,3,none⟩=some (.int .i64 pos)∧w.cell? ⟨g.xb,4,none⟩=some (.int .i64 shift)∧w.cell? ⟨k.sb,3,none⟩=some (.int .i64 st)∧w.cell? ⟨g.xb,0,none⟩=some (.pointer (some ⟨k.sb,0,none⟩)):=by
 obtain ⟨d0,d1,-,d3,d4,d5,-⟩:=h.m.cells
 exact ⟨by rw [h.p3.cell];rfl,by rw [h.p6.cell];rfl,d1,d3,d4,d5,d0⟩
end
theorem MAt.narrow {O:Nat→Prop} {w w':World} {k:LK} {g:WB} {b3 b6:Nat} {A:Option Addr} {c:Nat} {bs:List UInt8} {shift:Int} {pos st:Nat} {rep:Nat→Nat} {s:CP Enc} (h:MAt O w k g b3 b6 A c bs shift pos st rep s) (hf:Frm (fun _=>False) w w') (E:Nat→Prop) (hE:∀ q,E q→w.heap.size≤q∧q<w'.heap.size):MAt (fun q=>O q∧¬ E q) w' k g b3 b6 A c bs shift pos st rep s :=
 ⟨h.m.narrow hf E hE,h.p3.frm hf id,h.p6.frm hf id,fun e=>h.o3 e.1,fun e=>h.o6 e.1⟩
theorem MAt.widen {O O':Nat→Prop} {w w':World} {k:LK} {g:WB} {b3 b6:Nat} {A:Option Addr} {c:Nat} {bs:List UInt8} {shift shift':Int} {pos st pos' st':Nat} {rep rep':Nat→Nat} {s s':CP Enc} (h:MAt O' w' k g b3 b6 A c bs shift' pos' st' rep' s') (h0:MAt O w k g b3 b6 A c bs shift pos st rep s) (hs:∀ q,O' q→O q) (hz:w.heap.size≤w'.heap.size):MAt O w' k g b3 b6 A c bs shift' pos' st' rep' s' :=
 ⟨h.m.widen h0.m hs hz,h.p3,h.p6,h0.o3,h0.o6⟩
def bitsIn (st:Nat):Nat→List Nat→CP Enc→CP Enc
 | _,[],s=>s
 | i,x::l,s=>bitsIn st (i+1) l (bitAt inC (212+i*12+st) x s).2
set_option maxRecDepth 100000 in
set_option maxHeartbeats 1000000 in
theorem bits_p (O:Nat→Prop) (w:World) (k:LK) (g:WB) (b3 b6:Nat) (A:Option Addr) (c:Nat) (bs:List UInt8) (shift:Int) (pos st:Nat) (rep:Nat→Nat) (s:CP Enc) (h:MAt O w k g b3 b6 A c bs shift pos st rep s) (hst:st<12)
 (bl c0:Nat) (l:List Nat) (hl:l.length≤3) (hl1:∀ j,j<l.length→l.getD j 0≤1) (hcell:∀ j,j<l.length→w.cell? ⟨bl,j,none⟩=some (.int .i64 (l.getD j 0:Int))) (hbl:¬ Wr O k bl) (hc:s.d.cnt+3<1000000) :
 Calls Tryz.prog 93 #[.slice (some ⟨bl,0,none⟩) l.length c0,.pointer (some ⟨b3,0,none⟩),.pointer (some ⟨b6,0,none⟩)] w fun e w'=>e=.returned (.tuple #[])∧MAt O w' k g b3 b6 A c bs shift pos st rep (bitsIn st 0 l s)∧Frm (Wr O k) w w':=by
 obtain ⟨R,hR⟩:∃ R,bitsIn st 0 l s=R:=⟨_,rfl⟩
 rw [hR]
 have hbw:0<l.length→bl<w.heap.size:=fun h0=>World.block_lt_of_cell? w ⟨bl,0,none⟩ (hcell 0 h0)
 obtain ⟨n,hn⟩:∃ n,l.length=n:=⟨_,rfl⟩
 have HH:=hid h
 have HR:=hid hR
 have HCELL:=hid hcell
 have HL1:=hid hl1
 have HN:=hid hn
 have HBL:=hid (And.intro hbl hbw)
 have hn3:n≤3:=by omega
 have hc':=hc
 have HCN:=hid hc'
 have hsti:(st:Int)<12:=by omega
 rw [hn]
 clear h hR hcell hl1 hl hbl hbw hc hc' hn
 go_enter Tryz.func93,Tryz.ntmps93
 go_wp2
 go_loopw [8] (fun iv wr=>∃ (i:Nat) (s':CP Enc),iv=.int .i64 i∧i≤n∧bitsIn st i (l.drop i) s'=R∧MAt O wr k g b3 b6 A c bs shift pos st rep s'∧s'.d.cnt+(3-i)<1000000∧Frm (Wr O k) w wr) (fun iv _=>n-(intOf iv).toNat)
 case atStart=>exact ⟨0,s,rfl,by omega,HR.out,HH.out,HCN.out,Frm.refl _ _⟩
 obtain ⟨i,s',rfl,hi,hgo,hm,hcn,hf⟩:=hrel
 have HGO:=hid hgo
 have HM:=hid hm
 have HC:=hid hcn
 have HF:=hid hf
 obtain ⟨d0,d1,d2,-,-,d5,-⟩:=hm.cells
 clear hgo hm hcn hf HH
 by_cases hlt:i<n
 ·have hil:i<l.length:=by have:=HN.out;omega
  have hcx:wr.cell? ⟨bl,i,none⟩=some (.int .i64 (l.getD i 0:Int)):=by
   rw [World.cell?_of_block (HF.out.block bl (HBL.out.2 (by omega)) HBL.out.1)]
   exact HCELL.out i hil
  obtain ⟨x,hx⟩:∃ x,l.getD i 0=x:=⟨_,rfl⟩
  have hx1:x≤1:=by rw [← hx];exact HL1.out i hil
  have hdrop:l.drop i=x::l.drop (i+1):=by
   rw [List.drop_eq_getElem_cons hil,← hx,List.getD_eq_getElem?_getD,List.getElem?_eq_getElem hil]
   rfl
  rw [hx] at hcx
  obtain ⟨s2,hs2⟩:∃ s2,(bitAt inC (212+i*12+st) x s').2=s2:=⟨_,rfl⟩
  have hgo2:bitsIn st (i+1) (l.drop (i+1)) s2=R:=by
   have h:=HGO.out
   rw [hdrop] at h
   unfold bitsIn at h
   rw [hs2] at h
   exact h
  have hc2:s2.d.cnt≤s'.d.cnt+1:=by rw [← hs2];exact cnt_bitIn1 _ _ _
  have HG2:=hid hgo2
  have HS2:=hid hs2
  have HC2:=hid hc2
  have P0:=hid (plm k (i:=212+i*12+st) (by omega) (by omega))
  have HD:=hid (HM.out.drew)
  have hi3:(i:Int)<3:=by omega
  clear hx hdrop hs2 hgo2 hc2 hil HGO
  go_wp2
  go_still_tail 15,(by kernel_rfl)
  change wpList _ _ _ _ _ wr.drew
  go_wp2_with fail
  refine (ibit_lz HD.out.m.lz (by have:=HC.out;omega) (212+i*12+st) k.sb (212+i*12+st) x x rfl hx1 P0.out.1 P0.out.2).mono ?_;rintro e w2 ⟨rfl,h2,f2⟩
  rw [HS2.out] at h2
  have H2:=hid (HD.out.lzStep h2 f2)
  have F2:=hid ((HF.out.drew).trans f2)
  clear h2 f2 d0 d1 d2 d5 hcx hx1 hsti hi3
  go_wp2
  exact ⟨⟨i+1,s2,by go_num,by omega,HG2.out,H2.out,by have:=HC.out;have:=HC2.out;omega,F2.out⟩,by simp [intOf];omega⟩
 obtain rfl:i=n:=by omega
 have HE:Hid (s'=R):=hid (by have:=HGO.out;rw [← HN.out,List.drop_length] at this;exact this)
 clear d0 d1 d2 d5
 go_wp2
 go_end0
 exact ⟨rfl,HE.out▸HM.out,HF.out⟩
open Go.RowKit Rng Lz Win
theorem two_boxes {O:Nat→Prop} {w:World} {k:LK} {g:WB} {A:Option Addr} {c:Nat} {bs:List UInt8} {shift:Int} {pos st:Nat} {rep:Nat→Nat} {s:CP Enc} (h:WrAt O w k g A c bs shift pos st rep s) :
 MAt (fun q=>O q∧¬ (q=w.heap.size∨q=w.heap.size+1)) ((w.alloc (.cells #[.pointer (some ⟨g.xb,0,none⟩)] 166)).alloc (.cells #[.pointer (some ⟨k.sb,0,none⟩)] 167)) k g w.heap.size (w.heap.size+1) A c bs shift pos st rep s ∧
  Frm (fun _=>False) w ((w.alloc (.cells #[.pointer (some ⟨g.xb,0,none⟩)] 166)).alloc (.cells #[.pointer (some ⟨k.sb,0,none⟩)] 167)):=by
 obtain ⟨p0,p1,_,hs⟩:=two_new w (.pointer (some ⟨g.xb,0,none⟩)) (.pointer (some ⟨k.sb,0,none⟩)) 166 167
 have hf:Frm (fun _=>False) w ((w.alloc (.cells #[.pointer (some ⟨g.xb,0,none⟩)] 166)).alloc (.cells #[.pointer (some ⟨k.sb,0,none⟩)] 167)):=((Frm.refl _ w).alloc _).alloc _
 exact ⟨⟨h.narrow hf (fun q=>q=w.heap.size∨q=w.heap.size+1) (fun q hq=>by rcases hq with e | e <;> omega),p0,p1,fun e=>e.2 (.inl rfl),fun e=>e.2 (.inr rfl)⟩,hf⟩
theorem LzAt.rep_cell {σ:Type} {CA:World→σ→Prop} {own:Nat→Prop} {T:TypeId} {w:World} {k:LK} {st:Nat} {rep:Nat→Nat} {s:CP σ} (h:LzAt CA own T w k st rep s) {j:Nat} (hj:j<4):w.cell? ⟨k.sb,4+j,none⟩=some (.int .u32 (rep j:Int)):=by
 rw [(h.hdr (i:=4+j) (by omega)).1]
 unfold mcell
 rw [if_neg (by omega),if_neg (by omega),if_neg (by omega),if_neg (by omega),if_pos (by omega),Nat.add_sub_cancel_left]
theorem index_num (w:World) (b c0:Nat) (rep:Nat→Nat) (d:Nat) (z:Int) (hz:idxV (idxOf rep d)=z) (hcell:∀ j,j<4→w.cell? ⟨b,4+j,none⟩=some (.int .u32 (rep j:Int))) (hd:d<4294967296) :
 Calls Tryz.prog 92 #[.slice (some ⟨b,4,none⟩) 4 c0,.int .u32 d] w fun e w'=>e=.returned (.int .i64 z)∧w=w':=by
 subst hz
 exact sindex_p w b c0 rep d hcell hd
theorem takeS_zero (rep:Nat→Nat):takeS rep 0=rep:=by
 funext j
 unfold takeS shiftN
 by_cases h:j=0
 ·rw [if_pos h,h]
 rw [if_neg h,if_neg (by omega)]
set_option maxRecDepth 100000 in
set_option maxHeartbeats 1000000 in
theorem take_zero {σ:Type} {CA:World→σ→Prop} {own:Nat→Prop} (hk:KeepOK CA own) (T:TypeId) (k:LK) (st:Nat) (rep:Nat→Nat) (s:CP σ) (w:World) (h:LzAt CA own T w k st rep s) :
 Calls Tryz.prog 96 #[.pointer (some ⟨k.sb,0,none⟩),.int .i64 0] w fun e w'=>e=.returned (.tuple #[])∧LzAt CA own T w' k st (takeS rep 0) s∧Frm (Wr own k) w w':=by
 have cn:w.cell? ⟨k.sb,4,none⟩=some (.int .u32 (rep 0)):=h.rep_cell (j:=0) (by omega)
 have AT:=hid h
 obtain ⟨d,hd⟩:∃ d,rep 0=d:=⟨_,rfl⟩
 rw [hd] at cn
 have HD:=hid hd
 clear h hd
 go_enter Tryz.func96,Tryz.ntmps96
 go_wp2
 refine QTail.wp_region_qtail_lit 11 (by kernel_rfl) (by kernel_rfl) ?_
 simp only [List.take_succ_cons,List.take_zero,List.drop_succ_cons,List.drop_zero]
 repeat (go_big_quiet_step (fail))
 refine wpQuiet_nil ?_
 rintro w' ⟨nr,rfl⟩
 obtain ⟨w5,hrun,h5,f5⟩:=rep_copy hk (AT.out.later hk ((Frm.refl _ w).drewN nr)) 0 3 4 3 (by omega)
 have z:=(h5.hdr (i:=4) (by omega))
 unfold mcell at z
 have z1:=z.1
 have z2:=z.2
 simp only [Nat.reduceEqDiff,if_false,Nat.reduceLT,if_true,Nat.reduceSub] at z1
 have h6:=h5.putRep 0 d (by omega) hk
 have e6:(fun j=>if j=0 then d else shiftN rep 0 j)=takeS rep 0:=by
  funext j
  unfold takeS
  rw [HD.out]
 rw [e6] at h6
 have H6:=hid h6
 have F5:=hid (((Frm.refl _ w).drewN nr).trans f5)
 clear h5 f5 h6 z e6
 go_wp2
 go_end0
 exact ⟨rfl,H6.out.1,F5.out.trans H6.out.2⟩
theorem take_num {σ:Type} {CA:World→σ→Prop} {own:Nat→Prop} (hk:KeepOK CA own) (T:TypeId) (k:LK) (st n:Nat) (z:Int) (rep:Nat→Nat) (s:CP σ) (w:World) (hz:z=(n:Int)) (h:LzAt CA own T w k st rep s) (hn:n≤3) :
 Calls Tryz.prog 96 #[.pointer (some ⟨k.sb,0,none⟩),.int .i64 z] w fun e w'=>e=.returned (.tuple #[])∧LzAt CA own T w' k st (takeS rep n) s∧Frm (Wr own k) w w':=by
 subst hz
 by_cases h0:n=0
 ·subst h0
  exact take_zero hk T k st rep s w h
 exact take_any hk T k st n rep s w h (by omega)
theorem cnt_bits (st:Nat):∀ (i:Nat) (l:List Nat) (s:CP Enc),l.length≤3→(bitsIn st i l s).d.cnt≤s.d.cnt+3
 | i,[],s,_=>by unfold bitsIn;omega
 | i,[a],s,_=>by unfold bitsIn bitsIn;have:=cnt_bitIn1 (212+i*12+st) a s;omega
 | i,[a,b],s,_=>by
  unfold bitsIn bitsIn bitsIn
  have h1:=cnt_bitIn1 (212+i*12+st) a s
  have h2:=cnt_bitIn1 (212+(i+1)*12+st) b (bitAt inC (212+i*12+st) a s).2
  omega
 | i,[a,b,c],s,_=>by
  unfold bitsIn bitsIn bitsIn bitsIn
  have h1:=cnt_bitIn1 (212+i*12+st) a s
  have h2:=cnt_bitIn1 (212+(i+1)*12+st) b (bitAt inC (212+i*12+st) a s).2
  have h3:=cnt_bitIn1 (212+(i+1+1)*12+st) c (bitAt inC (212+(i+1)*12+st) b (bitAt inC (212+i*12+st) a s).2).2
  omega
 | i,_::_::_::_::_,s,h=>absurd h (by simp)
def litCells (l:List Nat):Array Value:=(l.map fun x:Nat=>Value.int .i64 (x:Int)).toArray
theorem litCells_get (l:List Nat) {j:Nat} (h:j<l.length):(litCells l)[j]?=some (.int .i64 (l.getD j 0:Int)):=by
 unfold litCells
 rw [List.getElem?_toArray,List.getElem?_map,List.getElem?_eq_getElem h,List.getD_eq_getElem?_getD,List.getElem?_eq_getElem h]
 rfl
theorem bits_lit (O:Nat→Prop) (w:World) (k:LK) (g:WB) (b3 b6:Nat) (A:Option Addr) (c:Nat) (bs:List UInt8) (shift:Int) (pos st:Nat) (rep:Nat→Nat) (s:CP Enc) (h:MAt O w k g b3 b6 A c bs shift pos st rep s) (hst:st<12)
 (l:List Nat) (hl:l.length≤3) (hl1:∀ x∈l,x≤1) (hc:s.d.cnt+3<1000000) :
 Calls Tryz.prog 93 #[.slice (some ⟨w.heap.size,0,none⟩) l.length l.length,.pointer (some ⟨b3,0,none⟩),.pointer (some ⟨b6,0,none⟩)] (w.alloc (.cells (litCells l) 3)) fun e w'=>e=.returned (.tuple #[])∧MAt O w' k g b3 b6 A c bs shift pos st rep (bitsIn st 0 l s)∧Frm (Wr O k) w w':=by
 have hf:Frm (fun _=>False) w (w.alloc (.cells (litCells l) 3)):=(Frm.refl _ w).alloc _
 have hsz:(w.alloc (.cells (litCells l) 3)).heap.size=w.heap.size+1:=by show (w.heap.push _).size=_;rw [Array.size_push]
 have h1:=h.narrow hf (fun q=>q=w.heap.size) (fun q e=>by omega)
 have hp:=Pts.new w (litCells l) 3
 refine (bits_p (fun q=>O q∧¬ q=w.heap.size) (w.alloc (.cells (litCells l) 3)) k g b3 b6 A c bs shift pos st rep s h1 hst w.heap.size l.length l hl (fun j hj=>by
  rw [List.getD_eq_getElem?_getD,List.getElem?_eq_getElem hj]
  exact hl1 _ (List.getElem_mem hj)) (fun j hj=>by rw [hp.cell,litCells_get l hj]) (by
  rintro (e | e | e)
  ·exact e.2 rfl
  ·have:=h.m.lz.m.lt;omega
  have:=h.m.lz.l.lt;omega) hc).mono ?_
 rintro e w' ⟨rfl,h2,f2⟩
 refine ⟨rfl,h2.widen h (fun q hq=>hq.1) (by have:=f2.size;omega),(hf.mono fun _ _ e=>e.elim).trans (f2.mono fun q _ e=>?_)⟩
 rcases e with e | e
 ·exact .inl e.1
 exact .inr e
open Go.RowKit Rng Lz Win
set_option maxRecDepth 100000 in
set_option maxHeartbeats 4000000 in
theorem putmatch_fresh (O:Nat→Prop) (w:World) (k:LK) (g:WB) (A:Option Addr) (c:Nat) (bs:List UInt8) (shift:Int) (pos tot st:Nat) (rep:Nat→Nat) (s:CP Enc) (h:WrAt O w k g A c bs shift pos st rep s) (hk:k.Ok) (htot:(pos:Int)+shift=(tot:Int)) (ht:tot<4611686018427387904)
 (size back d:Nat) (h2:2≤size) (hs:size≤273) (hbd:back=d+1) (hd:d<4294967296) (hpos:pos+size≤140737488355328) (hst:st<12) (hrep:∀ j,rep j<4294967296) (hc:s.d.cnt+100<1000000) (hj:idxOf rep d=4) :
 Calls Tryz.prog 78 #[.pointer (some ⟨g.xb,0,none⟩),.int .i64 size,.int .i64 back] w fun e w'=>e=.returned (.tuple #[])∧WrAt O w' k g A c bs shift (pos+size) (putMatch k tot size d st rep s).1 (putMatch k tot size d st rep s).2.1 (putMatch k tot size d st rep s).2.2∧Frm (WZ k O g) w w':=by
 obtain ⟨p,hp⟩:∃ p,tot % 2 ^ k.pb=p:=⟨_,rfl⟩
 have hp16:p<16:=by
  have h1:2 ^ k.pb≤2 ^ 4:=Nat.pow_le_pow_right (by omega) hk.b
  have h2:tot % 2 ^ k.pb<2 ^ k.pb:=Nat.mod_lt _ (Nat.lt_of_lt_of_le (by omega) (Nat.one_le_two_pow))
  omega
 obtain ⟨s1,hs1⟩:∃ s1,(bitAt inC (8+st*16+p) 1 s).2=s1:=⟨_,rfl⟩
 have hc1:s1.d.cnt≤s.d.cnt+1:=by rw [← hs1];exact cnt_bitIn1 _ _ _
 obtain ⟨s2,hs2⟩:∃ s2,(bitAt inC (200+st) 0 s1).2=s2:=⟨_,rfl⟩
 have hc2:s2.d.cnt≤s1.d.cnt+1:=by rw [← hs2];exact cnt_bitIn1 _ _ _
 obtain ⟨s3,hs3⟩:∃ s3,(lenAt inC 840 size p s2).2=s3:=⟨_,rfl⟩
 have hc3:s3.d.cnt≤s2.d.cnt+10:=by rw [← hs3];exact cnt_len _ _ _ _
 obtain ⟨s4,hs4⟩:∃ s4,(distAt inC d size s3).2=s4:=⟨_,rfl⟩
 obtain ⟨rep4,hrep4⟩:∃ r:Nat→Nat,(fun i=>if i=0 then d else shiftN rep 3 i)=r:=⟨_,rfl⟩
 have hput:putMatch k tot size d st rep s=(behS st 1,rep4,s4):=by unfold putMatch;simp only;rw [hp,hs1,hs2,hs3,hs4,hrep4,if_pos hj]
 have HS2:=hid hs2
 have HS3:=hid hs3
 have HS4:=hid hs4
 have HR4:=hid hrep4
 have HPUT:=hid hput
 have HH:=hid h
 have HB:=hid (two_boxes h)
 have hXO:=h.x
 have e0:(w.alloc (.cells #[.pointer (some ⟨g.xb,0,none⟩)] 166)).cell? ⟨g.xb,0,none⟩=some (.pointer (some ⟨k.sb,0,none⟩)):=(h.alloc _).cells.1
 have HPL:=hid (fun (w1:World) (O1:Nat→Prop) (h1:LzAt (IC g.eb O1) O1 150 w1 k st rep s)=>place_any 150 k st tot rep s w1 h1 hk ht)
 rw [hp] at HPL
 have P0:=hid (plm k (i:=8+st*16+p) (by omega) (by omega))
 have P1:=hid (plm k (i:=200+st) (by omega) (by omega))
 have HS1:=hid hs1
 have HREP:=hid hrep
 have HK:=hid hk
 have hsti:(st:Int)<12:=by omega
 have hpi:(p:Int)<16:=by omega
 have htw:IntKind.i64.wrap (tot:Int)=(tot:Int):=Go.IntWalk.i64_in _ (by omega)
 have hbk:(back:Int)-1=(d:Int):=by omega
 have hdw:IntKind.i64.wrap (d:Int)=(d:Int):=Go.IntWalk.i64_in _ (by omega)
 have hdu:IntKind.u32.wrap (d:Int)=(d:Int):=Go.IntWalk.u32_in _ (by omega)
 obtain ⟨pe,hpe⟩:∃ pe,pos+size=pe:=⟨_,rfl⟩
 have hpei:(pos:Int)+(size:Int)=(pe:Int):=by omega
 have hpew:IntKind.i64.wrap (pe:Int)=(pe:Int):=Go.IntWalk.i64_in _ (by omega)
 have hzi:idxV (idxOf rep d) = -1:=by rw [hj];rfl
 have HZ:=hid hzi
 have HDB:=hid hd
 rw [hput,hpe]
 clear h hk ht hrep hp hbd hd hpos hpe hj hzi hput hs1 hs2 hs3 hs4 hrep4
 have HC:=hid (And.intro hc (And.intro hc1 (And.intro hc2 hc3)))
 clear hc hc1 hc2 hc3
 go_enter Tryz.func78,Tryz.ntmps78
 go_upto_region 2 with fail
 obtain ⟨w2,hw2⟩:∃ w2,(w.alloc (.cells #[.pointer (some ⟨g.xb,0,none⟩)] 166)).alloc (.cells #[.pointer (some ⟨k.sb,0,none⟩)] 167)=w2:=⟨_,rfl⟩
 obtain ⟨b6,hb6⟩:∃ b,w.heap.size+1=b:=⟨_,rfl⟩
 obtain ⟨b3,hb3⟩:∃ b,w.heap.size=b:=⟨_,rfl⟩
 obtain ⟨O2,hO2⟩:∃ O2:Nat→Prop,(fun q=>O q∧¬ (q=b3∨q=b6))=O2:=⟨_,rfl⟩
 have hB:=HB.out
 have HO2:Hid (∀ q,O2 q→O q):=hid (fun q hq=>by rw [← hO2] at hq;exact hq.1)
 rw [hw2,hb6,hb3,hO2] at hB
 rw [hw2,hb6,hb3]
 have H2:=hid hB.1
 have F20:=hid hB.2
 have F2:Hid (Frm (Wr O2 k) w2 w2):=hid (Frm.refl _ _)
 clear hB HB e0 hw2 hb6 hb3 hO2
 obtain ⟨c3,c6,x1,x3,x4,y3,x0⟩:=H2.out.cells
 have HD:=hid H2.out.drew
 have FD:Hid (Frm (Wr O2 k) w2 w2.drew):=hid (F2.out.drew)
 go_still_tail 10,(by kernel_rfl)
 change wpList _ _ _ _ _ w2.drew
 go_wp2_with fail
 refine (HPL.out _ _ HD.out.m.lz).mono ?_;rintro e w3 ⟨rfl,rfl⟩
 have H3:=hid HD.out
 have F3:=hid FD.out
 obtain ⟨w3,hw3⟩:∃ w3,w2.drew=w3:=⟨_,rfl⟩
 rw [hw3] at H3 F3 ⊢
 clear HD FD H2 F2 hw3 htot htw HPL
 clear c3 c6 x1 x3 x4 y3 x0
 obtain ⟨c3,c6,x1,x3,x4,y3,x0⟩:=H3.out.cells
 go_upto_region 3 with fail
 have HD:=hid H3.out.drew
 have FD:Hid (Frm (Wr O2 k) w2 w3.drew):=hid (F3.out.drew)
 go_still_tail 14,(by kernel_rfl)
 change wpList _ _ _ _ _ w3.drew
 go_wp2_with fail
 refine (ibit_lz HD.out.m.lz (by have:=HC.out;omega) (8+st*16+p) k.sb (8+st*16+p) 1 _ rfl (by omega) P0.out.1 P0.out.2).mono ?_;rintro e w4 ⟨rfl,h0,f0⟩
 rw [HS1.out] at h0
 have H4:=hid (HD.out.lzStep h0 f0)
 have F4:=hid (FD.out.trans f0)
 clear h0 f0 HD FD H3 F3
 clear c3 c6 x1 x3 x4 y3 x0
 obtain ⟨c3,c6,x1,x3,x4,y3,x0⟩:=H4.out.cells
 go_wp2_with fail
 refine (index_num w4 k.sb 4 rep d _ HZ.out (fun j hj=>(H4.out.m.lz.rep_cell hj)) HDB.out).mono ?_;rintro e w5 ⟨rfl,hw5⟩
 subst hw5
 go_upto_region 10 with fail
 have HD:=hid H4.out.drew
 have FD:Hid (Frm (Wr O2 k) w2 w4.drew):=hid (F4.out.drew)
 go_still_tail 12,(by kernel_rfl)
 change wpList _ _ _ _ _ w4.drew
 go_wp2_with fail
 refine (ibit_lz HD.out.m.lz (by have:=HC.out;omega) (200+st) k.sb (200+st) 0 _ rfl (by omega) P1.out.1 P1.out.2).mono ?_;rintro e w5 ⟨rfl,h0,f0⟩
 rw [HS2.out] at h0
 have H5:=hid (HD.out.lzStep h0 f0)
 have F5:=hid (FD.out.trans f0)
 clear h0 f0 HD FD H4 F4
 clear c3 c6 x1 x3 x4 y3 x0
 obtain ⟨c3,c6,x1,x3,x4,y3,x0⟩:=H5.out.cells
 go_upto_region 11 with fail
 refine QTail.wp_region_qtail_lit 8 (by kernel_rfl) (by kernel_rfl) ?_
 simp only [List.take_succ_cons,List.take_zero,List.drop_succ_cons,List.drop_zero]
 repeat (go_big_quiet_step (fail))
 refine wpQuiet_nil ?_
 rintro w' ⟨nr,rfl⟩
 have HD:=hid (H5.out.drewN nr)
 have FD:Hid (Frm (Wr O2 k) w2 (w5.drewN nr)):=hid (F5.out.drewN nr)
 obtain ⟨w6,hrun,h6,f6⟩:=rep_copy (IC.keep g.eb O2) HD.out.m.lz 3 3 4 3 (by omega)
 have H6:=hid (HD.out.lzStep h6 f6)
 have F6:=hid (FD.out.trans f6)
 clear h6 f6 HD FD H5 F5
 clear c3 c6 x1 x3 x4 y3 x0
 obtain ⟨c3,c6,x1,x3,x4,y3,x0⟩:=H6.out.cells
 have y4:=(H6.out.m.lz.hdr (i:=4) (by omega)).2
 have v4:w6.cell? ⟨k.sb,4,none⟩=some (.int .u32 (shiftN rep 3 0:Int)):=H6.out.m.lz.rep_cell (j:=0) (by omega)
 have h7:=H6.out.m.lz.putRep 0 d (by omega) (IC.keep g.eb O2)
 rw [HR4.out] at h7
 have H7:=hid (H6.out.lzStep h7.1 h7.2)
 have F7:=hid (F6.out.trans h7.2)
 clear h7
 go_upto_region 13 with fail
 clear hrun y4 v4
 generalize w6.setCell ⟨k.sb,4,none⟩ (.int .u32 (d:Int))=w7 at *
 clear H6 F6
 clear c3 c6 x1 x3 x4 y3 x0
 obtain ⟨c3,c6,x1,x3,x4,y3,x0⟩:=H7.out.cells
 have HD:=hid H7.out.drew
 have FD:Hid (Frm (Wr O2 k) w2 w7.drew):=hid (F7.out.drew)
 go_still_tail 10,(by kernel_rfl)
 change wpList _ _ _ _ _ w7.drew
 go_wp2_with fail
 refine (lens_in g.eb O2 150 k _ _ _ 840 size p _ HD.out.m.lz (.inl rfl) hp16 h2 hs (by have:=HC.out;omega)).mono ?_;rintro e w8 ⟨rfl,h0,f0⟩
 rw [HS3.out] at h0
 have H8:=hid (HD.out.lzStep h0 f0)
 have F8:=hid (FD.out.trans f0)
 clear h0 f0 HD FD H7 F7
 clear c3 c6 x1 x3 x4 y3 x0
 obtain ⟨c3,c6,x1,x3,x4,y3,x0⟩:=H8.out.cells
 go_wp2_with fail
 have HD:=H8
 have FD:=F8
 refine (behind_any (IC.keep g.eb O2) 150 k st 1 _ _ _ HD.out.m.lz hst (by omega)).mono ?_;rintro e w9 ⟨rfl,h0,f0⟩
 have H9:=hid (HD.out.lzStep h0 f0)
 have F9:=hid (FD.out.trans f0)
 clear h0 f0 HD FD H8 F8
 clear c3 c6 x1 x3 x4 y3 x0
 obtain ⟨c3,c6,x1,x3,x4,y3,x0⟩:=H9.out.cells
 go_upto_region 15 with fail
 have HD:=hid H9.out.drew
 have FD:Hid (Frm (Wr O2 k) w2 w9.drew):=hid (F9.out.drew)
 go_still_tail 10,(by kernel_rfl)
 change wpList _ _ _ _ _ w9.drew
 go_wp2_with fail
 refine (dist_in g.eb O2 150 k (behS st 1) rep4 s3 d size _ HD.out.m.lz h2 (by omega) HDB.out (by have:=HC.out;omega)).mono ?_;rintro e w10 ⟨rfl,h0,f0⟩
 rw [HS4.out] at h0
 have H10:=hid (HD.out.lzStep h0 f0)
 have F10:=hid (FD.out.trans f0)
 clear h0 f0 HD FD H9 F9
 clear c3 c6 x1 x3 x4 y3 x0
 obtain ⟨c3,c6,x1,x3,x4,y3,x0⟩:=H10.out.cells
 have z3:=H10.out.m.p.frozen 3
 have HMV:=hid (H10.out.m.move pe)
 go_wp2
 refine bodyPost_ret (results_none rfl _ _ _) rfl ?_
 refine ⟨rfl,?_,?_⟩
 ·exact HMV.out.1.widen HH.out HO2.out (Nat.le_trans F20.out.size (Nat.le_trans F10.out.size HMV.out.2.size))
 refine (F20.out.mono fun q _ e=>e.elim).trans ((F10.out.mono fun q _ e=>?_).trans (HMV.out.2.mono fun q _ e=>?_))
 ·rcases e with e | e
  ·exact .inl (.inl (HO2.out q e))
  exact .inl (.inr e)
 rcases e with (e | e) | e
 ·exact .inl (.inl (HO2.out q e))
 ·exact .inl (.inr e)
 exact .inr e
open Go.RowKit Rng Lz Win
set_option maxRecDepth 100000 in
set_option maxHeartbeats 4000000 in
theorem putmatch_zero (O:Nat→Prop) (w:World) (k:LK) (g:WB) (A:Option Addr) (c:Nat) (bs:List UInt8) (shift:Int) (pos tot st:Nat) (rep:Nat→Nat) (s:CP Enc) (h:WrAt O w k g A c bs shift pos st rep s) (hk:k.Ok) (htot:(pos:Int)+shift=(tot:Int)) (ht:tot<4611686018427387904)
 (size back d:Nat) (h2:2≤size) (hs:size≤273) (hbd:back=d+1) (hd:d<4294967296) (hpos:pos+size≤140737488355328) (hst:st<12) (hrep:∀ j,rep j<4294967296) (hc:s.d.cnt+100<1000000) (hj:idxOf rep d=0) :
 Calls Tryz.prog 78 #[.pointer (some ⟨g.xb,0,none⟩),.int .i64 size,.int .i64 back] w fun e w'=>e=.returned (.tuple #[])∧WrAt O w' k g A c bs shift (pos+size) (putMatch k tot size d st rep s).1 (putMatch k tot size d st rep s).2.1 (putMatch k tot size d st rep s).2.2∧Frm (WZ k O g) w w':=by
 obtain ⟨p,hp⟩:∃ p,tot % 2 ^ k.pb=p:=⟨_,rfl⟩
 have hp16:p<16:=by
  have h1:2 ^ k.pb≤2 ^ 4:=Nat.pow_le_pow_right (by omega) hk.b
  have h2:tot % 2 ^ k.pb<2 ^ k.pb:=Nat.mod_lt _ (Nat.lt_of_lt_of_le (by omega) (Nat.one_le_two_pow))
  omega
 obtain ⟨s1,hs1⟩:∃ s1,(bitAt inC (8+st*16+p) 1 s).2=s1:=⟨_,rfl⟩
 have hc1:s1.d.cnt≤s.d.cnt+1:=by rw [← hs1];exact cnt_bitIn1 _ _ _
 obtain ⟨s2,hs2⟩:∃ s2,(bitAt inC (200+st) 1 s1).2=s2:=⟨_,rfl⟩
 have hc2:s2.d.cnt≤s1.d.cnt+1:=by rw [← hs2];exact cnt_bitIn1 _ _ _
 obtain ⟨s3,hs3⟩:∃ s3,bitsIn st 0 [0] s2=s3:=⟨_,rfl⟩
 have hc3:s3.d.cnt≤s2.d.cnt+3:=by rw [← hs3];exact cnt_bits _ _ _ _ (by simp)
 obtain ⟨s4,hs4⟩:∃ s4,(bitAt inC (248+st*16+p) 1 s3).2=s4:=⟨_,rfl⟩
 have hc4:s4.d.cnt≤s3.d.cnt+1:=by rw [← hs4];exact cnt_bitIn1 _ _ _
 obtain ⟨s5,hs5⟩:∃ s5,(lenAt inC 1354 size p s4).2=s5:=⟨_,rfl⟩
 have hput:putMatch k tot size d st rep s=(behS st 2,takeS rep 0,s5):=by
  unfold putMatch putRep;simp only;rw [hp,hs1,hj,if_neg (by omega),hs2,if_pos rfl,if_pos rfl,if_pos rfl,takeS_zero]
  have e:(bitAt inC (212+st) 0 s2).2=s3:=by rw [← hs3];unfold bitsIn bitsIn;rw [show 212+0*12+st=212+st by omega]
  rw [e,hs4,hs5]
 have HS2:=hid hs2
 have HS3:=hid hs3
 have HS4:=hid hs4
 have HS5:=hid hs5
 have HPUT:=hid hput
 have HH:=hid h
 have HB:=hid (two_boxes h)
 have hXO:=h.x
 have e0:(w.alloc (.cells #[.pointer (some ⟨g.xb,0,none⟩)] 166)).cell? ⟨g.xb,0,none⟩=some (.pointer (some ⟨k.sb,0,none⟩)):=(h.alloc _).cells.1
 have HPL:=hid (fun (w1:World) (O1:Nat→Prop) (h1:LzAt (IC g.eb O1) O1 150 w1 k st rep s)=>place_any 150 k st tot rep s w1 h1 hk ht)
 rw [hp] at HPL
 have P0:=hid (plm k (i:=8+st*16+p) (by omega) (by omega))
 have P1:=hid (plm k (i:=200+st) (by omega) (by omega))
 have P2:=hid (plm k (i:=248+st*16+p) (by omega) (by omega))
 have HS1:=hid hs1
 have HREP:=hid hrep
 have HK:=hid hk
 have hsti:(st:Int)<12:=by omega
 have hpi:(p:Int)<16:=by omega
 have htw:IntKind.i64.wrap (tot:Int)=(tot:Int):=Go.IntWalk.i64_in _ (by omega)
 have hbk:(back:Int)-1=(d:Int):=by omega
 have hdw:IntKind.i64.wrap (d:Int)=(d:Int):=Go.IntWalk.i64_in _ (by omega)
 have hdu:IntKind.u32.wrap (d:Int)=(d:Int):=Go.IntWalk.u32_in _ (by omega)
 obtain ⟨pe,hpe⟩:∃ pe,pos+size=pe:=⟨_,rfl⟩
 have hpei:(pos:Int)+(size:Int)=(pe:Int):=by omega
 have hpew:IntKind.i64.wrap (pe:Int)=(pe:Int):=Go.IntWalk.i64_in _ (by omega)
 have hzi:idxV (idxOf rep d)=0:=by rw [hj];rfl
 have HZ:=hid hzi
 have HDB:=hid hd
 rw [hput,hpe]
 clear h hk ht hrep hp hbd hd hpos hpe hj hzi hput hs1 hs2 hs3 hs4 hs5
 have HC:=hid (And.intro hc (And.intro hc1 (And.intro hc2 (And.intro hc3 hc4))))
 clear hc hc1 hc2 hc3 hc4
 go_enter Tryz.func78,Tryz.ntmps78
 go_upto_region 2 with fail
 obtain ⟨w2,hw2⟩:∃ w2,(w.alloc (.cells #[.pointer (some ⟨g.xb,0,none⟩)] 166)).alloc (.cells #[.pointer (some ⟨k.sb,0,none⟩)] 167)=w2:=⟨_,rfl⟩
 obtain ⟨b6,hb6⟩:∃ b,w.heap.size+1=b:=⟨_,rfl⟩
 obtain ⟨b3,hb3⟩:∃ b,w.heap.size=b:=⟨_,rfl⟩
 obtain ⟨O2,hO2⟩:∃ O2:Nat→Prop,(fun q=>O q∧¬ (q=b3∨q=b6))=O2:=⟨_,rfl⟩
 have hB:=HB.out
 have HO2:Hid (∀ q,O2 q→O q):=hid (fun q hq=>by rw [← hO2] at hq;exact hq.1)
 rw [hw2,hb6,hb3,hO2] at hB
 rw [hw2,hb6,hb3]
 have H2:=hid hB.1
 have F20:=hid hB.2
 have F2:Hid (Frm (Wr O2 k) w2 w2):=hid (Frm.refl _ _)
 clear hB HB e0 hw2 hb6 hb3 hO2
 obtain ⟨c3,c6,x1,x3,x4,y3,x0⟩:=H2.out.cells
 have HD:=hid H2.out.drew
 have FD:Hid (Frm (Wr O2 k) w2 w2.drew):=hid (F2.out.drew)
 go_still_tail 10,(by kernel_rfl)
 change wpList _ _ _ _ _ w2.drew
 go_wp2_with fail
 refine (HPL.out _ _ HD.out.m.lz).mono ?_;rintro e w3 ⟨rfl,rfl⟩
 have H3:=hid HD.out
 have F3:=hid FD.out
 obtain ⟨w3,hw3⟩:∃ w3,w2.drew=w3:=⟨_,rfl⟩
 rw [hw3] at H3 F3 ⊢
 clear HD FD H2 F2 hw3 htot htw HPL
 clear c3 c6 x1 x3 x4 y3 x0
 obtain ⟨c3,c6,x1,x3,x4,y3,x0⟩:=H3.out.cells
 go_upto_region 3 with fail
 have HD:=hid H3.out.drew
 have FD:Hid (Frm (Wr O2 k) w2 w3.drew):=hid (F3.out.drew)
 go_still_tail 14,(by kernel_rfl)
 change wpList _ _ _ _ _ w3.drew
 go_wp2_with fail
 refine (ibit_lz HD.out.m.lz (by have:=HC.out;omega) (8+st*16+p) k.sb (8+st*16+p) 1 _ rfl (by omega) P0.out.1 P0.out.2).mono ?_;rintro e w4 ⟨rfl,h0,f0⟩
 rw [HS1.out] at h0
 have H4:=hid (HD.out.lzStep h0 f0)
 have F4:=hid (FD.out.trans f0)
 clear h0 f0 HD FD H3 F3
 clear c3 c6 x1 x3 x4 y3 x0
 obtain ⟨c3,c6,x1,x3,x4,y3,x0⟩:=H4.out.cells
 go_wp2_with fail
 refine (index_num w4 k.sb 4 rep d _ HZ.out (fun j hj=>(H4.out.m.lz.rep_cell hj)) HDB.out).mono ?_;rintro e w5 ⟨rfl,hw5⟩
 subst hw5
 go_upto_region 18 with fail
 have HD:=hid H4.out.drew
 have FD:Hid (Frm (Wr O2 k) w2 w4.drew):=hid (F4.out.drew)
 go_still_tail 12,(by kernel_rfl)
 change wpList _ _ _ _ _ w4.drew
 go_wp2_with fail
 refine (ibit_lz HD.out.m.lz (by have:=HC.out;omega) (200+st) k.sb (200+st) 1 _ rfl (by omega) P1.out.1 P1.out.2).mono ?_;rintro e w5 ⟨rfl,h0,f0⟩
 rw [HS2.out] at h0
 have H5:=hid (HD.out.lzStep h0 f0)
 have F5:=hid (FD.out.trans f0)
 clear h0 f0 HD FD H4 F4
 clear c3 c6 x1 x3 x4 y3 x0
 obtain ⟨c3,c6,x1,x3,x4,y3,x0⟩:=H5.out.cells
 go_wp2_with fail
 refine (bits_lit O2 w5 k g b3 b6 A c bs shift pos st rep s2 H5.out hst [0] (by simp) (by simp) (by have:=HC.out;omega)).mono ?_;rintro e w6 ⟨rfl,h0,f0⟩
 rw [HS3.out] at h0
 have H6:=hid h0
 have F6:=hid (F5.out.trans f0)
 clear h0 f0 H5 F5
 clear c3 c6 x1 x3 x4 y3 x0
 obtain ⟨c3,c6,x1,x3,x4,y3,x0⟩:=H6.out.cells
 go_upto_region 20 with fail
 have HD:=hid H6.out.drew
 have FD:Hid (Frm (Wr O2 k) w2 w6.drew):=hid (F6.out.drew)
 go_still_tail 14,(by kernel_rfl)
 change wpList _ _ _ _ _ w6.drew
 go_wp2_with fail
 refine (ibit_lz HD.out.m.lz (by have:=HC.out;omega) (248+st*16+p) k.sb (248+st*16+p) 1 _ rfl (by omega) P2.out.1 P2.out.2).mono ?_;rintro e w7 ⟨rfl,h0,f0⟩
 rw [HS4.out] at h0
 have H7:=hid (HD.out.lzStep h0 f0)
 have F7:=hid (FD.out.trans f0)
 clear h0 f0 HD FD H6 F6
 clear c3 c6 x1 x3 x4 y3 x0
 obtain ⟨c3,c6,x1,x3,x4,y3,x0⟩:=H7.out.cells
 go_wp2_with fail
 have HD:=H7
 have FD:=F7
 refine (take_num (IC.keep g.eb O2) 150 k st 0 _ rep _ _ (by first | rfl | omega) HD.out.m.lz (by first | omega | (have:=HJ.out;omega))).mono ?_;rintro e w8 ⟨rfl,h0,f0⟩
 have H8:=hid (HD.out.lzStep h0 f0)
 have F8:=hid (FD.out.trans f0)
 clear h0 f0 HD FD H7 F7
 clear c3 c6 x1 x3 x4 y3 x0
 obtain ⟨c3,c6,x1,x3,x4,y3,x0⟩:=H8.out.cells
 go_upto_region 25 with fail
 have HD:=hid H8.out.drew
 have FD:Hid (Frm (Wr O2 k) w2 w8.drew):=hid (F8.out.drew)
 go_still_tail 10,(by kernel_rfl)
 change wpList _ _ _ _ _ w8.drew
 go_wp2_with fail
 refine (lens_in g.eb O2 150 k _ _ _ 1354 size p _ HD.out.m.lz (.inr rfl) hp16 h2 hs (by have:=HC.out;omega)).mono ?_;rintro e w9 ⟨rfl,h0,f0⟩
 rw [HS5.out] at h0
 have H9:=hid (HD.out.lzStep h0 f0)
 have F9:=hid (FD.out.trans f0)
 clear h0 f0 HD FD H8 F8
 clear c3 c6 x1 x3 x4 y3 x0
 obtain ⟨c3,c6,x1,x3,x4,y3,x0⟩:=H9.out.cells
 go_wp2_with fail
 have HD:=H9
 have FD:=F9
 refine (behind_any (IC.keep g.eb O2) 150 k st 2 _ _ _ HD.out.m.lz hst (by omega)).mono ?_;rintro e w10 ⟨rfl,h0,f0⟩
 have H10:=hid (HD.out.lzStep h0 f0)
 have F10:=hid (FD.out.trans f0)
 clear h0 f0 HD FD H9 F9
 clear c3 c6 x1 x3 x4 y3 x0
 obtain ⟨c3,c6,x1,x3,x4,y3,x0⟩:=H10.out.cells
 have z3:=H10.out.m.p.frozen 3
 have HMV:=hid (H10.out.m.move pe)
 go_wp2
 go_end0
 refine ⟨rfl,?_,?_⟩
 ·exact HMV.out.1.widen HH.out HO2.out (Nat.le_trans F20.out.size (Nat.le_trans F10.out.size HMV.out.2.size))
 refine (F20.out.mono fun q _ e=>e.elim).trans ((F10.out.mono fun q _ e=>?_).trans (HMV.out.2.mono fun q _ e=>?_))
 ·rcases e with e | e
  ·exact .inl (.inl (HO2.out q e))
  exact .inl (.inr e)
 rcases e with (e | e) | e
 ·exact .inl (.inl (HO2.out q e))
 ·exact .inl (.inr e)
 exact .inr e
open Go.RowKit Rng Lz Win
set_option maxRecDepth 100000 in
set_option maxHeartbeats 4000000 in
theorem putmatch_one (O:Nat→Prop) (w:World) (k:LK) (g:WB) (A:Option Addr) (c:Nat) (bs:List UInt8) (shift:Int) (pos tot st:Nat) (rep:Nat→Nat) (s:CP Enc) (h:WrAt O w k g A c bs shift pos st rep s) (hk:k.Ok) (htot:(pos:Int)+shift=(tot:Int)) (ht:tot<4611686018427387904)
 (size back d:Nat) (h2:2≤size) (hs:size≤273) (hbd:back=d+1) (hd:d<4294967296) (hpos:pos+size≤140737488355328) (hst:st<12) (hrep:∀ j,rep j<4294967296) (hc:s.d.cnt+100<1000000) (hj:idxOf rep d=1) :
 Calls Tryz.prog 78 #[.pointer (some ⟨g.xb,0,none⟩),.int .i64 size,.int .i64 back] w fun e w'=>e=.returned (.tuple #[])∧WrAt O w' k g A c bs shift (pos+size) (putMatch k tot size d st rep s).1 (putMatch k tot size d st rep s).2.1 (putMatch k tot size d st rep s).2.2∧Frm (WZ k O g) w w':=by
 obtain ⟨p,hp⟩:∃ p,tot % 2 ^ k.pb=p:=⟨_,rfl⟩
 have hp16:p<16:=by
  have h1:2 ^ k.pb≤2 ^ 4:=Nat.pow_le_pow_right (by omega) hk.b
  have h2:tot % 2 ^ k.pb<2 ^ k.pb:=Nat.mod_lt _ (Nat.lt_of_lt_of_le (by omega) (Nat.one_le_two_pow))
  omega
 obtain ⟨s1,hs1⟩:∃ s1,(bitAt inC (8+st*16+p) 1 s).2=s1:=⟨_,rfl⟩
 have hc1:s1.d.cnt≤s.d.cnt+1:=by rw [← hs1];exact cnt_bitIn1 _ _ _
 obtain ⟨s2,hs2⟩:∃ s2,(bitAt inC (200+st) 1 s1).2=s2:=⟨_,rfl⟩
 have hc2:s2.d.cnt≤s1.d.cnt+1:=by rw [← hs2];exact cnt_bitIn1 _ _ _
 obtain ⟨s4,hs4⟩:∃ s4,bitsIn st 0 [1,0] s2=s4:=⟨_,rfl⟩
 have hc4:s4.d.cnt≤s2.d.cnt+3:=by rw [← hs4];exact cnt_bits _ _ _ _ (by simp)
 obtain ⟨s5,hs5⟩:∃ s5,(lenAt inC 1354 size p s4).2=s5:=⟨_,rfl⟩
 have hput:putMatch k tot size d st rep s=(behS st 2,takeS rep 1,s5):=by
  unfold putMatch putRep;simp only;rw [hp,hs1,hj,if_neg (by omega),hs2];simp only [if_neg (show ¬ (1:Nat)=0 by omega),if_pos]
  have e:(bitAt inC (224+st) 0 (bitAt inC (212+st) 1 s2).2).2=s4:=by rw [← hs4];unfold bitsIn bitsIn bitsIn;rw [show 212+0*12+st=212+st by omega,show 212+(0+1)*12+st=224+st by omega]
  rw [e,hs5]
 have HS2:=hid hs2
 have HS4:=hid hs4
 have HS5:=hid hs5
 have HPUT:=hid hput
 have HH:=hid h
 have HB:=hid (two_boxes h)
 have hXO:=h.x
 have e0:(w.alloc (.cells #[.pointer (some ⟨g.xb,0,none⟩)] 166)).cell? ⟨g.xb,0,none⟩=some (.pointer (some ⟨k.sb,0,none⟩)):=(h.alloc _).cells.1
 have HPL:=hid (fun (w1:World) (O1:Nat→Prop) (h1:LzAt (IC g.eb O1) O1 150 w1 k st rep s)=>place_any 150 k st tot rep s w1 h1 hk ht)
 rw [hp] at HPL
 have P0:=hid (plm k (i:=8+st*16+p) (by omega) (by omega))
 have P1:=hid (plm k (i:=200+st) (by omega) (by omega))
 have HS1:=hid hs1
 have HREP:=hid hrep
 have HK:=hid hk
 have hsti:(st:Int)<12:=by omega
 have hpi:(p:Int)<16:=by omega
 have htw:IntKind.i64.wrap (tot:Int)=(tot:Int):=Go.IntWalk.i64_in _ (by omega)
 have hbk:(back:Int)-1=(d:Int):=by omega
 have hdw:IntKind.i64.wrap (d:Int)=(d:Int):=Go.IntWalk.i64_in _ (by omega)
 have hdu:IntKind.u32.wrap (d:Int)=(d:Int):=Go.IntWalk.u32_in _ (by omega)
 obtain ⟨pe,hpe⟩:∃ pe,pos+size=pe:=⟨_,rfl⟩
 have hpei:(pos:Int)+(size:Int)=(pe:Int):=by omega
 have hpew:IntKind.i64.wrap (pe:Int)=(pe:Int):=Go.IntWalk.i64_in _ (by omega)
 have hzi:idxV (idxOf rep d)=1:=by rw [hj];rfl
 have HZ:=hid hzi
 have HDB:=hid hd
 rw [hput,hpe]
 clear h hk ht hrep hp hbd hd hpos hpe hj hzi hput hs1 hs2 hs4 hs5
 have HC:=hid (And.intro hc (And.intro hc1 (And.intro hc2 hc4)))
 clear hc hc1 hc2 hc4
 go_enter Tryz.func78,Tryz.ntmps78
 go_upto_region 2 with fail
 obtain ⟨w2,hw2⟩:∃ w2,(w.alloc (.cells #[.pointer (some ⟨g.xb,0,none⟩)] 166)).alloc (.cells #[.pointer (some ⟨k.sb,0,none⟩)] 167)=w2:=⟨_,rfl⟩
 obtain ⟨b6,hb6⟩:∃ b,w.heap.size+1=b:=⟨_,rfl⟩
 obtain ⟨b3,hb3⟩:∃ b,w.heap.size=b:=⟨_,rfl⟩
 obtain ⟨O2,hO2⟩:∃ O2:Nat→Prop,(fun q=>O q∧¬ (q=b3∨q=b6))=O2:=⟨_,rfl⟩
 have hB:=HB.out
 have HO2:Hid (∀ q,O2 q→O q):=hid (fun q hq=>by rw [← hO2] at hq;exact hq.1)
 rw [hw2,hb6,hb3,hO2] at hB
 rw [hw2,hb6,hb3]
 have H2:=hid hB.1
 have F20:=hid hB.2
 have F2:Hid (Frm (Wr O2 k) w2 w2):=hid (Frm.refl _ _)
 clear hB HB e0 hw2 hb6 hb3 hO2
 obtain ⟨c3,c6,x1,x3,x4,y3,x0⟩:=H2.out.cells
 have HD:=hid H2.out.drew
 have FD:Hid (Frm (Wr O2 k) w2 w2.drew):=hid (F2.out.drew)
 go_still_tail 10,(by kernel_rfl)
 change wpList _ _ _ _ _ w2.drew
 go_wp2_with fail
 refine (HPL.out _ _ HD.out.m.lz).mono ?_;rintro e w3 ⟨rfl,rfl⟩
 have H3:=hid HD.out
 have F3:=hid FD.out
 obtain ⟨w3,hw3⟩:∃ w3,w2.drew=w3:=⟨_,rfl⟩
 rw [hw3] at H3 F3 ⊢
 clear HD FD H2 F2 hw3 htot htw HPL
 clear c3 c6 x1 x3 x4 y3 x0
 obtain ⟨c3,c6,x1,x3,x4,y3,x0⟩:=H3.out.cells
 go_upto_region 3 with fail
 have HD:=hid H3.out.drew
 have FD:Hid (Frm (Wr O2 k) w2 w3.drew):=hid (F3.out.drew)
 go_still_tail 14,(by kernel_rfl)
 change wpList _ _ _ _ _ w3.drew
 go_wp2_with fail
 refine (ibit_lz HD.out.m.lz (by have:=HC.out;omega) (8+st*16+p) k.sb (8+st*16+p) 1 _ rfl (by omega) P0.out.1 P0.out.2).mono ?_;rintro e w4 ⟨rfl,h0,f0⟩
 rw [HS1.out] at h0
 have H4:=hid (HD.out.lzStep h0 f0)
 have F4:=hid (FD.out.trans f0)
 clear h0 f0 HD FD H3 F3
 clear c3 c6 x1 x3 x4 y3 x0
 obtain ⟨c3,c6,x1,x3,x4,y3,x0⟩:=H4.out.cells
 go_wp2_with fail
 refine (index_num w4 k.sb 4 rep d _ HZ.out (fun j hj=>(H4.out.m.lz.rep_cell hj)) HDB.out).mono ?_;rintro e w5 ⟨rfl,hw5⟩
 subst hw5
 go_upto_region 22 with fail
 have HD:=hid H4.out.drew
 have FD:Hid (Frm (Wr O2 k) w2 w4.drew):=hid (F4.out.drew)
 go_still_tail 12,(by kernel_rfl)
 change wpList _ _ _ _ _ w4.drew
 go_wp2_with fail
 refine (ibit_lz HD.out.m.lz (by have:=HC.out;omega) (200+st) k.sb (200+st) 1 _ rfl (by omega) P1.out.1 P1.out.2).mono ?_;rintro e w5 ⟨rfl,h0,f0⟩
 rw [HS2.out] at h0
 have H5:=hid (HD.out.lzStep h0 f0)
 have F5:=hid (FD.out.trans f0)
 clear h0 f0 HD FD H4 F4
 clear c3 c6 x1 x3 x4 y3 x0
 obtain ⟨c3,c6,x1,x3,x4,y3,x0⟩:=H5.out.cells
 go_wp2_with fail
 refine (bits_lit O2 w5 k g b3 b6 A c bs shift pos st rep s2 H5.out hst [1,0] (by simp) (by simp) (by have:=HC.out;omega)).mono ?_;rintro e w6 ⟨rfl,h0,f0⟩
 rw [HS4.out] at h0
 have H6:=hid h0
 have F6:=hid (F5.out.trans f0)
 clear h0 f0 H5 F5
 clear c3 c6 x1 x3 x4 y3 x0
 obtain ⟨c3,c6,x1,x3,x4,y3,x0⟩:=H6.out.cells
 go_wp2_with fail
 have HD:=H6
 have FD:=F6
 refine (take_num (IC.keep g.eb O2) 150 k st 1 _ rep _ _ (by first | rfl | omega) HD.out.m.lz (by first | omega | (have:=HJ.out;omega))).mono ?_;rintro e w7 ⟨rfl,h0,f0⟩
 have H7:=hid (HD.out.lzStep h0 f0)
 have F7:=hid (FD.out.trans f0)
 clear h0 f0 HD FD H6 F6
 clear c3 c6 x1 x3 x4 y3 x0
 obtain ⟨c3,c6,x1,x3,x4,y3,x0⟩:=H7.out.cells
 go_upto_region 25 with fail
 have HD:=hid H7.out.drew
 have FD:Hid (Frm (Wr O2 k) w2 w7.drew):=hid (F7.out.drew)
 go_still_tail 10,(by kernel_rfl)
 change wpList _ _ _ _ _ w7.drew
 go_wp2_with fail
 refine (lens_in g.eb O2 150 k _ _ _ 1354 size p _ HD.out.m.lz (.inr rfl) hp16 h2 hs (by have:=HC.out;omega)).mono ?_;rintro e w8 ⟨rfl,h0,f0⟩
 rw [HS5.out] at h0
 have H8:=hid (HD.out.lzStep h0 f0)
 have F8:=hid (FD.out.trans f0)
 clear h0 f0 HD FD H7 F7
 clear c3 c6 x1 x3 x4 y3 x0
 obtain ⟨c3,c6,x1,x3,x4,y3,x0⟩:=H8.out.cells
 go_wp2_with fail
 have HD:=H8
 have FD:=F8
 refine (behind_any (IC.keep g.eb O2) 150 k st 2 _ _ _ HD.out.m.lz hst (by omega)).mono ?_;rintro e w9 ⟨rfl,h0,f0⟩
 have H9:=hid (HD.out.lzStep h0 f0)
 have F9:=hid (FD.out.trans f0)
 clear h0 f0 HD FD H8 F8
 clear c3 c6 x1 x3 x4 y3 x0
 obtain ⟨c3,c6,x1,x3,x4,y3,x0⟩:=H9.out.cells
 have z3:=H9.out.m.p.frozen 3
 have HMV:=hid (H9.out.m.move pe)
 go_wp2
 go_end0
 refine ⟨rfl,?_,?_⟩
 ·exact HMV.out.1.widen HH.out HO2.out (Nat.le_trans F20.out.size (Nat.le_trans F9.out.size HMV.out.2.size))
 refine (F20.out.mono fun q _ e=>e.elim).trans ((F9.out.mono fun q _ e=>?_).trans (HMV.out.2.mono fun q _ e=>?_))
 ·rcases e with e | e
  ·exact .inl (.inl (HO2.out q e))
  exact .inl (.inr e)
 rcases e with (e | e) | e
 ·exact .inl (.inl (HO2.out q e))
 ·exact .inl (.inr e)
 exact .inr e
open Go.RowKit Rng Lz Win
set_option maxRecDepth 100000 in
set_option maxHeartbeats 4000000 in
theorem putmatch_two (O:Nat→Prop) (w:World) (k:LK) (g:WB) (A:Option Addr) (c:Nat) (bs:List UInt8) (shift:Int) (pos tot st:Nat) (rep:Nat→Nat) (s:CP Enc) (h:WrAt O w k g A c bs shift pos st rep s) (hk:k.Ok) (htot:(pos:Int)+shift=(tot:Int)) (ht:tot<4611686018427387904)
 (size back d:Nat) (h2:2≤size) (hs:size≤273) (hbd:back=d+1) (hd:d<4294967296) (hpos:pos+size≤140737488355328) (hst:st<12) (hrep:∀ j,rep j<4294967296) (hc:s.d.cnt+100<1000000) (J:Nat) (hJ:J=2∨J=3) (hj:idxOf rep d=J) :
 Calls Tryz.prog 78 #[.pointer (some ⟨g.xb,0,none⟩),.int .i64 size,.int .i64 back] w fun e w'=>e=.returned (.tuple #[])∧WrAt O w' k g A c bs shift (pos+size) (putMatch k tot size d st rep s).1 (putMatch k tot size d st rep s).2.1 (putMatch k tot size d st rep s).2.2∧Frm (WZ k O g) w w':=by
 obtain ⟨p,hp⟩:∃ p,tot % 2 ^ k.pb=p:=⟨_,rfl⟩
 have hp16:p<16:=by
  have h1:2 ^ k.pb≤2 ^ 4:=Nat.pow_le_pow_right (by omega) hk.b
  have h2:tot % 2 ^ k.pb<2 ^ k.pb:=Nat.mod_lt _ (Nat.lt_of_lt_of_le (by omega) (Nat.one_le_two_pow))
  omega
 obtain ⟨s1,hs1⟩:∃ s1,(bitAt inC (8+st*16+p) 1 s).2=s1:=⟨_,rfl⟩
 have hc1:s1.d.cnt≤s.d.cnt+1:=by rw [← hs1];exact cnt_bitIn1 _ _ _
 obtain ⟨s2,hs2⟩:∃ s2,(bitAt inC (200+st) 1 s1).2=s2:=⟨_,rfl⟩
 have hc2:s2.d.cnt≤s1.d.cnt+1:=by rw [← hs2];exact cnt_bitIn1 _ _ _
 obtain ⟨s4,hs4⟩:∃ s4,bitsIn st 0 [1,1,J-2] s2=s4:=⟨_,rfl⟩
 have hc4:s4.d.cnt≤s2.d.cnt+3:=by rw [← hs4];exact cnt_bits _ _ _ _ (by simp)
 obtain ⟨s5,hs5⟩:∃ s5,(lenAt inC 1354 size p s4).2=s5:=⟨_,rfl⟩
 have hput:putMatch k tot size d st rep s=(behS st 2,takeS rep J,s5):=by
  unfold putMatch putRep;simp only;rw [hp,hs1,hj,if_neg (by omega),hs2];simp only [if_neg (show ¬ J=0 by omega),if_neg (show ¬ J=1 by omega)]
  have e:(bitAt inC (236+st) (J-2) (bitAt inC (224+st) 1 (bitAt inC (212+st) 1 s2).2).2).2=s4:=by rw [← hs4];unfold bitsIn bitsIn bitsIn bitsIn;rw [show 212+0*12+st=212+st by omega,show 212+(0+1)*12+st=224+st by omega,show 212+(0+1+1)*12+st=236+st by omega]
  rw [e,hs5]
 have HS2:=hid hs2
 have HS4:=hid hs4
 have HS5:=hid hs5
 have HPUT:=hid hput
 have HH:=hid h
 have HB:=hid (two_boxes h)
 have hXO:=h.x
 have e0:(w.alloc (.cells #[.pointer (some ⟨g.xb,0,none⟩)] 166)).cell? ⟨g.xb,0,none⟩=some (.pointer (some ⟨k.sb,0,none⟩)):=(h.alloc _).cells.1
 have HPL:=hid (fun (w1:World) (O1:Nat→Prop) (h1:LzAt (IC g.eb O1) O1 150 w1 k st rep s)=>place_any 150 k st tot rep s w1 h1 hk ht)
 rw [hp] at HPL
 have P0:=hid (plm k (i:=8+st*16+p) (by omega) (by omega))
 have P1:=hid (plm k (i:=200+st) (by omega) (by omega))
 have HS1:=hid hs1
 have HREP:=hid hrep
 have HK:=hid hk
 have hsti:(st:Int)<12:=by omega
 have hpi:(p:Int)<16:=by omega
 have htw:IntKind.i64.wrap (tot:Int)=(tot:Int):=Go.IntWalk.i64_in _ (by omega)
 have hbk:(back:Int)-1=(d:Int):=by omega
 have hdw:IntKind.i64.wrap (d:Int)=(d:Int):=Go.IntWalk.i64_in _ (by omega)
 have hdu:IntKind.u32.wrap (d:Int)=(d:Int):=Go.IntWalk.u32_in _ (by omega)
 obtain ⟨pe,hpe⟩:∃ pe,pos+size=pe:=⟨_,rfl⟩
 have hpei:(pos:Int)+(size:Int)=(pe:Int):=by omega
 have hpew:IntKind.i64.wrap (pe:Int)=(pe:Int):=Go.IntWalk.i64_in _ (by omega)
 have hzi:idxV (idxOf rep d)=(J:Int):=by rw [hj];unfold idxV;rw [if_neg (by omega)]
 have HZ:=hid hzi
 have HDB:=hid hd
 rw [hput,hpe]
 clear h hk ht hrep hp hbd hd hpos hpe hj hzi hput hs1 hs2 hs4 hs5
 have HC:=hid (And.intro hc (And.intro hc1 (And.intro hc2 hc4)))
 clear hc hc1 hc2 hc4
 go_enter Tryz.func78,Tryz.ntmps78
 go_upto_region 2 with fail
 obtain ⟨w2,hw2⟩:∃ w2,(w.alloc (.cells #[.pointer (some ⟨g.xb,0,none⟩)] 166)).alloc (.cells #[.pointer (some ⟨k.sb,0,none⟩)] 167)=w2:=⟨_,rfl⟩
 obtain ⟨b6,hb6⟩:∃ b,w.heap.size+1=b:=⟨_,rfl⟩
 obtain ⟨b3,hb3⟩:∃ b,w.heap.size=b:=⟨_,rfl⟩
 obtain ⟨O2,hO2⟩:∃ O2:Nat→Prop,(fun q=>O q∧¬ (q=b3∨q=b6))=O2:=⟨_,rfl⟩
 have hB:=HB.out
 have HO2:Hid (∀ q,O2 q→O q):=hid (fun q hq=>by rw [← hO2] at hq;exact hq.1)
 rw [hw2,hb6,hb3,hO2] at hB
 rw [hw2,hb6,hb3]
 have H2:=hid hB.1
 have F20:=hid hB.2
 have F2:Hid (Frm (Wr O2 k) w2 w2):=hid (Frm.refl _ _)
 clear hB HB e0 hw2 hb6 hb3 hO2
 obtain ⟨c3,c6,x1,x3,x4,y3,x0⟩:=H2.out.cells
 have HD:=hid H2.out.drew
 have FD:Hid (Frm (Wr O2 k) w2 w2.drew):=hid (F2.out.drew)
 go_still_tail 10,(by kernel_rfl)
 change wpList _ _ _ _ _ w2.drew
 go_wp2_with fail
 refine (HPL.out _ _ HD.out.m.lz).mono ?_;rintro e w3 ⟨rfl,rfl⟩
 have H3:=hid HD.out
 have F3:=hid FD.out
 obtain ⟨w3,hw3⟩:∃ w3,w2.drew=w3:=⟨_,rfl⟩
 rw [hw3] at H3 F3 ⊢
 clear HD FD H2 F2 hw3 htot htw HPL
 clear c3 c6 x1 x3 x4 y3 x0
 obtain ⟨c3,c6,x1,x3,x4,y3,x0⟩:=H3.out.cells
 go_upto_region 3 with fail
 have HD:=hid H3.out.drew
 have FD:Hid (Frm (Wr O2 k) w2 w3.drew):=hid (F3.out.drew)
 go_still_tail 14,(by kernel_rfl)
 change wpList _ _ _ _ _ w3.drew
 go_wp2_with fail
 refine (ibit_lz HD.out.m.lz (by have:=HC.out;omega) (8+st*16+p) k.sb (8+st*16+p) 1 _ rfl (by omega) P0.out.1 P0.out.2).mono ?_;rintro e w4 ⟨rfl,h0,f0⟩
 rw [HS1.out] at h0
 have H4:=hid (HD.out.lzStep h0 f0)
 have F4:=hid (FD.out.trans f0)
 clear h0 f0 HD FD H3 F3
 clear c3 c6 x1 x3 x4 y3 x0
 obtain ⟨c3,c6,x1,x3,x4,y3,x0⟩:=H4.out.cells
 go_wp2_with fail
 refine (index_num w4 k.sb 4 rep d _ HZ.out (fun j hj=>(H4.out.m.lz.rep_cell hj)) HDB.out).mono ?_;rintro e w5 ⟨rfl,hw5⟩
 subst hw5
 have hJ2:2≤J:=by omega
 have hJ3:J≤3:=by omega
 have j0:((J:Int) == -1)=false:=beq_eq_false_iff_ne.2 (by omega)
 have j1:((J:Int)==0)=false:=beq_eq_false_iff_ne.2 (by omega)
 have j2:((J:Int)==1)=false:=beq_eq_false_iff_ne.2 (by omega)
 obtain ⟨J2,hJ2e⟩:∃ J2,J-2=J2:=⟨_,rfl⟩
 have hJi:(J:Int)-2=(J2:Int):=by omega
 have hJw:IntKind.i64.wrap (J2:Int)=(J2:Int):=Go.IntWalk.i64_in _ (by omega)
 rw [hJ2e] at HS4
 have HJ:=hid (And.intro hJ2e (And.intro hJ2 hJ3))
 clear hJ hJ2 hJ3 hJ2e
 go_upto_region 7 with fail
 have HD:=hid H4.out.drew
 have FD:Hid (Frm (Wr O2 k) w2 w4.drew):=hid (F4.out.drew)
 go_still_tail 12,(by kernel_rfl)
 change wpList _ _ _ _ _ w4.drew
 go_wp2_with fail
 refine (ibit_lz HD.out.m.lz (by have:=HC.out;omega) (200+st) k.sb (200+st) 1 _ rfl (by omega) P1.out.1 P1.out.2).mono ?_;rintro e w5 ⟨rfl,h0,f0⟩
 rw [HS2.out] at h0
 have H5:=hid (HD.out.lzStep h0 f0)
 have F5:=hid (FD.out.trans f0)
 clear h0 f0 HD FD H4 F4
 clear c3 c6 x1 x3 x4 y3 x0
 obtain ⟨c3,c6,x1,x3,x4,y3,x0⟩:=H5.out.cells
 go_wp2_with fail
 refine (bits_lit O2 w5 k g b3 b6 A c bs shift pos st rep s2 H5.out hst [1,1,J2] (by simp) (by simp;have:=HJ.out;omega) (by have:=HC.out;omega)).mono ?_;rintro e w6 ⟨rfl,h0,f0⟩
 rw [HS4.out] at h0
 have H6:=hid h0
 have F6:=hid (F5.out.trans f0)
 clear h0 f0 H5 F5
 clear c3 c6 x1 x3 x4 y3 x0
 obtain ⟨c3,c6,x1,x3,x4,y3,x0⟩:=H6.out.cells
 go_wp2_with fail
 have HD:=H6
 have FD:=F6
 refine (take_num (IC.keep g.eb O2) 150 k st J _ rep _ _ (by first | rfl | omega) HD.out.m.lz (by first | omega | (have:=HJ.out;omega))).mono ?_;rintro e w7 ⟨rfl,h0,f0⟩
 have H7:=hid (HD.out.lzStep h0 f0)
 have F7:=hid (FD.out.trans f0)
 clear h0 f0 HD FD H6 F6
 clear c3 c6 x1 x3 x4 y3 x0
 obtain ⟨c3,c6,x1,x3,x4,y3,x0⟩:=H7.out.cells
 go_upto_region 25 with fail
 have HD:=hid H7.out.drew
 have FD:Hid (Frm (Wr O2 k) w2 w7.drew):=hid (F7.out.drew)
 go_still_tail 10,(by kernel_rfl)
 change wpList _ _ _ _ _ w7.drew
 go_wp2_with fail
 refine (lens_in g.eb O2 150 k _ _ _ 1354 size p _ HD.out.m.lz (.inr rfl) hp16 h2 hs (by have:=HC.out;omega)).mono ?_;rintro e w8 ⟨rfl,h0,f0⟩
 rw [HS5.out] at h0
 have H8:=hid (HD.out.lzStep h0 f0)
 have F8:=hid (FD.out.trans f0)
 clear h0 f0 HD FD H7 F7
 clear c3 c6 x1 x3 x4 y3 x0
 obtain ⟨c3,c6,x1,x3,x4,y3,x0⟩:=H8.out.cells
 go_wp2_with fail
 have HD:=H8
 have FD:=F8
 refine (behind_any (IC.keep g.eb O2) 150 k st 2 _ _ _ HD.out.m.lz hst (by omega)).mono ?_;rintro e w9 ⟨rfl,h0,f0⟩
 have H9:=hid (HD.out.lzStep h0 f0)
 have F9:=hid (FD.out.trans f0)
 clear h0 f0 HD FD H8 F8
 clear c3 c6 x1 x3 x4 y3 x0
 obtain ⟨c3,c6,x1,x3,x4,y3,x0⟩:=H9.out.cells
 have z3:=H9.out.m.p.frozen 3
 have HMV:=hid (H9.out.m.move pe)
 go_wp2
 go_end0
 refine ⟨rfl,?_,?_⟩
 ·exact HMV.out.1.widen HH.out HO2.out (Nat.le_trans F20.out.size (Nat.le_trans F9.out.size HMV.out.2.size))
 refine (F20.out.mono fun q _ e=>e.elim).trans ((F9.out.mono fun q _ e=>?_).trans (HMV.out.2.mono fun q _ e=>?_))
 ·rcases e with e | e
  ·exact .inl (.inl (HO2.out q e))
  exact .inl (.inr e)
 rcases e with (e | e) | e
 ·exact .inl (.inl (HO2.out q e))
 ·exact .inl (.inr e)
 exact .inr e
end Go.Proofs.YtablgjhnpphodaaGreat
