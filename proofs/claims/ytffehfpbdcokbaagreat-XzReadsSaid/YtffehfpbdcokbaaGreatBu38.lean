import Derived.Test.YtffehfpbdcokbaaGreatBu32
import Derived.Test.YtffehfpbdcokbaaGreatBu36
import Derived.Test.YtffehfpbdcokbaaGreatBu37
set_option linter.unusedVariables false
set_option linter.unusedSimpArgs false
namespace Go.Proofs.YtffehfpbdcokbaaGreat
open Lib (hid)
open Go.RowKit Rng Win Lz Box
section
variable {w0 w w' : World} {K mb : Nat} {A : Option Addr} {bs : List UInt8} {c at' : Nat} {kind : Int} {recs : List (Nat × Nat)} {ov lv : Value} {out : List UInt8}
theorem XmAt.put (h:XmAt w0 w K mb A bs c at' kind recs ov lv out) {v:Value} {t:List UInt8} (ho:OwnB w' 5 K v (out++t)) (hf:Frm (fun k=>ov.ownBlock=some k) w w') (hn:v.ownBlock=ov.ownBlock∨v.ownBlock=some w.heap.size) (hl:(out++t).length≤16777216) :
 XmAt w0 (w'.setCell ⟨mb,3,none⟩ v) K mb A bs c at' kind recs v lv (out++t):=by
 have hmb:=Pts.lt h.p
 have hS:Frm (· = mb) w' (w'.setCell ⟨mb,3,none⟩ v):=(Frm.refl (· = mb) w').setCell (p:=⟨mb,3,none⟩) rfl _
 have hvb:v.ownBlock≠some mb:=by
  rcases hn with e | e
  ·rw [e];exact h.nb.1
  rw [e];intro e2;have:=Option.some.inj e2;omega
 have hw:Frm (fun k=>ov.ownBlock=some k∨k=mb) w (w'.setCell ⟨mb,3,none⟩ v):=(hf.mono (fun k _ e=>.inl e)).setCell (p:=⟨mb,3,none⟩) (.inr rfl) v
 refine ⟨(h.p.frm hf h.nb.1).set 3 v,ho.frm hS (fun q hq e=>hvb (e▸hq)),h.l.frm hw ?_,?_,⟨hvb,h.nb.2⟩,h.ge,h.b.trans (hw.below h.kz ?_),Nat.le_trans h.kz hw.size,hl⟩
 ·rintro q hq (e | e)
  ·exact h.ne q e hq
  subst e;exact h.nb.2 hq
 ·intro q hq e
  rcases hn with e2 | e2
  ·exact h.ne q (e2▸hq) e
  rw [e2] at hq
  have:=Option.some.inj hq
  have:=(h.l.lt e).2
  omega
 rintro q (e | e)
 ·exact (h.o.lt e).1
 subst e;exact h.ge
theorem XmAt.recPut (h:XmAt w0 w K mb A bs c at' kind recs ov lv out) {v:Value} {r:Nat×Nat} (o:Obj) (ho:OwnPr w' 192 K v (recs++[r])) (hf:Frm (fun k=>lv.ownBlock=some k) (w.alloc o) w') (hn:v.ownBlock=lv.ownBlock∨v.ownBlock=some (w.heap.size+1)) :
 XmAt w0 (w'.setCell ⟨mb,4,none⟩ v) K mb A bs c at' kind (recs++[r]) ov v out:=by
 have hmb:=Pts.lt h.p
 have hS:Frm (· = mb) w' (w'.setCell ⟨mb,4,none⟩ v):=(Frm.refl (· = mb) w').setCell (p:=⟨mb,4,none⟩) rfl _
 have hvb:v.ownBlock≠some mb:=by
  rcases hn with e | e
  ·rw [e];exact h.nb.2
  rw [e];intro e2;have:=Option.some.inj e2;omega
 have hf0:Frm (fun k=>lv.ownBlock=some k) w w':=((Frm.refl _ w).alloc o).trans hf
 have hw:Frm (fun k=>lv.ownBlock=some k∨k=mb) w (w'.setCell ⟨mb,4,none⟩ v):=(hf0.mono (fun k _ e=>.inl e)).setCell (p:=⟨mb,4,none⟩) (.inr rfl) v
 refine ⟨(h.p.frm hf0 h.nb.2).set 4 v,h.o.frm hw ?_,ho.frm hS (fun q hq e=>hvb (e▸hq)),?_,⟨h.nb.1,hvb⟩,h.ge,h.b.trans (hw.below h.kz ?_),Nat.le_trans h.kz hw.size,h.om⟩
 ·rintro q hq (e | e)
  ·exact h.ne q hq e
  subst e;exact h.nb.1 hq
 ·intro q hq e
  rcases hn with e2 | e2
  ·exact h.ne q hq (e2▸e)
  rw [e2] at e
  have:=Option.some.inj e
  have:=(h.o.lt hq).2
  omega
 rintro q (e | e)
 ·exact (h.l.lt e).1
 subst e;exact h.ge
end
theorem up_end {S most:Nat} {bs:List UInt8} {w w':World} {e:Ending} (h:UpEnd S most bs w e w') {T:List UInt8} {R:Nat ⊕ List UInt8} (hD:d2P S most bs=(T,R)) :
 ∃ (Ax:Option Addr) (cx u z:Nat),e=.returned (.tuple #[.slice Ax T.length cx,.int .i64 (u:Int),.int .i64 (z:Int)])∧OwnB w' 5 w.heap.size (.slice Ax T.length cx) T∧Below w.heap.size w w'∧(z≠0→R=.inl z)∧(z=0→1≤u∧u≤bs.length∧R=.inr (bs.drop u)):=by
 obtain ⟨v,h1,h2,h3⟩:=h
 rw [hD] at h1 h3
 obtain ⟨Ax,cx,rfl,-,-,-⟩:=h1.slice
 cases R with
 | inl z =>
  obtain ⟨hz,he⟩:=h3
  exact ⟨Ax,cx,0,z,he,h1,h2,fun _=>rfl,fun k=>absurd k hz⟩
 | inr r =>
  obtain ⟨hl,he⟩:=h3
  obtain ⟨p,hp,hp1,-⟩:=d2P_front hD
  have e1:bs.length-r.length=p.length:=by rw [hp,List.length_append];omega
  refine ⟨Ax,cx,p.length,0,by rw [he,e1];rfl,h1,h2,fun k=>absurd rfl k,fun _=>⟨hp1,by rw [hp,List.length_append];omega,?_⟩⟩
  rw [hp,List.drop_left]
def BlkD (w0:World) (K mb:Nat) (A:Option Addr) (bs:List UInt8) (c at':Nat) (kind:Int) (recs:List (Nat×Nat)) (lv:Value) (out:List UInt8) (E:BlkE) (e:Ending) (w':World):Prop :=
 match E with
 | .err z o=>z≠0∧e=.returned (.int .i64 (z:Int))∧∃ at2 ov',XmAt w0 w' K mb A bs c at2 kind recs ov' lv (out++o)
 | .ok o r rest=>e=.returned (.int .i64 0)∧∃ at2 ov' lv',at'<at2∧at2≤bs.length∧rest=bs.drop at2∧XmAt w0 w' K mb A bs c at2 kind (recs++[r]) ov' lv' (out++o)
section
variable {w0 w w' : World} {K mb : Nat} {A : Option Addr} {bs : List UInt8} {c at' : Nat} {kind : Int} {recs : List (Nat × Nat)} {ov lv : Value} {out : List UInt8}
theorem blkd_err {at2 z:Nat} {ov':Value} {o:List UInt8} {E:BlkE} (hE:E=.err z o) (hz:z≠0) (h:XmAt w0 w' K mb A bs c at2 kind recs ov' lv (out++o)):BlkD w0 K mb A bs c at' kind recs lv out E (.returned (.int .i64 (z:Int))) w':=by
 subst hE
 exact ⟨hz,rfl,_,_,h⟩
theorem blkd_err0 {at2 z:Nat} {ov':Value} {E:BlkE} (hE:E=.err z []) (hz:z≠0) (h:XmAt w0 w' K mb A bs c at2 kind recs ov' lv out):BlkD w0 K mb A bs c at' kind recs lv out E (.returned (.int .i64 (z:Int))) w' :=
 blkd_err hE hz (by rw [List.append_nil];exact h)
theorem blkd_ok {at2:Nat} {ov' lv':Value} {o rest:List UInt8} {r:Nat×Nat} {E:BlkE} (hE:E=.ok o r rest) (h1:at'<at2) (h2:at2≤bs.length) (h3:rest=bs.drop at2) (h:XmAt w0 w' K mb A bs c at2 kind (recs++[r]) ov' lv' (out++o)):BlkD w0 K mb A bs c at' kind recs lv out E (.returned (.int .i64 0)) w':=by
 subst hE
 exact ⟨rfl,_,_,_,h1,h2,h3,h⟩
set_option maxRecDepth 100000 in
set_option maxHeartbeats 8000000 in
theorem block_d (bud:Nat) (h:XmAt w0 w K mb A bs c at' kind recs ov lv out) (hrow:BRow w0 K A bs) (hcap:bs.length≤c∧bs.length≤1000000∧c≤maxLen) (hat:at'≤bs.length) (hbud:bud≤16777216) (hrec:recs.length≤at') :
 Calls Tryz.prog 54 #[.pointer (some ⟨mb,0,none⟩),.int .i64 (bud:Int)] w (BlkD w0 K mb A bs c at' kind recs lv out (xBlock bud kind out.length (bs.drop at'))):=by
 obtain ⟨E,hE⟩:∃ E,xBlock bud kind out.length (bs.drop at')=E:=⟨_,rfl⟩
 rw [hE]
 obtain ⟨LB,hLB⟩:∃ L,bs.length=L:=⟨_,rfl⟩
 obtain ⟨m,hm⟩:∃ m,LB-at'=m:=⟨_,rfl⟩
 have hdl:(bs.drop at').length=m:=by rw [List.length_drop,hLB];exact hm
 rw [hLB] at hcap hat
 have hsl:=fun w=>slice_dropD A LB c at' m (by omega) hcap.1 w
 have hr2:BRow w K (if c=at' then A else A.map (·.add at')) (bs.drop at'):=(hrow.below h.b).drop (by omega)
 obtain ⟨A2,hA2⟩:∃ a,(if c=at' then A else A.map (·.add at'))=a:=⟨_,rfl⟩
 rw [hA2] at hsl hr2
 have HBLK:=hid (rblock_p A2 (bs.drop at') m (c-at') w.drew hdl.symm (by omega) (by unfold maxLen at *;omega) ((hr2.drewN 1).more (show K≤w.drew.heap.size from h.kz)))
 obtain ⟨s,n',p,q,er,hblk⟩:=blockOf_in (bs.drop at')
 rw [hblk] at HBLK
 unfold BlkPost blkV at HBLK
 simp only at HBLK
 obtain ⟨c1,hc1⟩:∃ a,c-at'=a:=⟨_,rfl⟩
 rw [hc1] at HBLK hsl
 obtain ⟨Ao,co,hov,-,-,-⟩:=h.o.slice
 obtain ⟨Lo,hLo⟩:∃ L,out.length=L:=⟨_,rfl⟩
 rw [hLo] at hov hE
 subst hov
 obtain ⟨Al,cl,hlv,-,-,-⟩:=h.l.slice
 obtain ⟨Ll,hLl⟩:∃ L,recs.length=L:=⟨_,rfl⟩
 rw [hLl] at hlv hrec
 subst hlv
 have hom:=h.om
 rw [hLo] at hom
 obtain ⟨d0,d1,-,d3,-⟩:=h.cells
 rw [hLB] at d0
 have f1:=h.fz 1
 have HH:=hid h
 have HE:=hid hE
 have HLB:=hid (And.intro hLB (And.intro hLo hLl))
 have HB:=hid (And.intro hcap (And.intro hat (And.intro hdl (And.intro hm (And.intro hbud (And.intro hrec hom))))))
 have HROW:=hid hrow
 have HK:=hid hblk
 clear h hrow hcap hat hbud hrec hE hm hdl hr2 hA2 hc1 hLB hLo hLl hblk hom
 by_cases he:er=0
 ·subst he
  have HOK:=hid (blockOf_okD (src:=bs.drop at') (by rw [HK.out];rfl))
  have hn1:n'=hdLen (bs.drop at'):=by have:=HOK.out.1;rw [HK.out] at this;exact this
  have hEo:=HE.out
  rw [xBlock_ok (by rw [HK.out];rfl),HK.out,← hn1] at hEo
  have HN1:=hid hn1
  clear hn1 HE
  by_cases hbs:bud<s
  ·have XE:Hid (E=.err 40 []):=hid (by rw [← hEo];exact xBody_budD rfl (Int.ofNat_lt.2 hbs))
   have qb:decide (bud<s)=true:=decide_eq_true hbs
   have qb2:(bud:Int)<(s:Int):=by omega
   clear hEo hbs
   go_enter Tryz.func54,Tryz.ntmps54
   go_upto_region 1 with fail
   refine wp_region_stc 9 (by kernel_rfl) (by kernel_rfl) ?_
   simp only [List.take_succ_cons,List.take_zero,List.drop_succ_cons,List.drop_zero]
   repeat still_step
   refine wpStill_nil ?_
   change wpList _ _ _ _ _ w.drew
   go_wp2_with fail
   refine HBLK.out.mono ?_;rintro e w2 ⟨rfl,hb2⟩
   have HM:=hid ((HH.out.drewN 1).still hb2)
   clear hb2
   go_wp2_with fail
   change wpStill _ _ _ _ _ _
   repeat still_step
   refine wpStill_nil ?_
   go_wp2
   go_ret
   exact blkd_err0 XE.out (by decide) HM.out
  have qb:decide (bud<s)=false:=decide_eq_false hbs
  have qb2:(s:Int)≤(bud:Int):=by omega
  rw [xBody_d2 rfl (fun k=>hbs (Int.ofNat_lt.1 k))] at hEo
  obtain ⟨a1,ha1⟩:∃ a,at'+n'=a:=⟨_,rfl⟩
  have hn2:=HOK.out.2
  rw [← HN1.out,HB.out.2.2.1] at hn2
  have HA1:Hid (at'+n'=a1∧a1≤LB∧4≤n'∧n'≤m):=hid ⟨ha1,by have:=HB.out.2.2.2.1;have:=HB.out.2.1;omega,by rw [HN1.out];exact hdLen_pos _,hn2⟩
  have y1:(at':Int)+(n':Int)=(a1:Int):=by omega
  have y2:IntKind.i64.wrap (a1:Int)=(a1:Int):=Go.IntWalk.i64_in _ (by have:=HA1.out.2.1;have:=HB.out.1;omega)
  obtain ⟨m1,hm1⟩:∃ m1,LB-a1=m1:=⟨_,rfl⟩
  have hsl1:=fun w=>slice_dropD A LB c a1 m1 (by have:=HA1.out.2.1;omega) HB.out.1.1 w
  have hdr1:(bs.drop at').drop n'=bs.drop a1:=by rw [List.drop_drop,ha1]
  have hrw1:BRow w0 K (if c=a1 then A else A.map (·.add a1)) (bs.drop a1):=HROW.out.drop (by have:=HB.out.1;have:=HLB.out.1;omega)
  obtain ⟨A3,hA3⟩:∃ a,(if c=a1 then A else A.map (·.add a1))=a:=⟨_,rfl⟩
  rw [hA3] at hsl1 hrw1
  obtain ⟨S,hS⟩:∃ S,max s 4096=S:=⟨_,rfl⟩
  have hSi:max (s:Int) 4096=(S:Int):=by omega
  have g1:=fun w=>Fnd.max2_int (P:=Tryz.prog) #[3,3] 3 _ _ _ hSi w
  obtain ⟨MO,hMO⟩:∃ M,16777216-Lo=M:=⟨_,rfl⟩
  have y3:(16777216:Int)-(Lo:Int)=(MO:Int):=by have:=HB.out.2.2.2.2.2.2;omega
  have y4:IntKind.i64.wrap (MO:Int)=(MO:Int):=Go.IntWalk.i64_in _ (by omega)
  obtain ⟨cc1,hcc1⟩:∃ a,c-a1=a:=⟨_,rfl⟩
  rw [hcc1] at hsl1
  have hm1l:(bs.drop a1).length=m1:=by rw [List.length_drop,HLB.out.1];exact hm1
  have HRW1:Hid (BRow w0 K A3 (bs.drop a1)∧m1=(bs.drop a1).length∧m1≤cc1∧cc1≤maxLen∧m1≤1000000∧1≤S∧S≤16777216∧MO≤16777216∧16777216-Lo=MO):=hid ⟨hrw1,hm1l.symm,by have:=HB.out.1;omega,by have:=HB.out.1;unfold maxLen at *;omega,by have:=HB.out.1;omega,by omega,by have:=HB.out.2.2.2.2.1;omega,by omega,hMO⟩
  rw [show ((s:Int)).toNat=s from rfl,hS,hMO,hdr1] at hEo
  obtain ⟨T,R,hD⟩:∃ T R,d2P S MO (bs.drop a1)=(T,R):=⟨_,_,rfl⟩
  have hTl:=d2P_len S MO (bs.drop a1)
  rw [hD] at hTl
  obtain ⟨LT,hLT⟩:∃ L,T.length=L:=⟨_,rfl⟩
  have HD:=hid (And.intro hD (And.intro hLT (show T.length≤MO from hTl)))
  rw [hD] at hEo
  have HEO:=hid hEo
  clear hTl hLT hD
  clear hEo ha1 hm1 hdr1 hrw1 hA3 hS hSi hMO hcc1 hm1l hn2 hbs
  go_enter Tryz.func54,Tryz.ntmps54
  go_upto_region 1 with fail
  refine wp_region_stc 9 (by kernel_rfl) (by kernel_rfl) ?_
  simp only [List.take_succ_cons,List.take_zero,List.drop_succ_cons,List.drop_zero]
  repeat still_step
  refine wpStill_nil ?_
  change wpList _ _ _ _ _ w.drew
  go_wp2_with fail
  refine HBLK.out.mono ?_;rintro e w2 ⟨rfl,hb2⟩
  have hM2:=(HH.out.drewN 1).still hb2
  obtain ⟨e0,e1,-,e3,-⟩:=hM2.cells
  rw [HLB.out.1] at e0
  have ef1:=hM2.fz 1
  have hM3:=hM2.move a1
  obtain ⟨k0,k1,-,k3,-⟩:=hM3.cells
  rw [HLB.out.1] at k0
  have HM3:=hid hM3
  obtain ⟨W3,hW3⟩:∃ W,w2.setCell ⟨mb,1,none⟩ (.int .i64 (a1:Int))=W:=⟨_,rfl⟩
  rw [hW3] at HM3 k0 k1 k3
  have HW3:=hid hW3
  clear hb2 hM2 hM3 hW3 d0 d1 d3 f1
  go_wp2_with fail
  change wpStill _ _ _ _ _ _
  repeat still_step
  refine wpStill_nil ?_
  go_upto_region 8 with fail
  rw [HW3.out]
  have HUP:=hid (up_p A3 (bs.drop a1) m1 cc1 S MO W3.drew HRW1.out.2.1 (((HRW1.out.1.below HM3.out.b).drewN 1).more HM3.out.kz) HRW1.out.2.2.1 HRW1.out.2.2.2.1 (by have:=HRW1.out.2.2.2.2.1;omega) ⟨HRW1.out.2.2.2.2.2.1,HRW1.out.2.2.2.2.2.2.1⟩ HRW1.out.2.2.2.2.2.2.2.1)
  refine wp_region_stc 17 (by kernel_rfl) (by kernel_rfl) ?_
  simp only [List.take_succ_cons,List.take_zero,List.drop_succ_cons,List.drop_zero]
  repeat still_step
  refine wpStill_nil ?_
  change wpList _ _ _ _ _ W3.drew
  go_wp2_with fail
  refine HUP.out.mono ?_;rintro e w4 hup
  obtain ⟨Ax,cx,u,z,rfl,hv,hb4,hz1,hz0⟩:=up_end hup HD.out.1
  rw [HD.out.2.1] at hv ⊢
  have HM4:=hid ((HM3.out.drewN 1).still hb4)
  have HV4:=hid hv
  have HZ4:=hid (And.intro hz1 (And.intro hz0 (show W3.heap.size≤w4.heap.size from hb4.size)))
  obtain ⟨j0,j1,-,j3,-⟩:=HM4.out.cells
  rw [HLB.out.1] at j0
  have jf3:=HM4.out.fz 3
  clear hup hv hb4 hz1 hz0 k0 k1 k3 e0 e1 e3 ef1
  go_wp2_with fail
  change wpStill _ _ _ _ _ _
  repeat still_step
  refine wpStill_nil ?_
  obtain ⟨Ay,cy,hy,-,-,hyr⟩:=HV4.out.slice
  rw [HD.out.2.1] at hy
  injection hy with hy1 _ hy2
  subst hy1;subst hy2
  go_wp2_with (at_builtin;refine wpList_append_bytes _ rfl (.tmp 78) (.tmp 79) 22 rfl 5 K Tryz.underlying22 Tryz.info_u8 (.slice Ao Lo co) out rfl ?own9 Ax LT cx w4.heap.size T rfl ?lenn9 ?row9 ?len9 ?base9 ?next9)
  case own9=>exact HM4.out.o
  case lenn9=>exact HD.out.2.1.symm
  case len9=>have:=HM4.out.om;have:=HD.out;have:=HRW1.out.2.2.2.2.2.2.2.1;omega
  case base9=>exact HM4.out.kz
  case next9 =>
  intro v5 w5 hown5 hfrm5 hnew5
  have hlt5:(out++T).length≤16777216:=by rw [List.length_append];have:=HLB.out;have:=HD.out.2;have:=HRW1.out.2.2.2.2.2.2.2.2;have:=HB.out.2.2.2.2.2.2;omega
  have hM6:=HM4.out.put hown5 hfrm5 hnew5 hlt5
  obtain ⟨A5,c5,hv5,-,-,-⟩:=hown5.slice
  obtain ⟨L5,hL5⟩:∃ L,(out++T).length=L:=⟨_,rfl⟩
  rw [hL5] at hv5
  subst hv5
  have hV6:OwnB (w5.setCell ⟨mb,3,none⟩ (.slice A5 L5 c5)) 5 W3.heap.size (.slice Ax LT cx) T:=by
   refine (HV4.out.frm hfrm5 (fun q hq e=>?_)).other (p:=⟨mb,3,none⟩) (fun e=>?_) _
   ·have h1:=(HV4.out.lt hq).1
    have h2:=(HM3.out.o.lt e).2
    have h3:W3.drew.heap.size=W3.heap.size:=rfl
    omega
   have h1:W3.heap.size≤mb:=(HV4.out.lt e).1
   have h2:=Pts.lt HM3.out.p
   have h3:W3.drew.heap.size=W3.heap.size:=rfl
   omega
  have g3:w5.frozen? ⟨mb,3,none⟩=false:=(HM4.out.p.frm hfrm5 HM4.out.nb.1).frozen 3
  have g33:w5.cell? ⟨mb,3,none⟩=some (.slice Ao Lo co):=((HM4.out.p.frm hfrm5 HM4.out.nb.1).cell 3)
  obtain ⟨W6,hW6⟩:∃ W,w5.setCell ⟨mb,3,none⟩ (.slice A5 L5 c5)=W:=⟨_,rfl⟩
  have HW6:=hid hW6
  rw [hW6] at hM6 hV6
  have HM6:=hid hM6
  have HV6:=hid hV6
  obtain ⟨i0,i1,i2,i3,i4⟩:=hM6.cells
  rw [HLB.out.1] at i0
  have if1:=hM6.fz 1
  clear hown5 hfrm5 hnew5 hlt5 hL5 hM6 hV6 hW6 hyr j0 j1 j3
  by_cases hz:z=0
  ·subst hz
   obtain ⟨hu1,hu2,hR⟩:=HZ4.out.2.1 rfl
   obtain ⟨a2,ha2⟩:∃ a,a1+u=a:=⟨_,rfl⟩
   have hdd:(bs.drop a1).drop u=bs.drop a2:=by rw [List.drop_drop,ha2]
   have HE2:Hid (E=xTail ((s:Int),n',p,q,((0:Nat):Int)) kind n' u T (bs.drop a2)):=hid (by
    rw [← HEO.out,hR,← hdd]
    show xTail _ _ _ ((bs.drop a1).length-((bs.drop a1).drop u).length) _ _=_
    have:(bs.drop a1).length-((bs.drop a1).drop u).length=u:=by rw [List.length_drop (i:=u)];omega
    rw [this])
   have HA2:Hid (a1+u=a2∧a2≤LB∧1≤u):=hid ⟨ha2,by have:=HRW1.out.2.1;have:=HLB.out.1;rw [List.length_drop] at *;have:=HA1.out;omega,hu1⟩
   clear hu1 hu2 hR ha2 hdd
   obtain ⟨β,hβ⟩:∃ β:Bool,decide ((p≠M64'∧p≠u)∨(q≠M64'∧q≠LT))=β:=⟨_,rfl⟩
   have Hβ:=hid hβ
   clear hβ
   have yu:IntKind.u64.wrap (u:Int)=(u:Int):=Go.IntWalk.u64_in _ (by have:=HA2.out;have:=HB.out.1;omega)
   have yl:IntKind.u64.wrap (LT:Int)=(LT:Int):=Go.IntWalk.u64_in _ (by have:=HD.out;have:=HRW1.out.2.2.2.2.2.2.2.1;omega)
   go_upto_region 12 with fail
   rw [HW6.out]
   go_cut [104] from 220 (fun v wx=>v=.bool β∧wx=W6)
   case first =>
    have hb:=Hβ.out
    by_cases p1:p=M64'
    ·have pp:((p:Int) != 18446744073709551615)=false:=by rw [p1];rfl
     by_cases q1:q=M64'
     ·have qq:((q:Int) != 18446744073709551615)=false:=by rw [q1];rfl
      rw [decide_eq_false (by rintro (k | k);exact k.1 p1;exact k.1 q1)] at hb
      subst hb
      clear p1 q1
      go_wp2
      go_meet
      case rel=>exact ⟨rfl,rfl⟩
     have qq:((q:Int) != 18446744073709551615)=true:=by rw [bne_iff_ne];intro e;exact q1 (Int.ofNat.inj e)
     by_cases q2:q=LT
     ·have qr:((q:Int) != (LT:Int))=false:=by rw [q2];exact bne_self_eq_false _
      rw [decide_eq_false (by rintro (k | k);exact k.1 p1;exact k.2 q2)] at hb
      subst hb
      clear p1 q1 q2
      go_wp2
      go_meet
      case rel=>exact ⟨rfl,rfl⟩
     have qr:((q:Int) != (LT:Int))=true:=by rw [bne_iff_ne];omega
     rw [decide_eq_true (.inr ⟨q1,q2⟩)] at hb
     subst hb
     clear p1 q1 q2
     go_wp2
     go_meet
     case rel=>exact ⟨rfl,rfl⟩
    have pp:((p:Int) != 18446744073709551615)=true:=by rw [bne_iff_ne];intro e;exact p1 (Int.ofNat.inj e)
    by_cases p2:p=u
    ·have pr:((p:Int) != (u:Int))=false:=by rw [p2];exact bne_self_eq_false _
     by_cases q1:q=M64'
     ·have qq:((q:Int) != 18446744073709551615)=false:=by rw [q1];rfl
      rw [decide_eq_false (by rintro (k | k);exact k.2 p2;exact k.1 q1)] at hb
      subst hb
      clear p1 p2 q1
      go_wp2
      go_meet
      case rel=>exact ⟨rfl,rfl⟩
     have qq:((q:Int) != 18446744073709551615)=true:=by rw [bne_iff_ne];intro e;exact q1 (Int.ofNat.inj e)
     by_cases q2:q=LT
     ·have qr:((q:Int) != (LT:Int))=false:=by rw [q2];exact bne_self_eq_false _
      rw [decide_eq_false (by rintro (k | k);exact k.2 p2;exact k.2 q2)] at hb
      subst hb
      clear p1 p2 q1 q2
      go_wp2
      go_meet
      case rel=>exact ⟨rfl,rfl⟩
     have qr:((q:Int) != (LT:Int))=true:=by rw [bne_iff_ne];omega
     rw [decide_eq_true (.inr ⟨q1,q2⟩)] at hb
     subst hb
     clear p1 p2 q1 q2
     go_wp2
     go_meet
     case rel=>exact ⟨rfl,rfl⟩
    have pr:((p:Int) != (u:Int))=true:=by rw [bne_iff_ne];omega
    rw [decide_eq_true (.inl ⟨p1,p2⟩)] at hb
    subst hb
    clear p1 p2
    go_wp2
    go_meet
    case rel=>exact ⟨rfl,rfl⟩
   case rest =>
   obtain ⟨rfl,hwx⟩:=hcut
   subst hwx
   obtain ⟨W6,hw6⟩:∃ W,W=wc:=⟨_,rfl⟩
   subst hw6
   have i1:=HM6.out.cells.2.1
   have if1:=HM6.out.fz 1
   cases β with
   | true =>
    have XE:Hid (E=.err 11 T):=hid (by
     rw [HE2.out]
     unfold xTail
     rw [if_pos (by rw [HD.out.2.1];exact of_decide_eq_true Hβ.out)])
    go_wp2
    go_ret
    exact blkd_err XE.out (by decide) HM6.out
   | false =>
    have HE3:Hid (E=if (bs.drop a2).length<padOf (n'+u)+chkLen kind then .err 10 T
     else if (bs.drop a2).take (padOf (n'+u))≠List.replicate (padOf (n'+u)) 0∨((bs.drop a2).drop (padOf (n'+u))).take (chkLen kind)≠chkB kind T then .err 11 T
     else .ok T (n'+u+chkLen kind,T.length) ((bs.drop a2).drop (padOf (n'+u)+chkLen kind))):=hid (by
     rw [HE2.out]
     unfold xTail
     rw [if_neg (by rw [HD.out.2.1];exact of_decide_eq_false Hβ.out)])
    obtain ⟨pad,hpad⟩:∃ x,padOf (n'+u)=x:=⟨_,rfl⟩
    obtain ⟨HU,hHU⟩:∃ x,n'+u=x:=⟨_,rfl⟩
    have x1:(n':Int)+(u:Int)=(HU:Int):=by omega
    have x2:IntKind.i64.wrap (HU:Int)=(HU:Int):=Go.IntWalk.i64_in _ (by have:=HA1.out;have:=HA2.out;have:=HB.out;omega)
    obtain ⟨r4,hr4⟩:∃ r,HU % 4=r:=⟨_,rfl⟩
    have x3:(HU:Int) % 4=(r4:Int):=by omega
    obtain ⟨s4,hs4⟩:∃ r,4-r4=r:=⟨_,rfl⟩
    have x4:(4:Int)-(r4:Int)=(s4:Int):=by omega
    have x5:(s4:Int) % 4=(pad:Int):=by rw [← hpad,hHU];unfold padOf;omega
    have x6:r4<4:=by omega
    have x7:s4≤4:=by omega
    have x8:IntKind.i64.wrap (s4:Int)=(s4:Int):=Go.IntWalk.i64_in _ (by omega)
    obtain ⟨CL,hCL⟩:∃ x,chkLen kind=x:=⟨_,rfl⟩
    obtain ⟨ck,hck⟩:∃ x,chkB kind T=x:=⟨_,rfl⟩
    have hckl:ck.length=CL:=by rw [← hck,← hCL];exact chkB_len _ _
    have hCL8:CL≤8:=by rw [← hCL];exact chkLen_le _
    have hp4:pad<4:=by rw [← hpad];unfold padOf;omega
    obtain ⟨m2,hm2⟩:∃ x,LB-a2=x:=⟨_,rfl⟩
    have x9:(LB:Int)-(a2:Int)=(m2:Int):=by have:=HA2.out;omega
    have x10:IntKind.i64.wrap (m2:Int)=(m2:Int):=Go.IntWalk.i64_in _ (by have:=HB.out;omega)
    obtain ⟨pc,hpc⟩:∃ x,pad+CL=x:=⟨_,rfl⟩
    have x11:(pad:Int)+(CL:Int)=(pc:Int):=by omega
    have x12:IntKind.i64.wrap (pc:Int)=(pc:Int):=Go.IntWalk.i64_in _ (by omega)
    have x13:(a1:Int)+(u:Int)=(a2:Int):=by have:=HA2.out.1;omega
    have x14:IntKind.i64.wrap (a2:Int)=(a2:Int):=Go.IntWalk.i64_in _ (by have:=HA2.out;have:=HB.out;omega)
    have HP:=hid (And.intro hpad (And.intro hHU (And.intro hCL (And.intro hck (And.intro hckl (And.intro hCL8 (And.intro hp4 (And.intro hm2 hpc))))))))
    have hM7:=HM6.out.move a2
    obtain ⟨W7,hW7⟩:∃ W,W6.setCell ⟨mb,1,none⟩ (.int .i64 (a2:Int))=W:=⟨_,rfl⟩
    have hV7:OwnB W7 5 W3.heap.size (.slice Ax LT cx) T:=by
     rw [← hW7]
     refine HV6.out.other (p:=⟨mb,1,none⟩) (fun e=>?_) _
     have h1:W3.heap.size≤mb:=(HV6.out.lt e).1
     have h2:=Pts.lt HM3.out.p
     omega
    rw [hW7] at hM7
    obtain ⟨A7,c7,hv7,-,-,hrw7⟩:=hV7.slice
    rw [HD.out.2.1] at hv7
    injection hv7 with e1 _ e2
    subst e1;subst e2
    have HSUM:=hid (msum_d mb W7.heap.size kind Ax T LT cx W7 hM7.cells.2.2.1 HD.out.2.1.symm hrw7 (by have:=HD.out;have:=HRW1.out.2.2.2.2.2.2.2.1;omega) (Nat.le_refl _))
    have HM7:=hid hM7
    have HW7:=hid hW7
    clear hpad hHU hr4 hs4 hCL hck hckl hCL8 hp4 hm2 hpc hM7 hW7 hV7 hrw7
    go_upto_region 15 with fail
    rw [HW7.out]
    go_wp2_with fail
    refine HSUM.out.mono ?_;rintro e w8 ⟨v8,rfl,hv8,hb8⟩
    rw [HP.out.2.2.2.1] at hv8
    obtain ⟨Ac,cc,hvc,-,-,-⟩:=hv8.slice
    rw [HP.out.2.2.2.2.1] at hvc
    subst hvc
    have HV8:=hid hv8
    have HM8:=hid (HM7.out.still hb8)
    obtain ⟨b0,b1,-,-,-⟩:=HM8.out.cells
    rw [HLB.out.1] at b0
    clear hv8 hb8 HSUM i0 i1 i2 i3 i4 if1
    by_cases hsh:m2<pc
    ·have z1:decide (m2<pc)=true:=decide_eq_true hsh
     have XE:Hid (E=.err 10 T):=hid (by
      rw [HE3.out,if_pos (by rw [List.length_drop,HLB.out.1,HP.out.1,HP.out.2.2.1];have:=HP.out;omega)])
     clear hsh
     go_upto_region 17 with fail
     go_quiet (fail)
     go_wp2
     go_ret
     exact blkd_err XE.out (by decide) (HM8.out.drewN _)
    have z1:decide (m2<pc)=false:=decide_eq_false hsh
    have HSH:=hid hsh
    clear hsh
    go_upto_region 17 with fail
    go_quiet (fail)
    clear b0 b1
    simp only [x5]
    (try clear hsl);(try clear hsl1);(try clear qb);(try clear qb2);(try clear y1);(try clear y2);(try clear y3);(try clear y4);(try clear g1);(try clear d0);(try clear d1);(try clear d3);(try clear f1);(try clear yu);(try clear jf3);(try clear g3);(try clear g33);(try clear x1);(try clear x2);(try clear x3);(try clear x4);(try clear x5);(try clear x6);(try clear x7);(try clear x8);(try clear x9);(try clear x10);(try clear x11);(try clear x12);(try clear x13);(try clear x14);(try clear z1)
    go_wp2
    go_loopw [15] (fun iv wr=>∃ i:Nat,iv=.int .i64 (i:Int)∧i≤pad∧Hid (XmAt w0 wr K mb A bs c a2 kind recs (.slice A5 L5 c5) (.slice Al Ll cl) (out++T)∧Below w8.heap.size w8 wr∧(bs.drop a2).take i=List.replicate i 0)) (fun iv _=>pad-(intOf iv).toNat)
    case atStart=>exact ⟨0,rfl,Nat.zero_le _,hid ⟨HM8.out.drewN _,below_drewN (Below.refl _ _) _,by simp⟩⟩
    case round =>
    obtain ⟨i,rfl,hi,HR⟩:=hrel
    obtain ⟨b0,b1,-,-,-⟩:=HR.out.1.cells
    rw [HLB.out.1] at b0
    by_cases hlt:i<pad
    ·have q1:(i:Int)<(pad:Int):=by omega
     obtain ⟨rb,ro,hA,-,hcell⟩:=(HROW.out.below HR.out.1.b) (by have:=HLB.out.1;have:=HP.out;have:=HSH.out;omega)
     subst hA
     obtain ⟨ai,hai⟩:∃ a,a2+i=a:=⟨_,rfl⟩
     have z2:(a2:Int)+(i:Int)=(ai:Int):=by omega
     have hal:ai<LB:=by have:=HP.out;have:=HSH.out;omega
     have z3:IntKind.i64.wrap (ai:Int)=(ai:Int):=Go.IntWalk.i64_in _ (by have:=HB.out;omega)
     have hcx0:=hcell ai (by have:=HLB.out.1;omega)
     obtain ⟨x,hx⟩:∃ x,bs.getD ai 0=x:=⟨_,rfl⟩
     rw [hx] at hcx0
     obtain ⟨xn,hxn⟩:∃ n,x.toNat=n:=⟨_,rfl⟩
     have hcx:wr.cell? ⟨rb,ro+ai,none⟩=some (.int .u8 (xn:Int)):=by rw [← hxn];exact hcx0
     have z5:IntKind.i64.wrap ((i:Int)+1)=((i+1:Nat):Int):=by rw [Go.IntWalk.i64_in _ (by have:=HP.out;omega)];rfl
     have HI:=hid (And.intro hlt (And.intro hai hal))
     have hgd:(bs.drop a2).getD i 0=x:=by rw [getD_dropD,hai];exact hx
     have hpl:pad≤(bs.drop a2).length:=by rw [List.length_drop];have:=HLB.out.1;have:=HP.out;have:=HSH.out;omega
     by_cases hx0:x=0
     ·have hxz:xn=0:=by rw [← hxn,hx0];rfl
      subst hxz
      have HTK:=hid (take_zero HR.out.2.2 hlt hpl (by rw [hgd,hx0]))
      clear hcell hcx0 hxn hx0 hgd hpl hlt hi hai hx
      go_upto_region 22 with fail
      go_still (by kernel_rfl)
      go_wp2
      exact ⟨⟨i+1,rfl,HI.out.1,hid ⟨HR.out.1.drewN 1,below_drewN HR.out.2.1 1,HTK.out⟩⟩,by show pad-(i+1)<pad-i;have:=HI.out;omega⟩
     have hxz:((xn:Int) != 0)=true:=bne_iff_ne.2 (fun e=>hx0 (by rw [← UInt8.ofNat_toNat (x:=x),hxn,show xn=0 by omega];rfl))
     have XE:Hid (E=.err 11 T):=hid (by
      have hno:=take_zero_no hlt hpl (by rw [hgd];exact hx0)
      rw [HE3.out,HP.out.1,HP.out.2.2.1,if_neg (by rw [List.length_drop,HLB.out.1];have:=HP.out;have:=HSH.out;omega),if_pos (.inl hno)])
     clear hcell hcx0 hxn hx0 hgd hpl hlt hi hai hx
     go_upto_region 22 with fail
     go_still (by kernel_rfl)
     go_wp2
     go_ret
     exact blkd_err XE.out (by decide) (HR.out.1.drewN 1)
    have hip:pad=i:=by omega
    subst hip
    obtain ⟨a3,ha3⟩:∃ a,a2+pad=a:=⟨_,rfl⟩
    have z2:(a2:Int)+(pad:Int)=(a3:Int):=by omega
    have hal:a3+CL≤LB:=by have:=HP.out;have:=HSH.out;have:=HA2.out;omega
    have z3:IntKind.i64.wrap (a3:Int)=(a3:Int):=Go.IntWalk.i64_in _ (by have:=HB.out;omega)
    have hM9:=HR.out.1.move a3
    have bf1:=HR.out.1.fz 1
    obtain ⟨W9,hW9⟩:∃ W,wr.setCell ⟨mb,1,none⟩ (.int .i64 (a3:Int))=W:=⟨_,rfl⟩
    have hV9:OwnB W9 5 W7.heap.size (.slice Ac CL cc) ck:=by
     rw [← hW9]
     refine (HV8.out.frm (S:=fun _=>False) (Frm.of_below HR.out.2.1) (fun _ _ h=>h)).other (p:=⟨mb,1,none⟩) (fun e=>?_) _
     have h1:W7.heap.size≤mb:=(HV8.out.lt e).1
     have h2:=Pts.lt HM7.out.p
     omega
    rw [hW9] at hM9
    have HM9:=hid hM9
    have HV9:=hid hV9
    have HW9:=hid hW9
    have HA3:=hid (And.intro ha3 hal)
    clear hi hlt ha3 hal hM9 hV9 hW9
    go_upto_region 25 with fail
    rw [HW9.out]
    clear b0 b1 bf1 z2 z3
    go_wp2
    go_loopw [16] (fun jv wq=>∃ j:Nat,jv=.int .i64 (j:Int)∧j≤CL∧Hid (XmAt w0 wq K mb A bs c a3 kind recs (.slice A5 L5 c5) (.slice Al Ll cl) (out++T)∧Below W9.heap.size W9 wq∧(bs.drop a3).take j=ck.take j)) (fun jv _=>CL-(intOf jv).toNat)
    case atStart=>exact ⟨0,rfl,Nat.zero_le _,hid ⟨HM9.out,Below.refl _ _,by simp⟩⟩
    case round =>
    obtain ⟨j,rfl,hj,HQ⟩:=hrel
    obtain ⟨b0,b1,-,-,b4⟩:=HQ.out.1.cells
    rw [HLB.out.1] at b0
    by_cases hlt:j<CL
    ·have q1:(j:Int)<(CL:Int):=by omega
     obtain ⟨rb,ro,hA,-,hcell⟩:=(HROW.out.below HQ.out.1.b) (by have:=HLB.out.1;have:=HA3.out;omega)
     subst hA
     obtain ⟨Ad,cd,hd,-,-,hcr⟩:=(HV9.out.frm (S:=fun _=>False) (Frm.of_below HQ.out.2.1) (fun _ _ h=>h)).slice
     rw [HP.out.2.2.2.2.1] at hd
     injection hd with hd1 _ hd2
     subst hd1;subst hd2
     obtain ⟨kb,ko,hAc,-,hck⟩:=hcr (by have:=HP.out;omega)
     subst hAc
     obtain ⟨aj,haj⟩:∃ a,a3+j=a:=⟨_,rfl⟩
     have z4:(a3:Int)+(j:Int)=(aj:Int):=by omega
     have hal:aj<LB:=by have:=HA3.out;omega
     have z5:IntKind.i64.wrap (aj:Int)=(aj:Int):=Go.IntWalk.i64_in _ (by have:=HB.out;omega)
     have hcx0:=hcell aj (by have:=HLB.out.1;omega)
     obtain ⟨x,hx⟩:∃ x,bs.getD aj 0=x:=⟨_,rfl⟩
     rw [hx] at hcx0
     obtain ⟨xn,hxn⟩:∃ n,x.toNat=n:=⟨_,rfl⟩
     have hcx:wr.cell? ⟨rb,ro+aj,none⟩=some (.int .u8 (xn:Int)):=by rw [← hxn];exact hcx0
     have hcy0:=hck j (by have:=HP.out;omega)
     obtain ⟨y,hy⟩:∃ y,ck.getD j 0=y:=⟨_,rfl⟩
     rw [hy] at hcy0
     obtain ⟨yn,hyn⟩:∃ n,y.toNat=n:=⟨_,rfl⟩
     have hcy:wr.cell? ⟨kb,ko+j,none⟩=some (.int .u8 (yn:Int)):=by rw [← hyn];exact hcy0
     have z6:IntKind.i64.wrap ((j:Int)+1)=((j+1:Nat):Int):=by rw [Go.IntWalk.i64_in _ (by have:=HP.out;omega)];rfl
     have HI:=hid (And.intro hlt (And.intro haj hal))
     have hgd:(bs.drop a3).getD j 0=x:=by rw [getD_dropD,haj];exact hx
     have hpl:ck.length≤(bs.drop a3).length:=by rw [List.length_drop];have:=HLB.out.1;have:=HP.out;have:=HA3.out;omega
     have hjc:j<ck.length:=by have:=HP.out;omega
     by_cases hxy:x=y
     ·have hne:((xn:Int) != (yn:Int))=false:=by rw [← hxn,← hyn,hxy];exact bne_self_eq_false _
      have HTK:=hid (take_alike HQ.out.2.2 hjc hpl (by rw [hgd,hy,hxy]))
      clear hcell hck hcr hcx0 hcy0 hxn hyn hxy hgd hpl hjc hlt hj haj hx hy
      go_upto_region 28 with fail
      go_still (by kernel_rfl)
      go_wp2
      exact ⟨⟨j+1,rfl,HI.out.1,hid ⟨HQ.out.1.drewN 1,below_drewN HQ.out.2.1 1,HTK.out⟩⟩,by show CL-(j+1)<CL-j;have:=HI.out;omega⟩
     have hne:((xn:Int) != (yn:Int))=true:=bne_iff_ne.2 (fun e=>hxy (by rw [← UInt8.ofNat_toNat (x:=x),← UInt8.ofNat_toNat (x:=y),hxn,hyn,show xn=yn by omega]))
     have XE:Hid (E=.err 11 T):=hid (by
      have hno:=take_alike_no hjc hpl (by rw [hgd,hy];exact hxy)
      rw [HE3.out,HP.out.1,HP.out.2.2.1,HP.out.2.2.2.1,if_neg (by rw [List.length_drop,HLB.out.1];have:=HP.out;have:=HSH.out;omega),if_pos (.inr (by rw [List.drop_drop,HA3.out.1,← HP.out.2.2.2.2.1];exact hno))])
     clear hcell hck hcr hcx0 hcy0 hxn hyn hxy hgd hpl hjc hlt hj haj hx hy
     go_upto_region 28 with fail
     go_still (by kernel_rfl)
     go_wp2
     go_ret
     exact blkd_err XE.out (by decide) (HQ.out.1.drewN 1)
    have hip:CL=j:=by omega
    subst hip
    obtain ⟨a4,ha4⟩:∃ a,a3+CL=a:=⟨_,rfl⟩
    have z4:(a3:Int)+(CL:Int)=(a4:Int):=by omega
    have z5:IntKind.i64.wrap (a4:Int)=(a4:Int):=Go.IntWalk.i64_in _ (by have:=HB.out;have:=HA3.out;omega)
    obtain ⟨RR,hRR⟩:∃ r,n'+u+CL=r:=⟨_,rfl⟩
    obtain ⟨RP,hRP⟩:∃ r,RR+pad=r:=⟨_,rfl⟩
    have z6:(a4:Int)-(at':Int)=(RP:Int):=by have:=HA3.out;have:=HA2.out;have:=HA1.out;omega
    have z7:IntKind.i64.wrap (RP:Int)=(RP:Int):=Go.IntWalk.i64_in _ (by have:=HB.out;have:=HA3.out;have:=HA2.out;have:=HA1.out;omega)
    have z8:(RP:Int)-(pad:Int)=(RR:Int):=by omega
    have z9:IntKind.i64.wrap (RR:Int)=(RR:Int):=Go.IntWalk.i64_in _ (by have:=HB.out;have:=HA3.out;have:=HA2.out;have:=HA1.out;omega)
    have z10:IntKind.u64.wrap (RR:Int)=(RR:Int):=Go.IntWalk.u64_in _ (by have:=HB.out;have:=HA3.out;have:=HA2.out;have:=HA1.out;omega)
    have XE:Hid (E=.ok T (RR,LT) (bs.drop a4)):=hid (by
     rw [HE3.out,HP.out.1,HP.out.2.2.1,HP.out.2.2.2.1,if_neg (by rw [List.length_drop,HLB.out.1];have:=HP.out;have:=HSH.out;omega),if_neg,hRR,HD.out.2.1,List.drop_drop]
     ·congr 2
      have:=HA3.out.1
      omega
     rintro (k | k)
     ·exact k HR.out.2.2
     apply k
     rw [List.drop_drop,HA3.out.1,HQ.out.2.2]
     exact List.take_of_length_le (by have:=HP.out;omega))
    have hMA:=HQ.out.1.move a4
    have bf1:=HQ.out.1.fz 1
    obtain ⟨WA,hWA⟩:∃ W,wr.setCell ⟨mb,1,none⟩ (.int .i64 (a4:Int))=W:=⟨_,rfl⟩
    rw [hWA] at hMA
    have HMA:=hid hMA
    have HWA:=hid hWA
    have HA4:=hid (And.intro ha4 hRR)
    have hS1:=hMA.cells.2.1
    have hS2:=hMA.cells.2.2.2.2
    have bf4:=hMA.fz 4
    clear hlt hj ha4 hRR hRP hMA hWA
    go_upto_region 31 with fail
    rw [HWA.out]
    clear b0 b1 b4 bf1
    have hS4:=And.intro hS1 hS2
    refine wp_region_noPanic ?_
    refine wp_region_headH 20 (fun w'=>w'.cell? ⟨mb,1,none⟩=some (.int .i64 (a4:Int))∧w'.cell? ⟨mb,4,none⟩=some (.slice Al Ll cl)) (by kernel_rfl) (by kernel_rfl) ?_
    simp only [List.drop_succ_cons,List.drop_zero]
    refine wpAnyH_take (i:=0) rfl (by kernel_rfl) (by kernel_rfl) (by kernel_rfl) (fun _ _ _ h=>h) (Or.inl ⟨by rfl,by (intro w hSw;(try dsimp only at hSw);go_simp;try with_reducible rfl)⟩) hS4 ?_
    try simp only [Act.put,List.setIfInBounds_toArray,List.set_cons_zero,List.set_cons_succ]
    refine wpAnyH_take (i:=1) rfl (by kernel_rfl) (by kernel_rfl) (by kernel_rfl) (fun _ _ _ h=>h) (Or.inl ⟨by rfl,by (intro w hSw;(try dsimp only at hSw);go_simp;try with_reducible rfl)⟩) hS4 ?_
    try simp only [Act.put,List.setIfInBounds_toArray,List.set_cons_zero,List.set_cons_succ]
    refine wpAnyH_take (i:=2) rfl (by kernel_rfl) (by kernel_rfl) (by kernel_rfl) (fun _ _ _ h=>h) (Or.inl ⟨by rfl,by (intro w hSw;(try dsimp only at hSw);go_simp;try with_reducible rfl)⟩) hS4 ?_
    try simp only [Act.put,List.setIfInBounds_toArray,List.set_cons_zero,List.set_cons_succ]
    refine wpAnyH_take (i:=3) rfl (by kernel_rfl) (by kernel_rfl) (by kernel_rfl) (fun _ _ _ h=>h) (Or.inl ⟨by rfl,by (intro w hSw;(try dsimp only at hSw);go_simp;try with_reducible rfl)⟩) hS4 ?_
    try simp only [Act.put,List.setIfInBounds_toArray,List.set_cons_zero,List.set_cons_succ]
    refine wpAnyH_take (i:=4) rfl (by kernel_rfl) (by kernel_rfl) (by kernel_rfl) (fun _ _ _ h=>h) (Or.inl ⟨by rfl,by (intro w hSw;(try dsimp only at hSw);go_simp;try with_reducible rfl)⟩) hS4 ?_
    try simp only [Act.put,List.setIfInBounds_toArray,List.set_cons_zero,List.set_cons_succ]
    refine wpAnyH_take (i:=5) rfl (by kernel_rfl) (by kernel_rfl) (by kernel_rfl) (fun _ _ _ h=>h) (Or.inl ⟨by rfl,by (intro w hSw;(try dsimp only at hSw);go_simp;try with_reducible rfl)⟩) hS4 ?_
    try simp only [Act.put,List.setIfInBounds_toArray,List.set_cons_zero,List.set_cons_succ]
    refine wpAnyH_take (i:=6) rfl (by kernel_rfl) (by kernel_rfl) (by kernel_rfl) (fun _ _ _ h=>h) (Or.inl ⟨by rfl,by (intro w hSw;(try dsimp only at hSw);go_simp;try with_reducible rfl)⟩) hS4 ?_
    try simp only [Act.put,List.setIfInBounds_toArray,List.set_cons_zero,List.set_cons_succ]
    refine wpAnyH_take (i:=7) rfl (by kernel_rfl) (by kernel_rfl) (by kernel_rfl) (fun _ _ _ h=>h) (Or.inl ⟨by rfl,by (intro w hSw;(try dsimp only at hSw);go_simp;try with_reducible rfl)⟩) hS4 ?_
    try simp only [Act.put,List.setIfInBounds_toArray,List.set_cons_zero,List.set_cons_succ]
    refine wpAnyH_take (i:=8) rfl (by kernel_rfl) (by kernel_rfl) (by kernel_rfl) (fun _ _ _ h=>h) (Or.inl ⟨by rfl,by (intro w hSw;(try dsimp only at hSw);go_simp;try with_reducible rfl)⟩) hS4 ?_
    try simp only [Act.put,List.setIfInBounds_toArray,List.set_cons_zero,List.set_cons_succ]
    refine wpAnyH_take (i:=9) rfl (by kernel_rfl) (by kernel_rfl) (by kernel_rfl) (fun _ _ _ h=>h) (Or.inl ⟨by rfl,by (intro w hSw;(try dsimp only at hSw);go_simp;try with_reducible rfl)⟩) hS4 ?_
    try simp only [Act.put,List.setIfInBounds_toArray,List.set_cons_zero,List.set_cons_succ]
    refine wpAnyH_take (i:=10) rfl (by kernel_rfl) (by kernel_rfl) (by kernel_rfl) (fun _ _ _ h=>h) (Or.inl ⟨by rfl,by (intro w hSw;(try dsimp only at hSw);go_simp;try with_reducible rfl)⟩) hS4 ?_
    try simp only [Act.put,List.setIfInBounds_toArray,List.set_cons_zero,List.set_cons_succ]
    refine wpAnyH_take (i:=11) rfl (by kernel_rfl) (by kernel_rfl) (by kernel_rfl) (fun _ _ _ h=>h) (Or.inl ⟨by rfl,by (intro w hSw;(try dsimp only at hSw);go_simp;try with_reducible rfl)⟩) hS4 ?_
    try simp only [Act.put,List.setIfInBounds_toArray,List.set_cons_zero,List.set_cons_succ]
    refine wpAnyH_take (i:=12) rfl (by kernel_rfl) (by kernel_rfl) (by kernel_rfl) (fun _ _ _ h=>h) (Or.inl ⟨by rfl,by (intro w hSw;(try dsimp only at hSw);go_simp;try with_reducible rfl)⟩) hS4 ?_
    try simp only [Act.put,List.setIfInBounds_toArray,List.set_cons_zero,List.set_cons_succ]
    refine wpAnyH_take (i:=13) rfl (by kernel_rfl) (by kernel_rfl) (by kernel_rfl) (fun _ _ _ h=>h) (Or.inl ⟨by rfl,by (intro w hSw;(try dsimp only at hSw);go_simp;try with_reducible rfl)⟩) hS4 ?_
    try simp only [Act.put,List.setIfInBounds_toArray,List.set_cons_zero,List.set_cons_succ]
    refine wpAnyH_take (i:=14) rfl (by kernel_rfl) (by kernel_rfl) (by kernel_rfl) (fun _ _ _ h=>h) (Or.inl ⟨by rfl,by (intro w hSw;(try dsimp only at hSw);go_simp;try with_reducible rfl)⟩) hS4 ?_
    try simp only [Act.put,List.setIfInBounds_toArray,List.set_cons_zero,List.set_cons_succ]
    refine wpAnyH_take (i:=15) rfl (by kernel_rfl) (by kernel_rfl) (by kernel_rfl) (fun _ _ _ h=>h) (Or.inl ⟨by rfl,by (intro w hSw;(try dsimp only at hSw);go_simp;try with_reducible rfl)⟩) hS4 ?_
    try simp only [Act.put,List.setIfInBounds_toArray,List.set_cons_zero,List.set_cons_succ]
    refine wpAnyH_take (i:=16) rfl (by kernel_rfl) (by kernel_rfl) (by kernel_rfl) (fun _ _ _ h=>h) (Or.inl ⟨by rfl,by (intro w hSw;(try dsimp only at hSw);go_simp;try with_reducible rfl)⟩) hS4 ?_
    try simp only [Act.put,List.setIfInBounds_toArray,List.set_cons_zero,List.set_cons_succ]
    refine wpAnyH_take (i:=17) rfl (by kernel_rfl) (by kernel_rfl) (by kernel_rfl) (fun _ _ _ h=>h) (Or.inl ⟨by rfl,by (intro w hSw;(try dsimp only at hSw);go_simp;try with_reducible rfl)⟩) hS4 ?_
    try simp only [Act.put,List.setIfInBounds_toArray,List.set_cons_zero,List.set_cons_succ]
    refine wpAnyH_ready (rs:=[18]) (by kernel_rfl) (by simp) ?_
    refine AllReadyH.cons rfl (fun K18 hK18=>?_) AllReadyH.nil
    go_simp
    refine hK18.out _ _ (And.intro (cell_alloc _ hS1) (cell_alloc _ hS2)) (fun _=>?_)
    clear hK18 K18
    try simp only [Act.put,List.setIfInBounds_toArray,List.set_cons_zero,List.set_cons_succ]
    refine wpAnyH_ready (rs:=[19]) (by kernel_rfl) (by simp) ?_
    refine AllReadyH.cons rfl (fun K19 hK19=>?_) AllReadyH.nil
    refine stepR_append_pr _ rfl (.tmp 202) (.tmp 216) 46 rfl 192 K Tryz.underlying46 Tryz.info_pair (.slice Al Ll cl) recs rfl ?_ WA.heap.size 1 (RR,LT) rfl ?_ ?_ ?_ ?_;exact HMA.out.l.alloc _;exact Pts.new _ _ _;(have:=HLB.out;have:=HB.out;omega);(show K≤(WA.heap.push _).size;rw [Array.size_push];have:=HMA.out.kz;omega)
    intro v12 w12 hown12 hfrm12 hnew12
    obtain ⟨A12,k12,hv12,-,-,-⟩:=hown12.slice
    have hfin:=(HMA.out.drewN 1).recPut (v:=v12) (r:=(RR,LT)) _ hown12 hfrm12 (hnew12.imp id (fun e=>e.trans (congrArg some (by show (WA.alloc _).heap.size=WA.heap.size+1;rw [World.size_alloc]))))
    obtain ⟨L12,hL12⟩:∃ L,(recs++[(RR,LT)]).length=L:=⟨_,rfl⟩
    rw [hL12] at hv12
    subst hv12
    have HFIN:=hid hfin
    have hp12:=((HMA.out.drewN 1).p.alloc (.cells #[.int .u64 (RR:Int),.int .u64 (LT:Int)] 192)).frm hfrm12 HMA.out.nb.2
    have c1:w12.cell? ⟨mb,1,none⟩=some (.int .i64 (a4:Int)):=hp12.cell 1
    have c4:w12.cell? ⟨mb,4,none⟩=some (.slice Al Ll cl):=hp12.cell 4
    have cf4:=hp12.frozen 4
    refine hK19.out _ _ (And.intro c1 c4) (fun _=>?_)
    clear hK19 K19
    clear hown12 hfrm12 hnew12 hL12 hfin hp12
    try simp only [Act.put,List.setIfInBounds_toArray,List.set_cons_zero,List.set_cons_succ]
    refine wpAnyH_done (by kernel_rfl) ?_ _
    change wpList _ _ _ _ _ _
    go_wp2
    refine NoPanic.normal ?_
    all_goals
     go_wp2
     go_ret
     exact blkd_ok XE.out (by have:=HA4.out;have:=HA3.out;have:=HA2.out;have:=HA1.out;omega) (by have:=HLB.out.1;have:=HA4.out;have:=HA3.out;omega) rfl HFIN.out
  have qz:((z:Int) != 0)=true:=bne_iff_ne.2 (by omega)
  have XE:Hid (E=.err z T):=hid (by
   rw [← HEO.out,HZ4.out.1 hz])
  have HZ:=hid hz
  clear hz
  go_wp2
  rw [HW6.out]
  go_ret
  exact blkd_err XE.out HZ.out HM6.out
 have qz:((er:Int) != 0)=true:=bne_iff_ne.2 (by omega)
 have XE:Hid (E=.err er []):=hid (by rw [← HE.out];exact xBlock_err (by rw [HK.out]) he)
 have HZ:=hid he
 clear he HE
 go_enter Tryz.func54,Tryz.ntmps54
 go_upto_region 1 with fail
 refine wp_region_stc 9 (by kernel_rfl) (by kernel_rfl) ?_
 simp only [List.take_succ_cons,List.take_zero,List.drop_succ_cons,List.drop_zero]
 repeat still_step
 refine wpStill_nil ?_
 change wpList _ _ _ _ _ w.drew
 go_wp2_with fail
 refine HBLK.out.mono ?_;rintro e w2 ⟨rfl,hb2⟩
 have HM:=hid ((HH.out.drewN 1).still hb2)
 clear hb2
 go_wp2_with fail
 change wpStill _ _ _ _ _ _
 repeat still_step
 refine wpStill_nil ?_
 go_wp2
 go_ret
 exact blkd_err0 XE.out HZ.out HM.out
end
end Go.Proofs.YtffehfpbdcokbaaGreat
