import Derived.Test.YtffehfpbdcokbaaGreatBu40
set_option linter.unusedVariables false
set_option linter.unusedSimpArgs false
namespace Go.Proofs.YtffehfpbdcokbaaGreat
open Lib (hid)
open Go.RowKit Rng Win Lz Box
section
variable {w0 w w' : World} {K mb : Nat} {A : Option Addr} {bs : List UInt8} {c at' : Nat} {kind : Int} {recs : List (Nat × Nat)} {ov lv : Value} {out : List UInt8}
theorem XmAt.recCell {Al:Option Addr} {Ll cl:Nat} (h:XmAt w0 w K mb A bs c at' kind recs ov (.slice Al Ll cl) out) {k j want:Nat} (hk:k<recs.length) (hj:j<2) (hw:want=if j=0 then (recs.getD k (0,0)).1 else (recs.getD k (0,0)).2) :
 ∃ b off,Al=some ⟨b,off,none⟩∧w.cell? ⟨b,off+k*2+j,none⟩=some (.int .u64 (want:Int)):=by
 obtain ⟨A1,c1,e,-,-,hp⟩:=h.l.slice
 injection e with e1 _ _
 subst e1
 obtain ⟨b,off,rfl,-,hc⟩:=hp (by omega)
 obtain ⟨h0,h1⟩:=hc k hk
 refine ⟨b,off,rfl,?_⟩
 by_cases hj0:j=0
 ·subst hj0
  rw [if_pos rfl] at hw
  rw [hw]
  exact h0
 obtain rfl:j=1:=by omega
 rw [if_neg (by decide)] at hw
 rw [hw]
 exact h1
set_option maxRecDepth 100000 in
set_option maxHeartbeats 8000000 in
theorem index_d (h:XmAt w0 w K mb A bs c at' kind recs ov lv out) (hrow:BRow w0 K A bs) (hcap:bs.length≤c∧bs.length≤1000000∧c≤maxLen) (hat:at'<bs.length) (hrl:recs.length≤1000000) :
 Calls Tryz.prog 55 #[.pointer (some ⟨mb,0,none⟩)] w (IxD w0 K mb A bs c kind recs ov lv out (xIndex recs (bs.drop at'))):=by
 obtain ⟨X,hX⟩:∃ X,xIndex recs (bs.drop at')=X:=⟨_,rfl⟩
 rw [hX]
 obtain ⟨LB,hLB⟩:∃ L,bs.length=L:=⟨_,rfl⟩
 obtain ⟨Ao,co,hov,-,-,-⟩:=h.o.slice
 obtain ⟨Lo,hLo⟩:∃ L,out.length=L:=⟨_,rfl⟩
 rw [hLo] at hov
 subst hov
 obtain ⟨Al,cl,hlv,-,-,-⟩:=h.l.slice
 obtain ⟨Ll,hLl⟩:∃ L,recs.length=L:=⟨_,rfl⟩
 rw [hLl] at hlv
 subst hlv
 obtain ⟨a1,ha1⟩:∃ a,at'+1=a:=⟨_,rfl⟩
 have y1:(at':Int)+1=(a1:Int):=by omega
 have y2:IntKind.i64.wrap (a1:Int)=(a1:Int):=Go.IntWalk.i64_in _ (by omega)
 have y3:IntKind.u64.wrap (Ll:Int)=(Ll:Int):=Go.IntWalk.u64_in _ (by omega)
 obtain ⟨N2,hN2⟩:∃ N,2*Ll=N:=⟨_,rfl⟩
 have y4:(2:Int)*(Ll:Int)=(N2:Int):=by omega
 have y5:IntKind.i64.wrap (N2:Int)=(N2:Int):=Go.IntWalk.i64_in _ (by omega)
 have hdd:(bs.drop at').drop 1=bs.drop a1:=by rw [List.drop_drop,ha1]
 obtain ⟨d0,d1,-,-,d4⟩:=h.cells
 have f1:=h.fz 1
 have hM1:=h.move a1
 obtain ⟨W1,hW1⟩:∃ W,w.setCell ⟨mb,1,none⟩ (.int .i64 (a1:Int))=W:=⟨_,rfl⟩
 rw [hW1] at hM1
 obtain ⟨e0,e1,-,-,e4⟩:=hM1.cells
 have HN:=hid (numstep_d Ll hM1 hrow hcap (by omega))
 have HM1:=hid hM1
 have HW1:=hid hW1
 have HX:=hid hX
 have HC:=hid (And.intro hLB (And.intro hLl (And.intro hN2 (And.intro ha1 (And.intro hcap (And.intro hat (And.intro hrl hdd)))))))
 have HROW:=hid hrow
 clear h hrow hcap hat hrl hX hLB hLo hLl ha1 hN2 hdd hM1 hW1 d0 e0 e1
 go_enter Tryz.func55,Tryz.ntmps55
 go_upto_region 3 with fail
 rw [HW1.out]
 clear d1 d4 f1
 go_wp2_with fail
 refine HN.out.mono ?_;rintro e w2 ⟨z2,a2,rfl,hM2,hle2,hub2,hz2,hn2⟩
 have HL2:Hid (XmAt w0 w2 K mb A bs c a2 kind recs (.slice Ao Lo co) (.slice Al Ll cl) out∧at'≤a2∧a2≤LB∧(z2=0→xNums ((recN recs).take (1+0)) (bs.drop a1)=.inr (bs.drop a2))∧(z2≠0→xNums (recN recs) (bs.drop a1)=.inl z2)):=hid (by
  have hc:=HC.out
  refine ⟨hM2,by omega,by omega,fun k=>?_,fun k=>?_⟩
  ·show xNums [recs.length] _=_
   rw [hc.2.1,xNums_one]
   exact hz2 k
  have e:recN recs=[recs.length]++recs.flatMap (fun p=>[p.1,p.2]):=rfl
  rw [e]
  refine xNums_stop _ _ _ ?_
  rw [hc.2.1,xNums_one]
  exact hn2 k)
 clear hM2 hle2 hub2 hz2 hn2 HN e4
 go_wp2
 go_loopw [5,6] (fun ev iv wr=>∃ (i z a3:Nat),iv=.int .i64 (i:Int)∧ev=.int .i64 (z:Int)∧i≤N2∧Hid (XmAt w0 wr K mb A bs c a3 kind recs (.slice Ao Lo co) (.slice Al Ll cl) out∧at'≤a3∧a3≤LB∧(z=0→xNums ((recN recs).take (1+i)) (bs.drop a1)=.inr (bs.drop a3))∧(z≠0→xNums (recN recs) (bs.drop a1)=.inl z))) (fun _ iv _=>N2-(intOf iv).toNat)
 case atStart=>exact ⟨0,z2,a2,rfl,rfl,Nat.zero_le _,HL2⟩
 case round =>
 obtain ⟨i,z,a3,rfl,rfl,hi,HR⟩:=hrel
 obtain ⟨e0,e1,-,-,e4⟩:=HR.out.1.cells
 rw [HC.out.1] at e0
 clear HL2
 by_cases hz:z=0
 ·subst hz
  by_cases hlt:i<N2
  ·have q1:(i:Int)<(N2:Int):=by omega
   obtain ⟨k,j,hkj,hj⟩:∃ k j,i=2*k+j∧j<2:=⟨i / 2,i % 2,by omega,by omega⟩
   obtain ⟨want,hwant⟩:∃ want,want=if j=0 then (recs.getD k (0,0)).1 else (recs.getD k (0,0)).2:=⟨_,rfl⟩
   have hk:k<recs.length:=by have:=HC.out;omega
   obtain ⟨rb,ro,rfl,hrc⟩:=HR.out.1.recCell hk hj hwant
   have HN3:=hid (numstep_d want HR.out.1 HROW.out HC.out.2.2.2.2.1 (by have:=HR.out.2.2.1;have:=HC.out.1;omega))
   have hi2:i / 2=k:=by omega
   have hi3:i % 2=j:=by omega
   have g1:(i:Int) / 2=(k:Int):=by omega
   have g2:(i:Int) % 2=(j:Int):=by omega
   have g3:(k:Int)<(Ll:Int):=by have:=HC.out.2.1;omega
   have g4:(j:Int)<2:=by omega
   have g5:IntKind.i64.wrap ((i:Int)+1)=((i+1:Nat):Int):=by rw [Go.IntWalk.i64_in _ (by have:=HC.out;omega)];rfl
   have g6:k<Ll:=by omega
   have hkb:k≤1000000:=by have:=HC.out;omega
   have g8:wrap64 (k:Int)=(k:Int):=Go.IntWalk.wrap64_in _ (by omega)
   clear hkb
   have HS0:Hid (xNums ((recN recs).take (1+i)) (bs.drop a1)=.inr (bs.drop a3)):=hid (HR.out.2.2.2.1 rfl)
   have HTK:Hid ((recN recs).take (1+(i+1))=(recN recs).take (1+i)++[want]):=hid (by
    have:=recN_take recs hk hj hwant
    rw [show 1+(i+1)=1+2*k+j+1 by omega,this,show 1+i=1+2*k+j by omega])
   have HI:=hid (And.intro hlt hi)
   have HTS:Hid (∀ z,xNum want (bs.drop a3)=.inl z→xNums (recN recs) (bs.drop a1)=.inl z):=hid (by
    intro z hzz
    have e:recN recs=(recN recs).take (1+(i+1))++(recN recs).drop (1+(i+1)):=(List.take_append_drop _ _).symm
    rw [e]
    refine xNums_stop _ _ _ ?_
    rw [HTK.out,xNums_snoc,HS0.out]
    exact hzz)
   clear hkj hwant hk hi2 hi3 hlt hi
   go_wp2_with fail
   refine HN3.out.mono ?_;rintro e w4 ⟨z4,a4,rfl,hM4,hle4,hub4,hz4,hn4⟩
   have HL4:Hid (XmAt w0 w4 K mb A bs c a4 kind recs (.slice Ao Lo co) (.slice (some ⟨rb,ro,none⟩) Ll cl) out∧at'≤a4∧a4≤LB∧(z4=0→xNums ((recN recs).take (1+(i+1))) (bs.drop a1)=.inr (bs.drop a4))∧(z4≠0→xNums (recN recs) (bs.drop a1)=.inl z4)):=hid (by
    have hc:=HC.out
    refine ⟨hM4,by have:=HR.out.2.1;omega,by omega,fun k=>?_,fun k=>HTS.out _ (hn4 k)⟩
    rw [HTK.out,xNums_snoc,HS0.out]
    exact hz4 k)
   clear hM4 hle4 hub4 hz4 hn4 HN3 hrc e0 e1 e4
   go_wp2
   exact ⟨⟨i+1,z4,a4,rfl,rfl,HI.out.1,HL4⟩,by show N2-(i+1)<N2-i;have:=HI.out;omega⟩
  obtain rfl:i=N2:=by omega
  obtain ⟨pad,hpad⟩:∃ p,padOf (a3-at')=p:=⟨_,rfl⟩
  obtain ⟨u,hu⟩:∃ u,a3-at'=u:=⟨_,rfl⟩
  have HXT:Hid (X=ixTail bs at' a3 pad∧pad<4∧at'+u=a3∧a3≤LB):=hid (by
   have h2:=HR.out.2.2.2.1 rfl
   have e:(recN recs).take (1+i)=recN recs:=List.take_of_length_le (by rw [recN_len];have:=HC.out;omega)
   rw [e,← HC.out.2.2.2.2.2.2.2] at h2
   refine ⟨?_,by rw [← hpad];unfold padOf;omega,by have:=HR.out;omega,HR.out.2.2.1⟩
   rw [← HX.out,← hpad]
   exact xIndex_tail HR.out.2.1 (by have:=HR.out;have:=HC.out.1;omega) h2)
  have y6:(a3:Int)-(at':Int)=(u:Int):=by have:=HXT.out;omega
  have y7:IntKind.i64.wrap (u:Int)=(u:Int):=Go.IntWalk.i64_in _ (by have:=HXT.out;have:=HC.out;omega)
  obtain ⟨r4,hr4⟩:∃ r,u % 4=r:=⟨_,rfl⟩
  have y8:(u:Int) % 4=(r4:Int):=by omega
  obtain ⟨s4,hs4⟩:∃ r,4-r4=r:=⟨_,rfl⟩
  have y9:(4:Int)-(r4:Int)=(s4:Int):=by omega
  have y10:(s4:Int) % 4=(pad:Int):=by rw [← hpad,hu];unfold padOf;omega
  have y11:s4≤4:=by omega
  have y12:r4<4:=by omega
  have y13:IntKind.i64.wrap (s4:Int)=(s4:Int):=Go.IntWalk.i64_in _ (by omega)
  obtain ⟨m3,hm3⟩:∃ m,LB-a3=m:=⟨_,rfl⟩
  have z1:(LB:Int)-(a3:Int)=(m3:Int):=by have:=HXT.out;omega
  have z2':IntKind.i64.wrap (m3:Int)=(m3:Int):=Go.IntWalk.i64_in _ (by have:=HXT.out;have:=HC.out;omega)
  obtain ⟨p4,hp4⟩:∃ m,pad+4=m:=⟨_,rfl⟩
  have z3:(pad:Int)+4=(p4:Int):=by omega
  have z4:IntKind.i64.wrap (p4:Int)=(p4:Int):=Go.IntWalk.i64_in _ (by have:=HXT.out;omega)
  have HP:=hid (And.intro hm3 hp4)
  clear hpad hu hr4 hs4 hm3 hp4 hi hlt
  by_cases hsh:m3<p4
  ·have q3:decide (m3<p4)=true:=decide_eq_true hsh
   have XE:Hid (X=.inl 10):=hid (by
    rw [HXT.out.1]
    unfold ixTail
    rw [if_pos (by have:=HP.out;have:=HC.out.1;omega)])
   clear hsh
   go_upto_region 11 with fail
   go_quiet (fail)
   go_wp2
   go_ret2
   exact ixd_err XE.out (by decide) (HR.out.1.drewN _)
  have q3:decide (m3<p4)=false:=decide_eq_false hsh
  have HSH:=hid hsh
  clear hsh
  have HFL:Hid (ixTail bs at' a3 pad=if (bs.drop a3).take pad≠List.replicate pad 0∨sealedB ((bs.drop at').take (u+pad+4))≠true then .inl 11 else .inr (u+pad+4,bs.drop (a3+pad+4))):=hid (by
   unfold ixTail
   have e:a3-at'=u:=by have:=HXT.out;omega
   rw [if_neg (by have:=HP.out;have:=HC.out.1;have:=HSH.out;omega),e])
  go_upto_region 11 with fail
  go_quiet (fail)
  try simp only [y10]
  obtain ⟨wo,hwo⟩:∃ wo,wo=wr:=⟨_,rfl⟩
  subst hwo
  clear y1 y2 y3 y4 y5 y6 y7 y8 y9 y10 y11 y12 y13 z1 z2' z3 z4 q3 e0 e1 e4
  go_wp2
  go_loopw [8] (fun jv wr=>∃ j:Nat,jv=.int .i64 (j:Int)∧j≤pad∧Hid (XmAt w0 wr K mb A bs c a3 kind recs (.slice Ao Lo co) (.slice Al Ll cl) out∧(bs.drop a3).take j=List.replicate j 0)) (fun jv _=>pad-(intOf jv).toNat)
  case atStart=>exact ⟨0,rfl,Nat.zero_le _,hid ⟨HR.out.1.drewN _,by simp⟩⟩
  case round =>
  obtain ⟨j,rfl,hj,HQ⟩:=hrel
  obtain ⟨b0,b1,-,-,-⟩:=HQ.out.1.cells
  rw [HC.out.1] at b0
  obtain ⟨rb,ro,hA,-,hcell⟩:=(HROW.out.below HQ.out.1.b) (by have:=HC.out;omega)
  subst hA
  by_cases hlt:j<pad
  ·have q1:(j:Int)<(pad:Int):=by omega
   obtain ⟨ai,hai⟩:∃ a,a3+j=a:=⟨_,rfl⟩
   have z2:(a3:Int)+(j:Int)=(ai:Int):=by omega
   have hal:ai<LB:=by have:=HP.out;have:=HSH.out;omega
   have z3:IntKind.i64.wrap (ai:Int)=(ai:Int):=Go.IntWalk.i64_in _ (by have:=HC.out;omega)
   have hcx0:=hcell ai (by have:=HC.out.1;omega)
   obtain ⟨x,hx⟩:∃ x,bs.getD ai 0=x:=⟨_,rfl⟩
   rw [hx] at hcx0
   obtain ⟨xn,hxn⟩:∃ n,x.toNat=n:=⟨_,rfl⟩
   have hcx:wr.cell? ⟨rb,ro+ai,none⟩=some (.int .u8 (xn:Int)):=by rw [← hxn];exact hcx0
   have z5:IntKind.i64.wrap ((j:Int)+1)=((j+1:Nat):Int):=by rw [Go.IntWalk.i64_in _ (by have:=HXT.out;omega)];rfl
   have HI:=hid (And.intro hlt (And.intro hai hal))
   have hgd:(bs.drop a3).getD j 0=x:=by rw [getD_dropD,hai];exact hx
   have hpl:pad≤(bs.drop a3).length:=by rw [List.length_drop];have:=HC.out.1;have:=HP.out;have:=HSH.out;omega
   by_cases hx0:x=0
   ·have hxz:xn=0:=by rw [← hxn,hx0];rfl
    subst hxz
    have HTK:=hid (take_zero HQ.out.2 hlt hpl (by rw [hgd,hx0]))
    clear hcell hcx0 hxn hx0 hgd hpl hlt hj hai hx
    go_upto_region 16 with fail
    go_still (by kernel_rfl)
    go_wp2
    exact ⟨⟨j+1,rfl,HI.out.1,hid ⟨HQ.out.1.drewN 1,HTK.out⟩⟩,by show pad-(j+1)<pad-j;have:=HI.out;omega⟩
   have hxz:((xn:Int) != 0)=true:=bne_iff_ne.2 (fun e=>hx0 (by rw [← UInt8.ofNat_toNat (x:=x),hxn,show xn=0 by omega];rfl))
   have XE:Hid (X=.inl 11):=hid (by
    have hno:=take_zero_no hlt hpl (by rw [hgd];exact hx0)
    rw [HXT.out.1,HFL.out,if_pos (.inl hno)])
   clear hcell hcx0 hxn hx0 hgd hpl hlt hj hai hx
   go_upto_region 16 with fail
   go_still (by kernel_rfl)
   go_wp2
   go_ret2
   exact ixd_err XE.out (by decide) (HQ.out.1.drewN 1)
  have hip:pad=j:=by omega
  subst hip
  obtain ⟨ap,hap⟩:∃ a,a3+pad=a:=⟨_,rfl⟩
  obtain ⟨a4,ha4⟩:∃ a,ap+4=a:=⟨_,rfl⟩
  have z2:(a3:Int)+(pad:Int)=(ap:Int):=by omega
  have z2b:(ap:Int)+4=(a4:Int):=by omega
  have hal:a4≤LB:=by have:=HP.out;have:=HSH.out;have:=HXT.out;omega
  have z3:IntKind.i64.wrap (ap:Int)=(ap:Int):=Go.IntWalk.i64_in _ (by have:=HC.out;omega)
  have z4:IntKind.i64.wrap (a4:Int)=(a4:Int):=Go.IntWalk.i64_in _ (by have:=HC.out;omega)
  obtain ⟨SZ,hSZ⟩:∃ s,u+pad+4=s:=⟨_,rfl⟩
  have hsz:a4-at'=SZ:=by have:=HXT.out;omega
  have z5:(a4:Int)-(at':Int)=(SZ:Int):=by have:=HXT.out;omega
  have z6:IntKind.i64.wrap (SZ:Int)=(SZ:Int):=Go.IntWalk.i64_in _ (by have:=HC.out;omega)
  have hM4:=HQ.out.1.move a4
  have bf1:=HQ.out.1.fz 1
  obtain ⟨W4,hW4⟩:∃ W,wr.setCell ⟨mb,1,none⟩ (.int .i64 (a4:Int))=W:=⟨_,rfl⟩
  rw [hW4] at hM4
  obtain ⟨b0',b1',-,-,-⟩:=hM4.cells
  rw [HC.out.1] at b0'
  have HM4:=hid hM4
  have HW4:=hid hW4
  have hcap:LB≤c:=by have:=HC.out;omega
  have hsl:∀ w,(Instr.sliceAt 22 (.slice (some ⟨rb,ro,none⟩) LB c) (some (.int .i64 (at':Int))) (some (.int .i64 (a4:Int))) none).run Tryz.prog w=.ok (.slice ((some (⟨rb,ro,none⟩:Addr)).map (·.add at')) (a4-at') (c-at')) w:=fun w=>slice_midX (some ⟨rb,ro,none⟩) LB c at' a4 (by omega) hal hcap (by have:=HC.out;omega) w
  have hrm:=HROW.out.mid (f:=at') (t:=a4-at') (c:=c) (by have:=HC.out.1;omega) (by have:=HC.out;omega)
  obtain ⟨A9,hA9⟩:∃ A9,(some (⟨rb,ro,none⟩:Addr)).map (·.add at')=A9:=⟨_,rfl⟩
  rw [hA9] at hsl hrm
  rw [hsz] at hsl hrm
  obtain ⟨c9,hc9⟩:∃ c9,c-at'=c9:=⟨_,rfl⟩
  rw [hc9] at hsl
  have HSE:=hid (rsealed_p A9 ((bs.drop at').take SZ) SZ c9 K W4.drew (by rw [List.length_take,List.length_drop];have:=HC.out;omega) (by omega) (by omega) ((hrm.below hM4.b).drewN 1) (by rw [List.length_take];have:=HC.out;omega))
  have HA4:=hid (And.intro hap (And.intro ha4 (And.intro hal hSZ)))
  clear hcell hlt hj hap ha4 hal hSZ hsz hM4 hW4 hrm hA9 hc9 hcap
  obtain ⟨β,hβ⟩:∃ β,sealedB ((bs.drop at').take SZ)=β:=⟨_,rfl⟩
  rw [hβ] at HSE
  have Hβ:=hid hβ
  clear hβ
  cases β with
  | true =>
   have XE:Hid (X=.inr (SZ,bs.drop a4)):=hid (by
    rw [HXT.out.1,HFL.out,if_neg,HA4.out.2.2.2,HA4.out.1,HA4.out.2.1]
    rintro (k | k)
    ·exact k HQ.out.2
    rw [HA4.out.2.2.2] at k;exact k Hβ.out)
   go_upto_region 19 with fail
   rw [HW4.out]
   clear b0 b1 bf1
   refine wp_region_stc 10 (by kernel_rfl) (by kernel_rfl) ?_
   simp only [List.take_succ_cons,List.take_zero,List.drop_succ_cons,List.drop_zero]
   repeat still_step
   refine wpStill_nil ?_
   change wpList _ _ _ _ _ W4.drew
   go_wp2_with fail
   refine HSE.out.mono ?_;rintro e w5 ⟨rfl,rfl⟩
   go_wp2_with fail
   change wpStill _ _ _ _ _ _
   repeat still_step
   refine wpStill_nil ?_
   go_wp2
   go_ret2
   exact ixd_ok XE.out (by have:=HA4.out;have:=HC.out.1;omega) (by have:=HA4.out;have:=HC.out.1;have:=HXT.out;omega) (HM4.out.drewN 1)
  | false =>
   have XE:Hid (X=.inl 11):=hid (by
    rw [HXT.out.1,HFL.out,if_pos]
    refine .inr ?_
    rw [HA4.out.2.2.2,Hβ.out]
    decide)
   go_upto_region 19 with fail
   rw [HW4.out]
   clear b0 b1 bf1
   refine wp_region_stc 10 (by kernel_rfl) (by kernel_rfl) ?_
   simp only [List.take_succ_cons,List.take_zero,List.drop_succ_cons,List.drop_zero]
   repeat still_step
   refine wpStill_nil ?_
   change wpList _ _ _ _ _ W4.drew
   go_wp2_with fail
   refine HSE.out.mono ?_;rintro e w5 ⟨rfl,rfl⟩
   go_wp2_with fail
   change wpStill _ _ _ _ _ _
   repeat still_step
   refine wpStill_nil ?_
   go_wp2
   go_ret2
   exact ixd_err XE.out (by decide) (HM4.out.drewN 1)
 have qz:((z:Int)==0)=false:=beq_eq_false_iff_ne.2 (by omega)
 have qz2:((z:Int) != 0)=true:=bne_iff_ne.2 (by omega)
 have XE:Hid (X=.inl z):=hid (by
  rw [← HX.out]
  refine xIndex_num ?_
  rw [HC.out.2.2.2.2.2.2.2]
  exact HR.out.2.2.2.2 hz)
 have HZ:=hid hz
 clear hz
 by_cases hlt:i<N2
 ·have q1:(i:Int)<(N2:Int):=by omega
  clear hlt hi
  go_wp2
  go_ret2
  exact ixd_err XE.out HZ.out HR.out.1
 have q1:(N2:Int)≤(i:Int):=by omega
 clear hlt hi
 go_wp2
 go_ret2
 exact ixd_err XE.out HZ.out HR.out.1
end
end Go.Proofs.YtffehfpbdcokbaaGreat
