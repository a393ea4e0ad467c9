import Derived.Deep.DeepCutAuto
import Derived.Deep.CutRange
import Derived.Deep.LoopGhost
import Derived.Lib.SlBytesConst
import Derived.Test.YtffehfpbdcokbaaGreatBu6
set_option linter.unusedVariables false
set_option linter.unusedSimpArgs false
namespace Go.Proofs.YtffehfpbdcokbaaGreat
open Lib (hid)
open Go.RowKit Win
theorem min2_int {P:Program} (ts:Array TypeId) (t:TypeId) (x y n:Int) (h:min x y=n) (w:World):(Builtin.min_ ts t #[.int .i64 x,.int .i64 y]).run P w=.ok (.int .i64 n) w:=by
 have e:(if y<x then y else x)=n:=by split <;> omega
 rw [← e]
 simp [Builtin.min_,Builtin.min2]
theorem BOff.drop {w:World} {B j c:Nat} {N:Nat→Prop} {A:Option Addr} {bs:List UInt8} (h:BOff N A bs) (hr:BRow w B A bs):BOff N (if c=j then A else A.map (·.add j)) (bs.drop j):=by
 intro hn ad e
 rw [List.length_drop] at hn
 have h0:0<bs.length:=by omega
 obtain ⟨b,off,rfl,_⟩:=hr h0
 split at e
 ·exact h h0 ad e
 simp only [Option.map_some,Option.some.injEq] at e
 rw [← e,Opn.add_at]
 exact h h0 ⟨b,off,none⟩ rfl
theorem BOff.step {w:World} {B b sz:Nat} {v v':Value} {A:Option Addr} {bs:List UInt8} (h:BOff (fun x=>x=b∨v.ownBlock=some x) A bs) (hr:BRow w B A bs) (hB:B≤sz) (hn:v'.ownBlock=v.ownBlock∨v'.ownBlock=some sz):BOff (fun x=>x=b∨v'.ownBlock=some x) A bs:=by
 intro h0 ad e hk
 obtain ⟨c,off,e2,hlt,_⟩:=hr h0
 rcases hk with hk | hk
 ·exact h h0 ad e (.inl hk)
 rcases hn with hn | hn
 ·exact h h0 ad e (.inr (hn▸hk))
 rw [hn] at hk
 injection hk with hk
 rw [e2] at e
 injection e with e
 subst e
 simp only at hk
 omega
theorem Frm.trans2 {S S':Nat→Prop} {a b c:World} (h:Frm S a b) (k:Frm S' b c) (hm:∀ q,q<a.heap.size→S' q→S q):Frm S a c :=
 ⟨k.os.trans h.os,k.tape.trans h.tape,k.output.trans h.output,Nat.le_trans h.size k.size,fun i hi hn=>(k.block i (Nat.lt_of_lt_of_le hi h.size) (fun hs=>hn (hm i hi hs))).trans (h.block i hi hn)⟩
theorem BRow.offN {N:Nat→Prop} {w w':World} {B:Nat} {A:Option Addr} {bs:List UInt8} (h:BRow w B A bs) (hA:BOff N A bs) (hf:Frm N w w'):BRow w' B A bs:=by
 intro hn
 obtain ⟨c,off,rfl,hlt,hcell⟩:=h hn
 exact ⟨c,off,rfl,hlt,fun k hk=>(World.cell?_of_block (w:=w) (hf.block c (World.block_lt_of_cell? w ⟨c,off+k,none⟩ (hcell k hk)) (hA hn _ rfl))).trans (hcell k hk)⟩
theorem WinAt.off {w:World} {base b k S:Nat} {v:Value} {R:List UInt8} {a:Nat} (h:WinAt w base b k S v R a):∀ q,v.ownBlock=some q→q≠b:=by
 rintro q hq rfl
 rcases h.o.form with ⟨e,_⟩ | ⟨g,cap,cur,e,_,hp,_⟩
 ·rw [e] at hq;cases hq
 rw [e] at hq
 injection hq with hq
 subst hq
 have e2:=hp.symm.trans h.p
 simp at e2
theorem Tryz.size_u8:(Tryz.prog.info? 5).map (·.size)=some 1:=by kernel_rfl
theorem slice_to (A:Option Addr) (n c m:Nat) (hf:m≤n) (hn:n≤c) (w:World) :
 (Instr.sliceAt 22 (.slice A n c) none (some (.int .i64 (m:Int))) none).run Tryz.prog w=.ok (.slice A m c) w:=by
 simp [go_sem]
 intro h;omega
theorem WinAt.drewN {w:World} {base b k S:Nat} {v:Value} {R:List UInt8} {a:Nat} (h:WinAt w base b k S v R a) (d:Nat):WinAt (w.drewN d) base b k S v R a:=⟨h.p.drewN d,h.o.drewN d,h.n,h.lt,h.z⟩
structure PutAt (w0 w:World) (base b k S B:Nat) (v0:Value) (C0 bs:List UInt8) (v:Value) (R:List UInt8) (a:Nat) (Ad:Option Addr) (cd:Nat) (rest:List UInt8) (j:Nat):Prop where
 wi:WinAt w base b k S v R a
 c:content R a=lastN S (C0++bs.take j)
 r:rest=bs.drop j
 row:BRow w B Ad rest
 off:BOff (fun x=>x=b∨v.ownBlock=some x) Ad rest
 cap:rest.length≤cd∧cd≤maxLen
 full:0<rest.length→R.length=S
 f:Frm (fun x=>x=b∨v0.ownBlock=some x) w0 w
 own:v.ownBlock=v0.ownBlock∨v.ownBlock=some w0.heap.size
 sz:w0.heap.size≤w.heap.size
set_option maxRecDepth 100000 in
set_option maxHeartbeats 2000000 in
theorem put_small_any (base b k S a c B:Nat) (v:Value) (R:List UInt8) (A:Option Addr) (bs:List UInt8) (w:World) (hw:WinAt w base b k S v R a) (hr:BRow w B A bs) (hoff:BOff (fun x=>x=b∨v.ownBlock=some x) A bs) (hc:bs.length≤c) (hcm:c≤maxLen) (hlen:bs.length≤16777216) (hbase:base≤w.heap.size)
 (hS:bs.length<S) (hS2:S≤16777216) (hB:B≤w.heap.size) :
 Calls Tryz.prog 118 #[.pointer (some ⟨b,0,none⟩),.slice A bs.length c] w fun e w'=>∃ (v':Value) (R':List UInt8) (a':Nat),e=.returned (.tuple #[])∧WinAt w' base b k S v' R' a'∧content R' a'=lastN S (content R a++bs) ∧
  Frm (fun x=>x=b∨v.ownBlock=some x) w w'∧(v'.ownBlock=v.ownBlock∨v'.ownBlock=some w.heap.size):=by
 obtain ⟨A0,k0,rfl,hc0,hm0,hr0⟩:=hw.o.slice
 have c0:w.cell? ⟨b,0,none⟩=some (.slice A0 R.length k0):=by rw [hw.p.cell];rfl
 have c2:w.cell? ⟨b,2,none⟩=some (.int .i64 S):=by rw [hw.p.cell];rfl
 have hRS:=hw.n
 have haS:=hw.lt
 have HW:=hid hw
 have HR:=hid hr
 have HO:=hid hoff
 obtain ⟨n,hn⟩:∃ n:Nat,min (bs.length:Int) ((S:Int)-R.length)=n:=⟨min bs.length (S-R.length),by omega⟩
 have f1:=fun w=>min2_int (P:=Tryz.prog) #[3,3] 3 _ _ _ hn w
 have hn1:n≤bs.length∧R.length+n≤S∧(n<bs.length→R.length+n=S):=by omega
 clear hn hw hr hoff hr0
 obtain ⟨n1,n2,n3⟩:=hn1
 have M0:=hid hm0
 have CM:=hid hcm
 clear hm0 hcm
 have hdS:decide (S≤bs.length)=false:=decide_eq_false (by omega)
 go_enter Tryz.func118,Tryz.ntmps118
 go_upto_region 4 with (go_at_call 139;refine (dropped_no _ _ _ _ _ _ HW.out.p).mono ?_;rintro e w1 ⟨rfl,rfl⟩)
 go_quiet (fail)
 go_upto_if 54 with fail
 go_cut [1] from 53 to 68 (fun s1 wx=>∃ (Ad:Option Addr) (cd j:Nat) (rest:List UInt8) (v1:Value) (R1:List UInt8),s1=.slice Ad rest.length cd∧PutAt w wx base b k S B (.slice A0 R.length k0) (content R a) bs v1 R1 a Ad cd rest j)
 case first =>
  by_cases hn0:n=0
  ·subst hn0
   go_wp2
   go_meet
   case rel =>
   refine ⟨A,c,0,bs,.slice A0 R.length k0,R,rfl,⟨HW.out.drewN _,?_,by simp,BRow.drewN HR.out _,HO.out,⟨hc,CM.out⟩,fun h=>by omega,(Frm.refl _ _).drewN _,.inl rfl,Nat.le_refl _⟩⟩
   rw [List.take_zero,List.append_nil,lastN_all (by rw [content_length];exact hRS)]
  have ha0:a=0:=HW.out.z (by omega)
  subst ha0
  have hst:=fun w=>slice_to A bs.length c n n1 hc w
  have hsf:=fun w=>slice_from A bs.length c n n1 hc w
  have htl:n=(bs.take n).length:=by rw [List.length_take];omega
  have hrl:bs.length-n=(bs.drop n).length:=by rw [List.length_drop]
  have HTL:=hid htl
  have HRL:=hid hrl
  have f0:=HW.out.p.frozen 0
  have hll:R.length+(bs.take n).length≤140737488355328:=by omega
  have hbN:∀ w':World,Frm (fun k=>(Value.slice A0 R.length k0).ownBlock=some k) w w'→Frm (fun x=>x=b∨(Value.slice A0 R.length k0).ownBlock=some x) w w':=fun w' h=>h.mono fun _ _ hk=>.inr hk
  have ROW2:=hid (HR.out.drop (k:=n) (cap:=c) hc)
  have OFF2:=hid (BOff.drop (j:=n) (c:=c) HO.out HR.out)
  have OFFW:=hid HW.out.off
  clear htl hrl
  obtain ⟨Ad,had⟩:∃ Ad,(if c=n then A else A.map (·.add n))=Ad:=⟨_,rfl⟩
  rw [had] at hsf ROW2 OFF2
  have hpos:(0:Int)<(n:Int):=by omega
  clear had
  go_wp2
  go_region_law (refine step_append_bytes _ rfl (.tmp 59) (.tmp 62) 22 rfl 5 base Tryz.underlying22 Tryz.info_u8 (.slice A0 R.length k0) R rfl (HW.out.o.drewN _) A n c B (bs.take n) rfl HTL.out (BRow.drewN (HR.out.take n) _) hll hbase ?_;intro v1 w1 hown1 hfrm1 hnew1;obtain ⟨A1,c1,rfl,hc1,hm1,hr1⟩:=hown1.slice;have hp1:=(HW.out.p.drewN _).drew.frm (S:=fun k=>(Value.slice A0 R.length k0).ownBlock=some k) hfrm1 (fun e=>OFFW.out b e rfl);have z0:w1.cell? ⟨b,0,none⟩=some (.slice A0 R.length k0):=(hp1.cell 0).trans rfl;have z1:=hp1.frozen 0)
  all_goals
   have hL1:(R++bs.take n).length=R.length+n:=by rw [List.length_append,← HTL.out]
   have hp2:Pts (w1.setCell ⟨b,0,none⟩ (.slice A1 (R.length+n) c1)) b #[.slice A1 (R.length+n) c1,.int .i64 ((0:Nat):Int),.int .i64 S,.pointer (some ⟨k,0,none⟩)] 160:=hp1.set 0 _
   rw [hL1] at hown1
   have hnb:∀ q,(Value.slice A1 (R.length+n) c1).ownBlock=some q→q≠b:=by
    rintro q hq rfl
    rcases hown1.form with ⟨e,_⟩ | ⟨g,cp,cur,e,_,hp,_⟩
    ·rw [e] at hq;cases hq
    rw [e] at hq
    injection hq with hq
    subst hq
    have e2:=hp.symm.trans hp1
    simp at e2
   have ho2:=hown1.other (p:=⟨b,0,none⟩) (fun e=>hnb _ e rfl) (.slice A1 (R.length+n) c1)
   have hf2:=((((Frm.refl (fun x=>x=b∨(Value.slice A0 R.length k0).ownBlock=some x) w).drewN nq).drew).trans (hfrm1.mono (fun q _ hq=>.inr hq))).setCell (p:=⟨b,0,none⟩) (by left;rfl) (.slice A1 (R.length+n) c1)
   have hnew2:(Value.slice A1 (R.length+n) c1).ownBlock=(Value.slice A0 R.length k0).ownBlock∨(Value.slice A1 (R.length+n) c1).ownBlock=some w.heap.size:=by
    rcases hnew1 with h | h
    ·left;rw [← h];cases A1 <;> rfl
    right;have h':(Value.slice A1 (R++bs.take n).length c1).ownBlock=some w.heap.size:=h;rw [← h'];cases A1 <;> rfl
   have P2:=hid hp2
   have O2:=hid ho2
   have F2:=hid hf2
   have N2:=hid hnew2
   have L1:=hid hL1
   have NB:=hid hnb
   clear hp1 hp2 hown1 hnb ho2 hf2 hnew1 hnew2 hfrm1 z0 z1 hr1 hL1 hst hll hbN
   go_wp2
   go_meet
   case rel =>
   refine ⟨Ad,c-n,n,bs.drop n,.slice A1 (R.length+n) c1,R++bs.take n,by rw [← HRL.out],⟨⟨P2.out,O2.out,by rw [L1.out];exact n2,by omega,fun _=>rfl⟩,?_,rfl,BRow.offN ROW2.out OFF2.out F2.out,BOff.step OFF2.out ROW2.out hB N2.out,⟨by rw [← HRL.out];omega,by have:=CM.out;omega⟩,fun h=>by rw [← HRL.out] at h;rw [L1.out];exact n3 (by omega),F2.out,N2.out,F2.out.size⟩⟩
   rw [content_zero,content_zero,lastN_all (by rw [L1.out];exact n2)]
 case rest =>
 obtain ⟨Ad,cd,j,rest,v1,R1,rfl,hpa⟩:=hcut
 have PA:=hid hpa
 clear hpa f1 c0 c2
 go_wp2
 go_loopg [1] bs.length (fun gn s1 wr=>∃ (Ad:Option Addr) (cd j:Nat) (rest:List UInt8) (v1:Value) (R1:List UInt8) (a1:Nat),s1=.slice Ad rest.length cd∧rest.length≤gn∧PutAt w wr base b k S B (.slice A0 R.length k0) (content R a) bs v1 R1 a1 Ad cd rest j)
 case atStart=>exact ⟨Ad,cd,j,rest,v1,R1,a,rfl,by rw [PA.out.r,List.length_drop];omega,PA.out⟩
 case round =>
 obtain ⟨Ad,cd,j,rest,v1,R1,a1,rfl,hgn,hpa⟩:=hrel
 have P1:=hid hpa
 clear hpa
 by_cases hr0:rest.length=0
 ·have hrest:rest=[]:=List.eq_nil_of_length_eq_zero hr0
  have hj:bs.length≤j:=by
   have:=P1.out.r
   rw [hrest] at this
   have h2:=congrArg List.length this
   rw [List.length_drop] at h2
   simp at h2;omega
  have hcon:content R1 a1=lastN S (content R a++bs):=by
   have h:=P1.out.c
   rwa [List.take_of_length_le hj] at h
  have HC:=hid hcon
  clear hcon hj hrest
  have hz:((rest.length:Int):Int)=0:=by omega
  go_wp2
  go_end0
  exact ⟨v1,R1,a1,rfl,P1.out.wi,HC.out,P1.out.f,P1.out.own⟩
 have hfull:=P1.out.full (by omega)
 have ha1:=P1.out.wi.lt
 rcases P1.out.wi.o.form with ⟨_,hnil⟩ | ⟨g,cap,cur,rfl,hbg,hpg,hn1',hn2',hcs,hcc⟩
 ·rw [hnil] at hfull;simp at hfull;omega
 clear hcc hcs hpg cur
 obtain ⟨n2,hn2⟩:∃ n2,n2=min rest.length (R1.length-a1):=⟨_,rfl⟩
 have c0:wr.cell? ⟨b,0,none⟩=some (.slice (some ⟨g,0,none⟩) R1.length cap):=by rw [P1.out.wi.p.cell];rfl
 have c1:wr.cell? ⟨b,1,none⟩=some (.int .i64 a1):=by rw [P1.out.wi.p.cell];rfl
 have hsa:∀ w,(Instr.sliceAt 22 (.slice (some ⟨g,0,none⟩) R1.length cap) (some (.int .i64 (a1:Int))) none none).run Tryz.prog w=.ok (.slice (some ⟨g,a1,none⟩) (R1.length-a1) (cap-a1)) w:=by
  intro w
  rw [slice_from _ _ _ _ (by omega) hn1',if_neg (by omega)]
  simp [Opn.add_at]
 have hsf:=fun w=>slice_from Ad rest.length cd n2 (by omega) P1.out.cap.1 w
 have hrl:rest.length-n2=(rest.drop n2).length:=by rw [List.length_drop]
 have HRL:=hid hrl
 have ROW2:=hid (P1.out.row.drop (k:=n2) (cap:=cd) P1.out.cap.1)
 have OFF2:=hid (BOff.drop (j:=n2) (c:=cd) P1.out.off P1.out.row)
 have OFFW:=hid P1.out.wi.off
 obtain ⟨Ae,hae⟩:∃ Ae,(if cd=n2 then Ad else Ad.map (·.add n2))=Ae:=⟨_,rfl⟩
 rw [hae] at hsf ROW2 OFF2
 have hcn:(n2:Int)≤(cd:Int):=by have:=P1.out.cap.1;omega
 have hne:((S:Int)==0)=false:=beq_eq_false_iff_ne.2 (by omega)
 obtain ⟨q2,hq2⟩:∃ q2,(a1+n2) % S=q2:=⟨_,rfl⟩
 have hmod:((a1:Int)+n2) % (S:Int)=(q2:Int):=by rw [← hq2,Int.natCast_emod];congr 1
 have HQ2:=hid hq2
 clear hq2
 have HN2:=hid hn2
 have HCP:=hid hn2'
 have hgb:g≠b:=fun e=>OFFW.out g rfl e
 have HGB:=hid hgb
 have hpos:(0:Int)<(rest.length:Int):=by omega
 have hn2le:n2≤rest.length∧a1+n2≤S∧1≤n2:=by omega
 have hFULL:=hid hfull
 have hapl:(a1:Int)≤(R1.length:Int):=by omega
 clear hrl hae hn2 hn2' hgb hfull
 go_wp2
 go_region_law (refine step_copy_bytes _ rfl (.tmp 80) (.tmp 81) 22 rfl 5 base Tryz.underlying22 Tryz.size_u8 g cap a1 R1 (cap-a1) rfl (P1.out.wi.o.drewN 1) (by have:=hFULL.out;omega) Ad rest.length cd B n2 rest rfl rfl (BRow.drewN P1.out.row 1) (by omega) HN2.out ?_;intro w5 hown5 hfrm5)
 all_goals
  have hp5:=P1.out.wi.p.drew.frm (S:=fun k=>k=g) hfrm5 (fun e=>HGB.out e.symm)
  have d1:w5.cell? ⟨b,1,none⟩=some (.int .i64 a1):=by rw [hp5.cell];rfl
  have d2:w5.cell? ⟨b,2,none⟩=some (.int .i64 S):=by rw [hp5.cell];rfl
  have d3:=hp5.frozen 1
  have P5:=hid hp5
  have O5:=hid hown5
  have F5:=hid hfrm5
  have e1:w5.drew.cell? ⟨b,1,none⟩=some (.int .i64 a1):=d1
  have e2:w5.drew.cell? ⟨b,2,none⟩=some (.int .i64 S):=d2
  have e3:w5.drew.frozen? ⟨b,1,none⟩=false:=d3
  clear hp5 hown5 hfrm5 c0 c1 hsa
  go_wp2
  refine QTail.wp_region_qtail_lit 14 (by kernel_rfl) (by kernel_rfl) ?_
  simp only [List.take_succ_cons,List.take_zero,List.drop_succ_cons,List.drop_zero]
  repeat (go_big_quiet_step (fail))
  refine wpQuiet_nil ?_
  rintro w' ⟨nr,rfl⟩
  go_wp2
  go_roundg (rest.length-n2)
  case measure=>omega
  case rel =>
  have hol:(over R1 rest a1 n2).length=R1.length:=over_length (by have:=hFULL.out;omega) (by omega)
  have hp6:Pts ((w5.drewN nr).setCell ⟨b,1,none⟩ (.int .i64 (q2:Int))) b #[.slice (some ⟨g,0,none⟩) R1.length cap,.int .i64 (q2:Int),.int .i64 S,.pointer (some ⟨k,0,none⟩)] 160:=(P5.out.drewN nr).set 1 _
  have ho6:OwnB ((w5.drewN nr).setCell ⟨b,1,none⟩ (.int .i64 (q2:Int))) 5 base (.slice (some ⟨g,0,none⟩) R1.length cap) (over R1 rest a1 n2):=by
   have h:=(O5.out.drewN nr).other (p:=⟨b,1,none⟩) (fun e=>HGB.out (by injection e)) (.int .i64 (q2:Int))
   rw [hol] at h
   exact h
  have hf6:Frm (fun x=>x=b∨(Value.slice (some ⟨g,0,none⟩) R1.length cap).ownBlock=some x) wr ((w5.drewN nr).setCell ⟨b,1,none⟩ (.int .i64 (q2:Int))) :=
   ((((Frm.refl _ wr).drew).trans (F5.out.mono (fun q _ hq=>.inr (by rw [hq];rfl)))).drewN nr).setCell (by left;rfl) _
  have hqS:q2<S:=by rw [← HQ2.out];exact Nat.mod_lt _ (by omega)
  refine ⟨Ae,cd-n2,j+n2,rest.drop n2,.slice (some ⟨g,0,none⟩) R1.length cap,over R1 rest a1 n2,q2,by rw [← HRL.out],by rw [← HRL.out];exact Nat.le_refl _,
   ⟨⟨hp6,ho6,by rw [hol];exact Nat.le_of_eq hFULL.out,hqS,fun h=>by rw [hol,hFULL.out] at h;omega⟩,?_,?_,BRow.offN ROW2.out OFF2.out hf6,OFF2.out,⟨by rw [← HRL.out];have:=P1.out.cap.1;omega,by have:=P1.out.cap.2;omega⟩,fun _=>by rw [hol];exact hFULL.out,?_,P1.out.own,Nat.le_trans P1.out.sz hf6.size⟩⟩
  ·have h1:=over_content (R:=R1) (b:=rest) (a:=a1) (n:=n2) (by have:=hFULL.out;omega) (by omega) (by have:=hFULL.out;omega) (by have:=hFULL.out;omega)
   rw [hFULL.out,HQ2.out,P1.out.c,lastN_lastN,List.append_assoc] at h1
   rw [h1,List.take_add,P1.out.r]
  ·rw [P1.out.r,List.drop_drop]
  refine Frm.trans2 P1.out.f hf6 (fun q hq hk=>?_)
  rcases hk with hk | hk
  ·exact .inl hk
  rcases P1.out.own with h | h
  ·exact .inr (h▸hk)
  rw [h] at hk
  injection hk with hk
  omega
open Go.RowKit Win
theorem put_any (base b k S a c B n:Nat) (v:Value) (R:List UInt8) (A:Option Addr) (bs:List UInt8) (w:World) (hw:WinAt w base b k S v R a) (hn:n=bs.length) (hr:BRow w B A bs) (hoff:BOff (fun x=>x=b∨v.ownBlock=some x) A bs) (hc:bs.length≤c) (hcm:c≤maxLen) (hlen:bs.length≤16777216) (hbase:base≤w.heap.size)
 (hS2:S≤16777216) (hB:B≤w.heap.size) :
 Calls Tryz.prog 118 #[.pointer (some ⟨b,0,none⟩),.slice A n c] w fun e w'=>∃ (v':Value) (R':List UInt8) (a':Nat),e=.returned (.tuple #[])∧WinAt w' base b k S v' R' a'∧content R' a'=lastN S (content R a++bs) ∧
  Frm (fun x=>x=b∨v.ownBlock=some x) w w'∧(v'.ownBlock=v.ownBlock∨v'.ownBlock=some w.heap.size):=by
 subst hn
 by_cases hS:S≤bs.length
 ·refine (put_big_any base b k S a c B v R A bs w hw hr hc hcm hlen hbase hS (by have:=hw.lt;omega) hB).mono ?_
  rintro e w' ⟨v',rfl,h1,h2,h3⟩
  exact ⟨v',_,0,rfl,h1,by rw [content_zero,put_big hS],h2,h3⟩
 exact put_small_any base b k S a c B v R A bs w hw hr hoff hc hcm hlen hbase (by omega) hS2 hB
theorem new_win (k S:Nat) (B n m:Int) (w:World) (hl:Led w k B n m) (hB:0≤B∧B≤16777216) (hn:0≤n∧n≤B) (hm:n≤m∧m≤B) (h1:1≤S) (h2:S≤16777216) (hc:chE B n S=0) :
 Calls Tryz.prog 34 #[.int .i64 S,.pointer (some ⟨k,0,none⟩)] w fun e w'=>∃ b,e=.returned (.tuple #[.pointer (some ⟨b,0,none⟩),.int .i64 0])∧WinAt w' w.heap.size b k S (.slice none 0 0) [] 0∧w.heap.size≤b ∧
  Led w' k B (chN B n S) (chM B n m S)∧Frm (· = k) w w':=by
 have HL:=hid hl
 have HC:=hid hc
 have klt:=Pts.lt hl
 clear hl hc
 go_enter Tryz.func34,Tryz.ntmps34
 go_wp2_with (go_at_call 78;refine (charge_led _ B n m _ _ HL.out hB hn hm).mono ?_;rintro e w1 ⟨rfl,hL1,hF1⟩;rw [HC.out])
 go_ret2
 have hp:=Pts.new w1 #[.slice none 0 0,.int .i64 ((0:Nat):Int),.int .i64 S,.pointer (some ⟨k,0,none⟩)] 160
 exact ⟨w1.heap.size,rfl,⟨hp,OwnB.nil _ _ _,Nat.zero_le _,by omega,fun _=>rfl⟩,hF1.size,Pts.alloc hL1 _,hF1.alloc _⟩
open Go.RowKit Win
def cyc (C:List UInt8) (back n:Nat):List UInt8:=(List.range n).map fun t=>C.getD (C.length-back+t % back) 0
theorem cyc_length (C:List UInt8) (back n:Nat):(cyc C back n).length=n:=by simp [cyc]
theorem cyc_snoc {C:List UInt8} {back t:Nat} (h:t<back):cyc C back t++[C.getD (C.length-back+t) 0]=cyc C back (t+1):=by
 unfold cyc
 rw [List.range_succ,List.map_append]
 simp [Nat.mod_eq_of_lt h]
theorem cyc_more {C:List UInt8} {back L k:Nat} (h0:0<back) (hL:L % back=0) (hk:k≤L):cyc C back L++(cyc C back L).take k=cyc C back (L+k):=by
 apply List.ext_getElem
 ·simp [cyc];omega
 intro j h1 h2
 simp only [List.length_append,List.length_take,cyc_length] at h1 h2
 by_cases hj:j<L
 ·rw [List.getElem_append_left (by rw [cyc_length];exact hj)]
  simp [cyc]
 rw [List.getElem_append_right (by rw [cyc_length];omega)]
 simp only [cyc,List.length_map,List.length_range,List.getElem_take,List.getElem_map,List.getElem_range]
 congr 2
 obtain ⟨q,hq⟩:=Nat.dvd_of_mod_eq_zero hL
 have e:j=(j-L)+back*q:=by omega
 conv=>rhs;rw [e,Nat.add_mul_mod_self_left]
theorem make_bytes (n:Nat) (hn:n≤16777216) (w:World) :
 (Instr.makeSlice 22 (.int .i64 0) (.int .i64 (n:Int))).run Tryz.prog w=.ok (.slice (some ⟨w.heap.size,0,none⟩) 0 n) (w.alloc (.cells (madeCells #[.int .u8 0] n) 5)):=by
 obtain ⟨i,hi,hz⟩:=Option.map_eq_some_iff.1 Tryz.info_u8
 simp only [Prod.mk.injEq] at hz
 have h:=run_make (P:=Tryz.prog) w 22 5 i (.int .u8 0) Tryz.underlying22 hi hz.1 .i64 .i64 0 n (by omega) (by omega) (by rw [hz.2.2];omega) (by omega)
 rw [hz.2.1] at h
 simp only [Int.toNat_natCast,Nat.mul_one] at h
 exact h
theorem OwnB.madeN (w:World) (T base n:Nat) (hb:base≤w.heap.size) (hn:n≤16777216):OwnB (w.alloc (.cells (madeCells #[.int .u8 0] n) T)) T base (.slice (some ⟨w.heap.size,0,none⟩) 0 n) [] :=
 World.ownsRow_made w _ n hb (by unfold maxLen;omega) (by rw [size_madeCells];simp)
theorem at_num (b k a S cap back:Nat) (A:Option Addr) (R:List UInt8) (z:Int) (w:World) (hp:Pts w b #[.slice A R.length cap,.int .i64 a,.int .i64 S,.pointer (some ⟨k,0,none⟩)] 160) (hr:BRow w w.heap.size A R)
 (hR:R.length≤16777216) (ha:a≤16777216) (h1:1≤back) (h2:back≤R.length) (hz:z=(back:Int)) :
 Calls Tryz.prog 171 #[.pointer (some ⟨b,0,none⟩),.int .i64 z] w fun e w'=>e=.returned (.tuple #[.int .u8 ((R.getD ((a+R.length-back) % R.length) 0).toNat:Int),.bool true])∧∃ d,w'=w.drewN d:=by
 subst hz
 exact at_in b k a S cap back A R w hp hr hR ha h1 h2
set_option maxRecDepth 100000 in
set_option maxHeartbeats 2000000 in
theorem copy_any (base b k S a back n:Nat) (v:Value) (R:List UInt8) (w:World) (hw:WinAt w base b k S v R a) (hbase:base≤w.heap.size) (hS2:S≤16777216) (hn:n≤16777216) (h1:1≤back) (h2:back≤R.length) :
 Calls Tryz.prog 158 #[.pointer (some ⟨b,0,none⟩),.int .i64 back,.int .i64 n] w fun e w'=>∃ (ov v':Value) (R':List UInt8) (a':Nat),e=.returned (.tuple #[ov,.int .i64 0])∧WinAt w' base b k S v' R' a' ∧
  content R' a'=lastN S (content R a++cyc (content R a) back n)∧OwnB w' 5 w.heap.size ov (cyc (content R a) back n)∧Frm (fun x=>x=b∨v.ownBlock=some x) w w' ∧
  (v'.ownBlock=v.ownBlock∨∃ g,v'.ownBlock=some g∧w.heap.size≤g∧ov.ownBlock≠some g):=by
 obtain ⟨A0,k0,rfl,hc0,hm0,hr0⟩:=hw.o.slice
 have c0:w.cell? ⟨b,0,none⟩=some (.slice A0 R.length k0):=by rw [hw.p.cell];rfl
 have hRS:=hw.n
 have haS:=hw.lt
 have HW:=hid hw
 have HR:=hid hr0
 obtain ⟨m,hm⟩:∃ m:Nat,min (back:Int) (n:Int)=m:=⟨min back n,by omega⟩
 have f1:=fun w=>min2_int (P:=Tryz.prog) #[3,3] 3 _ _ _ hm w
 have hmb:m≤back∧m≤n∧(m<n→m=back):=by omega
 have hmk:=make_bytes n hn
 clear hm hw hr0
 obtain ⟨m1,m2,m3⟩:=hmb
 have hbl:w.heap.size≤(w.alloc (.cells (madeCells #[.int .u8 0] n) 5)).heap.size:=by simp
 have O1:=hid (OwnB.madeN w 5 w.heap.size n (Nat.le_refl _) hn)
 have M0:=hid hm0
 clear hm0
 have hdq:decide (R.length<back)=false:=decide_eq_false (by omega)
 go_enter Tryz.func158,Tryz.ntmps158
 go_wp2_with (go_at_call 139;refine (dropped_no _ _ _ _ _ _ HW.out.p).mono ?_;rintro e w1 ⟨rfl,rfl⟩)
 have B1:=hid ((Below.refl w.heap.size w).alloc (Nat.le_refl _) (.cells (madeCells #[.int .u8 0] n) 5))
 go_loopw [8,9] (fun ov iv wr=>∃ t d:Nat,d+t=m∧iv=.int .i64 d∧OwnB wr 5 w.heap.size ov (cyc (content R a) back t)∧Below w.heap.size w wr) (fun _ iv _=>(intOf iv).toNat)
 case atStart=>exact ⟨0,m,by omega,rfl,by simpa [cyc] using O1.out,B1.out⟩
 case round =>
 obtain ⟨t,d,htd,rfl,hown,hbe⟩:=hrel
 have OW:=hid hown
 have BE:=hid hbe
 have hbt:b<w.heap.size:=HW.out.p.lt
 clear hown hbe hmk O1 B1 hbl
 by_cases hd:0<d
 ·have PW:=hid (HW.out.p.below BE.out hbt)
  have RW:=hid ((HR.out.below BE.out).more BE.out.size)
  have hx:R.getD ((a+R.length-(back-t)) % R.length) 0=(content R a).getD ((content R a).length-back+t) 0:=by
   rw [content_at (by have:=HW.out.z;by_cases hh:R.length<S;have:=this hh;omega;omega) (by omega) (by omega),content_length]
   congr 1;omega
  have HX:=hid hx
  have hdpos:(0:Int)<(d:Int):=by omega
  have hcl:t<back:=by omega
  clear hx
  go_wp2_with (first
   | (go_at_call 171
      refine (at_num b k a S k0 (back-t) A0 R _ wr PW.out RW.out (by omega) (by omega) (by omega) (by omega) (by omega)).mono ?_
      rintro e w2 ⟨rfl,dd,rfl⟩
      rw [HX.out])
   | (at_builtin;refine wpList_append_bytes _ rfl (.tmp 59) (.tmp 61) 22 rfl 5 w.heap.size Tryz.underlying22 Tryz.info_u8 u8 (cyc (content R a) back t) rfl ?own1 (some ⟨wr.heap.size,0,none⟩) 1 1 (wr.heap.size+1) [(content R a).getD ((content R a).length-back+t) 0] rfl rfl ?row1 ?len1 ?base1 ?next1)
   | go_in)
  case own1=>exact (OW.out.drewN _).alloc _
  case row1=>intro _;exact ⟨wr.heap.size,0,rfl,by simp,fun j hj=>by
   obtain rfl:j=0:=by simpa using hj
   refine ((Pts.new (wr.drewN _) _ _).cell 0).trans ?_;simp [byteV]⟩
  case len1=>rw [cyc_length];simp;omega
  case base1=>have:=BE.out.size;simp;omega
  case next1 =>
  intro v3 w3 hown3 hfrm3 hnew3
  have hb3:Below w.heap.size w w3:=((below_drewN BE.out _).alloc BE.out.size _).trans (hfrm3.below (B:=w.heap.size) ((below_drewN BE.out _).alloc BE.out.size _).size (fun q hq=>(OW.out.lt hq).1))
  have ecs:=cyc_snoc (C:=content R a) hcl
  rw [List.getD_eq_getElem?_getD] at ecs
  rw [ecs] at hown3
  clear ecs
  have B3:=hid hb3
  have O3:=hid hown3
  clear hown3 hfrm3 hnew3 hb3
  go_wp2
  exact ⟨⟨t+1,d-1,by omega,by go_num,O3.out,B3.out⟩,by simp [intOf];omega⟩
 have hd1:(d:Int)≤0:=by omega
 have htm:t=m:=by omega
 have O2:=hid (htm▸OW.out)
 clear f1 OW
 go_wp2
 go_loopg [8] n (fun gn ov wq=>∃ L:Nat,n-L≤gn∧m≤L∧L≤n∧(L<n→L % back=0)∧OwnB wq 5 w.heap.size ov (cyc (content R a) back L)∧Below w.heap.size w wq)
 case atStart=>exact ⟨m,by omega,Nat.le_refl _,m2,fun h=>by rw [m3 h];exact Nat.mod_self _,O2.out,BE.out⟩
 case round =>
 obtain ⟨L,hgn,hmL,hLn,hLm,hown,hbe⟩:=hrel
 have OL:=hid hown
 have BL:=hid hbe
 obtain ⟨A2,c2,rfl,hc2,hm2,hr2⟩:=hown.slice
 rw [cyc_length] at hc2 hown OL
 rw [cyc_length]
 have R2:=hid hr2
 have M2:=hid hm2
 have LM:=hid hLm
 clear hown hbe hr2 hm2 hLm BE O2
 by_cases hlt:L<n
 ·have hmod:=LM.out hlt
  have hbL:back≤L:=by have:=m3 (by omega);omega
  obtain ⟨x,hx⟩:∃ x:Nat,min (L:Int) ((n:Int)-L)=x:=⟨min L (n-L),by omega⟩
  have f2:=fun w=>min2_int (P:=Tryz.prog) #[3,3] 3 _ _ _ hx w
  obtain ⟨Q,hQ⟩:∃ Q,x / back=Q:=⟨_,rfl⟩
  obtain ⟨K,hK⟩:∃ K,Q*back=K:=⟨_,rfl⟩
  have hKx:K≤x:=by rw [← hK,← hQ];exact Nat.div_mul_le_self _ _
  have hq0:(x:Int) / (back:Int)=(Q:Int):=by rw [← hQ];exact (Int.natCast_ediv x back).symm
  have hq1:(Q:Int)*(back:Int)=(K:Int):=by rw [← hK];exact (Int.natCast_mul Q back).symm
  have hQx:Q≤x:=by rw [← hQ];exact Nat.div_le_self _ _
  have hne:((back:Int)==0)=false:=beq_eq_false_iff_ne.2 (by omega)
  have hKm:K % back=0:=by rw [← hK];exact Nat.mul_mod_left _ _
  have KM:=hid hKm
  have hK0:K=0→n-L<back:=by
   intro h
   rw [← hK] at h
   rcases Nat.mul_eq_zero.1 h with h | h
   ·rw [h] at hQ
    have:=(Nat.div_eq_zero_iff_lt (by omega)).1 hQ
    omega
   omega
  have K0:=hid hK0
  have HM:=hid hmod
  have hxle:x≤L∧x≤n-L:=by omega
  clear hQ hK hx hKm hK0 hmod
  by_cases hKz:K=0
  ·obtain ⟨y,hy⟩:∃ y:Nat,min (back:Int) ((n:Int)-L)=y:=⟨min back (n-L),by omega⟩
   have f3:=fun w=>min2_int (P:=Tryz.prog) #[3,3] 3 _ _ _ hy w
   have hy2:y=n-L:=by have:=K0.out hKz;omega
   have hyL:y≤L:=by omega
   have hsl:=fun w=>slice_to A2 L c2 y hyL hc2 w
   have hk1:((K:Int)==0)=true:=beq_iff_eq.2 (by omega)
   have htk:y=((cyc (content R a) back L).take y).length:=by rw [List.length_take,cyc_length];omega
   have HTK:=hid htk
   have Y2:=hid hy2
   clear hy htk hy2
   go_wp2_with (at_builtin;refine wpList_append_bytes _ rfl (.tmp 86) (.tmp 89) 22 rfl 5 w.heap.size Tryz.underlying22 Tryz.info_u8 (.slice A2 L c2) (cyc (content R a) back L) rfl ?own2 A2 y c2 wr.heap.size ((cyc (content R a) back L).take y) rfl HTK.out ?row2 ?len2 ?base2 ?next2)
   case own2=>exact OL.out
   case row2=>exact R2.out.take y
   case len2=>rw [← HTK.out,cyc_length];omega
   case base2=>exact BL.out.size
   case next2 =>
   intro v3 w3 hown3 hfrm3 hnew3
   have hb3:=BL.out.trans (hfrm3.below (B:=w.heap.size) BL.out.size (fun q hq=>(OL.out.lt hq).1))
   rw [cyc_more (by omega) HM.out hyL] at hown3
   obtain ⟨A3,c3,rfl,hc3,hm3,hr3⟩:=hown3.slice
   rw [cyc_length] at hown3
   have B3:=hid hb3
   have O3:=hid hown3
   clear hown3 hfrm3 hnew3 hb3 hr3
   rw [cyc_length]
   go_wp2
   go_roundg (n-(L+y))
   case measure=>have:=Y2.out;omega
   case rel=>exact ⟨L+y,by omega,by omega,by have:=Y2.out;omega,fun h=>by have:=Y2.out;omega,O3.out,B3.out⟩
  have hk1:((K:Int)==0)=false:=beq_eq_false_iff_ne.2 (by omega)
  have hsl:=fun w=>slice_to A2 L c2 K (by omega) hc2 w
  have htk:K=((cyc (content R a) back L).take K).length:=by rw [List.length_take,cyc_length];omega
  have HTK:=hid htk
  clear htk
  go_wp2_with (at_builtin;refine wpList_append_bytes _ rfl (.tmp 86) (.tmp 89) 22 rfl 5 w.heap.size Tryz.underlying22 Tryz.info_u8 (.slice A2 L c2) (cyc (content R a) back L) rfl ?own3 A2 K c2 wr.heap.size ((cyc (content R a) back L).take K) rfl HTK.out ?row3 ?len3 ?base3 ?next3)
  case own3=>exact OL.out
  case row3=>exact R2.out.take K
  case len3=>rw [← HTK.out,cyc_length];omega
  case base3=>exact BL.out.size
  case next3 =>
  intro v3 w3 hown3 hfrm3 hnew3
  have hb3:=BL.out.trans (hfrm3.below (B:=w.heap.size) BL.out.size (fun q hq=>(OL.out.lt hq).1))
  rw [cyc_more (by omega) HM.out (by omega)] at hown3
  obtain ⟨A3,c3,rfl,hc3,hm3,hr3⟩:=hown3.slice
  rw [cyc_length] at hown3
  have B3:=hid hb3
  have O3:=hid hown3
  clear hown3 hfrm3 hnew3 hb3 hr3
  rw [cyc_length]
  go_wp2
  go_roundg (n-(L+K))
  case measure=>omega
  case rel=>exact ⟨L+K,by omega,by omega,by omega,fun h=>by rw [Nat.add_mod,HM.out,KM.out];simp,O3.out,B3.out⟩
 obtain rfl:L=n:=by omega
 have hfB:Frm (fun _=>False) w wr:=Frm.of_below BL.out
 have hWB:WinAt wr base b k S (.slice A0 R.length k0) R a:=⟨HW.out.p.frm hfB (by simp),HW.out.o.frm hfB (by simp),HW.out.n,HW.out.lt,HW.out.z⟩
 have hOff:BOff (fun x=>x=b∨(Value.slice A0 R.length k0).ownBlock=some x) A2 (cyc (content R a) back L):=by
  intro h0 ad e hk
  have h5:=(OL.out.lt (k:=ad.block) (by rw [e];rfl)).1
  rcases hk with hk | hk
  ·omega
  have:=(HW.out.o.lt hk).2;omega
 have WB:=hid hWB
 have FB:=hid hfB
 have OF:=hid hOff
 clear hWB hfB hOff
 go_wp2_with (go_at_call 118
              refine (put_any base b k S a c2 wr.heap.size L (.slice A0 R.length k0) R A2 (cyc (content R a) back L) wr WB.out (cyc_length _ _ _).symm R2.out OF.out (by rw [cyc_length];exact hc2) M2.out (by rw [cyc_length];exact hn) (Nat.le_trans hbase BL.out.size) hS2 (Nat.le_refl _)).mono ?_
              rintro e w5 ⟨v',R',a',rfl,hw5,hc5,hf5,hn5⟩)
 go_ret2
 refine ⟨_,v',R',a',rfl,hw5,hc5,OL.out.frm hf5 (fun q hq hk=>?_),(FB.out.mono (fun _ _ h=>h.elim)).trans hf5,?_⟩
 ·have h5:=(OL.out.lt hq).1
  rcases hk with hk | hk
  ·omega
  have:=(HW.out.o.lt hk).2;omega
 rcases hn5 with h | h
 ·exact .inl h
 exact .inr ⟨_,h,BL.out.size,fun e=>by have:=(OL.out.lt e).2;omega⟩
open Go.RowKit Win
theorem copy_bad (base b k S a:Nat) (back n:Int) (v:Value) (R:List UInt8) (w:World) (hw:WinAt w base b k S v R a) (hn:0≤n∧n≤16777216) (hb:back<1∨(R.length:Int)<back) :
 Calls Tryz.prog 158 #[.pointer (some ⟨b,0,none⟩),.int .i64 back,.int .i64 n] w fun e w'=>e=.returned (.tuple #[.slice none 0 0,.int .i64 11])∧w=w':=by
 obtain ⟨A0,k0,rfl,hc0,hm0,hr0⟩:=hw.o.slice
 have c0:w.cell? ⟨b,0,none⟩=some (.slice A0 R.length k0):=by rw [hw.p.cell];rfl
 have HW:=hid hw
 obtain ⟨n0,n1⟩:=hn
 clear hw hr0 hm0
 have h3:back<1∨(1≤back∧(R.length:Int)<back):=by omega
 clear hb
 rcases h3 with h | ⟨h,h4⟩
 all_goals
  go_enter Tryz.func158,Tryz.ntmps158
  go_wp2_with (go_at_call 139;refine (dropped_no _ _ _ _ _ _ HW.out.p).mono ?_;rintro e w1 ⟨rfl,rfl⟩)
  go_ret2
  exact ⟨rfl,rfl⟩
open Go.RowKit Win
theorem own_ne {w:World} {T T' base g:Nat} {v:Value} {bs:List UInt8} {c:Array Value} (h:OwnB w T base v bs) (hp:Pts w g c T') (hT:T'≠T):v.ownBlock≠some g:=by
 intro hq
 rcases h.form with ⟨e,_⟩ | ⟨g',cap,cur,e,_,hp',_⟩
 ·rw [e] at hq;cases hq
 rw [e] at hq
 injection hq with hq
 subst hq
 have e2:=hp'.symm.trans hp
 simp at e2
 exact hT e2.2.symm
end Go.Proofs.YtffehfpbdcokbaaGreat
