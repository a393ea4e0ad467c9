import Derived.Test.YtffehfpbdcokbaaGreatBu9
import Derived.Test.YtffehfpbdcokbaaGreatBu15
set_option linter.unusedVariables false
set_option linter.unusedSimpArgs false
namespace Go.Proofs.YtffehfpbdcokbaaGreat
open Lib (hid)
open Go.RowKit Rng Lz Win
theorem and15 (t:Nat) (h:t<9223372036854775808):bits .and .i64 (t:Int) 15=((t % 16:Nat):Int):=by
 have e:(15:Int)=((15:Nat):Int):=rfl
 show IntKind.i64.wrap ((BitVec.ofInt 64 (t:Int) &&& BitVec.ofInt 64 15).toNat:Int)=_
 rw [BitVec.toNat_and,ofInt_u64 t (by omega),e,ofInt_u64 15 (by omega),show (15:Nat)=2 ^ 4-1 by rfl,Nat.and_two_pow_sub_one_eq_mod]
 exact Go.IntWalk.i64_in _ (by omega)
theorem LzAt.coder {σ:Type} {CA:World→σ→Prop} {own:Nat→Prop} {T:TypeId} {w w':World} {k:LK} {st:Nat} {rep:Nat→Nat} {s:CP σ} {d:σ} (h:LzAt CA own T w k st rep s) (hc:CA w' d) (hf:Frm own w w'):LzAt CA own T w' k st rep ⟨d,s.pr⟩∧Frm (Wr own k) w w' :=
 ⟨⟨hc,h.m.frm hf h.ne.1,h.l.frm hf h.ne.2.1,h.fit,h.ne⟩,hf.mono fun q _ e=>.inl e⟩
set_option maxRecDepth 100000 in
set_option maxHeartbeats 4000000 in
theorem chunk_main (k:LK) (st:Nat) (rep:Nat→Nat) (pr:Pr) (base wb kb S:Nat) (C bs:List UInt8) (wv:Value) (A:Option Addr) (n c l total:Nat) (w:World)
 (hs:StAt w k st rep pr) (hw:WinC w base wb kb S C wv) (hb:base≤w.heap.size) (hS:S≤16777216) (hk:k.Ok) (hst:st<12) (hrep:∀ j,rep j<4294967296)
 (hl:l=bs.length) (hr:BRow w w.heap.size A bs) (hc:bs.length≤c) (hcm:c≤maxLen) (hlen:bs.length≤140737488355328)
 (h1:1≤n) (h2:n≤2097152) (ht:total<9223372036854775808) (hnew:newErr bs=0) :
 Calls Tryz.prog 120 #[.pointer (some ⟨k.sb,0,none⟩),.pointer (some ⟨wb,0,none⟩),.int .i64 total,.slice A l c,.int .i64 n] w fun e w'=>ChunkEnd k base wb kb S wv w (chunkOf k S total n st rep pr C bs) e w':=by
 subst hl
 obtain ⟨R,hR⟩:∃ R,chunkOf k S total n st rep pr C bs=R:=⟨_,rfl⟩
 rw [hR]
 unfold chunkOf at hR
 rw [if_neg (fun h=>h hnew)] at hR
 obtain ⟨T,hT⟩:∃ T,totOf total=T:=⟨_,rfl⟩
 rw [hT] at hR
 have hTb:T<1099511627792:=by rw [← hT];exact totOf_lt total
 obtain ⟨GO,hGO⟩:∃ GO,chunkGo k S T n (n+1) [] ⟨st,rep,⟨newDec bs,pr⟩,C⟩=GO:=⟨_,rfl⟩
 rw [hGO] at hR
 obtain ⟨p0,p1,hbl,hsz⟩:=two_new w (.slice none 0 0) (.int .i64 0) 22 25
 have HND:=hid (dnew_p A bs bs.length c _ rfl ((hr.below hbl).more (Nat.le_of_lt (by rw [hsz];omega))) hc hcm hlen hnew)
 have P0:=hid p0
 have P1:=hid p1
 have BL:=hid hbl
 have SZ:=hid hsz
 have HR:=hid hR
 have HT:=hid hT
 have HG:=hid hGO
 have HS:=hid hs
 have HW:=hid hw
 have HK:=hid hk
 have HREP:=hid hrep
 have h1i:(1:Int)≤(n:Int):=by omega
 have h2i:(n:Int)≤2097152:=by omega
 clear hR hT hGO p0 p1 hbl hsz hs hw hk hr hrep hnew
 go_enter_defers Tryz.func120,Tryz.ntmps120
 go_wp2
 go_step3
 go_wp2_with fail
 refine Calls.mono HND.out ?_;rintro e w3 ⟨db,rb,rfl,hd3,hdb,hrb,hB3⟩
 rw [SZ.out] at hdb hrb hB3
 have q0:=P0.out.below hB3 (by omega)
 have q1:=P1.out.below hB3 (by omega)
 have b3:=BL.out.trans (hB3.mono (by omega))
 have Q0:=hid (q0.other (p:=⟨w.heap.size+1,0,none⟩) (by simp) (.int .i64 0))
 have Q1:=hid (q1.set 0 (.int .i64 0))
 have B4:=hid (b3.setCell (p:=⟨w.heap.size+1,0,none⟩) (by simp) (.int .i64 0))
 have f4:Frm (· = w.heap.size+1) w3 (w3.setCell ⟨w.heap.size+1,0,none⟩ (.int .i64 0)):=Frm.setCell (S:=fun x=>x=w.heap.size+1) (Frm.refl _ w3) (p:=⟨w.heap.size+1,0,none⟩) (by rfl) _
 have D4:=hid (DecAt.frm hd3 f4 (by omega) (by omega))
 have c11:=q1.cell 0
 have z11:=q1.frozen 0
 clear hd3 hB3 q0 q1 b3 f4
 go_upto_if 43 with fail
 obtain ⟨w4,hw4⟩:∃ w4,w3.setCell ⟨w.heap.size+1,0,none⟩ (.int .i64 0)=w4:=⟨_,rfl⟩
 rw [hw4] at Q0 Q1 B4 D4 ⊢
 have hkb:=HS.out.m.lt
 have hlb:=HS.out.l.lt
 obtain ⟨cw,hwp⟩:=HW.out.pts
 have hwl:=hwp.lt
 obtain ⟨lw,hwo⟩:=HW.out.own
 have S4:=hid (HS.out.frm (Frm.of_below (S:=fun _=>False) B4.out) id id)
 have W4:=hid (HW.out.frm (Frm.of_below (S:=fun _=>False) B4.out) id (fun _ _ h=>h))
 have HWL:=hid (fun q (h:wv.ownBlock=some q)=>(hwo.lt h).2)
 clear hw4 c11 z11 hwp hwo
 go_cut [2] from 13 (fun v wx=>v=.int .i64 T∧wx=w4)
 case first =>
  by_cases hbig:1099511627776<total
  ·have hi:(1099511627776:Int)<(total:Int):=by omega
   have ha:=and15 total ht
   obtain ⟨m,hm⟩:∃ m,total % 16=m:=⟨_,rfl⟩
   have hTe:=HT.out
   unfold totOf at hTe
   rw [if_pos hbig,hm] at hTe
   rw [hm] at ha
   have hmb:m<16:=by omega
   have hTi:(1099511627776:Int)+(m:Int)=(T:Int):=by omega
   have hTw:IntKind.i64.wrap (T:Int)=(T:Int):=Go.IntWalk.i64_in _ (by omega)
   clear hm hTe hbig hmb
   go_wp2
   go_meet
   case rel=>exact ⟨rfl,rfl⟩
  have hi:(total:Int)≤1099511627776:=by omega
  have hTe:=HT.out
  unfold totOf at hTe
  rw [if_neg hbig] at hTe
  subst hTe
  clear hbig
  go_wp2
  go_meet
  case rel=>exact ⟨rfl,rfl⟩
 case rest =>
 obtain ⟨rfl,rfl⟩:=hcut
 have hwn:w.heap.size+2≤wc.heap.size:=by have:=Q1.out.lt;omega
 obtain ⟨rb',hrd,hrb'⟩:=RdAt.start wc k st rep pr base wb kb S (w.heap.size+2) (w.heap.size+2) C wv db rb (newDec bs) T S4.out W4.out D4.out ⟨by omega,by omega⟩ (fun q h=>by have:=HWL.out q h;omega) (by omega) hdb hrb hwn (by omega)
 have RD:=hid hrd
 clear hrd
 go_wp2
 go_step3
 go_wp2
 go_loopg [54] (n+1) (fun gn s54 wr=>∃ (told:List UInt8) (x:RS) (wv1 tv1:Value) (tot:Int),RdAt (ChZ k wb db rb' wv) wc wr k ⟨db,rb',wb,kb,wc.heap.size,S,base,w.heap.size+2⟩ tot x.st x.rep x.s x.C told wv1 tv1∧x.Ok∧told.length≤n∧n+1≤gn+told.length∧chunkGo k S T n gn told x=GO)
 case atStart=>exact ⟨[],⟨st,rep,⟨newDec bs,pr⟩,C⟩,wv,_,T,RD.out,⟨hst,HREP.out⟩,by simp,by simp,HG.out⟩
 case round =>
 obtain ⟨told,x,wv1,tv1,tot,hrd,hx,htl,hgk,hgo⟩:=hrel
 have HX:=hid hx
 have HGK:=hid hgk
 have HRD:=hid hrd
 obtain ⟨d0,d1,d2,d3,d4,-⟩:=hrd.cells
 obtain ⟨A5,c5,htv,hc5,hm5,-⟩:=hrd.o.slice
 subst htv
 clear RD HG hrd hx hgk
 have hnz:∀ b,w.heap.size≤b→b<w.heap.size+2→¬ ChZ k wb db rb' wv b:=by
  rintro b h1 h2 (e | e | e | e | e | e)
  ·omega
  ·omega
  ·omega
  ·omega
  ·omega
  have:=HWL.out b e;omega
 have HNZ:=hid hnz
 clear hnz
 by_cases hn:n≤told.length
 ·have hni:(n:Int)≤((told.length:Nat):Int):=by omega
  have hR:=HR.out
  obtain ⟨g,rfl⟩:∃ g,gk=g+1:=⟨gk-1,by have:=HGK.out;omega⟩
  unfold chunkGo at hgo
  rw [if_pos hn] at hgo
  rw [← hgo] at hR
  simp only at hR
  have HEND:=dend_c db rb' x.s.d wr HRD.out.lz.c
  obtain ⟨⟨f1,f2⟩,hf⟩:∃ p,x.s.d.fin=p:=⟨_,rfl⟩
  rw [hf] at hR HEND
  simp only at HEND
  have HE:=hid HEND
  have h3:(f2≠0)∨(f2=0∧f1≠0)∨(f2=0∧f1=0):=by omega
  clear HEND hf hgo hn
  rcases h3 with h3 | ⟨rfl,h3⟩ | ⟨rfl,rfl⟩
  ·have hR2:none=R:=by rw [if_neg (fun e=>h3 (by injection e))] at hR;exact hR
   subst hR2
   have hf2:((f2:Int)==0)=false:=by rw [beq_eq_false_iff_ne];omega
   have hf3:((f2:Int) != 0)=true:=by rw [bne_iff_ne];omega
   clear hR h3
   go_wp2_with fail
   refine HE.out.mono ?_;rintro e w6 ⟨rfl,hd6,f6⟩
   have h6:=HRD.out.lz.coder hd6 f6
   have H6:=hid (HRD.out.lzStep h6.1 h6.2)
   have e0:=Q0.out.frm H6.out.f (HNZ.out _ (Nat.le_refl _) (by omega))
   have e1:=Q1.out.frm H6.out.f (HNZ.out _ (by omega) (by omega))
   have E0:=hid e0
   have E1:=hid e1
   have c0:=e0.cell 0
   have z0:=e0.frozen 0
   have e2:=e1.other (p:=⟨w.heap.size,0,none⟩) (by simp) (.slice none 0 0)
   have c1:=e2.cell 0
   have z1:=e2.frozen 0
   have r0:=(e0.set 0 (.slice none 0 0)).other (p:=⟨w.heap.size+1,0,none⟩) (by simp) (.int .i64 11)
   have r1:=e2.set 0 (.int .i64 11)
   have FF:Hid (Frm (fun q=>q=w.heap.size∨q=w.heap.size+1) w6 ((w6.setCell ⟨w.heap.size,0,none⟩ (.slice none 0 0)).setCell ⟨w.heap.size+1,0,none⟩ (.int .i64 11))):=hid (((Frm.refl _ w6).setCell (p:=⟨w.heap.size,0,none⟩) (.inl rfl) _).setCell (p:=⟨w.heap.size+1,0,none⟩) (.inr rfl) _)
   have R0:=hid r0
   have R1:=hid r1
   clear e0 e1 e2 r0 r1 hd6 f6 h6 d0 d1 d2 d3 d4
   go_wp2
   simp only [Exit.noGoto_ret]
   go_wp2
   refine leaves_cons (f:=141) (args:=#[.pointer (some ⟨w.heap.size,0,none⟩),.pointer (some ⟨w.heap.size+1,0,none⟩)]) (by simp) (by simp [go_sem]) ?_
   refine (chunk_idle _ _ _).mono ?_
   rintro e u' w'' ⟨rfl,rfl,rfl⟩
   have k0:=R0.out.cell 0
   have k1:=R1.out.cell 0
   simp [Leaves,settle,results,Tryz.results120,go_sem,k0,k1]
   exact chunk_none B4.out H6.out.f hdb hrb' FF.out
  ·have hR2:none=R:=by rw [if_neg (fun e=>h3 (by injection e))] at hR;exact hR
   subst hR2
   have hf2:((f1:Int)==0)=false:=by rw [beq_eq_false_iff_ne];omega
   have hf3:((f1:Int) != 0)=true:=by rw [bne_iff_ne];omega
   clear hR h3
   go_wp2_with fail
   refine HE.out.mono ?_;rintro e w6 ⟨rfl,hd6,f6⟩
   have h6:=HRD.out.lz.coder hd6 f6
   have H6:=hid (HRD.out.lzStep h6.1 h6.2)
   have e0:=Q0.out.frm H6.out.f (HNZ.out _ (Nat.le_refl _) (by omega))
   have e1:=Q1.out.frm H6.out.f (HNZ.out _ (by omega) (by omega))
   have E0:=hid e0
   have E1:=hid e1
   have c0:=e0.cell 0
   have z0:=e0.frozen 0
   have e2:=e1.other (p:=⟨w.heap.size,0,none⟩) (by simp) (.slice none 0 0)
   have c1:=e2.cell 0
   have z1:=e2.frozen 0
   have r0:=(e0.set 0 (.slice none 0 0)).other (p:=⟨w.heap.size+1,0,none⟩) (by simp) (.int .i64 11)
   have r1:=e2.set 0 (.int .i64 11)
   have FF:Hid (Frm (fun q=>q=w.heap.size∨q=w.heap.size+1) w6 ((w6.setCell ⟨w.heap.size,0,none⟩ (.slice none 0 0)).setCell ⟨w.heap.size+1,0,none⟩ (.int .i64 11))):=hid (((Frm.refl _ w6).setCell (p:=⟨w.heap.size,0,none⟩) (.inl rfl) _).setCell (p:=⟨w.heap.size+1,0,none⟩) (.inr rfl) _)
   have R0:=hid r0
   have R1:=hid r1
   clear e0 e1 e2 r0 r1 hd6 f6 h6 d0 d1 d2 d3 d4
   go_wp2
   simp only [Exit.noGoto_ret]
   go_wp2
   refine leaves_cons (f:=141) (args:=#[.pointer (some ⟨w.heap.size,0,none⟩),.pointer (some ⟨w.heap.size+1,0,none⟩)]) (by simp) (by simp [go_sem]) ?_
   refine (chunk_idle _ _ _).mono ?_
   rintro e u' w'' ⟨rfl,rfl,rfl⟩
   have k0:=R0.out.cell 0
   have k1:=R1.out.cell 0
   simp [Leaves,settle,results,Tryz.results120,go_sem,k0,k1]
   exact chunk_none B4.out H6.out.f hdb hrb' FF.out
  have hR2:some (told,x)=R:=by rw [if_pos rfl] at hR;exact hR
  subst hR2
  clear hR
  go_wp2_with fail
  refine HE.out.mono ?_;rintro e w6 ⟨rfl,hd6,f6⟩
  have h6:=HRD.out.lz.coder hd6 f6
  have H6:=hid (HRD.out.lzStep h6.1 h6.2)
  have e0:=Q0.out.frm H6.out.f (HNZ.out _ (Nat.le_refl _) (by omega))
  have e1:=Q1.out.frm H6.out.f (HNZ.out _ (by omega) (by omega))
  have E0:=hid e0
  have E1:=hid e1
  have c0:=e0.cell 0
  have z0:=e0.frozen 0
  have e2:=e1.other (p:=⟨w.heap.size,0,none⟩) (by simp) (.slice A5 told.length c5)
  have c1:=e2.cell 0
  have z1:=e2.frozen 0
  have r0:=(e0.set 0 (.slice A5 told.length c5)).other (p:=⟨w.heap.size+1,0,none⟩) (by simp) (.int .i64 0)
  have r1:=e2.set 0 (.int .i64 0)
  have FF:Hid (Frm (fun q=>q=w.heap.size∨q=w.heap.size+1) w6 ((w6.setCell ⟨w.heap.size,0,none⟩ (.slice A5 told.length c5)).setCell ⟨w.heap.size+1,0,none⟩ (.int .i64 0))):=hid (((Frm.refl _ w6).setCell (p:=⟨w.heap.size,0,none⟩) (.inl rfl) _).setCell (p:=⟨w.heap.size+1,0,none⟩) (.inr rfl) _)
  have R0:=hid r0
  have R1:=hid r1
  obtain ⟨-,-,-,-,k4,-⟩:=H6.out.cells
  have k4z:=k4
  clear e0 e1 e2 r0 r1 hd6 f6 h6 d0 d1 d2 d3 d4
  go_wp2
  simp only [Exit.noGoto_ret]
  go_wp2
  refine leaves_cons (f:=141) (args:=#[.pointer (some ⟨w.heap.size,0,none⟩),.pointer (some ⟨w.heap.size+1,0,none⟩)]) (by simp) (by simp [go_sem]) ?_
  refine (chunk_idle _ _ _).mono ?_
  rintro e u' w'' ⟨rfl,rfl,rfl⟩
  have k0:=R0.out.cell 0
  have k1:=R1.out.cell 0
  simp [Leaves,settle,results,Tryz.results120,go_sem,k0,k1]
  exact chunk_some B4.out H6.out hdb hrb' FF.out E0.out E1.out
 have hni:((told.length:Nat):Int)<(n:Int):=by omega
 obtain ⟨g,rfl⟩:∃ g,gk=g+1:=⟨gk-1,by have:=HGK.out;omega⟩
 unfold chunkGo at hgo
 rw [if_neg hn] at hgo
 obtain ⟨L,hL⟩:∃ L,told.length=L:=⟨_,rfl⟩
 obtain ⟨tl,htl2⟩:∃ tl,T+L=tl:=⟨_,rfl⟩
 obtain ⟨rm,hrm⟩:∃ rm,n-L=rm:=⟨_,rfl⟩
 obtain ⟨SR,hSR⟩:∃ SR,stepOf k S tl rm x=SR:=⟨_,rfl⟩
 rw [hL] at hni hc5 d4 htl hgo hn
 rw [htl2,hrm,hSR] at hgo
 have htli:(T:Int)+(L:Int)=(tl:Int):=by omega
 have htlw:IntKind.i64.wrap (tl:Int)=(tl:Int):=Go.IntWalk.i64_in _ (by omega)
 have hrmi:(n:Int)-(L:Int)=(rm:Int):=by omega
 have hrmw:IntKind.i64.wrap (rm:Int)=(rm:Int):=Go.IntWalk.i64_in _ (by omega)
 have h7:=HRD.out.setTotal tl
 rw [hL] at h7
 have z3:=HRD.out.p.frozen 3
 obtain ⟨q0,q1,q2,q3,q4,-⟩:=h7.cells
 have HSTEP:=hid (step_any (ChZ k wb db rb' wv) wc _ k ⟨db,rb',wb,kb,wc.heap.size,S,base,w.heap.size+2⟩ tl rm x told wv1 _ h7 HK.out (by omega) HX.out hS (by omega) (by omega))
 have HSR:=hid hSR
 have HGO:=hid hgo
 have HL:=hid hL
 have HB1:Hid (T+L=tl∧n-L=rm):=hid ⟨htl2,hrm⟩
 clear h7 hSR hgo hL htl2 hrm
 go_wp2_with fail
 refine HSTEP.out.mono ?_;rintro e w6 (⟨b,y,wv2,tv2,hR2,rfl,h8⟩ | ⟨hR2,⟨xp,rfl⟩,st9,rep9,s9,C9,told9,wv9,tv9,h9⟩)
 ·have hR3:stepOf k S tl rm x=some (b,y):=hR2
  have hgo:=HGO.out
  have h1:=HSR.out
  rw [hR3] at h1
  rw [← h1] at hgo
  have hi:=stepOf_inv HX.out (by have:=HB1.out;omega) hR3
  have H8:=hid h8
  have HI:=hid hi
  have HGO2:=hid hgo
  clear hR2 hR3 hgo h1 hi h8 HGO HSR HSTEP q0 q1 q2 q3 q4 z3 d0 d1 d2 d3 d4
  go_wp2
  go_roundg g
  case measure=>omega
  case rel =>
  refine ⟨told++b,y,wv2,tv2,tl,H8.out,HI.out.1,?_,?_,HGO2.out⟩
  ·have:=HB1.out;have:=HI.out.2;have:=HL.out;rw [List.length_append];omega
  have:=HB1.out;have:=HI.out.2;have:=HL.out;have:=HGK.out;rw [List.length_append];omega
 have hR3:stepOf k S tl rm x=none:=hR2
 have hgo:=HGO.out
 have h1:=HSR.out
 rw [hR3] at h1
 rw [← h1] at hgo
 have hR:=HR.out
 rw [← hgo] at hR
 have hR4:none=R:=hR
 subst hR4
 have H9:=hid h9
 have E0:=hid (Q0.out.frm h9.f (HNZ.out _ (Nat.le_refl _) (by omega)))
 have E1:=hid (Q1.out.frm h9.f (HNZ.out _ (by omega) (by omega)))
 clear hR2 hR3 hgo h1 hR h9 HR HGO HSR HSTEP q0 q1 q2 q3 q4 z3 d0 d1 d2 d3 d4
 go_wp2
 refine leaves_cons (f:=141) (args:=#[.pointer (some ⟨w.heap.size,0,none⟩),.pointer (some ⟨w.heap.size+1,0,none⟩)]) (by simp) (by simp [go_sem]) ?_
 refine (chunk_caught _ _ xp _ _ _ _ E0.out E1.out).mono ?_
 rintro e u' w'' ⟨rfl,rfl,k0,k1,kf⟩
 have c0:=k0.cell 0
 have c1:=k1.cell 0
 simp [Leaves,settle,results,Tryz.results120,go_sem,c0,c1]
 exact chunk_none B4.out H9.out.f hdb hrb' kf
open Go.RowKit Rng Lz Win
theorem chunk_p (k:LK) (st:Nat) (rep:Nat→Nat) (pr:Pr) (base wb kb S:Nat) (C bs:List UInt8) (wv:Value) (A:Option Addr) (n c l total:Nat) (w:World)
 (hs:StAt w k st rep pr) (hw:WinC w base wb kb S C wv) (hb:base≤w.heap.size) (hS:S≤16777216) (hk:k.Ok) (hst:st<12) (hrep:∀ j,rep j<4294967296)
 (hl:l=bs.length) (hr:BRow w w.heap.size A bs) (hc:bs.length≤c) (hcm:c≤maxLen) (hlen:bs.length≤140737488355328)
 (h1:1≤n) (h2:n≤2097152) (ht:total<9223372036854775808) :
 Calls Tryz.prog 120 #[.pointer (some ⟨k.sb,0,none⟩),.pointer (some ⟨wb,0,none⟩),.int .i64 total,.slice A l c,.int .i64 n] w fun e w'=>ChunkEnd k base wb kb S wv w (chunkOf k S total n st rep pr C bs) e w':=by
 by_cases hn:newErr bs=0
 ·exact chunk_main k st rep pr base wb kb S C bs wv A n c l total w hs hw hb hS hk hst hrep hl hr hc hcm hlen h1 h2 ht hn
 have e:chunkOf k S total n st rep pr C bs=none:=by unfold chunkOf;rw [if_pos hn]
 rw [e]
 refine (chunk_bad w ⟨k.sb,0,none⟩ ⟨wb,0,none⟩ total n A bs l c (by omega) (by omega) (by omega) hl hr hc hcm hn).mono ?_
 rintro e w' ⟨rfl,hB⟩
 exact ⟨(Frm.of_below (S:=fun _=>False) hB).mono fun _ _ h=>h.elim,.inl ⟨rfl,rfl⟩⟩
theorem newK_ok (b lb:Nat):(newK b lb).Ok:=⟨by show 3+0≤4;omega,by show 2≤4;omega⟩
theorem lnew_st (w:World):Calls Tryz.prog 36 #[] w fun e w'=>∃ b lb,e=.returned (.pointer (some ⟨b,0,none⟩))∧w.heap.size≤b∧w.heap.size≤lb∧StAt w' (newK b lb) 0 (fun _=>0) (fun _=>1024)∧Below w.heap.size w w':=by
 refine (lnew_p w).mono ?_
 rintro e w' ⟨b,lb,rfl,h1,h2,h3,h4,h5,h6⟩
 exact ⟨b,lb,rfl,h1,h2,⟨h4,h5,fun _=>(by decide:1024<65536),h3⟩,h6⟩
theorem made_bytes (n:Nat) (hn:n≤16777216) (w:World) :
 (Instr.makeSlice 22 (.int .i64 (n:Int)) (.int .i64 (n:Int))).run Tryz.prog w=.ok (.slice (some ⟨w.heap.size,0,none⟩) n n) (w.alloc (.cells (madeCells #[.int .u8 0] n) 5)):=by
 obtain ⟨i,hi,hz⟩:=Option.map_eq_some_iff.1 Tryz.info_u8
 simp only [Prod.mk.injEq] at hz
 have h:=run_make (P:=Tryz.prog) w 22 5 i (.int .u8 0) Tryz.underlying22 hi hz.1 .i64 .i64 n n (by omega) (by omega) (by rw [hz.2.2];omega) (by omega)
 rw [hz.2.1] at h
 simp only [Int.toNat_natCast,Nat.mul_one] at h
 exact h
theorem noughts_row (n:Nat) (w:World):BRow (w.alloc (.cells (madeCells #[.int .u8 0] n) 5)) (w.alloc (.cells (madeCells #[.int .u8 0] n) 5)).heap.size (some ⟨w.heap.size,0,none⟩) (List.replicate n 0):=by
 intro _
 refine ⟨w.heap.size,0,rfl,by simp,fun k hk=>?_⟩
 rw [Nat.zero_add,(Pts.new w (madeCells #[.int .u8 0] n) 5).cell]
 have hkn:k<n:=by simpa using hk
 have h1:(madeCells #[Value.int .u8 0] n)[k]?=some (.int .u8 0):=by simp [madeCells,hkn,Nat.mod_one]
 rw [h1]
 simp [List.getD,hkn,byteV]
theorem StAt.later {w w':World} {k:LK} {st:Nat} {rep:Nat→Nat} {pr:Pr} (h:StAt w k st rep pr) (hb:Below w.heap.size w w'):StAt w' k st rep pr:=h.frm (Frm.of_below (S:=fun _=>False) hb) id id
theorem WinC.later {w w':World} {base wb kb S:Nat} {C:List UInt8} {v:Value} (h:WinC w base wb kb S C v) (hb:Below w.heap.size w w'):WinC w' base wb kb S C v:=h.frm (Frm.of_below (S:=fun _=>False) hb) id (fun _ _ h=>h)
theorem below_alloc (w:World) (o:Obj):Below w.heap.size w (w.alloc o):=(Below.refl _ w).alloc (Nat.le_refl _) o
open Go.RowKit Rng Win Lz
theorem clear_c (base wb kb S:Nat) (C:List UInt8) (v:Value) (w:World) (h:WinC w base wb kb S C v) :
 Calls Tryz.prog 117 #[.pointer (some ⟨wb,0,none⟩)] w fun e w'=>∃ v':Value,e=.returned (.tuple #[])∧WinC w' base wb kb S [] v'∧Frm (· = wb) w w'∧v'.ownBlock=v.ownBlock:=by
 obtain ⟨R,a,hw,_⟩:=h
 refine (clear_win base wb kb S a v R w hw).mono ?_
 rintro e w' ⟨v',rfl,h1,h2,h3⟩
 exact ⟨v',rfl,⟨[],0,h1,rfl⟩,h2,h3⟩
theorem reset_s (k:LK) (st:Nat) (rep:Nat→Nat) (pr:Pr) (w:World) (h:StAt w k st rep pr) (hk:k.Ok) :
 Calls Tryz.prog 79 #[.pointer (some ⟨k.sb,0,none⟩)] w fun e w'=>e=.returned (.tuple #[])∧∃ lb,w.heap.size≤lb∧StAt w' ⟨k.sb,lb,k.lc,k.lp,k.pb⟩ 0 (fun _=>0) (fun _=>1024)∧Frm (· = k.sb) w w':=by
 have hm:=h.m
 rw [← qcells_m] at hm
 refine (lreset_st k.sb k.lc k.lp k.pb st rep pr _ 169 w hm hk.a ⟨_,_,_,rfl⟩ hk.b).mono ?_
 rintro e w' ⟨rfl,lb,h3,h4,h5,hf⟩
 exact ⟨rfl,lb,h3,⟨h4,h5,fun _=>(by decide:1024<65536),by have:=h.m.lt;show k.sb≠lb;omega⟩,hf⟩
theorem set_s (k:LK) (st p:Nat) (rep:Nat→Nat) (pr:Pr) (w:World) (h:StAt w k st rep pr) (hp:p≤255) (hb:¬ badP p) :
 Calls Tryz.prog 119 #[.pointer (some ⟨k.sb,0,none⟩),.int .u8 p] w fun e w'=>e=.returned (.int .i64 0)∧∃ lb,w.heap.size≤lb∧StAt w' ⟨k.sb,lb,p % 9,p / 9 % 5,p / 45⟩ 0 (fun _=>0) (fun _=>1024)∧Frm (· = k.sb) w w':=by
 have hm:=h.m
 rw [← qcells_m] at hm
 refine (props_p p k.sb k.lc k.lp k.pb st rep pr _ 169 w hm ⟨_,_,_,rfl⟩ hp).mono ?_
 rintro e w' ⟨rfl,hf,h2⟩
 unfold badP at hb
 obtain ⟨lb,h3,h4,h5⟩:=h2 hb
 rw [if_neg hb]
 exact ⟨rfl,lb,h3,⟨h4,h5,fun _=>(by decide:1024<65536),by have:=h.m.lt;show k.sb≠lb;omega⟩,hf⟩
theorem set_bad (k:LK) (st p:Nat) (rep:Nat→Nat) (pr:Pr) (w:World) (h:StAt w k st rep pr) (hp:p≤255) (hb:badP p) :
 Calls Tryz.prog 119 #[.pointer (some ⟨k.sb,0,none⟩),.int .u8 p] w fun e w'=>e=.returned (.int .i64 11)∧Frm (· = k.sb) w w':=by
 have hm:=h.m
 rw [← qcells_m] at hm
 refine (props_p p k.sb k.lc k.lp k.pb st rep pr _ 169 w hm ⟨_,_,_,rfl⟩ hp).mono ?_
 rintro e w' ⟨rfl,hf,h2⟩
 unfold badP at hb
 rw [if_pos hb]
 exact ⟨rfl,hf⟩
structure RdS (w:World) (rb fb wb kb base S:Nat) (k:LK) (x:DS) (wv:Value) (A:Option Addr) (n c used:Nat) (most:Int):Prop where
 p:Pts w rb #[.pointer (some ⟨wb,0,none⟩),.pointer (some ⟨k.sb,0,none⟩),.pointer (some ⟨fb,0,none⟩),.int .i64 x.total,.int .i64 most,.bool x.begun,.bool x.props] 71
 s:StAt w k x.st x.rep x.pr
 ks:k.lc=x.lc∧k.lp=x.lp∧k.pb=x.pb
 ok:k.Ok
 st:x.st<12∧∀ j,x.rep j<4294967296
 win:WinC w base wb kb S x.C wv
 b:base≤w.heap.size
 src:SrcAt w fb A n c used
def RdB (rb fb wb:Nat) (k:LK) (wv:Value) (q:Nat):Prop:=q=rb∨q=fb∨q=wb∨q=k.sb∨q=k.lb∨wv.ownBlock=some q
section
variable {w w' : World} {rb fb wb kb base S : Nat} {k : LK} {x : DS} {wv : Value} {A : Option Addr} {n c used : Nat} {most : Int}
theorem RdS.cells (h:RdS w rb fb wb kb base S k x wv A n c used most):w.cell? ⟨rb,0,none⟩=some (.pointer (some ⟨wb,0,none⟩))∧w.cell? ⟨rb,1,none⟩=some (.pointer (some ⟨k.sb,0,none⟩))∧w.cell? ⟨rb,2,none⟩=some (.pointer (some ⟨fb,0,none⟩)) ∧
 w.cell? ⟨rb,3,none⟩=some (.int .i64 x.total)∧w.cell? ⟨rb,4,none⟩=some (.int .i64 most)∧w.cell? ⟨rb,5,none⟩=some (.bool x.begun)∧w.cell? ⟨rb,6,none⟩=some (.bool x.props):=by
 refine ⟨?_,?_,?_,?_,?_,?_,?_⟩ <;> (rw [h.p.cell];rfl)
theorem RdS.frm {N:Nat→Prop} (h:RdS w rb fb wb kb base S k x wv A n c used most) (hf:Frm N w w') (hN:∀ q,RdB rb fb wb k wv q→¬ N q):RdS w' rb fb wb kb base S k x wv A n c used most :=
 ⟨h.p.frm hf (hN _ (.inl rfl)),h.s.frm hf (hN _ (.inr (.inr (.inr (.inl rfl))))) (hN _ (.inr (.inr (.inr (.inr (.inl rfl)))))),h.ks,h.ok,h.st,h.win.frm hf (hN _ (.inr (.inr (.inl rfl)))) (fun q hq=>hN q (.inr (.inr (.inr (.inr (.inr hq)))))),Nat.le_trans h.b hf.size,Pts.frm h.src hf (hN _ (.inr (.inl rfl)))⟩
theorem RdS.later (h:RdS w rb fb wb kb base S k x wv A n c used most) (hf:Frm (fun _=>False) w w'):RdS w' rb fb wb kb base S k x wv A n c used most:=h.frm hf (fun _ _ e=>e)
theorem RdS.ne (h:RdS w rb fb wb kb base S k x wv A n c used most):rb≠fb∧rb≠wb∧rb≠k.sb∧rb≠k.lb∧fb≠wb∧fb≠k.sb∧fb≠k.lb∧wb≠k.sb∧wb≠k.lb∧(∀ q,wv.ownBlock=some q→rb≠q∧fb≠q∧k.sb≠q∧k.lb≠q):=by
 obtain ⟨cw,hw⟩:=h.win.pts
 refine ⟨h.p.ne_of h.src (by decide),h.p.ne_of hw (by decide),h.p.ne_of h.s.m (by decide),h.p.ne_of h.s.l (by decide),Pts.ne_of h.src hw (by decide),Pts.ne_of h.src h.s.m (by decide),Pts.ne_of h.src h.s.l (by decide),hw.ne_of h.s.m (by decide),hw.ne_of h.s.l (by decide),?_⟩
 intro q hq
 obtain ⟨l,ho⟩:=h.win.own
 rcases ho.form with ⟨e,_⟩ | ⟨g,cap,cur,e,_,hp,_⟩
 ·rw [e] at hq;cases hq
 rw [e] at hq
 have hq':g=q:=by simpa [Value.ownBlock] using hq
 subst hq'
 exact ⟨h.p.ne_of hp (by decide),Pts.ne_of h.src hp (by decide),h.s.m.ne_of hp (by decide),h.s.l.ne_of hp (by decide)⟩
theorem RdS.own (h:RdS w rb fb wb kb base S k x wv A n c used most) (i:Nat) (v:Value) (y:DS) (hy:y.lc=x.lc∧y.lp=x.lp∧y.pb=x.pb∧y.st=x.st∧y.rep=x.rep∧y.pr=x.pr∧y.C=x.C)
 (hc:(#[.pointer (some ⟨wb,0,none⟩),.pointer (some ⟨k.sb,0,none⟩),.pointer (some ⟨fb,0,none⟩),.int .i64 x.total,.int .i64 most,.bool x.begun,.bool x.props]:Array Value).setIfInBounds i v=#[.pointer (some ⟨wb,0,none⟩),.pointer (some ⟨k.sb,0,none⟩),.pointer (some ⟨fb,0,none⟩),.int .i64 y.total,.int .i64 most,.bool y.begun,.bool y.props]) :
 RdS (w.setCell ⟨rb,i,none⟩ v) rb fb wb kb base S k y wv A n c used most∧Frm (· = rb) w (w.setCell ⟨rb,i,none⟩ v):=by
 have hf:Frm (· = rb) w (w.setCell ⟨rb,i,none⟩ v):=Frm.setCell (S:=fun q=>q=rb) (Frm.refl _ w) (p:=⟨rb,i,none⟩) (by rfl) v
 obtain ⟨y1,y2,y3,y4,y5,y6,y7⟩:=hy
 obtain ⟨n1,n2,n3,n4,n5,n6,n7,n8,n9,n10⟩:=h.ne
 have hp:=h.p.set i v
 rw [hc] at hp
 refine ⟨⟨hp,?_,by rw [y1,y2,y3];exact h.ks,h.ok,by rw [y4,y5];exact h.st,?_,Nat.le_trans h.b hf.size,Pts.frm h.src hf (fun e=>n1 e.symm)⟩,hf⟩
 ·rw [y4,y5,y6];exact h.s.frm hf (fun e=>n3 e.symm) (fun e=>n4 e.symm)
 rw [y7];exact h.win.frm hf (fun e=>n2 e.symm) (fun q hq e=>(n10 q hq).1 e.symm)
end
end Go.Proofs.YtffehfpbdcokbaaGreat
