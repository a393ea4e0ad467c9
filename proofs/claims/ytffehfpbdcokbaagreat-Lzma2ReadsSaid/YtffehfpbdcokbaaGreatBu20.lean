import Derived.Test.YtffehfpbdcokbaaGreatBu19
set_option linter.unusedVariables false
set_option linter.unusedSimpArgs false
namespace Go.Proofs.YtffehfpbdcokbaaGreat
open Lib (hid)
open Go.RowKit Rng Win Lz
theorem chunkOf_inv {k:LK} {S total n st:Nat} {rep:Nat→Nat} {pr:Pr} {C bs t:List UInt8} {y:RS} (hst:st<12) (hrep:∀ j,rep j<4294967296) (h:chunkOf k S total n st rep pr C bs=some (t,y)):y.Ok∧t.length=n:=by
 unfold chunkOf at h
 split at h
 ·cases h
 split at h
 ·cases h
 rename_i told x hx
 split at h
 ·injection h with h
  injection h with h1 h2
  subst h1 h2
  have hi:=chunkGo_inv _ (x:=⟨st,rep,⟨newDec bs,pr⟩,C⟩) ⟨hst,hrep⟩ (by simp) hx
  exact ⟨hi.1,hi.2.1⟩
 cases h
theorem chunk_tells {w w3 w4:World} {rb fb wb kb base S B0:Nat} {k k1:LK} {x1:DS} {wv wv1:Value} {A':Option Addr} {n' c' used' n un:Nat} {most:Int} {rest bs:List UInt8} {e:Ending}
 (hd:RdS w3 rb fb wb kb base S k1 x1 wv1 A' n' c' used' most) (hf:Frm (RdB rb fb wb k wv) w w3) (hB:∀ q,RdB rb fb wb k wv q→B0≤q) (hB0:B0≤w.heap.size)
 (hsb:k1.sb=k.sb) (hlb:k1.lb=k.lb∨w.heap.size≤k1.lb) (ho:wv1.ownBlock=wv.ownBlock) (hr:BRow w3 B0 A' rest) (hn:n'=rest.length) (hc:n'≤c') (hcm:c'≤maxLen) (hu:used'+n'=un) (ht:x1.total<9223372036854775808)
 (h:ChunkEnd k1 base wb kb S wv1 w3 (chunkOf k1 S x1.total n x1.st x1.rep x1.pr x1.C bs) e w4):BodyEnd rb fb wb kb base S B0 k wv most un w (oneLz S x1 n bs rest) e w4:=by
 obtain ⟨hf4,hend⟩:=h
 have hF:Frm (RdB rb fb wb k wv) w w4:=hf.transW hf4 (by
  rintro q (e | e | e | e) hq
  ·exact .inr (.inr (.inr (.inl (e.trans hsb))))
  ·rcases hlb with e2 | e2
   ·exact .inr (.inr (.inr (.inr (.inl (e.trans e2)))))
   omega
  ·exact .inr (.inr (.inl e))
  rw [ho] at e;exact .inr (.inr (.inr (.inr (.inr e)))))
 refine ⟨hF,?_⟩
 have hlk:=chunkOf_lk k1 S x1.total n x1.st x1.rep x1.pr x1.C bs
 rw [hd.ks.1,hd.ks.2.1,hd.ks.2.2] at hlk
 unfold oneLz
 rw [← hlk]
 rcases hend with ⟨e1,e2⟩ | ⟨told,y,tv,wv',e1,e2,h1,h2,h3,h4,h5⟩
 ·rw [e1]
  obtain ⟨n1,n2,n3,n4,n5,n6,n7,n8,n9,n10⟩:=hd.ne
  refine ⟨e2,?_⟩
  rw [← hsb]
  refine (hd.ownB ht (un:=un) (by omega)).frm hf4 ?_ ?_
  ·rintro (e | e | e | e)
   ·exact n3 e
   ·exact n4 e
   ·exact n2 e
   exact (n10 _ e).1 rfl
  rintro (e | e | e | e)
  ·exact n6 e
  ·exact n7 e
  ·exact n5 e
  exact (n10 _ e).2.1 rfl
 have hy:=chunkOf_inv hd.st.1 hd.st.2 e1
 rw [e1]
 obtain ⟨n1,n2,n3,n4,n5,n6,n7,n8,n9,n10⟩:=hd.ne
 obtain ⟨A5,c5,e5,h6,h7,h8⟩:=h1.slice
 have hz3:B0≤w3.heap.size:=Nat.le_trans hB0 hf.size
 have hno:∀ q,q=rb∨q=fb→¬ (q=k1.sb∨q=k1.lb∨q=wb∨wv1.ownBlock=some q):=by
  rintro q hq (e | e | e | e)
  ·rcases hq with e2 | e2 <;> omega
  ·rcases hq with e2 | e2 <;> omega
  ·rcases hq with e2 | e2 <;> omega
  have h10:=n10 q e
  rcases hq with e2 | e2 <;> omega
 refine ⟨k1,wv',A',n',c',used',A5,c5,by rw [e2,e5],⟨hd.p.frm hf4 (hno _ (.inl rfl)),h2,hd.ks,hd.ok,⟨hy.1.1,hy.1.2⟩,h3,Nat.le_trans hd.b hf4.size,Pts.frm hd.src hf4 (hno _ (.inr rfl))⟩,?_,hn,hc,hcm,hu,h8,h6,h7,hsb,hlb,?_⟩
 ·refine row_kept hr hf4 hz3 ?_
  rintro q (e | e | e | e)
  ·exact hB q (.inr (.inr (.inr (.inl (e.trans hsb)))))
  ·rcases hlb with e2 | e2
   ·exact hB q (.inr (.inr (.inr (.inr (.inl (e.trans e2))))))
   omega
  ·exact hB q (.inr (.inr (.inl e)))
  rw [ho] at e;exact hB q (.inr (.inr (.inr (.inr (.inr e)))))
 intro q hq
 rcases h4 q hq with e | e
 ·exact .inl (ho▸e)
 exact .inr (Nat.le_trans hf.size e)
theorem and31 (c:Nat) (h:c<256):bits .and .u8 (c:Int) 31=((c % 32:Nat):Int):=by
 have h1:bits .and .u8 (c:Int) ((31:Nat):Int)=((c &&& 31:Nat):Int):=u8_and_nat c 31 h (by decide)
 rw [show (31:Int)=((31:Nat):Int) from rfl,h1,show (31:Nat)=2 ^ 5-1 by rfl,Nat.and_two_pow_sub_one_eq_mod]
set_option maxRecDepth 8000 in
set_option maxHeartbeats 2000000 in
theorem body_lz (rb fb wb kb base S B0:Nat) (k:LK) (x:DS) (wv:Value) (A:Option Addr) (n c used:Nat) (most:Int) (bs hd:List UInt8) (hb off cc:Nat) (w:World)
 (h:RdS w rb fb wb kb base S k x wv A n c used most) (hB:∀ q,RdB rb fb wb k wv q→B0≤q) (hB0:B0≤w.heap.size) (hS:S≤16777216) (hn:n=bs.length) (hr:BRow w B0 A bs) (hc:n≤c) (hcm:c≤maxLen)
 (hhr:BRow w B0 (some ⟨hb,off,none⟩) hd) (hdl:hd.length=5) (hcc:(hd.getD 0 0).toNat=cc) (hleg:128≤cc∧cc<192) (hu:used+n≤4611686018427387904) (ht:x.total<9223372036854775808) :
 Calls Tryz.prog 81 #[.pointer (some ⟨rb,0,none⟩),.slice (some ⟨hb,off,none⟩) 5 5] w (BodyEnd rb fb wb kb base S B0 k wv most (used+n) w (oneBody S x cc hd bs)):=by
 have b0:w.cell? ⟨hb,off,none⟩=some (.int .u8 ((cc:Nat):Int)):=by rw [← hcc];exact hhr.addr (k:=0) (by omega)
 have b1:w.cell? ⟨hb,off+1,none⟩=some (.int .u8 (((hd.getD 1 0).toNat:Nat):Int)):=hhr.addr (k:=1) (by omega)
 have b2:w.cell? ⟨hb,off+2,none⟩=some (.int .u8 (((hd.getD 2 0).toNat:Nat):Int)):=hhr.addr (k:=2) (by omega)
 have b3:w.cell? ⟨hb,off+3,none⟩=some (.int .u8 (((hd.getD 3 0).toNat:Nat):Int)):=hhr.addr (k:=3) (by omega)
 have b4:w.cell? ⟨hb,off+4,none⟩=some (.int .u8 (((hd.getD 4 0).toNat:Nat):Int)):=hhr.addr (k:=4) (by omega)
 obtain ⟨N,hN⟩:∃ N,twoB hd 1+1=N:=⟨_,rfl⟩
 obtain ⟨M,hM⟩:∃ M,twoB hd 3+1=M:=⟨_,rfl⟩
 have hNl:N≤65536:=by have:=twoB_le hd 1;omega
 have hMl:M≤65536:=by have:=twoB_le hd 3;omega
 have hM1:1≤M:=by omega
 have hl1:=(hd.getD 1 0).toNat_lt
 have hl2:=(hd.getD 2 0).toNat_lt
 have hl3:=(hd.getD 3 0).toNat_lt
 have hl4:=(hd.getD 4 0).toNat_lt
 have e8:=shl8 (hd.getD 1 0)
 have e8b:=shl8 (hd.getD 3 0)
 have hsum:((hd.getD 1 0).toNat:Int)*256+((hd.getD 2 0).toNat:Int)+1=(N:Int):=by have e:twoB hd 1=(hd.getD 1 0).toNat*256+(hd.getD 2 0).toNat:=rfl;omega
 have hsumb:((hd.getD 3 0).toNat:Int)*256+((hd.getD 4 0).toNat:Int)+1=(M:Int):=by have e:twoB hd 3=(hd.getD 3 0).toNat*256+(hd.getD 4 0).toNat:=rfl;omega
 obtain ⟨h1v,hh1⟩:∃ v,(hd.getD 1 0).toNat=v:=⟨_,rfl⟩
 obtain ⟨h2v,hh2⟩:∃ v,(hd.getD 2 0).toNat=v:=⟨_,rfl⟩
 obtain ⟨h3v,hh3⟩:∃ v,(hd.getD 3 0).toNat=v:=⟨_,rfl⟩
 obtain ⟨h4v,hh4⟩:∃ v,(hd.getD 4 0).toNat=v:=⟨_,rfl⟩
 rw [hh1] at b1 e8 hsum hl1
 rw [hh2] at b2 hsum hl2
 rw [hh3] at b3 e8b hsumb hl3
 rw [hh4] at b4 hsumb hl4
 have hw1:IntKind.i64.wrap ((h1v:Int)*256+(h2v:Int))=(h1v:Int)*256+(h2v:Int):=Go.IntWalk.i64_in _ (by omega)
 have hw1b:IntKind.i64.wrap ((h3v:Int)*256+(h4v:Int))=(h3v:Int)*256+(h4v:Int):=Go.IntWalk.i64_in _ (by omega)
 have hw2:IntKind.i64.wrap (N:Int)=(N:Int):=Go.IntWalk.i64_in _ (by omega)
 have hw2b:IntKind.i64.wrap (M:Int)=(M:Int):=Go.IntWalk.i64_in _ (by omega)
 have hwa:IntKind.i64.wrap (h1v:Int)=(h1v:Int):=Go.IntWalk.i64_in _ (by omega)
 have hwb:IntKind.i64.wrap (h2v:Int)=(h2v:Int):=Go.IntWalk.i64_in _ (by omega)
 have hwc:IntKind.i64.wrap (h3v:Int)=(h3v:Int):=Go.IntWalk.i64_in _ (by omega)
 have hwd:IntKind.i64.wrap (h4v:Int)=(h4v:Int):=Go.IntWalk.i64_in _ (by omega)
 have a31:=and31 cc (by omega)
 obtain ⟨c31,hc31⟩:∃ v,cc % 32=v:=⟨_,rfl⟩
 have hcl:c31<32:=by omega
 rw [hc31] at a31
 have hw31:IntKind.i64.wrap (c31:Int)=(c31:Int):=Go.IntWalk.i64_in _ (by omega)
 have hw32:IntKind.i64.wrap ((c31:Int)*65536)=(c31:Int)*65536:=Go.IntWalk.i64_in _ (by omega)
 obtain ⟨T,hT⟩:∃ T,N+c31*65536=T:=⟨_,rfl⟩
 have hTl:T≤2097152:=by omega
 have hT1:1≤T:=by omega
 have hti:(N:Int)+(c31:Int)*65536=(T:Int):=by omega
 have hwt:IntKind.i64.wrap (T:Int)=(T:Int):=Go.IntWalk.i64_in _ (by omega)
 have q1:((cc:Int)==1)=false:=beq_eq_false_iff_ne.2 (by omega)
 have q2:(cc:Int)<224:=by omega
 have q3:(3:Int)≤(cc:Int):=by omega
 have q4:(cc:Int)<192:=by omega
 have D0:=hid (h.later ((Frm.refl (fun _=>False) w).drew))
 have F0:Hid (Frm (fun _=>False) w w.drew):=hid ((Frm.refl (fun _=>False) w).drew)
 have HR0:Hid (BRow w.drew B0 A bs):=hid (hr.drewN 1)
 obtain ⟨r0,r1,r2,r3,r4,r5,r6⟩:=D0.out.cells
 have d3:w.drew.cell? ⟨hb,off+3,none⟩=some (.int .u8 (h3v:Int)):=b3
 have d4:w.drew.cell? ⟨hb,off+4,none⟩=some (.int .u8 (h4v:Int)):=b4
 have HO:Hid (oneBody S x cc hd bs=if bs.length<M then .err 10 else oneLz S (if 160≤cc then x.reset else x) T (bs.take M) (bs.drop M)):=hid (by
  unfold oneBody
  rw [if_neg (by omega),hM,hN,hc31,hT]
  split
  ·rfl
  rw [if_neg (fun h=>by have:=h.1;omega)]
  unfold DS.dict DS.set
  rw [if_neg (show ¬ 192≤cc by omega),if_neg (show ¬ cc=1 by omega),if_neg (show ¬ 224≤cc by omega)])
 have HB:=hid hB
 have HT:=hid (And.intro hTl hT1)
 clear h hcc hB hN hM hhr hh1 hh2 hh3 hh4 hc31 hT b3 b4 r1 r3 r4 r5 r6 hTl hT1
 go_enter Tryz.func81,Tryz.ntmps81
 go_upto_region 2 with fail
 go_still (by kernel_rfl)
 obtain ⟨w0,hw0⟩:∃ w0,w.drew=w0:=⟨_,rfl⟩
 rw [hw0] at D0 F0 HR0 r0 r2 d3 d4
 rw [show ({ heap:=w.heap,tape:=w.tape,drawn:=w.drawn+1,os:=w.os,output:=w.output }:World)=w0 from hw0]
 clear hwa e8 hwb hw1 hsum hw2 b0 b1 b2 hw0
 go_upto_region 15 with fail
 have D1:=hid (D0.out.later ((Frm.refl (fun _=>False) w0).drew))
 have F1:Hid (Frm (fun _=>False) w w0.drew):=hid (F0.out.trans ((Frm.refl (fun _=>False) w0).drew))
 have HR1:Hid (BRow w0.drew B0 A bs):=hid (HR0.out.drewN 1)
 have hz1:B0≤w0.drew.heap.size:=Nat.le_trans hB0 F1.out.size
 refine wp_region_stc 15 (by kernel_rfl) (by kernel_rfl) ?_
 simp only [List.take_succ_cons,List.take_zero,List.drop_succ_cons,List.drop_zero]
 repeat still_step
 refine wpStill_nil ?_
 change wpList _ _ _ _ _ w0.drew
 obtain ⟨w1,hw1⟩:∃ w1,w0.drew=w1:=⟨_,rfl⟩
 rw [hw1] at D1 F1 HR1 hz1
 rw [hw1]
 clear hw1 D0 F0 HR0 r0 r2 d3 d4 e8b hw1b hwc hwd a31 hw31 hw32 hti
 by_cases hM2:M≤n
 ·have HT1:=hid (take_p fb A n c used M w1 D1.out.src hc hM2 (by omega))
  go_wp2_with fail
  refine HT1.out.mono ?_;rintro e w2 ⟨rfl,hs2,hf2⟩
  go_wp2_with fail
  change wpStill _ _ _ _ _ _
  repeat still_step
  refine wpStill_nil ?_
  have d2:=D1.out.src' hs2 hf2
  have hfb:B0≤fb:=HB.out fb (.inr (.inl rfl))
  have hz2:B0≤w2.heap.size:=Nat.le_trans hz1 hf2.size
  have hr2:BRow w2 B0 A bs:=row_kept HR1.out hf2 hz1 (fun q e=>by rw [e];exact hfb)
  obtain ⟨r0,r1,r2,r3,r4,r5,r6⟩:=d2.cells
  have D2:=hid d2
  have HR2:=hid hr2
  have F2:Hid (Frm (· = fb) w w2):=hid ((F1.out.mono fun _ _ e=>e.elim).trans hf2)
  have hMb:M≤bs.length:=by omega
  clear HT1 hs2 hf2 d2 hr2 D1 F1 HR1 r2 r4 r5 r6
  by_cases h160:160≤cc
  ·have q5:(160:Int)≤(cc:Int):=by omega
   have HRs:=hid (reset_s k x.st x.rep x.pr w2 D2.out.s D2.out.ok)
   go_wp2_with fail
   refine HRs.out.mono ?_;rintro e w3 ⟨rfl,lb,hlb,hs3,hf3⟩
   have d3:=D2.out.st' (k':=⟨k.sb,lb,k.lc,k.lp,k.pb⟩) (y:=x.reset) rfl hlb hs3 D2.out.ks ⟨D2.out.ok.a,D2.out.ok.b⟩ ⟨(by decide:(0:Nat)<12),fun _=>(by decide:(0:Nat)<4294967296)⟩ ⟨rfl,rfl,rfl,rfl⟩ hf3
   have hsb:B0≤k.sb:=HB.out _ (.inr (.inr (.inr (.inl rfl))))
   have hr3:BRow w3 B0 A bs:=row_kept HR2.out hf3 hz2 (fun q e=>by rw [e];exact hsb)
   obtain ⟨r0,r1,r2,r3,r4,r5,r6⟩:=d3.cells
   have hz3:B0≤w3.heap.size:=Nat.le_trans hz2 hf3.size
   have F3:Hid (Frm (RdB rb fb wb k wv) w w3):=hid ((F2.out.mono fun q _ e=>.inr (.inl e)).trans (hf3.mono fun q _ e=>.inr (.inr (.inr (.inl e)))))
   have hlb2:w.heap.size≤lb:=Nat.le_trans F2.out.size hlb
   have D3:=hid d3
   have HR3:=hid hr3
   clear HRs hs3 hf3 d3 hr3 D2 F2 HR2 r2 r4 r5 r6 hlb
   go_upto_region 25 with fail
   have D4:=hid (D3.out.later ((Frm.refl (fun _=>False) w3).drew))
   have F4:=hid (F3.out.drew)
   have HR4:Hid (BRow w3.drew B0 A bs):=hid (HR3.out.drewN 1)
   have hz4:B0≤w3.drew.heap.size:=hz3
   have HC:=hid (chunk_p ⟨k.sb,lb,k.lc,k.lp,k.pb⟩ x.reset.st x.reset.rep x.reset.pr base wb kb S x.reset.C (bs.take M) wv A T M M x.reset.total w3.drew D4.out.s D4.out.win D4.out.b hS D4.out.ok D4.out.st.1 D4.out.st.2 (take_len hMb).symm ((HR4.out.take M).more hz4) (by rw [take_len hMb];exact Nat.le_refl _) (by unfold maxLen;omega) (by rw [take_len hMb];omega) HT.out.2 HT.out.1 ht)
   refine wp_region_stc 14 (by kernel_rfl) (by kernel_rfl) ?_
   simp only [List.take_succ_cons,List.take_zero,List.drop_succ_cons,List.drop_zero]
   repeat still_step
   refine wpStill_nil ?_
   change wpList _ _ _ _ _ w3.drew
   go_wp2_with fail
   refine HC.out.mono ?_;rintro e w5 hce
   obtain ⟨tv,ev,he⟩:∃ tv ev,e=.returned (.tuple #[tv,ev]):=by
    rcases hce.2 with ⟨_,h2⟩ | ⟨_,_,tv,_,_,h2,_⟩
    ·exact ⟨_,_,h2⟩
    exact ⟨_,_,h2⟩
   subst he
   go_wp2_with fail
   change wpStill _ _ _ _ _ _
   repeat still_step
   refine wpStill_nil ?_
   go_wp2
   go_ret2
   rw [HO.out,if_neg (by omega),if_pos h160]
   exact chunk_tells D4.out F4.out HB.out hB0 rfl (.inr hlb2) rfl ((HR4.out.drop (by omega))) (by rw [List.length_drop];omega) (by omega) (by omega) (by omega) ht hce
  have q5:(cc:Int)<160:=by omega
  go_upto_region 25 with fail
  obtain ⟨w3,hw3⟩:∃ w3,w2=w3:=⟨_,rfl⟩
  subst hw3
  have D3:=D2
  have HR3:=HR2
  have F3:Hid (Frm (RdB rb fb wb k wv) w w2):=hid (F2.out.mono fun q _ e=>.inr (.inl e))
  have hz3:=hz2
  have D4:=hid (D3.out.later ((Frm.refl (fun _=>False) w2).drew))
  have F4:=hid (F3.out.drew)
  have HR4:Hid (BRow w2.drew B0 A bs):=hid (HR3.out.drewN 1)
  have hz4:B0≤w2.drew.heap.size:=hz3
  have HC:=hid (chunk_p k x.st x.rep x.pr base wb kb S x.C (bs.take M) wv A T M M x.total w2.drew D4.out.s D4.out.win D4.out.b hS D4.out.ok D4.out.st.1 D4.out.st.2 (take_len hMb).symm ((HR4.out.take M).more hz4) (by rw [take_len hMb];exact Nat.le_refl _) (by unfold maxLen;omega) (by rw [take_len hMb];omega) HT.out.2 HT.out.1 ht)
  refine wp_region_stc 14 (by kernel_rfl) (by kernel_rfl) ?_
  simp only [List.take_succ_cons,List.take_zero,List.drop_succ_cons,List.drop_zero]
  repeat still_step
  refine wpStill_nil ?_
  change wpList _ _ _ _ _ w2.drew
  go_wp2_with fail
  refine HC.out.mono ?_;rintro e w5 hce
  obtain ⟨tv,ev,he⟩:∃ tv ev,e=.returned (.tuple #[tv,ev]):=by
   rcases hce.2 with ⟨_,h2⟩ | ⟨_,_,tv,_,_,h2,_⟩
   ·exact ⟨_,_,h2⟩
   exact ⟨_,_,h2⟩
  subst he
  go_wp2_with fail
  change wpStill _ _ _ _ _ _
  repeat still_step
  refine wpStill_nil ?_
  go_wp2
  go_ret2
  rw [HO.out,if_neg (by omega),if_neg h160]
  exact chunk_tells D4.out F4.out HB.out hB0 rfl (.inl rfl) rfl ((HR4.out.drop (by omega))) (by rw [List.length_drop];omega) (by omega) (by omega) (by omega) ht hce
 have HT1:=hid (take_no fb A n c used M w1 D1.out.src (by omega))
 go_wp2_with fail
 refine HT1.out.mono ?_;rintro e w2 ⟨rfl,rfl⟩
 go_wp2_with fail
 change wpStill _ _ _ _ _ _
 repeat still_step
 refine wpStill_nil ?_
 go_wp2
 go_ret2
 rw [HO.out,if_pos (by omega)]
 exact ⟨F1.out.mono fun q _ e=>e.elim,rfl,D1.out.ownB ht (Nat.le_add_right _ _)⟩
end Go.Proofs.YtffehfpbdcokbaaGreat
