import Derived.Test.YtffehfpbdcokbaaGreatBu14
import Derived.Test.YtffehfpbdcokbaaGreatBu17
set_option linter.unusedVariables false
set_option linter.unusedSimpArgs false
namespace Go.Proofs.YtffehfpbdcokbaaGreat
open Lib (hid)
open Go.RowKit Rng Win Lz
theorem chunkOf_inv {k:LK} {S total n st:Nat} {rep:Nat→Nat} {pr:Pr} {C bs t:List UInt8} {y:RS} (hst:st<12) (hrep:∀ j,rep j<4294967296) (h:chunkOf k S total n st rep pr C bs=some (t,y)):y.Ok∧t.length=n:=by
 unfold chunkOf at h
 split at h
 ·cases h
 split at h
 ·cases h
 rename_i told x hx
 split at h
 ·injection h with h
  injection h with h1 h2
  subst h1 h2
  have hi:=chunkGo_inv _ (x:=⟨st,rep,⟨newDec bs,pr⟩,C⟩) ⟨hst,hrep⟩ (by simp) hx
  exact ⟨hi.1,hi.2.1⟩
 cases h
theorem chunk_tells {w w3 w4:World} {rb fb wb kb base S B0:Nat} {k k1:LK} {x1:DS} {wv wv1:Value} {A':Option Addr} {n' c' used' n un:Nat} {most:Int} {rest bs:List UInt8} {e:Ending}
 (hd:RdS w3 rb fb wb kb base S k1 x1 wv1 A' n' c' used' most) (hf:Frm (RdB rb fb wb k wv) w w3) (hB:∀ q,RdB rb fb wb k wv q→B0≤q) (hB0:B0≤w.heap.size)
 (hsb:k1.sb=k.sb) (hlb:k1.lb=k.lb∨w.heap.size≤k1.lb) (ho:wv1.ownBlock=wv.ownBlock) (hr:BRow w3 B0 A' rest) (hn:n'=rest.length) (hc:n'≤c') (hcm:c'≤maxLen) (hu:used'+n'=un) (ht:x1.total<9223372036854775808)
 (h:ChunkEnd k1 base wb kb S wv1 w3 (chunkOf k1 S x1.total n x1.st x1.rep x1.pr x1.C bs) e w4):BodyEnd rb fb wb kb base S B0 k wv most un w (oneLz S x1 n bs rest) e w4:=by
 obtain ⟨hf4,hend⟩:=h
 have hF:Frm (RdB rb fb wb k wv) w w4:=hf.transW hf4 (by
  rintro q (e | e | e | e) hq
  ·exact .inr (.inr (.inr (.inl (e.trans hsb))))
  ·rcases hlb with e2 | e2
   ·exact .inr (.inr (.inr (.inr (.inl (e.trans e2)))))
   omega
  ·exact .inr (.inr (.inl e))
  rw [ho] at e;exact .inr (.inr (.inr (.inr (.inr e)))))
 refine ⟨hF,?_⟩
 have hlk:=chunkOf_lk k1 S x1.total n x1.st x1.rep x1.pr x1.C bs
 rw [hd.ks.1,hd.ks.2.1,hd.ks.2.2] at hlk
 unfold oneLz
 rw [← hlk]
 rcases hend with ⟨e1,e2⟩ | ⟨told,y,tv,wv',e1,e2,h1,h2,h3,h4,h5⟩
 ·rw [e1]
  obtain ⟨n1,n2,n3,n4,n5,n6,n7,n8,n9,n10⟩:=hd.ne
  refine ⟨e2,?_⟩
  rw [← hsb]
  refine (hd.ownB ht (un:=un) (by omega)).frm hf4 ?_ ?_
  ·rintro (e | e | e | e)
   ·exact n3 e
   ·exact n4 e
   ·exact n2 e
   exact (n10 _ e).1 rfl
  rintro (e | e | e | e)
  ·exact n6 e
  ·exact n7 e
  ·exact n5 e
  exact (n10 _ e).2.1 rfl
 have hy:=chunkOf_inv hd.st.1 hd.st.2 e1
 rw [e1]
 obtain ⟨n1,n2,n3,n4,n5,n6,n7,n8,n9,n10⟩:=hd.ne
 obtain ⟨A5,c5,e5,h6,h7,h8⟩:=h1.slice
 have hz3:B0≤w3.heap.size:=Nat.le_trans hB0 hf.size
 have hno:∀ q,q=rb∨q=fb→¬ (q=k1.sb∨q=k1.lb∨q=wb∨wv1.ownBlock=some q):=by
  rintro q hq (e | e | e | e)
  ·rcases hq with e2 | e2 <;> omega
  ·rcases hq with e2 | e2 <;> omega
  ·rcases hq with e2 | e2 <;> omega
  have h10:=n10 q e
  rcases hq with e2 | e2 <;> omega
 refine ⟨k1,wv',A',n',c',used',A5,c5,by rw [e2,e5],⟨hd.p.frm hf4 (hno _ (.inl rfl)),h2,hd.ks,hd.ok,⟨hy.1.1,hy.1.2⟩,h3,Nat.le_trans hd.b hf4.size,Pts.frm hd.src hf4 (hno _ (.inr rfl))⟩,?_,hn,hc,hcm,hu,h8,h6,h7,hsb,hlb,?_⟩
 ·refine row_kept hr hf4 hz3 ?_
  rintro q (e | e | e | e)
  ·exact hB q (.inr (.inr (.inr (.inl (e.trans hsb)))))
  ·rcases hlb with e2 | e2
   ·exact hB q (.inr (.inr (.inr (.inr (.inl (e.trans e2))))))
   omega
  ·exact hB q (.inr (.inr (.inl e)))
  rw [ho] at e;exact hB q (.inr (.inr (.inr (.inr (.inr e)))))
 intro q hq
 rcases h4 q hq with e | e
 ·exact .inl (ho▸e)
 exact .inr (Nat.le_trans hf.size e)
theorem and31 (c:Nat) (h:c<256):bits .and .u8 (c:Int) 31=((c % 32:Nat):Int):=by
 have h1:bits .and .u8 (c:Int) ((31:Nat):Int)=((c &&& 31:Nat):Int):=u8_and_nat c 31 h (by decide)
 rw [show (31:Int)=((31:Nat):Int) from rfl,h1,show (31:Nat)=2 ^ 5-1 by rfl,Nat.and_two_pow_sub_one_eq_mod]
set_option maxRecDepth 8000 in
set_option maxHeartbeats 2000000 in
theorem body_lz (rb fb wb kb base S B0:Nat) (k:LK) (x:DS) (wv:Value) (A:Option Addr) (n c used:Nat) (most:Int) (bs hd:List UInt8) (hb off cc:Nat) (w:World)
 (h:RdS w rb fb wb kb base S k x wv A n c used most) (hB:∀ q,RdB rb fb wb k wv q→B0≤q) (hB0:B0≤w.heap.size) (hS:S≤16777216) (hn:n=bs.length) (hr:BRow w B0 A bs) (hc:n≤c) (hcm:c≤maxLen)
 (hhr:BRow w B0 (some ⟨hb,off,none⟩) hd) (hdl:hd.length=5) (hcc:(hd.getD 0 0).toNat=cc) (hleg:128≤cc∧cc<192) (hu:used+n≤4611686018427387904) (ht:x.total<9223372036854775808) :
 Calls Tryz.prog 81 #[.pointer (some ⟨rb,0,none⟩),.slice (some ⟨hb,off,none⟩) 5 5] w (BodyEnd rb fb wb kb base S B0 k wv most (used+n) w (oneBody S x cc hd bs)):=by
 have b0:w.cell? ⟨hb,off,none⟩=some (.int .u8 ((cc:Nat):Int)):=by rw [← hcc];exact hhr.addr (k:=0) (by omega)
 have b1:w.cell? ⟨hb,off+1,none⟩=some (.int .u8 (((hd.getD 1 0).toNat:Nat):Int)):=hhr.addr (k:=1) (by omega)
 have b2:w.cell? ⟨hb,off+2,none⟩=some (.int .u8 (((hd.getD 2 0).toNat:Nat):Int)):=hhr.addr (k:=2) (by omega)
 have b3:w.cell? ⟨hb,off+3,none⟩=some (.int .u8 (((hd.getD 3 0).toNat:Nat):Int)):=hhr.addr (k:=3) (by omega)
 have b4:w.cell? ⟨hb,off+4,none⟩=some (.int .u8 (((hd.getD 4 0).toNat:Nat):Int)):=hhr.addr (k:=4) (by omega)
 obtain ⟨N,hN⟩:∃ N,twoB hd 1+1=N:=⟨_,rfl⟩
 obtain ⟨M,hM⟩:∃ M,twoB hd 3+1=M:=⟨_,rfl⟩
 have hNl:N≤65536:=by have:=twoB_le hd 1;omega
 have hMl:M≤65536:=by have:=twoB_le hd 3;omega
 have hM1:1≤M:=by omega
 have hl1:=(hd.getD 1 0).toNat_lt
 have hl2:=(hd.getD 2 0).toNat_lt
 have hl3:=(hd.getD 3 0).toNat_lt
 have hl4:=(hd.getD 4 0).toNat_lt
 have e8:=shl8 (hd.getD 1 0)
 have e8b:=shl8 (hd.getD 3 0)
 have hsum:((hd.getD 1 0).toNat:Int)*256+((hd.getD 2 0).toNat:Int)+1=(N:Int):=by have e:twoB hd 1=(hd.getD 1 0).toNat*256+(hd.getD 2 0).toNat:=rfl;omega
 have hsumb:((hd.getD 3 0).toNat:Int)*256+((hd.getD 4 0).toNat:Int)+1=(M:Int):=by have e:twoB hd 3=(hd.getD 3 0).toNat*256+(hd.getD 4 0).toNat:=rfl;omega
 obtain ⟨h1v,hh1⟩:∃ v,(hd.getD 1 0).toNat=v:=⟨_,rfl⟩
 obtain ⟨h2v,hh2⟩:∃ v,(hd.getD 2 0).toNat=v:=⟨_,rfl⟩
 obtain ⟨h3v,hh3⟩:∃ v,(hd.getD 3 0).toNat=v:=⟨_,rfl⟩
 obtain ⟨h4v,hh4⟩:∃ v,(hd.getD 4 0).toNat=v:=⟨_,rfl⟩
 rw [hh1] at b1 e8 hsum hl1
 rw [hh2] at b2 hsum hl2
 rw [hh3] at b3 e8b hsumb hl3
 rw [hh4] at b4 hsumb hl4
 have hw1:IntKind.i64.wrap ((h1v:Int)*256+(h2v:Int))=(h1v:Int)*256+(h2v:Int):=Go.IntWalk.i64_in _ (by omega)
 have hw1b:IntKind.i64.wrap ((h3v:Int)*256+(h4v:Int))=(h3v:Int)*256+(h4v:Int):=Go.IntWalk.i64_in _ (by omega)
 have hw2:IntKind.i64.wrap (N:Int)=(N:Int):=Go.IntWalk.i64_in _ (by omega)
 have hw2b:IntKind.i64.wrap (M:Int)=(M:Int):=Go.IntWalk.i64_in _ (by omega)
 have hwa:IntKind.i64.wrap (h1v:Int)=(h1v:Int):=Go.IntWalk.i64_in _ (by omega)
 have hwb:IntKind.i64.wrap (h2v:Int)=(h2v:Int):=Go.IntWalk.i64_in _ (by omega)
 have hwc:IntKind.i64.wrap (h3v:Int)=(h3v:Int):=Go.IntWalk.i64_in _ (by omega)
 have hwd:IntKind.i64.wrap (h4v:Int)=(h4v:Int):=Go.IntWalk.i64_in _ (by omega)
 have a31:=and31 cc (by omega)
 obtain ⟨c31,hc31⟩:∃ v,cc % 32=v:=⟨_,rfl⟩
 have hcl:c31<32:=by omega
 rw [hc31] at a31
 have hw31:IntKind.i64.wrap (c31:Int)=(c31:Int):=Go.IntWalk.i64_in _ (by omega)
 have hw32:IntKind.i64.wrap ((c31:Int)*65536)=(c31:Int)*65536:=Go.IntWalk.i64_in _ (by omega)
 obtain ⟨T,hT⟩:∃ T,N+c31*65536=T:=⟨_,rfl⟩
 have hTl:T≤2097152:=by omega
 have hT1:1≤T:=by omega
 have hti:(N:Int)+(c31:Int)*65536=(T:Int):=by omega
 have hwt:IntKind.i64.wrap (T:Int)=(T:Int):=Go.IntWalk.i64_in _ (by omega)
 have q1:((cc:Int)==1)=false:=beq_eq_false_iff_ne.2 (by omega)
 have q2:(cc:Int)<224:=by omega
 have q3:(3:Int)≤(cc:Int):=by omega
 have q4:(cc:Int)<192:=by omega
 have D0:=hid (h.later ((Frm.refl (fun _=>False) w).drew))
 have F0:Hid (Frm (fun _=>False) w w.drew):=hid ((Frm.refl (fun _=>False) w).drew)
 have HR0:Hid (BRow w.drew B0 A bs):=hid (hr.drewN 1)
 obtain ⟨r0,r1,r2,r3,r4,r5,r6⟩:=D0.out.cells
 have d3:w.drew.cell? ⟨hb,off+3,none⟩=some (.int .u8 (h3v:Int)):=b3
 have d4:w.drew.cell? ⟨hb,off+4,none⟩=some (.int .u8 (h4v:Int)):=b4
 have HO:Hid (oneBody S x cc hd bs=if bs.length<M then .err 10 else oneLz S (if 160≤cc then x.reset else x) T (bs.take M) (bs.drop M)):=hid (by
  unfold oneBody
  rw [if_neg (by omega),hM,hN,hc31,hT]
  split
  ·rfl
  rw [if_neg (fun h=>by have:=h.1;omega)]
  unfold DS.dict DS.set
  rw [if_neg (show ¬ 192≤cc by omega),if_neg (show ¬ cc=1 by omega),if_neg (show ¬ 224≤cc by omega)])
 have HB:=hid hB
 have HT:=hid (And.intro hTl hT1)
 clear h hcc hB hN hM hhr hh1 hh2 hh3 hh4 hc31 hT b3 b4 r1 r3 r4 r5 r6 hTl hT1
 go_enter Tryz.func81,Tryz.ntmps81
 go_upto_region 2 with fail
 go_still (by kernel_rfl)
 obtain ⟨w0,hw0⟩:∃ w0,w.drew=w0:=⟨_,rfl⟩
 rw [hw0] at D0 F0 HR0 r0 r2 d3 d4
 rw [show ({ heap:=w.heap,tape:=w.tape,drawn:=w.drawn+1,os:=w.os,output:=w.output }:World)=w0 from hw0]
 clear hwa e8 hwb hw1 hsum hw2 b0 b1 b2 hw0
 go_upto_region 15 with fail
 have D1:=hid (D0.out.later ((Frm.refl (fun _=>False) w0).drew))
 have F1:Hid (Frm (fun _=>False) w w0.drew):=hid (F0.out.trans ((Frm.refl (fun _=>False) w0).drew))
 have HR1:Hid (BRow w0.drew B0 A bs):=hid (HR0.out.drewN 1)
 have hz1:B0≤w0.drew.heap.size:=Nat.le_trans hB0 F1.out.size
 refine wp_region_stc 15 (by kernel_rfl) (by kernel_rfl) ?_
 simp only [List.take_succ_cons,List.take_zero,List.drop_succ_cons,List.drop_zero]
 repeat still_step
 refine wpStill_nil ?_
 change wpList _ _ _ _ _ w0.drew
 obtain ⟨w1,hw1⟩:∃ w1,w0.drew=w1:=⟨_,rfl⟩
 rw [hw1] at D1 F1 HR1 hz1
 rw [hw1]
 clear hw1 D0 F0 HR0 r0 r2 d3 d4 e8b hw1b hwc hwd a31 hw31 hw32 hti
 by_cases hM2:M≤n
 ·have HT1:=hid (take_p fb A n c used M w1 D1.out.src hc hM2 (by omega))
  go_wp2_with fail
  refine HT1.out.mono ?_;rintro e w2 ⟨rfl,hs2,hf2⟩
  go_wp2_with fail
  change wpStill _ _ _ _ _ _
  repeat still_step
  refine wpStill_nil ?_
  have d2:=D1.out.src' hs2 hf2
  have hfb:B0≤fb:=HB.out fb (.inr (.inl rfl))
  have hz2:B0≤w2.heap.size:=Nat.le_trans hz1 hf2.size
  have hr2:BRow w2 B0 A bs:=row_kept HR1.out hf2 hz1 (fun q e=>by rw [e];exact hfb)
  obtain ⟨r0,r1,r2,r3,r4,r5,r6⟩:=d2.cells
  have D2:=hid d2
  have HR2:=hid hr2
  have F2:Hid (Frm (· = fb) w w2):=hid ((F1.out.mono fun _ _ e=>e.elim).trans hf2)
  have hMb:M≤bs.length:=by omega
  clear HT1 hs2 hf2 d2 hr2 D1 F1 HR1 r2 r4 r5 r6
  by_cases h160:160≤cc
  ·have q5:(160:Int)≤(cc:Int):=by omega
   have HRs:=hid (reset_s k x.st x.rep x.pr w2 D2.out.s D2.out.ok)
   go_wp2_with fail
   refine HRs.out.mono ?_;rintro e w3 ⟨rfl,lb,hlb,hs3,hf3⟩
   have d3:=D2.out.st' (k':=⟨k.sb,lb,k.lc,k.lp,k.pb⟩) (y:=x.reset) rfl hlb hs3 D2.out.ks ⟨D2.out.ok.a,D2.out.ok.b⟩ ⟨(by decide:(0:Nat)<12),fun _=>(by decide:(0:Nat)<4294967296)⟩ ⟨rfl,rfl,rfl,rfl⟩ hf3
   have hsb:B0≤k.sb:=HB.out _ (.inr (.inr (.inr (.inl rfl))))
   have hr3:BRow w3 B0 A bs:=row_kept HR2.out hf3 hz2 (fun q e=>by rw [e];exact hsb)
   obtain ⟨r0,r1,r2,r3,r4,r5,r6⟩:=d3.cells
   have hz3:B0≤w3.heap.size:=Nat.le_trans hz2 hf3.size
   have F3:Hid (Frm (RdB rb fb wb k wv) w w3):=hid ((F2.out.mono fun q _ e=>.inr (.inl e)).trans (hf3.mono fun q _ e=>.inr (.inr (.inr (.inl e)))))
   have hlb2:w.heap.size≤lb:=Nat.le_trans F2.out.size hlb
   have D3:=hid d3
   have HR3:=hid hr3
   clear HRs hs3 hf3 d3 hr3 D2 F2 HR2 r2 r4 r5 r6 hlb
   go_upto_region 25 with fail
   have D4:=hid (D3.out.later ((Frm.refl (fun _=>False) w3).drew))
   have F4:=hid (F3.out.drew)
   have HR4:Hid (BRow w3.drew B0 A bs):=hid (HR3.out.drewN 1)
   have hz4:B0≤w3.drew.heap.size:=hz3
   have HC:=hid (chunk_p ⟨k.sb,lb,k.lc,k.lp,k.pb⟩ x.reset.st x.reset.rep x.reset.pr base wb kb S x.reset.C (bs.take M) wv A T M M x.reset.total w3.drew D4.out.s D4.out.win D4.out.b hS D4.out.ok D4.out.st.1 D4.out.st.2 (take_len hMb).symm ((HR4.out.take M).more hz4) (by rw [take_len hMb];exact Nat.le_refl _) (by unfold maxLen;omega) (by rw [take_len hMb];omega) HT.out.2 HT.out.1 ht)
   refine wp_region_stc 14 (by kernel_rfl) (by kernel_rfl) ?_
   simp only [List.take_succ_cons,List.take_zero,List.drop_succ_cons,List.drop_zero]
   repeat still_step
   refine wpStill_nil ?_
   change wpList _ _ _ _ _ w3.drew
   go_wp2_with fail
   refine HC.out.mono ?_;rintro e w5 hce
   obtain ⟨tv,ev,he⟩:∃ tv ev,e=.returned (.tuple #[tv,ev]):=by
    rcases hce.2 with ⟨_,h2⟩ | ⟨_,_,tv,_,_,h2,_⟩
    ·exact ⟨_,_,h2⟩
    exact ⟨_,_,h2⟩
   subst he
   go_wp2_with fail
   change wpStill _ _ _ _ _ _
   repeat still_step
   refine wpStill_nil ?_
   go_wp2
   go_ret2
   rw [HO.out,if_neg (by omega),if_pos h160]
   exact chunk_tells D4.out F4.out HB.out hB0 rfl (.inr hlb2) rfl ((HR4.out.drop (by omega))) (by rw [List.length_drop];omega) (by omega) (by omega) (by omega) ht hce
  have q5:(cc:Int)<160:=by omega
  go_upto_region 25 with fail
  obtain ⟨w3,hw3⟩:∃ w3,w2=w3:=⟨_,rfl⟩
  subst hw3
  have D3:=D2
  have HR3:=HR2
  have F3:Hid (Frm (RdB rb fb wb k wv) w w2):=hid (F2.out.mono fun q _ e=>.inr (.inl e))
  have hz3:=hz2
  have D4:=hid (D3.out.later ((Frm.refl (fun _=>False) w2).drew))
  have F4:=hid (F3.out.drew)
  have HR4:Hid (BRow w2.drew B0 A bs):=hid (HR3.out.drewN 1)
  have hz4:B0≤w2.drew.heap.size:=hz3
  have HC:=hid (chunk_p k x.st x.rep x.pr base wb kb S x.C (bs.take M) wv A T M M x.total w2.drew D4.out.s D4.out.win D4.out.b hS D4.out.ok D4.out.st.1 D4.out.st.2 (take_len hMb).symm ((HR4.out.take M).more hz4) (by rw [take_len hMb];exact Nat.le_refl _) (by unfold maxLen;omega) (by rw [take_len hMb];omega) HT.out.2 HT.out.1 ht)
  refine wp_region_stc 14 (by kernel_rfl) (by kernel_rfl) ?_
  simp only [List.take_succ_cons,List.take_zero,List.drop_succ_cons,List.drop_zero]
  repeat still_step
  refine wpStill_nil ?_
  change wpList _ _ _ _ _ w2.drew
  go_wp2_with fail
  refine HC.out.mono ?_;rintro e w5 hce
  obtain ⟨tv,ev,he⟩:∃ tv ev,e=.returned (.tuple #[tv,ev]):=by
   rcases hce.2 with ⟨_,h2⟩ | ⟨_,_,tv,_,_,h2,_⟩
   ·exact ⟨_,_,h2⟩
   exact ⟨_,_,h2⟩
  subst he
  go_wp2_with fail
  change wpStill _ _ _ _ _ _
  repeat still_step
  refine wpStill_nil ?_
  go_wp2
  go_ret2
  rw [HO.out,if_neg (by omega),if_neg h160]
  exact chunk_tells D4.out F4.out HB.out hB0 rfl (.inl rfl) rfl ((HR4.out.drop (by omega))) (by rw [List.length_drop];omega) (by omega) (by omega) (by omega) ht hce
 have HT1:=hid (take_no fb A n c used M w1 D1.out.src (by omega))
 go_wp2_with fail
 refine HT1.out.mono ?_;rintro e w2 ⟨rfl,rfl⟩
 go_wp2_with fail
 change wpStill _ _ _ _ _ _
 repeat still_step
 refine wpStill_nil ?_
 go_wp2
 go_ret2
 rw [HO.out,if_pos (by omega)]
 exact ⟨F1.out.mono fun q _ e=>e.elim,rfl,D1.out.ownB ht (Nat.le_add_right _ _)⟩
open Go.RowKit Rng Win Lz
section
variable {w0 w : World} {K xb : Nat} {k : LK} {x : DS} {wb kb S : Nat} {A : Option Addr} {bs : List UInt8} {c most used : Nat} {all : List UInt8} {wv ov : Value} {out : List UInt8}
theorem dict_ge {x:DS} {cc:Nat} (h:2≤cc):x.dict cc=if 224≤cc then x.clear else x:=by
 unfold DS.dict
 rw [if_neg (by omega)]
theorem dreset_s (st:Nat) (rep:Nat→Nat) (pr:Pr) (w:World) (h:DStAt w k st rep pr) (hk:k.Ok) :
 Calls Tryz.prog 83 #[.pointer (some ⟨k.sb,0,none⟩)] w fun e w'=>e=.returned (.tuple #[])∧∃ lb,w.heap.size≤lb∧DStAt w' ⟨k.sb,lb,k.lc,k.lp,k.pb⟩ 0 (fun _=>0) (fun _=>1024)∧Frm (· = k.sb) w w':=by
 have hm:=h.m
 rw [← qcells_m] at hm
 refine (dreset_p k.sb k.lc k.lp k.pb st rep pr _ 180 w hm hk.a ⟨_,_,_,rfl⟩ hk.b).mono ?_
 rintro e w' ⟨rfl,lb,h3,h4,h5,hf⟩
 exact ⟨rfl,lb,h3,⟨h4,h5,fun _=>(by decide:1024<65536),by have:=h.m.lt;show k.sb≠lb;omega⟩,hf⟩
theorem dset_s (st p:Nat) (rep:Nat→Nat) (pr:Pr) (w:World) (h:DStAt w k st rep pr) (hp:p≤255) (hb:¬ badP p) :
 Calls Tryz.prog 126 #[.pointer (some ⟨k.sb,0,none⟩),.int .u8 p] w fun e w'=>e=.returned (.int .i64 0)∧∃ lb,w.heap.size≤lb∧DStAt w' ⟨k.sb,lb,p % 9,p / 9 % 5,p / 45⟩ 0 (fun _=>0) (fun _=>1024)∧Frm (· = k.sb) w w':=by
 have hm:=h.m
 rw [← qcells_m] at hm
 refine (dprops_p p k.sb k.lc k.lp k.pb st rep pr _ 180 w hm ⟨_,_,_,rfl⟩ hp).mono ?_
 rintro e w' ⟨rfl,hf,h2⟩
 unfold badP at hb
 obtain ⟨lb,h3,h4,h5⟩:=h2 hb
 rw [if_neg hb]
 exact ⟨rfl,lb,h3,⟨h4,h5,fun _=>(by decide:1024<65536),by have:=h.m.lt;show k.sb≠lb;omega⟩,hf⟩
theorem dset_bad (st p:Nat) (rep:Nat→Nat) (pr:Pr) (w:World) (h:DStAt w k st rep pr) (hp:p≤255) (hb:badP p) :
 Calls Tryz.prog 126 #[.pointer (some ⟨k.sb,0,none⟩),.int .u8 p] w fun e w'=>e=.returned (.int .i64 11)∧Frm (· = k.sb) w w':=by
 have hm:=h.m
 rw [← qcells_m] at hm
 refine (dprops_p p k.sb k.lc k.lp k.pb st rep pr _ 180 w hm ⟨_,_,_,rfl⟩ hp).mono ?_
 rintro e w' ⟨rfl,hf,h2⟩
 unfold badP at hb
 rw [if_pos hb]
 exact ⟨rfl,hf⟩
theorem DmAt.restate {w':World} {k':LK} {x':DS} {d:Nat} (h:DmAt w0 w K xb k x wb kb S A bs c most used all d wv ov out) (hsb:k'.sb=k.sb) (hlb:w.heap.size≤k'.lb) (hs:DStAt w' k' x'.st x'.rep x'.pr) (hks:k'.lc=x'.lc∧k'.lp=x'.lp∧k'.pb=x'.pb) (hok:k'.Ok)
 (hst:x'.st<12∧∀ j,x'.rep j<4294967296) (hx:x'.C=x.C∧x'.total=x.total∧x'.begun=x.begun∧x'.props=x.props) (hf:Frm (· = k.sb) w w'):DmAt w0 w' K xb k' x' wb kb S A bs c most used all d wv ov out:=by
 obtain ⟨a1,a2,a3,a4,a5,a6,a7,a8,a9,a10,a11,a12⟩:=h.apart
 obtain ⟨e1,e2,e3,e4⟩:=hx
 refine ⟨?_,hs,hks,hok,hst,⟨h.win.p.frm hf a11,h.win.o.frm hf (fun q hq e=>a6 (e▸hq))⟩,by rw [e1];exact h.hC,by rw [e2];exact h.ht,h.o.frm hf (fun q hq e=>a8 (e▸hq)),h.ne,⟨h.ge.1,by rw [hsb];exact h.ge.2.1,Nat.le_trans h.kz hlb,h.ge.2.2.2⟩,h.b.trans (hf.below h.kz (fun q e=>by rw [e];exact h.ge.2.1)),Nat.le_trans h.kz hf.size,h.om,h.al⟩
 rw [hsb,e2,e3,e4]
 exact h.p.frm hf (fun e=>a1 e.symm)
theorem DmAt.outF {w':World} {d:Nat} (h:DmAt w0 w K xb k x wb kb S A bs c most used all d wv ov out) (hf:Frm (· = k.sb) w w'):DmOut w0 K xb out w':=by
 obtain ⟨a1,a2,a3,a4,a5,a6,a7,a8,a9,a10,a11,a12⟩:=h.apart
 exact ⟨ov,by rw [(h.p.frm hf (fun e=>a1 e.symm)).cell];rfl,h.o.frm hf (fun q hq e=>a8 (e▸hq)),h.b.trans (hf.below h.kz (fun q e=>by rw [e];exact h.ge.2.1)),Nat.le_trans h.kz hf.size⟩
theorem own_rowD {w:World} {T base:Nat} {A:Option Addr} {n c:Nat} {bs:List UInt8} (h:OwnB w T base (.slice A n c) bs):BRow w w.heap.size A bs∧bs.length=n∧n≤c∧c≤maxLen:=by
 obtain ⟨A',c',e,h1,h2,hr⟩:=h.slice
 injection e with e1 e2 e3
 subst e1
 subst e2
 subst e3
 exact ⟨hr,rfl,h1,h2⟩
theorem DmAt.chunked {w':World} {wv':Value} {t:List UInt8} {st:Nat} {rep:Nat→Nat} {pr:Pr} {C:List UInt8} (h:DmAt w0 w K xb k x wb kb S A bs c most used all 0 wv ov out) (hs:DStAt w' k st rep pr) (h2:RWin w' K wb kb S true wv' (all++t)) (hC:C=lastN S (all++t)) (hok:st<12∧∀ j,rep j<4294967296)
 (hn:∀ q,wv'.ownBlock=some q→wv.ownBlock=some q∨w.heap.size≤q) (hf:Frm (DZc k wb wv) w w') :
 DmAt w0 w' K xb k { x with st:=st,rep:=rep,pr:=pr,C:=C } wb kb S A bs c most used (all++t) t.length wv' ov out:=by
 obtain ⟨a1,a2,a3,a4,a5,a6,a7,a8,a9,a10,a11,a12⟩:=h.apart
 refine ⟨h.p.frm hf ?_,hs,h.ks,h.ok,hok,h2,hC,?_,h.o.frm hf ?_,?_,h.ge,h.b.trans (hf.below h.kz ?_),Nat.le_trans h.kz hf.size,h.om,?_⟩
 ·rintro (e | e | e | e)
  ·exact a1 e.symm
  ·exact a2 e.symm
  ·exact a3 e.symm
  exact a4 e
 ·have:=h.ht
  show x.total+t.length=(all++t).length
  rw [List.length_append]
  omega
 ·rintro q hq (e | e | e | e)
  ·subst e;exact a8 hq
  ·subst e;exact a9 hq
  ·subst e;exact a10 hq
  exact h.ne q hq e
 ·intro q hq e
  rcases hn q e with e2 | e2
  ·exact h.ne q hq e2
  have:=(h.o.lt hq).2
  omega
 ·rintro q (e | e | e | e)
  ·rw [e];exact h.ge.2.1
  ·rw [e];exact h.ge.2.2.1
  ·rw [e];exact h.ge.2.2.2
  exact (h.win.o.lt e).1
 have:=h.al
 rw [List.length_append]
 omega
theorem DmAt.outC {w':World} (h:DmAt w0 w K xb k x wb kb S A bs c most used all 0 wv ov out) (hf:Frm (DZc k wb wv) w w'):DmOut w0 K xb out w':=by
 obtain ⟨a1,a2,a3,a4,a5,a6,a7,a8,a9,a10,a11,a12⟩:=h.apart
 refine ⟨ov,?_,h.o.frm hf ?_,h.b.trans (hf.below h.kz ?_),Nat.le_trans h.kz hf.size⟩
 ·rw [(h.p.frm hf ?_).cell]
  ·rfl
  rintro (e | e | e | e)
  ·exact a1 e.symm
  ·exact a2 e.symm
  ·exact a3 e.symm
  exact a4 e
 ·rintro q hq (e | e | e | e)
  ·subst e;exact a8 hq
  ·subst e;exact a9 hq
  ·subst e;exact a10 hq
  exact h.ne q hq e
 rintro q (e | e | e | e)
 ·rw [e];exact h.ge.2.1
 ·rw [e];exact h.ge.2.2.1
 ·rw [e];exact h.ge.2.2.2
 exact (h.win.o.lt e).1
set_option maxRecDepth 100000 in
set_option maxHeartbeats 4000000 in
theorem packed_d (h:DmAt w0 w K xb k x wb kb S A bs c most used all 0 wv ov out) (hrow:BRow w0 K A bs) (hcap:bs.length≤c∧bs.length≤100000000∧c≤maxLen) (hus:used≤bs.length) (hS:1≤S∧S≤16777216) (hb ho hl hc:Nat) (hd:List UInt8) (hh:HdAt w0 K hb ho hd) (hlen:hd.length=hl) (hl5:hl=5∨hl=6) (hhc:hl≤hc) (cc:Nat) (hcc:(hd.getD 0 0).toNat=cc) (hk3:128≤cc) (h6:192≤cc→hl=6) :
 Calls Tryz.prog 86 #[.pointer (some ⟨xb,0,none⟩),.slice (some ⟨hb,ho,none⟩) hl hc] w (DmBody w0 K xb wb kb S A bs c most used out (oneBody S x cc hd (bs.drop used))):=by
 obtain ⟨R,hR⟩:∃ R,oneBody S x cc hd (bs.drop used)=R:=⟨_,rfl⟩
 rw [hR]
 unfold oneBody at hR
 rw [if_neg (by omega)] at hR
 have hcc2:cc<256:=by rw [← hcc];exact (hd.getD 0 0).toNat_lt
 obtain ⟨t1,ht1⟩:∃ n,twoB hd 1=n:=⟨_,rfl⟩
 obtain ⟨t3,ht3⟩:∃ n,twoB hd 3=n:=⟨_,rfl⟩
 obtain ⟨p5,hp5⟩:∃ n,(hd.getD 5 0).toNat=n:=⟨_,rfl⟩
 rw [ht1,ht3,hp5] at hR
 have hp256:p5<256:=by rw [← hp5];exact (hd.getD 5 0).toNat_lt
 have b1:t1<65536:=by
  have h1:=(hd.getD 1 0).toNat_lt
  have h2:=(hd.getD 2 0).toNat_lt
  rw [← ht1]
  unfold twoB
  simp only [Nat.reduceAdd]
  omega
 have b3:t3<65536:=by
  have h1:=(hd.getD 3 0).toNat_lt
  have h2:=(hd.getD 4 0).toNat_lt
  rw [← ht3]
  unfold twoB
  simp only [Nat.reduceAdd]
  omega
 obtain ⟨n1,hn1⟩:∃ n,t1+1+cc % 32*65536=n:=⟨_,rfl⟩
 obtain ⟨sz,hsz⟩:∃ n,t3+1=n:=⟨_,rfl⟩
 rw [hn1,hsz] at hR
 have HTW1:=hid (fun (n cp:Nat)=>two_d hb (ho+1) (hl-1) cp (hd.getD 1 0) (hd.getD 2 0) (w.drewN n) ((hh.below h.b).2 1 (by omega)) ((hh.below h.b).2 2 (by omega)) (by omega))
 have HTW3:=hid (fun (n cp:Nat)=>two_d hb (ho+3) (hl-3) cp (hd.getD 3 0) (hd.getD 4 0) (w.drewN n) ((hh.below h.b).2 3 (by omega)) ((hh.below h.b).2 4 (by omega)) (by omega))
 have e1:(hd.getD 1 0).toNat*256+(hd.getD 2 0).toNat=t1:=ht1
 have e3:(hd.getD 3 0).toNat*256+(hd.getD 4 0).toNat=t3:=ht3
 rw [e1] at HTW1
 rw [e3] at HTW3
 obtain ⟨l1,hl1⟩:∃ z,hl-1=z:=⟨_,rfl⟩
 obtain ⟨l3,hl3⟩:∃ z,hl-3=z:=⟨_,rfl⟩
 rw [hl1] at HTW1
 rw [hl3] at HTW3
 have hsl1:=fun w=>slice_fromD hb ho hl hc 1 l1 1 rfl (by omega) hhc (by omega) w
 have hsl3:=fun w=>slice_fromD hb ho hl hc 3 l3 3 rfl (by omega) hhc (by omega) w
 have k0:w.cell? ⟨hb,ho,none⟩=some (.int .u8 (cc:Int)):=by
  have:=(hh.below h.b).2 0 (by omega)
  unfold byteV at this
  rw [hcc] at this
  exact this
 have a31:=and31 cc hcc2
 obtain ⟨c31,hc31⟩:∃ v,cc % 32=v:=⟨_,rfl⟩
 rw [hc31] at a31 hn1
 have hcl:c31<32:=by omega
 obtain ⟨X1,hX1⟩:∃ v,c31*65536=v:=⟨_,rfl⟩
 obtain ⟨X2,hX2⟩:∃ v,X1+t1=v:=⟨_,rfl⟩
 have x1:(c31:Int)*65536=(X1:Int):=by omega
 have x2:(X1:Int)+(t1:Int)=(X2:Int):=by omega
 have x3:(X2:Int)+1=(n1:Int):=by omega
 have x4:(t3:Int)+1=(sz:Int):=by omega
 have w1':IntKind.i64.wrap (c31:Int)=(c31:Int):=Go.IntWalk.i64_in _ (by omega)
 have w2':IntKind.i64.wrap (X1:Int)=(X1:Int):=Go.IntWalk.i64_in _ (by omega)
 have w3':IntKind.i64.wrap (X2:Int)=(X2:Int):=Go.IntWalk.i64_in _ (by omega)
 have w4':IntKind.i64.wrap (n1:Int)=(n1:Int):=Go.IntWalk.i64_in _ (by omega)
 have w5':IntKind.i64.wrap (sz:Int)=(sz:Int):=Go.IntWalk.i64_in _ (by omega)
 have hhl0:(0:Int)<(hl:Int):=by omega
 have HH:=hid h
 have HR:=hid hR
 have HROW:=hid hrow
 have HCAP:=hid (And.intro hcap hus)
 have HHD:=hid hh
 have HNB:=hid (And.intro b1 (And.intro b3 (And.intro hsz (And.intro hcl (And.intro (show 1≤n1∧n1≤2097152 by omega) (And.intro hp256 hcc2))))))
 have HLL:=hid (And.intro hlen (And.intro hl5 (And.intro hhc h6)))
 have HP5:=hid hp5
 have HSS:=hid hS
 clear h hR hrow hcap hus hh hlen hhc h6 ht1 ht3 hp5 hp256 b1 b3 hn1 hsz e1 e3 hl1 hl3 hc31 hcl hX1 hX2 hcc hS hl5
 go_enter Tryz.func86,Tryz.ntmps86
 go_upto_region 1 with fail
 go_cut [5] from 6 (fun v wx=>v=.int .i64 (n1:Int)∧∃ d,wx=w.drewN d)
 case first =>
  go_region_with (first
   | (go_at_call 123;refine (HTW1.out 1 _).mono ?_;rintro e w2 ⟨rfl,d,rfl⟩))
  all_goals
   go_wp2
   go_meet
   case rel=>exact ⟨rfl,_,rfl⟩
 case rest =>
 obtain ⟨rfl,d1,hw1⟩:=hcut
 have HT3:=hid (HTW3.out d1)
 rw [← hw1] at HT3
 have HW1:=hid hw1
 have k0':∀ n,(w.drewN n).cell? ⟨hb,ho,none⟩=some (.int .u8 (cc:Int)):=fun _=>k0
 have K0:=hid k0'
 clear hw1 k0 k0' x1 x2 x3 w1' w2' w3' a31 hsl1 HTW1 HTW3
 go_wp2_with fail
 refine (HT3.out _).mono ?_;rintro e w2 ⟨rfl,d2,hw2⟩
 have H2:=hid (HH.out.drewN (d1+d2))
 have k0:=K0.out (d1+d2)
 have hwe:w.drewN (d1+d2)=w2:=by rw [hw2,HW1.out,World.drewN_drewN]
 rw [hwe] at H2 k0
 clear hwe hw2 HT3 hsl3 HW1 K0 HH
 go_upto_if 28 with fail
 clear x4 w5'
 go_cut [] from 7 (fun wx=>∃ all' wv',DmAt w0 wx K xb k (x.dict cc) wb kb S A bs c most used all' 0 wv' ov out∧wx.cell? ⟨hb,ho,none⟩=some (.int .u8 (cc:Int)))
 case first =>
  have hdg:=dict_ge (x:=x) (cc:=cc) (by omega)
  by_cases h224:224≤cc
  ·have q:(224:Int)≤(cc:Int):=by omega
   rw [if_pos h224] at hdg
   have HDG:=hid hdg
   clear h224 hdg
   go_wp2_with fail
   refine (throw_d H2.out).mono ?_;rintro e w3 ⟨rfl,h3⟩
   have H3:=hid h3
   have k3:Hid (w3.cell? ⟨hb,ho,none⟩=some (.int .u8 (cc:Int))):=hid (by
    have h0:=(HHD.out.below h3.b).2 0 (by have:=HLL.out;omega)
    have h1:=(HHD.out.below H2.out.b).2 0 (by have:=HLL.out;omega)
    exact h0.trans (h1.symm.trans k0))
   clear h3
   go_wp2
   go_meet
   case rel=>rw [HDG.out];exact ⟨_,_,H3.out,k3.out⟩
  have q:¬ (224:Int)≤(cc:Int):=by omega
  rw [if_neg h224] at hdg
  have HDG:=hid hdg
  clear h224 hdg
  go_wp2
  go_meet
  case rel=>rw [HDG.out];exact ⟨_,_,H2.out,k0⟩
 case rest =>
 obtain ⟨all',wv',h2,k2⟩:=hcut
 have HD:=hid h2
 obtain ⟨-,c1,c2,c3,-,-,-,-,-⟩:=h2.cells
 obtain ⟨LB,hLB⟩:∃ L,bs.length=L:=⟨_,rfl⟩
 obtain ⟨rm,hrm⟩:∃ r,LB-used=r:=⟨_,rfl⟩
 have hcap:=HCAP.out
 rw [hLB] at c2 hcap
 obtain ⟨⟨hcp1,hcp2,hcp4⟩,hcp3⟩:=hcap
 have q2:(LB:Int)-(used:Int)=(rm:Int):=by omega
 have qw2:IntKind.i64.wrap (rm:Int)=(rm:Int):=Go.IntWalk.i64_in _ (by omega)
 have hdl:(bs.drop used).length=rm:=by rw [List.length_drop,hLB];exact hrm
 clear h2 H2 k0
 by_cases hsh:rm<sz
 ·have qd:decide (rm<sz)=true:=decide_eq_true hsh
  have HRR:Hid (OneR.err 10=R):=hid (by have:=HR.out;rw [if_pos (by rw [hdl];exact hsh)] at this;exact this)
  clear hdl hrm hLB hsh hcp1 hcp2 hcp3 hcp4
  go_upto_region 5 with fail
  go_quiet (fail)
  go_wp2
  go_ret
  exact .inl ⟨10,HRR.out.symm,by decide,rfl,(HD.out.drewN _).outE⟩
 have qd:decide (rm<sz)=false:=decide_eq_false hsh
 have HR2:=hid (show (if 192≤cc∧badP p5 then OneR.err 11 else oneLz S ((x.dict cc).set cc p5) n1 ((bs.drop used).take sz) ((bs.drop used).drop sz))=R by have:=HR.out;rw [if_neg (by rw [hdl];exact hsh)] at this;exact this)
 have HLB:=hid (And.intro hLB (And.intro hrm (And.intro hdl (And.intro hcp1 (And.intro hcp2 (And.intro hcp3 hcp4))))))
 have HSH:=hid hsh
 clear hdl hrm hLB hsh hcp1 hcp2 hcp3 hcp4 HR
 go_upto_region 5 with fail
 go_quiet (fail)
 have H3:=hid (HD.out.drewN nq)
 have k3:(wc.drewN nq).cell? ⟨hb,ho,none⟩=some (.int .u8 (cc:Int)):=k2
 obtain ⟨w3,hw3⟩:∃ W,wc.drewN nq=W:=⟨_,rfl⟩
 rw [hw3] at H3 k3
 rw [hw3]
 go_upto_region 7 with fail
 clear c1 c2 c3 hw3 HD k2 q2 qw2 qd
 obtain ⟨-,c1,-,-,-,-,-,c7,-⟩:=H3.out.cells
 go_upto_if 46 with fail
 go_cut [] from 7 (fun wx=>∃ k',¬ (192≤cc∧badP p5)∧DmAt w0 wx K xb k' ((x.dict cc).set cc p5) wb kb S A bs c most used all' 0 wv' ov out)
 case first =>
  by_cases h192:192≤cc
  ·have q:(192:Int)≤(cc:Int):=by omega
   have k5:w3.cell? ⟨hb,ho+5,none⟩=some (.int .u8 (p5:Int)):=by
    have:=(HHD.out.below H3.out.b).2 5 (by have:=HLL.out;omega)
    unfold byteV at this
    rw [HP5.out] at this
    exact this
   have hl6:(5:Int)<(hl:Int):=by have:=HLL.out;omega
   have H4:=hid H3.out.drew
   by_cases hbad:badP p5
   ·have HB:=hid (dset_bad _ p5 _ _ w3.drew H4.out.s (by have:=HNB.out;omega) hbad)
    have HRR:Hid (OneR.err 11=R):=hid (by have:=HR2.out;rw [if_pos ⟨h192,hbad⟩] at this;exact this)
    clear hbad h192 HR2
    go_upto_region 8 with fail
    go_still_tail 7,(by kernel_rfl)
    change wpList _ _ _ _ _ w3.drew
    go_wp2_with fail
    refine HB.out.mono ?_;rintro e w5 ⟨rfl,hf5⟩
    have HO:=hid (H4.out.outF hf5)
    clear hf5
    go_wp2
    go_ret
    exact .inl ⟨11,HRR.out.symm,by decide,rfl,HO.out⟩
   have HB:=hid (dset_s _ p5 _ _ w3.drew H4.out.s (by have:=HNB.out;omega) hbad)
   have HBD:=hid (And.intro hbad h192)
   clear hbad h192
   go_upto_region 8 with fail
   go_still_tail 7,(by kernel_rfl)
   change wpList _ _ _ _ _ w3.drew
   go_wp2_with fail
   refine HB.out.mono ?_;rintro e w5 ⟨rfl,lb,hlb,hs5,hf5⟩
   have h5:DmAt w0 w5 K xb ⟨k.sb,lb,p5 % 9,p5 / 9 % 5,p5 / 45⟩ { (x.dict cc).reset with lc:=p5 % 9,lp:=p5 / 9 % 5,pb:=p5 / 45 } wb kb S A bs c most used all' 0 wv' ov out :=
    H4.out.restate rfl hlb hs5 ⟨rfl,rfl,rfl⟩ ⟨by have:=HBD.out.1;unfold badP at this;show p5 % 9+p5 / 9 % 5≤4;omega,by have:=HBD.out.1;unfold badP at this;show p5 / 45≤4;omega⟩ ⟨(by decide:(0:Nat)<12),fun _=>(by decide:(0:Nat)<4294967296)⟩ ⟨rfl,rfl,rfl,rfl⟩ hf5
   have H5:=hid h5
   obtain ⟨-,-,-,-,-,-,-,d7,-⟩:=h5.cells
   have f7:=h5.fz 7
   have H6:Hid (DmAt w0 (w5.setCell ⟨xb,7,none⟩ (.bool true)) K xb ⟨k.sb,lb,p5 % 9,p5 / 9 % 5,p5 / 45⟩ ((x.dict cc).set cc p5) wb kb S A bs c most used all' 0 wv' ov out):=hid (by
    have:=h5.turn (x':={ (x.dict cc).reset with lc:=p5 % 9,lp:=p5 / 9 % 5,pb:=p5 / 45,props:=true }) (used':=used) (d':=0) 7 (.bool true) rfl rfl rfl rfl ⟨rfl,rfl,rfl⟩ rfl h5.ht h5.al
    unfold DS.set
    rw [if_pos HBD.out.2]
    exact this)
   clear h5 hs5 hf5 hlb
   go_wp2
   go_meet
   case rel=>exact ⟨_,fun h=>HBD.out.1 h.2,H6.out⟩
  have q:¬ (192:Int)≤(cc:Int):=by omega
  by_cases h160:160≤cc
  ·have q2:(160:Int)≤(cc:Int):=by omega
   have HNN:=hid (And.intro h192 h160)
   have HB:=hid (dreset_s _ _ _ w3 H3.out.s H3.out.ok)
   clear h192 h160
   go_wp2_with fail
   refine HB.out.mono ?_;rintro e w5 ⟨rfl,lb,hlb,hs5,hf5⟩
   have H6:Hid (DmAt w0 w5 K xb ⟨k.sb,lb,k.lc,k.lp,k.pb⟩ ((x.dict cc).set cc p5) wb kb S A bs c most used all' 0 wv' ov out):=hid (by
    unfold DS.set
    rw [if_neg HNN.out.1,if_pos HNN.out.2]
    exact H3.out.restate rfl hlb hs5 H3.out.ks ⟨H3.out.ok.a,H3.out.ok.b⟩ ⟨(by decide:(0:Nat)<12),fun _=>(by decide:(0:Nat)<4294967296)⟩ ⟨rfl,rfl,rfl,rfl⟩ hf5)
   clear hs5 hf5 hlb
   go_wp2
   go_meet
   case rel=>exact ⟨_,fun h=>HNN.out.1 h.1,H6.out⟩
  have q2:¬ (160:Int)≤(cc:Int):=by omega
  have HNN:=hid (And.intro h192 h160)
  have H6:Hid (DmAt w0 w3 K xb k ((x.dict cc).set cc p5) wb kb S A bs c most used all' 0 wv' ov out):=hid (by
   unfold DS.set
   rw [if_neg HNN.out.1,if_neg HNN.out.2]
   exact H3.out)
  clear h192 h160
  go_wp2
  go_meet
  case rel=>exact ⟨_,fun h=>HNN.out.1 h.1,H6.out⟩
 case rest =>
 obtain ⟨k',hnb,h4⟩:=hcut
 have HR3:=hid (show oneLz S ((x.dict cc).set cc p5) n1 ((bs.drop used).take sz) ((bs.drop used).drop sz)=R by have:=HR2.out;rw [if_neg hnb] at this;exact this)
 have H4:=hid h4
 clear hnb h4 H3 HR2 k3 c1 c7
 obtain ⟨u2,hu2⟩:∃ u,used+sz=u:=⟨_,rfl⟩
 obtain ⟨hLB,hrm,hdl,hcp1,hcp2,hcp3,hcp4⟩:=HLB.out
 have hsh:=HSH.out
 have hsz1:1≤sz:=by have:=HNB.out;omega
 have hsz2:sz≤65536:=by have:=HNB.out;omega
 have y1:(used:Int)+(sz:Int)=(u2:Int):=by omega
 have y2:IntKind.i64.wrap (u2:Int)=(u2:Int):=Go.IntWalk.i64_in _ (by omega)
 have hsl:=fun w=>slice_cutD A LB c used u2 sz hu2 (by omega) (by omega) hsz1 w
 obtain ⟨A2,hA2⟩:∃ a,A.map (·.add used)=a:=⟨_,rfl⟩
 obtain ⟨c2,hc2⟩:∃ a,c-used=a:=⟨_,rfl⟩
 rw [hA2,hc2] at hsl
 have hrow2:BRow w0 K A2 ((bs.drop used).take sz):=by
  rw [← hA2]
  exact row_part HROW.out used sz (by omega) hsz1
 have htl:((bs.drop used).take sz).length=sz:=by rw [List.length_take,hdl];omega
 obtain ⟨cs,hcs⟩:∃ l,(bs.drop used).take sz=l:=⟨_,rfl⟩
 rw [hcs] at hrow2 htl HR3
 have H5:=hid H4.out.drew
 have hrow5:BRow wc.drew K A2 cs:=hrow2.below H5.out.b
 have hoff:BOff (DZc k' wb wv') A2 cs:=BOff.of_row hrow2 (by
  rintro q (e | e | e | e)
  ·rw [e];exact H5.out.ge.2.1
  ·rw [e];exact H5.out.ge.2.2.1
  ·rw [e];exact H5.out.ge.2.2.2
  exact (H5.out.win.o.lt e).1)
 have HC:=hid (dchunk_p k' K wb kb S _ _ _ all' cs wv' A2 sz c2 ((x.dict cc).set cc p5).total n1 wc.drew H5.out.s H5.out.win H5.out.kz H5.out.ok H5.out.st.1 H5.out.st.2 HSS.out (by have:=HNB.out;exact this.2.2.2.2.1) (by have:=H5.out.ht;have:=H5.out.al;have:=H5.out.om;omega) (by have:=H5.out.al;have:=H5.out.om;omega) htl.symm (hrow5.more H5.out.kz) (by omega) (by omega) hoff)
 obtain ⟨xs,hxs⟩:∃ y,(x.dict cc).set cc p5=y:=⟨_,rfl⟩
 rw [hxs] at HC HR3 H5 H4
 have hch:chunkOf k' S xs.total n1 xs.st xs.rep xs.pr (lastN S all') cs=chunkOf ⟨0,0,xs.lc,xs.lp,xs.pb⟩ S xs.total n1 xs.st xs.rep xs.pr xs.C cs:=by
  rw [chunkOf_lk,H5.out.ks.1,H5.out.ks.2.1,H5.out.ks.2.2,H5.out.hC]
 rw [hch] at HC
 have HDR:=hid (show (bs.drop used).drop sz=bs.drop u2 by rw [List.drop_drop,hu2])
 obtain ⟨XT,hXT⟩:∃ y,xs.total=y:=⟨_,rfl⟩
 obtain ⟨c0,c1,c2,c3,c4,-,-,-,-⟩:=H4.out.cells
 rw [hLB] at c2
 rw [hXT] at c4
 rw [hXT] at HC
 have HU2:=hid (And.intro hu2 (And.intro (show u2≤LB by omega) hLB))
 clear hrow2 htl hrow5 hoff hch hu2 hA2 hc2 hcs hsz1 hsz2 hsh hLB hrm hdl hcp1 hcp2 hcp3 hcp4 HROW
 go_upto_region 14 with fail
 refine wp_region_stc 28 (by kernel_rfl) (by kernel_rfl) ?_
 simp only [List.take_succ_cons,List.take_zero,List.drop_succ_cons,List.drop_zero]
 repeat still_step
 refine wpStill_nil ?_
 change wpList _ _ _ _ _ wc.drew
 go_wp2_with fail
 refine HC.out.mono ?_;rintro e w5 hce
 rcases hce with ⟨hn,rfl,hf5⟩ | ⟨t,y,At,ct,wv5,hsm,rfl,hown,hst5,hwin5,hnew5,hC5,hok5,htl5,hsep5,hf5⟩
 ·have HRR:Hid (OneR.err 11=R):=hid (by
   have:=HR3.out
   unfold oneLz at this
   rw [← hXT] at hn
   rw [hn] at this
   exact this)
  have HO:=hid (H5.out.outC hf5)
  clear hf5 hn
  go_wp2_with fail
  change wpStill _ _ _ _ _ _
  repeat still_step
  refine wpStill_nil ?_
  go_wp2
  go_ret
  exact .inl ⟨11,HRR.out.symm,by decide,rfl,HO.out⟩
 have HRR:Hid (OneR.told t { xs with st:=y.st,rep:=y.rep,pr:=y.s.pr,C:=y.C } (bs.drop u2)=R):=hid (by
  have:=HR3.out
  unfold oneLz at this
  rw [← hXT] at hsm
  rw [hsm] at this
  rw [← HDR.out]
  exact this)
 have h6:=H5.out.chunked hst5 hwin5 hC5 ⟨hok5.st,hok5.rep⟩ hnew5 hf5
 have HOT:=hid htl5
 have H6:=hid h6
 obtain ⟨-,-,-,b3,-,-,-,-,-⟩:=h6.cells
 have f3:=h6.fz 3
 have HT7:Hid (DmAt w0 (w5.setCell ⟨xb,3,none⟩ (.int .i64 (u2:Int))) K xb k' { xs with st:=y.st,rep:=y.rep,pr:=y.s.pr,C:=y.C } wb kb S A bs c most u2 (all'++t) t.length wv5 ov out):=hid (h6.turn 3 _ rfl rfl rfl rfl ⟨rfl,rfl,rfl⟩ rfl h6.ht h6.al)
 have HR7:Hid (BRow (w5.setCell ⟨xb,3,none⟩ (.int .i64 (u2:Int))) (w5.setCell ⟨xb,3,none⟩ (.int .i64 (u2:Int))).heap.size At t):=hid (own_rowD (hown.frm ((Frm.refl (· = xb) w5).setCell (p:=⟨xb,3,none⟩) rfl _) (fun q hq e=>own_ne hown h6.p (by decide) (e▸hq)))).1
 clear h6 hown htl5 hsm hf5 hok5 hC5 hnew5 hst5 hwin5 hsep5
 have HTN:=hid (told_no t At t.length ct _ HT7.out rfl HR7.out (by have:=HOT.out;omega))
 go_wp2_with fail
 change wpStill _ _ _ _ _ _
 repeat still_step
 refine wpStill_nil ?_
 go_wp2_with fail
 refine HTN.out.mono ?_;rintro e w7 hte
 obtain ⟨ev,he⟩:∃ ev,e=.returned ev:=by
  rcases hte with ⟨_,h2,_⟩ | ⟨_,h2,_⟩
  ·exact ⟨_,h2⟩
  exact ⟨_,h2⟩
 subst he
 have HTE:=hid hte
 clear hte
 go_wp2
 go_ret
 refine .inr ⟨t,_,u2,HRR.out.symm,by have:=HU2.out;omega,by have:=HU2.out;omega,?_⟩
 rcases HTE.out with ⟨a,b,d⟩ | ⟨a,b,wv7,ov7,d⟩
 ·exact .inl ⟨a,b,d⟩
 exact .inr ⟨a,b,_,_,wv7,ov7,d⟩
end
end Go.Proofs.YtffehfpbdcokbaaGreat
