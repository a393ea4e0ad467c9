import Derived.Test.YtffehfpbdcokbaaGreatBu28
set_option linter.unusedVariables false
set_option linter.unusedSimpArgs false
namespace Go.Proofs.YtffehfpbdcokbaaGreat
open Lib (hid)
open Go.RowKit Box
def hiNum (l:List UInt8):Nat→Nat
 | 0=>0
 | k+1=>hiNum l k*256+(l.getD (7-k) 0).toNat
theorem hiNum_lt (l:List UInt8):∀ k,hiNum l k<256 ^ k
 | 0=>by unfold hiNum;decide
 | k+1=>by
  have h:=hiNum_lt l k
  have h2:=(l.getD (7-k) 0).toNat_lt
  unfold hiNum
  rw [Nat.pow_succ]
  omega
theorem or_hi {n x:Nat} (hn:n<72057594037927936) (hx:x<256):bits .or .u64 ((n*256:Nat):Int) (x:Int)=((n*256+x:Nat):Int):=by
 have h1:=Num.or64 (a:=n*256) (b:=x) (by unfold Num.M64;omega) (by unfold Num.M64;omega)
 rw [h1]
 have h3:=Nat.shiftLeft_add_eq_or_of_lt (a:=n) (b:=x) (i:=8) hx
 rw [Nat.shiftLeft_eq] at h3
 rw [← h3]
def footOf (bs:List UInt8):Int×Nat×Int :=
 if bs.length<12 then (0,0,10)
 else if ¬ ((sealB ((bs.drop 4).take 6)==bs.take 4)=true∧((bs.take 12).drop 10==([89,90]:List UInt8))=true) then (0,0,11)
 else if ¬ flagsOk (bs.getD 8 0) (bs.getD 9 0) then (0,0,12)
 else (((bs.getD 9 0).toNat:Int),(hiNum bs 4+1)*4,0)
def footV (p:Int×Nat×Int):Value:=.tuple #[.int .i64 p.1,.int .u64 (p.2.1:Int),.int .i64 p.2.2]
theorem foot_bad1 {S T D:List UInt8} {F0 F1:UInt8} {N:Nat} {R:Int×Nat×Int} (h:(if ¬ ((sealB S==T)=true∧(D==([89,90]:List UInt8))=true) then (0,0,11) else if ¬ flagsOk F0 F1 then (0,0,12) else ((F1.toNat:Int),N,0))=R)
 (h1:(sealB S==T)=false∨(D==([89,90]:List UInt8))=false):R=(0,0,11):=by
 rw [if_pos (fun h=>by rcases h1 with h1 | h1;· rw [h1] at h;cases h.1
                       rw [h1] at h;cases h.2)] at h
 exact h.symm
set_option maxRecDepth 100000 in
set_option maxHeartbeats 1000000 in
theorem foot_p (A:Option Addr) (bs:List UInt8) (n c:Nat) (w:World) (hn:n=bs.length) (hc:n≤c) (hcm:c≤maxLen) (hr:BRow w w.heap.size A bs) (hlen:bs.length≤maxLen) :
 Calls Tryz.prog 50 #[.slice A n c] w fun e w'=>e=.returned (footV (footOf bs))∧Below w.heap.size w w':=by
 subst hn
 have P0:Pts (w.alloc (.cells #[.int .i64 0] 25)) w.heap.size #[.int .i64 0] 25:=Pts.new w _ _
 have hcur:=CurAt.fresh (w:=w.alloc (.cells #[.int .i64 0] 25)) w hc hcm hr ((Below.refl _ w).alloc (Nat.le_refl _) _) (by simp)
 have P1:=P0.alloc (.cells #[.slice A bs.length c,.int .i64 0] 105)
 have hsz:(w.alloc (.cells #[.int .i64 0] 25)).heap.size=w.heap.size+1:=by show (w.heap.push _).size=_;rw [Array.size_push]
 have F1:Below w.heap.size w ((w.alloc (.cells #[.int .i64 0] 25)).alloc (.cells #[.slice A bs.length c,.int .i64 0] 105)):=((Below.refl _ w).alloc (Nat.le_refl _) _).alloc (by rw [hsz];omega) _
 rw [hsz] at hcur
 obtain ⟨w1,hw1⟩:∃ w1,(w.alloc (.cells #[.int .i64 0] 25)).alloc (.cells #[.slice A bs.length c,.int .i64 0] 105)=w1:=⟨_,rfl⟩
 rw [hw1] at P1 hcur F1
 have PP1:=hid P1
 have CC:=hid hcur
 have FF1:=hid F1
 clear P0 P1 hcur F1 hr
 by_cases h12:bs.length<12
 ·have HH:=hid h12
  have hh:footOf bs=(0,0,10):=by unfold footOf;rw [if_pos h12]
  rw [hh]
  clear h12 hh
  go_enter_defers Tryz.func50,Tryz.ntmps50
  go_wp2_with fail
  refine (take_bad (w.heap.size+1) w.heap.size 12 0 10 bs w1 CC.out HH.out).mono ?_;rintro r w2 ⟨rfl,rfl⟩
  go_wp2
  refine leaves_cons (f:=57) (args:=#[.pointer (some ⟨w.heap.size,0,none⟩)]) (by simp) (by simp [go_sem]) ?_
  refine (catch_panicking w.heap.size 10 0 _ _ PP1.out).mono ?_
  rintro e u' w'' ⟨rfl,rfl,hp,hf⟩
  have c0:=hp.cell 0
  have hbel:Below w.heap.size w w'':=(FF1.out).trans (hf.below (FF1.out).size (fun k hk=>by omega))
  simp [Leaves,settle,results,Tryz.results50,go_sem,c0,footV,hbel]
 have hge:12≤bs.length:=by omega
 have HGE:=hid hge
 have lH:(bs.take 12).length=12:=by rw [List.length_take];omega
 obtain ⟨H,hH⟩:∃ H,bs.take 12=H:=⟨_,rfl⟩
 have hg:∀ k,k<12→bs.getD k 0=H.getD k 0:=fun k hk=>by rw [← hH];simp only [List.getD,List.getElem?_take];rw [if_pos hk]
 have e4:bs.take 4=H.take 4:=by rw [← hH,List.take_take];rfl
 have e10:(bs.drop 4).take 6=(H.drop 4).take 6:=by rw [← hH,List.drop_take,List.take_take];rfl
 have hhi:hiNum bs 4=hiNum H 4:=by simp only [hiNum];rw [hg 7 (by decide),hg 6 (by decide),hg 5 (by decide),hg 4 (by decide)]
 obtain ⟨R,hR⟩:∃ R,footOf bs=R:=⟨_,rfl⟩
 have hh0:=hR
 unfold footOf at hh0
 rw [if_neg h12,e4,hH,e10,hg 8 (by decide),hg 9 (by decide),hhi] at hh0
 rw [hR]
 rw [hH] at lH
 obtain ⟨S,hS⟩:∃ S,(H.drop 4).take 6=S:=⟨_,rfl⟩
 obtain ⟨T,hT⟩:∃ T,H.take 4=T:=⟨_,rfl⟩
 obtain ⟨D,hD⟩:∃ D,H.drop 10=D:=⟨_,rfl⟩
 have lS:6=S.length:=by rw [← hS,List.length_take,List.length_drop];omega
 have lT:4=T.length:=by rw [← hT,List.length_take];omega
 have lD:2=D.length:=by rw [← hD,List.length_drop];omega
 have hmt:(H.drop 8).take 2=[H.getD 8 0,H.getD 9 0]:=mid_two (by omega)
 rw [hS,hT,hD] at hh0
 obtain ⟨F0,hF0⟩:∃ F,H.getD 8 0=F:=⟨_,rfl⟩
 obtain ⟨F1,hF1⟩:∃ F,H.getD 9 0=F:=⟨_,rfl⟩
 rw [hF0,hF1] at hmt hh0
 have LS:=hid lS
 have LT:=hid lT
 have LD:=hid lD
 have LH:=hid lH
 have HH:=hid hH
 have HMT:=hid hmt
 have HSS:=hid hS
 have HTT:=hid hT
 have HDD:=hid hD
 have HR:=hid hh0
 clear lS lT lD hH h12 hg hge lH hmt e4 e10 hhi hR hh0 hS hT hD hF0 hF1 hlen
 by_cases hse:(sealB S==T)=true
 ·by_cases hy:D=[89,90]
  ·have hR:=HR.out
   have hyt:(D==([89,90]:List UInt8))=true:=beq_iff_eq.2 hy
   rw [if_neg (fun h=>h ⟨hse,hyt⟩)] at hR
   have HY:=hid hy
   clear HR hy hyt
   by_cases hfl:flagsOk F0 F1
   ·rw [if_neg (fun h=>h hfl)] at hR
    subst hR
    have HFL:=hid hfl
    clear hfl
    go_enter_defers Tryz.func50,Tryz.ntmps50
    go_wp2_with fail
    refine (take_ok (w.heap.size+1) w.heap.size 12 0 10 bs w1 CC.out HGE.out (by decide)).mono ?_;rintro r w2 ⟨A2,c2,rfl,hr2,hc2,hm2,hcur2,hf2⟩
    rw [HH.out] at hr2
    have P2:=hid (PP1.out.frm hf2 (by omega))
    have B2:=hid (FF1.out.trans (hf2.below FF1.out.size (fun k hk=>by omega)))
    have hs1:∀ w,(Instr.sliceAt 22 (.slice A2 12 c2) (some (.int .i64 4)) (some (.int .i64 10)) none).run Tryz.prog w=.ok (.slice (A2.map (·.add 4)) 6 (c2-4)) w:=fun w=>slice_midX A2 12 c2 4 10 (by decide) (by decide) hc2 (by omega) w
    have hs2:∀ w,(Instr.sliceAt 22 (.slice A2 12 c2) none (some (.int .i64 4)) none).run Tryz.prog w=.ok (.slice A2 4 c2) w:=fun w=>slice_toX A2 12 c2 4 (by decide) hc2 w
    have hs3:∀ w,(Instr.sliceAt 22 (.slice A2 12 c2) (some (.int .i64 8)) (some (.int .i64 10)) none).run Tryz.prog w=.ok (.slice (A2.map (·.add 8)) 2 (c2-8)) w:=fun w=>slice_midX A2 12 c2 8 10 (by decide) (by decide) hc2 (by omega) w
    have hs4:∀ w,(Instr.sliceAt 22 (.slice A2 12 c2) (some (.int .i64 10)) none none).run Tryz.prog w=.ok (.slice (A2.map (·.add 10)) 2 (c2-10)) w:=fun w=>by
     have:=slice_fromX A2 12 c2 10 (by decide) hc2 w
     rw [if_neg (by omega)] at this
     exact this
    obtain ⟨A4,hA4⟩:∃ A4,A2.map (·.add 4)=A4:=⟨_,rfl⟩
    obtain ⟨A8,hA8⟩:∃ A8,A2.map (·.add 8)=A8:=⟨_,rfl⟩
    obtain ⟨A10,hA10⟩:∃ A10,A2.map (·.add 10)=A10:=⟨_,rfl⟩
    have hrs:=hr2.mid (f:=4) (t:=6) (c:=c2) (by rw [LH.out];exact hc2) (by omega)
    rw [HSS.out] at hrs
    have hrt:=hr2.take 4
    rw [HTT.out] at hrt
    have hrd:=hr2.mid (f:=10) (t:=2) (c:=c2) (by rw [LH.out];exact hc2) (by omega)
    rw [HDD.out,List.take_of_length_le (by rw [← LD.out];decide)] at hrd
    have hrf:=hr2.mid (f:=8) (t:=2) (c:=c2) (by rw [LH.out];exact hc2) (by omega)
    rw [HMT.out] at hrf
    rw [hA4] at hs1 hrs
    rw [hA8] at hs3 hrf
    rw [hA10] at hs4 hrd
    have RT:=hid hrt
    have RD:=hid hrd
    have RF2:=hid hrf
    have RA2:=hid hr2
    have HSE:=hid (seal_p A4 S 6 (c2-4) w2.drew LS.out (hrs.more B2.out.size) (by rw [← LS.out];decide))
    clear hr2 hc2 hm2 hcur2 hf2 hrs hrt hrd hrf hA4 hA8 hA10
    go_wp2
    refine wp_region_noPanic ?_
    go_region_with (first
     | (go_at_call 93;refine Calls.mono HSE.out ?_;rintro e w3 ⟨v,rfl,hO,hB⟩;obtain ⟨A3,k3,rfl,hc3,hm3,hr3⟩:=hO.slice;have BS:=hid hB;have R3:=hid hr3;have hb3:Below w.heap.size w2 w3:=((Below.refl _ w2).drew).trans (hB.mono B2.out.size);have BB3:=hid hb3;have k1:=run_conv_bytes (P:=Tryz.prog) w3 22 9 5 Tryz.underlying22 Tryz.underlying5 Tryz.underlying9 A10 2 (c2-10) _ D LD.out (RD.out.below hb3);rw [HY.out] at k1;clear hO hB hr3 hc3 hm3 hb3)
     | (go_at_call 52;refine Calls.mono (equal_p _ _ (sealB S) T _ _ _ _ w3.heap.size _ rfl R3.out LT.out ((RT.out.below BB3.out).more (Nat.le_trans B2.out.size BB3.out.size))) ?_;rw [hse];rintro e w' ⟨rfl,rfl⟩)
     | (go_at_call 59;refine Calls.mono (must_ok _ _ _) ?_;rintro e w' ⟨rfl,rfl⟩))
    have P3:=hid (Pts.below (w:=w2.drew) P2.out BS.out P2.out.lt)
    have B3:=hid (B2.out.trans BB3.out)
    have RF:=hid (RF2.out.below BB3.out)
    have RA:=hid (RA2.out.below BB3.out)
    refine NoPanic.normal ?_
    go_wp2_with fail
    refine (flags_ok _ F0 F1 2 _ w.heap.size _ w3 rfl RF.out HFL.out).mono ?_;rintro r w4 ⟨rfl,rfl⟩
    go_wp2
    go_loopw [3,7] (fun nv iv wr=>wr=w3∧∃ k:Nat,k≤4∧iv=.int .i64 (7-(k:Int))∧nv=.int .u64 (hiNum H k)) (fun _ iv _=>(intOf iv).toNat)
    case atStart=>exact ⟨rfl,0,by omega,rfl,rfl⟩
    case round =>
    obtain ⟨hwr,k,hk,rfl,rfl⟩:=hrel
    subst hwr
    by_cases hk4:k<4
    ·obtain ⟨b0,off,hA,hb0,hcell⟩:=RA.out (by rw [LH.out];decide)
     have hc7:=hcell (7-k) (by rw [LH.out];omega)
     unfold byteV at hc7
     have hN:hiNum H (k+1)=hiNum H k*256+(H.getD (7-k) 0).toNat:=rfl
     have hlt:=hiNum_lt H k
     have hp:256 ^ k≤256 ^ 3:=Nat.pow_le_pow_right (by decide) (by omega)
     have hx:=(H.getD (7-k) 0).toNat_lt
     obtain ⟨x,hxx⟩:∃ x,(H.getD (7-k) 0).toNat=x:=⟨_,rfl⟩
     obtain ⟨N,hNN⟩:∃ N,hiNum H k=N:=⟨_,rfl⟩
     rw [hxx] at hc7 hN hx
     rw [hNN] at hlt hN
     have h256:(256:Nat) ^ 3=16777216:=by decide
     have hN24:N<16777216:=by omega
     have hor:=or_hi (n:=N) (x:=x) (by omega) hx
     obtain ⟨j,hj⟩:∃ j,7-k=j:=⟨_,rfl⟩
     have hji:(7:Int)-(k:Int)=(j:Int):=by omega
     have hj4:4≤j:=by omega
     have hj7:j≤7:=by omega
     rw [hj] at hc7
     rw [hA]
     have e256:((N*256:Nat):Int)=(N:Int)*256:=by omega
     rw [e256] at hor
     have hj2:(7:Int)-((k+1:Nat):Int)=(j:Int)-1:=by omega
     have HJ2:=hid hj2
     have HN2:=hid hN
     rw [hNN,hji]
     clear hcell hxx hNN hp hlt h256 hN hj2 hj
     go_wp2
     refine ⟨⟨trivial,k+1,by omega,?_,?_⟩,by simp [intOf];omega⟩
     ·rw [HJ2.out]
     rw [HN2.out];congr 1
    obtain rfl:k=4:=by omega
    have hN:=hiNum_lt H 4
    have h256:(256:Nat) ^ 4=4294967296:=by decide
    rw [h256] at hN
    obtain ⟨N,hNN⟩:∃ N,hiNum H 4=N:=⟨_,rfl⟩
    rw [hNN] at hN ⊢
    have HNN:=hid hNN
    clear h256 hNN
    have c30:=P3.out.cell 0
    have z30:=P3.out.frozen 0
    have HBEL:=hid (B3.out.setCell (p:=⟨w.heap.size,0,none⟩) (Nat.le_refl _) (.int .i64 0))
    go_wp2
    refine leaves_cons (f:=57) (args:=#[.pointer (some ⟨w.heap.size,0,none⟩)]) (by simp) (by simp [go_sem]) ?_
    refine (catch_idle _ _).mono ?_
    rintro e u' w'' ⟨rfl,rfl,rfl⟩
    have hbel:=HBEL.out
    simp [Leaves,settle,results,Tryz.results50,go_sem,footV,c30]
    exact ⟨by rw [HNN.out],hbel⟩
   rw [if_pos hfl] at hR
   subst hR
   have HFL:=hid hfl
   clear hfl
   go_enter_defers Tryz.func50,Tryz.ntmps50
   go_wp2_with fail
   refine (take_ok (w.heap.size+1) w.heap.size 12 0 10 bs w1 CC.out HGE.out (by decide)).mono ?_;rintro r w2 ⟨A2,c2,rfl,hr2,hc2,hm2,hcur2,hf2⟩
   rw [HH.out] at hr2
   have P2:=hid (PP1.out.frm hf2 (by omega))
   have B2:=hid (FF1.out.trans (hf2.below FF1.out.size (fun k hk=>by omega)))
   have hs1:∀ w,(Instr.sliceAt 22 (.slice A2 12 c2) (some (.int .i64 4)) (some (.int .i64 10)) none).run Tryz.prog w=.ok (.slice (A2.map (·.add 4)) 6 (c2-4)) w:=fun w=>slice_midX A2 12 c2 4 10 (by decide) (by decide) hc2 (by omega) w
   have hs2:∀ w,(Instr.sliceAt 22 (.slice A2 12 c2) none (some (.int .i64 4)) none).run Tryz.prog w=.ok (.slice A2 4 c2) w:=fun w=>slice_toX A2 12 c2 4 (by decide) hc2 w
   have hs3:∀ w,(Instr.sliceAt 22 (.slice A2 12 c2) (some (.int .i64 8)) (some (.int .i64 10)) none).run Tryz.prog w=.ok (.slice (A2.map (·.add 8)) 2 (c2-8)) w:=fun w=>slice_midX A2 12 c2 8 10 (by decide) (by decide) hc2 (by omega) w
   have hs4:∀ w,(Instr.sliceAt 22 (.slice A2 12 c2) (some (.int .i64 10)) none none).run Tryz.prog w=.ok (.slice (A2.map (·.add 10)) 2 (c2-10)) w:=fun w=>by
    have:=slice_fromX A2 12 c2 10 (by decide) hc2 w
    rw [if_neg (by omega)] at this
    exact this
   obtain ⟨A4,hA4⟩:∃ A4,A2.map (·.add 4)=A4:=⟨_,rfl⟩
   obtain ⟨A8,hA8⟩:∃ A8,A2.map (·.add 8)=A8:=⟨_,rfl⟩
   obtain ⟨A10,hA10⟩:∃ A10,A2.map (·.add 10)=A10:=⟨_,rfl⟩
   have hrs:=hr2.mid (f:=4) (t:=6) (c:=c2) (by rw [LH.out];exact hc2) (by omega)
   rw [HSS.out] at hrs
   have hrt:=hr2.take 4
   rw [HTT.out] at hrt
   have hrd:=hr2.mid (f:=10) (t:=2) (c:=c2) (by rw [LH.out];exact hc2) (by omega)
   rw [HDD.out,List.take_of_length_le (by rw [← LD.out];decide)] at hrd
   have hrf:=hr2.mid (f:=8) (t:=2) (c:=c2) (by rw [LH.out];exact hc2) (by omega)
   rw [HMT.out] at hrf
   rw [hA4] at hs1 hrs
   rw [hA8] at hs3 hrf
   rw [hA10] at hs4 hrd
   have RT:=hid hrt
   have RD:=hid hrd
   have RF2:=hid hrf
   have RA2:=hid hr2
   have HSE:=hid (seal_p A4 S 6 (c2-4) w2.drew LS.out (hrs.more B2.out.size) (by rw [← LS.out];decide))
   clear hr2 hc2 hm2 hcur2 hf2 hrs hrt hrd hrf hA4 hA8 hA10
   go_wp2
   refine wp_region_noPanic ?_
   go_region_with (first
    | (go_at_call 93;refine Calls.mono HSE.out ?_;rintro e w3 ⟨v,rfl,hO,hB⟩;obtain ⟨A3,k3,rfl,hc3,hm3,hr3⟩:=hO.slice;have BS:=hid hB;have R3:=hid hr3;have hb3:Below w.heap.size w2 w3:=((Below.refl _ w2).drew).trans (hB.mono B2.out.size);have BB3:=hid hb3;have k1:=run_conv_bytes (P:=Tryz.prog) w3 22 9 5 Tryz.underlying22 Tryz.underlying5 Tryz.underlying9 A10 2 (c2-10) _ D LD.out (RD.out.below hb3);rw [HY.out] at k1;clear hO hB hr3 hc3 hm3 hb3)
    | (go_at_call 52;refine Calls.mono (equal_p _ _ (sealB S) T _ _ _ _ w3.heap.size _ rfl R3.out LT.out ((RT.out.below BB3.out).more (Nat.le_trans B2.out.size BB3.out.size))) ?_;rw [hse];rintro e w' ⟨rfl,rfl⟩)
    | (go_at_call 59;refine Calls.mono (must_ok _ _ _) ?_;rintro e w' ⟨rfl,rfl⟩))
   have P3:=hid (Pts.below (w:=w2.drew) P2.out BS.out P2.out.lt)
   have B3:=hid (B2.out.trans BB3.out)
   have RF:=hid (RF2.out.below BB3.out)
   have RA:=hid (RA2.out.below BB3.out)
   refine NoPanic.normal ?_
   go_wp2_with fail
   refine (flags_bad _ F0 F1 2 _ w.heap.size _ w3 rfl RF.out HFL.out).mono ?_;rintro r w4 ⟨rfl,rfl⟩
   go_wp2
   refine leaves_cons (f:=57) (args:=#[.pointer (some ⟨w.heap.size,0,none⟩)]) (by simp) (by simp [go_sem]) ?_
   refine (catch_panicking w.heap.size 12 0 _ _ P3.out).mono ?_
   rintro e u' w'' ⟨rfl,rfl,hp,hf⟩
   have c0:=hp.cell 0
   have hbel:Below w.heap.size w w'':=(B3.out).trans (hf.below (B3.out).size (fun k hk=>by omega))
   simp [Leaves,settle,results,Tryz.results50,go_sem,c0,footV,hbel]
  have hyf:(D==([89,90]:List UInt8))=false:=by simpa using hy
  have hR:=foot_bad1 HR.out (.inr hyf)
  subst hR
  clear HR hy
  go_enter_defers Tryz.func50,Tryz.ntmps50
  go_wp2_with fail
  refine (take_ok (w.heap.size+1) w.heap.size 12 0 10 bs w1 CC.out HGE.out (by decide)).mono ?_;rintro r w2 ⟨A2,c2,rfl,hr2,hc2,hm2,hcur2,hf2⟩
  rw [HH.out] at hr2
  have P2:=hid (PP1.out.frm hf2 (by omega))
  have B2:=hid (FF1.out.trans (hf2.below FF1.out.size (fun k hk=>by omega)))
  have hs1:∀ w,(Instr.sliceAt 22 (.slice A2 12 c2) (some (.int .i64 4)) (some (.int .i64 10)) none).run Tryz.prog w=.ok (.slice (A2.map (·.add 4)) 6 (c2-4)) w:=fun w=>slice_midX A2 12 c2 4 10 (by decide) (by decide) hc2 (by omega) w
  have hs2:∀ w,(Instr.sliceAt 22 (.slice A2 12 c2) none (some (.int .i64 4)) none).run Tryz.prog w=.ok (.slice A2 4 c2) w:=fun w=>slice_toX A2 12 c2 4 (by decide) hc2 w
  have hs3:∀ w,(Instr.sliceAt 22 (.slice A2 12 c2) (some (.int .i64 8)) (some (.int .i64 10)) none).run Tryz.prog w=.ok (.slice (A2.map (·.add 8)) 2 (c2-8)) w:=fun w=>slice_midX A2 12 c2 8 10 (by decide) (by decide) hc2 (by omega) w
  have hs4:∀ w,(Instr.sliceAt 22 (.slice A2 12 c2) (some (.int .i64 10)) none none).run Tryz.prog w=.ok (.slice (A2.map (·.add 10)) 2 (c2-10)) w:=fun w=>by
   have:=slice_fromX A2 12 c2 10 (by decide) hc2 w
   rw [if_neg (by omega)] at this
   exact this
  obtain ⟨A4,hA4⟩:∃ A4,A2.map (·.add 4)=A4:=⟨_,rfl⟩
  obtain ⟨A8,hA8⟩:∃ A8,A2.map (·.add 8)=A8:=⟨_,rfl⟩
  obtain ⟨A10,hA10⟩:∃ A10,A2.map (·.add 10)=A10:=⟨_,rfl⟩
  have hrs:=hr2.mid (f:=4) (t:=6) (c:=c2) (by rw [LH.out];exact hc2) (by omega)
  rw [HSS.out] at hrs
  have hrt:=hr2.take 4
  rw [HTT.out] at hrt
  have hrd:=hr2.mid (f:=10) (t:=2) (c:=c2) (by rw [LH.out];exact hc2) (by omega)
  rw [HDD.out,List.take_of_length_le (by rw [← LD.out];decide)] at hrd
  have hrf:=hr2.mid (f:=8) (t:=2) (c:=c2) (by rw [LH.out];exact hc2) (by omega)
  rw [HMT.out] at hrf
  rw [hA4] at hs1 hrs
  rw [hA8] at hs3 hrf
  rw [hA10] at hs4 hrd
  have RT:=hid hrt
  have RD:=hid hrd
  have RF2:=hid hrf
  have RA2:=hid hr2
  have HSE:=hid (seal_p A4 S 6 (c2-4) w2.drew LS.out (hrs.more B2.out.size) (by rw [← LS.out];decide))
  clear hr2 hc2 hm2 hcur2 hf2 hrs hrt hrd hrf hA4 hA8 hA10
  go_wp2
  refine Pan.wp_only_panic [{ v:=.iface 198 (.agg #[.int .i64 11]),recovered:=false }] (fun w3=>Pts w3 w.heap.size #[.int .i64 0] 25∧Below w.heap.size w w3) [.slice A bs.length c,undef,.int .i64 0,.int .u64 0,.pointer (some ⟨w.heap.size,0,none⟩)] [{ target:=.fn (.func 57) #[],args:=#[.pointer (some ⟨w.heap.size,0,none⟩)] }] (fun a w3 hS hK=>?pan2) ?reg2
  case reg2 =>
   refine wp_region_any (by kernel_rfl) ?_
   change wpAny _ _ _ _ _ _ _ (World.drew _)
   refine wpAny_take (i:=0) rfl (by kernel_rfl) (by kernel_rfl) (by kernel_rfl) (fun _ _ _ h=>⟨h.1,h.2.1,h.2.2.unput (Nat.le_of_ble_eq_true rfl)⟩) (Or.inl ⟨by rfl,by (intro w;go_simp;try with_reducible rfl)⟩) ?_
   refine wpAny_take (i:=1) rfl (by kernel_rfl) (by kernel_rfl) (by kernel_rfl) (fun _ _ _ h=>⟨h.1,h.2.1,h.2.2.unput (Nat.le_of_ble_eq_true rfl)⟩) (Or.inl ⟨by rfl,by (intro w;go_simp;try with_reducible rfl)⟩) ?_
   refine wpAny_take (i:=2) rfl (by kernel_rfl) (by kernel_rfl) (by kernel_rfl) (fun _ _ _ h=>⟨h.1,h.2.1,h.2.2.unput (Nat.le_of_ble_eq_true rfl)⟩) (Or.inl ⟨by rfl,by (intro w;go_simp;try with_reducible rfl)⟩) ?_
   refine wpAny_take (i:=4) rfl (by kernel_rfl) (by kernel_rfl) (by kernel_rfl) (fun _ _ _ h=>⟨h.1,h.2.1,h.2.2.unput (Nat.le_of_ble_eq_true rfl)⟩) (Or.inl ⟨by rfl,by (intro w;go_simp;try with_reducible rfl)⟩) ?_
   refine wpAny_take (i:=5) rfl (by kernel_rfl) (by kernel_rfl) (by kernel_rfl) (fun _ _ _ h=>⟨h.1,h.2.1,h.2.2.unput (Nat.le_of_ble_eq_true rfl)⟩) (Or.inl ⟨by rfl,by (intro w;go_simp;try with_reducible rfl)⟩) ?_
   refine wpAny_ready (rs:=[3]) (by kernel_rfl) (by simp) ?_
   refine AllReady.cons rfl (fun K hK=>?_) AllReady.nil
   go_simp
   go_wp2_with (go_at_call 93;refine Calls.mono HSE.out ?_;rintro e w3 ⟨v,rfl,hO,hB⟩;obtain ⟨A3,k3,rfl,hc3,hm3,hr3⟩:=hO.slice;have BS:=hid hB;have R3:=hid hr3;have hb3:Below w.heap.size w2 w3:=((Below.refl _ w2).drew).trans (hB.mono B2.out.size);have BB3:=hid hb3;have k1:=run_conv_bytes (P:=Tryz.prog) w3 22 9 5 Tryz.underlying22 Tryz.underlying5 Tryz.underlying9 A10 2 (c2-10) _ D LD.out (RD.out.below hb3);clear hO hB hr3 hc3 hm3 hb3)
   refine wpAny_ready (rs:=[6]) (by kernel_rfl) (by simp) ?_
   refine AllReady.cons rfl (fun K hK=>?_) AllReady.nil
   go_simp
   go_wp2_with (go_at_call 52;refine Calls.mono (equal_p _ _ (sealB S) T _ _ _ _ w3.heap.size _ rfl R3.out LT.out ((RT.out.below BB3.out).more (Nat.le_trans B2.out.size BB3.out.size))) ?_;rw [hse];rintro e w' ⟨rfl,rfl⟩)
   refine wpAny_ready (rs:=[7]) (by kernel_rfl) (by simp) ?_
   refine AllReady.cons rfl (fun K hK=>?_) AllReady.nil
   go_simp
   refine hK _ _ ?_;clear hK K
   refine wpAny_ready (rs:=[8]) (by kernel_rfl) (by simp) ?_
   refine AllReady.cons rfl (fun K hK=>?_) AllReady.nil
   go_simp
   refine hK _ _ ?_;clear hK K
   refine wpAny_ready (rs:=[9]) (by kernel_rfl) (by simp) ?_
   refine AllReady.cons rfl (fun K hK=>?_) AllReady.nil
   go_simp
   refine hK _ _ ?_;clear hK K
   refine wpAny_ready (rs:=[10]) (by kernel_rfl) (by simp) ?_
   refine AllReady.cons rfl (fun K hK=>?_) AllReady.nil
   go_simp
   refine hK _ _ ?_;clear hK K
   refine wpAny_ready (rs:=[11]) (by kernel_rfl) (by simp) ?_
   refine AllReady.cons rfl (fun K hK=>?_) AllReady.nil
   go_simp
   refine hK _ _ ?_;clear hK K
   refine wpAny_ready (rs:=[12]) (by kernel_rfl) (by simp) ?_
   refine AllReady.cons rfl (fun K hK=>?_) AllReady.nil
   go_simp
   refine hK _ _ ?_;clear hK K
   have P3:=hid (Pts.below (w:=w2.drew) P2.out BS.out P2.out.lt)
   have B3:=hid (B2.out.trans BB3.out)
   refine wpAny_ready (rs:=[13]) (by kernel_rfl) (by simp) ?_
   refine AllReady.cons rfl (fun K hK=>?_) AllReady.nil
   go_simp
   go_wp2_with (go_at_call 59;refine Calls.mono (must_bad _ _ _) ?_;rintro e w' ⟨rfl,rfl⟩)
   exact ⟨rfl,⟨P3.out,B3.out⟩,rfl,rfl⟩
  obtain ⟨tmps,dfs⟩:=a
  obtain ⟨hP,hbe⟩:=hS
  have t2:=hK.get 2 (by simp)
  have t3:=hK.get 3 (by simp)
  have t4:=hK.get 4 (by simp)
  simp only [List.getElem?_cons_succ,List.getElem?_cons_zero] at t2 t3 t4
  have hd:dfs=_:=hK.2
  subst hd
  refine leaves_cons (f:=57) (args:=#[.pointer (some ⟨w.heap.size,0,none⟩)]) (by simp) (by simp [go_sem]) ?_
  refine (catch_panicking w.heap.size 11 0 _ _ hP).mono ?_
  rintro e u' w'' ⟨rfl,rfl,hp,hf⟩
  have c0:=hp.cell 0
  have hbel:Below w.heap.size w w'':=hbe.trans (hf.below hbe.size (fun k hk=>by omega))
  simp [Leaves,settle,results,Tryz.results50,go_sem,c0,footV,hbel,t2,t3,t4]
 have hse:(sealB S==T)=false:=by simpa using hse
 have hR:=foot_bad1 HR.out (.inl hse)
 subst hR
 clear HR
 go_enter_defers Tryz.func50,Tryz.ntmps50
 go_wp2_with fail
 refine (take_ok (w.heap.size+1) w.heap.size 12 0 10 bs w1 CC.out HGE.out (by decide)).mono ?_;rintro r w2 ⟨A2,c2,rfl,hr2,hc2,hm2,hcur2,hf2⟩
 rw [HH.out] at hr2
 have P2:=hid (PP1.out.frm hf2 (by omega))
 have B2:=hid (FF1.out.trans (hf2.below FF1.out.size (fun k hk=>by omega)))
 have hs1:∀ w,(Instr.sliceAt 22 (.slice A2 12 c2) (some (.int .i64 4)) (some (.int .i64 10)) none).run Tryz.prog w=.ok (.slice (A2.map (·.add 4)) 6 (c2-4)) w:=fun w=>slice_midX A2 12 c2 4 10 (by decide) (by decide) hc2 (by omega) w
 have hs2:∀ w,(Instr.sliceAt 22 (.slice A2 12 c2) none (some (.int .i64 4)) none).run Tryz.prog w=.ok (.slice A2 4 c2) w:=fun w=>slice_toX A2 12 c2 4 (by decide) hc2 w
 have hs3:∀ w,(Instr.sliceAt 22 (.slice A2 12 c2) (some (.int .i64 8)) (some (.int .i64 10)) none).run Tryz.prog w=.ok (.slice (A2.map (·.add 8)) 2 (c2-8)) w:=fun w=>slice_midX A2 12 c2 8 10 (by decide) (by decide) hc2 (by omega) w
 have hs4:∀ w,(Instr.sliceAt 22 (.slice A2 12 c2) (some (.int .i64 10)) none none).run Tryz.prog w=.ok (.slice (A2.map (·.add 10)) 2 (c2-10)) w:=fun w=>by
  have:=slice_fromX A2 12 c2 10 (by decide) hc2 w
  rw [if_neg (by omega)] at this
  exact this
 obtain ⟨A4,hA4⟩:∃ A4,A2.map (·.add 4)=A4:=⟨_,rfl⟩
 obtain ⟨A8,hA8⟩:∃ A8,A2.map (·.add 8)=A8:=⟨_,rfl⟩
 obtain ⟨A10,hA10⟩:∃ A10,A2.map (·.add 10)=A10:=⟨_,rfl⟩
 have hrs:=hr2.mid (f:=4) (t:=6) (c:=c2) (by rw [LH.out];exact hc2) (by omega)
 rw [HSS.out] at hrs
 have hrt:=hr2.take 4
 rw [HTT.out] at hrt
 have hrd:=hr2.mid (f:=10) (t:=2) (c:=c2) (by rw [LH.out];exact hc2) (by omega)
 rw [HDD.out,List.take_of_length_le (by rw [← LD.out];decide)] at hrd
 have hrf:=hr2.mid (f:=8) (t:=2) (c:=c2) (by rw [LH.out];exact hc2) (by omega)
 rw [HMT.out] at hrf
 rw [hA4] at hs1 hrs
 rw [hA8] at hs3 hrf
 rw [hA10] at hs4 hrd
 have RT:=hid hrt
 have RD:=hid hrd
 have RF2:=hid hrf
 have RA2:=hid hr2
 have HSE:=hid (seal_p A4 S 6 (c2-4) w2.drew LS.out (hrs.more B2.out.size) (by rw [← LS.out];decide))
 clear hr2 hc2 hm2 hcur2 hf2 hrs hrt hrd hrf hA4 hA8 hA10
 go_wp2
 refine Pan.wp_only_panic [{ v:=.iface 198 (.agg #[.int .i64 11]),recovered:=false }] (fun w3=>Pts w3 w.heap.size #[.int .i64 0] 25∧Below w.heap.size w w3) [.slice A bs.length c,undef,.int .i64 0,.int .u64 0,.pointer (some ⟨w.heap.size,0,none⟩)] [{ target:=.fn (.func 57) #[],args:=#[.pointer (some ⟨w.heap.size,0,none⟩)] }] (fun a w3 hS hK=>?pan3) ?reg3
 case reg3 =>
  refine wp_region_any (by kernel_rfl) ?_
  change wpAny _ _ _ _ _ _ _ (World.drew _)
  refine wpAny_take (i:=0) rfl (by kernel_rfl) (by kernel_rfl) (by kernel_rfl) (fun _ _ _ h=>⟨h.1,h.2.1,h.2.2.unput (Nat.le_of_ble_eq_true rfl)⟩) (Or.inl ⟨by rfl,by (intro w;go_simp;try with_reducible rfl)⟩) ?_
  refine wpAny_take (i:=1) rfl (by kernel_rfl) (by kernel_rfl) (by kernel_rfl) (fun _ _ _ h=>⟨h.1,h.2.1,h.2.2.unput (Nat.le_of_ble_eq_true rfl)⟩) (Or.inl ⟨by rfl,by (intro w;go_simp;try with_reducible rfl)⟩) ?_
  refine wpAny_take (i:=2) rfl (by kernel_rfl) (by kernel_rfl) (by kernel_rfl) (fun _ _ _ h=>⟨h.1,h.2.1,h.2.2.unput (Nat.le_of_ble_eq_true rfl)⟩) (Or.inl ⟨by rfl,by (intro w;go_simp;try with_reducible rfl)⟩) ?_
  refine wpAny_take (i:=4) rfl (by kernel_rfl) (by kernel_rfl) (by kernel_rfl) (fun _ _ _ h=>⟨h.1,h.2.1,h.2.2.unput (Nat.le_of_ble_eq_true rfl)⟩) (Or.inl ⟨by rfl,by (intro w;go_simp;try with_reducible rfl)⟩) ?_
  refine wpAny_take (i:=5) rfl (by kernel_rfl) (by kernel_rfl) (by kernel_rfl) (fun _ _ _ h=>⟨h.1,h.2.1,h.2.2.unput (Nat.le_of_ble_eq_true rfl)⟩) (Or.inl ⟨by rfl,by (intro w;go_simp;try with_reducible rfl)⟩) ?_
  refine wpAny_ready (rs:=[3]) (by kernel_rfl) (by simp) ?_
  refine AllReady.cons rfl (fun K hK=>?_) AllReady.nil
  go_simp
  go_wp2_with (go_at_call 93;refine Calls.mono HSE.out ?_;rintro e w3 ⟨v,rfl,hO,hB⟩;obtain ⟨A3,k3,rfl,hc3,hm3,hr3⟩:=hO.slice;have BS:=hid hB;have R3:=hid hr3;have hb3:Below w.heap.size w2 w3:=((Below.refl _ w2).drew).trans (hB.mono B2.out.size);have BB3:=hid hb3;have k1:=run_conv_bytes (P:=Tryz.prog) w3 22 9 5 Tryz.underlying22 Tryz.underlying5 Tryz.underlying9 A10 2 (c2-10) _ D LD.out (RD.out.below hb3);clear hO hB hr3 hc3 hm3 hb3)
  refine wpAny_ready (rs:=[6]) (by kernel_rfl) (by simp) ?_
  refine AllReady.cons rfl (fun K hK=>?_) AllReady.nil
  go_simp
  go_wp2_with (go_at_call 52;refine Calls.mono (equal_p _ _ (sealB S) T _ _ _ _ w3.heap.size _ rfl R3.out LT.out ((RT.out.below BB3.out).more (Nat.le_trans B2.out.size BB3.out.size))) ?_;rw [hse];rintro e w' ⟨rfl,rfl⟩)
  refine wpAny_ready (rs:=[7]) (by kernel_rfl) (by simp) ?_
  refine AllReady.cons rfl (fun K hK=>?_) AllReady.nil
  go_simp
  refine hK _ _ ?_;clear hK K
  refine wpAny_ready (rs:=[8]) (by kernel_rfl) (by simp) ?_
  refine AllReady.cons rfl (fun K hK=>?_) AllReady.nil
  go_simp
  refine hK _ _ ?_;clear hK K
  refine wpAny_ready (rs:=[9]) (by kernel_rfl) (by simp) ?_
  refine AllReady.cons rfl (fun K hK=>?_) AllReady.nil
  go_simp
  refine hK _ _ ?_;clear hK K
  refine wpAny_ready (rs:=[10]) (by kernel_rfl) (by simp) ?_
  refine AllReady.cons rfl (fun K hK=>?_) AllReady.nil
  go_simp
  refine hK _ _ ?_;clear hK K
  refine wpAny_ready (rs:=[11]) (by kernel_rfl) (by simp) ?_
  refine AllReady.cons rfl (fun K hK=>?_) AllReady.nil
  go_simp
  refine hK _ _ ?_;clear hK K
  refine wpAny_ready (rs:=[12]) (by kernel_rfl) (by simp) ?_
  refine AllReady.cons rfl (fun K hK=>?_) AllReady.nil
  go_simp
  refine hK _ _ ?_;clear hK K
  have P3:=hid (Pts.below (w:=w2.drew) P2.out BS.out P2.out.lt)
  have B3:=hid (B2.out.trans BB3.out)
  refine wpAny_ready (rs:=[13]) (by kernel_rfl) (by simp) ?_
  refine AllReady.cons rfl (fun K hK=>?_) AllReady.nil
  go_simp
  go_wp2_with (go_at_call 59;refine Calls.mono (must_bad _ _ _) ?_;rintro e w' ⟨rfl,rfl⟩)
  exact ⟨rfl,⟨P3.out,B3.out⟩,rfl,rfl⟩
 obtain ⟨tmps,dfs⟩:=a
 obtain ⟨hP,hbe⟩:=hS
 have t2:=hK.get 2 (by simp)
 have t3:=hK.get 3 (by simp)
 have t4:=hK.get 4 (by simp)
 simp only [List.getElem?_cons_succ,List.getElem?_cons_zero] at t2 t3 t4
 have hd:dfs=_:=hK.2
 subst hd
 refine leaves_cons (f:=57) (args:=#[.pointer (some ⟨w.heap.size,0,none⟩)]) (by simp) (by simp [go_sem]) ?_
 refine (catch_panicking w.heap.size 11 0 _ _ hP).mono ?_
 rintro e u' w'' ⟨rfl,rfl,hp,hf⟩
 have c0:=hp.cell 0
 have hbel:Below w.heap.size w w'':=hbe.trans (hf.below hbe.size (fun k hk=>by omega))
 simp [Leaves,settle,results,Tryz.results50,go_sem,c0,footV,hbel,t2,t3,t4]
end Go.Proofs.YtffehfpbdcokbaaGreat
