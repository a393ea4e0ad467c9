import Derived.Test.YtffehfpbdcokbaaGreatBu46
set_option linter.unusedVariables false
set_option linter.unusedSimpArgs false
namespace Go.Proofs.YtffehfpbdcokbaaGreat
open Lib (hid)
open Go.RowKit Rng Win Lz Box
def slenX:Value→Nat
 | .slice _ n _=>n
 | _=>0
theorem blocksB_len_le (kind:Int) (numbers:Bool) (code:UInt8):∀ l:List (List UInt8),(∀ b∈l,b.length≤65536)→(blocksB kind numbers code l).length≤65600*l.length
 | [],_=>by simp [blocksB]
 | b::l,h=>by
  have h1:=blocksB_len_le kind numbers code l (fun q hq=>h q (List.mem_cons_of_mem _ hq))
  have hb:=h b (by simp)
  have h2:=(hdPad_len numbers b code).2.1
  have h3:=hdB_len numbers b code
  have h4:=(bodyB_len hb).2
  have h5:=chkLen_le kind
  have h6:=padOf_lt ((hdB numbers b code).length+(bodyB b).length)
  have e:blocksB kind numbers code (b::l)=blockB kind numbers b code++blocksB kind numbers code l:=rfl
  rw [e,List.length_append,List.length_cons]
  unfold blockB
  rw [List.length_append,List.length_append,List.length_append,zs_len,chkB_len]
  omega
theorem rowsX_len (R:Nat→ByteRow) (kind:Int) (numbers:Bool) (code:UInt8) (kc:UInt8) (n i:Nat) (hi:i≤12) (hr:∀ k,k<i→(R k).bs.length≤65536) :
 (headM kc++blocksB kind numbers code (rowsL R i)).length≤1000000∧((0::put n)++recsB (recsX kind numbers code (rowsL R i))).length≤1000:=by
 have h1:=blocksB_len_le kind numbers code (rowsL R i) (rowsL_all hr)
 have h2:=recsB_len (recsX kind numbers code (rowsL R i))
 have h3:(recsX kind numbers code (rowsL R i)).length=i:=by unfold recsX;rw [List.length_map,rowsL_len]
 have h4:=(put_len n).2
 have h5:(headM kc).length=12:=rfl
 rw [rowsL_len] at h1
 rw [List.length_append,List.length_append,List.length_cons,h5]
 omega
set_option maxRecDepth 100000 in
set_option maxHeartbeats 4000000 in
theorem made_p (A:Option Addr) (n c:Nat) (R:Nat→ByteRow) (kc code:UInt8) (numbers:Bool) (B:Nat) (w:World) (hk:kc=0∨kc=1∨kc=4) (hn:n≤12) (hr:Opn.RowAt w B A n fun i=>(R i).v) (hB:B≤w.heap.size)
 (hb:∀ i,i<n→(R i).bs.length≤(R i).cap∧BRow w B (R i).A (R i).bs∧(R i).bs.length≤65536) :
 Calls Tryz.prog 21 #[.slice A n c,.int .i64 (kc.toNat:Int),.int .u8 (code.toNat:Int),.bool numbers] w fun e w'=>∃ v,e=.returned v∧OwnB w' 5 w.heap.size v (madeX kc numbers code (rowsL R n))∧Below w.heap.size w w':=by
 obtain ⟨kn,hkn⟩:∃ kn,kc.toNat=kn:=⟨_,rfl⟩
 have hk4:kn≤4:=by rcases hk with rfl | rfl | rfl <;> (rw [← hkn];decide)
 obtain ⟨cn,hcn⟩:∃ cn,code.toNat=cn:=⟨_,rfl⟩
 rw [hkn,hcn]
 have HR:=hid hr
 have HB:=hid hb
 have HBB:=hid hB
 have HKN:=hid (And.intro hkn (And.intro hk4 (And.intro hcn hn)))
 have HLL:Hid (∀ i,i≤n→(headM kc++blocksB (kc.toNat:Int) numbers code (rowsL R i)).length≤1000000∧((0::put n)++recsB (recsX (kc.toNat:Int) numbers code (rowsL R i))).length≤1000):=hid (fun i hi=>rowsX_len R _ _ _ _ _ i (by omega) (fun k hk=>(hb k (by omega)).2.2))
 have kw:IntKind.u8.wrap (kn:Int)=(kn:Int):=Go.IntWalk.u8_in _ (by omega)
 have nw:IntKind.u64.wrap (n:Int)=(n:Int):=Go.IntWalk.u64_in _ (by omega)
 have HM:Hid (Two 5 w ((w.alloc (.cells #[.int .u8 0,.int .u8 (kn:Int)] 5)).alloc (.cells #[.int .u8 253,.int .u8 55,.int .u8 122,.int .u8 88,.int .u8 90,.int .u8 0] 5)) (.slice (some ⟨w.heap.size,0,none⟩) 2 2) (.slice (some ⟨w.heap.size+1,0,none⟩) 6 6) [0,kc] magic):=by
  have o1:OwnB (w.alloc (.cells #[.int .u8 0,.int .u8 (kn:Int)] 5)) 5 w.heap.size (.slice (some ⟨w.heap.size,0,none⟩) 2 2) [0,kc]:=by
   rw [← hkn]
   exact OwnB.of_cells w 5 w.heap.size [0,kc] (Nat.le_refl _) (by simp [maxLen])
  have hb1:Below w.heap.size w (w.alloc (.cells #[.int .u8 0,.int .u8 (kn:Int)] 5)):=(Below.refl _ w).alloc (Nat.le_refl _) _
  have hz:(w.alloc (.cells #[.int .u8 0,.int .u8 (kn:Int)] 5)).heap.size=w.heap.size+1:=by simp
  have o2:=OwnB.of_cells (w.alloc (.cells #[.int .u8 0,.int .u8 (kn:Int)] 5)) 5 _ magic (Nat.le_refl _) (by decide)
  have t:=Two.start o1 o2 ((Below.refl _ _).alloc (Nat.le_refl _) _) hb1
  rw [hz] at t
  exact hid t
 obtain ⟨LN,hLN⟩:∃ LN,(put n).length=LN:=⟨_,rfl⟩
 have HLN:=hid hLN
 have HKR:=hid hk
 clear hr hb hB hkn hk4 hk hcn hn hLN
 go_enter Tryz.func21,Tryz.ntmps21
 go_wp2_with (at_builtin;refine wpList_append_bytes _ rfl (.tmp 23) (.tmp 24) 22 rfl 5 w.heap.size Tryz.underlying22 Tryz.info_u8 (.slice (some ⟨w.heap.size+1,0,none⟩) 6 6) magic rfl ?own (some ⟨w.heap.size,0,none⟩) 2 2 (w.heap.size+2) [0,kc] rfl rfl ?row ?len ?base ?next)
 case own=>exact HM.out.oi
 case row=>have q:=HM.out.oo.rowZ;simp only [Go.World.alloc,Array.size_push] at q;exact q
 case len=>simp [magic]
 case base=>simp;omega
 case next =>
 intro v3 w3 hown3 hfrm3 hnew3
 have t3:=HM.out.idx hown3 hfrm3 (by simpa using hnew3)
 obtain ⟨A3,k3,rfl,-,-,-⟩:=hown3.slice
 have T3:=hid t3
 clear hown3 hfrm3 hnew3 t3 HM
 go_wp2_with fail
 refine (rseal_p _ [0,kc] 2 _ w3 rfl T3.out.oo.rowZ (by simp)).mono ?_;rintro e w4 ⟨v4,rfl,ho4,hb4⟩
 have T4:=hid (T3.out.keep hb4)
 obtain ⟨A4,k4,rfl,-,-,hr4⟩:=ho4.slice
 have R4:=hid hr4
 clear T3 ho4 hb4 hr4
 go_wp2_with (at_builtin;refine wpList_append_bytes _ rfl (.tmp 26) (.tmp 28) 22 rfl 5 w.heap.size Tryz.underlying22 Tryz.info_u8 _ (magic++[0,kc]) rfl ?own A4 4 k4 w4.heap.size (sealB [0,kc]) rfl rfl ?row ?len ?base ?next)
 case own=>exact T4.out.oi
 case row=>exact R4.out
 case len=>simp [magic,sealB_len]
 case base=>exact T4.out.be.size
 case next =>
 intro v5 w5 hown5 hfrm5 hnew5
 have t5:=T4.out.idx hown5 hfrm5 hnew5
 have hh:magic++0::kc::sealB [0,kc]=headM kc:=rfl
 rw [hh] at t5 hown5
 have HT:Hid (Two 5 w (w5.alloc (.cells #[.int .u8 0] 5)) v5 (.slice (some ⟨w5.heap.size,0,none⟩) 1 1) (headM kc) [0]):=hid (Two.start t5.oi (OwnB.of_cells w5 5 _ [0] (Nat.le_refl _) (by decide)) ((Below.refl _ _).alloc (Nat.le_refl _) _) t5.be)
 obtain ⟨A5,k5,rfl,-,-,-⟩:=hown5.slice
 clear hown5 hfrm5 hnew5 t5 hh T4 R4
 go_wp2_with fail
 refine (num_two n LN (by have:=HKN.out;omega) HLN.out HT.out).mono ?_;rintro e w6 ⟨A6,k6,rfl,hr6,t6⟩
 have R6:=hid hr6
 have T6:=hid t6
 clear hr6 t6 HT
 go_wp2_with (at_builtin;refine wpList_append_bytes _ rfl (.tmp 30) (.tmp 34) 22 rfl 5 w.heap.size Tryz.underlying22 Tryz.info_u8 _ [0] rfl ?own A6 LN k6 w6.heap.size (put n) rfl HLN.out.symm ?row ?len ?base ?next)
 case own=>exact T6.out.oi
 case row=>exact R6.out
 case len=>have:=(put_len n).2;simp;omega
 case base=>exact T6.out.be.size
 case next =>
 intro v7 w7 hown7 hfrm7 hnew7
 have T7:=hid (T6.out.idx hown7 hfrm7 hnew7)
 obtain ⟨A7,k7,e7,-,-,-⟩:=hown7.slice
 obtain ⟨L7,hL7⟩:∃ L,(0::put n).length=L:=⟨_,rfl⟩
 rw [hL7] at e7
 subst e7
 clear hown7 hfrm7 hnew7 R6 T6 hL7
 go_wp2
 go_loopw [10,11,12] (fun ov xv iv wr=>∃ i:Nat,iv=.int .i64 (i:Int)∧i≤n∧Two 5 w wr ov xv (headM kc++blocksB (kc.toNat:Int) numbers code (rowsL R i)) ((0::put n)++recsB (recsX (kc.toNat:Int) numbers code (rowsL R i)))) (fun _ _ iv _=>n-(intOf iv).toNat)
 case atStart=>exact ⟨0,rfl,Nat.zero_le _,by simpa [rowsL,blocksB,recsX,recsB] using T7.out⟩
 case round =>
 obtain ⟨i,rfl,hi,t⟩:=hrel
 obtain ⟨wk,hwk⟩:∃ wk,wk=wr:=⟨_,rfl⟩
 subst hwk
 obtain ⟨Ao,ko,rfl,-,-,-⟩:=t.oo.slice
 obtain ⟨Ax,kx,rfl,-,-,-⟩:=t.oi.slice
 obtain ⟨lo,hlo⟩:∃ lo,headM kc++blocksB (kc.toNat:Int) numbers code (rowsL R i)=lo:=⟨_,rfl⟩
 obtain ⟨lx,hlx⟩:∃ lx,(0::put n)++recsB (recsX (kc.toNat:Int) numbers code (rowsL R i))=lx:=⟨_,rfl⟩
 rw [hlo,hlx] at t
 rw [hlo,hlx]
 have HLO:=hid hlo
 have HLX:=hid hlx
 have HT:=hid t
 clear t hlo hlx T7
 by_cases hlt:i<n
 ·obtain ⟨b,off,hA,hbB,hcl⟩:=HR.out (by omega)
  subst hA
  have hcc:∀ W,Below wk.heap.size wk W→W.cell? ⟨b,off+i,none⟩=some (.slice (R i).A (R i).bs.length (R i).cap):=fun W hW=>by
   have e1:=hW.cell (p:=⟨b,off+i,none⟩) (by have:=HT.out.be.size;have:=HBB.out;simp only;omega)
   have e2:=HT.out.be.cell (p:=⟨b,off+i,none⟩) (by have:=HBB.out;simp only;omega)
   rw [e1,e2]
   exact hcl i hlt
  have hcw:∀ W,Below w.heap.size w W→W.cell? ⟨b,off+i,none⟩=some (.slice (R i).A (R i).bs.length (R i).cap):=fun W hW=>by
   rw [hW.cell (p:=⟨b,off+i,none⟩) (by have:=HBB.out;simp only;omega)]
   exact hcl i hlt
  obtain ⟨g1,g2,g3⟩:=HB.out i hlt
  have hrow:=g2.below (HT.out.be.mono HBB.out)
  have hsn:rowsL R (i+1)=rowsL R i++[(R i).bs]:=rfl
  obtain ⟨bs,hbs⟩:∃ bs,(R i).bs=bs:=⟨_,rfl⟩
  obtain ⟨rA,hrA⟩:∃ rA,(R i).A=rA:=⟨_,rfl⟩
  obtain ⟨rk,hrk⟩:∃ rk,(R i).cap=rk:=⟨_,rfl⟩
  rw [hbs] at hsn hrow g1 g3
  rw [hrA] at hrow
  rw [hrk] at g1
  simp only [hbs,hrA,hrk] at hcc hcw
  obtain ⟨lb,hlb⟩:∃ lb,bs.length=lb:=⟨_,rfl⟩
  simp only [hlb] at hcc hcw
  have HCW:=hid hcw
  clear hcw
  rw [hlb] at g1 g3
  have HCC:=hid hcc
  have HSN:=hid hsn
  have HRW:=hid hrow
  have HLB:=hid (And.intro hlb (And.intro g1 g3))
  have hx:=HCC.out wk (Below.refl _ _)
  have hbl:=bodyB_len (b:=bs) (by omega)
  clear hcc hsn hrow hbs hrA hrk hlb g2 hcl g1
  obtain ⟨LB,hLB⟩:∃ LB,(bodyB bs).length=LB:=⟨_,rfl⟩
  rw [hLB] at hbl
  have HBL:=hid (And.intro hLB hbl)
  go_wp2_with fail
  refine (chunks_p rA bs lb rk B wk HLB.out.1.symm HRW.out (Nat.le_trans HBB.out HT.out.be.size) HLB.out.2.1 HLB.out.2.2).mono ?_;rintro e w1 ⟨v1,rfl,ho1,hb1⟩
  have HT2:Hid (Two 5 wk (w1.alloc (.cells #[.int .u8 0,.int .u8 0] 5)) v1 (.slice (some ⟨w1.heap.size,0,none⟩) 2 2) (bodyB bs) [0,0]):=hid (Two.start ho1 (OwnB.of_cells w1 5 _ [0,0] (Nat.le_refl _) (by decide)) ((Below.refl _ _).alloc (Nat.le_refl _) _) hb1)
  have HT3:Hid (Two 5 wk (w1.alloc (.cells #[.int .u8 0,.int .u8 192] 5)) v1 (.slice (some ⟨w1.heap.size,0,none⟩) 2 2) (bodyB bs) [0,192]):=hid (Two.start ho1 (OwnB.of_cells w1 5 _ [0,192] (Nat.le_refl _) (by decide)) ((Below.refl _ _).alloc (Nat.le_refl _) _) hb1)
  obtain ⟨A1,k1,rfl,-,-,-⟩:=ho1.slice
  simp only [hLB]
  rw [hLB] at HT2 HT3
  clear ho1 hb1 hx hLB
  go_upto_if 48 with fail
  go_cut [14] from 49 to 64 (fun hv wx=>Two 5 wk wx (.slice A1 LB k1) hv (bodyB bs) (0::(if numbers then 192::(put LB++put lb) else [0])))
  case first =>
   cases numbers
   ·go_wp2
    go_meet
    case rel=>exact HT2.out
   clear HT2
   obtain ⟨L1,hL1⟩:∃ L1,(put LB).length=L1:=⟨_,rfl⟩
   obtain ⟨L2,hL2⟩:∃ L2,(put lb).length=L2:=⟨_,rfl⟩
   have HL1:=hid hL1
   have HL2:=hid hL2
   have lbw:IntKind.u64.wrap (lb:Int)=(lb:Int):=Go.IntWalk.u64_in _ (by omega)
   have LBw:IntKind.u64.wrap (LB:Int)=(LB:Int):=Go.IntWalk.u64_in _ (by omega)
   clear hL1 hL2
   go_wp2
   generalize w1.alloc (.cells #[.int .u8 0,.int .u8 192] 5)=w2 at *
   have hc2:=HCC.out w2 HT3.out.be
   go_region_held3 (fun w'=>w'.cell? ⟨b,off+i,none⟩=some (.slice rA lb rk)) (first | assumption | exact hcd_ | exact hcc_ | exact hcb_ | exact hca_ | exact hc2)
    (first
    | (go_at_call 43;have hh:=num_two (w0:=wk) LB L1 (by have:=HBL.out;omega) HL1.out HT3.out.drew;with_reducible refine Calls.mono hh ?_;rintro e wa_ ⟨Aa_,ka_,rfl,hra_,hta_⟩;have hca_:=HCC.out wa_ hta_.be)
    | (go_at_call 43;have hh:=num_two (w0:=wk) lb L2 (by have:=HLB.out;omega) HL2.out htb_;with_reducible refine Calls.mono hh ?_;rintro e wc_ ⟨Ac_,kc_,rfl,hrc_,htc_⟩;have hcc_:=HCC.out wc_ htc_.be)
    | (refine stepR_append_bytes _ rfl (.tmp 51) (.tmp 55) 22 rfl 5 wk.heap.size Tryz.underlying22 Tryz.info_u8 (.slice (some ⟨w1.heap.size,0,none⟩) 2 2) [0,192] rfl ?_ Aa_ L1 ka_ wa_.heap.size (put LB) rfl ?_ ?_ ?_ ?_ ?_;exact hta_.oi;exact HL1.out.symm;exact hra_;(have:=(put_len LB).2;simp;omega);exact hta_.be.size;(intro vb_ wb_ hownb_ hfrmb_ hnewb_;have htb_:=(Two.idx (w:=wa_) hta_ hownb_ hfrmb_ hnewb_);obtain ⟨Ab_,kb_,rfl,-,-,-⟩:=hownb_.slice;have hcb_:=HCC.out wb_ htb_.be))
    | (refine stepR_append_bytes _ rfl (.tmp 56) (.tmp 63) 22 rfl 5 wk.heap.size Tryz.underlying22 Tryz.info_u8 (.slice Ab_ _ kb_) ([0,192]++put LB) rfl ?_ Ac_ L2 kc_ wc_.heap.size (put lb) rfl ?_ ?_ ?_ ?_ ?_;exact htc_.oi;exact HL2.out.symm;exact hrc_;(have:=(put_len LB).2;have:=(put_len lb).2;simp;omega);exact htc_.be.size;(intro vd_ wd_ hownd_ hfrmd_ hnewd_;have htd_:=(Two.idx (w:=wc_) htc_ hownd_ hfrmd_ hnewd_);obtain ⟨Ad_,kd_,rfl,-,-,-⟩:=hownd_.slice;have hcd_:=HCC.out wd_ htd_.be))
    | fail)
   go_wp2
   go_meet
   case rel=>simpa using htd_
  case rest =>
  clear HT2 HT3
  obtain ⟨Ah,kh,rfl,-,-,-⟩:=hcut.oi.slice
  obtain ⟨hq,hhq⟩:∃ hq,(0::(if numbers then 192::(put LB++put lb) else [0]):List UInt8)=hq:=⟨_,rfl⟩
  rw [hhq] at hcut
  simp only [hhq]
  have hhl:hq.length≤20:=by
   rw [← hhq]
   have:=(put_len LB).2
   have:=(put_len lb).2
   cases numbers <;> simp <;> omega
  have hh2:0::hdRaw numbers bs code=hq++[33,1,code]:=by
   rw [← hhq]
   unfold hdRaw
   rw [HBL.out.1,HLB.out.1]
   rfl
  have HH2:=hid hh2
  have HHL:=hid hhl
  have H10:=hid hcut
  clear hcut hhl hh2 hhq
  go_wp2_with (at_builtin;refine wpList_append_bytes _ rfl (.tmp 65) (.tmp 67) 22 rfl 5 wk.heap.size Tryz.underlying22 Tryz.info_u8 _ hq rfl ?own (some ⟨wc.heap.size,0,none⟩) 3 3 (wc.heap.size+1) [33,1,code] rfl rfl ?row ?len ?base ?next)
  case own=>exact H10.out.oi.alloc _
  case row=>exact row_cellsX wc _ [33,1,code] _ (by have:=HKN.out.2.2.1;simp [byteV,this])
  case len=>have:=HHL.out;simp;omega
  case base=>have:=H10.out.be.size;simp;omega
  case next =>
  intro v11 w11 hown11 hfrm11 hnew11
  have t11:=(H10.out.keep ((Below.refl _ _).alloc (Nat.le_refl _) (.cells #[.int .u8 33,.int .u8 1,.int .u8 (cn:Int)] 5))).idx hown11 hfrm11 (by simpa using hnew11)
  rw [← HH2.out] at t11 hown11
  obtain ⟨hr,hhr⟩:∃ hr,hdRaw numbers bs code=hr:=⟨_,rfl⟩
  have hrl:=hdRaw_len numbers bs code
  rw [hhr] at t11 hown11 hrl
  have HHR:=hid hhr
  have HRL:=hid hrl
  have T11:=hid t11
  obtain ⟨A11,k11,rfl,-,-,-⟩:=hown11.slice
  clear hown11 hfrm11 hnew11 t11 HH2 H10 HHL hhr hrl
  go_wp2
  go_loopw [14] (fun v wz=>∃ j:Nat,j≤padOf (1+hr.length)∧Two 5 wk wz (.slice A1 LB k1) v (bodyB bs) (0::hr++List.replicate j 0)) (fun v _=>1000-slenX v)
  case atStart=>exact ⟨0,Nat.zero_le _,by simpa using T11.out⟩
  case round =>
  obtain ⟨j,hj,t⟩:=hrel
  obtain ⟨Av,kv,rfl,-,-,-⟩:=t.oi.slice
  obtain ⟨M,hM⟩:∃ M,(0::hr++List.replicate j 0).length=M:=⟨_,rfl⟩
  have hMj:M=1+hr.length+j:=by rw [← hM];simp;omega
  have hpl:=padOf_lt (1+hr.length)
  have hMM:M≤30:=by have:=HRL.out;omega
  rw [hM]
  rw [hM] at t
  have HJ:=hid (And.intro hj (And.intro hMj hM))
  have HT3:=hid t
  clear hj hMj hM t hpl
  have hM0:0<M:=by have:=HJ.out.2.1;omega
  by_cases h4:M % 4=0
  ·have hz4:((M:Int) % 4 != 0)=false:=by
    have:(M:Int) % 4=0:=by omega
    rw [this];rfl
   have hjp:j=padOf (1+hr.length):=pad_done HJ.out.1 (by rw [← HJ.out.2.1];exact h4)
   have hhp:(0:UInt8)::hr++List.replicate j 0=0::hdPad numbers bs code:=by
    unfold hdPad zs
    rw [HHR.out,← hjp]
    rfl
   have HT4:=HT3.out
   rw [hhp] at HT4
   have hML:1+(hdPad numbers bs code).length=M:=by rw [← HJ.out.2.2,hhp];simp;omega
   rcases HT4.oi.form with ⟨_,e⟩ | ⟨g,cap,cur,e,hg1,hg2,-⟩
   ·simp at e
   injection e with e1 e2 e3
   subst e1
   subst e3
   have hg0:wr.cell? ⟨g,0,none⟩=some (.int .u8 0):=by
    have q:=HT4.oi.rowZ.addr (k:=0) (by simp)
    simpa [byteV] using q
   have hg3:=hg2.frozen 0
   have HT5:=HT4.set 0 (by simp) (UInt8.ofNat (M / 4))
   have hML4:(UInt8.ofNat (M / 4)).toNat=M / 4:=by simp;omega
   have hMw:IntKind.u8.wrap ((M:Int) / 4)=(M:Int) / 4:=Go.IntWalk.u8_in _ (by omega)
   have HT6:Hid (Two 5 wk (wr.setCell ⟨g,0,none⟩ (.int .u8 ((M:Int) / 4))) (.slice A1 LB k1) (.slice (some ⟨g,0,none⟩) M kv) (bodyB bs) (UInt8.ofNat (M / 4)::hdPad numbers bs code)):=hid (by
    have q:=HT5
    unfold byteV at q
    rw [hML4,show ((M / 4:Nat):Int)=(M:Int) / 4 by omega] at q
    exact q)
   have HML:=hid hML
   clear HT3 HT4 HT5 hhp hjp HJ hML hML4 hg1 hg2 e2 h4
   obtain ⟨H,hH⟩:∃ H,UInt8.ofNat (M / 4)::hdPad numbers bs code=H:=⟨_,rfl⟩
   have hHl:H.length=M:=by rw [← hH,← HML.out];simp;omega
   have hHB:H++sealB H=hdB numbers bs code:=by rw [← hH,← HML.out];rfl
   rw [hH] at HT6
   have HHl:=hid hHl
   have HHB:=hid hHB
   clear hH hHl hHB HML T11
   go_wp2_with fail
   generalize wr.setCell ⟨g,0,none⟩ (.int .u8 ((M:Int) / 4))=wh at *
   refine (rseal_p (some ⟨g,0,none⟩) H M kv wh HHl.out.symm HT6.out.oi.rowZ (by rw [HHl.out];omega)).mono ?_;rintro e w14 ⟨v14,rfl,ho14,hb14⟩
   have T14:=hid (HT6.out.keep hb14)
   obtain ⟨A14,k14,rfl,-,-,hr14⟩:=ho14.slice
   have R14:=hid hr14
   clear ho14 hb14 hr14 HT6
   go_wp2_with (at_builtin;refine wpList_append_bytes _ rfl (.tmp 82) (.tmp 84) 22 rfl 5 wk.heap.size Tryz.underlying22 Tryz.info_u8 (.slice (some ⟨g,0,none⟩) M kv) H rfl ?own A14 4 k14 w14.heap.size (sealB H) rfl rfl ?row ?len ?base ?next)
   case own=>exact T14.out.oi
   case row=>exact R14.out
   case len=>rw [HHl.out,sealB_len];omega
   case base=>exact T14.out.be.size
   case next =>
   intro v15 w15 hown15 hfrm15 hnew15
   have t15:=T14.out.idx hown15 hfrm15 hnew15
   rw [HHB.out] at t15 hown15
   obtain ⟨HB,hHB⟩:∃ HB,hdB numbers bs code=HB:=⟨_,rfl⟩
   have hHBl:HB.length≤30:=by
    rw [← hHB,hdB_len]
    have:=(hdPad_len numbers bs code).2.1
    omega
   rw [hHB] at t15 hown15
   obtain ⟨A15,k15,rfl,-,-,-⟩:=hown15.slice
   have HHB2:=hid hHB
   have HHBl:=hid hHBl
   have T15:=hid t15
   clear hown15 hfrm15 hnew15 t15 hHB hHBl HHB HHl T14 R14
   go_wp2_with (at_builtin;refine wpList_append_bytes _ rfl (.tmp 86) (.tmp 87) 22 rfl 5 wk.heap.size Tryz.underlying22 Tryz.info_u8 (.slice A15 HB.length k15) HB rfl ?own A1 LB k1 w15.heap.size (bodyB bs) rfl HBL.out.1.symm ?row ?len ?base ?next)
   case own=>exact T15.out.oi
   case row=>exact T15.out.oo.rowZ
   case len=>rw [HBL.out.1];have:=HHBl.out;omega
   case base=>exact T15.out.be.size
   case next =>
   intro v16 w16 hown16 hfrm16 hnew16
   have t16:=T15.out.idx hown16 hfrm16 hnew16
   obtain ⟨X,hX⟩:∃ X,HB++bodyB bs=X:=⟨_,rfl⟩
   have hXl:X.length=HB.length+LB:=by rw [← hX,List.length_append,HBL.out.1]
   obtain ⟨SX,hSX⟩:∃ SX,X.length=SX:=⟨_,rfl⟩
   rw [hSX] at hXl
   have hSXb:SX≤65600:=by have:=HHBl.out;omega
   rw [hX] at t16 hown16
   obtain ⟨A16,k16,rfl,-,-,-⟩:=hown16.slice
   rw [hSX] at t16
   simp only [hSX]
   have HX:=hid (And.intro hX (And.intro hSX hXl))
   have T16:=hid t16
   clear hown16 hfrm16 hnew16 t16 hX hSX hXl T15
   go_wp2
   go_loopw [15] (fun v wz=>∃ j:Nat,j≤padOf SX∧Two 5 wk wz (.slice A1 LB k1) v (bodyB bs) (X++List.replicate j 0)) (fun v _=>100000-slenX v)
   case atStart=>exact ⟨0,Nat.zero_le _,by simpa using T16.out⟩
   case round =>
   obtain ⟨j,hj,t⟩:=hrel
   obtain ⟨Av,kv,rfl,-,-,-⟩:=t.oi.slice
   obtain ⟨M,hM⟩:∃ M,(X++List.replicate j 0).length=M:=⟨_,rfl⟩
   have hMj:M=SX+j:=by rw [← hM,List.length_append,HX.out.2.1];simp
   have hpl:=padOf_lt SX
   have hMM:M≤65610:=by omega
   rw [hM]
   rw [hM] at t
   have HJ:=hid (And.intro hj (And.intro hMj hM))
   have HT3:=hid t
   clear hj hMj hM t hpl
   by_cases h4:M % 4=0
   ·have hz4:((M:Int) % 4 != 0)=false:=by
     have:(M:Int) % 4=0:=by omega
     rw [this];rfl
    have hjp:j=padOf SX:=pad_done HJ.out.1 (by rw [← HJ.out.2.1];exact h4)
    have hZX:X++List.replicate j 0=X++zs SX:=by unfold zs;rw [← hjp]
    rw [hZX] at HT3
    clear HJ hZX hjp h4
    have hx:=HCC.out wr HT3.out.be
    obtain ⟨ZX,hZX⟩:∃ ZX,X++zs SX=ZX:=⟨_,rfl⟩
    rw [hZX] at HT3
    have HZX:=hid hZX
    have HML2:=hid (show ZX.length=M by
     obtain ⟨Aq,kq,e,-,-,-⟩:=HT3.out.oi.slice
     injection e with e1 e2 e3
     exact e2.symm)
    clear hZX
    go_wp2_with fail
    refine (sum20_p (kn:Int) rA bs lb rk B wr HLB.out.1.symm (HRW.out.below (HT3.out.be.mono (Nat.le_trans HBB.out HT.out.be.size))) (by rw [HLB.out.1];omega)).mono ?_;rintro e w20 ⟨v20,rfl,ho20,hb20⟩
    obtain ⟨lt,hlt2⟩:∃ lt,chkB (kn:Int) bs=lt:=⟨_,rfl⟩
    have hltl:lt.length=chkLen (kn:Int):=by rw [← hlt2];exact chkB_len _ _
    have hlt8:=chkLen_le (kn:Int)
    obtain ⟨CL,hCL⟩:∃ CL,lt.length=CL:=⟨_,rfl⟩
    rw [hCL] at hltl
    have hC8:CL≤8:=by omega
    have U20:=hid (HT3.out.keep hb20)
    have V20:=hid ((HT.out.keep HT3.out.be).keep hb20)
    rw [hlt2] at ho20
    have hol:=(fun q (hq:(Value.slice Ao lo.length ko).ownBlock=some q)=>Nat.lt_of_lt_of_le (HT.out.oo.lt hq).2 HT3.out.be.size)
    have HOL:=hid hol
    obtain ⟨A20,k20,rfl,-,-,-⟩:=ho20.slice
    have O20:=hid ho20
    simp only [hCL]
    have HCL:=hid (And.intro hlt2 (And.intro hCL hltl))
    rw [hCL] at O20
    clear ho20 hb20 HT3 hlt2 hCL hltl hlt8 hol hx
    have hlob:lo.length≤100000000:=by have:=(HLL.out i (by omega)).1;rw [HLO.out] at this;omega
    have HLOB:=hid hlob
    clear hlob
    go_wp2_with (at_builtin;refine wpList_append_bytes _ rfl (.tmp 104) (.tmp 105) 22 rfl 5 w.heap.size Tryz.underlying22 Tryz.info_u8 (.slice Ao lo.length ko) lo rfl ?own Av M kv w20.heap.size ZX rfl HML2.out.symm ?row ?len ?base ?next)
    case own=>exact V20.out.oo
    case row=>exact U20.out.oi.rowZ
    case len=>rw [HML2.out];have:=HLOB.out;omega
    case base=>exact V20.out.be.size
    case next =>
    intro v21 w21 hown21 hfrm21 hnew21
    have V21:=hid (V20.out.out hown21 hfrm21 hnew21)
    have O21:=hid (O20.out.frm hfrm21 (fun k hk hS=>by
     have q1:=HOL.out k hS
     have q2:=(O20.out.lt hk).1
     omega))
    obtain ⟨A21,k21,rfl,-,-,-⟩:=hown21.slice
    have q:=V21.out
    rw [List.length_append] at q
    have V21s:=hid q
    clear q hown21 hfrm21 hnew21 V20 O20 U20 HOL
    go_wp2_with (at_builtin;refine wpList_append_bytes _ rfl (.tmp 106) (.tmp 107) 22 rfl 5 w.heap.size Tryz.underlying22 Tryz.info_u8 _ (lo++ZX) rfl ?own A20 CL k20 w21.heap.size lt rfl HCL.out.2.1.symm ?row ?len ?base ?next)
    case own=>exact V21.out.oo
    case row=>exact O21.out.rowZ
    case len=>rw [List.length_append,HML2.out,HCL.out.2.1];have:=HLOB.out;omega
    case base=>exact V21.out.be.size
    case next =>
    intro v22 w22 hown22 hfrm22 hnew22
    have V22:=hid (V21s.out.out hown22 hfrm22 hnew22)
    obtain ⟨A22,k22,rfl,-,-,-⟩:=hown22.slice
    clear hown22 hfrm22 hnew22 V21 V21s O21
    obtain ⟨lo2,hlo2⟩:∃ lo2,lo++(ZX++lt)=lo2:=⟨_,rfl⟩
    have q22:=V22.out
    rw [hlo2] at q22
    clear V22
    have V22:=hid q22
    clear q22
    simp only [hlo2]
    have HLO2:=hid hlo2
    obtain ⟨UM,hUM⟩:∃ UM,SX+CL=UM:=⟨_,rfl⟩
    have hus:(SX:Int)+(CL:Int)=(UM:Int):=by omega
    have huw1:IntKind.i64.wrap (UM:Int)=(UM:Int):=Go.IntWalk.i64_in _ (by omega)
    have huw2:IntKind.u64.wrap (UM:Int)=(UM:Int):=Go.IntWalk.u64_in _ (by omega)
    have lbw:IntKind.u64.wrap (lb:Int)=(lb:Int):=Go.IntWalk.u64_in _ (by omega)
    obtain ⟨L1,hL1⟩:∃ L1,(put UM).length=L1:=⟨_,rfl⟩
    obtain ⟨L2,hL2⟩:∃ L2,(put lb).length=L2:=⟨_,rfl⟩
    have HL1:=hid hL1
    have HL2:=hid hL2
    have HUM:=hid (And.intro hUM (show UM≤100000 by omega))
    have hlxb:lx.length≤100000000:=by have:=(HLL.out i (by omega)).2;rw [HLX.out] at this;omega
    have HLXB:=hid hlxb
    have hc2:=HCW.out w22 V22.out.be
    clear hL1 hL2 hUM hlo2 hlxb
    go_wp2
    go_region_held3 (fun w'=>w'.cell? ⟨b,off+i,none⟩=some (.slice rA lb rk)) (first | assumption | exact hcd_ | exact hcc_ | exact hcb_ | exact hca_ | exact hc2)
     (first
     | (go_at_call 43;have hh:=num_two (w0:=w) UM L1 (by have:=HUM.out;omega) HL1.out V22.out.drew;with_reducible refine Calls.mono hh ?_;rintro e wa_ ⟨Aa_,ka_,rfl,hra_,hta_⟩;have hca_:=HCW.out wa_ hta_.be)
     | (go_at_call 43;have hh:=num_two (w0:=w) lb L2 (by have:=HLB.out;omega) HL2.out htb_;with_reducible refine Calls.mono hh ?_;rintro e wc_ ⟨Ac_,kc_,rfl,hrc_,htc_⟩;have hcc_:=HCW.out wc_ htc_.be)
     | (refine stepR_append_bytes _ rfl (.tmp 109) (.tmp 115) 22 rfl 5 w.heap.size Tryz.underlying22 Tryz.info_u8 (.slice Ax lx.length kx) lx rfl ?_ Aa_ L1 ka_ wa_.heap.size (put UM) rfl ?_ ?_ ?_ ?_ ?_;exact hta_.oi;exact HL1.out.symm;exact hra_;(have:=(put_len UM).2;have:=HLXB.out;omega);exact hta_.be.size;(intro vb_ wb_ hownb_ hfrmb_ hnewb_;have htb_:=(Two.idx (w:=wa_) hta_ hownb_ hfrmb_ hnewb_);obtain ⟨Ab_,kb_,rfl,-,-,-⟩:=hownb_.slice;rw [List.length_append] at htb_;have hcb_:=HCW.out wb_ htb_.be))
     | (refine stepR_append_bytes _ rfl (.tmp 116) (.tmp 123) 22 rfl 5 w.heap.size Tryz.underlying22 Tryz.info_u8 (.slice Ab_ _ kb_) (lx++put UM) rfl ?_ Ac_ L2 kc_ wc_.heap.size (put lb) rfl ?_ ?_ ?_ ?_ ?_;exact htc_.oi;exact HL2.out.symm;exact hrc_;(have:=(put_len UM).2;have:=(put_len lb).2;have:=HLXB.out;rw [List.length_append];omega);exact htc_.be.size;(intro vd_ wd_ hownd_ hfrmd_ hnewd_;have htd_:=(Two.idx (w:=wc_) htc_ hownd_ hfrmd_ hnewd_);obtain ⟨Ad_,kd_,rfl,-,-,-⟩:=hownd_.slice;have hcd_:=HCW.out wd_ htd_.be))
     | fail)
    have e1:headM kc++blocksB (kc.toNat:Int) numbers code (rowsL R (i+1))=lo2:=by
     rw [HSN.out,blocksB_snoc,← List.append_assoc,HLO.out,← HLO2.out,← HZX.out,← HX.out.1]
     unfold blockB
     rw [HHB2.out,HBL.out.1,← HX.out.2.2,HKN.out.1,HCL.out.1]
     simp only [List.append_assoc]
    have e2:(0::put n)++recsB (recsX (kc.toNat:Int) numbers code (rowsL R (i+1)))=lx++put UM++put lb:=by
     rw [HSN.out,recsX_snoc,recsB_snocX,← List.append_assoc,HLX.out]
     unfold recB
     rw [HHB2.out,HBL.out.1,← HX.out.2.2,HKN.out.1,← HCL.out.2.2,HUM.out.1,HLB.out.1]
     simp only [List.append_assoc]
    have E1:=hid e1
    have E2:=hid e2
    clear e1 e2
    have HTD:=hid htd_
    clear htd_ hta_ htb_ htc_
    have hi12:i<12:=by have:=HKN.out;omega
    go_wp2
    have q:=HTD.out
    rw [show (lx++put UM++put lb).length=lx.length+((put UM).length+(put lb).length) by simp [Nat.add_assoc]] at q
    exact ⟨⟨i+1,rfl,by omega,by rw [E1.out,E2.out];exact q⟩,by simp only [intOf];omega⟩
   have hz4:((M:Int) % 4 != 0)=true:=by
    have:¬ (M:Int) % 4=0:=by omega
    simp [this]
   have H4:=hid h4
   clear h4
   go_wp2_with (at_builtin;refine wpList_append_bytes _ rfl (.tmp 95) (.tmp 96) 22 rfl 5 wk.heap.size Tryz.underlying22 Tryz.info_u8 (.slice Av M kv) (X++List.replicate j 0) rfl ?own (some ⟨wr.heap.size,0,none⟩) 1 1 (wr.heap.size+1) [0] rfl rfl ?row ?len ?base ?next)
   case own=>exact HT3.out.oi.alloc _
   case row=>exact BRow.oneB wr _ 0
   case len=>rw [HJ.out.2.2];simp;omega
   case base=>have:=HT3.out.be.size;simp;omega
   case next =>
   intro v12 w12 hown12 hfrm12 hnew12
   have t12:=(HT3.out.keep ((Below.refl _ _).alloc (Nat.le_refl _) (.cells #[.int .u8 0] 5))).idx hown12 hfrm12 (by simpa using hnew12)
   have HT7:Hid (Two 5 wk w12 (.slice A1 LB k1) v12 (bodyB bs) (X++List.replicate (j+1) 0)):=hid (by rw [List.replicate_succ'];simpa using t12)
   clear hown12 hfrm12 hnew12 t12
   go_wp2
   refine ⟨⟨j+1,pad_step HJ.out.1 (by rw [← HJ.out.2.1];exact H4.out),HT7.out⟩,?_⟩
   obtain ⟨A13,k13,e13,-,-,-⟩:=HT7.out.oi.slice
   show 100000-slenX v12<100000-M
   rw [e13]
   show 100000-(X++List.replicate (j+1) 0).length<100000-M
   have:=HJ.out.2.1
   have:=HX.out.2.1
   simp
   omega
  have hz4:((M:Int) % 4 != 0)=true:=by
   have:¬ (M:Int) % 4=0:=by omega
   simp [this]
  have H4:=hid h4
  clear h4
  go_wp2_with (at_builtin;refine wpList_append_bytes _ rfl (.tmp 73) (.tmp 74) 22 rfl 5 wk.heap.size Tryz.underlying22 Tryz.info_u8 (.slice Av M kv) (0::hr++List.replicate j 0) rfl ?own (some ⟨wr.heap.size,0,none⟩) 1 1 (wr.heap.size+1) [0] rfl rfl ?row ?len ?base ?next)
  case own=>exact HT3.out.oi.alloc _
  case row=>exact BRow.oneB wr _ 0
  case len=>rw [HJ.out.2.2];simp;omega
  case base=>have:=HT3.out.be.size;simp;omega
  case next =>
  intro v12 w12 hown12 hfrm12 hnew12
  have t12:=(HT3.out.keep ((Below.refl _ _).alloc (Nat.le_refl _) (.cells #[.int .u8 0] 5))).idx hown12 hfrm12 (by simpa using hnew12)
  have HT7:Hid (Two 5 wk w12 (.slice A1 LB k1) v12 (bodyB bs) (0::hr++List.replicate (j+1) 0)):=hid (by rw [List.replicate_succ'];simpa using t12)
  clear hown12 hfrm12 hnew12 t12
  go_wp2
  refine ⟨⟨v12,_,_,_,_,_,_,_,⟨j+1,pad_step HJ.out.1 (by rw [← HJ.out.2.1];exact H4.out),HT7.out⟩,rfl⟩,?_⟩
  obtain ⟨A13,k13,e13,-,-,-⟩:=HT7.out.oi.slice
  show 1000-slenX v12<1000-M
  rw [e13]
  show 1000-(0::hr++List.replicate (j+1) 0).length<1000-M
  have:=HJ.out.2.1
  simp
  omega
 obtain rfl:i=n:=by omega
 obtain ⟨recs,hrecs⟩:∃ r,recsX (kc.toNat:Int) numbers code (rowsL R i)=r:=⟨_,rfl⟩
 have hrl:recs.length=i:=by rw [← hrecs];unfold recsX;rw [List.length_map,rowsL_len]
 have hlxi:lx=idxRaw recs:=by
  rw [← HLX.out,hrecs]
  unfold idxRaw headB
  rw [hrl]
 have hSXb:=HLL.out i (Nat.le_refl _)
 rw [HLO.out,HLX.out] at hSXb
 obtain ⟨SX,hSX⟩:∃ SX,lx.length=SX:=⟨_,rfl⟩
 rw [hSX] at hSXb
 have HT0:=HT.out
 rw [hSX] at HT0
 clear HT
 have HT:=hid HT0
 simp only [hSX]
 have HX:=hid (And.intro hSX (And.intro hSXb (And.intro hrecs hlxi)))
 clear hSX hSXb hrecs hlxi hrl HT0 hlt hi HR HB HLL
 go_wp2
 go_loopw [11] (fun v wz=>∃ j:Nat,j≤padOf SX∧Two 5 w wz (.slice Ao lo.length ko) v lo (lx++List.replicate j 0)) (fun v _=>100000-slenX v)
 case atStart=>exact ⟨0,Nat.zero_le _,by simpa using HT.out⟩
 case round =>
 obtain ⟨j,hj,t⟩:=hrel
 obtain ⟨Av,kv,rfl,-,-,-⟩:=t.oi.slice
 obtain ⟨M,hM⟩:∃ M,(lx++List.replicate j 0).length=M:=⟨_,rfl⟩
 have hMj:M=SX+j:=by rw [← hM,List.length_append,HX.out.1];simp
 have hpl:=padOf_lt SX
 have hMM:M≤1010:=by have:=HX.out.2.1;omega
 rw [hM]
 rw [hM] at t
 have HJ:=hid (And.intro hj (And.intro hMj hM))
 have HT3:=hid t
 clear hj hMj hM t hpl
 by_cases h4:M % 4=0
 ·have hz4:((M:Int) % 4 != 0)=false:=by
   have:(M:Int) % 4=0:=by omega
   rw [this];rfl
  have hjp:j=padOf SX:=pad_done HJ.out.1 (by rw [← HJ.out.2.1];exact h4)
  have hZX:lx++List.replicate j 0=idxPad recs:=by
   unfold idxPad zs
   rw [← HX.out.2.2.2,HX.out.1,← hjp]
  rw [hZX] at HT3
  clear hjp
  obtain ⟨ZX,hZZ⟩:∃ ZX,idxPad recs=ZX:=⟨_,rfl⟩
  rw [hZZ] at HT3 hZX
  have HML:Hid (ZX.length=M):=hid (by rw [← hZX];exact HJ.out.2.2)
  have hIB:ZX++sealB ZX=idxB recs:=by unfold idxB sealOn;rw [hZZ]
  have HIB:=hid hIB
  have H4:=hid h4
  clear hZX hZZ HJ hIB h4
  go_wp2_with fail
  refine (rseal_p Av ZX M kv wr HML.out.symm HT3.out.oi.rowZ (by rw [HML.out];omega)).mono ?_;rintro e w14 ⟨v14,rfl,ho14,hb14⟩
  have T14:=hid (HT3.out.keep hb14)
  obtain ⟨A14,k14,rfl,-,-,hr14⟩:=ho14.slice
  have R14:=hid hr14
  clear ho14 hb14 hr14 HT3
  go_wp2_with (at_builtin;refine wpList_append_bytes _ rfl (.tmp 132) (.tmp 134) 22 rfl 5 w.heap.size Tryz.underlying22 Tryz.info_u8 (.slice Av M kv) ZX rfl ?own A14 4 k14 w14.heap.size (sealB ZX) rfl rfl ?row ?len ?base ?next)
  case own=>exact T14.out.oi
  case row=>exact R14.out
  case len=>rw [HML.out,sealB_len];omega
  case base=>exact T14.out.be.size
  case next =>
  intro v15 w15 hown15 hfrm15 hnew15
  have t15:=T14.out.idx hown15 hfrm15 hnew15
  obtain ⟨K,hK⟩:∃ K,M / 4=K:=⟨_,rfl⟩
  obtain ⟨IL,hIL⟩:∃ IL,M+4=IL:=⟨_,rfl⟩
  obtain ⟨IB,hIB⟩:∃ IB,idxB recs=IB:=⟨_,rfl⟩
  have hIBl:IB.length=IL:=by rw [← hIB,← HIB.out,List.length_append,sealB_len,HML.out,hIL]
  have k1:(IL:Int) / 4=(K:Int)+1:=by have:=H4.out;omega
  have k2:IntKind.i64.wrap ((K:Int)+1)=(K:Int)+1:=Go.IntWalk.i64_in _ (by omega)
  have k3:IntKind.i64.wrap (K:Int)=(K:Int):=Go.IntWalk.i64_in _ (by omega)
  have k4:IntKind.u32.wrap (K:Int)=(K:Int):=Go.IntWalk.u32_in _ (by omega)
  have k5:IntKind.u8.wrap (K:Int)=(K:Int):=Go.IntWalk.u8_in _ (by omega)
  have k6:(K:Int) / 256=0:=by omega
  have k7:(K:Int) / 65536=0:=by omega
  have k8:(K:Int) / 16777216=0:=by omega
  rw [HIB.out,hIB] at t15 hown15
  obtain ⟨A15,k15,rfl,-,-,-⟩:=hown15.slice
  rw [hIBl] at t15
  simp only [hIBl]
  obtain ⟨KB,hKB⟩:∃ KB:UInt8,UInt8.ofNat K=KB:=⟨_,rfl⟩
  have hKt:KB.toNat=K:=by rw [← hKB];simp;omega
  obtain ⟨ft,hft⟩:∃ ft:List UInt8,[KB,0,0,0,0,kc]=ft:=⟨_,rfl⟩
  have hfoot:footM (IB.length / 4-1) kc=sealB ft++ft++[89,90]:=by
   have q:IB.length / 4-1=K:=by omega
   have q1:K / 256=0:=by omega
   have q2:K / 65536=0:=by omega
   have q3:K / 16777216=0:=by omega
   rw [q]
   unfold footM four
   rw [q1,q2,q3,hKB,← hft]
   rfl
  have hfl:ft.length=6:=by rw [← hft];rfl
  obtain ⟨W16,hW16⟩:∃ W,w15.alloc (.cells #[.int .u8 (K:Int),.int .u8 0,.int .u8 0,.int .u8 0,.int .u8 0,.int .u8 (kn:Int)] 5)=W:=⟨_,rfl⟩
  have hb16:Below w15.heap.size w15 W16:=by rw [← hW16];exact (Below.refl _ _).alloc (Nat.le_refl _) _
  have h16:W16.heap.size=w15.heap.size+1:=by rw [← hW16];simp
  have hown16:OwnB W16 5 w15.heap.size (.slice (some ⟨w15.heap.size,0,none⟩) 6 6) ft:=by
   have q:=OwnB.of_cells w15 5 w15.heap.size ft (Nat.le_refl _) (by rw [hfl];decide)
   have e:(ft.map byteV).toArray=#[.int .u8 (K:Int),.int .u8 0,.int .u8 0,.int .u8 0,.int .u8 0,.int .u8 (kn:Int)]:=by rw [← hft];simp [byteV,hKt,HKN.out.1]
   rw [e,hfl,hW16] at q
   exact q
  have TO:=hid (Two.start t15.oo hown16 hb16 t15.be)
  have R16:=hid (t15.keep hb16).oi.rowZ
  have H16:=hid h16
  have HF:=hid (And.intro hIBl (And.intro (show IL≤1014 by omega) (And.intro hfoot (And.intro hIB hfl))))
  clear hown15 hfrm15 hnew15 t15 T14 R14 hfoot hKt hKB hIBl hIB hK hIL hft hfl hb16 h16 hown16
  go_wp2_with (at_builtin;refine wpList_append_bytes _ rfl (.tmp 155) (.tmp 156) 22 rfl 5 w.heap.size Tryz.underlying22 Tryz.info_u8 (.slice Ao lo.length ko) lo rfl ?own A15 IL k15 W16.heap.size IB rfl HF.out.1.symm ?row ?len ?base ?next)
  case own=>exact TO.out.oo
  case row=>exact R16.out
  case len=>rw [HF.out.1];have:=HX.out.2.1.1;have:=HF.out.2.1;omega
  case base=>exact TO.out.be.size
  case next =>
  intro v17 w17 hown17 hfrm17 hnew17
  have T17:=hid (TO.out.out hown17 hfrm17 hnew17)
  obtain ⟨A17,k17,e17,-,-,-⟩:=hown17.slice
  obtain ⟨L17,hL17⟩:∃ L,(lo++IB).length=L:=⟨_,rfl⟩
  rw [hL17] at e17
  subst e17
  clear hL17
  clear hown17 hfrm17 hnew17 TO R16
  go_wp2_with fail
  refine (rseal_p (some ⟨w15.heap.size,0,none⟩) ft 6 6 w17 HF.out.2.2.2.2.symm T17.out.oi.rowZ (by rw [HF.out.2.2.2.2];omega)).mono ?_;rintro e w18 ⟨v18,rfl,ho18,hb18⟩
  have T18:=hid (T17.out.keep hb18)
  obtain ⟨A18,k18,rfl,-,-,hr18⟩:=ho18.slice
  have R18:=hid hr18
  clear ho18 hb18 hr18 T17
  go_wp2_with (at_builtin;refine wpList_append_bytes _ rfl (.tmp 157) (.tmp 159) 22 rfl 5 w.heap.size Tryz.underlying22 Tryz.info_u8 (.slice A17 L17 k17) (lo++IB) rfl ?own A18 4 k18 w18.heap.size (sealB ft) rfl rfl ?row ?len ?base ?next)
  case own=>exact T18.out.oo
  case row=>exact R18.out
  case len=>rw [List.length_append,HF.out.1,sealB_len];have:=HX.out.2.1.1;have:=HF.out.2.1;omega
  case base=>exact T18.out.be.size
  case next =>
  intro v19 w19 hown19 hfrm19 hnew19
  have T19:=hid (T18.out.out hown19 hfrm19 hnew19)
  obtain ⟨A19,k19,e19,-,-,-⟩:=hown19.slice
  obtain ⟨L19,hL19⟩:∃ L,(lo++(IB++sealB ft)).length=L:=⟨_,rfl⟩
  rw [hL19] at e19
  subst e19
  clear hL19
  clear hown19 hfrm19 hnew19 T18 R18
  go_wp2_with (at_builtin;refine wpList_append_bytes _ rfl (.tmp 161) (.tmp 162) 22 rfl 5 w.heap.size Tryz.underlying22 Tryz.info_u8 (.slice A19 L19 k19) (lo++(IB++sealB ft)) rfl ?own (some ⟨w15.heap.size,0,none⟩) 6 6 w19.heap.size ft rfl HF.out.2.2.2.2.symm ?row ?len ?base ?next)
  case own=>exact T19.out.oo
  case row=>exact T19.out.oi.rowZ
  case len=>rw [List.length_append,List.length_append,HF.out.1,sealB_len,HF.out.2.2.2.2];have:=HX.out.2.1.1;have:=HF.out.2.1;omega
  case base=>exact T19.out.be.size
  case next =>
  intro v20 w20 hown20 hfrm20 hnew20
  have T20:=hid (And.intro hown20 (T19.out.be.trans (hfrm20.below T19.out.be.size (fun q hq=>(T19.out.oo.lt hq).1))))
  obtain ⟨A20,k20,e20,-,-,-⟩:=hown20.slice
  obtain ⟨L20,hL20⟩:∃ L,(lo++(IB++(sealB ft++ft))).length=L:=⟨_,rfl⟩
  rw [hL20] at e20
  subst e20
  clear hL20
  clear hown20 hfrm20 hnew20 T19
  go_wp2_with (at_builtin;refine wpList_append_bytes _ rfl (.tmp 163) (.tmp 164) 22 rfl 5 w.heap.size Tryz.underlying22 Tryz.info_u8 (.slice A20 L20 k20) (lo++(IB++(sealB ft++ft))) rfl ?own (some ⟨w20.heap.size,0,none⟩) 2 2 (w20.heap.size+1) [89,90] rfl rfl ?row ?len ?base ?next)
  case own=>exact T20.out.1.alloc _
  case row=>exact row_cellsX w20 _ [89,90] _ rfl
  case len=>rw [List.length_append,List.length_append,List.length_append,HF.out.1,sealB_len,HF.out.2.2.2.2];have:=HX.out.2.1.1;have:=HF.out.2.1;simp;omega
  case base=>have:=T20.out.2.size;simp;omega
  case next =>
  intro v21 w21 hown21 hfrm21 hnew21
  have hmade:madeX kc numbers code (rowsL R i)=lo++(IB++(sealB ft++(ft++[89,90]))):=by
   unfold madeX
   rw [HX.out.2.2.1,HF.out.2.2.2.1,← List.append_assoc,HLO.out,HF.out.2.2.1]
   simp only [List.append_assoc]
  rw [← hmade] at hown21
  have T21:=hid (And.intro hown21 ((T20.out.2.alloc T20.out.2.size _).trans (hfrm21.below (by have:=T20.out.2.size;simp;omega) (fun q hq=>(T20.out.1.lt hq).1))))
  obtain ⟨A21,k21,rfl,-,-,-⟩:=hown21.slice
  clear hown21 hfrm21 hnew21 hmade T20
  go_wp2
  go_ret
  exact ⟨_,rfl,T21.out.1,T21.out.2⟩
 have hz4:((M:Int) % 4 != 0)=true:=by
  have:¬ (M:Int) % 4=0:=by omega
  simp [this]
 have H4:=hid h4
 clear h4
 go_wp2_with (at_builtin;refine wpList_append_bytes _ rfl (.tmp 129) (.tmp 130) 22 rfl 5 w.heap.size Tryz.underlying22 Tryz.info_u8 (.slice Av M kv) (lx++List.replicate j 0) rfl ?own (some ⟨wr.heap.size,0,none⟩) 1 1 (wr.heap.size+1) [0] rfl rfl ?row ?len ?base ?next)
 case own=>exact HT3.out.oi.alloc _
 case row=>exact BRow.oneB wr _ 0
 case len=>rw [HJ.out.2.2];simp;omega
 case base=>have:=HT3.out.be.size;simp;omega
 case next =>
 intro v12 w12 hown12 hfrm12 hnew12
 have t12:=(HT3.out.keep ((Below.refl _ _).alloc (Nat.le_refl _) (.cells #[.int .u8 0] 5))).idx hown12 hfrm12 (by simpa using hnew12)
 have HT7:Hid (Two 5 w w12 (.slice Ao lo.length ko) v12 lo (lx++List.replicate (j+1) 0)):=hid (by rw [List.replicate_succ'];simpa using t12)
 clear hown12 hfrm12 hnew12 t12
 go_wp2
 refine ⟨⟨j+1,pad_step HJ.out.1 (by rw [← HJ.out.2.1];exact H4.out),HT7.out⟩,?_⟩
 obtain ⟨A13,k13,e13,-,-,-⟩:=HT7.out.oi.slice
 show 100000-slenX v12<100000-M
 rw [e13]
 show 100000-(lx++List.replicate (j+1) 0).length<100000-M
 have:=HJ.out.2.1
 have:=HX.out.1
 simp
 omega
end Go.Proofs.YtffehfpbdcokbaaGreat
