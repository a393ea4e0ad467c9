import Derived.Test.YtffehfpbdcokbaaGreatBu28
import Derived.Test.YtffehfpbdcokbaaGreatBu37
import Derived.Test.YtffehfpbdcokbaaGreatBu41
import Derived.Test.YtffehfpbdcokbaaGreatBu42
set_option linter.unusedVariables false
set_option linter.unusedSimpArgs false
namespace Go.Proofs.YtffehfpbdcokbaaGreat
open Lib (hid)
open Go.RowKit Rng Win Lz Box
def MemEnd (bud:Nat) (bs:List UInt8) (w:World) (e:Ending) (w':World):Prop :=
 ∃ v,OwnB w' 5 w.heap.size v (xP bud bs).1∧Below w.heap.size w w' ∧
  (match (xP bud bs).2 with
  | .inl z=>z≠0∧e=.returned (.tuple #[v,.int .i64 0,.int .i64 ((z:Nat):Int)])
  | .inr r=>r.length≤bs.length∧e=.returned (.tuple #[v,.int .i64 ((bs.length-r.length:Nat):Int),.int .i64 0]))
set_option maxHeartbeats 2000000 in
theorem member_p (A:Option Addr) (bs:List UInt8) (n c:Nat) (budget:Int) (w:World) (hn:n=bs.length) (hr:BRow w w.heap.size A bs) (hc:n≤c) (hcm:c≤maxLen) (hub:n≤100000000) :
 Calls Tryz.prog 10 #[.slice A n c,.int .i64 budget] w (MemEnd (budOf budget) bs w):=by
 have HR:=hid hr
 have HN:=hid hn
 have HH:Hid (n≤c∧c≤maxLen∧n≤100000000):=hid ⟨hc,hcm,hub⟩
 obtain ⟨R,hRR⟩:∃ R,xP (budOf budget) bs=R:=⟨_,rfl⟩
 have HRR:=hid hRR
 clear hr hn hc hcm hub hRR
 go_enter Tryz.func10,Tryz.ntmps10
 go_wp2_with fail
 obtain ⟨W0,hW0⟩:∃ W,w.alloc (.cells #[.slice none 0 0] 22)=W:=⟨_,rfl⟩
 have hs0:W0.heap.size=w.heap.size+1:=by rw [← hW0];simp only [World.size_alloc]
 have hP0:Pts W0 w.heap.size #[.slice none 0 0] 22:=by rw [← hW0];exact Pts.new w _ _
 have hB0:Below w.heap.size w W0:=by rw [← hW0];exact below_alloc _ _
 rw [hW0]
 clear hW0
 refine (whole_p A n c W0).mono ?_;rintro e w1 ⟨rfl,hs1,hb1⟩
 have hP1:=hP0.below hb1 hP0.lt
 have B1:=hid (hB0.trans (hb1.mono hB0.size))
 have hz1:=Pts.lt hs1
 rw [hs0] at hs1 hz1
 have HRun:=xrun_p (w.heap.size+1) w.heap.size 23 #[.pointer (some ⟨w.heap.size,0,none⟩)] (OutX w.heap.size w.heap.size) (fun q=>q=w.heap.size) budget A n c 0 n bs w1 (outx_ok w.heap.size w.heap.size w.heap.size 16777216 (Nat.le_refl _) (Nat.le_refl _) (Nat.le_refl _))
  ⟨.slice none 0 0,hP1,OwnB.nil _ _ _,fun q=>⟨fun h=>.inl h,fun h=>h.elim id (fun h=>by cases h)⟩,B1.out.size⟩ (by omega) (by omega) hs1 HN.out (HR.out.below B1.out) B1.out.size HH.out.1 HH.out.2.1 (by omega) (by have:=HH.out.2.2;omega) HH.out.2.2
 rw [HRR.out] at HRun
 have HRU:=hid HRun
 rw [hs0]
 clear hP0 hB0 hb1 hP1 hs1 hs0 HRun
 go_wp2_with fail
 refine HRU.out.mono ?_;rintro e w2 ⟨⟨M,⟨v,hv,ho,hMv,hbb⟩,hM⟩,hf,hend⟩
 have hBF:Below w.heap.size w w2:=B1.out.trans (hf.below B1.out.size (by rintro q (e | e) <;> omega))
 obtain ⟨T,RR⟩:=R
 have hv:Pts w2 w.heap.size #[v] 22:=hv
 have ho:OwnB w2 5 w.heap.size v T:=ho
 obtain ⟨Av,kv,hve,-,-,-⟩:=ho.slice
 obtain ⟨Lv,hLv⟩:∃ L,T.length=L:=⟨_,rfl⟩
 rw [hLv] at hve
 subst hve
 have cv:w2.cell? ⟨w.heap.size,0,none⟩=some (.slice Av Lv kv):=by rw [hv.cell];rfl
 have zv:=hv.frozen 0
 have hso:(Value.slice Av Lv kv).ownBlock≠some w.heap.size:=fun e=>by
  rcases ho.form with ⟨h1,_⟩ | ⟨g,cap,cur,h1,_,hh,_⟩
  ·rw [h1] at e;cases e
  rw [h1] at e
  injection e with e
  subst e
  exact hh.ne_of hv (by decide) rfl
 have HO:Hid (OwnB (w2.setCell ⟨w.heap.size,0,none⟩ (.slice Av Lv kv)) 5 w.heap.size (.slice Av Lv kv) T∧Below w.heap.size w (w2.setCell ⟨w.heap.size,0,none⟩ (.slice Av Lv kv))) :=
  hid ⟨ho.other (p:=⟨w.heap.size,0,none⟩) hso (.slice Av Lv kv),hBF.trans ((Frm.setCell (p:=⟨w.heap.size,0,none⟩) (Frm.refl (fun q=>q=w.heap.size) w2) rfl (.slice Av Lv kv)).below hBF.size (by intro q hq;omega))⟩
 have HVP:=hid hv
 clear hBF ho hv hM hMv hbb hf hso HRU hLv
 cases RR with
 | inl z =>
  obtain ⟨hz,rfl⟩:=hend
  have qz:((z:Int) != 0)=true:=bne_iff_ne.2 (by omega)
  have HZ:=hid hz
  clear hz
  go_wp2
  have hcv:(w2.setCell ⟨w.heap.size,0,none⟩ (.slice Av Lv kv)).cell? ⟨w.heap.size,0,none⟩=some (.slice Av Lv kv):=World.cell?_setCell_same' _ _ _ (by rw [cv];rfl)
  refine bodyPost_ret (v:=.tuple #[.slice Av Lv kv,.int .i64 0,.int .i64 (z:Int)]) (by simp [results,Tryz.f10,go_sem,hcv]) rfl ?_
  unfold MemEnd
  rw [HRR.out]
  exact ⟨_,HO.out.1,HO.out.2,HZ.out,rfl⟩
 | inr r =>
  obtain ⟨rfl,A2,n2,c2,used,hs2,hu,hn2⟩:=hend
  have HS2:=hid hs2
  have HU:=hid (And.intro hu hn2)
  clear hs2 hu hn2
  have hne:w.heap.size+1≠w.heap.size:=by omega
  have SA:Hid (SrcAt w2.drew (w.heap.size+1) A2 n2 c2 used):=hid HS2.out
  have SB:Hid (SrcAt (w2.drew.setCell ⟨w.heap.size,0,none⟩ (.slice Av Lv kv)) (w.heap.size+1) A2 n2 c2 used):=hid (Pts.other SA.out (p:=⟨w.heap.size,0,none⟩) hne _)
  go_upto_region 5 with fail
  go_region_with (go_at_call 18;(first | refine (used_p _ A2 n2 c2 used _ SA.out).mono ?_ | refine (used_p _ A2 n2 c2 used _ SB.out).mono ?_);rintro e w3 ⟨rfl,rfl⟩)
  all_goals
   have hcv:(w2.setCell ⟨w.heap.size,0,none⟩ (.slice Av Lv kv)).cell? ⟨w.heap.size,0,none⟩=some (.slice Av Lv kv):=World.cell?_setCell_same' _ _ _ (by rw [cv];rfl)
   have hO2:OwnB (w2.setCell ⟨w.heap.size,0,none⟩ (.slice Av Lv kv)).drew 5 w.heap.size (.slice Av Lv kv) T:=HO.out.1
   have hB2:Below w.heap.size w (w2.setCell ⟨w.heap.size,0,none⟩ (.slice Av Lv kv)).drew:=⟨HO.out.2.os,HO.out.2.tape,HO.out.2.output,HO.out.2.size,HO.out.2.block⟩
   have O2:=hid (And.intro hO2 hB2)
   clear hO2 hB2
   go_wp2
   refine bodyPost_ret (v:=.tuple #[.slice Av Lv kv,.int .i64 (used:Int),.int .i64 0]) (by simp [results,Tryz.f10,go_sem,hcv]) rfl ?_
   unfold MemEnd
   rw [HRR.out]
   have h1:=HU.out.1
   have h2:=HU.out.2
   have h3:=HN.out
   refine ⟨_,O2.out.1,O2.out.2,by omega,?_⟩
   rw [show bs.length-r.length=used by omega]
def winX (bs:List UInt8):Int×Int :=
 if (headOf bs).2≠0 then (0,(headOf bs).2) else if bs.length=12 then (0,10) else if bs.getD 12 0=0 then (0,0) else ((blockOf (bs.drop 12)).1,(blockOf (bs.drop 12)).2.2.2.2)
theorem headOf_ok {bs:List UInt8} (h:¬ (headOf bs).2≠0):12≤bs.length:=by
 unfold headOf at h
 by_cases h1:bs.length<12
 ·rw [if_pos h1] at h;exact absurd (by decide) h
 omega
theorem headOf_nat (bs:List UInt8):∃ k e:Nat,headOf bs=((k:Int),(e:Int)):=by
 unfold headOf
 repeat' split
 ·exact ⟨0,10,rfl⟩
 ·exact ⟨0,11,rfl⟩
 ·exact ⟨0,12,rfl⟩
 exact ⟨_,0,rfl⟩
set_option maxHeartbeats 1000000 in
theorem window_x (A:Option Addr) (bs:List UInt8) (n c:Nat) (w:World) (hn:n=bs.length) (hr:BRow w w.heap.size A bs) (hc:n≤c) (hcm:c≤maxLen) :
 Calls Tryz.prog 12 #[.slice A n c] w fun e w'=>e=.returned (.tuple #[.int .i64 (winX bs).1,.int .i64 (winX bs).2])∧Below w.heap.size w w':=by
 have hHD:=head_p A bs n c w hn hc hcm hr (by omega)
 obtain ⟨k,he,hhd⟩:=headOf_nat bs
 rw [hhd] at hHD
 unfold checkV at hHD
 obtain ⟨R,hR⟩:∃ R,winX bs=R:=⟨_,rfl⟩
 rw [hR]
 have hRU:=hR
 unfold winX at hRU
 rw [hhd] at hRU
 have HH:=hid hHD
 have HRU:=hid hRU
 have HR:=hid hr
 have HC:Hid (n=bs.length∧n≤c∧c≤maxLen):=hid ⟨hn,hc,hcm⟩
 have hok:=fun h=>headOf_ok (bs:=bs) h
 rw [hhd] at hok
 have HOK:=hid hok
 clear hHD hRU hr hn hc hcm hhd hR hok
 by_cases he0:he=0
 ·subst he0
  have h12:=HOK.out (by simp)
  have hR1:=HRU.out
  rw [if_neg (by simp)] at hR1
  rw [show ((0:Nat):Int)=0 from rfl] at HH
  by_cases hl:bs.length=12
  ·rw [if_pos hl] at hR1
   subst hR1
   have q1:((n:Int)==12)=true:=beq_iff_eq.2 (by have:=HC.out.1;omega)
   clear hl h12
   go_enter Tryz.func12,Tryz.ntmps12
   go_wp2_with fail
   refine HH.out.mono ?_;rintro e w1 ⟨rfl,hb1⟩
   have HB1:=hid hb1
   clear hb1
   go_wp2
   go_ret2
   exact ⟨rfl,HB1.out⟩
  rw [if_neg hl] at hR1
  have q1:((n:Int)==12)=false:=beq_eq_false_iff_ne.2 (by have:=HC.out.1;omega)
  obtain ⟨ab,ao,rfl,hab,hcell⟩:=HR.out (by omega)
  obtain ⟨b0,hb0⟩:∃ b,(bs.getD 12 0).toNat=b:=⟨_,rfl⟩
  have c12:w.cell? ⟨ab,ao+12,none⟩=some (.int .u8 (b0:Int)):=by rw [← hb0];exact hcell 12 (by omega)
  have h12n:(12:Int)<(n:Int):=by have:=HC.out.1;omega
  by_cases hz:bs.getD 12 0=0
  ·rw [if_pos hz] at hR1
   subst hR1
   have hbz:b0=0:=by rw [← hb0,hz];rfl
   subst hbz
   clear hl h12 hz hb0 hcell
   go_enter Tryz.func12,Tryz.ntmps12
   go_wp2_with fail
   refine HH.out.mono ?_;rintro e w1 ⟨rfl,hb1⟩
   have HB1:=hid hb1
   have c13:w1.cell? ⟨ab,ao+12,none⟩=some (.int .u8 0):=(hb1.cell (p:=⟨ab,ao+12,none⟩) hab).trans c12
   clear hb1
   go_wp2
   go_ret2
   exact ⟨rfl,HB1.out⟩
  rw [if_neg hz] at hR1
  obtain ⟨s,n',p,q,er,hblk⟩:=blockOf_in (bs.drop 12)
  rw [hblk] at hR1
  subst hR1
  have hbz:((b0:Int)==0)=false:=beq_eq_false_iff_ne.2 (by
   intro e
   have e2:b0=0:=by omega
   rw [e2] at hb0
   exact hz (by rw [← UInt8.ofNat_toNat (x:=bs.getD 12 0),hb0];rfl))
  have hsl:=fun w=>slice_fromX (some ⟨ab,ao,none⟩) n c 12 (by have:=HC.out.1;omega) HC.out.2.1 w
  rw [if_neg (by have:=HC.out.1;have:=HC.out.2.1;omega)] at hsl
  obtain ⟨A2,hA2⟩:∃ A2,(some (⟨ab,ao,none⟩:Addr)).map (·.add 12)=A2:=⟨_,rfl⟩
  rw [hA2] at hsl
  have hrd:=HR.out.drop (k:=12) (cap:=c) (by have:=HC.out.1;have:=HC.out.2.1;omega)
  rw [if_neg (by have:=HC.out.1;have:=HC.out.2.1;omega),hA2] at hrd
  have HRD:=hid hrd
  have HBL:=hid hblk
  obtain ⟨n2,hn2⟩:∃ n2,n-12=n2:=⟨_,rfl⟩
  obtain ⟨c2,hc2⟩:∃ c2,c-12=c2:=⟨_,rfl⟩
  rw [hn2,hc2] at hsl
  replace hsl:∀ w,(Instr.sliceAt 22 (.slice (some ⟨ab,ao,none⟩) n c) (some (.int .i64 12)) none none).run Tryz.prog w=.ok (.slice A2 n2 c2) w:=hsl
  have HN2:Hid (n2=(bs.drop 12).length∧n2≤c2∧c2≤maxLen):=hid ⟨by rw [List.length_drop];have:=HC.out.1;omega,by have:=HC.out.2.1;omega,by have:=HC.out.2.2;omega⟩
  clear hl h12 hz hb0 hcell hA2 hrd hblk hn2 hc2
  go_enter Tryz.func12,Tryz.ntmps12
  go_wp2_with fail
  refine HH.out.mono ?_;rintro e w1 ⟨rfl,hb1⟩
  have HB1:=hid hb1
  have c13:w1.cell? ⟨ab,ao+12,none⟩=some (.int .u8 (b0:Int)):=(hb1.cell (p:=⟨ab,ao+12,none⟩) hab).trans c12
  have hbk:=block_p A2 (bs.drop 12) n2 c2 w1 HN2.out.1 HN2.out.2.1 HN2.out.2.2 ((HRD.out.below hb1).more hb1.size)
  rw [HBL.out] at hbk
  have HBK:=hid hbk
  clear hb1 hbk
  go_wp2_with fail
  refine HBK.out.mono ?_;rintro e w2 ⟨rfl,hb2⟩
  have HB2:=hid (HB1.out.trans (hb2.mono HB1.out.size))
  unfold blkV
  simp only
  clear hb2
  go_wp2
  go_ret2
  exact ⟨rfl,HB2.out⟩
 have qz:((he:Int) != 0)=true:=bne_iff_ne.2 (by omega)
 have hR1:=HRU.out
 rw [if_pos (show ((he:Nat):Int)≠0 by omega)] at hR1
 subst hR1
 clear he0
 go_enter Tryz.func12,Tryz.ntmps12
 go_wp2_with fail
 refine HH.out.mono ?_;rintro e w1 ⟨rfl,hb1⟩
 have HB1:=hid hb1
 clear hb1
 go_wp2
 go_ret2
 exact ⟨rfl,HB1.out⟩
open Go.RowKit Rng Win Lz Box
set_option maxHeartbeats 1000000 in
theorem dwindow_d (A:Option Addr) (bs:List UInt8) (n c:Nat) (w:World) (hn:n=bs.length) (hr:BRow w w.heap.size A bs) (hc:n≤c) (hcm:c≤maxLen) :
 Calls Tryz.prog 13 #[.slice A n c] w fun e w'=>e=.returned (.tuple #[.int .i64 (winX bs).1,.int .i64 (winX bs).2])∧Below w.heap.size w w':=by
 have hHD:=rhead_p A bs n c w hn hc hr (by omega)
 obtain ⟨k,he,hhd⟩:=headOf_nat bs
 rw [hhd] at hHD
 unfold checkV at hHD
 obtain ⟨R,hR⟩:∃ R,winX bs=R:=⟨_,rfl⟩
 rw [hR]
 have hRU:=hR
 unfold winX at hRU
 rw [hhd] at hRU
 have HH:=hid hHD
 have HRU:=hid hRU
 have HR:=hid hr
 have HC:Hid (n=bs.length∧n≤c∧c≤maxLen):=hid ⟨hn,hc,hcm⟩
 have hok:=fun h=>headOf_ok (bs:=bs) h
 rw [hhd] at hok
 have HOK:=hid hok
 clear hHD hRU hr hn hc hcm hhd hR hok
 by_cases he0:he=0
 ·subst he0
  have h12:=HOK.out (by simp)
  have hR1:=HRU.out
  rw [if_neg (by simp)] at hR1
  rw [show ((0:Nat):Int)=0 from rfl] at HH
  by_cases hl:bs.length=12
  ·rw [if_pos hl] at hR1
   subst hR1
   have q1:((n:Int)==12)=true:=beq_iff_eq.2 (by have:=HC.out.1;omega)
   clear hl h12
   go_enter Tryz.func13,Tryz.ntmps13
   go_wp2_with fail
   refine HH.out.mono ?_;rintro e w1 ⟨rfl,hb1⟩
   have HB1:=hid hb1
   clear hb1
   go_wp2
   go_ret2
   exact ⟨rfl,HB1.out⟩
  rw [if_neg hl] at hR1
  have q1:((n:Int)==12)=false:=beq_eq_false_iff_ne.2 (by have:=HC.out.1;omega)
  obtain ⟨ab,ao,rfl,hab,hcell⟩:=HR.out (by omega)
  obtain ⟨b0,hb0⟩:∃ b,(bs.getD 12 0).toNat=b:=⟨_,rfl⟩
  have c12:w.cell? ⟨ab,ao+12,none⟩=some (.int .u8 (b0:Int)):=by rw [← hb0];exact hcell 12 (by omega)
  have h12n:(12:Int)<(n:Int):=by have:=HC.out.1;omega
  by_cases hz:bs.getD 12 0=0
  ·rw [if_pos hz] at hR1
   subst hR1
   have hbz:b0=0:=by rw [← hb0,hz];rfl
   subst hbz
   clear hl h12 hz hb0 hcell
   go_enter Tryz.func13,Tryz.ntmps13
   go_wp2_with fail
   refine HH.out.mono ?_;rintro e w1 ⟨rfl,hb1⟩
   have HB1:=hid hb1
   have c13:w1.cell? ⟨ab,ao+12,none⟩=some (.int .u8 0):=(hb1.cell (p:=⟨ab,ao+12,none⟩) hab).trans c12
   clear hb1
   go_wp2
   go_ret2
   exact ⟨rfl,HB1.out⟩
  rw [if_neg hz] at hR1
  obtain ⟨s,n',p,q,er,hblk⟩:=blockOf_in (bs.drop 12)
  rw [hblk] at hR1
  subst hR1
  have hbz:((b0:Int)==0)=false:=beq_eq_false_iff_ne.2 (by
   intro e
   have e2:b0=0:=by omega
   rw [e2] at hb0
   exact hz (by rw [← UInt8.ofNat_toNat (x:=bs.getD 12 0),hb0];rfl))
  have hsl:=fun w=>slice_fromX (some ⟨ab,ao,none⟩) n c 12 (by have:=HC.out.1;omega) HC.out.2.1 w
  rw [if_neg (by have:=HC.out.1;have:=HC.out.2.1;omega)] at hsl
  obtain ⟨A2,hA2⟩:∃ A2,(some (⟨ab,ao,none⟩:Addr)).map (·.add 12)=A2:=⟨_,rfl⟩
  rw [hA2] at hsl
  have hrd:=HR.out.drop (k:=12) (cap:=c) (by have:=HC.out.1;have:=HC.out.2.1;omega)
  rw [if_neg (by have:=HC.out.1;have:=HC.out.2.1;omega),hA2] at hrd
  have HRD:=hid hrd
  have HBL:=hid hblk
  obtain ⟨n2,hn2⟩:∃ n2,n-12=n2:=⟨_,rfl⟩
  obtain ⟨c2,hc2⟩:∃ c2,c-12=c2:=⟨_,rfl⟩
  rw [hn2,hc2] at hsl
  replace hsl:∀ w,(Instr.sliceAt 22 (.slice (some ⟨ab,ao,none⟩) n c) (some (.int .i64 12)) none none).run Tryz.prog w=.ok (.slice A2 n2 c2) w:=hsl
  have HN2:Hid (n2=(bs.drop 12).length∧n2≤c2∧c2≤maxLen):=hid ⟨by rw [List.length_drop];have:=HC.out.1;omega,by have:=HC.out.2.1;omega,by have:=HC.out.2.2;omega⟩
  clear hl h12 hz hb0 hcell hA2 hrd hblk hn2 hc2
  go_enter Tryz.func13,Tryz.ntmps13
  go_wp2_with fail
  refine HH.out.mono ?_;rintro e w1 ⟨rfl,hb1⟩
  have HB1:=hid hb1
  have c13:w1.cell? ⟨ab,ao+12,none⟩=some (.int .u8 (b0:Int)):=(hb1.cell (p:=⟨ab,ao+12,none⟩) hab).trans c12
  have hbk:=rblock_p A2 (bs.drop 12) n2 c2 w1 HN2.out.1 HN2.out.2.1 HN2.out.2.2 ((HRD.out.below hb1).more hb1.size)
  rw [HBL.out] at hbk
  have HBK:=hid hbk
  clear hb1 hbk
  go_wp2_with fail
  refine HBK.out.mono ?_;rintro e w2 ⟨rfl,hb2⟩
  have HB2:=hid (HB1.out.trans (hb2.mono HB1.out.size))
  unfold blkV
  simp only
  clear hb2
  go_wp2
  go_ret2
  exact ⟨rfl,HB2.out⟩
 have qz:((he:Int) != 0)=true:=bne_iff_ne.2 (by omega)
 have hR1:=HRU.out
 rw [if_pos (show ((he:Nat):Int)≠0 by omega)] at hR1
 subst hR1
 clear he0
 go_enter Tryz.func13,Tryz.ntmps13
 go_wp2_with fail
 refine HH.out.mono ?_;rintro e w1 ⟨rfl,hb1⟩
 have HB1:=hid hb1
 clear hb1
 go_wp2
 go_ret2
 exact ⟨rfl,HB1.out⟩
open Go.RowKit Rng Win Lz Box
theorem headOf_takeD {bs:List UInt8} (h:12≤bs.length):headOf (bs.take 12)=headOf bs:=by
 unfold headOf
 have e0:(bs.take 12).length=12:=by rw [List.length_take];omega
 have e1:(bs.take 12).take 6=bs.take 6:=by rw [List.take_take];rfl
 have e2:(bs.take 12).take 12=bs.take 12:=by rw [List.take_take];rfl
 have e3:∀ i,i<12→(bs.take 12).getD i 0=bs.getD i 0:=fun i hi=>by simp [List.getD,List.getElem?_take,hi]
 rw [e0,e1,e2,e3 6 (by decide),e3 7 (by decide),if_neg (by decide)]
 conv=>rhs;rw [if_neg (by omega)]
theorem headOf_shortD {bs:List UInt8} (h:bs.length<12):headOf bs=(0,10):=by
 unfold headOf
 rw [if_pos h]
theorem footOf_takeD {bs:List UInt8} (h:12≤bs.length):footOf (bs.take 12)=footOf bs:=by
 unfold footOf
 have e0:(bs.take 12).length=12:=by rw [List.length_take];omega
 have e1:((bs.take 12).drop 4).take 6=(bs.drop 4).take 6:=by rw [List.drop_take,List.take_take];rfl
 have e2:(bs.take 12).take 12=bs.take 12:=by rw [List.take_take];rfl
 have e4:(bs.take 12).take 4=bs.take 4:=by rw [List.take_take];rfl
 have e3:∀ i,i<12→(bs.take 12).getD i 0=bs.getD i 0:=fun i hi=>by simp [List.getD,List.getElem?_take,hi]
 have e5:hiNum (bs.take 12) 4=hiNum bs 4:=by
  simp only [hiNum]
  rw [e3 (7-0) (by decide),e3 (7-1) (by decide),e3 (7-2) (by decide),e3 (7-3) (by decide)]
 rw [e0,e1,e2,e4,e5,e3 8 (by decide),e3 9 (by decide),if_neg (by decide)]
 conv=>rhs;rw [if_neg (by omega)]
theorem footOf_shortD {bs:List UInt8} (h:bs.length<12):footOf bs=(0,0,10):=by
 unfold footOf
 rw [if_pos h]
section
variable {w0 w w' : World} {K mb : Nat} {A : Option Addr} {bs : List UInt8} {c at' : Nat} {kind : Int} {recs : List (Nat × Nat)} {ov lv : Value} {out : List UInt8}
theorem XmAt.kindTo (h:XmAt w0 w K mb A bs c at' kind recs ov lv out) (k2:Int):XmAt w0 (w.setCell ⟨mb,2,none⟩ (.int .i64 k2)) K mb A bs c at' k2 recs ov lv out:=by
 have hf:Frm (· = mb) w (w.setCell ⟨mb,2,none⟩ (.int .i64 k2)):=(Frm.refl (· = mb) w).setCell (p:=⟨mb,2,none⟩) rfl _
 exact ⟨h.p.set 2 _,h.o.frm hf (fun q hq e=>h.nb.1 (e▸hq)),h.l.frm hf (fun q hq e=>h.nb.2 (e▸hq)),h.ne,h.nb,h.ge,h.b.trans (hf.below h.kz (fun q e=>by rw [e];exact h.ge)),Nat.le_trans h.kz hf.size,h.om⟩
end
def xMidD (kind:Int) (XB:List UInt8×(Nat ⊕ (List (Nat×Nat)×List UInt8))):List UInt8×(Nat ⊕ List UInt8) :=
 match XB with
 | (out,.inl e)=>(out,.inl e)
 | (out,.inr (recs,s))=>xEnd kind out recs s
theorem xMem_headD {bud:Nat} {bs:List UInt8} {z:Nat} (h:(headOf bs).2=(z:Int)) (hz:z≠0):xMem bud bs=([],.inl z):=by
 unfold xMem
 by_cases hl:bs.length<12
 ·rw [if_pos hl]
  rw [headOf_shortD hl] at h
  have h:(10:Int)=(z:Int):=h
  obtain rfl:z=10:=by omega
  rfl
 rw [if_neg hl,headOf_takeD (by omega),h,if_pos (by omega)]
 rfl
theorem xMem_okD {bud:Nat} {bs:List UInt8} (h:(headOf bs).2=0):12≤bs.length∧xMem bud bs=xMidD (headOf bs).1 (xBlocks bud (headOf bs).1 (bs.length+1) [] [] (bs.drop 12)):=by
 have hl:12≤bs.length:=headOf_ok (fun k=>k h)
 refine ⟨hl,?_⟩
 unfold xMem
 rw [if_neg (by omega),headOf_takeD hl,if_neg (fun k=>k h)]
 rfl
def AllD (w0:World) (K mb:Nat) (A:Option Addr) (bs:List UInt8) (c:Nat) (X:List UInt8×(Nat ⊕ List UInt8)) (e:Ending) (w':World):Prop :=
 ∃ at' kind recs ov lv,XmAt w0 w' K mb A bs c at' kind recs ov lv X.1∧(match X.2 with
  | .inl z=>z≠0∧e=.returned (.int .i64 (z:Int))
  | .inr r=>e=.returned (.int .i64 0)∧at'≤bs.length∧r=bs.drop at')
section
variable {w0 w w' : World} {K mb : Nat} {A : Option Addr} {bs : List UInt8} {c at' : Nat} {kind : Int} {recs : List (Nat × Nat)} {ov lv : Value} {out : List UInt8}
theorem alld_err {X:List UInt8×(Nat ⊕ List UInt8)} {z:Nat} (hX:X=(out,.inl z)) (hz:z≠0) (h:XmAt w0 w' K mb A bs c at' kind recs ov lv out):AllD w0 K mb A bs c X (.returned (.int .i64 (z:Int))) w':=by
 subst hX
 exact ⟨_,_,_,_,_,h,hz,rfl⟩
theorem alld_ok {X:List UInt8×(Nat ⊕ List UInt8)} (hX:X=(out,.inr (bs.drop at'))) (hl:at'≤bs.length) (h:XmAt w0 w' K mb A bs c at' kind recs ov lv out):AllD w0 K mb A bs c X (.returned (.int .i64 0)) w':=by
 subst hX
 exact ⟨_,_,_,_,_,h,rfl,hl,rfl⟩
def leftM (n mb:Nat) (w:World):Nat:=n-(intOf ((w.cell? ⟨mb,1,none⟩).getD (.int .i64 0))).toNat
theorem XmAt.left (h:XmAt w0 w K mb A bs c at' kind recs ov lv out) (n:Nat):leftM n mb w=n-at':=by
 unfold leftM
 rw [h.cells.2.1]
 rfl
theorem xEnd_ix {kind:Int} {out:List UInt8} {recs:List (Nat×Nat)} {src:List UInt8} {z:Nat} (h:xIndex recs src=.inl z):xEnd kind out recs src=(out,.inl z):=by
 unfold xEnd
 rw [h]
theorem xEnd_foot {kind:Int} {out:List UInt8} {recs:List (Nat×Nat)} {src r:List UInt8} {size z:Nat} (h:xIndex recs src=.inr (size,r)) (hf:(footOf r).2.2=(z:Int)) (hz:z≠0):xEnd kind out recs src=(out,.inl z):=by
 unfold xEnd
 rw [h]
 simp only
 by_cases hl:r.length<12
 ·rw [if_pos hl]
  rw [footOf_shortD hl] at hf
  have hf:(10:Int)=(z:Int):=hf
  obtain rfl:z=10:=by omega
  rfl
 rw [if_neg hl,footOf_takeD (by omega),hf,if_pos (by omega)]
 rfl
theorem footOf_okD {r:List UInt8} (hf:(footOf r).2.2=0):12≤r.length:=by
 unfold footOf at hf
 by_cases hl:r.length<12
 ·rw [if_pos hl] at hf;exact absurd hf (by decide)
 omega
theorem xEnd_no {kind:Int} {out:List UInt8} {recs:List (Nat×Nat)} {src r:List UInt8} {size:Nat} (h:xIndex recs src=.inr (size,r)) (hf:(footOf r).2.2=0) (hz:(footOf r).1≠kind∨(footOf r).2.1≠size):xEnd kind out recs src=(out,.inl 11):=by
 have hl:=footOf_okD hf
 unfold xEnd
 rw [h]
 simp only
 rw [if_neg (by omega),footOf_takeD hl,if_neg (fun k=>k hf),if_pos hz]
theorem xEnd_ok {kind:Int} {out:List UInt8} {recs:List (Nat×Nat)} {src r:List UInt8} {size:Nat} (h:xIndex recs src=.inr (size,r)) (hf:(footOf r).2.2=0) (h1:(footOf r).1=kind) (h2:(footOf r).2.1=size):xEnd kind out recs src=(out,.inr (r.drop 12)):=by
 have hl:=footOf_okD hf
 unfold xEnd
 rw [h]
 simp only
 rw [if_neg (by omega),footOf_takeD hl,if_neg (fun k=>k hf),if_neg (by rintro (k | k);exact k h1;exact k h2)]
theorem xBlocks_end {bud:Nat} {kind:Int} {f:Nat} {recs:List (Nat×Nat)} {out src:List UInt8} (h:src.length<1):xBlocks bud kind (f+1) recs out src=(out,.inl 10):=by
 unfold xBlocks
 rw [if_pos h]
theorem xBlocks_zero {bud:Nat} {kind:Int} {f:Nat} {recs:List (Nat×Nat)} {out src:List UInt8} (h:¬ src.length<1) (h0:src.getD 0 0=0):xBlocks bud kind (f+1) recs out src=(out,.inr (recs,src)):=by
 unfold xBlocks
 rw [if_neg h,if_pos h0]
theorem xBlocks_err {bud:Nat} {kind:Int} {f:Nat} {recs:List (Nat×Nat)} {out src o:List UInt8} {z:Nat} (h:¬ src.length<1) (h0:¬ src.getD 0 0=0) (hb:xBlock bud kind out.length src=.err z o):xBlocks bud kind (f+1) recs out src=(out++o,.inl z):=by
 unfold xBlocks
 rw [if_neg h,if_neg h0,hb]
theorem xBlocks_step {bud:Nat} {kind:Int} {f:Nat} {recs:List (Nat×Nat)} {out src o rest:List UInt8} {r:Nat×Nat} (h:¬ src.length<1) (h0:¬ src.getD 0 0=0) (hb:xBlock bud kind out.length src=.ok o r rest):xBlocks bud kind (f+1) recs out src=xBlocks bud kind f (recs++[r]) (out++o) rest:=by
 conv=>lhs;unfold xBlocks
 rw [if_neg h,if_neg h0,hb]
end
open Go.RowKit Rng Win Lz Box
section
variable {w0 w w' : World} {K mb : Nat} {A : Option Addr} {bs : List UInt8} {c at' : Nat} {kind : Int} {recs : List (Nat × Nat)} {ov lv : Value} {out : List UInt8}
set_option maxRecDepth 100000 in
set_option maxHeartbeats 8000000 in
theorem all_d (bud:Nat) (h:XmAt w0 w K mb A bs c 0 0 [] ov lv []) (hrow:BRow w0 K A bs) (hcap:bs.length≤c∧bs.length≤1000000∧c≤maxLen) (hbud:bud≤16777216) :
 Calls Tryz.prog 25 #[.pointer (some ⟨mb,0,none⟩),.int .i64 (bud:Int)] w (AllD w0 K mb A bs c (xMem bud bs)):=by
 obtain ⟨X,hX⟩:∃ X,xMem bud bs=X:=⟨_,rfl⟩
 rw [hX]
 obtain ⟨LB,hLB⟩:∃ L,bs.length=L:=⟨_,rfl⟩
 have hHD:=rhead_p A bs LB c w hLB.symm (by omega) ((hrow.below h.b).more h.kz) (by omega)
 obtain ⟨k,he,hhd⟩:=headOf_nat bs
 rw [hhd] at hHD
 unfold checkV at hHD
 have HHD:=hid hHD
 obtain ⟨d0,d1,d2,-,-⟩:=h.cells
 rw [hLB] at d0
 have HH:=hid h
 have HX:=hid hX
 have HK:=hid hhd
 have HROW:=hid hrow
 have HC:=hid (And.intro hLB (And.intro hcap hbud))
 clear h hX hhd hrow hcap hbud hHD hLB
 by_cases hz:he=0
 ·subst hz
  obtain ⟨h12,hmem⟩:=xMem_okD (bud:=bud) (bs:=bs) (by rw [HK.out];rfl)
  rw [HX.out,HK.out] at hmem
  obtain ⟨XB,hXB⟩:∃ XB,xBlocks bud (k:Int) (bs.length+1) [] [] (bs.drop 12)=XB:=⟨_,rfl⟩
  have HXM:Hid (X=xMidD (k:Int) XB∧12≤LB):=hid ⟨by rw [hmem,← hXB],by have:=HC.out.1;omega⟩
  have HXB:=hid hXB
  clear hmem hXB h12
  rw [show ((0:Nat):Int)=0 from rfl] at HHD
  go_enter Tryz.func25,Tryz.ntmps25
  go_wp2_with fail
  refine HHD.out.mono ?_;rintro e w1 ⟨rfl,hb1⟩
  have hM1:=(HH.out.still hb1).kindTo (k:Int)
  have hf2:=(HH.out.still hb1).fz 2
  have hc2:=(HH.out.still hb1).cells.2.2.1
  have hf1:=hM1.fz 1
  have hM2:=hM1.move 12
  obtain ⟨W2,hW2⟩:∃ W,(w1.setCell ⟨mb,2,none⟩ (.int .i64 (k:Int))).setCell ⟨mb,1,none⟩ (.int .i64 12)=W:=⟨_,rfl⟩
  have hM2:XmAt w0 W2 K mb A bs c 12 (k:Int) [] ov lv []:=by rw [← hW2];exact hM2
  have hc1:=hM1.cells.2.1
  have HM2:=hid hM2
  have HW2:=hid hW2
  clear hb1 hM1 hM2 hW2 d0 d1 d2 HHD
  go_wp2_with fail
  rw [HW2.out]
  clear hf2 hc2 hf1 hc1
  go_loopw [7] (fun v7 wr=>True∧Hid (∃ (f at2:Nat) (recs:List (Nat×Nat)) (out:List UInt8) (ov lv:Value),XmAt w0 wr K mb A bs c at2 (k:Int) recs ov lv out∧at2≤LB∧LB-at2<f∧recs.length≤at2∧xBlocks bud (k:Int) f recs out (bs.drop at2)=XB)) (fun _ wr=>leftM LB mb wr)
  case atStart=>exact ⟨trivial,hid ⟨bs.length+1,12,_,_,_,_,HM2.out,HXM.out.2,by have:=HC.out.1;omega,Nat.zero_le _,HXB.out⟩⟩
  case round =>
  obtain ⟨-,HR⟩:=hrel
  obtain ⟨f,at2,recs,out,ov,lv,hM,hat,hf,hrl,hgo⟩:=HR.out
  obtain ⟨f1,rfl⟩:∃ f1,f=f1+1:=⟨f-1,by omega⟩
  obtain ⟨e0,e1,e2,-,-⟩:=hM.cells
  rw [HC.out.1] at e0
  have ef1:=hM.fz 1
  have HM:=hid hM
  have hle:(bs.drop at2).length=LB-at2:=by rw [List.length_drop,HC.out.1]
  have HG:=hid (And.intro hgo (And.intro hat (And.intro hf (And.intro hrl hle))))
  clear HR HM2 hM hgo hf hrl hle
  by_cases hlt:at2<LB
  ·have q1:(at2:Int)<(LB:Int):=by omega
   obtain ⟨rb,ro,rfl,-,hcell⟩:=(HROW.out.below HM.out.b) (by have:=HC.out.1;omega)
   obtain ⟨x,hx⟩:∃ x,bs.getD at2 0=x:=⟨_,rfl⟩
   have hcx0:=hcell at2 (by have:=HC.out.1;omega)
   rw [hx] at hcx0
   have hg0:(bs.drop at2).getD 0 0=x:=by rw [getD_dropD,Nat.add_zero];exact hx
   have HGX:=hid hg0
   clear hcell hx hg0
   obtain ⟨xn,hxn⟩:∃ n,x.toNat=n:=⟨_,rfl⟩
   have hcx:wr.cell? ⟨rb,ro+at2,none⟩=some (.int .u8 (xn:Int)):=by rw [← hxn];exact hcx0
   clear hcx0
   by_cases hx0:x=0
   ·have hxz:xn=0:=by rw [← hxn,hx0];rfl
    subst hxz
    have HXE:Hid (XB=(out,.inr (recs,bs.drop at2))):=hid (by
     rw [← HG.out.1]
     exact xBlocks_zero (by have:=HG.out.2.2.2.2;omega) (by rw [HGX.out,hx0]))
    have HIX:=hid (fun (d:Nat)=>index_d (HM.out.drewN d) HROW.out HC.out.2.1 (by have:=HC.out.1;omega) (by have:=HG.out;have:=HC.out;omega))
    obtain ⟨IX,hIX⟩:∃ IX,xIndex recs (bs.drop at2)=IX:=⟨_,rfl⟩
    rw [hIX] at HIX
    have HIXE:=hid hIX
    clear hxn hx0 hIX
    go_upto_region 6 with fail
    go_quiet (fail)
    go_upto_region 10 with fail
    go_quiet (fail)
    go_wp2_with fail
    refine (HIX.out _).mono ?_;rintro e w3 hix
    clear e0 e1 e2 ef1 hcx
    cases IX with
    | inl z =>
     obtain ⟨hz,rfl,at3,h3⟩:=hix
     have qz:((z:Int) != 0)=true:=bne_iff_ne.2 (by omega)
     have XE:Hid (X=(out,.inl z)):=hid (by
      rw [HXM.out.1,HXE.out]
      exact xEnd_ix HIXE.out)
     have HZ:=hid hz
     have H3:=hid h3
     clear hz h3
     go_wp2
     go_ret
     exact alld_err XE.out HZ.out H3.out
    | inr pr =>
     obtain ⟨size,r⟩:=pr
     obtain ⟨rfl,hsz,at3,hat3,rfl,h3⟩:=hix
     obtain ⟨m3,hm3⟩:∃ m,LB-at3=m:=⟨_,rfl⟩
     have hat3':at3≤LB:=by have:=HC.out.1;omega
     have hcp:LB≤c:=by have:=HC.out;omega
     have hsl:=fun w=>slice_dropD (some ⟨rb,ro,none⟩) LB c at3 m3 (by omega) hcp w
     have hr3:BRow w3 K (if c=at3 then some ⟨rb,ro,none⟩ else (some (⟨rb,ro,none⟩:Addr)).map (·.add at3)) (bs.drop at3):=(HROW.out.below h3.b).drop (by have:=HC.out.1;omega)
     obtain ⟨A3,hA3⟩:∃ a,(if c=at3 then some (⟨rb,ro,none⟩:Addr) else (some (⟨rb,ro,none⟩:Addr)).map (·.add at3))=a:=⟨_,rfl⟩
     rw [hA3] at hsl hr3
     obtain ⟨c3,hc3⟩:∃ x,c-at3=x:=⟨_,rfl⟩
     rw [hc3] at hsl
     have hFT:=rfoot_p A3 (bs.drop at3) m3 c3 w3.drew.heap.size w3.drew (by rw [List.length_drop,HC.out.1];omega) (by omega) ((hr3.drewN 1).more h3.kz) rfl (by rw [List.length_drop];have:=HC.out;unfold maxLen;omega)
     obtain ⟨k2,n2,e2,hft⟩:=footOf_nat (bs.drop at3)
     rw [hft] at hFT
     unfold footV at hFT
     have HFT:=hid hFT
     have HF:=hid hft
     obtain ⟨b0,b1,b2,-,-⟩:=h3.cells
     rw [HC.out.1] at b0
     have bf1:=h3.fz 1
     have H3:=hid h3
     have hszw:IntKind.u64.wrap (size:Int)=(size:Int):=Go.IntWalk.u64_in _ (by have:=HC.out;omega)
     have HA3:Hid (at3≤LB∧size≤LB):=hid ⟨hat3',by have:=HC.out.1;omega⟩
     clear hm3 hat3' hcp hr3 hA3 hc3 hFT hft h3 hat3 hsz
     by_cases he:e2=0
     ·subst he
      by_cases hn:n2=size
      ·have qn:((n2:Int) != (size:Int))=false:=by rw [hn];exact bne_self_eq_false _
       by_cases hk:k2=k
       ·have qk:((k2:Int) != (k:Int))=false:=by rw [hk];exact bne_self_eq_false _
        obtain ⟨a4,ha4⟩:∃ a,at3+12=a:=⟨_,rfl⟩
        have y1:(at3:Int)+12=(a4:Int):=by omega
        have y2:IntKind.i64.wrap (a4:Int)=(a4:Int):=Go.IntWalk.i64_in _ (by have:=HA3.out;have:=HC.out;omega)
        have h12:=footOf_okD (r:=bs.drop at3) (by rw [HF.out];rfl)
        have XE:Hid (X=(out,.inr (bs.drop a4))∧a4≤bs.length):=hid ⟨by
         rw [HXM.out.1,HXE.out]
         show xEnd _ _ _ _=_
         rw [xEnd_ok HIXE.out (by rw [HF.out];rfl) (by rw [HF.out,hk]) (by rw [HF.out];exact hn),List.drop_drop,ha4],by rw [List.length_drop] at h12;have:=HA3.out;have:=HC.out.1;omega⟩
        clear hn hk ha4 h12
        go_upto_region 15 with fail
        refine wp_region_stc 9 (by kernel_rfl) (by kernel_rfl) ?_
        simp only [List.take_succ_cons,List.take_zero,List.drop_succ_cons,List.drop_zero]
        repeat still_step
        refine wpStill_nil ?_
        change wpList _ _ _ _ _ w3.drew
        go_wp2_with fail
        refine HFT.out.mono ?_;rintro e w4 ⟨rfl,hb4⟩
        have hM4:=(H3.out.drewN 1).still hb4
        obtain ⟨g0,g1,g2,-,-⟩:=hM4.cells
        have gf1:=hM4.fz 1
        have HM5:=hid (hM4.move a4)
        clear hb4 hM4 b0 b1 b2 bf1
        go_wp2_with fail
        change wpStill _ _ _ _ _ _
        repeat still_step
        refine wpStill_nil ?_
        go_wp2
        go_ret
        exact alld_ok XE.out.1 XE.out.2 HM5.out
       have qk:((k2:Int) != (k:Int))=true:=bne_iff_ne.2 (by omega)
       have XE:Hid (X=(out,.inl 11)):=hid (by
        rw [HXM.out.1,HXE.out]
        show xEnd _ _ _ _=_
        exact xEnd_no HIXE.out (by rw [HF.out];rfl) (.inl (by rw [HF.out];simp only;omega)))
       clear hn hk
       go_upto_region 15 with fail
       refine wp_region_stc 9 (by kernel_rfl) (by kernel_rfl) ?_
       simp only [List.take_succ_cons,List.take_zero,List.drop_succ_cons,List.drop_zero]
       repeat still_step
       refine wpStill_nil ?_
       change wpList _ _ _ _ _ w3.drew
       go_wp2_with fail
       refine HFT.out.mono ?_;rintro e w4 ⟨rfl,hb4⟩
       have hM4:=(H3.out.drewN 1).still hb4
       obtain ⟨g0,g1,g2,-,-⟩:=hM4.cells
       have HM5:=hid hM4
       clear hb4 hM4 b0 b1 b2 bf1
       go_wp2_with fail
       change wpStill _ _ _ _ _ _
       repeat still_step
       refine wpStill_nil ?_
       go_wp2
       go_ret
       exact alld_err XE.out (by decide) HM5.out
      have qn:((n2:Int) != (size:Int))=true:=bne_iff_ne.2 (by omega)
      have XE:Hid (X=(out,.inl 11)):=hid (by
       rw [HXM.out.1,HXE.out]
       show xEnd _ _ _ _=_
       exact xEnd_no HIXE.out (by rw [HF.out];rfl) (.inr (by rw [HF.out];exact hn)))
      clear hn
      go_upto_region 15 with fail
      refine wp_region_stc 9 (by kernel_rfl) (by kernel_rfl) ?_
      simp only [List.take_succ_cons,List.take_zero,List.drop_succ_cons,List.drop_zero]
      repeat still_step
      refine wpStill_nil ?_
      change wpList _ _ _ _ _ w3.drew
      go_wp2_with fail
      refine HFT.out.mono ?_;rintro e w4 ⟨rfl,hb4⟩
      have HM5:=hid ((H3.out.drewN 1).still hb4)
      clear hb4 b0 b1 b2 bf1
      go_wp2_with fail
      change wpStill _ _ _ _ _ _
      repeat still_step
      refine wpStill_nil ?_
      go_wp2
      go_ret
      exact alld_err XE.out (by decide) HM5.out
     have qe:((e2:Int) != 0)=true:=bne_iff_ne.2 (by omega)
     have XE:Hid (X=(out,.inl e2)):=hid (by
      rw [HXM.out.1,HXE.out]
      show xEnd _ _ _ _=_
      exact xEnd_foot HIXE.out (by rw [HF.out]) he)
     have HZ:=hid he
     clear he
     go_upto_region 15 with fail
     refine wp_region_stc 9 (by kernel_rfl) (by kernel_rfl) ?_
     simp only [List.take_succ_cons,List.take_zero,List.drop_succ_cons,List.drop_zero]
     repeat still_step
     refine wpStill_nil ?_
     change wpList _ _ _ _ _ w3.drew
     go_wp2_with fail
     refine HFT.out.mono ?_;rintro e w4 ⟨rfl,hb4⟩
     have HM5:=hid ((H3.out.drewN 1).still hb4)
     clear hb4 b0 b1 b2 bf1
     go_wp2_with fail
     change wpStill _ _ _ _ _ _
     repeat still_step
     refine wpStill_nil ?_
     go_wp2
     go_ret
     exact alld_err XE.out HZ.out HM5.out
   have hxz:((xn:Int) != 0)=true:=bne_iff_ne.2 (fun e=>hx0 (by rw [← UInt8.ofNat_toNat (x:=x),hxn,show xn=0 by omega];rfl))
   have HBK:=hid (fun (d:Nat)=>block_d bud (HM.out.drewN d) HROW.out HC.out.2.1 (by have:=HC.out.1;omega) HC.out.2.2 HG.out.2.2.2.1)
   obtain ⟨BK,hBK⟩:∃ B,xBlock bud (k:Int) out.length (bs.drop at2)=B:=⟨_,rfl⟩
   rw [hBK] at HBK
   have HX0:Hid (¬ (bs.drop at2).length<1∧¬ (bs.drop at2).getD 0 0=0):=hid ⟨by have:=HG.out.2.2.2.2;omega,by rw [HGX.out];exact hx0⟩
   have HBE:=hid hBK
   clear hxn hx0 hBK
   go_upto_region 6 with fail
   go_quiet (fail)
   go_wp2_with fail
   refine (HBK.out _).mono ?_;rintro e w3 hbd
   cases BK with
   | err z o =>
    obtain ⟨hz,rfl,at3,ov3,h3⟩:=hbd
    have qz:((z:Int) != 0)=true:=bne_iff_ne.2 (by omega)
    have HXE:Hid (X=(out++o,.inl z)):=hid (by
     rw [HXM.out.1,← HG.out.1,xBlocks_err HX0.out.1 HX0.out.2 HBE.out]
     rfl)
    have HZ:=hid hz
    have H3:=hid h3
    clear hz h3 e0 e1 e2 ef1
    go_wp2
    go_ret
    exact alld_err HXE.out HZ.out H3.out
   | ok o r rest =>
    obtain ⟨rfl,at3,ov3,lv3,h1,h2,h3,h4⟩:=hbd
    have HN:Hid (∃ (f at2:Nat) (recs:List (Nat×Nat)) (out:List UInt8) (ov lv:Value),XmAt w0 w3 K mb (some ⟨rb,ro,none⟩) bs c at2 (k:Int) recs ov lv out∧at2≤LB∧LB-at2<f∧recs.length≤at2∧xBlocks bud (k:Int) f recs out (bs.drop at2)=XB):=hid (by
     refine ⟨f1,at3,_,_,_,_,h4,by have:=HC.out.1;omega,by have:=HG.out;omega,?_,?_⟩
     ·rw [List.length_append]
      have:=HG.out.2.2.2.1
      show recs.length+1≤at3
      omega
     rw [← HG.out.1,xBlocks_step HX0.out.1 HX0.out.2 HBE.out,h3])
    have HME:Hid (leftM LB mb w3<leftM LB mb wr):=hid (by rw [h4.left,HM.out.left];omega)
    clear h1 h2 h3 h4 e0 e1 e2 ef1
    go_wp2
    exact ⟨⟨trivial,HN.out⟩,HME.out⟩
  obtain rfl:at2=LB:=by omega
  have q1:((at2:Int)<(at2:Int))=False:=by simp
  have HXE:Hid (X=(out,.inl 10)):=hid (by
   rw [HXM.out.1,← HG.out.1,xBlocks_end (by have:=HG.out.2.2.2.2;omega)]
   rfl)
  clear hlt hat
  go_upto_region 6 with fail
  go_quiet (fail)
  go_upto_region 10 with fail
  go_quiet (fail)
  go_wp2
  go_ret
  exact alld_err HXE.out (by decide) ((HM.out.drewN _).drewN _)
 have qz:((he:Int) != 0)=true:=bne_iff_ne.2 (by omega)
 have HXE:Hid (X=([],.inl he)):=hid (by rw [← HX.out];exact xMem_headD (by rw [HK.out]) hz)
 have HZ:=hid hz
 clear hz
 go_enter Tryz.func25,Tryz.ntmps25
 go_wp2_with fail
 refine HHD.out.mono ?_;rintro e w1 ⟨rfl,hb1⟩
 have HM1:=hid (HH.out.still hb1)
 clear hb1
 go_wp2
 go_ret
 exact alld_err HXE.out HZ.out HM1.out
end
end Go.Proofs.YtffehfpbdcokbaaGreat
