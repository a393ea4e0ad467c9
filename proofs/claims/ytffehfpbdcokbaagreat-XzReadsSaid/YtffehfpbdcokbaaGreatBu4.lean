import Derived.Laws.MakeOwn
import Derived.RegionTactic
import Derived.Test.YtffehfpbdcokbaaGreatBu3
set_option linter.unusedVariables false
set_option linter.unusedSimpArgs false
namespace Go.Proofs.YtffehfpbdcokbaaGreat
open Lib (hid)
open Go.RowKit Rng Lz
theorem Frm.transW {S T:Nat→Prop} {a b c:World} (h:Frm S a b) (k:Frm T b c) (hs:∀ q,T q→q<a.heap.size→S q):Frm S a c :=
 ⟨k.os.trans h.os,k.tape.trans h.tape,k.output.trans h.output,Nat.le_trans h.size k.size,fun q hq hS=>(k.block q (Nat.lt_of_lt_of_le hq h.size) (fun ht=>hS (hs q ht hq))).trans (h.block q hq hS)⟩
theorem qcells_st (lc lp pb st st':Nat) (rep:Nat→Nat) (pr:Pr) (lv:Value):(qcells lc lp pb st rep pr lv).setIfInBounds 3 (.int .i64 (st':Int))=qcells lc lp pb st' rep pr lv:=by
 refine qcells_eq (by rw [Array.size_setIfInBounds,qcells_size]) fun j hj=>?_
 by_cases e:j=3
 ·subst e
  rw [Array.getElem?_setIfInBounds_self_of_lt (by rw [qcells_size];omega)];rfl
 rw [Array.getElem?_setIfInBounds_ne (fun h=>e h.symm),qcells_get _ _ _ _ _ _ _ hj]
 unfold qcell
 simp only [if_neg e]
theorem qcells_lv (lc lp pb st:Nat) (rep:Nat→Nat) (pr:Pr) (lv lv':Value):(qcells lc lp pb st rep pr lv).setIfInBounds 1868 lv'=qcells lc lp pb st rep pr lv':=by
 refine qcells_eq (by rw [Array.size_setIfInBounds,qcells_size]) fun j hj=>?_
 by_cases e:j=1868
 ·subst e
  rw [Array.getElem?_setIfInBounds_self_of_lt (by rw [qcells_size];omega)];rfl
 rw [Array.getElem?_setIfInBounds_ne (fun h=>e h.symm),qcells_get _ _ _ _ _ _ _ hj]
 unfold qcell
 by_cases h2:j<1868
 ·simp only [if_pos h2]
 omega
theorem qcells_rep (lc lp pb st:Nat) (rep:Nat→Nat) (pr:Pr) (lv:Value) {i:Nat} (h:i<4) (v:Nat):(qcells lc lp pb st rep pr lv).setIfInBounds (4+i) (.int .u32 (v:Int))=qcells lc lp pb st (fun j=>if j=i then v else rep j) pr lv:=by
 refine qcells_eq (by rw [Array.size_setIfInBounds,qcells_size]) fun j hj=>?_
 by_cases e:j=4+i
 ·subst e
  rw [Array.getElem?_setIfInBounds_self_of_lt (by rw [qcells_size];omega)]
  unfold qcell
  rw [if_neg (by omega),if_neg (by omega),if_neg (by omega),if_neg (by omega),if_pos (by omega)]
  simp
 rw [Array.getElem?_setIfInBounds_ne (fun h=>e h.symm),qcells_get _ _ _ _ _ _ _ hj]
 unfold qcell
 have:j<8→4≤j→¬ j-4=i:=fun _ _=>by omega
 by_cases h8:j<8
 ·by_cases h4:4≤j
  ·simp only [if_neg (this h8 h4)]
  have a:j=0∨j=1∨j=2∨j=3:=by omega
  rcases a with rfl | rfl | rfl | rfl <;> rfl
 simp only [if_neg h8]
theorem qcells_rep0 (lc lp pb st:Nat) (rep:Nat→Nat) (pr:Pr) (lv:Value) :
 ((((qcells lc lp pb st rep pr lv).setIfInBounds 4 (.int .u32 0)).setIfInBounds 5 (.int .u32 0)).setIfInBounds 6 (.int .u32 0)).setIfInBounds 7 (.int .u32 0)=qcells lc lp pb st (fun _=>0) pr lv:=by
 have h0:=qcells_rep lc lp pb st rep pr lv (i:=0) (by omega) 0
 have h1:=qcells_rep lc lp pb st (fun j=>if j=0 then 0 else rep j) pr lv (i:=1) (by omega) 0
 have h2:=qcells_rep lc lp pb st (fun j=>if j=1 then 0 else (if j=0 then 0 else rep j)) pr lv (i:=2) (by omega) 0
 have h3:=qcells_rep lc lp pb st (fun j=>if j=2 then 0 else (if j=1 then 0 else (if j=0 then 0 else rep j))) pr lv (i:=3) (by omega) 0
 have e0:(qcells lc lp pb st rep pr lv).setIfInBounds 4 (.int .u32 0)=_:=h0
 rw [e0]
 refine (congrArg (fun C=>(Array.setIfInBounds C 6 (Value.int .u32 0)).setIfInBounds 7 (Value.int .u32 0)) h1).trans ?_
 refine (congrArg (fun C=>Array.setIfInBounds C 7 (Value.int .u32 0)) h2).trans ?_
 refine h3.trans ?_
 apply qcells_eq (qcells_size _ _ _ _ _ _ _)
 intro j hj
 rw [qcells_get _ _ _ _ _ _ _ hj]
 unfold qcell
 by_cases h8:j<8
 ·have a:j=0∨j=1∨j=2∨j=3∨j=4∨j=5∨j=6∨j=7:=by omega
  rcases a with rfl | rfl | rfl | rfl | rfl | rfl | rfl | rfl <;> rfl
 simp only [if_neg h8]
theorem Tryz.info_u16l:(Tryz.prog.info? 117).map (fun i=>(i.zero,i.size,i.bytes))=some (some (.int .u16 0),1,2):=by kernel_rfl
theorem make_tree (n:Nat) (hn:n≤16777216) (w:World) :
 (Instr.makeSlice 132 (.int .i64 (n:Int)) (.int .i64 (n:Int))).run Tryz.prog w=.ok (.slice (some ⟨w.heap.size,0,none⟩) n n) (w.alloc (.cells (madeCells #[.int .u16 0] n) 117)):=by
 obtain ⟨i,hi,hz⟩:=Option.map_eq_some_iff.1 Tryz.info_u16l
 simp only [Prod.mk.injEq] at hz
 have h:=run_make (P:=Tryz.prog) w 132 117 i (.int .u16 0) Tryz.underlying132 hi hz.1 .i64 .i64 n n (by omega) (by omega) (by rw [hz.2.2];omega) (by omega)
 rw [hz.2.1] at h
 simp only [Int.toNat_natCast,Nat.mul_one] at h
 exact h
set_option maxRecDepth 100000 in
set_option maxHeartbeats 2000000 in
theorem mreset_any (k0 lc lp pb st:Nat) (rep:Nat→Nat) (pr:Pr) (lv:Value) (T:TypeId) (w:World) (hp:Pts w k0 (qcells lc lp pb st rep pr lv) T) (hcl:lc+lp≤4) (hlv:∃ A n c,lv=.slice A n c) (hpb:pb≤4) :
 Calls Tryz.prog 72 #[.pointer (some ⟨k0,0,none⟩)] w fun e w'=>e=.returned (.tuple #[])∧∃ lb,w.heap.size≤lb∧Pts w' k0 (mcells ⟨k0,lb,lc,lp,pb⟩ 0 (fun _=>0) (fun _=>1024)) T∧Pts w' lb (lcells ⟨k0,lb,lc,lp,pb⟩ (fun _=>1024)) 117∧Frm (· = k0) w w':=by
 have hc:=fun {i:Nat} (h:i<8)=>(hp.cell i).trans (qcells_get lc lp pb st rep pr lv (i:=i) (by omega))
 have c3:w.cell? ⟨k0,3,none⟩=some (.int .i64 st):=hc (i:=3) (by omega)
 have c4:w.cell? ⟨k0,4,none⟩=some (.int .u32 (rep 0)):=hc (i:=4) (by omega)
 have c5:w.cell? ⟨k0,5,none⟩=some (.int .u32 (rep 1)):=hc (i:=5) (by omega)
 have c6:w.cell? ⟨k0,6,none⟩=some (.int .u32 (rep 2)):=hc (i:=6) (by omega)
 have c7:w.cell? ⟨k0,7,none⟩=some (.int .u32 (rep 3)):=hc (i:=7) (by omega)
 have f3:=hp.frozen 3
 have f4:=hp.frozen 4
 have f5:=hp.frozen 5
 have f6:=hp.frozen 6
 have f7:=hp.frozen 7
 have HP:=hid hp
 clear hp hc
 go_enter Tryz.func72,Tryz.ntmps72
 go_wp2_with fail
 have hq0:Pts (((((w.setCell ⟨k0,3,none⟩ (.int .i64 0)).setCell ⟨k0,4,none⟩ (.int .u32 0)).setCell ⟨k0,5,none⟩ (.int .u32 0)).setCell ⟨k0,6,none⟩ (.int .u32 0)).setCell ⟨k0,7,none⟩ (.int .u32 0)) k0 (qcells lc lp pb 0 (fun _=>0) pr lv) T:=by
  have h:=((((HP.out.set 3 (.int .i64 ((0:Nat):Int))).set 4 (.int .u32 0)).set 5 (.int .u32 0)).set 6 (.int .u32 0)).set 7 (.int .u32 0)
  rw [qcells_st,qcells_rep0] at h
  exact h
 have hf0:Frm (· = k0) w (((((w.setCell ⟨k0,3,none⟩ (.int .i64 0)).setCell ⟨k0,4,none⟩ (.int .u32 0)).setCell ⟨k0,5,none⟩ (.int .u32 0)).setCell ⟨k0,6,none⟩ (.int .u32 0)).setCell ⟨k0,7,none⟩ (.int .u32 0)) :=
  (((((Frm.refl (· = k0) w).setCell (p:=⟨k0,3,none⟩) rfl _).setCell (p:=⟨k0,4,none⟩) rfl _).setCell (p:=⟨k0,5,none⟩) rfl _).setCell (p:=⟨k0,6,none⟩) rfl _).setCell (p:=⟨k0,7,none⟩) rfl _
 generalize (((((w.setCell ⟨k0,3,none⟩ (.int .i64 0)).setCell ⟨k0,4,none⟩ (.int .u32 0)).setCell ⟨k0,5,none⟩ (.int .u32 0)).setCell ⟨k0,6,none⟩ (.int .u32 0)).setCell ⟨k0,7,none⟩ (.int .u32 0))=wa at *
 have HQ0:=hid hq0
 have HF0:=hid hf0
 clear hq0 hf0 c3 c4 c5 c6 c7 f3 f4 f5 f6 f7 HP
 go_loopw [12] (fun iv wr=>∃ (i:Nat) (pq:Pr),iv=.int .i64 i∧i≤12∧Pts wr k0 (qcells lc lp pb 0 (fun _=>0) pq lv) T∧Ev pq 8 (8+i*16)∧Ev pq 248 (248+i*16)∧Frm (· = k0) w wr) (fun iv _=>12-(intOf iv).toNat)
 case atStart=>exact ⟨0,pr,rfl,by omega,HQ0.out,Ev.none _ (by omega),Ev.none _ (by omega),HF0.out⟩
 case round =>
 obtain ⟨i,pq,rfl,hi,hq,he1,he2,hf⟩:=hrel
 have HQ:=hid hq
 have E1:=hid he1
 have E2:=hid he2
 have FR:=hid hf
 clear hq he1 he2 hf HQ0 HF0
 by_cases hlt:i<12
 ·go_wp2_with fail
  refine (even_q k0 _ 16 _ lc lp pb 0 _ pq lv T _ HQ.out (by omega) (by omega)).mono ?_;rintro e w2 ⟨rfl,h2,f2⟩
  have H2:=hid h2
  have F2:=hid (FR.out.trans f2)
  clear h2 f2
  go_wp2_with fail
  refine (even_q k0 _ 16 _ lc lp pb 0 _ _ lv T _ H2.out (by omega) (by omega)).mono ?_;rintro e w3 ⟨rfl,h3,f3⟩
  have H3:=hid h3
  have F3:=hid (F2.out.trans f3)
  clear h3 f3
  go_wp2
  refine ⟨⟨i+1,_,by go_num,by omega,H3.out,?_,?_,F3.out⟩,by simp [intOf];omega⟩
  ·have e:=((E1.out.mo (Mo.fill pq (8+i*16) 16)).more (Ev.fill pq (8+i*16) 16)).mo (Mo.fill (fillS pq (8+i*16) 16) (248+i*16) 16)
   rw [show 8+(i+1)*16=8+i*16+16 by omega]
   exact e
  have e:=((E2.out.mo (Mo.fill pq (8+i*16) 16)).mo (Mo.fill (fillS pq (8+i*16) 16) (248+i*16) 16)).more (Ev.fill (fillS pq (8+i*16) 16) (248+i*16) 16)
  rw [show 248+(i+1)*16=248+i*16+16 by omega]
  exact e
 obtain rfl:i=12:=by omega
 go_wp2_with fail
 refine (even_q k0 200 12 _ lc lp pb 0 _ pq lv T _ HQ.out (by omega) (by omega)).mono ?_;rintro e w2 ⟨rfl,h2,f2⟩
 have H2:=hid h2
 have F2:=hid (FR.out.trans f2)
 have G1:Hid (Ev (fillS pq 200 12) 8 212):=hid ((E1.out.mo (Mo.fill pq 200 12)).more (Ev.fill pq 200 12))
 have G2:Hid (Ev (fillS pq 200 12) 248 440):=hid (E2.out.mo (Mo.fill pq 200 12))
 generalize fillS pq 200 12=p2 at H2 G1 G2
 clear h2 f2 HQ E1 E2 FR
 go_wp2
 go_loopw [35] (fun iv wr=>∃ (i:Nat) (pq:Pr),iv=.int .i64 i∧i≤3∧Pts wr k0 (qcells lc lp pb 0 (fun _=>0) pq lv) T∧Ev pq 8 (212+i*12)∧Ev pq 248 440∧Frm (· = k0) w wr) (fun iv _=>3-(intOf iv).toNat)
 case atStart=>exact ⟨0,p2,rfl,by omega,H2.out,G1.out,G2.out,F2.out⟩
 case round =>
 obtain ⟨i,pq,rfl,hi,hq,he1,he2,hf⟩:=hrel
 have HQ:=hid hq
 have E1:=hid he1
 have E2:=hid he2
 have FR:=hid hf
 clear hq he1 he2 hf H2 F2 G1 G2
 by_cases hlt:i<3
 ·go_wp2_with fail
  refine (even_q k0 _ 12 _ lc lp pb 0 _ pq lv T _ HQ.out (by omega) (by omega)).mono ?_;rintro e w2 ⟨rfl,h2,f2⟩
  have H2:=hid h2
  have F2:=hid (FR.out.trans f2)
  clear h2 f2
  go_wp2
  refine ⟨⟨i+1,_,by go_num,by omega,H2.out,?_,E2.out.mo (Mo.fill _ _ _),F2.out⟩,by simp [intOf];omega⟩
  have e:=(E1.out.mo (Mo.fill pq (212+i*12) 12)).more (Ev.fill pq (212+i*12) 12)
  rw [show 212+(i+1)*12=212+i*12+12 by omega]
  exact e
 obtain rfl:i=3:=by omega
 have G1:Hid (Ev pq 8 440):=hid (E1.out.more E2.out)
 clear E1 E2
 go_wp2
 go_loopw [46] (fun iv wr=>∃ (i:Nat) (pq:Pr),iv=.int .i64 i∧i≤4∧Pts wr k0 (qcells lc lp pb 0 (fun _=>0) pq lv) T∧Ev pq 8 (440+i*64)∧Frm (· = k0) w wr) (fun iv _=>4-(intOf iv).toNat)
 case atStart=>exact ⟨0,pq,rfl,by omega,HQ.out,G1.out,FR.out⟩
 case round =>
 obtain ⟨i,pq,rfl,hi,hq,he1,hf⟩:=hrel
 have HQ2:=hid hq
 have E1:=hid he1
 have FR2:=hid hf
 clear hq he1 hf HQ G1 FR
 by_cases hlt:i<4
 ·go_wp2_with fail
  refine (even_q k0 _ 64 _ lc lp pb 0 _ pq lv T _ HQ2.out (by omega) (by omega)).mono ?_;rintro e w2 ⟨rfl,h2,f2⟩
  have H2:=hid h2
  have F2:=hid (FR2.out.trans f2)
  clear h2 f2
  go_wp2
  have e:=(E1.out.mo (Mo.fill pq (440+i*64) 64)).more (Ev.fill pq (440+i*64) 64)
  rw [show 440+i*64+64=440+(i+1)*64 by omega] at e
  refine ⟨?_,by simp [intOf];omega⟩
  repeat apply Exists.intro
  exact ⟨⟨i+1,_,rfl,by omega,H2.out,e,F2.out⟩,rfl⟩
 obtain rfl:i=4:=by omega
 go_wp2_with fail
 refine (even_q k0 696 128 _ lc lp pb 0 _ pq lv T _ HQ2.out (by omega) (by omega)).mono ?_;rintro e w2 ⟨rfl,h2,f2⟩
 have H2:=hid h2
 have F2:=hid (FR2.out.trans f2)
 have G1:Hid (Ev (fillS pq 696 128) 8 824):=hid ((E1.out.mo (Mo.fill pq 696 128)).more (Ev.fill pq 696 128))
 generalize fillS pq 696 128=p2 at H2 G1
 clear h2 f2 HQ2 E1 FR2
 go_wp2_with fail
 refine (even_q k0 824 16 _ lc lp pb 0 _ p2 lv T _ H2.out (by omega) (by omega)).mono ?_;rintro e w3 ⟨rfl,h3,f3⟩
 have H3:=hid h3
 have F3:=hid (F2.out.trans f3)
 have G3:Hid (Ev (fillS p2 824 16) 8 840):=hid ((G1.out.mo (Mo.fill p2 824 16)).more (Ev.fill p2 824 16))
 generalize fillS p2 824 16=p3 at H3 G3
 clear h3 f3 H2 F2 G1
 go_wp2_with fail
 refine (lreset_any k0 840 lc lp pb 0 _ p3 lv T _ H3.out (.inl rfl)).mono ?_;rintro e w4 ⟨rfl,⟨p4,h4,m4,e4⟩,f4⟩
 have H4:=hid h4
 have F4:=hid (F3.out.trans f4)
 have G4:Hid (Ev p4 8 1354):=hid ((G3.out.mo m4).more e4)
 clear h4 f4 m4 e4 H3 F3 G3
 go_wp2_with fail
 refine (lreset_any k0 1354 lc lp pb 0 _ p4 lv T _ H4.out (.inr rfl)).mono ?_;rintro e w5 ⟨rfl,⟨p5,h5,m5,e5⟩,f5⟩
 have F5:=hid (F4.out.trans f5)
 have G5:Hid (Ev p5 8 1868):=hid ((G4.out.mo m5).more e5)
 have hq5:Pts w5 k0 (qcells lc lp pb 0 (fun _=>0) (fun _=>1024) lv) T:=by
  have e:qcells lc lp pb 0 (fun _=>0) p5 lv=qcells lc lp pb 0 (fun _=>0) (fun _=>1024) lv:=by
   refine qcells_eq (qcells_size _ _ _ _ _ _ _) fun j hj=>?_
   rw [qcells_get _ _ _ _ _ _ _ hj]
   unfold qcell
   by_cases h8:8≤j∧j<1868
   ·rw [G5.out j h8.1 h8.2]
   by_cases h9:j<8
   ·simp only [if_pos h9]
   have:¬ j<1868:=by omega
   simp only [if_neg this]
  rw [← e];exact h5
 have H5:=hid hq5
 have c0:w5.cell? ⟨k0,0,none⟩=some (.int .i64 lc):=(hq5.cell 0).trans (qcells_get lc lp pb 0 _ _ lv (i:=0) (by omega))
 have c1:w5.cell? ⟨k0,1,none⟩=some (.int .i64 lp):=(hq5.cell 1).trans (qcells_get lc lp pb 0 _ _ lv (i:=1) (by omega))
 have c9:w5.cell? ⟨k0,1868,none⟩=some lv:=(hq5.cell 1868).trans (qcells_get lc lp pb 0 _ _ lv (i:=1868) (by omega))
 have f9:=hq5.frozen 1868
 clear h5 f5 m5 e5 H4 F4 G4 hq5
 obtain ⟨A9,n9,c9v,rfl⟩:=hlv
 obtain ⟨E,hE⟩:∃ E,lc+lp=E:=⟨_,rfl⟩
 have hEi:(lc:Int)+(lp:Int)=(E:Int):=by omega
 have hPle:2 ^ E≤2 ^ 4:=Nat.pow_le_pow_right (by omega) (by omega)
 obtain ⟨P,hP⟩:∃ P,2 ^ E=P:=⟨_,rfl⟩
 have hPi:(2:Int) ^ E=(P:Int):=by rw [← hP];simp
 rw [hP] at hPle
 obtain ⟨L,hL⟩:∃ L,768*P=L:=⟨_,rfl⟩
 have hLi:(768:Int)*(P:Int)=(L:Int):=by omega
 have hLb:L≤12288:=by omega
 have hEu:IntKind.u64.wrap (E:Int)=(E:Int):=Go.IntWalk.u64_in _ (by omega)
 have hEw:IntKind.i64.wrap (E:Int)=(E:Int):=Go.IntWalk.i64_in _ (by omega)
 have hE64:min E 64=E:=by omega
 have hLw:IntKind.i64.wrap (L:Int)=(L:Int):=Go.IntWalk.i64_in _ (by omega)
 have hmk:=make_tree L (by omega)
 have HLL:Hid (∀ lb,(⟨k0,lb,lc,lp,pb⟩:LK).L=L):=hid (fun lb=>by unfold LK.L;simp only;rw [hE,hP,hL])
 clear hE hP hL
 have hpa:=H5.out.alloc (.cells (madeCells #[.int .u16 0] L) 117)
 have c9a:(w5.alloc (.cells (madeCells #[.int .u16 0] L) 117)).cell? ⟨k0,1868,none⟩=some (.slice A9 n9 c9v):=(hpa.cell 1868).trans (qcells_get lc lp pb 0 _ _ _ (i:=1868) (by omega))
 have f9a:=hpa.frozen 1868
 have HPA:=hid hpa
 have hk0:=H5.out.lt
 clear hpa
 go_wp2
 go_region
 all_goals
  obtain ⟨lb,hlb⟩:∃ lb,w5.heap.size=lb:=⟨_,rfl⟩
  have h6:=((H5.out.set 1868 (.slice (some ⟨lb,0,none⟩) L L)).alloc (.cells (madeCells #[.int .u16 0] L) 117)).drew
  rw [qcells_lv] at h6
  have h7:=(Pts.new (w5.setCell ⟨k0,1868,none⟩ (.slice (some ⟨lb,0,none⟩) L L)) (madeCells #[.int .u16 0] L) 117).drew
  have hsz:(w5.setCell ⟨k0,1868,none⟩ (.slice (some ⟨lb,0,none⟩) L L)).heap.size=lb:=by show (w5.heap.modify _ _).size=_;simp only [Array.size_modify];exact hlb
  rw [hsz] at h7
  have f6:=((F5.out.setCell (p:=⟨k0,1868,none⟩) rfl (.slice (some ⟨lb,0,none⟩) L L)).alloc (.cells (madeCells #[.int .u16 0] L) 117)).drew
  simp only [hlb]
  generalize ((w5.setCell ⟨k0,1868,none⟩ (.slice (some ⟨lb,0,none⟩) L L)).alloc (.cells (madeCells #[.int .u16 0] L) 117)).drew=w6 at *
  have d9:w6.cell? ⟨k0,1868,none⟩=some (.slice (some ⟨lb,0,none⟩) L L):=(h6.cell 1868).trans (qcells_get lc lp pb 0 _ _ _ (i:=1868) (by omega))
  have H6:=hid h6
  have H7:=hid h7
  have F6:=hid f6
  have hlb0:w.heap.size≤lb:=by rw [← hlb];exact F5.out.size
  clear h6 h7 f6 HPA hsz hmk c9 f9 c9a f9a c0 c1
  go_wp2_with fail
  refine (even_any lb 0 L _ _ _ _ H7.out (by rw [size_madeCells];omega) (by omega)).mono ?_;rintro e w7 ⟨rfl,⟨C',h8,he8⟩,f8⟩
  have hC:C'=lcells ⟨k0,lb,lc,lp,pb⟩ (fun _=>1024):=by
   have hcs:C'.size=L:=by rw [he8.1,size_madeCells]
   apply Array.ext
   ·rw [hcs];simp only [lcells,Array.size_ofFn];exact (HLL.out lb).symm
   intro j h1 h2
   have hj:j<L:=by rw [hcs] at h1;exact h1
   have e1:=he8.2 j
   rw [if_pos ⟨Nat.zero_le _,by omega⟩,Array.getElem?_eq_getElem h1] at e1
   have e2:=lcells_get ⟨k0,lb,lc,lp,pb⟩ (fun _=>1024) (j:=j) (by rw [HLL.out lb];exact hj)
   rw [Array.getElem?_eq_getElem h2] at e2
   exact (Option.some.inj e1).trans (Option.some.inj e2).symm
  subst hC
  have H8:=hid h8
  have H9:=hid (H6.out.frm f8 (by intro e;omega))
  have F8:=hid (F6.out.transW f8 (fun q hq hqw=>by omega))
  clear h8 he8 f8
  go_wp2
  go_end0
  refine ⟨rfl,lb,hlb0,?_,H8.out,F8.out⟩
  have e:=qcells_m ⟨k0,lb,lc,lp,pb⟩ 0 (fun _=>0) (fun _=>1024)
  rw [HLL.out lb] at e
  rw [← e]
  exact H9.out
open Go.RowKit Rng Lz
theorem lreset_st (k0 lc lp pb st:Nat) (rep:Nat→Nat) (pr:Pr) (lv:Value) (T:TypeId) (w:World) (hp:Pts w k0 (qcells lc lp pb st rep pr lv) T) (hcl:lc+lp≤4) (hlv:∃ A n c,lv=.slice A n c) (hpb:pb≤4) :
 Calls Tryz.prog 79 #[.pointer (some ⟨k0,0,none⟩)] w fun e w'=>e=.returned (.tuple #[])∧∃ lb,w.heap.size≤lb∧Pts w' k0 (mcells ⟨k0,lb,lc,lp,pb⟩ 0 (fun _=>0) (fun _=>1024)) T∧Pts w' lb (lcells ⟨k0,lb,lc,lp,pb⟩ (fun _=>1024)) 117∧Frm (· = k0) w w':=by
 have HP:=hid hp
 clear hp
 go_enter Tryz.func79,Tryz.ntmps79
 go_wp2_with fail
 refine (mreset_any k0 lc lp pb st rep pr lv T w HP.out hcl hlv hpb).mono ?_;rintro e w1 ⟨rfl,h1⟩
 have H1:=hid h1
 clear h1
 go_wp2
 go_end0
 exact ⟨rfl,H1.out⟩
open Go.RowKit Rng Lz
theorem fold_list:∀ (l:List Value) (k:Nat) (Z:Array Value),k+l.length≤Z.size →
 ((l.zipIdx k).foldl (fun (cs:Array Value) x=>cs.setIfInBounds x.2 x.1) Z).size=Z.size∧∀ j,((l.zipIdx k).foldl (fun (cs:Array Value) x=>cs.setIfInBounds x.2 x.1) Z)[j]?=if k≤j∧j<k+l.length then l[j-k]? else Z[j]?
 | [],k,Z,h=>⟨rfl,fun j=>by rw [if_neg (by simp only [List.length_nil];omega)];rfl⟩
 | v::l,k,Z,h=>by
  have h':k+1+l.length≤(Z.setIfInBounds k v).size:=by rw [Array.size_setIfInBounds];simp only [List.length_cons] at h;omega
  obtain ⟨i1,i2⟩:=fold_list l (k+1) (Z.setIfInBounds k v) h'
  simp only [List.zipIdx_cons,List.foldl_cons]
  refine ⟨by rw [i1,Array.size_setIfInBounds],fun j=>?_⟩
  rw [i2 j]
  simp only [List.length_cons] at h ⊢
  by_cases e:j=k
  ·subst e
   rw [if_neg (by omega),if_pos (by omega),Nat.sub_self,Array.getElem?_setIfInBounds_self_of_lt (by omega)]
   rfl
  by_cases e2:k+1≤j∧j<k+1+l.length
  ·rw [if_pos e2,if_pos (by omega),show j-k=(j-(k+1))+1 by omega,List.getElem?_cons_succ]
  rw [if_neg e2,if_neg (by omega),Array.getElem?_setIfInBounds_ne (fun h=>e h.symm)]
theorem fold_all (X Z:Array Value) (n:Nat) (hx:X.size=n) (hz:Z.size=n):Array.foldl (fun (cs:Array Value) x=>cs.setIfInBounds x.2 x.1) Z X.zipIdx 0 n=X:=by
 have hsz:X.zipIdx.size=n:=by rw [Array.size_zipIdx,hx]
 rw [← hsz,← Array.foldl_toList,Array.toList_zipIdx]
 obtain ⟨i1,i2⟩:=fold_list X.toList 0 Z (by rw [Array.length_toList];omega)
 apply Array.ext_getElem?
 intro j
 rw [i2 j]
 by_cases e:j<X.size
 ·rw [if_pos ⟨Nat.zero_le _,by rw [Array.length_toList];omega⟩,Nat.sub_zero,Array.getElem?_toList]
 rw [if_neg (by rw [Array.length_toList];omega),Array.getElem?_eq_none (by omega),Array.getElem?_eq_none (by omega)]
theorem split_get (X Y:List Value) (a z:Value) (n:Nat) (hX:X.length=8) {j:Nat} (h8:8≤j):(X++List.replicate n a++[z])[j]?=if j<8+n then some a else if j=8+n then some z else none:=by
 by_cases h:j<8+n
 ·rw [if_pos h,List.getElem?_append_left (by rw [List.length_append,List.length_replicate];omega),List.getElem?_append_right (by omega),List.getElem?_replicate,if_pos (by omega)]
 rw [if_neg h,List.getElem?_append_right (by rw [List.length_append,List.length_replicate];omega),List.length_append,List.length_replicate,hX]
 by_cases e:j=8+n
 ·subst e;rw [if_pos rfl,Nat.sub_self];rfl
 rw [if_neg e,List.getElem?_eq_none (by simp only [List.length_cons,List.length_nil];omega)]
theorem zero_list:Tryz.zeroCells134.toList=(List.replicate 4 (Value.int .i64 0)++List.replicate 4 (Value.int .u32 0))++List.replicate 1860 (Value.int .u16 0)++[Value.slice none 0 0]:=by kernel_rfl
theorem zero55_size:Tryz.zeroCells134.size=1869:=by kernel_rfl
theorem zero57_size:Tryz.zeroCells169.size=1869:=by kernel_rfl
theorem zero_q:Tryz.zeroCells134=qcells 0 0 0 0 (fun _=>0) (fun _=>0) (.slice none 0 0):=by
 refine qcells_eq zero55_size fun j hj=>?_
 rw [← Array.getElem?_toList,zero_list]
 have hX:(List.replicate 4 (Value.int .i64 0)++List.replicate 4 (Value.int .u32 0)).length=8:=rfl
 obtain ⟨N,hN⟩:∃ N,N=1860:=⟨_,rfl⟩
 rw [← hN]
 unfold qcell
 by_cases h8:j<8
 ·rw [List.append_assoc,List.getElem?_append_left (by rw [hX];exact h8)]
  have a:j=0∨j=1∨j=2∨j=3∨j=4∨j=5∨j=6∨j=7:=by omega
  rcases a with rfl | rfl | rfl | rfl | rfl | rfl | rfl | rfl <;> rfl
 rw [split_get _ [] _ _ N hX (by omega),if_neg (show ¬ j=0 by omega),if_neg (show ¬ j=1 by omega),if_neg (show ¬ j=2 by omega),if_neg (show ¬ j=3 by omega),if_neg h8]
 by_cases hu:j<1868
 ·rw [if_pos (show j<8+N by omega),if_pos hu];rfl
 rw [if_neg (show ¬ j<8+N by omega),if_neg hu,if_pos (by omega)]
theorem made_q:(Tryz.zeroCells134.setIfInBounds 0 (.int .i64 3)).setIfInBounds 2 (.int .i64 2)=qcells 3 0 2 0 (fun _=>0) (fun _=>0) (.slice none 0 0):=by
 rw [zero_q]
 refine qcells_eq (by rw [Array.size_setIfInBounds,Array.size_setIfInBounds,qcells_size]) fun j hj=>?_
 by_cases e2:j=2
 ·subst e2
  rw [Array.getElem?_setIfInBounds_self_of_lt (by rw [Array.size_setIfInBounds,qcells_size];omega)]
  rfl
 rw [Array.getElem?_setIfInBounds_ne (fun h=>e2 h.symm)]
 by_cases e0:j=0
 ·subst e0
  rw [Array.getElem?_setIfInBounds_self_of_lt (by rw [qcells_size];omega)]
  rfl
 rw [Array.getElem?_setIfInBounds_ne (fun h=>e0 h.symm),qcells_get _ _ _ _ _ _ _ hj]
 unfold qcell
 simp only [if_neg e0,if_neg e2]
theorem made_all:Array.foldl (fun (cs:Array Value) x=>cs.setIfInBounds x.2 x.1) Tryz.zeroCells169 ((Tryz.zeroCells134.setIfInBounds 0 (.int .i64 3)).setIfInBounds 2 (.int .i64 2)).zipIdx 0 1869=qcells 3 0 2 0 (fun _=>0) (fun _=>0) (.slice none 0 0):=by
 rw [made_q]
 exact fold_all _ _ 1869 (qcells_size _ _ _ _ _ _ _) zero57_size
def newK (sb lb:Nat):LK:=⟨sb,lb,3,0,2⟩
set_option maxRecDepth 100000 in
set_option maxHeartbeats 2000000 in
theorem lnew_p (w:World):Calls Tryz.prog 36 #[] w fun e w'=>∃ b lb,e=.returned (.pointer (some ⟨b,0,none⟩))∧w.heap.size≤b∧w.heap.size≤lb∧b≠lb ∧
 Pts w' b (mcells (newK b lb) 0 (fun _=>0) (fun _=>1024)) 169∧Pts w' lb (lcells (newK b lb) (fun _=>1024)) 117∧Below w.heap.size w w':=by
 have hma:=made_all
 go_enter Tryz.func36,Tryz.ntmps36
 go_wp2_with fail
 have hp:=Pts.new w (qcells 3 0 2 0 (fun _=>0) (fun _=>0) (.slice none 0 0)) 169
 have hb:=(Below.refl w.heap.size w).alloc (Nat.le_refl _) (.cells (qcells 3 0 2 0 (fun _=>0) (fun _=>0) (.slice none 0 0)) 169)
 have hsz:(w.alloc (.cells (qcells 3 0 2 0 (fun _=>0) (fun _=>0) (.slice none 0 0)) 169)).heap.size=w.heap.size+1:=by show (w.heap.push _).size=_;rw [Array.size_push]
 generalize w.alloc (.cells (qcells 3 0 2 0 (fun _=>0) (fun _=>0) (.slice none 0 0)) 169)=wa at *
 refine (lreset_st w.heap.size 3 0 2 0 _ _ _ 169 wa hp (by omega) ⟨none,0,0,rfl⟩ (by omega)).mono ?_;rintro e w1 ⟨rfl,lb,h1,h2,h3,f1⟩
 have H2:=hid h2
 have H3:=hid h3
 have B1:=hid (hb.trans (f1.below hb.size (fun q hq=>by omega)))
 have hlb:w.heap.size<lb:=by omega
 clear h2 h3 f1 hma
 go_wp2
 go_ret
 exact ⟨w.heap.size,lb,rfl,Nat.le_refl _,by omega,by omega,H2.out,H3.out,B1.out⟩
open Go.RowKit Rng Lz
theorem qcells_hdr (lc lp pb st lc' lp' pb':Nat) (rep:Nat→Nat) (pr:Pr) (lv:Value) :
 (((qcells lc lp pb st rep pr lv).setIfInBounds 0 (.int .i64 (lc':Int))).setIfInBounds 1 (.int .i64 (lp':Int))).setIfInBounds 2 (.int .i64 (pb':Int))=qcells lc' lp' pb' st rep pr lv:=by
 refine qcells_eq (by rw [Array.size_setIfInBounds,Array.size_setIfInBounds,Array.size_setIfInBounds,qcells_size]) fun j hj=>?_
 by_cases e2:j=2
 ·subst e2
  rw [Array.getElem?_setIfInBounds_self_of_lt (by rw [Array.size_setIfInBounds,Array.size_setIfInBounds,qcells_size];omega)]
  rfl
 rw [Array.getElem?_setIfInBounds_ne (fun h=>e2 h.symm)]
 by_cases e1:j=1
 ·subst e1
  rw [Array.getElem?_setIfInBounds_self_of_lt (by rw [Array.size_setIfInBounds,qcells_size];omega)]
  rfl
 rw [Array.getElem?_setIfInBounds_ne (fun h=>e1 h.symm)]
 by_cases e0:j=0
 ·subst e0
  rw [Array.getElem?_setIfInBounds_self_of_lt (by rw [qcells_size];omega)]
  rfl
 rw [Array.getElem?_setIfInBounds_ne (fun h=>e0 h.symm),qcells_get _ _ _ _ _ _ _ hj]
 unfold qcell
 simp only [if_neg e0,if_neg e1,if_neg e2]
set_option maxRecDepth 100000 in
set_option maxHeartbeats 2000000 in
theorem props_p (p k0 lc lp pb st:Nat) (rep:Nat→Nat) (pr:Pr) (lv:Value) (T:TypeId) (w:World) (hp:Pts w k0 (qcells lc lp pb st rep pr lv) T) (hlv:∃ A n c,lv=.slice A n c) (hb:p≤255) :
 Calls Tryz.prog 119 #[.pointer (some ⟨k0,0,none⟩),.int .u8 p] w fun e w'=>e=.returned (.int .i64 (if 224<p∨4<p % 9+p / 9 % 5 then 11 else 0))∧Frm (· = k0) w w' ∧
  (¬ (224<p∨4<p % 9+p / 9 % 5)→∃ lb,w.heap.size≤lb∧Pts w' k0 (mcells ⟨k0,lb,p % 9,p / 9 % 5,p / 45⟩ 0 (fun _=>0) (fun _=>1024)) T∧Pts w' lb (lcells ⟨k0,lb,p % 9,p / 9 % 5,p / 45⟩ (fun _=>1024)) 117):=by
 have HP:=hid hp
 have HLV:=hid hlv
 have d0:w.cell? ⟨k0,0,none⟩=some (.int .i64 lc):=(hp.cell 0).trans (qcells_get lc lp pb st _ _ _ (i:=0) (by omega))
 have d1:w.cell? ⟨k0,1,none⟩=some (.int .i64 lp):=(hp.cell 1).trans (qcells_get lc lp pb st _ _ _ (i:=1) (by omega))
 have d2:w.cell? ⟨k0,2,none⟩=some (.int .i64 pb):=(hp.cell 2).trans (qcells_get lc lp pb st _ _ _ (i:=2) (by omega))
 have f0:=hp.frozen 0
 have f1:=hp.frozen 1
 have f2:=hp.frozen 2
 clear hp hlv
 obtain ⟨a,ha⟩:∃ a,p % 9=a:=⟨_,rfl⟩
 obtain ⟨b1,hb1⟩:∃ a,p / 9=a:=⟨_,rfl⟩
 obtain ⟨b,hbb⟩:∃ a,b1 % 5=a:=⟨_,rfl⟩
 obtain ⟨c,hc⟩:∃ a,p / 45=a:=⟨_,rfl⟩
 rw [ha,hb1,hbb,hc]
 have e1:(p:Int) % 9=(a:Int):=by omega
 have e2:(p:Int) / 9=(b1:Int):=by omega
 have e3:(b1:Int) % 5=(b:Int):=by omega
 have e4:(p:Int) / 45=(c:Int):=by omega
 have ab:a≤8:=by omega
 have bb:b≤4:=by omega
 have cb:c≤5:=by omega
 have cb4:p≤224→c≤4:=by omega
 have CB4:=hid cb4
 clear ha hb1 hbb hc cb4
 have h3:224<p∨(p≤224∧4<a+b)∨(p≤224∧a+b≤4):=by omega
 rcases h3 with h | ⟨h,h4⟩ | ⟨h,h4⟩
 ·have hi:(224:Int)<(p:Int):=by omega
  go_enter Tryz.func119,Tryz.ntmps119
  go_wp2
  go_ret
  first | exact ⟨rfl,Frm.refl _ _⟩ | exact ⟨ret_u32 (by rw [if_pos (.inl h)]),Frm.refl _ _,fun hn=>absurd (.inl h) hn⟩
 ·have hi:(p:Int)≤224:=by omega
  have hj:(4:Int)<(a:Int)+(b:Int):=by omega
  go_enter Tryz.func119,Tryz.ntmps119
  go_wp2
  go_ret
  first | exact ⟨rfl,Frm.refl _ _⟩ | exact ⟨ret_u32 (by rw [if_pos (.inr h4)]),Frm.refl _ _,fun hn=>absurd (.inr h4) hn⟩
 have hi:(p:Int)≤224:=by omega
 have hj:(a:Int)+(b:Int)≤4:=by omega
 go_enter Tryz.func119,Tryz.ntmps119
 go_wp2_with fail
 have hq:Pts (((w.setCell ⟨k0,0,none⟩ (.int .i64 a)).setCell ⟨k0,1,none⟩ (.int .i64 b)).setCell ⟨k0,2,none⟩ (.int .i64 c)) k0 (qcells a b c st rep pr lv) T:=by
  have h9:=((HP.out.set 0 (.int .i64 (a:Int))).set 1 (.int .i64 (b:Int))).set 2 (.int .i64 (c:Int))
  rw [qcells_hdr] at h9
  exact h9
 have hf:Frm (· = k0) w (((w.setCell ⟨k0,0,none⟩ (.int .i64 a)).setCell ⟨k0,1,none⟩ (.int .i64 b)).setCell ⟨k0,2,none⟩ (.int .i64 c)) :=
  (((Frm.refl (· = k0) w).setCell (p:=⟨k0,0,none⟩) rfl _).setCell (p:=⟨k0,1,none⟩) rfl _).setCell (p:=⟨k0,2,none⟩) rfl _
 generalize (((w.setCell ⟨k0,0,none⟩ (.int .i64 a)).setCell ⟨k0,1,none⟩ (.int .i64 b)).setCell ⟨k0,2,none⟩ (.int .i64 c))=wa at *
 refine (mreset_any k0 a b c st rep pr lv T wa hq h4 HLV.out (CB4.out h)).mono ?_;rintro e w1 ⟨rfl,lb,g1,g2,g3,g4⟩
 have G2:=hid g2
 have G3:=hid g3
 have G4:=hid (hf.trans g4)
 have hlb:=Nat.le_trans hf.size g1
 clear g2 g3 g4 hq hf g1
 go_wp2
 go_ret
 first | exact ⟨rfl,G4.out,lb,hlb,G2.out,G3.out⟩ | exact ⟨ret_u32 (by rw [if_neg (by omega)]),G4.out,fun _=>⟨lb,hlb,G2.out,G3.out⟩⟩
end Go.Proofs.YtffehfpbdcokbaaGreat
