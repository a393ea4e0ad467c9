import Derived.Test.YtffehfpbdcokbaaGreatBu1
import Derived.Test.YtffehfpbdcokbaaGreatBu2
import Derived.Test.YtffehfpbdcokbaaGreatBu4
set_option linter.unusedVariables false
set_option linter.unusedSimpArgs false
namespace Go.Proofs.YtffehfpbdcokbaaGreat
open Lib (hid)
open Go.RowKit Rng Lz
set_option maxRecDepth 100000 in
set_option maxHeartbeats 1000000 in
theorem even_r (b off n c:Nat) (C:Array Value) (T:TypeId) (w:World) (hp:Pts w b C T) (hfit:off+n≤C.size) (hn:n≤1000000) :
 Calls Tryz.prog 121 #[.slice (some ⟨b,off,none⟩) n c] w fun e w'=>e=.returned (.tuple #[])∧(∃ C',Pts w' b C' T∧evenC C C' off n)∧Frm (· = b) w w':=by
 have HP:=hid hp
 have HF:=hid hfit
 clear hp hfit
 go_enter Tryz.func121,Tryz.ntmps121
 go_wp2
 go_loopw [2] (fun iv wr=>∃ (i:Nat) (D:Array Value),iv=.int .i64 i∧i≤n∧Pts wr b D T∧evenC C D off i∧Frm (· = b) w wr) (fun iv _=>n-(intOf iv).toNat)
 case atStart=>exact ⟨0,C,rfl,by omega,HP.out,⟨rfl,fun j=>by rw [if_neg (by omega)]⟩,Frm.refl _ _⟩
 case round =>
 obtain ⟨i,D,rfl,hi,hd,he,hf⟩:=hrel
 have HD:=hid hd
 have HE:=hid he
 have HFR:=hid hf
 by_cases hlt:i<n
 ·have hlt2:off+i<D.size:=by rw [he.1];have:=HF.out;omega
  have hcell:_=_:=hd.cell (off+i)
  rw [Array.getElem?_eq_getElem hlt2] at hcell
  have hfz:=hd.frozen (off+i)
  have hset:=hd.set (off+i) (.int .u16 1024)
  have hee:evenC C (D.setIfInBounds (off+i) (.int .u16 1024)) off (i+1):=by
   refine ⟨by rw [Array.size_setIfInBounds];exact he.1,fun j=>?_⟩
   by_cases e:j=off+i
   ·subst e
    rw [Array.getElem?_setIfInBounds_self_of_lt hlt2,if_pos (by omega)]
   rw [Array.getElem?_setIfInBounds_ne (fun h=>e h.symm),he.2 j]
   by_cases h1:off≤j∧j<off+i
   ·rw [if_pos h1,if_pos (by omega)]
   rw [if_neg h1,if_neg (by omega)]
  have HS:=hid hset
  have HE2:=hid hee
  have HF2:=hid (hf.setCell (p:=⟨b,off+i,none⟩) rfl (.int .u16 1024))
  generalize D[off+i]=xv at hcell
  clear hd he hf hset hee
  go_wp2
  exact ⟨⟨i+1,_,by go_num,by omega,HS.out,HE2.out,HF2.out⟩,by simp [intOf];omega⟩
 obtain rfl:i=n:=by omega
 clear hd he hf
 go_wp2
 go_end0
 exact ⟨rfl,⟨D,HD.out,HE.out⟩,HFR.out⟩
theorem even_rq (b off n c lc lp pb st:Nat) (rep:Nat→Nat) (pr:Pr) (lv:Value) (T:TypeId) (w:World) (hp:Pts w b (qcells lc lp pb st rep pr lv) T) (h1:8≤off) (h2:off+n≤1868) :
 Calls Tryz.prog 121 #[.slice (some ⟨b,off,none⟩) n c] w fun e w'=>e=.returned (.tuple #[])∧Pts w' b (qcells lc lp pb st rep (fillS pr off n) lv) T∧Frm (· = b) w w':=by
 refine (even_r b off n c _ T w hp (by rw [qcells_size];omega) (by omega)).mono ?_
 rintro e w' ⟨rfl,⟨C',h3,h4⟩,h5⟩
 rw [h4.q h1 h2] at h3
 exact ⟨rfl,h3,h5⟩
theorem one_even {C:Array Value} {off:Nat} (h:off<C.size):evenC C (C.setIfInBounds off (.int .u16 ((1024:Nat):Int))) off 1:=by
 refine ⟨by rw [Array.size_setIfInBounds],fun j=>?_⟩
 by_cases e:j=off
 ·subst e
  rw [Array.getElem?_setIfInBounds_self_of_lt h,if_pos (by omega)]
  rfl
 rw [Array.getElem?_setIfInBounds_ne (fun h=>e h.symm),if_neg (by omega)]
set_option maxRecDepth 100000 in
set_option maxHeartbeats 1000000 in
theorem lreset_r (b base lc lp pb st:Nat) (rep:Nat→Nat) (pr:Pr) (lv:Value) (T:TypeId) (w:World) (hp:Pts w b (qcells lc lp pb st rep pr lv) T) (hb:base=840∨base=1354) :
 Calls Tryz.prog 122 #[.pointer (some ⟨b,base,none⟩)] w fun e w'=>e=.returned (.tuple #[])∧(∃ pr',Pts w' b (qcells lc lp pb st rep pr' lv) T∧Mo pr pr'∧Ev pr' base (base+514))∧Frm (· = b) w w':=by
 have HP:=hid hp
 have HB:=hid hb
 clear hp hb
 go_enter Tryz.func122,Tryz.ntmps122
 have hA:=HP.out.set base (.int .u16 ((1024:Nat):Int))
 have hA1:(qcells lc lp pb st rep pr lv).setIfInBounds base (.int .u16 ((1024:Nat):Int))=qcells lc lp pb st rep (fillS pr base 1) lv:=evenC.q (one_even (by rw [qcells_size];have:=HB.out;omega)) (by have:=HB.out;omega) (by have:=HB.out;omega)
 rw [hA1] at hA
 have hB:=hA.set (base+1) (.int .u16 ((1024:Nat):Int))
 have hB1:(qcells lc lp pb st rep (fillS pr base 1) lv).setIfInBounds (base+1) (.int .u16 ((1024:Nat):Int))=qcells lc lp pb st rep (fillS (fillS pr base 1) (base+1) 1) lv:=evenC.q (one_even (by rw [qcells_size];have:=HB.out;omega)) (by have:=HB.out;omega) (by have:=HB.out;omega)
 rw [hB1] at hB
 have f1:Frm (· = b) w ((w.setCell ⟨b,base,none⟩ (.int .u16 1024)).setCell ⟨b,base+1,none⟩ (.int .u16 1024)):=((Frm.refl (· = b) w).setCell (p:=⟨b,base,none⟩) (by rfl) _).setCell (p:=⟨b,base+1,none⟩) (by rfl) _
 have k0:w.cell? ⟨b,base,none⟩=some (.int .u16 (pr base)):=by
  rw [HP.out.cell,qcells_get _ _ _ _ _ _ _ (by have:=HB.out;omega)]
  have:=HB.out
  unfold qcell
  rw [if_neg (by omega),if_neg (by omega),if_neg (by omega),if_neg (by omega),if_neg (by omega),if_pos (by omega)]
 have z0:=HP.out.frozen base
 have k1:(w.setCell ⟨b,base,none⟩ (.int .u16 1024)).cell? ⟨b,base+1,none⟩=some (.int .u16 ((fillS pr base 1) (base+1))):=by
  refine (hA.cell (base+1)).trans ?_
  rw [qcells_get _ _ _ _ _ _ _ (by have:=HB.out;omega)]
  have:=HB.out
  unfold qcell
  rw [if_neg (by omega),if_neg (by omega),if_neg (by omega),if_neg (by omega),if_neg (by omega),if_pos (by omega)]
 have z1:(w.setCell ⟨b,base,none⟩ (.int .u16 1024)).frozen? ⟨b,base+1,none⟩=false:=hA.frozen (base+1)
 have H1:Hid (Pts ((w.setCell ⟨b,base,none⟩ (.int .u16 1024)).setCell ⟨b,base+1,none⟩ (.int .u16 1024)) b (qcells lc lp pb st rep (fillS (fillS pr base 1) (base+1) 1) lv) T):=hid hB
 have F1:=hid f1
 obtain ⟨v0,hv0⟩:∃ v,Value.int .u16 (pr base)=v:=⟨_,rfl⟩
 obtain ⟨v1,hv1⟩:∃ v,Value.int .u16 ((fillS pr base 1) (base+1))=v:=⟨_,rfl⟩
 rw [hv0] at k0
 rw [hv1] at k1
 clear hA hB hA1 hB1 f1 hv0 hv1
 go_wp2
 go_loopw [2] (fun iv wr=>∃ (i:Nat) (pq:Pr),iv=.int .i64 i∧i≤16∧Pts wr b (qcells lc lp pb st rep pq lv) T∧Mo pr pq∧Ev pq base (base+2+i*8)∧Ev pq (base+130) (base+130+i*8)∧Frm (· = b) w wr) (fun iv _=>16-(intOf iv).toNat)
 case atStart=>exact ⟨0,_,rfl,by omega,H1.out,(Mo.fill _ _ _).trans (Mo.fill _ _ _),(Ev.fill pr base 1).mo (Mo.fill _ (base+1) 1) |>.more (Ev.fill _ (base+1) 1),Ev.none _ (by omega),F1.out⟩
 case round =>
 obtain ⟨i,pq,rfl,hi,hq,hmo,he1,he2,hf⟩:=hrel
 have HQ:=hid hq
 have MO:=hid hmo
 have E1:=hid he1
 have E2:=hid he2
 have FR:=hid hf
 clear hq hmo he1 he2 hf H1 F1
 by_cases hlt:i<16
 ·go_wp2_with fail
  refine (even_rq b _ 8 _ lc lp pb st rep pq lv T _ HQ.out (by have:=HB.out;omega) (by have:=HB.out;omega)).mono ?_;rintro e w2 ⟨rfl,h2,f2⟩
  have H2:=hid h2
  have F2:=hid (FR.out.trans f2)
  clear h2 f2
  go_wp2_with fail
  refine (even_rq b _ 8 _ lc lp pb st rep _ lv T _ H2.out (by have:=HB.out;omega) (by have:=HB.out;omega)).mono ?_;rintro e w3 ⟨rfl,h3,f3⟩
  have H3:=hid h3
  have F3:=hid (F2.out.trans f3)
  clear h3 f3
  go_wp2
  refine ⟨⟨i+1,_,by go_num,by omega,H3.out,(MO.out.trans (Mo.fill _ _ _)).trans (Mo.fill _ _ _),?_,?_,F3.out⟩,by simp [intOf];omega⟩
  ·have e:=((E1.out.mo (Mo.fill pq (base+2+i*8) 8)).more (Ev.fill pq (base+2+i*8) 8)).mo (Mo.fill (fillS pq (base+2+i*8) 8) (base+130+i*8) 8)
   rw [show base+2+(i+1)*8=base+2+i*8+8 by omega]
   exact e
  have e:=((E2.out.mo (Mo.fill pq (base+2+i*8) 8)).mo (Mo.fill (fillS pq (base+2+i*8) 8) (base+130+i*8) 8)).more (Ev.fill (fillS pq (base+2+i*8) 8) (base+130+i*8) 8)
  rw [show base+130+(i+1)*8=base+130+i*8+8 by omega]
  exact e
 obtain rfl:i=16:=by omega
 go_wp2_with fail
 refine (even_rq b _ 256 _ lc lp pb st rep pq lv T _ HQ.out (by have:=HB.out;omega) (by have:=HB.out;omega)).mono ?_;rintro e w2 ⟨rfl,h2,f2⟩
 have H2:=hid h2
 have F2:=hid (FR.out.trans f2)
 clear h2 f2
 go_wp2
 go_end0
 refine ⟨rfl,⟨_,H2.out,MO.out.trans (Mo.fill _ _ _),?_⟩,F2.out⟩
 have e:=(((E1.out.more E2.out).mo (Mo.fill pq (base+258) 256)).more (Ev.fill pq (base+258) 256))
 exact e
theorem make_lits (n:Nat) (hn:n≤16777216) (w:World) :
 (Instr.makeSlice 131 (.int .i64 (n:Int)) (.int .i64 (n:Int))).run Tryz.prog w=.ok (.slice (some ⟨w.heap.size,0,none⟩) n n) (w.alloc (.cells (madeCells #[.int .u16 0] n) 117)):=by
 obtain ⟨i,hi,hz⟩:=Option.map_eq_some_iff.1 Tryz.info_u16l
 simp only [Prod.mk.injEq] at hz
 have h:=run_make (P:=Tryz.prog) w 131 117 i (.int .u16 0) Tryz.underlying131 hi hz.1 .i64 .i64 n n (by omega) (by omega) (by rw [hz.2.2];omega) (by omega)
 rw [hz.2.1] at h
 simp only [Int.toNat_natCast,Nat.mul_one] at h
 exact h
set_option maxRecDepth 100000 in
set_option maxHeartbeats 2000000 in
theorem dreset_p (k0 lc lp pb st:Nat) (rep:Nat→Nat) (pr:Pr) (lv:Value) (T:TypeId) (w:World) (hp:Pts w k0 (qcells lc lp pb st rep pr lv) T) (hcl:lc+lp≤4) (hlv:∃ A n c,lv=.slice A n c) (hpb:pb≤4) :
 Calls Tryz.prog 83 #[.pointer (some ⟨k0,0,none⟩)] w fun e w'=>e=.returned (.tuple #[])∧∃ lb,w.heap.size≤lb∧Pts w' k0 (mcells ⟨k0,lb,lc,lp,pb⟩ 0 (fun _=>0) (fun _=>1024)) T∧Pts w' lb (lcells ⟨k0,lb,lc,lp,pb⟩ (fun _=>1024)) 117∧Frm (· = k0) w w':=by
 have hc:=fun {i:Nat} (h:i<8)=>(hp.cell i).trans (qcells_get lc lp pb st rep pr lv (i:=i) (by omega))
 have c3:w.cell? ⟨k0,3,none⟩=some (.int .i64 st):=hc (i:=3) (by omega)
 have c4:w.cell? ⟨k0,4,none⟩=some (.int .u32 (rep 0)):=hc (i:=4) (by omega)
 have c5:w.cell? ⟨k0,5,none⟩=some (.int .u32 (rep 1)):=hc (i:=5) (by omega)
 have c6:w.cell? ⟨k0,6,none⟩=some (.int .u32 (rep 2)):=hc (i:=6) (by omega)
 have c7:w.cell? ⟨k0,7,none⟩=some (.int .u32 (rep 3)):=hc (i:=7) (by omega)
 have f3:=hp.frozen 3
 have f4:=hp.frozen 4
 have f5:=hp.frozen 5
 have f6:=hp.frozen 6
 have f7:=hp.frozen 7
 have HP:=hid hp
 clear hp hc
 go_enter Tryz.func83,Tryz.ntmps83
 go_wp2_with fail
 have hq0:Pts (((((w.setCell ⟨k0,3,none⟩ (.int .i64 0)).setCell ⟨k0,4,none⟩ (.int .u32 0)).setCell ⟨k0,5,none⟩ (.int .u32 0)).setCell ⟨k0,6,none⟩ (.int .u32 0)).setCell ⟨k0,7,none⟩ (.int .u32 0)) k0 (qcells lc lp pb 0 (fun _=>0) pr lv) T:=by
  have h:=((((HP.out.set 3 (.int .i64 ((0:Nat):Int))).set 4 (.int .u32 0)).set 5 (.int .u32 0)).set 6 (.int .u32 0)).set 7 (.int .u32 0)
  rw [qcells_st,qcells_rep0] at h
  exact h
 have hf0:Frm (· = k0) w (((((w.setCell ⟨k0,3,none⟩ (.int .i64 0)).setCell ⟨k0,4,none⟩ (.int .u32 0)).setCell ⟨k0,5,none⟩ (.int .u32 0)).setCell ⟨k0,6,none⟩ (.int .u32 0)).setCell ⟨k0,7,none⟩ (.int .u32 0)) :=
  (((((Frm.refl (· = k0) w).setCell (p:=⟨k0,3,none⟩) rfl _).setCell (p:=⟨k0,4,none⟩) rfl _).setCell (p:=⟨k0,5,none⟩) rfl _).setCell (p:=⟨k0,6,none⟩) rfl _).setCell (p:=⟨k0,7,none⟩) rfl _
 generalize (((((w.setCell ⟨k0,3,none⟩ (.int .i64 0)).setCell ⟨k0,4,none⟩ (.int .u32 0)).setCell ⟨k0,5,none⟩ (.int .u32 0)).setCell ⟨k0,6,none⟩ (.int .u32 0)).setCell ⟨k0,7,none⟩ (.int .u32 0))=wa at *
 have HQ0:=hid hq0
 have HF0:=hid hf0
 clear hq0 hf0 c3 c4 c5 c6 c7 f3 f4 f5 f6 f7 HP
 go_loopw [2] (fun iv wr=>∃ (i:Nat) (pq:Pr),iv=.int .i64 i∧i≤12∧Pts wr k0 (qcells lc lp pb 0 (fun _=>0) pq lv) T∧Ev pq 8 (8+i*16)∧Ev pq 248 (248+i*16)∧Frm (· = k0) w wr) (fun iv _=>12-(intOf iv).toNat)
 case atStart=>exact ⟨0,pr,rfl,by omega,HQ0.out,Ev.none _ (by omega),Ev.none _ (by omega),HF0.out⟩
 case round =>
 obtain ⟨i,pq,rfl,hi,hq,he1,he2,hf⟩:=hrel
 have HQ:=hid hq
 have E1:=hid he1
 have E2:=hid he2
 have FR:=hid hf
 clear hq he1 he2 hf HQ0 HF0
 by_cases hlt:i<12
 ·go_wp2_with fail
  refine (even_rq k0 _ 16 _ lc lp pb 0 _ pq lv T _ HQ.out (by omega) (by omega)).mono ?_;rintro e w2 ⟨rfl,h2,f2⟩
  have H2:=hid h2
  have F2:=hid (FR.out.trans f2)
  clear h2 f2
  go_wp2_with fail
  refine (even_rq k0 _ 16 _ lc lp pb 0 _ _ lv T _ H2.out (by omega) (by omega)).mono ?_;rintro e w3 ⟨rfl,h3,f3⟩
  have H3:=hid h3
  have F3:=hid (F2.out.trans f3)
  clear h3 f3
  go_wp2
  refine ⟨⟨i+1,_,by go_num,by omega,H3.out,?_,?_,F3.out⟩,by simp [intOf];omega⟩
  ·have e:=((E1.out.mo (Mo.fill pq (8+i*16) 16)).more (Ev.fill pq (8+i*16) 16)).mo (Mo.fill (fillS pq (8+i*16) 16) (248+i*16) 16)
   rw [show 8+(i+1)*16=8+i*16+16 by omega]
   exact e
  have e:=((E2.out.mo (Mo.fill pq (8+i*16) 16)).mo (Mo.fill (fillS pq (8+i*16) 16) (248+i*16) 16)).more (Ev.fill (fillS pq (8+i*16) 16) (248+i*16) 16)
  rw [show 248+(i+1)*16=248+i*16+16 by omega]
  exact e
 obtain rfl:i=12:=by omega
 go_wp2_with fail
 refine (even_rq k0 200 12 _ lc lp pb 0 _ pq lv T _ HQ.out (by omega) (by omega)).mono ?_;rintro e w2 ⟨rfl,h2,f2⟩
 have H2:=hid h2
 have F2:=hid (FR.out.trans f2)
 have G1:Hid (Ev (fillS pq 200 12) 8 212):=hid ((E1.out.mo (Mo.fill pq 200 12)).more (Ev.fill pq 200 12))
 have G2:Hid (Ev (fillS pq 200 12) 248 440):=hid (E2.out.mo (Mo.fill pq 200 12))
 generalize fillS pq 200 12=p2 at H2 G1 G2
 clear h2 f2 HQ E1 E2 FR
 go_wp2_with fail
 refine (even_rq k0 212 12 _ lc lp pb 0 _ p2 lv T _ H2.out (by omega) (by omega)).mono ?_;rintro e w3 ⟨rfl,h3,f3⟩
 have H3:=hid h3
 have F3:=hid (F2.out.trans f3)
 have K1:Hid (Ev (fillS p2 212 12) 8 224):=hid ((G1.out.mo (Mo.fill p2 212 12)).more (Ev.fill p2 212 12))
 have K2:Hid (Ev (fillS p2 212 12) 248 440):=hid (G2.out.mo (Mo.fill p2 212 12))
 clear G1 G2
 have G1:=K1
 have G2:=K2
 generalize fillS p2 212 12=p3 at H3 G1 G2
 clear h3 f3 H2 F2 K1 K2
 go_wp2_with fail
 refine (even_rq k0 224 12 _ lc lp pb 0 _ p3 lv T _ H3.out (by omega) (by omega)).mono ?_;rintro e w4 ⟨rfl,h4,f4⟩
 have H4:=hid h4
 have F4:=hid (F3.out.trans f4)
 have K1:Hid (Ev (fillS p3 224 12) 8 236):=hid ((G1.out.mo (Mo.fill p3 224 12)).more (Ev.fill p3 224 12))
 have K2:Hid (Ev (fillS p3 224 12) 248 440):=hid (G2.out.mo (Mo.fill p3 224 12))
 clear G1 G2
 have G1:=K1
 have G2:=K2
 generalize fillS p3 224 12=p4 at H4 G1 G2
 clear h4 f4 H3 F3 K1 K2
 go_wp2_with fail
 refine (even_rq k0 236 12 _ lc lp pb 0 _ p4 lv T _ H4.out (by omega) (by omega)).mono ?_;rintro e w5 ⟨rfl,h5,f5⟩
 have H5:=hid h5
 have F5:=hid (F4.out.trans f5)
 have K1:Hid (Ev (fillS p4 236 12) 8 248):=hid ((G1.out.mo (Mo.fill p4 236 12)).more (Ev.fill p4 236 12))
 have K2:Hid (Ev (fillS p4 236 12) 248 440):=hid (G2.out.mo (Mo.fill p4 236 12))
 clear G1 G2
 have G1:=K1
 have G2:=K2
 generalize fillS p4 236 12=p5 at H5 G1 G2
 clear h5 f5 H4 F4 K1 K2
 have GG:Hid (Ev p5 8 440):=hid (G1.out.more G2.out)
 clear G1 G2
 have G1:=GG
 clear GG
 go_wp2
 go_loopw [3] (fun iv wr=>∃ (i:Nat) (pq:Pr),iv=.int .i64 i∧i≤4∧Pts wr k0 (qcells lc lp pb 0 (fun _=>0) pq lv) T∧Ev pq 8 (440+i*64)∧Frm (· = k0) w wr) (fun iv _=>4-(intOf iv).toNat)
 case atStart=>exact ⟨0,p5,rfl,by omega,H5.out,G1.out,F5.out⟩
 case round =>
 obtain ⟨i,pq,rfl,hi,hq,he1,hf⟩:=hrel
 have HQ2:=hid hq
 have E1:=hid he1
 have FR2:=hid hf
 clear hq he1 hf H5 G1 F5
 by_cases hlt:i<4
 ·go_wp2_with fail
  refine (even_rq k0 _ 64 _ lc lp pb 0 _ pq lv T _ HQ2.out (by omega) (by omega)).mono ?_;rintro e w2 ⟨rfl,h2,f2⟩
  have H2:=hid h2
  have F2:=hid (FR2.out.trans f2)
  clear h2 f2
  go_wp2
  have e:=(E1.out.mo (Mo.fill pq (440+i*64) 64)).more (Ev.fill pq (440+i*64) 64)
  rw [show 440+i*64+64=440+(i+1)*64 by omega] at e
  exact ⟨⟨i+1,_,by go_num,by omega,H2.out,e,F2.out⟩,by simp [intOf];omega⟩
 obtain rfl:i=4:=by omega
 go_wp2_with fail
 refine (even_rq k0 696 128 _ lc lp pb 0 _ pq lv T _ HQ2.out (by omega) (by omega)).mono ?_;rintro e w2 ⟨rfl,h2,f2⟩
 have H2:=hid h2
 have F2:=hid (FR2.out.trans f2)
 have G1:Hid (Ev (fillS pq 696 128) 8 824):=hid ((E1.out.mo (Mo.fill pq 696 128)).more (Ev.fill pq 696 128))
 generalize fillS pq 696 128=p2 at H2 G1
 clear h2 f2 HQ2 E1 FR2
 go_wp2_with fail
 refine (even_rq k0 824 16 _ lc lp pb 0 _ p2 lv T _ H2.out (by omega) (by omega)).mono ?_;rintro e w3 ⟨rfl,h3,f3⟩
 have H3:=hid h3
 have F3:=hid (F2.out.trans f3)
 have G3:Hid (Ev (fillS p2 824 16) 8 840):=hid ((G1.out.mo (Mo.fill p2 824 16)).more (Ev.fill p2 824 16))
 generalize fillS p2 824 16=p3 at H3 G3
 clear h3 f3 H2 F2 G1
 go_wp2_with fail
 refine (lreset_r k0 840 lc lp pb 0 _ p3 lv T _ H3.out (.inl rfl)).mono ?_;rintro e w4 ⟨rfl,⟨p4,h4,m4,e4⟩,f4⟩
 have H4:=hid h4
 have F4:=hid (F3.out.trans f4)
 have G4:Hid (Ev p4 8 1354):=hid ((G3.out.mo m4).more e4)
 clear h4 f4 m4 e4 H3 F3 G3
 go_wp2_with fail
 refine (lreset_r k0 1354 lc lp pb 0 _ p4 lv T _ H4.out (.inr rfl)).mono ?_;rintro e w5 ⟨rfl,⟨p5,h5,m5,e5⟩,f5⟩
 have F5:=hid (F4.out.trans f5)
 have G5:Hid (Ev p5 8 1868):=hid ((G4.out.mo m5).more e5)
 have hq5:Pts w5 k0 (qcells lc lp pb 0 (fun _=>0) (fun _=>1024) lv) T:=by
  have e:qcells lc lp pb 0 (fun _=>0) p5 lv=qcells lc lp pb 0 (fun _=>0) (fun _=>1024) lv:=by
   refine qcells_eq (qcells_size _ _ _ _ _ _ _) fun j hj=>?_
   rw [qcells_get _ _ _ _ _ _ _ hj]
   unfold qcell
   by_cases h8:8≤j∧j<1868
   ·rw [G5.out j h8.1 h8.2]
   by_cases h9:j<8
   ·simp only [if_pos h9]
   have:¬ j<1868:=by omega
   simp only [if_neg this]
  rw [← e];exact h5
 have H5:=hid hq5
 have c0:w5.cell? ⟨k0,0,none⟩=some (.int .i64 lc):=(hq5.cell 0).trans (qcells_get lc lp pb 0 _ _ lv (i:=0) (by omega))
 have c1:w5.cell? ⟨k0,1,none⟩=some (.int .i64 lp):=(hq5.cell 1).trans (qcells_get lc lp pb 0 _ _ lv (i:=1) (by omega))
 have c9:w5.cell? ⟨k0,1868,none⟩=some lv:=(hq5.cell 1868).trans (qcells_get lc lp pb 0 _ _ lv (i:=1868) (by omega))
 have f9:=hq5.frozen 1868
 clear h5 f5 m5 e5 H4 F4 G4 hq5
 obtain ⟨A9,n9,c9v,rfl⟩:=hlv
 obtain ⟨E,hE⟩:∃ E,lc+lp=E:=⟨_,rfl⟩
 have hEi:(lc:Int)+(lp:Int)=(E:Int):=by omega
 have hPle:2 ^ E≤2 ^ 4:=Nat.pow_le_pow_right (by omega) (by omega)
 obtain ⟨P,hP⟩:∃ P,2 ^ E=P:=⟨_,rfl⟩
 have hPi:(2:Int) ^ E=(P:Int):=by rw [← hP];simp
 rw [hP] at hPle
 obtain ⟨L,hL⟩:∃ L,768*P=L:=⟨_,rfl⟩
 have hLi:(768:Int)*(P:Int)=(L:Int):=by omega
 have hLb:L≤12288:=by omega
 have hEu:IntKind.u64.wrap (E:Int)=(E:Int):=Go.IntWalk.u64_in _ (by omega)
 have hEw:IntKind.i64.wrap (E:Int)=(E:Int):=Go.IntWalk.i64_in _ (by omega)
 have hE64:min E 64=E:=by omega
 have hLw:IntKind.i64.wrap (L:Int)=(L:Int):=Go.IntWalk.i64_in _ (by omega)
 have hmk:=make_lits L (by omega)
 have HLL:Hid (∀ lb,(⟨k0,lb,lc,lp,pb⟩:LK).L=L):=hid (fun lb=>by unfold LK.L;simp only;rw [hE,hP,hL])
 clear hE hP hL
 have hpa:=H5.out.alloc (.cells (madeCells #[.int .u16 0] L) 117)
 have c9a:(w5.alloc (.cells (madeCells #[.int .u16 0] L) 117)).cell? ⟨k0,1868,none⟩=some (.slice A9 n9 c9v):=(hpa.cell 1868).trans (qcells_get lc lp pb 0 _ _ _ (i:=1868) (by omega))
 have f9a:=hpa.frozen 1868
 have HPA:=hid hpa
 have hk0:=H5.out.lt
 clear hpa
 go_wp2
 go_region
 all_goals
  obtain ⟨lb,hlb⟩:∃ lb,w5.heap.size=lb:=⟨_,rfl⟩
  have h6:=((H5.out.set 1868 (.slice (some ⟨lb,0,none⟩) L L)).alloc (.cells (madeCells #[.int .u16 0] L) 117)).drew
  rw [qcells_lv] at h6
  have h7:=(Pts.new (w5.setCell ⟨k0,1868,none⟩ (.slice (some ⟨lb,0,none⟩) L L)) (madeCells #[.int .u16 0] L) 117).drew
  have hsz:(w5.setCell ⟨k0,1868,none⟩ (.slice (some ⟨lb,0,none⟩) L L)).heap.size=lb:=by show (w5.heap.modify _ _).size=_;simp only [Array.size_modify];exact hlb
  rw [hsz] at h7
  have f6:=((F5.out.setCell (p:=⟨k0,1868,none⟩) rfl (.slice (some ⟨lb,0,none⟩) L L)).alloc (.cells (madeCells #[.int .u16 0] L) 117)).drew
  simp only [hlb]
  generalize ((w5.setCell ⟨k0,1868,none⟩ (.slice (some ⟨lb,0,none⟩) L L)).alloc (.cells (madeCells #[.int .u16 0] L) 117)).drew=w6 at *
  have d9:w6.cell? ⟨k0,1868,none⟩=some (.slice (some ⟨lb,0,none⟩) L L):=(h6.cell 1868).trans (qcells_get lc lp pb 0 _ _ _ (i:=1868) (by omega))
  have H6:=hid h6
  have H7:=hid h7
  have F6:=hid f6
  have hlb0:w.heap.size≤lb:=by rw [← hlb];exact F5.out.size
  clear h6 h7 f6 HPA hsz hmk c9 f9 c9a f9a c0 c1
  go_wp2_with fail
  refine (even_r lb 0 L _ _ _ _ H7.out (by rw [size_madeCells];omega) (by omega)).mono ?_;rintro e w7 ⟨rfl,⟨C',h8,he8⟩,f8⟩
  have hC:C'=lcells ⟨k0,lb,lc,lp,pb⟩ (fun _=>1024):=by
   have hcs:C'.size=L:=by rw [he8.1,size_madeCells]
   apply Array.ext
   ·rw [hcs];simp only [lcells,Array.size_ofFn];exact (HLL.out lb).symm
   intro j h1 h2
   have hj:j<L:=by rw [hcs] at h1;exact h1
   have e1:=he8.2 j
   rw [if_pos ⟨Nat.zero_le _,by omega⟩,Array.getElem?_eq_getElem h1] at e1
   have e2:=lcells_get ⟨k0,lb,lc,lp,pb⟩ (fun _=>1024) (j:=j) (by rw [HLL.out lb];exact hj)
   rw [Array.getElem?_eq_getElem h2] at e2
   exact (Option.some.inj e1).trans (Option.some.inj e2).symm
  subst hC
  have H8:=hid h8
  have H9:=hid (H6.out.frm f8 (by intro e;omega))
  have F8:=hid (F6.out.transW f8 (fun q hq hqw=>by omega))
  clear h8 he8 f8
  go_wp2
  go_end0
  refine ⟨rfl,lb,hlb0,?_,H8.out,F8.out⟩
  have e:=qcells_m ⟨k0,lb,lc,lp,pb⟩ 0 (fun _=>0) (fun _=>1024)
  rw [HLL.out lb] at e
  rw [← e]
  exact H9.out
open Go.RowKit Rng Lz
def DCr (db rb:Nat) (Rw:Obj) (w:World) (d:Dec):Prop:=DecAt w 268 db rb d∧w.heap[rb]?=some Rw
theorem DCr.pts {db rb:Nat} {Rw:Obj} {w:World} {d:Dec} (h:DCr db rb Rw w d):∃ c,Pts w db c 268:=by
 obtain ⟨⟨⟨A,c,hp,_⟩,_,_⟩,_⟩:=h
 exact ⟨_,hp⟩
theorem heap_lt {w:World} {q:Nat} {X:Obj} (h:w.heap[q]?=some X):q<w.heap.size:=(Array.getElem?_eq_some_iff.1 h).1
theorem DCr.keep (db rb:Nat) (Rw:Obj):KeepOK (DCr db rb Rw) (DO db rb):=by
 intro N w w' s h hf hN
 exact ⟨DecAt.frm h.1 hf (hN db (.inl rfl)) (hN rb (.inr rfl)),(hf.block rb (heap_lt h.2) (hN rb (.inr rfl))).trans h.2⟩
section
variable {db rb : Nat} {Rw : Obj} {T : TypeId} {w : World} {k : LK} {st : Nat} {rep : Nat → Nat} {s : CP Dec}
theorem dz_bit (h:LzAt (DCr db rb Rw) (DO db rb) T w k st rep s) (i tb tq:Nat) (hp:Place k i) (he:plA k i=(tb,tq)) :
 Calls Tryz.prog 160 #[.pointer (some ⟨db,0,none⟩),.pointer (some ⟨tb,tq,none⟩)] w fun e w'=>e=.returned (.int .i64 ((bitAt outC i 0 s).1:Nat))∧LzAt (DCr db rb Rw) (DO db rb) T w' k st rep (bitAt outC i 0 s).2∧Frm (Wr (DO db rb) k) w w':=by
 have hc:=h.cell hp he
 obtain ⟨hd,hR⟩:=h.c
 refine (dbit_r db rb tb tq (s.pr i) s.d w hd hc.1 hc.2.1 (fun e=>hc.2.2.1 (.inl e)) (h.fit i)).mono ?_
 rintro e w' ⟨rfl,h1,h2⟩
 have hx:(w.setCell ⟨tb,tq,none⟩ (.int .u16 (learn (fair (s.pr i)) (s.d.bit (fair (s.pr i))).1))).heap[rb]?=some Rw:=by
  rw [Below.heap_setCell _ _ _ _ (fun e=>hc.2.2.1 (.inr e.symm))]
  exact hR
 have hl:=h.learnt (d:=(s.d.bit (fair (s.pr i))).2) hp he (Nat.lt_of_le_of_lt (learn_bd (fair_bd (s.pr i)).2 _) (by omega)) ⟨h1,(h2.block rb (heap_lt hx) hd.n).trans hx⟩ (h2.mono fun q _ hq=>.inl hq)
 refine ⟨?_,hl.1,hl.2⟩
 show Ending.returned (.int .i64 (bitV _))=Ending.returned (.int .i64 ((b2n _:Nat):Int))
 unfold bitV b2n outC
 simp only
 split <;> rfl
theorem dz_dir (h:LzAt (DCr db rb Rw) (DO db rb) T w k st rep s) (z:Int) (n:Nat) (hz:z=(n:Int)) (hn:n≤32) (v:Nat) (d':Dec) (hv:outC.dir s.d 0 n=(v,d')) :
 Calls Tryz.prog 177 #[.pointer (some ⟨db,0,none⟩),.int .i64 z] w fun e w'=>e=.returned (.int .u32 (v:Int))∧LzAt (DCr db rb Rw) (DO db rb) T w' k st rep ⟨d',s.pr⟩∧Frm (Wr (DO db rb) k) w w':=by
 subst hz
 obtain ⟨hd,hR⟩:=h.c
 refine (ddirect_r db rb (n:Int) s.d w hd).mono ?_
 rintro e w' ⟨rfl,h1,h2⟩
 have hcn:count (n:Int)=n:=by unfold count;omega
 have hv2:s.d.direct n 0=(v,d'):=hv
 rw [hcn,hv2] at h1
 have hf:Frm (DO db rb) w w':=h2.mono fun q _ hq=>.inl hq
 exact ⟨by rw [hcn,hv2],⟨⟨h1,(h2.block rb (heap_lt hR) hd.n).trans hR⟩,h.m.frm hf h.ne.1,h.l.frm hf h.ne.2.1,h.fit,h.ne⟩,hf.mono fun q _ hq=>.inl hq⟩
end
set_option maxRecDepth 100000 in
set_option maxHeartbeats 1000000 in
theorem dtree_p (db rb:Nat) (Rw:Obj) (T:TypeId) (k:LK) (st:Nat) (rep:Nat→Nat) (s:CP Dec) (tb tq base n len cap:Nat) (w:World) (h:LzAt (DCr db rb Rw) (DO db rb) T w k st rep s) (hn:n≤8) (hlen:2 ^ n≤len) (hlc:len≤cap)
 (hpl:∀ j,1≤j→j<2 ^ n→Place k (base+j)∧plA k (base+j)=(tb,tq+j)) :
 Calls Tryz.prog 175 #[.pointer (some ⟨db,0,none⟩),.slice (some ⟨tb,tq,none⟩) len cap,.int .i64 n] w fun e w'=>e=.returned (.int .i64 ((treeAt outC base n 0 s).1:Nat)) ∧
  LzAt (DCr db rb Rw) (DO db rb) T w' k st rep (treeAt outC base n 0 s).2∧Frm (Wr (DO db rb) k) w w':=by
 obtain ⟨R,hR⟩:∃ R,treeGo outC base 0 n 1 s=R:=⟨_,rfl⟩
 unfold treeAt
 rw [hR]
 have HZ:=hid h
 have HR:=hid hR
 have HPL:=hid hpl
 clear h hR hpl
 go_enter Tryz.func175,Tryz.ntmps175
 go_wp2
 go_loopw [7,8] (fun mv iv wr=>∃ (r m i:Nat) (s':CP Dec),mv=.int .i64 (m:Int)∧iv=.int .i64 (i:Int)∧i+r=n∧2 ^ i≤m∧m<2 ^ (i+1)∧treeGo outC base 0 r m s'=R∧LzAt (DCr db rb Rw) (DO db rb) T wr k st rep s'∧Frm (Wr (DO db rb) k) w wr) (fun _ iv _=>n-(intOf iv).toNat)
 case atStart=>exact ⟨n,1,0,s,rfl,rfl,by omega,by simp,by simp,HR.out,HZ.out,Frm.refl _ _⟩
 case round =>
 obtain ⟨r,m,i,s',rfl,rfl,hi,hm1,hm2,hgo,hat,hfr⟩:=hrel
 have GO:=hid hgo
 have AT:=hid hat
 have FR:=hid hfr
 clear hgo hat hfr
 cases r with
 | zero =>
  obtain rfl:i=n:=by omega
  have hn256:2 ^ i≤2 ^ 8:=Nat.pow_le_pow_right (by omega) hn
  rw [Nat.pow_succ] at hm2
  obtain ⟨N2,hN2⟩:∃ N2:Nat,2 ^ i=N2:=⟨_,rfl⟩
  have hN3:(2:Int) ^ i=(N2:Int):=by rw [← hN2];simp
  rw [hN2] at hm1 hm2 hn256
  have GO2:(m,s')=R:=GO.out
  clear hi
  go_wp2
  go_ret
  rw [hN2,← GO2]
  refine ⟨ret_int' ?_,AT.out,FR.out⟩
  show (m:Int)-(N2:Int)=((m-N2:Nat):Int)
  omega
 | succ q =>
  have hin:i<n:=by omega
  have hpow:m<2 ^ n:=Nat.lt_of_lt_of_le hm2 (Nat.pow_le_pow_right (by omega) (by omega))
  have hml:m<len:=by omega
  have hm256:2 ^ n≤2 ^ 8:=Nat.pow_le_pow_right (by omega) hn
  have hmb:m<256:=by omega
  have hpos:1≤m:=Nat.le_trans (Nat.one_le_two_pow) hm1
  have HP:=hid (HPL.out m hpos hpow)
  have HM1:=hid hm1
  have HM2:=hid hm2
  have hbl:=bitAt_le outC (base+m) 0 s'
  obtain ⟨bb,hbb⟩:∃ bb,(bitAt outC (base+m) 0 s').1=bb:=⟨_,rfl⟩
  rw [hbb] at hbl
  have HBB:=hid hbb
  clear hm1 hm2 hpow hm256 hlen hbb
  go_wp2_with fail
  refine (dz_bit AT.out (base+m) tb (tq+m) HP.out.1 HP.out.2).mono ?_;rintro e w2 ⟨rfl,h2,f2⟩
  rw [HBB.out]
  have H2:=hid h2
  have F2:=hid (FR.out.trans f2)
  clear h2 f2
  go_wp2
  refine ⟨⟨q,2*m+bb,i+1,_,by go_num,by go_num,by omega,?_,?_,?_,H2.out,F2.out⟩,by simp [intOf];omega⟩
  ·have:=HM1.out
   rw [Nat.pow_succ];omega
  ·have:=HM2.out
   rw [Nat.pow_succ];omega
  rw [← GO.out]
  show _=treeGo outC base 0 q (2*m+(bitAt outC (base+m) (0 / 2 ^ q % 2) s').1) (bitAt outC (base+m) (0 / 2 ^ q % 2) s').2
  rw [Nat.zero_div,Nat.zero_mod,HBB.out]
theorem or_hi_u32 {o b c C2:Nat} (hC:2 ^ c=C2) (ho:o<C2) (hc:C2≤256) (hb:b≤1):bits .or .u32 (o:Int) ((b:Int)*(C2:Int) % 4294967296)=((o+b*C2:Nat):Int):=by
 have hbc:b*C2≤256:=by
  have h:b=0∨b=1:=by omega
  rcases h with rfl | rfl <;> omega
 have e:o ||| b*C2=o+b*C2:=by
  rw [Nat.or_comm]
  have h3:=Nat.shiftLeft_add_eq_or_of_lt (a:=b) (b:=o) (i:=c) (by rw [hC];exact ho)
  rw [Nat.shiftLeft_eq,hC] at h3
  rw [← h3,Nat.add_comm]
 have e2:(b:Int)*(C2:Int)=((b*C2:Nat):Int):=by simp
 have e3:((b*C2:Nat):Int) % 4294967296=((b*C2:Nat):Int):=by omega
 rw [e2,e3,Num.or32 (by show o<4294967296;omega) (by show b*C2<4294967296;omega),e]
set_option maxRecDepth 100000 in
set_option maxHeartbeats 1000000 in
theorem dback_p (db rb:Nat) (Rw:Obj) (T:TypeId) (k:LK) (st:Nat) (rep:Nat→Nat) (s:CP Dec) (tb tq f base n len cap:Nat) (w:World) (h:LzAt (DCr db rb Rw) (DO db rb) T w k st rep s) (hn:n≤8) (hlen:f+2 ^ n≤len) (hlc:len≤cap) (hl2:len≤4096)
 (hpl:∀ j,1≤j→j<2 ^ n→Place k (base+j)∧plA k (base+j)=(tb,tq+(f+j))) :
 Calls Tryz.prog 176 #[.pointer (some ⟨db,0,none⟩),.slice (some ⟨tb,tq,none⟩) len cap,.int .i64 f,.int .i64 n] w fun e w'=>e=.returned (.int .u32 ((backAt outC base n 0 s).1:Nat)) ∧
  LzAt (DCr db rb Rw) (DO db rb) T w' k st rep (backAt outC base n 0 s).2∧Frm (Wr (DO db rb) k) w w':=by
 obtain ⟨R,hR⟩:∃ R,backGo outC base 0 n n 1 0 s=R:=⟨_,rfl⟩
 unfold backAt
 rw [hR]
 have HZ:=hid h
 have HR:=hid hR
 have HPL:=hid hpl
 clear h hR hpl
 go_enter Tryz.func176,Tryz.ntmps176
 go_wp2
 go_loopw [9,10,11] (fun mv ov cv wr=>∃ (r m o c:Nat) (s':CP Dec),ov=.int .u32 (o:Int)∧mv=.int .i64 (m:Int)∧cv=.int .i64 (c:Int)∧c+r=n∧2 ^ c≤m∧m<2 ^ (c+1)∧o<2 ^ c∧backGo outC base 0 n r m o s'=R∧LzAt (DCr db rb Rw) (DO db rb) T wr k st rep s'∧Frm (Wr (DO db rb) k) w wr) (fun _ _ cv _=>n-(intOf cv).toNat)
 case atStart=>exact ⟨n,1,0,0,s,rfl,rfl,rfl,by omega,by simp,by simp,by simp,HR.out,HZ.out,Frm.refl _ _⟩
 case round =>
 obtain ⟨r,m,o,c,s',rfl,rfl,rfl,hcr,hm1,hm2,ho,hgo,hat,hfr⟩:=hrel
 have GO:=hid hgo
 have AT:=hid hat
 have FR:=hid hfr
 clear hgo hat hfr
 cases r with
 | zero =>
  obtain rfl:c=n:=by omega
  have GO2:(o,s')=R:=GO.out
  clear hcr hm1 hm2 ho
  go_wp2
  go_ret
  rw [← GO2]
  exact ⟨rfl,AT.out,FR.out⟩
 | succ q =>
  have hcn:c<n:=by omega
  have hpow:m<2 ^ n:=Nat.lt_of_lt_of_le hm2 (Nat.pow_le_pow_right (by omega) (by omega))
  have hml:f+m<len:=by omega
  have hm256:2 ^ n≤2 ^ 8:=Nat.pow_le_pow_right (by omega) hn
  have hmb:m<256:=by omega
  have hpos:1≤m:=Nat.le_trans (Nat.one_le_two_pow) hm1
  have hob:o<256:=by have:2 ^ c≤2 ^ n:=Nat.pow_le_pow_right (by omega) (by omega);omega
  have HP:=hid (HPL.out m hpos hpow)
  have HM1:=hid hm1
  have HM2:=hid hm2
  have HO:=hid ho
  have hc2:2 ^ c≤2 ^ 8:=Nat.pow_le_pow_right (by omega) (by omega)
  obtain ⟨C2,hC2⟩:∃ C2:Nat,2 ^ c=C2:=⟨_,rfl⟩
  have hC3:(2:Int) ^ c=(C2:Int):=by rw [← hC2];simp
  have HC2:=hid hC2
  rw [hC2] at hc2
  have hbl:=bitAt_le outC (base+m) 0 s'
  obtain ⟨bb,hbb⟩:∃ bb,(bitAt outC (base+m) 0 s').1=bb:=⟨_,rfl⟩
  rw [hbb] at hbl
  have HBB:=hid hbb
  have hfm:(f:Int)+(m:Int)=((f+m:Nat):Int):=by simp
  clear hm1 hm2 hpow hm256 hlen ho hbb hC2 hfm
  go_wp2_with fail
  refine (dz_bit AT.out (base+m) tb (tq+(f+m)) HP.out.1 HP.out.2).mono ?_;rintro e w2 ⟨rfl,h2,f2⟩
  rw [HBB.out]
  have H2:=hid h2
  have F2:=hid (FR.out.trans f2)
  clear h2 f2
  go_wp2
  have ho9:=HO.out
  rw [HC2.out] at ho9
  have hv:=or_hi_u32 HC2.out ho9 hc2 hbl
  refine ⟨⟨q,2*m+bb,o+bb*C2,c+1,_,by rw [← hv],by go_num,by go_num,by omega,?_,?_,?_,?_,H2.out,F2.out⟩,by simp [intOf];omega⟩
  ·have:=HM1.out
   rw [Nat.pow_succ];omega
  ·have:=HM2.out
   rw [Nat.pow_succ];omega
  ·have h1:bb*C2≤C2:=by
    have h:bb=0∨bb=1:=by omega
    rcases h with rfl | rfl <;> omega
   rw [Nat.pow_succ,HC2.out];omega
  rw [← GO.out]
  have e:n-(q+1)=c:=by omega
  show _=backGo outC base 0 n q (2*m+(bitAt outC (base+m) (0 / 2 ^ (n-(q+1)) % 2) s').1) (o+(bitAt outC (base+m) (0 / 2 ^ (n-(q+1)) % 2) s').1*2 ^ (n-(q+1))) (bitAt outC (base+m) (0 / 2 ^ (n-(q+1)) % 2) s').2
  rw [Nat.zero_div,Nat.zero_mod,HBB.out,e,HC2.out]
end Go.Proofs.YtffehfpbdcokbaaGreat
