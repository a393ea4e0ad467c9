import Derived.Deep.RegionHeld3
import Derived.Test.YtffehfpbdcokbaaGreatBu36
import Derived.Test.YtffehfpbdcokbaaGreatBu37
set_option linter.unusedVariables false
set_option linter.unusedSimpArgs false
namespace Go.Proofs.YtffehfpbdcokbaaGreat
open Lib (hid)
open Go.RowKit Rng Win Lz Box
set_option maxRecDepth 100000 in
set_option maxHeartbeats 8000000 in
theorem xblock_p (rb fb bud un fput B0:Nat) (lb:Array Value) (kind:Int) (lv:Value) (recs:List (Nat×Nat)) (J:(Nat→Prop)→List UInt8→World→Prop) (M:Nat→Prop) (out bs:List UInt8) (A:Option Addr) (n c used b0:Nat) (w:World)
 (hp:PutOk Tryz.prog fput lb B0 16777216 J) (hr:RxAt w rb fb bud (.func (.func fput) #[] lb) (.func (.func 24) #[] #[]) kind out.length lv) (hs:SrcAt w fb A n c used) (hn:n=bs.length) (hb:BRow w B0 A bs) (hB0:B0≤w.heap.size) (hBr:B0≤rb) (hBf:B0≤fb)
 (hc:n≤c) (hcm:c≤maxLen) (hu:used+n=un) (hub:un≤4611686018427387904) (hl:n≤1000000000) (h1:1≤n) (hb0:b0=(bs.getD 0 0).toNat) (ho:OwnPr w 192 B0 lv recs) (hrl:recs.length≤100000000)
 (hj:J M out w) (hM:∀ q,M q→q≠rb∧q≠fb∧lv.ownBlock≠some q) (hol:out.length≤16777216) (hbud:bud≤16777216) :
 Calls Tryz.prog 48 #[.pointer (some ⟨rb,0,none⟩),.int .u8 (b0:Int)] w (BlkXEnd rb fb un B0 bud (.func (.func fput) #[] lb) (.func (.func 24) #[] #[]) kind J M lv recs out (xBlock bud kind out.length bs) w):=by
 obtain ⟨PUT,hPUT⟩:∃ P,Value.func (.func fput) #[] lb=P:=⟨_,rfl⟩
 rw [hPUT] at hr ⊢
 have HPUT:=hid hPUT
 obtain ⟨E,hE⟩:∃ E,xBlock bud kind out.length bs=E:=⟨_,rfl⟩
 rw [hE]
 obtain ⟨W0,hW0⟩:∃ W,w.alloc (.cells #[.pointer (some ⟨rb,0,none⟩)] 89)=W:=⟨_,rfl⟩
 have hb00:Below w.heap.size w W0:=by rw [← hW0];exact (Below.refl _ w).alloc (Nat.le_refl _) _
 have hs00:W0.heap.size=w.heap.size+1:=by rw [← hW0];simp only [World.size_alloc]
 have hX0:XB rb fb w.heap.size bud B0 PUT (.func (.func 24) #[] #[]) kind lv recs J M out w A n c used bs W0:=by
  refine ⟨by rw [← hW0];exact Pts.new _ _ _,Pts.below hr hb00 (Pts.lt hr),Pts.below hs hb00 (Pts.lt hs),hb.below (hb00.mono hB0),ho.frm (S:=fun _=>False) (Frm.of_below hb00) (fun _ _ h=>h),hp.keep M _ w W0 hj (Frm.of_below hb00),Frm.of_below hb00⟩
 have HP:=hid hp
 have HX0:=hid hX0
 have HE:=hid hE
 have HM:=hid hM
 have HLT:Hid ((∀ q,M q→q<w.heap.size)∧rb<w.heap.size∧fb<w.heap.size∧∀ q,lv.ownBlock=some q→q<w.heap.size):=hid ⟨hp.lt hj,Pts.lt hr,Pts.lt hs,fun q hq=>(ho.lt hq).2⟩
 have HH:Hid ((n=bs.length∧n≤c∧c≤maxLen∧used+n=un∧un≤4611686018427387904∧n≤1000000000∧1≤n)∧(B0≤w.heap.size∧B0≤rb∧B0≤fb)∧recs.length≤100000000∧out.length≤16777216∧bud≤16777216∧b0=(bs.getD 0 0).toNat):=hid ⟨⟨hn,hc,hcm,hu,hub,hl,h1⟩,⟨hB0,hBr,hBf⟩,hrl,hol,hbud,hb0⟩
 obtain ⟨cx,c0,c1,c3,c4,c5,c6⟩:=hX0.cells
 have HU0:=hid (used_p fb A n c used W0 hX0.s)
 obtain ⟨hl0,hhl0⟩:∃ h,(b0+1)*4=h:=⟨_,rfl⟩
 have hb256:b0<256:=by rw [hb0];exact (bs.getD 0 0).toNat_lt
 have i1:((b0:Int)+1)*4=(hl0:Int):=by omega
 have hhd:hdLen bs=hl0:=by unfold hdLen;rw [← hb0,hhl0]
 have HHD:=hid hhd
 have hhl4:4≤hl0∧hl0≤1024:=by omega
 clear hp hr hs hn hb hB0 hBr hBf hc hcm hu hub hl h1 hb0 ho hrl hj hM hol hbud hE hb00 hX0 hhl0 hhd hPUT
 by_cases hsh:n<hl0
 ·have HEE:Hid (E=.err 10 []):=hid (by rw [← HE.out];unfold xBlock;rw [HHD.out,if_pos (by have:=HH.out.1.1;omega)])
  have HT:=hid (rtake_no rb fb bud PUT _ kind out.length lv A n c used hl0 W0 HX0.out.r HX0.out.s hsh)
  clear hsh
  go_enter_defers Tryz.func48,Tryz.ntmps48
  go_wp2_with fail
  refine HU0.out.mono ?_;rintro e w1 ⟨rfl,rfl⟩
  go_wp2_with fail
  refine HT.out.mono ?_;rintro e w1 ⟨rfl,rfl⟩
  go_wp2
  refine ⟨.int .i64 10,by simp [results,Tryz.results48,go_sem],?_⟩
  exact xblock_err HEE.out (by decide) HX0.out.f HX0.out.j
 have HT:=hid (rtake_p rb fb bud PUT _ kind out.length lv A n c used hl0 W0 HX0.out.r HX0.out.s HH.out.1.2.1 (by omega) (by have:=HH.out.1.2.2.2.1;have:=HH.out.1.2.2.2.2.1;omega))
 have hln:(bs.take hl0).length=hl0:=by rw [List.length_take];have:=HH.out.1.1;omega
 have hld:(bs.drop hl0).length=n-hl0:=by rw [List.length_drop];have:=HH.out.1.1;omega
 have hEE:xBody bud kind out.length (blockOf (bs.take hl0)) hl0 (bs.drop hl0)=E:=by
  rw [← HE.out]
  unfold xBlock
  rw [HHD.out,if_neg (by have:=HH.out.1.1;omega)]
 obtain ⟨hd,hhd⟩:∃ hd,bs.take hl0=hd:=⟨_,rfl⟩
 obtain ⟨sr,hsr⟩:∃ sr,bs.drop hl0=sr:=⟨_,rfl⟩
 obtain ⟨win,n',pk,wl,er,hR⟩:=blockOf_in (bs.take hl0)
 rw [hhd] at hR hln hEE
 rw [hsr] at hld hEE
 rw [hR] at hEE
 have hbd:sr.length+hl0=bs.length:=by rw [hld];have:=HH.out.1.1;omega
 have HHS:=hid (And.intro hhd (And.intro hsr (And.intro hln (And.intro hld hbd))))
 have HEE:=hid hEE
 have HRR:=hid hR
 have HSH:=hid hsh
 clear hhd hsr hln hld hEE hR hbd hsh HE
 go_enter_defers Tryz.func48,Tryz.ntmps48
 go_wp2_with fail
 refine HU0.out.mono ?_;rintro e w1 ⟨rfl,rfl⟩
 go_wp2_with fail
 refine HT.out.mono ?_;rintro e w1 ⟨rfl,hs1,hf1⟩
 have hr1:BRow w1 B0 A bs:=HX0.out.b.below (hf1.below (by have:=HH.out.2.1.1;omega) (fun q hq=>by have:=HH.out.2.1.2.2;omega))
 have hrd:BRow w1 B0 (takeA A c hl0) sr:=by
  have h:=hr1.drop (k:=hl0) (cap:=c) (by have:=HH.out.1.1;have:=HH.out.1.2.1;omega)
  rw [HHS.out.2.1] at h
  exact h
 have hrt:BRow w1 B0 A hd:=by rw [← HHS.out.1];exact hr1.take hl0
 have hX1:XB rb fb w.heap.size bud B0 PUT (.func (.func 24) #[] #[]) kind lv recs J M out w (takeA A c hl0) (n-hl0) (c-hl0) (used+hl0) sr w1:=HX0.out.takes HP.out (fun h=>(HM.out _ h).2.1 rfl) hs1 hf1 hrd
 have hBK:=block_p A hd hl0 hl0 w1 HHS.out.2.2.1.symm (Nat.le_refl _) (by have:=HH.out.1.2.1;have:=HH.out.1.2.2.1;have:=HSH.out;omega) (hrt.more (by have:=hX1.f.size;have:=HH.out.2.1.1;omega))
 rw [HRR.out] at hBK
 obtain ⟨A1,hA1⟩:∃ A1,takeA A c hl0=A1:=⟨_,rfl⟩
 obtain ⟨n1,hn1⟩:∃ n1,n-hl0=n1:=⟨_,rfl⟩
 obtain ⟨k1,hk1⟩:∃ k1,c-hl0=k1:=⟨_,rfl⟩
 obtain ⟨u1,hu1⟩:∃ u1,used+hl0=u1:=⟨_,rfl⟩
 rw [hA1,hn1,hk1,hu1] at hX1
 have H1:Hid (n1=sr.length∧n1≤k1∧k1≤maxLen∧u1+n1=un∧used+hl0=u1):=hid (by
  have h1:=HH.out.1.2.1;have h2:=HH.out.1.2.2.1;have h3:=HH.out.1.2.2.2.1;have h4:=HSH.out;have h5:=HHS.out.2.2.2.1
  exact ⟨by omega,by omega,by omega,by omega,hu1⟩)
 have HX1:=hid hX1
 have HBK:=hid hBK
 clear hs1 hf1 hr1 hrd hrt hX1 hBK hA1 hn1 hk1 hu1 cx c0 c1 c3 c4 c5 c6 HU0 HT
 go_wp2_with fail
 refine HBK.out.mono ?_;rintro e w2 ⟨rfl,hb2⟩
 unfold blkV
 simp only
 have hX2:=HX1.out.still HP.out hb2 HH.out.2.1.1
 obtain ⟨cx,c0,c1,c3,c4,c5,c6⟩:=hX2.cells
 have HX2:=hid hX2
 clear hX2 hb2
 by_cases he:er=0
 ·subst he
  by_cases hw:bud<win
  ·have qw:decide (bud<win)=true:=decide_eq_true hw
   have HEF:Hid (E=.err 40 []):=hid (by
    rw [← HEE.out]
    unfold xBody
    rw [if_neg (by simp),if_pos (by simp only;omega)])
   clear hw
   go_wp2
   refine ⟨.int .i64 40,by simp [results,Tryz.results48,go_sem],?_⟩
   exact xblock_err HEF.out (by decide) HX2.out.f HX2.out.j
  have qw:decide (bud<win)=false:=decide_eq_false hw
  have HEG:Hid (E=match d2P (max win 4096) (16777216-out.length) sr with | (o,.inl e)=>BlkE.err e o | (o,.inr rest)=>xTail ((win:Int),n',pk,wl,((0:Nat):Int)) kind hl0 (sr.length-rest.length) o rest):=hid (by
   rw [← HEE.out]
   unfold xBody
   rw [if_neg (by simp),if_neg (by simp only;omega)]
   rfl)
  have hwb:win≤16777216:=by have:=HH.out.2.2.2.2.1;omega
  clear hw HEE
  go_wp2_with fail
  refine (hold_p _ w2).mono ?_;rintro e w3 ⟨rfl,rfl⟩
  go_wp2_with fail
  refine (check_p kind w2).mono ?_;rintro e w3 ⟨sb,own,rfl,hu3,ho3,hb3⟩
  have hX3:=HX2.out.still HP.out hb3 HH.out.2.1.1
  obtain ⟨W4,hW4⟩:∃ W,w3.alloc (.cells #[.iface 223 (.pointer (some ⟨sb,0,none⟩))] 187)=W:=⟨_,rfl⟩
  have hb4:Below w3.heap.size w3 W4:=by rw [← hW4];exact (Below.refl _ w3).alloc (Nat.le_refl _) _
  have hs4:W4.heap.size=w3.heap.size+1:=by rw [← hW4];simp only [World.size_alloc]
  have hp4:Pts W4 w3.heap.size #[.iface 223 (.pointer (some ⟨sb,0,none⟩))] 187:=by rw [← hW4];exact Pts.new _ _ _
  have hX4:=hX3.still HP.out hb4 HH.out.2.1.1
  have hu4:SumAt W4 sb own (chkK kind) []:=hu3.frmX (S:=fun _=>False) (Frm.of_below hb4) (fun _ _ h=>h)
  have hO4:∀ q,own q→w.heap.size+1≤q∧q<w3.heap.size:=fun q hq=>⟨by have:=ho3 q hq;have:=HX2.out.x.lt;omega,lt_of_cells (hu3.cellsX q hq)⟩
  obtain ⟨cx4,d0,d1,d3,d4,d5,d6⟩:=hX4.cells
  have HX4:=hid hX4
  have H4:Hid (Pts W4 w3.heap.size #[.iface 223 (.pointer (some ⟨sb,0,none⟩))] 187∧SumAt W4 sb own (chkK kind) []∧(∀ q,own q→w.heap.size+1≤q∧q<w3.heap.size)∧w.heap.size+1≤w3.heap.size):=hid ⟨hp4,hu4,hO4,by have:=hX3.x.lt;omega⟩
  clear hX3 hb3 hu3 ho3 hb4 hX4 hu4 hO4 hp4 cx c0 c1 c3 c4 c5 c6
  go_wp2_with fail
  have HU4:=hid (used_p fb A1 n1 k1 u1 W4 HX4.out.s)
  refine HU4.out.mono ?_;rintro e w5 ⟨rfl,rfl⟩
  obtain ⟨W5,hW5⟩:∃ W,W4.alloc (.cells #[.int .i64 0] 3)=W:=⟨_,rfl⟩
  have hb5:Below W4.heap.size W4 W5:=by rw [← hW5];exact (Below.refl _ W4).alloc (Nat.le_refl _) _
  have hs5:W5.heap.size=W4.heap.size+1:=by rw [← hW5];simp only [World.size_alloc]
  have hp5:Pts W5 W4.heap.size #[.int .i64 0] 3:=by rw [← hW5];exact Pts.new _ _ _
  have hX5:=HX4.out.still HP.out hb5 HH.out.2.1.1
  obtain ⟨cx5,e0,e1,e3,e4,e5,e6⟩:=hX5.cells
  obtain ⟨S,hS⟩:∃ S,max win 4096=S:=⟨_,rfl⟩
  have hS2:1≤S∧S≤16777216:=by omega
  have hSi:max (win:Int) 4096=(S:Int):=by omega
  have f1:=fun w=>Fnd.max2_int (P:=Tryz.prog) #[3,3] 3 _ _ _ hSi w
  obtain ⟨mo,hmo⟩:∃ mo,16777216-out.length=mo:=⟨_,rfl⟩
  have hmo2:out.length+mo=16777216:=by have:=HH.out.2.2.2.1;omega
  have hmi:(16777216:Int)-(out.length:Int)=(mo:Int):=by omega
  have hmw:IntKind.i64.wrap (mo:Int)=(mo:Int):=Go.IntWalk.i64_in _ (by omega)
  rw [hS,hmo] at HEG
  have hJ5:JB W4.heap.size w3.heap.size w.heap.size rb fb bud PUT (.func (.func 24) #[] #[]) kind out.length lv out w.heap.size J (fun q=>q=W4.heap.size∨q=w3.heap.size∨q=w.heap.size∨q=rb∨own q∨M q) [] W5.drew:=by
   have h45:=H4.out.2.2.2
   refine ⟨M,own,sb,⟨hp5,(show Pts W5 _ _ _ from H4.out.1.below hb5 H4.out.1.lt),hX5.x,hX5.r,(H4.out.2.1.frmX (S:=fun _=>False) (Frm.of_below hb5) (fun _ _ h=>h)).frmX ((Frm.refl (fun _=>False) W5).drew) (fun _ _ h=>h),by rw [List.append_nil];exact HP.out.keep M _ W5 _ hX5.j ((Frm.refl (fun q=>¬ M q) W5).drew),fun q hq=>?_,fun q hq=>?_⟩,fun q=>Iff.rfl⟩
   ·have h1:=H4.out.2.2.1 q hq
    have hMw:¬ M q:=fun hm=>by have:=HLT.out.1 q hm;omega
    have:=HLT.out.2.1
    exact ⟨by omega,hMw,by omega,by omega,by omega,by omega⟩
   have h1:=HLT.out.1 q hq
   exact ⟨by omega,by omega,by omega,(HM.out q hq).1⟩
  have HX5:=hid hX5
  have HRun:=run_p fb B0 S mo 91 #[.pointer (some ⟨W4.heap.size,0,none⟩),.pointer (some ⟨w3.heap.size,0,none⟩),.pointer (some ⟨w.heap.size,0,none⟩)] _ _ A1 n1 k1 u1 un sr W5.drew (blk1_ok W4.heap.size w3.heap.size w.heap.size rb fb bud fput B0 w.heap.size 16777216 mo lb _ kind out.length lv out J HP.out (by omega) (by omega) HH.out.2.1.1 HX4.out.f.size (by have:=H4.out.2.2.2;have:=HH.out.2.1.1;omega) HH.out.2.1.1 HH.out.2.1.2.1)
   (by rw [HPUT.out];exact hJ5) (by
     have h1:=HLT.out.2.2.1
     have h2:=H4.out.2.2.2
     rintro (e | e | e | e | e | e)
     ·omega
     ·omega
     ·omega
     ·exact Pts.ne_of HX5.out.s HX5.out.r (by decide) e
     ·have:=H4.out.2.2.1 _ e;omega
     exact (HM.out _ e).2.1 rfl) HH.out.2.1.2.2 HX5.out.s H1.out.1 HX5.out.b (by have:=HX5.out.f.size;have:=HH.out.2.1.1;show B0≤W5.heap.size;omega) H1.out.2.1 H1.out.2.2.1 H1.out.2.2.2.1 HH.out.1.2.2.2.2.1 hS2.1 hS2.2 (by clear hmw;omega)
  obtain ⟨D,hD⟩:∃ D,evGo S mo (sr.length+1) newDS 0 sr=D:=⟨_,rfl⟩
  rw [hD] at HRun
  have hdp:=d2E_d2P S mo sr
  rw [show d2E S mo sr=D from hD] at hdp
  have hok:=evGo_ok S mo (sr.length+1) newDS 0 sr
  rw [hD] at hok
  have hTl:(evOut D.1).length≤mo:=by
   have:=d2P_len S mo sr
   rw [hdp] at this
   exact this
  have HRR2:=hid HRun
  have HW5:=hid hW5
  have HDP:=hid (And.intro hdp (And.intro hok hTl))
  have H5:Hid (out.length+mo=16777216∧W5.heap.size=W4.heap.size+1∧W4.heap.size=w3.heap.size+1):=hid ⟨hmo2,hs5,hs4⟩
  clear HRun hdp hok hTl hD hJ5 hX5 hb5 hp5 hS hmo hmo2 HRR HU4 hS2 hs4 hs5 hW5 d0 d1 d3 d4 d5 d6 cx4 i1
  go_wp2
  rw [HW5.out]
  go_still_tail 12,(by kernel_rfl)
  change wpList _ _ _ _ _ W5.drew
  go_wp2_with fail
  refine HRR2.out.mono ?_;rintro e w6 ⟨rfl,⟨M6,hJ6,hM6⟩,hf6,hsrc6⟩
  obtain ⟨Mi,own6,sb6,hJX,hMiff⟩:=hJ6
  obtain ⟨T,hT⟩:∃ T,evOut D.1=T:=⟨_,rfl⟩
  obtain ⟨z,hz⟩:∃ z,evErr D.1=z:=⟨_,rfl⟩
  rw [hT] at hJX HDP
  rw [hz] at HDP
  rw [hz]
  have hf56:Frm (fun q=>M q∨q=fb∨q=rb) w w6:=HX5.out.f.mono (fun q _ e=>.inr (.inl e)) |>.drew.transW hf6 (fun q hq hlt=>by
   have h2:=H4.out.2.2.2
   rcases hq with (e | e | e | e | e | e) | e
   ·have:=H5.out.2;omega
   ·omega
   ·omega
   ·exact .inr (.inr e)
   ·have:=H4.out.2.2.1 _ e;omega
   ·exact .inl e
   exact .inr (.inl e))
  have ho6:OwnPr w6 192 B0 lv recs:=by
   refine OwnPr.frm (S:=_) (w:=W5.drew) HX5.out.o hf6 (fun q hq hn=>?_)
   have h1:=HLT.out.2.2.2 q hq
   have h2:=H4.out.2.2.2
   have hty:∀ {c:Array Value} {T':TypeId},Pts W5 q c T'→(192:Nat)=T':=fun {c T'} hpp=>by
    rcases HX5.out.o.2 with ⟨h3,_⟩ | ⟨g,cap,cur,h3,_,hh,_⟩
    ·rw [h3] at hq;cases hq
    rw [h3] at hq
    injection hq with hq
    subst hq
    have h9:W5.heap[g]?=some (.cells cur 192 (0,0)):=hh
    unfold Pts at hpp
    rw [h9] at hpp
    injection hpp with hpp
    injection hpp
   rcases hn with (e | e | e | e | e | e) | e
   ·have:=H5.out.2;omega
   ·omega
   ·omega
   ·subst e;exact absurd (hty HX5.out.r) (by decide)
   ·have:=H4.out.2.2.1 _ e;omega
   ·exact (HM.out q e).2.2 hq
   subst e;exact absurd (hty HX5.out.s) (by decide)
  have hMi6:∀ q,Mi q→(M q∨w.heap.size≤q)∧q≠rb∧q≠fb∧lv.ownBlock≠some q:=fun q hq=>by
   have h1:=hM6 q ((hMiff q).2 (.inr (.inr (.inr (.inr (.inr hq))))))
   have h3:=hJX.m q hq
   have h4:M q∨w.heap.size≤q:=by
    have h2:=H4.out.2.2.2
    rcases h1 with (e | e | e | e | e | e) | e
    ·have:=H5.out.2;omega
    ·omega
    ·omega
    ·exact absurd e h3.2.2.2
    ·have:=H4.out.2.2.1 _ e;omega
    ·exact .inl e
    have h9:W5.heap.size≤q:=e
    have:=HX5.out.f.size;omega
   refine ⟨h4,h3.2.2.2,?_,?_⟩
   ·rcases h4 with e | e
    ·exact (HM.out q e).2.1
    have:=HLT.out.2.2.1;omega
   rcases h4 with e | e
   ·exact (HM.out q e).2.2
   intro h5;have:=HLT.out.2.2.2 q h5;omega
  have hown6:∀ q,own6 q→w.heap.size≤q:=fun q hq=>(hJX.o q hq).1
  have cx6:w6.cell? ⟨w.heap.size,0,none⟩=some (.pointer (some ⟨rb,0,none⟩)):=by rw [hJX.x.cell];rfl
  have c56:w6.cell? ⟨rb,5,none⟩=some (.int .i64 (out.length:Int)):=hJX.r.cells.2.2.2.2.2.1
  have cn6:w6.cell? ⟨W4.heap.size,0,none⟩=some (.int .i64 (T.length:Int)):=by rw [hJX.n.cell];rfl
  have z56:=Pts.frozen hJX.r 5
  have hTo:((out.length:Int)+(T.length:Int))=(((out++T).length:Nat):Int):=by rw [List.length_append];omega
  have hTb:(out++T).length≤16777216:=by rw [List.length_append];have:=HDP.out.2.2;have:=H5.out.1;omega
  have hTw:IntKind.i64.wrap (((out++T).length:Nat):Int)=(((out++T).length:Nat):Int):=Go.IntWalk.i64_in _ (by omega)
  obtain ⟨OT,hOT⟩:∃ OT,(out++T).length=OT:=⟨_,rfl⟩
  rw [hOT] at hTo hTw hTb
  have H6:Hid (JBx W4.heap.size w3.heap.size w.heap.size rb fb bud (.func (.func fput) #[] lb) (.func (.func 24) #[] #[]) kind out.length lv out w.heap.size J Mi own6 sb6 T w6∧Frm (fun q=>M q∨q=fb∨q=rb) w w6∧OwnPr w6 192 B0 lv recs∧(∀ q,Mi q→(M q∨w.heap.size≤q)∧q≠rb∧q≠fb∧lv.ownBlock≠some q)∧(∀ q,own6 q→w.heap.size≤q)):=hid ⟨hJX,hf56,ho6,hMi6,hown6⟩
  have HS6:=hid hsrc6
  have HT6:=hid (And.intro hT (And.intro hz hOT))
  clear hJX hf56 ho6 hMi6 hown6 hsrc6 hf6 hM6 hMiff hT hz hOT HRR2 HW5 cx5 e0 e1 e3 e4 e5 e6
  go_wp2
  refine QTail.wp_region_qtail_lit 8 (by kernel_rfl) (by kernel_rfl) ?_
  simp only [List.take_succ_cons,List.take_zero,List.drop_succ_cons,List.drop_zero]
  repeat (go_big_quiet_step (fail))
  refine wpQuiet_nil ?_
  rintro w' ⟨nq,rfl⟩
  obtain ⟨W7,hW7⟩:∃ W,(w6.drewN nq).setCell ⟨rb,5,none⟩ (.int .i64 (OT:Int))=W:=⟨_,rfl⟩
  have hf67:Frm (fun q=>q=rb) w6 W7:=by rw [← hW7];exact ((Frm.refl (fun q=>q=rb) w6).drewN nq).setCell (p:=⟨rb,5,none⟩) rfl _
  have hX7:XC rb fb w.heap.size bud B0 W4.heap.size w3.heap.size PUT (.func (.func 24) #[] #[]) kind lv recs J M out w Mi own6 sb6 T W7:=by
   obtain ⟨hJX,hf56,ho6,hMi6,hown6⟩:=H6.out
   obtain ⟨k1,k2,k3,k4,k5,k6⟩:=hJX.ne
   refine ⟨hJX.n.frm hf67 k3,hJX.s.frm hf67 k5,hJX.x.frm hf67 k6,?_,hJX.u.frmX hf67 (fun q hq e=>(hJX.o q hq).2.2.2.2.2 e),ho6.frm hf67 (fun q hq e=>?_),HP.out.keep Mi _ w6 W7 hJX.j (hf67.mono fun q _ e hm=>(hMi6 q hm).2.1 e),hf56.trans (hf67.mono fun q _ e=>.inr (.inr e)),hMi6,hown6⟩
   ·rw [← hW7,HT6.out.2.2,← HPUT.out]
    exact Pts.set (Pts.drewN hJX.r nq) 5 (.int .i64 (OT:Int))
   rcases ho6.2 with ⟨h3,_⟩ | ⟨g,cap,cur,h3,_,hh,_⟩
   ·rw [h3] at hq;cases hq
   rw [h3] at hq
   injection hq with hq
   exact Pts.ne_of (show Pts w6 g cur _ from hh) hJX.r (by decide) (hq.trans e)
  have hsrc7:∃ A n c used,SrcAt W7 fb A n c used∧used≤un:=by
   have h6:=HS6.out
   have hfr:∀ A n c used,SrcAt w6 fb A n c used→SrcAt W7 fb A n c used:=fun A n c used h=>Pts.frm h hf67 (fun e=>Pts.ne_of h H6.out.1.r (by decide) e)
   cases hD2:D.2 with
   | none=>rw [hD2] at h6;obtain ⟨A,n,c,used,h,hu⟩:=h6;exact ⟨A,n,c,used,hfr _ _ _ _ h,hu⟩
   | some r=>rw [hD2] at h6;obtain ⟨A,n,c,used,h,hu,_⟩:=h6;exact ⟨A,n,c,used,hfr _ _ _ _ h,by omega⟩
  obtain ⟨A7,n7,k7,u7,hs7,hu7⟩:=hsrc7
  have hD7:∀ r,D.2=some r→u7+n7=un∧BRow W7 B0 A7 r∧n7=r.length∧n7≤k7∧k7≤maxLen:=fun r hr=>by
   have h6:=HS6.out
   rw [hr] at h6
   obtain ⟨A,n,c,used,h,h1,h2,h3,h4,h5⟩:=h6
   have h9:SrcAt W7 fb A n c used:=Pts.frm h hf67 (fun e=>Pts.ne_of h H6.out.1.r (by decide) e)
   have h10:=h9.symm.trans hs7
   simp only [Option.some.injEq,Obj.cells.injEq,Array.mk.injEq,List.cons.injEq,Value.slice.injEq,Value.int.injEq,and_true,true_and] at h10
   obtain ⟨⟨rfl,rfl,rfl⟩,h11⟩:=h10
   obtain rfl:used=u7:=by omega
   exact ⟨h1,h2.below (hf67.below (by have:=H6.out.2.1.size;have:=HH.out.2.1.1;omega) (fun q hq=>by have:=HH.out.2.1.2.1;omega)),h3,h4,h5⟩
  obtain ⟨cn7,csc7,cx7,c07,c57,c67,z67⟩:=hX7.cells
  have hU7:=hid (used_p fb A7 n7 k7 u7 W7 hs7)
  have H7:=hid (And.intro hX7 (And.intro hs7 (And.intro hu7 hD7)))
  have hu1:u1≤4611686018427387904:=by have:=H1.out.2.2.2.1;have:=HH.out.1.2.2.2.2.1;omega
  have hu7b:u7≤4611686018427387904:=by have:=HH.out.1.2.2.2.2.1;omega
  have hdw:IntKind.i64.wrap ((u7:Int)-(u1:Int))=(u7:Int)-(u1:Int):=Go.IntWalk.i64_in _ (by omega)
  clear hf67 hX7 hs7 hu7 hD7 HS6 H6
  go_wp2_with fail
  refine hU7.out.mono ?_;rintro e w8 ⟨rfl,rfl⟩
  clear hW7 hU7 cx6 c56 cn6 z56
  by_cases hz:z=0
  ·subst hz
   obtain ⟨r,hr⟩:∃ r,D.2=some r:=by
    rcases HDP.out.2.1 with ⟨l,b,e,h1,h2,h3,h4,h5⟩ | ⟨⟨r,h1⟩,h2⟩
    ·have h6:=HT6.out.2.1
     rw [h1,h3] at h6
     exact absurd ((evErr_snoc h5 h2).symm.trans h6) h2
    exact ⟨r,h1⟩
   have hdr:=HDP.out.1
   rw [hr] at hdr
   obtain ⟨pf,hpf,hp1,-⟩:=d2P_front hdr
   have hrl:r.length+pf.length=sr.length:=by rw [hpf,List.length_append];omega
   obtain ⟨h71,h72,h73,h74,h75⟩:=H7.out.2.2.2 r hr
   obtain ⟨uu,huu⟩:∃ uu,sr.length-r.length=uu:=⟨_,rfl⟩
   have hdu:(u7:Int)-(u1:Int)=(uu:Int):=by have:=H1.out.1;have:=H1.out.2.2.2.1;omega
   have huw:IntKind.i64.wrap (uu:Int)=(uu:Int):=Go.IntWalk.i64_in _ (by omega)
   have huu2:uu≤1000000000:=by have:=HHS.out.2.2.2.2;have:=HH.out.1.1;have:=HH.out.1.2.2.2.2.2.1;omega
   have huw2:IntKind.u64.wrap (uu:Int)=(uu:Int):=Go.IntWalk.u64_in _ (by omega)
   have htw2:IntKind.u64.wrap (T.length:Int)=(T.length:Int):=Go.IntWalk.u64_in _ (by omega)
   have HEH:Hid (E=xTail ((win:Int),n',pk,wl,((0:Nat):Int)) kind hl0 uu T r):=hid (by rw [HEG.out,hdr,← huu])
   have H8:Hid (u7+n7=un∧BRow W7 B0 A7 r∧n7=r.length∧n7≤k7∧k7≤maxLen∧uu≤1000000000∧r.length≤1000000000):=hid ⟨h71,h72,h73,h74,h75,huu2,by have:=HHS.out.2.2.2.2;have:=HH.out.1.1;have:=HH.out.1.2.2.2.2.2.1;omega⟩
   clear hr hdr hpf hp1 hrl h71 h72 h73 h74 h75 huu hdw HDP HEG
   obtain ⟨tl,htl⟩:∃ tl,T.length=tl:=⟨_,rfl⟩
   have HTL:=hid htl
   rw [htl] at cn7 htw2 hTo
   rw [show ((0:Nat):Int)=0 from rfl,htl]
   clear htl
   dsimp only
   iterate 60 (first | (with_reducible show Code.wp _ (Code.block 1 _) _ _ _) | go_values | go_guarded | go_step | go_upon | go_at_K | skip)
   go_cut [] from 109 to 130 (fun wx=>wx=W7∧((pk=18446744073709551615∨pk=uu)∧(wl=18446744073709551615∨wl=tl)))
   case first =>
    have hbad:∀ (hb:(pk≠M64'∧pk≠uu)∨(wl≠M64'∧wl≠T.length)),E=.err 11 T:=fun hb=>by
     rw [HEH.out]
     unfold xTail
     rw [if_pos hb]
    have HBAD:=hid hbad
    clear hbad
    by_cases hp1:pk=18446744073709551615
    ·have p1:((pk:Int) != 18446744073709551615)=false:=by rw [hp1];rfl
     have HP1:=hid hp1
     clear hp1
     by_cases hw1:wl=18446744073709551615
     ·have p2:((wl:Int) != 18446744073709551615)=false:=by rw [hw1];rfl
      have HW1:=hid hw1
      clear hw1
      go_wp2
      go_meet
      case rel=>exact ⟨rfl,.inl HP1.out,.inl HW1.out⟩
     have p2:((wl:Int) != 18446744073709551615)=true:=bne_iff_ne.2 (by omega)
     by_cases hw2:wl=tl
     ·have p3:((wl:Int) != (tl:Int))=false:=by rw [hw2];simp
      have HW2:=hid hw2
      clear hw1 hw2
      go_wp2
      go_meet
      case rel=>exact ⟨rfl,.inl HP1.out,.inr HW2.out⟩
     have p3:((wl:Int) != (tl:Int))=true:=bne_iff_ne.2 (by omega)
     have HEF:=hid (HBAD.out (.inr ⟨hw1,by rw [HTL.out];exact hw2⟩))
     clear hw1 hw2
     go_wp2
     refine hold_leave (v:=.int .i64 11) (by simp [results,Tryz.results48,go_sem]) ?_
     exact xblock_err2 HEF.out (by decide) H7.out.1
    have p1:((pk:Int) != 18446744073709551615)=true:=bne_iff_ne.2 (by omega)
    by_cases hp2:pk=uu
    ·have p4:((pk:Int) != (uu:Int))=false:=by rw [hp2];simp
     have HP1:=hid hp2
     clear hp1 hp2
     by_cases hw1:wl=18446744073709551615
     ·have p2:((wl:Int) != 18446744073709551615)=false:=by rw [hw1];rfl
      have HW1:=hid hw1
      clear hw1
      go_wp2
      go_meet
      case rel=>exact ⟨rfl,.inr HP1.out,.inl HW1.out⟩
     have p2:((wl:Int) != 18446744073709551615)=true:=bne_iff_ne.2 (by omega)
     by_cases hw2:wl=tl
     ·have p3:((wl:Int) != (tl:Int))=false:=by rw [hw2];simp
      have HW2:=hid hw2
      clear hw1 hw2
      go_wp2
      go_meet
      case rel=>exact ⟨rfl,.inr HP1.out,.inr HW2.out⟩
     have p3:((wl:Int) != (tl:Int))=true:=bne_iff_ne.2 (by omega)
     have HEF:=hid (HBAD.out (.inr ⟨hw1,by rw [HTL.out];exact hw2⟩))
     clear hw1 hw2
     go_wp2
     refine hold_leave (v:=.int .i64 11) (by simp [results,Tryz.results48,go_sem]) ?_
     exact xblock_err2 HEF.out (by decide) H7.out.1
    have p4:((pk:Int) != (uu:Int))=true:=bne_iff_ne.2 (by omega)
    have HEF:=hid (HBAD.out (.inl ⟨hp1,hp2⟩))
    clear hp1 hp2
    go_wp2
    refine hold_leave (v:=.int .i64 11) (by simp [results,Tryz.results48,go_sem]) ?_
    exact xblock_err2 HEF.out (by decide) H7.out.1
   case rest =>
   obtain ⟨rfl,hpk,hwl⟩:=hcut
   obtain ⟨pad,hpad⟩:∃ pad,padOf (hl0+uu)=pad:=⟨_,rfl⟩
   obtain ⟨sz,hsz⟩:∃ sz,chkN kind=sz:=⟨_,rfl⟩
   have hszl:chkLen kind=sz:=by rw [← chkN_len];exact hsz
   have hsz8:sz≤8:=by rw [← hszl];exact chkLen_le kind
   have hpad4:pad<4:=by rw [← hpad];unfold padOf;omega
   have hEI:E=if r.length<pad+sz then .err 10 T else if r.take pad≠List.replicate pad 0∨(r.drop pad).take sz≠chkB kind T then .err 11 T else .ok T (hl0+uu+sz,T.length) (r.drop (pad+sz)):=by
    rw [HEH.out]
    unfold xTail
    rw [if_neg,hpad,hszl]
    simp only
    have h9:=HTL.out
    rintro (⟨e1,e2⟩ | ⟨e1,e2⟩)
    ·rcases hpk with e | e
     ·exact e1 e
     exact e2 e
    rcases hwl with e | e
    ·exact e1 e
    exact e2 (by omega)
   have hHU:(hl0:Int)+(uu:Int)=((hl0+uu:Nat):Int):=by omega
   obtain ⟨HU,hHU2⟩:∃ HU,hl0+uu=HU:=⟨_,rfl⟩
   rw [hHU2] at hHU hpad
   have hHUb:HU≤1000002000:=by have:=H8.out.2.2.2.2.2.1;omega
   have hw1:IntKind.i64.wrap (HU:Int)=(HU:Int):=Go.IntWalk.i64_in _ (by omega)
   have hw2:IntKind.i64.wrap (-(HU:Int)) = -(HU:Int):=Go.IntWalk.i64_in _ (by omega)
   have hw3:bits .and .i64 (-(HU:Int)) 3=(pad:Int):=by rw [i64_and3,← hpad];unfold padOf;omega
   obtain ⟨q,hq⟩:∃ q,pad+sz=q:=⟨_,rfl⟩
   have hq2:(pad:Int)+(sz:Int)=(q:Int):=by omega
   have hqw:IntKind.i64.wrap (q:Int)=(q:Int):=Go.IntWalk.i64_in _ (by omega)
   rw [hq] at hEI
   have HEI:=hid hEI
   have HQ:=hid (And.intro hq (And.intro hsz (And.intro hszl (And.intro hpad hHU2))))
   rw [hsz]
   have hn7r:=H8.out.2.2.1
   clear hEI hpk hwl HEH hq hszl hpad hHU2 hsz
   by_cases hsh:n7<q
   ·have HEF:Hid (E=.err 10 T):=hid (by rw [HEI.out,if_pos (by omega)])
    have HTN:=hid (rtake_no rb fb bud PUT _ kind _ lv A7 n7 k7 u7 q _ H7.out.1.r H7.out.2.1 hsh)
    clear hsh hn7r
    go_wp2_with fail
    refine HTN.out.mono ?_;rintro e w9 ⟨rfl,rfl⟩
    go_wp2
    refine hold_leave (v:=.int .i64 10) (by simp [results,Tryz.results48,go_sem]) ?_
    exact xblock_err2 HEF.out (by decide) H7.out.1
   have HEJ:Hid (E=if r.take pad≠List.replicate pad 0∨(r.drop pad).take sz≠chkB kind T then .err 11 T else .ok T (hl0+uu+sz,T.length) (r.drop q)):=hid (by rw [HEI.out,if_neg (by omega)])
   have HTP:=hid (rtake_p rb fb bud PUT _ kind _ lv A7 n7 k7 u7 q _ H7.out.1.r H7.out.2.1 H8.out.2.2.2.1 (by omega) (by have:=H8.out.1;have:=HH.out.1.2.2.2.2.1;omega))
   have HQN:=hid (show q≤n7 by omega)
   clear hsh hn7r HEI
   go_wp2_with fail
   refine HTP.out.mono ?_;rintro e w9 ⟨rfl,hs9,hf9⟩
   have hX9:=H7.out.1.takes HP.out H7.out.2.1 HLT.out.2.2.1 hf9
   have hB9:B0≤w9.heap.size:=Nat.le_trans HH.out.2.1.1 hX9.f.size
   have hr9:BRow w9 B0 A7 r:=H8.out.2.1.below (hf9.below (Nat.le_trans HH.out.2.1.1 H7.out.1.f.size) (fun q hq=>by have:=HH.out.2.1.2.2;omega))
   have hrt:BRow w9 B0 A7 (r.take pad):=hr9.take pad
   have hrd:BRow w9 B0 (takeA A7 k7 q) (r.drop q):=hr9.drop (by have:=H8.out.2.2.1;have:=H8.out.2.2.2.1;omega)
   have hpq:pad+sz=q:=HQ.out.1
   have hrlen:q≤r.length:=by have:=HQN.out;have:=H8.out.2.2.1;omega
   have hr8:BRow w9 B0 (takeA A7 q pad) ((r.drop pad).take sz):=by
    have h8:=(hr9.take q).drop (k:=pad) (cap:=q) (by rw [List.length_take];omega)
    rw [List.drop_take,show q-pad=sz by omega] at h8
    exact h8
   obtain ⟨A8,hA8⟩:∃ A8,takeA A7 q pad=A8:=⟨_,rfl⟩
   rw [hA8] at hr8
   have hsl1:∀ w,(Instr.sliceAt 22 (.slice A7 q q) none (some (.int .i64 (pad:Int))) none).run Tryz.prog w=.ok (.slice A7 pad q) w:=fun w=>slice_toX A7 q q pad (by omega) (Nat.le_refl _) w
   have hsl2:∀ w,(Instr.sliceAt 22 (.slice A7 q q) (some (.int .i64 (pad:Int))) none none).run Tryz.prog w=.ok (.slice A8 sz sz) w:=fun w=>by
    have h8:=slice_fromX A7 q q pad (by omega) (Nat.le_refl _) w
    rw [show q-pad=sz by omega] at h8
    rw [← hA8]
    exact h8
   obtain ⟨P1,hP1⟩:∃ P1,r.take pad=P1:=⟨_,rfl⟩
   obtain ⟨P2,hP2⟩:∃ P2,(r.drop pad).take sz=P2:=⟨_,rfl⟩
   have hl1:P1.length=pad:=by rw [← hP1,List.length_take];omega
   have hl2:P2.length=sz:=by rw [← hP2,List.length_take,List.length_drop];omega
   obtain ⟨X,hX,hXb,hXc⟩:=chk_sum kind T
   rw [HQ.out.2.2.1] at hXc
   rw [hP1,hP2,hXc] at HEJ
   rw [hP1] at hrt
   rw [hP2] at hr8
   obtain ⟨W10,hW10⟩:∃ W,w9.alloc (.cells #[.int .u8 0,.int .u8 0,.int .u8 0,.int .u8 0,.int .u8 0,.int .u8 0,.int .u8 0,.int .u8 0] 191)=W:=⟨_,rfl⟩
   have hb10:Below w9.heap.size w9 W10:=by rw [← hW10];exact (Below.refl _ w9).alloc (Nat.le_refl _) _
   have hp10:Pts W10 w9.heap.size (wcells []) 191:=by rw [← hW10,wcells_nil];exact Pts.new _ _ _
   have hX10:=hX9.still HP.out hb10
   have hV:=value_crc sb6 own6 (chkK kind) T W10 hX10.u (by unfold chkK;split <;> (try split) <;> decide) (by have:=HTL.out;have:=hTb;omega)
   rw [hX] at hV
   have HV:=hid hV
   have hs10:SrcAt W10 fb (takeA A7 k7 q) (n7-q) (k7-q) (u7+q):=Pts.below hs9 hb10 (Pts.lt hs9)
   have hwz:w.heap.size≤w9.heap.size:=hX9.f.size
   have H10:Hid (XC rb fb w.heap.size bud B0 W4.heap.size w3.heap.size PUT (.func (.func 24) #[] #[]) kind lv recs J M out w Mi own6 sb6 T W10∧Pts W10 w9.heap.size (wcells []) 191∧SrcAt W10 fb (takeA A7 k7 q) (n7-q) (k7-q) (u7+q)∧BRow W10 B0 A7 P1∧BRow W10 B0 A8 P2∧BRow W10 B0 (takeA A7 k7 q) (r.drop q)):=hid ⟨hX10,hp10,hs10,hrt.below (hb10.mono hB9),hr8.below (hb10.mono hB9),hrd.below (hb10.mono hB9)⟩
   have HL:=hid (And.intro hl1 (And.intro hl2 (And.intro hXb (And.intro hrlen (And.intro hB9 hwz)))))
   have H9:Hid (XC rb fb w.heap.size bud B0 W4.heap.size w3.heap.size PUT (.func (.func 24) #[] #[]) kind lv recs J M out w Mi own6 sb6 T w9∧SrcAt w9 fb (takeA A7 k7 q) (n7-q) (k7-q) (u7+q)∧BRow w9 B0 A7 P1∧BRow w9 B0 A8 P2∧BRow w9 B0 (takeA A7 k7 q) (r.drop q)∧Below w9.heap.size w9 W10):=hid ⟨hX9,hs9,hrt,hr8,hrd,hb10⟩
   obtain ⟨cn10,csc10,cx10,c010,c510,c610,z610⟩:=hX10.cells
   have mV:=meth_sV
   clear hs9 hf9 hX9 hB9 hr9 hrt hrd hrlen hr8 hA8 hP1 hP2 hl1 hl2 hX hXb hXc hb10 hp10 hX10 hV hs10 hwz HTP cn7 csc7 cx7 c07 c57 c67 z67
   go_wp2_with fail
   refine HV.out.mono ?_;rintro e w11 ⟨rfl,d,rfl⟩
   go_wp2
   go_loopw [20,21] (fun iv xv wr=>∃ i Y:Nat,iv=.int .i64 (i:Int)∧xv=.int .u64 (Y:Int)∧i≤sz∧Y=X / 256 ^ i∧Pts wr w9.heap.size (wcells (leB X i)) 191∧Frm (· = w9.heap.size) W10 wr) (fun iv _ _=>sz-(intOf iv).toNat)
   case atStart=>exact ⟨0,X,rfl,rfl,Nat.zero_le _,by simp,H10.out.2.1.drewN d,(Frm.refl _ W10).drewN d⟩
   case round =>
   obtain ⟨i,Y,rfl,rfl,hi,hY,hpw,hfw⟩:=hrel
   have HPW:=hid hpw
   have HFW:=hid hfw
   have HY:=hid hY
   have hYb:Y<18446744073709551616:=by rw [hY];exact Nat.lt_of_le_of_lt (Nat.div_le_self _ _) HL.out.2.2.1
   clear hpw hfw hY HV cn10 csc10 cx10 c010 c510 c610 z610
   by_cases his:i<sz
   ·have hll:(leB X i).length=i:=leB_len i X
    have hcl:=HPW.out.cell i
    have hzl:=HPW.out.frozen i
    have hci:∃ v,(wcells (leB X i))[i]?=some v:=by
     have hsz:(wcells (leB X i)).size=8:=by simp [wcells,hll];omega
     exact ⟨_,Array.getElem?_eq_getElem (by rw [hsz];omega)⟩
    obtain ⟨v0,hv0⟩:=hci
    rw [hv0] at hcl
    obtain ⟨y,hy⟩:∃ y,UInt8.ofNat Y=y:=⟨_,rfl⟩
    have hw8:=u8_wrap_nat Y
    rw [hy] at hw8
    obtain ⟨yn,hyn⟩:∃ yn,y.toNat=yn:=⟨_,rfl⟩
    have hnew:Pts (wr.setCell ⟨w9.heap.size,i,none⟩ (.int .u8 (yn:Int))) w9.heap.size (wcells (leB X (i+1))) 191∧Frm (· = w9.heap.size) W10 (wr.setCell ⟨w9.heap.size,i,none⟩ (.int .u8 (yn:Int))):=by
     refine ⟨?_,HFW.out.setCell (p:=⟨w9.heap.size,i,none⟩) rfl _⟩
     have h1:=wcells_set (leB X i) y (by omega)
     rw [hll] at h1
     rw [leB_snoc,← HY.out,hy,← h1,← hyn]
     exact HPW.out.set i _
    rw [hyn] at hw8
    have HNEW:=hid hnew
    have hYd:((Y:Int) / 256)=((Y / 256:Nat):Int):=by omega
    have hYn:Y / 256=X / 256 ^ (i+1):=by rw [HY.out,Nat.div_div_eq_div_mul,Nat.pow_succ]
    have HYN:=hid hYn
    obtain ⟨Y2,hY2⟩:∃ Y2,Y / 256=Y2:=⟨_,rfl⟩
    rw [hY2] at hYd HYN
    have his8:(i:Int)<8:=by omega
    clear hnew hll hv0 hy hyn hYn hY2
    go_wp2
    exact ⟨⟨i+1,Y2,by go_num,rfl,by omega,HYN.out,HNEW.out⟩,by simp [intOf];omega⟩
   obtain rfl:i=sz:=by omega
   clear his hi hYb
   have hbw:Below w9.heap.size w9 wr:=H9.out.2.2.2.2.2.trans (HFW.out.below H9.out.2.2.2.2.2.size (fun k hk=>by omega))
   have hXr:=H9.out.1.still HP.out hbw
   have hsr:=Pts.below H9.out.2.1 hbw (Pts.lt H9.out.2.1)
   have hBr:B0≤wr.heap.size:=Nat.le_trans HL.out.2.2.2.2.1 hbw.size
   have hrw:BRow wr wr.heap.size (some ⟨w9.heap.size,0,none⟩) (leB X i):=wcells_row HPW.out (by rw [leB_len];exact hsz8)
   obtain ⟨Wa,hWa⟩:∃ W,wr.drew.alloc (.cells (madeCells #[.int .u8 0] pad) 5)=W:=⟨_,rfl⟩
   have hba:Below wr.heap.size wr Wa:=by rw [← hWa];exact ((Below.refl _ wr).drew).alloc (Nat.le_refl _) _
   have hza:BRow Wa Wa.heap.size (some ⟨wr.heap.size,0,none⟩) (List.replicate pad 0):=by rw [← hWa];exact noughts_row pad wr.drew
   have hmk:=made_bytes pad (by omega)
   have hEQ:=equal_p A7 (some ⟨wr.heap.size,0,none⟩) P1 (List.replicate pad 0) pad q pad pad Wa.heap.size Wa HL.out.1.symm (((H9.out.2.2.1.below (hbw.mono HL.out.2.2.2.2.1)).below (hba.mono hBr)).more (Nat.le_trans hBr hba.size)) (by simp) hza
   have hE2:=equal_p A8 (some ⟨w9.heap.size,0,none⟩) P2 (leB X i) i i i 8 Wa.heap.size Wa HL.out.2.1.symm (((H9.out.2.2.2.1.below (hbw.mono HL.out.2.2.2.2.1)).below (hba.mono hBr)).more (Nat.le_trans hBr hba.size)) (leB_len _ _).symm ((hrw.below hba).more hba.size)
   have hsl3:∀ w,(Instr.sliceAt 191 (.pointer (some ⟨w9.heap.size,0,none⟩)) none (some (.int .i64 (i:Int))) none).run Tryz.prog w=.ok (.slice (some ⟨w9.heap.size,0,none⟩) i 8) w:=fun w=>slice_arr8 w9.heap.size i hsz8 w
   obtain ⟨b1,hb1⟩:∃ b,(P1==List.replicate pad 0)=b:=⟨_,rfl⟩
   obtain ⟨b2,hb2⟩:∃ b,(P2==leB X i)=b:=⟨_,rfl⟩
   rw [hb1] at hEQ
   rw [hb2] at hE2
   have HEQ:=hid hEQ
   have HE2:=hid hE2
   have HB1:=hid (And.intro hb1 hb2)
   have HWR:=hid (And.intro hXr (And.intro hsr (And.intro hBr (And.intro hbw hba))))
   clear hbw hXr hsr hBr hrw hba hza hEQ hE2 hb1 hb2 HPW HFW HY
   have hii:(0:Int)≤(i:Int)∧(i:Int)≤8:=by omega
   cases b1 with
   | false =>
    have HEF:Hid (E=.err 11 T):=hid (by rw [HEJ.out,if_pos (.inl (by simpa using HB1.out.1))])
    go_wp2
    refine wp_region_noPanic ?_
    refine wp_region_any (by kernel_rfl) ?_
    change wpAny _ _ _ _ _ _ _ (World.drew _)
    refine wpAny_take (i:=0) rfl (by kernel_rfl) (by kernel_rfl) (by kernel_rfl) (fun _ _ _ h=>h) (Or.inl ⟨by rfl,by (intro w;go_simp;try with_reducible rfl)⟩) ?_
    try go_simp
    refine wpAny_take (i:=1) rfl (by kernel_rfl) (by kernel_rfl) (by kernel_rfl) (fun _ _ _ h=>h) (Or.inl ⟨by rfl,by (intro w;go_simp;try with_reducible rfl)⟩) ?_
    go_simp
    refine wpAny_take (i:=2) rfl (by kernel_rfl) (by kernel_rfl) (by kernel_rfl) (fun _ _ _ h=>h) (Or.inl ⟨by rfl,by (intro w;go_simp;try with_reducible rfl)⟩) ?_
    try go_simp
    refine wpAny_take (i:=3) rfl (by kernel_rfl) (by kernel_rfl) (by kernel_rfl) (fun _ _ _ h=>h) (Or.inl ⟨by rfl,by (intro w;go_simp;try with_reducible rfl)⟩) ?_
    go_simp
    refine wpAny_ready (rs:=[4]) (by kernel_rfl) (by simp) ?_
    refine AllReady.cons rfl (fun K hK=>?_) AllReady.nil
    go_simp
    refine hK _ _ ?_;clear hK K
    refine wpAny_ready (rs:=[5]) (by kernel_rfl) (by simp) ?_
    refine AllReady.cons rfl (fun K hK=>?_) AllReady.nil
    go_simp
    go_wp2_with (go_at_call 52;refine HEQ.out.mono ?_;rintro e w11 ⟨rfl,rfl⟩)
    refine wpAny_take (i:=6) rfl (by kernel_rfl) (by kernel_rfl) (by kernel_rfl) (fun _ _ _ h=>h) (Or.inl ⟨by rfl,by (intro w;go_simp;try with_reducible rfl)⟩) ?_
    try go_simp
    refine wpAny_take (i:=7) rfl (by kernel_rfl) (by kernel_rfl) (by kernel_rfl) (fun _ _ _ h=>h) (Or.inl ⟨by rfl,by (intro w;go_simp;try with_reducible rfl)⟩) ?_
    go_simp
    refine wpAny_take (i:=8) rfl (by kernel_rfl) (by kernel_rfl) (by kernel_rfl) (fun _ _ _ h=>h) (Or.inr ⟨by rfl,rfl⟩) ?_
    try go_simp
    refine wpAny_take (i:=9) rfl (by kernel_rfl) (by kernel_rfl) (by kernel_rfl) (fun _ _ _ h=>h) (Or.inr ⟨by rfl,rfl⟩) ?_
    go_simp
    refine wpAny_take (i:=10) rfl (by kernel_rfl) (by kernel_rfl) (by kernel_rfl) (fun _ _ _ h=>h) (Or.inr ⟨by rfl,rfl⟩) ?_
    try go_simp
    refine wpAny_take (i:=11) rfl (by kernel_rfl) (by kernel_rfl) (by kernel_rfl) (fun _ _ _ h=>h) (Or.inr ⟨by rfl,rfl⟩) ?_
    go_simp
    refine wpAny_take (i:=12) rfl (by kernel_rfl) (by kernel_rfl) (by kernel_rfl) (fun _ _ _ h=>h) (Or.inr ⟨by rfl,rfl⟩) ?_
    try go_simp
    refine wpAny_take (i:=13) rfl (by kernel_rfl) (by kernel_rfl) (by kernel_rfl) (fun _ _ _ h=>h) (Or.inr ⟨by rfl,rfl⟩) ?_
    go_simp
    refine wpAny_take (i:=14) rfl (by kernel_rfl) (by kernel_rfl) (by kernel_rfl) (fun _ _ _ h=>h) (Or.inr ⟨by rfl,rfl⟩) ?_
    try go_simp
    refine wpAny_take (i:=15) rfl (by kernel_rfl) (by kernel_rfl) (by kernel_rfl) (fun _ _ _ h=>h) (Or.inl ⟨by rfl,by (intro w;go_simp;try with_reducible rfl)⟩) ?_
    go_simp
    refine wpAny_done (by kernel_rfl) ?_ _
    refine NoPanic.normal ?_
    go_wp2
    refine hold_leave (v:=.int .i64 11) (by simp [results,Tryz.results48,go_sem]) ?_
    exact xblock_err2 HEF.out (by decide) (HWR.out.1.still HP.out HWR.out.2.2.2.2)
   | true =>
    go_wp2
    refine wp_region_noPanic ?_
    refine wp_region_any (by kernel_rfl) ?_
    change wpAny _ _ _ _ _ _ _ (World.drew _)
    refine wpAny_take (i:=0) rfl (by kernel_rfl) (by kernel_rfl) (by kernel_rfl) (fun _ _ _ h=>h) (Or.inl ⟨by rfl,by (intro w;go_simp;try with_reducible rfl)⟩) ?_
    try go_simp
    refine wpAny_take (i:=1) rfl (by kernel_rfl) (by kernel_rfl) (by kernel_rfl) (fun _ _ _ h=>h) (Or.inl ⟨by rfl,by (intro w;go_simp;try with_reducible rfl)⟩) ?_
    go_simp
    refine wpAny_take (i:=2) rfl (by kernel_rfl) (by kernel_rfl) (by kernel_rfl) (fun _ _ _ h=>h) (Or.inl ⟨by rfl,by (intro w;go_simp;try with_reducible rfl)⟩) ?_
    try go_simp
    refine wpAny_take (i:=3) rfl (by kernel_rfl) (by kernel_rfl) (by kernel_rfl) (fun _ _ _ h=>h) (Or.inl ⟨by rfl,by (intro w;go_simp;try with_reducible rfl)⟩) ?_
    go_simp
    refine wpAny_ready (rs:=[4]) (by kernel_rfl) (by simp) ?_
    refine AllReady.cons rfl (fun K hK=>?_) AllReady.nil
    go_simp
    refine hK _ _ ?_;clear hK K
    refine wpAny_ready (rs:=[5]) (by kernel_rfl) (by simp) ?_
    refine AllReady.cons rfl (fun K hK=>?_) AllReady.nil
    go_simp
    go_wp2_with (go_at_call 52;refine HEQ.out.mono ?_;rintro e w11 ⟨rfl,rfl⟩)
    refine wpAny_take (i:=6) rfl (by kernel_rfl) (by kernel_rfl) (by kernel_rfl) (fun _ _ _ h=>h) (Or.inl ⟨by rfl,by (intro w;go_simp;try with_reducible rfl)⟩) ?_
    try go_simp
    refine wpAny_take (i:=7) rfl (by kernel_rfl) (by kernel_rfl) (by kernel_rfl) (fun _ _ _ h=>h) (Or.inl ⟨by rfl,by (intro w;go_simp;try with_reducible rfl)⟩) ?_
    go_simp
    refine wpAny_take (i:=8) rfl (by kernel_rfl) (by kernel_rfl) (by kernel_rfl) (fun _ _ _ h=>h) (Or.inl ⟨by rfl,by (intro w;go_simp;try with_reducible rfl)⟩) ?_
    try go_simp
    refine wpAny_take (i:=9) rfl (by kernel_rfl) (by kernel_rfl) (by kernel_rfl) (fun _ _ _ h=>h) (Or.inl ⟨by rfl,by (intro w;go_simp;try with_reducible rfl)⟩) ?_
    go_simp
    refine wpAny_take (i:=10) rfl (by kernel_rfl) (by kernel_rfl) (by kernel_rfl) (fun _ _ _ h=>h) (Or.inl ⟨by rfl,by (intro w;go_simp;try with_reducible rfl)⟩) ?_
    try go_simp
    refine wpAny_take (i:=11) rfl (by kernel_rfl) (by kernel_rfl) (by kernel_rfl) (fun _ _ _ h=>h) (Or.inl ⟨by rfl,by (intro w;go_simp;try with_reducible rfl)⟩) ?_
    go_simp
    refine wpAny_take (i:=12) rfl (by kernel_rfl) (by kernel_rfl) (by kernel_rfl) (fun _ _ _ h=>h) (Or.inl ⟨by rfl,by (intro w;go_simp;try with_reducible rfl)⟩) ?_
    try go_simp
    refine wpAny_ready (rs:=[13]) (by kernel_rfl) (by simp) ?_
    refine AllReady.cons rfl (fun K hK=>?_) AllReady.nil
    go_simp
    go_wp2_with (go_at_call 52;refine HE2.out.mono ?_;rintro e w13 ⟨rfl,rfl⟩)
    refine wpAny_take (i:=14) rfl (by kernel_rfl) (by kernel_rfl) (by kernel_rfl) (fun _ _ _ h=>h) (Or.inl ⟨by rfl,by (intro w;go_simp;try with_reducible rfl)⟩) ?_
    try go_simp
    refine wpAny_take (i:=15) rfl (by kernel_rfl) (by kernel_rfl) (by kernel_rfl) (fun _ _ _ h=>h) (Or.inl ⟨by rfl,by (intro w;go_simp;try with_reducible rfl)⟩) ?_
    go_simp
    refine wpAny_done (by kernel_rfl) ?_ _
    refine NoPanic.normal ?_
    have hXa:=HWR.out.1.still HP.out HWR.out.2.2.2.2
    have HXA:=hid hXa
    cases b2 with
    | false =>
     have HEF:Hid (E=.err 11 T):=hid (by rw [HEJ.out,if_pos (.inr (by simpa using HB1.out.2))])
     clear hXa
     go_wp2
     refine hold_leave (v:=.int .i64 11) (by simp [results,Tryz.results48,go_sem]) ?_
     exact xblock_err2 HEF.out (by decide) HXA.out
    | true =>
     have hEK:E=.ok T (hl0+uu+i,T.length) (r.drop q):=by
      rw [HEJ.out,if_neg]
      rintro (h | h)
      ·exact h (by simpa using HB1.out.1)
      exact h (by simpa using HB1.out.2)
     have HEK:=hid hEK
     obtain ⟨Al,kl,hlv,-,-,-⟩:=hXa.o.slice
     subst hlv
     have hu7q:(((u7+q:Nat)):Int)-(used:Int)=((HU+q:Nat):Int):=by
      have h1:=H1.out.2.2.2.2
      have h2:=HQ.out.2.2.2.2
      omega
     obtain ⟨UQ,hUQ⟩:∃ UQ,u7+q=UQ:=⟨_,rfl⟩
     obtain ⟨DQ,hDQ⟩:∃ DQ,HU+q=DQ:=⟨_,rfl⟩
     obtain ⟨RR,hRR⟩:∃ RR,HU+i=RR:=⟨_,rfl⟩
     have hdq2:(DQ:Int)-(pad:Int)=(RR:Int):=by have:=HQ.out.1;omega
     have hqb:q≤11:=by have:=HQ.out.1;omega
     have hdw1:IntKind.i64.wrap (DQ:Int)=(DQ:Int):=Go.IntWalk.i64_in _ (by omega)
     have hdw2:IntKind.i64.wrap (RR:Int)=(RR:Int):=Go.IntWalk.i64_in _ (by omega)
     have hdw3:IntKind.u64.wrap (RR:Int)=(RR:Int):=Go.IntWalk.u64_in _ (by omega)
     have hdw4:IntKind.u64.wrap (T.length:Int)=(T.length:Int):=Go.IntWalk.u64_in _ (by have:=HTL.out;omega)
     rw [hUQ,hDQ] at hu7q
     have hsa:SrcAt Wa fb (takeA A7 k7 q) (n7-q) (k7-q) UQ:=by rw [← hUQ];exact Pts.below HWR.out.2.1 HWR.out.2.2.2.2 (Pts.lt HWR.out.2.1)
     have hRR2:hl0+uu+i=RR:=by rw [HQ.out.2.2.2.2];exact hRR
     have HS9:=hid (And.intro hsa (And.intro hRR2 hUQ))
     obtain ⟨a3,asc,a0,a1,a5,a2,az⟩:=hXa.cells
     have hS0:LoB w.heap.size rb fb W4.heap.size T.length Wa:=⟨a0,a1,a3⟩
     have a2a:∀ o,(Wa.alloc o).cell? ⟨rb,6,none⟩=some (.slice Al recs.length kl):=fun o=>cell_alloc o a2
     clear hXa hEK hsa hUQ hDQ hRR hRR2 asc a5
     go_wp2
     have hS4:=And.intro hS0.1 (And.intro hS0.2.1 (And.intro hS0.2.2 a2))
     refine wp_region_noPanic ?_
     refine wp_region_headH 20 (fun w'=>w'.cell? ⟨w.heap.size,0,none⟩=some (.pointer (some ⟨rb,0,none⟩))∧w'.cell? ⟨rb,0,none⟩=some (.pointer (some ⟨fb,0,none⟩))∧w'.cell? ⟨W4.heap.size,0,none⟩=some (.int .i64 (T.length:Int))∧w'.cell? ⟨rb,6,none⟩=some (.slice Al recs.length kl)) (by kernel_rfl) (by kernel_rfl) ?_
     simp only [List.drop_succ_cons,List.drop_zero]
     refine wpAnyH_take (i:=0) rfl (by kernel_rfl) (by kernel_rfl) (by kernel_rfl) (fun _ _ _ h=>h) (Or.inl ⟨by rfl,by (intro w hSw;(try dsimp only at hSw);go_simp;try with_reducible rfl)⟩) hS4 ?_
     try simp only [Act.put,List.setIfInBounds_toArray,List.set_cons_zero,List.set_cons_succ]
     refine wpAnyH_take (i:=1) rfl (by kernel_rfl) (by kernel_rfl) (by kernel_rfl) (fun _ _ _ h=>h) (Or.inl ⟨by rfl,by (intro w hSw;(try dsimp only at hSw);go_simp;try with_reducible rfl)⟩) hS4 ?_
     try simp only [Act.put,List.setIfInBounds_toArray,List.set_cons_zero,List.set_cons_succ]
     refine wpAnyH_take (i:=2) rfl (by kernel_rfl) (by kernel_rfl) (by kernel_rfl) (fun _ _ _ h=>h) (Or.inl ⟨by rfl,by (intro w hSw;(try dsimp only at hSw);go_simp;try with_reducible rfl)⟩) hS4 ?_
     try simp only [Act.put,List.setIfInBounds_toArray,List.set_cons_zero,List.set_cons_succ]
     refine wpAnyH_take (i:=3) rfl (by kernel_rfl) (by kernel_rfl) (by kernel_rfl) (fun _ _ _ h=>h) (Or.inl ⟨by rfl,by (intro w hSw;(try dsimp only at hSw);go_simp;try with_reducible rfl)⟩) hS4 ?_
     try simp only [Act.put,List.setIfInBounds_toArray,List.set_cons_zero,List.set_cons_succ]
     refine wpAnyH_take (i:=4) rfl (by kernel_rfl) (by kernel_rfl) (by kernel_rfl) (fun _ _ _ h=>h) (Or.inl ⟨by rfl,by (intro w hSw;(try dsimp only at hSw);go_simp;try with_reducible rfl)⟩) hS4 ?_
     try simp only [Act.put,List.setIfInBounds_toArray,List.set_cons_zero,List.set_cons_succ]
     refine wpAnyH_take (i:=5) rfl (by kernel_rfl) (by kernel_rfl) (by kernel_rfl) (fun _ _ _ h=>h) (Or.inl ⟨by rfl,by (intro w hSw;(try dsimp only at hSw);go_simp;try with_reducible rfl)⟩) hS4 ?_
     try simp only [Act.put,List.setIfInBounds_toArray,List.set_cons_zero,List.set_cons_succ]
     refine wpAnyH_take (i:=6) rfl (by kernel_rfl) (by kernel_rfl) (by kernel_rfl) (fun _ _ _ h=>h) (Or.inl ⟨by rfl,by (intro w hSw;(try dsimp only at hSw);go_simp;try with_reducible rfl)⟩) hS4 ?_
     try simp only [Act.put,List.setIfInBounds_toArray,List.set_cons_zero,List.set_cons_succ]
     refine wpAnyH_take (i:=7) rfl (by kernel_rfl) (by kernel_rfl) (by kernel_rfl) (fun _ _ _ h=>h) (Or.inl ⟨by rfl,by (intro w hSw;(try dsimp only at hSw);go_simp;try with_reducible rfl)⟩) hS4 ?_
     try simp only [Act.put,List.setIfInBounds_toArray,List.set_cons_zero,List.set_cons_succ]
     refine wpAnyH_take (i:=8) rfl (by kernel_rfl) (by kernel_rfl) (by kernel_rfl) (fun _ _ _ h=>h) (Or.inl ⟨by rfl,by (intro w hSw;(try dsimp only at hSw);go_simp;try with_reducible rfl)⟩) hS4 ?_
     try simp only [Act.put,List.setIfInBounds_toArray,List.set_cons_zero,List.set_cons_succ]
     refine wpAnyH_take (i:=10) rfl (by kernel_rfl) (by kernel_rfl) (by kernel_rfl) (fun _ _ _ h=>h) (Or.inl ⟨by rfl,by (intro w hSw;(try dsimp only at hSw);go_simp;try with_reducible rfl)⟩) hS4 ?_
     try simp only [Act.put,List.setIfInBounds_toArray,List.set_cons_zero,List.set_cons_succ]
     refine wpAnyH_take (i:=12) rfl (by kernel_rfl) (by kernel_rfl) (by kernel_rfl) (fun _ _ _ h=>h) (Or.inl ⟨by rfl,by (intro w hSw;(try dsimp only at hSw);go_simp;try with_reducible rfl)⟩) hS4 ?_
     try simp only [Act.put,List.setIfInBounds_toArray,List.set_cons_zero,List.set_cons_succ]
     refine wpAnyH_take (i:=15) rfl (by kernel_rfl) (by kernel_rfl) (by kernel_rfl) (fun _ _ _ h=>h) (Or.inl ⟨by rfl,by (intro w hSw;(try dsimp only at hSw);go_simp;try with_reducible rfl)⟩) hS4 ?_
     try simp only [Act.put,List.setIfInBounds_toArray,List.set_cons_zero,List.set_cons_succ]
     refine wpAnyH_take (i:=16) rfl (by kernel_rfl) (by kernel_rfl) (by kernel_rfl) (fun _ _ _ h=>h) (Or.inl ⟨by rfl,by (intro w hSw;(try dsimp only at hSw);go_simp;try with_reducible rfl)⟩) hS4 ?_
     try simp only [Act.put,List.setIfInBounds_toArray,List.set_cons_zero,List.set_cons_succ]
     refine wpAnyH_ready (rs:=[9]) (by kernel_rfl) (by simp) ?_
     refine AllReadyH.cons rfl (fun K9 hK9=>?_) AllReadyH.nil
     go_simp
     refine (used_p fb _ _ _ UQ _ (show SrcAt Wa.drew fb _ _ _ _ from HS9.out.1)).mono ?_;rintro e w' ⟨rfl,rfl⟩
     refine hK9.out _ _ hS4 (fun _=>?_)
     clear hK9 K9
     try simp only [Act.put,List.setIfInBounds_toArray,List.set_cons_zero,List.set_cons_succ]
     refine wpAnyH_take (i:=11) rfl (by kernel_rfl) (by kernel_rfl) (by kernel_rfl) (fun _ _ _ h=>h) (Or.inl ⟨by rfl,by (intro w hSw;(try dsimp only at hSw);go_simp;try with_reducible rfl)⟩) hS4 ?_
     try simp only [Act.put,List.setIfInBounds_toArray,List.set_cons_zero,List.set_cons_succ]
     refine wpAnyH_take (i:=13) rfl (by kernel_rfl) (by kernel_rfl) (by kernel_rfl) (fun _ _ _ h=>h) (Or.inl ⟨by rfl,by (intro w hSw;(try dsimp only at hSw);go_simp;try with_reducible rfl)⟩) hS4 ?_
     try simp only [Act.put,List.setIfInBounds_toArray,List.set_cons_zero,List.set_cons_succ]
     refine wpAnyH_take (i:=14) rfl (by kernel_rfl) (by kernel_rfl) (by kernel_rfl) (fun _ _ _ h=>h) (Or.inl ⟨by rfl,by (intro w hSw;(try dsimp only at hSw);go_simp;try with_reducible rfl)⟩) hS4 ?_
     try simp only [Act.put,List.setIfInBounds_toArray,List.set_cons_zero,List.set_cons_succ]
     refine wpAnyH_take (i:=17) rfl (by kernel_rfl) (by kernel_rfl) (by kernel_rfl) (fun _ _ _ h=>h) (Or.inl ⟨by rfl,by (intro w hSw;(try dsimp only at hSw);go_simp;try with_reducible rfl)⟩) hS4 ?_
     try simp only [Act.put,List.setIfInBounds_toArray,List.set_cons_zero,List.set_cons_succ]
     refine wpAnyH_ready (rs:=[18]) (by kernel_rfl) (by simp) ?_
     refine AllReadyH.cons rfl (fun K18 hK18=>?_) AllReadyH.nil
     go_simp
     refine hK18.out _ _ (And.intro (cell_alloc _ hS0.1) (And.intro (cell_alloc _ hS0.2.1) (And.intro (cell_alloc _ hS0.2.2) (cell_alloc _ a2)))) (fun _=>?_)
     clear hK18 K18
     try simp only [Act.put,List.setIfInBounds_toArray,List.set_cons_zero,List.set_cons_succ]
     refine wpAnyH_ready (rs:=[19]) (by kernel_rfl) (by simp) ?_
     refine AllReadyH.cons rfl (fun K19 hK19=>?_) AllReadyH.nil
     refine stepR_append_pr _ rfl (.tmp 180) (.tmp 194) 46 rfl 192 B0 Tryz.underlying46 Tryz.info_pair (.slice Al recs.length kl) recs rfl ?_ Wa.heap.size 1 (RR,T.length) rfl ?_ ?_ ?_ ?_;exact HXA.out.o.alloc _;exact Pts.new _ _ _;(have:=HH.out.2.2.1;omega);(show B0≤(Wa.heap.push _).size;rw [Array.size_push];have:=HXA.out.f.size;have:=HH.out.2.1.1;omega)
     intro v12 w12 hown12 hfrm12 hnew12
     obtain ⟨A12,k12,rfl,-,-,-⟩:=hown12.slice
     obtain ⟨hS1,hS2,c12,z12,hend⟩:=xblock_ok (E:=E) (rest:=r.drop q) (rc:=(RR,T.length)) (un:=un) (A:=takeA A7 k7 q) (n:=n7-q) (c:=k7-q) (used:=UQ) HP.out HXA.out hown12 hfrm12.undrew hnew12 HS9.out.1 (by have:=H8.out.1;have:=HQN.out;have:=HS9.out.2.2;omega) (H9.out.2.2.2.2.1.below (HWR.out.2.2.2.1.mono HL.out.2.2.2.2.1) |>.below (HWR.out.2.2.2.2.mono HWR.out.2.2.1)) (by rw [List.length_drop,H8.out.2.2.1]) (by have:=H8.out.2.2.2.1;omega) (by have:=H8.out.2.2.2.2.1;omega) (by rw [HEK.out,HS9.out.2.1]) HH.out.2.1.1 hS0 HH.out.2.1.2.1
     obtain ⟨L12,hL12⟩:∃ L,(recs++[(RR,T.length)]).length=L:=⟨_,rfl⟩
     rw [hL12] at hend hS2
     rw [hL12]
     have HEND:=hid hend
     refine hK19.out _ _ (And.intro hS1.1 (And.intro hS1.2.1 (And.intro hS1.2.2 c12))) (fun _=>?_)
     clear hK19 K19
     clear hown12 hfrm12 hnew12 hL12 hend
     try simp only [Act.put,List.setIfInBounds_toArray,List.set_cons_zero,List.set_cons_succ]
     refine wpAnyH_done (by kernel_rfl) ?_ _
     change wpList _ _ _ _ _ _
     go_wp2
     refine NoPanic.normal ?_
     all_goals
      go_wp2
      refine hold_leave (v:=.int .i64 0) (by simp [results,Tryz.results48,go_sem]) ?_
      exact HEND.out
  have qz:((z:Int) != 0)=true:=bne_iff_ne.2 (by omega)
  have HEF:Hid (E=.err z T):=hid (by
   rcases HDP.out.2.1 with ⟨l,b,e,h1,h2,h3,h4,h5⟩ | ⟨⟨r,h1⟩,h2⟩
   ·rw [HEG.out,HDP.out.1,h4]
   exact absurd (HT6.out.2.1.symm.trans (evErr_zero h2)) hz)
  have HZ:=hid hz
  clear hz
  go_wp2
  refine hold_leave (v:=.int .i64 (z:Int)) (by simp [results,Tryz.results48,go_sem]) ?_
  exact xblock_err2 HEF.out HZ.out H7.out.1
 have qz:((er:Int) != 0)=true:=bne_iff_ne.2 (by omega)
 have HEF:Hid (E=.err er []):=hid (by
  rw [← HEE.out]
  unfold xBody
  rw [if_pos (by simp only;omega)]
  simp)
 have HZ:=hid he
 clear he
 go_wp2
 refine ⟨.int .i64 (er:Int),by simp [results,Tryz.results48,go_sem],?_⟩
 exact xblock_err HEF.out HZ.out HX2.out.f HX2.out.j
end Go.Proofs.YtffehfpbdcokbaaGreat
