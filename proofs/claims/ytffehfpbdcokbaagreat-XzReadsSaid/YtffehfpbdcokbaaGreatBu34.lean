import Derived.Test.YtffehfpbdcokbaaGreatBu16
import Derived.Test.YtffehfpbdcokbaaGreatBu27
import Derived.Test.YtffehfpbdcokbaaGreatBu30
import Derived.Test.YtffehfpbdcokbaaGreatBu33
set_option linter.unusedVariables false
set_option linter.unusedSimpArgs false
namespace Go.Proofs.YtffehfpbdcokbaaGreat
open Lib (hid)
open Go.RowKit Box
theorem OwnPr.rowF {w:World} {T base fb:Nat} {lv:Value} {recs:List (Nat×Nat)} (h:OwnPr w T base lv recs) {c:Array Value} {T':TypeId} (hp:Pts w fb c T') (hT:T≠T') :
 ∃ A cap,lv=.slice A recs.length cap∧PrRow w w.heap.size A recs∧∀ ad,A=some ad→ad.block≠fb:=by
 obtain ⟨h1,h2⟩:=h
 obtain ⟨A,cap,e,_,_,hr⟩:=OwnPr.slice ⟨h1,h2⟩
 refine ⟨A,cap,e,hr,fun ad hA=>?_⟩
 rcases h2 with ⟨hv,_⟩ | ⟨g,cap',cur,hv,hb,hh,r⟩
 ·rw [hv] at e
  injection e with e1
  rw [← e1] at hA
  cases hA
 rw [hv] at e
 injection e with e1
 rw [← e1] at hA
 injection hA with hA
 rw [← hA]
 exact Pts.ne_of (show Pts w g cur T from hh) hp hT
def IndexEnd (fb un B0:Nat) (E:Nat ⊕ (Nat×List UInt8)) (w:World) (e:Ending) (w':World):Prop :=
 Frm (· = fb) w w'∧match E with
  | .inl z=>e=.returned (.tuple #[.int .i64 0,.int .i64 (z:Int)])
  | .inr (size,r)=>e=.returned (.tuple #[.int .i64 (size:Int),.int .i64 0])∧∃ A n c used,SrcAt w' fb A n c used∧used+n=un∧BRow w' B0 A r∧n=r.length∧n≤c∧c≤maxLen
theorem indexEnd_err {fb un B0 z:Nat} {E:Nat ⊕ (Nat×List UInt8)} {w w':World} (h:E=.inl z) (hf:Frm (· = fb) w w'):IndexEnd fb un B0 E w (.returned (.tuple #[.int .i64 0,.int .i64 (z:Int)])) w':=by
 subst h
 exact ⟨hf,rfl⟩
set_option maxRecDepth 100000 in
set_option maxHeartbeats 8000000 in
theorem xindex_p (rb fb bud un B0 base0:Nat) (put hold:Value) (kind:Int) (told:Nat) (lv:Value) (recs:List (Nat×Nat)) (A:Option Addr) (n c used:Nat) (bs:List UInt8) (w:World)
 (hr:RxAt w rb fb bud put hold kind told lv) (hne:rb≠fb) (h:SrcAt w fb A n c used) (hn:n=bs.length) (hb:BRow w B0 A bs) (hB0:B0≤w.heap.size∧B0≤fb) (hc:n≤c) (hcm:c≤maxLen) (hu:used+n=un) (hub:un≤4611686018427387904)
 (hl:n≤1000000000) (h1:1≤n) (ho:OwnPr w 192 base0 lv recs) (hrl:recs.length≤1000000000) :
 Calls Tryz.prog 49 #[.pointer (some ⟨rb,0,none⟩)] w (IndexEnd fb un B0 (xIndex recs bs) w):=by
 obtain ⟨Ar,kr,rfl,hpr,hprn⟩:=ho.rowF h (by decide)
 have hrc:=hr.cells.2.2.2.2.2.2
 have HRX:=hid (And.intro hr (And.intro hne h))
 have HPR:=hid (And.intro hpr hprn)
 have HB:Hid (BRow w B0 A bs∧(B0≤w.heap.size∧B0≤fb)∧n=bs.length∧n≤c∧c≤maxLen∧used+n=un∧un≤4611686018427387904∧n≤1000000000∧1≤n):=hid ⟨hb,hB0,hn,hc,hcm,hu,hub,hl,h1⟩
 obtain ⟨E,hE⟩:∃ E,xIndex recs bs=E:=⟨_,rfl⟩
 rw [hE]
 have HE:=hid hE
 have rb6:∀ W,Frm (· = fb) w W→W.cell? ⟨rb,6,none⟩=some (.slice Ar recs.length kr):=fun W hf=>by
  rw [(Pts.frm HRX.out.1 hf HRX.out.2.1).cell];rfl
 have RB6:=hid rb6
 have hwl:IntKind.u64.wrap (recs.length:Int)=(recs.length:Int):=Go.IntWalk.u64_in _ (by omega)
 obtain ⟨RL,hRL⟩:∃ RL,recs.length=RL:=⟨_,rfl⟩
 have HRL:=hid (And.intro hRL hrl)
 rw [hRL] at hwl
 rw [hRL] at hrc rb6 RB6 HRX
 have hfl:=Pts.lt h
 have hrl2:=Pts.lt hr
 have HLT:=hid (And.intro hfl hrl2)
 obtain ⟨W0,hW0⟩:∃ W,w.alloc (.cells #[.slice none 0 0] 22)=W:=⟨_,rfl⟩
 have hs0:W0.heap.size=w.heap.size+1:=by rw [← hW0];simp only [World.size_alloc]
 have hP0:Pts W0 w.heap.size #[.slice none 0 0] 22:=by rw [← hW0];exact Pts.new w _ _
 have hBe0:Below w.heap.size w W0:=by rw [← hW0];exact (Below.refl _ w).alloc (Nat.le_refl _) _
 have HT:=rtake_p rb fb bud put hold kind told (.slice Ar RL kr) A n c used 1 W0 (by rw [← hRL];exact Pts.below hr hBe0 hrl2) (Pts.below h hBe0 hfl) hc h1 (by omega)
 have HTT:=hid HT
 have HP0:=hid (And.intro hP0 (And.intro hBe0 hs0))
 have hp0c:W0.cell? ⟨w.heap.size,0,none⟩=some (.slice none 0 0):=by rw [hP0.cell];rfl
 clear hr hne h hn hb hB0 hc hcm hu hub hl h1 ho hrl hrc hE hpr hprn hRL hs0 hP0 hBe0 rb6 hfl hrl2 HT
 go_enter Tryz.func49,Tryz.ntmps49
 go_wp2_with fail
 try rw [hW0]
 refine HTT.out.mono ?_;rintro e w1 ⟨rfl,hs1,hf1⟩
 have hP1:=HP0.out.1.frm hf1 (by have:=HLT.out.1;omega)
 have hp1c:w1.cell? ⟨w.heap.size,0,none⟩=some (.slice none 0 0):=by rw [hP1.cell];rfl
 have hz1:=hP1.frozen 0
 have hF1:Frm (· = fb) w w1:=(Frm.of_below HP0.out.2.1).transW hf1 (fun q hq _=>hq)
 have hrow0:BRow w1 B0 A bs:=(HB.out.1.below (HP0.out.2.1.mono HB.out.2.1.1)).below (hf1.below (by have:=HB.out.2.1.1;have:=HP0.out.2.2;omega) (fun q hq=>by have:=HB.out.2.1.2;omega))
 have ht1:(bs.take 1).length=1:=by rw [List.length_take];have:=HB.out.2.2.1;have:=HB.out.2.2.2.2.2.2.2.2;omega
 have HW1:Hid (SrcAt w1 fb (takeA A c 1) (n-1) (c-1) (used+1)∧Pts w1 w.heap.size #[.slice none 0 0] 22∧Frm (· = fb) w w1∧BRow w1 B0 A bs):=hid ⟨hs1,hP1,hF1,hrow0⟩
 have HT1:=hid ht1
 clear hs1 hf1 hP1 hF1 hrow0 ht1 HTT HP0 hp0c hW0
 go_wp2_with (at_builtin;refine wpList_append_bytes _ rfl (.tmp 18) (.tmp 19) 22 rfl 5 w.heap.size Tryz.underlying22 Tryz.info_u8 (.slice none 0 0) [] rfl ?own1 A 1 1 B0 (bs.take 1) rfl ?lenn1 ?row1 ?len1 ?base1 ?next1)
 case own1=>exact OwnB.nil _ _ _
 case lenn1=>exact HT1.out.symm
 case row1=>exact HW1.out.2.2.2.take 1
 case len1=>rw [HT1.out];decide
 case base1=>exact HW1.out.2.2.1.size
 case next1 =>
 intro v2 w2 hown2 hfrm2 hnew2
 obtain ⟨A2,k2,hv2,-,-,-⟩:=hown2.slice
 rw [HT1.out] at hv2
 subst hv2
 have hfw:Frm (fun _=>False) w1 w2:=hfrm2.mono (fun q _ hq=>by cases hq)
 have hP2:=HW1.out.2.1.frm hfw (fun h=>h)
 have hp2c:w2.cell? ⟨w.heap.size,0,none⟩=some (.slice none 0 0):=by rw [hP2.cell];rfl
 have hz2:=hP2.frozen 0
 have hv2ne:(Value.slice A2 1 k2).ownBlock≠some w.heap.size:=by
  have:=HW1.out.2.1.lt
  rcases hnew2 with e | e
  ·rw [e];intro h;cases h
  rw [e];intro h;injection h with h;omega
 obtain ⟨W3,hW3⟩:∃ W,w2.setCell ⟨w.heap.size,0,none⟩ (.slice A2 1 k2)=W:=⟨_,rfl⟩
 have hf23:Frm (fun q=>q=w.heap.size) w2 W3:=by rw [← hW3];exact (Frm.refl (fun q=>q=w.heap.size) w2).setCell (p:=⟨w.heap.size,0,none⟩) rfl (.slice A2 1 k2)
 have hfne:fb≠w.heap.size:=by have:=HLT.out.1;omega
 have hx3:IxR w fb w.heap.size un B0 bs (bs.take 1) (bs.drop 1) (.slice A2 1 k2) W3:=by
  refine ⟨⟨_,_,_,_,(Pts.frm HW1.out.1 hfw (fun h=>h)).frm hf23 hfne,?_,?_,?_,?_,?_⟩,?_,?_,?_,List.take_append_drop 1 bs⟩
  ·have:=HB.out.2.2.2.2.2.1;have:=HB.out.2.2.2.2.2.2.2.2;omega
  ·have h3:=BRow.drop HW1.out.2.2.2 (k:=1) (cap:=c) (by have:=HB.out.2.2.1;have:=HB.out.2.2.2.1;omega)
   exact (h3.below (hfw.below (Nat.le_trans HB.out.2.1.1 HW1.out.2.2.1.size) (fun _ h=>h.elim))).below (hf23.below (by have:=hfw.size;have:=HW1.out.2.2.1.size;have:=HB.out.2.1.1;omega) (fun q hq=>by have:=HB.out.2.1.1;omega))
  ·rw [List.length_drop,HB.out.2.2.1]
  ·have:=HB.out.2.2.2.1;omega
  ·have:=HB.out.2.2.2.2.1;omega
  ·rw [← hW3];exact hP2.set 0 (.slice A2 1 k2)
  ·exact hown2.frm hf23 (fun k hk e=>hv2ne (by rw [hk,e]))
  exact (HW1.out.2.2.1.trans (hfw.mono (fun q _ h=>h.elim))).transW hf23 (fun q hq hlt=>by omega)
 have r63:=RB6.out W3 hx3.f
 have HX3:=hid hx3
 clear hown2 hfrm2 hnew2 hfw hP2 hv2ne hf23 hx3 HW1
 go_wp2_with fail
 try rw [hW3]
 clear hW3 hp2c hz2 hp1c hz1
 refine (num_step rb fb bud w.heap.size un B0 put hold kind told _ (.slice A2 1 k2) RL bs _ _ w W3 HRX.out.1 HRX.out.2.1 HX3.out HB.out.2.1 (Nat.le_refl _) HB.out.2.2.2.2.2.2.1 (by have:=HB.out.2.2.1;have:=HB.out.2.2.2.2.2.2.2.1;omega)).mono ?_
 rintro e w4 ⟨z,rfl,hz0,hzn⟩
 have hfr4:Frm (· = fb) w w4:=by
  by_cases hz:z=0
  ·obtain ⟨_,_,_,_,hx⟩:=hz0 hz;exact hx.f
  exact (hzn hz).2
 have r64:=RB6.out w4 hfr4
 have hst:Frm (· = fb) w w4∧(z=0→∃ got r v,xNums ((recN recs).take (1+2*0)) (bs.drop 1)=.inr r∧IxR w fb w.heap.size un B0 bs got r v w4)∧(z≠0→xNums (recN recs) (bs.drop 1)=.inl z):=by
  refine ⟨hfr4,fun hz=>?_,fun hz=>?_⟩
  ·obtain ⟨got',r',v',h3,h4⟩:=hz0 hz
   refine ⟨got',r',v',?_,h4⟩
   show xNums [recs.length] (bs.drop 1)=_
   rw [xNums_one,HRL.out.1,h3]
  show xNums (recs.length::_) (bs.drop 1)=_
  rw [xNums_cons,HRL.out.1,(hzn hz).1]
 have hrlb:RL≤1000000000:=by have:=HRL.out;omega
 have HST:=hid hst
 clear hz0 hzn hst HX3 r63 hfr4
 go_wp2
 go_loopw [6,36] (fun ev iv wr=>∃ (k z:Nat),ev=.int .i64 (z:Int)∧iv=.int .i64 (k:Int)∧k≤RL∧Frm (· = fb) w wr∧(z=0→∃ got r v,xNums ((recN recs).take (1+2*k)) (bs.drop 1)=.inr r∧IxR w fb w.heap.size un B0 bs got r v wr)∧(z≠0→xNums (recN recs) (bs.drop 1)=.inl z)) (fun _ iv _=>RL-(intOf iv).toNat)
 case atStart=>exact ⟨0,z,rfl,rfl,Nat.zero_le _,HST.out⟩
 case round =>
 obtain ⟨k,z,rfl,rfl,hk,hfr,hz0,hzn⟩:=hrel
 clear HST
 have HZ:=hid (And.intro hfr (And.intro hz0 hzn))
 clear hfr hz0 hzn
 by_cases hkl:k<RL
 ·have hkr:k<recs.length:=by have:=HRL.out.1;omega
  obtain ⟨ba,off,hArr,hba,hcell⟩:=HPR.out.1 (by omega)
  obtain ⟨k0,k1⟩:=hcell k hkr
  obtain ⟨⟨p,q⟩,hpq⟩:∃ pq,recs.getD k (0,0)=pq:=⟨_,rfl⟩
  rw [hpq] at k0 k1
  have hfk:=HZ.out.1.block ba hba (HPR.out.2 _ hArr)
  have d0:wr.cell? ⟨ba,off+k*2,none⟩=some (.int .u64 (p:Int)):=(World.cell?_of_block hfk).trans k0
  have d1:wr.cell? ⟨ba,off+k*2+1,none⟩=some (.int .u64 (q:Int)):=(World.cell?_of_block hfk).trans k1
  subst hArr
  have HPQ:=hid (And.intro hpq hkr)
  clear hpq hkr hcell k0 k1 hfk hba
  obtain ⟨W5,hW5⟩:∃ W,wr.alloc (.cells #[.int .u64 (p:Int),.int .u64 (q:Int)] 192)=W:=⟨_,rfl⟩
  have hb5:Below wr.heap.size wr W5:=by rw [← hW5];exact (Below.refl _ wr).alloc (Nat.le_refl _) _
  have hst5:Frm (· = fb) w W5∧(z=0→∃ got r v,xNums ((recN recs).take (1+2*k+0)) (bs.drop 1)=.inr r∧IxR w fb w.heap.size un B0 bs got r v W5)∧(z≠0→xNums (recN recs) (bs.drop 1)=.inl z):=by
   refine ⟨HZ.out.1.trans (Frm.of_below hb5),fun hz=>?_,HZ.out.2.2⟩
   obtain ⟨got,r,v,h3,h4⟩:=HZ.out.2.1 hz
   exact ⟨got,r,v,h3,h4.still HB.out.2.1.1 hb5⟩
  have HST5:=hid hst5
  have hp5:Pts W5 wr.heap.size #[.int .u64 (p:Int),.int .u64 (q:Int)] 192:=by rw [← hW5];exact Pts.new wr _ _
  have e0:W5.cell? ⟨wr.heap.size,0,none⟩=some (.int .u64 (p:Int)):=by rw [hp5.cell];rfl
  have e1:W5.cell? ⟨wr.heap.size,1,none⟩=some (.int .u64 (q:Int)):=by rw [hp5.cell];rfl
  clear hp5
  clear hst5 hb5 HZ
  go_wp2
  try rw [hW5]
  clear hW5
  go_loopw [6,41] (fun ev jv wx=>∃ (j z:Nat),ev=.int .i64 (z:Int)∧jv=.int .i64 (j:Int)∧j≤2∧Frm (· = fb) w wx∧(z=0→∃ got r v,xNums ((recN recs).take (1+2*k+j)) (bs.drop 1)=.inr r∧IxR w fb w.heap.size un B0 bs got r v wx)∧(z≠0→xNums (recN recs) (bs.drop 1)=.inl z)) (fun _ jv _=>2-(intOf jv).toNat)
  case atStart=>exact ⟨0,z,rfl,rfl,by decide,HST5.out⟩
  case round =>
  obtain ⟨j,z1,rfl,rfl,hj,hfr1,hz1,hzn1⟩:=hrel
  clear HST5
  have HZ1:=hid (And.intro hfr1 (And.intro hz1 hzn1))
  clear hfr1 hz1 hzn1 d0 d1 e0 e1
  by_cases hj2:j<2
  ·by_cases hz:z1=0
   ·subst hz
    obtain ⟨got,r,v,h3,h4⟩:=HZ1.out.2.1 rfl
    have HS1:Hid (∀ want,want=(if j=0 then (recs.getD k (0,0)).1 else (recs.getD k (0,0)).2)→Calls Tryz.prog 92 #[.pointer (some ⟨rb,0,none⟩),.pointer (some ⟨w.heap.size,0,none⟩),.int .u64 (want:Int)] wr (fun e w'=>∃ z2:Nat,e=.returned (.int .i64 (z2:Int))∧Frm (· = fb) w w'∧(z2=0→∃ got r v,xNums ((recN recs).take (1+2*k+(j+1))) (bs.drop 1)=.inr r∧IxR w fb w.heap.size un B0 bs got r v w')∧(z2≠0→xNums (recN recs) (bs.drop 1)=.inl z2))):=by
     refine hid fun want hw=>?_
     refine (num_step rb fb bud w.heap.size un B0 put hold kind told _ v want bs got r w wr HRX.out.1 HRX.out.2.1 h4 HB.out.2.1 (Nat.le_refl _) HB.out.2.2.2.2.2.2.1 (by have:=HB.out.2.2.1;have:=HB.out.2.2.2.2.2.2.2.1;omega)).mono ?_
     rintro e w6 ⟨z2,rfl,h5,h6⟩
     have htk:=recN_take recs HPQ.out.2 hj2 hw
     have hsn:=xNums_snoc want ((recN recs).take (1+2*k+j)) (bs.drop 1)
     rw [← htk,h3] at hsn
     refine ⟨z2,rfl,?_,fun hz=>?_,fun hz=>?_⟩
     ·by_cases hz:z2=0
      ·obtain ⟨_,_,_,_,h⟩:=h5 hz;exact h.f
      exact (h6 hz).2
     ·obtain ⟨g',r',v',h7,h8⟩:=h5 hz
      exact ⟨g',r',v',hsn.trans h7,h8⟩
     have h9:=xNums_stop _ ((recN recs).drop (1+2*k+j+1)) _ (hsn.trans (h6 hz).1)
     rwa [List.take_append_drop] at h9
    clear h3 h4 HZ1
    have hj01:j=0∨j=1:=by omega
    rcases hj01 with rfl | rfl
    ·have hix:∀ w,(Instr.index 192 (.agg #[.int .u64 (p:Int),.int .u64 (q:Int)]) (.int .i64 0)).run Tryz.prog w=.ok (.int .u64 (p:Int)) w:=fun _=>by kernel_rfl
     have HN:=HS1.out p (by rw [if_pos rfl,HPQ.out.1])
     have HNN:=hid HN
     clear HN HS1
     go_wp2_with fail
     refine HNN.out.mono ?_;rintro e w6 ⟨z2,rfl,h5⟩
     have HZ2:=hid h5
     clear h5
     go_wp2
     exact ⟨⟨1,z2,rfl,rfl,by decide,HZ2.out⟩,by simp [intOf]⟩
    have hix:∀ w,(Instr.index 192 (.agg #[.int .u64 (p:Int),.int .u64 (q:Int)]) (.int .i64 1)).run Tryz.prog w=.ok (.int .u64 (q:Int)) w:=fun _=>by kernel_rfl
    have HN:=HS1.out q (by rw [if_neg (by decide),HPQ.out.1])
    have HNN:=hid HN
    clear HN HS1
    go_wp2_with fail
    refine HNN.out.mono ?_;rintro e w6 ⟨z2,rfl,h5⟩
    have HZ2:=hid h5
    clear h5
    go_wp2
    exact ⟨⟨2,z2,rfl,rfl,by decide,HZ2.out⟩,by simp [intOf]⟩
   have qz:((z1:Int) != 0)=true:=bne_iff_ne.2 (by omega)
   have HEE:Hid (E=.inl z1):=hid (by rw [← HE.out];unfold xIndex;rw [HZ1.out.2.2 hz])
   clear hz
   have hj01:j=0∨j=1:=by omega
   rcases hj01 with rfl | rfl
   ·have hix:∀ w,(Instr.index 192 (.agg #[.int .u64 (p:Int),.int .u64 (q:Int)]) (.int .i64 0)).run Tryz.prog w=.ok (.int .u64 (p:Int)) w:=fun _=>by kernel_rfl
    go_wp2
    go_ret2
    exact indexEnd_err HEE.out HZ1.out.1
   have hix:∀ w,(Instr.index 192 (.agg #[.int .u64 (p:Int),.int .u64 (q:Int)]) (.int .i64 1)).run Tryz.prog w=.ok (.int .u64 (q:Int)) w:=fun _=>by kernel_rfl
   go_wp2
   go_ret2
   exact indexEnd_err HEE.out HZ1.out.1
  obtain rfl:j=2:=by omega
  clear hj2
  go_wp2
  exact ⟨⟨k+1,z1,rfl,by go_num,by omega,HZ1.out⟩,by simp [intOf];omega⟩
 obtain rfl:k=RL:=by omega
 clear hk hkl
 by_cases hz:z=0
 ·subst hz
  obtain ⟨got,r,v,h3,h4⟩:=HZ.out.2.1 rfl
  have hall:xNums (recN recs) (bs.drop 1)=.inr r:=by
   rw [← h3,List.take_of_length_le]
   rw [recN_len];have:=HRL.out.1;omega
  obtain ⟨Ag,kg,hv,-,-,hgr⟩:=h4.o.slice
  obtain ⟨U,hU⟩:∃ U,got.length=U:=⟨_,rfl⟩
  rw [hU] at hv
  subst hv
  have hgl:U+r.length=bs.length:=by rw [← hU,← h4.e,List.length_append]
  have hbl:=HB.out.2.2.1
  have hbl2:=HB.out.2.2.2.2.2.2.2.1
  have gc:wr.cell? ⟨w.heap.size,0,none⟩=some (.slice Ag U kg):=by rw [h4.p.cell];rfl
  have gz:=h4.p.frozen 0
  obtain ⟨pad,hpad⟩:∃ pad,padOf U=pad:=⟨_,rfl⟩
  have hp4:pad<4:=by rw [← hpad];unfold padOf;omega
  have huw:IntKind.i64.wrap (-(U:Int)) = -(U:Int):=Go.IntWalk.i64_in _ (by omega)
  have hp3:bits .and .i64 (-(U:Int)) 3=(pad:Int):=by rw [i64_and3,← hpad];unfold padOf;omega
  obtain ⟨q4,hq4⟩:∃ q4,pad+4=q4:=⟨_,rfl⟩
  have hp44:((pad:Int)+4)=(q4:Int):=by omega
  have hqw:IntKind.i64.wrap (q4:Int)=(q4:Int):=Go.IntWalk.i64_in _ (by omega)
  obtain ⟨A6,n6,c6,u6,hs6,hu6,hr6,hn6,hc6,hm6⟩:=h4.s
  have hxi:xIndex recs bs=if r.length<q4 then .inl 10 else if r.take pad≠List.replicate pad 0∨sealB (bs.take (U+pad))≠(r.drop pad).take 4 then .inl 11 else .inr (U+q4,r.drop q4):=by
   unfold xIndex
   rw [hall]
   simp only
   rw [show bs.length-r.length=U by omega,hpad,hq4,show U+pad+4=U+q4 by omega]
  rw [HE.out] at hxi
  have H4:=hid h4
  have HS6:Hid (SrcAt wr fb A6 n6 c6 u6∧u6+n6=un∧BRow wr B0 A6 r∧n6=r.length∧n6≤c6∧c6≤maxLen):=hid ⟨hs6,hu6,hr6,hn6,hc6,hm6⟩
  have HXI:=hid hxi
  have HGR:=hid (And.intro hgr (And.intro hgl (And.intro hU (And.intro hpad hq4))))
  have hRX:=(Pts.frm HRX.out.1 HZ.out.1 HRX.out.2.1:RxAt wr rb fb bud put hold kind told _)
  have HRW:=hid hRX
  clear h3 h4 hall hgr hU hgl hpad hq4 hs6 hu6 hr6 hc6 hm6 hxi hbl hRX
  by_cases hsh:n6<q4
  ·have HEE:Hid (E=.inl 10):=hid (by rw [HXI.out,if_pos (by omega)])
   have HTN:=hid (rtake_no rb fb bud put hold kind told _ A6 n6 c6 u6 q4 wr HRW.out HS6.out.1 hsh)
   clear hsh hn6
   go_wp2_with fail
   refine HTN.out.mono ?_;rintro e w7 ⟨rfl,rfl⟩
   go_wp2
   go_ret2
   exact indexEnd_err HEE.out HZ.out.1
  have HXJ:Hid (E=if r.take pad≠List.replicate pad 0∨sealB (bs.take (U+pad))≠(r.drop pad).take 4 then .inl 11 else .inr (U+q4,r.drop q4)):=hid (by rw [HXI.out,if_neg (by omega)])
  have HTP:=hid (rtake_p rb fb bud put hold kind told _ A6 n6 c6 u6 q4 wr HRW.out HS6.out.1 HS6.out.2.2.2.2.1 (by omega) (by have:=HS6.out.2.1;have:=HB.out.2.2.2.2.2.2.1;omega))
  have HN6:=hid (show q4≤n6 by omega)
  clear hsh hn6 HXI
  go_wp2_with fail
  refine HTP.out.mono ?_;rintro e w7 ⟨rfl,hs7,hf7⟩
  have hp7:=H4.out.p.frm hf7 (fun e=>hfne e.symm)
  have ho7:=H4.out.o.frm hf7 (fun k hk e=>by have:=(H4.out.o.lt hk).1;have:=HLT.out.1;omega)
  have hF7:Frm (· = fb) w w7:=HZ.out.1.trans hf7
  have hB07:B0≤w7.heap.size:=Nat.le_trans HB.out.2.1.1 hF7.size
  have hr7:BRow w7 B0 A6 r:=HS6.out.2.2.1.below (hf7.below (Nat.le_trans HB.out.2.1.1 HZ.out.1.size) (fun q hq=>by have:=HB.out.2.1.2;omega))
  have hrt:BRow w7 B0 A6 (r.take pad):=hr7.take pad
  have hrd:BRow w7 B0 (takeA A6 c6 q4) (r.drop q4):=hr7.drop (by have:=HS6.out.2.2.2.1;have:=HS6.out.2.2.2.2.1;omega)
  have hpq:pad+4=q4:=HGR.out.2.2.2.2
  have hr8:BRow w7 B0 (A6.map (·.add pad)) ((r.drop pad).take 4):=by
   have h8:=(hr7.take q4).drop (k:=pad) (cap:=q4) (by rw [List.length_take];omega)
   rw [if_neg (by omega),List.drop_take,show q4-pad=4 by omega] at h8
   exact h8
  obtain ⟨A8,hA8⟩:∃ A8,A6.map (·.add pad)=A8:=⟨_,rfl⟩
  rw [hA8] at hr8
  have hsl1:∀ w,(Instr.sliceAt 22 (.slice A6 q4 q4) none (some (.int .i64 (pad:Int))) none).run Tryz.prog w=.ok (.slice A6 pad q4) w:=fun w=>slice_toX A6 q4 q4 pad (by omega) (Nat.le_refl _) w
  have hsl2:∀ w,(Instr.sliceAt 22 (.slice A6 q4 q4) (some (.int .i64 (pad:Int))) none none).run Tryz.prog w=.ok (.slice A8 4 4) w:=fun w=>by
   have h8:=slice_fromX A6 q4 q4 pad (by omega) (Nat.le_refl _) w
   rw [if_neg (by omega),show q4-pad=4 by omega,hA8] at h8
   exact h8
  have hlt:(r.take pad).length=pad:=by rw [List.length_take];have:=HN6.out;have:=HS6.out.2.2.2.1;omega
  have hld:((r.drop pad).take 4).length=4:=by rw [List.length_take,List.length_drop];have:=HN6.out;have:=HS6.out.2.2.2.1;omega
  have hgt:got++r.take pad=bs.take (U+pad):=by
   rw [← H4.out.e,List.take_append,HGR.out.2.2.1,show U+pad-U=pad by omega,List.take_of_length_le (l:=got) (by rw [HGR.out.2.2.1];omega)]
  have gc7:w7.cell? ⟨w.heap.size,0,none⟩=some (.slice Ag U kg):=by rw [hp7.cell];rfl
  have H7:Hid (Pts w7 w.heap.size #[.slice Ag U kg] 22∧OwnB w7 5 w.heap.size (.slice Ag U kg) got∧Frm (· = fb) w w7∧B0≤w7.heap.size∧BRow w7 B0 A6 (r.take pad)∧BRow w7 B0 (takeA A6 c6 q4) (r.drop q4)∧BRow w7 B0 A8 ((r.drop pad).take 4)∧SrcAt w7 fb (takeA A6 c6 q4) (n6-q4) (c6-q4) (u6+q4)):=hid ⟨hp7,ho7,hF7,hB07,hrt,hrd,hr8,hs7⟩
  have HL7:=hid (And.intro hlt (And.intro hld hgt))
  have gz7:=hp7.frozen 0
  clear hp7 ho7 hF7 hB07 hr7 hrt hrd hr8 hs7 hf7 hlt hld hgt hA8 hpq HTP H4 HZ gc gz
  obtain ⟨P1,hP1⟩:∃ P1,r.take pad=P1:=⟨_,rfl⟩
  obtain ⟨P2,hP2⟩:∃ P2,(r.drop pad).take 4=P2:=⟨_,rfl⟩
  obtain ⟨T8,hT8⟩:∃ T8,bs.take (U+pad)=T8:=⟨_,rfl⟩
  rw [hP1,hP2] at H7
  rw [hP1,hP2,hT8] at HL7
  rw [hP1,hP2,hT8] at HXJ
  have HT8:=hid hT8
  clear hP1 hP2 hT8
  go_wp2
  refine QTail.wp_region_qtail_lit 4 (by kernel_rfl) (by kernel_rfl) ?_
  simp only [List.take_succ_cons,List.take_zero,List.drop_succ_cons,List.drop_zero]
  repeat (go_big_quiet_step (fail))
  refine wpQuiet_nil ?_
  rintro w' ⟨nq,rfl⟩
  go_wp2_with (at_builtin;refine wpList_append_bytes _ rfl (.tmp 69) (.tmp 72) 22 rfl 5 w.heap.size Tryz.underlying22 Tryz.info_u8 (.slice Ag U kg) got rfl ?own9 A6 pad q4 B0 P1 rfl ?lenn9 ?row9 ?len9 ?base9 ?next9)
  case own9=>exact H7.out.2.1.drewN nq
  case lenn9=>exact HL7.out.1.symm
  case row9=>exact H7.out.2.2.2.2.1.drewN nq
  case len9=>rw [HGR.out.2.2.1,HL7.out.1];have:=HGR.out.2.1;have:=HB.out.2.2.1;omega
  case base9=>exact H7.out.2.2.1.size
  case next9 =>
  intro v9 w9 hown9 hfrm9 hnew9
  rw [HL7.out.2.2] at hown9
  have hTl:T8.length=U+pad:=by rw [← HT8.out,List.length_take];have:=HGR.out.2.1;have:=HN6.out;have:=HS6.out.2.2.2.1;have:=HGR.out.2.2.2.2;omega
  obtain ⟨L8,hL8⟩:∃ L,U+pad=L:=⟨_,rfl⟩
  rw [hL8] at hTl
  obtain ⟨A9,k9,hv9,-,-,-⟩:=hown9.slice
  rw [hTl] at hv9
  subst hv9
  have hne9:(Value.slice A9 L8 k9).ownBlock≠some w.heap.size:=by
   have h1:=H7.out.1.lt
   have h2:(Value.slice Ag U kg).ownBlock≠some w.heap.size:=by
    intro hk
    rcases H7.out.2.1.form with ⟨h3,_⟩ | ⟨g,cap,cur,h3,_,hh,_⟩
    ·rw [h3] at hk;cases hk
    rw [h3] at hk
    injection hk with hk
    subst hk
    exact Pts.ne_of (show Pts w7 w.heap.size _ _ from hh) H7.out.1 (by decide) rfl
   rcases hnew9 with e | e
   ·rw [e];exact h2
   rw [e];intro h;injection h with h;have h5:w7.heap.size=w.heap.size:=h;omega
  have hg9:∀ q,(Value.slice Ag U kg).ownBlock=some q→w.heap.size≤q:=fun q hq=>(H7.out.2.1.lt hq).1
  have hp9:Pts w9 w.heap.size #[.slice Ag U kg] 22:=(H7.out.1.drewN nq).frm hfrm9 (fun hk=>by
   rcases H7.out.2.1.form with ⟨h3,_⟩ | ⟨g,cap,cur,h3,_,hh,_⟩
   ·rw [h3] at hk;cases hk
   rw [h3] at hk
   injection hk with hk
   subst hk
   exact Pts.ne_of (show Pts w7 w.heap.size _ _ from hh) H7.out.1 (by decide) rfl)
  have gc9:w9.cell? ⟨w.heap.size,0,none⟩=some (.slice Ag U kg):=by rw [hp9.cell];rfl
  have gz9:=hp9.frozen 0
  obtain ⟨W10,hW10⟩:∃ W,w9.setCell ⟨w.heap.size,0,none⟩ (.slice A9 L8 k9)=W:=⟨_,rfl⟩
  have hf10:Frm (fun q=>w.heap.size≤q) w7 W10:=by
   rw [← hW10]
   exact (((Frm.refl (fun q=>w.heap.size≤q) w7).drewN nq).trans (hfrm9.mono fun q _ hq=>hg9 q hq)).setCell (p:=⟨w.heap.size,0,none⟩) (Nat.le_refl _) _
  have hB10:∀ q,w.heap.size≤q→B0≤q:=fun q hq=>Nat.le_trans HB.out.2.1.1 hq
  have hp10:Pts W10 w.heap.size #[.slice A9 L8 k9] 22:=by rw [← hW10];exact hp9.set 0 _
  have ho10:OwnB W10 5 w.heap.size (.slice A9 L8 k9) T8:=by rw [← hW10];exact hown9.other (p:=⟨w.heap.size,0,none⟩) hne9 _
  have hr10:BRow W10 W10.heap.size A9 T8:=by
   obtain ⟨A',k',e',-,-,h⟩:=ho10.slice
   injection e' with e1
   rw [e1];exact h
  have gc10:W10.cell? ⟨w.heap.size,0,none⟩=some (.slice A9 L8 k9):=by rw [hp10.cell];rfl
  have hfb10:¬ (w.heap.size≤fb):=by have:=HLT.out.1;omega
  have H10:Hid (BRow W10 W10.heap.size A9 T8∧Frm (· = fb) w W10∧BRow W10 B0 A6 P1∧BRow W10 B0 A8 P2∧BRow W10 B0 (takeA A6 c6 q4) (r.drop q4)∧SrcAt W10 fb (takeA A6 c6 q4) (n6-q4) (c6-q4) (u6+q4)∧B0≤W10.heap.size∧T8.length=L8) :=
   hid ⟨hr10,H7.out.2.2.1.transW hf10 (fun q hq hlt=>by omega),H7.out.2.2.2.2.1.below (hf10.below H7.out.2.2.2.1 hB10),H7.out.2.2.2.2.2.2.1.below (hf10.below H7.out.2.2.2.1 hB10),H7.out.2.2.2.2.2.1.below (hf10.below H7.out.2.2.2.1 hB10),Pts.frm H7.out.2.2.2.2.2.2.2 hf10 hfb10,Nat.le_trans H7.out.2.2.2.1 hf10.size,hTl⟩
  have HL8:=hid hL8
  clear hown9 hfrm9 hnew9 hTl hL8 hne9 hg9 hp9 hf10 hB10 hp10 ho10 hr10 hfb10 gc7 gz7 H7
  have hmk:=made_bytes pad (by omega)
  obtain ⟨Wa,hWa⟩:∃ W,W10.drew.alloc (.cells (madeCells #[.int .u8 0] pad) 5)=W:=⟨_,rfl⟩
  have hba:Below W10.heap.size W10 Wa:=by rw [← hWa];exact ((Below.refl _ W10).drew).alloc (Nat.le_refl _) _
  have hza:BRow Wa Wa.heap.size (some ⟨W10.heap.size,0,none⟩) (List.replicate pad 0):=by rw [← hWa];exact noughts_row pad W10.drew
  have hEQ:=equal_p A6 (some ⟨W10.heap.size,0,none⟩) P1 (List.replicate pad 0) pad q4 pad pad Wa.heap.size Wa HL7.out.1.symm ((H10.out.2.2.1.below (hba.mono H10.out.2.2.2.2.2.2.1)).more (Nat.le_trans H10.out.2.2.2.2.2.2.1 hba.size)) (by simp) hza
  have gca:Wa.cell? ⟨w.heap.size,0,none⟩=some (.slice A9 L8 k9):=(hba.cell (p:=⟨w.heap.size,0,none⟩) (World.block_lt_of_cell? W10 ⟨w.heap.size,0,none⟩ gc10)).trans gc10
  obtain ⟨b1,hb1⟩:∃ b,(P1==List.replicate pad 0)=b:=⟨_,rfl⟩
  rw [hb1] at hEQ
  have HEQ:=hid hEQ
  have HBA:=hid hba
  have HB1:=hid hb1
  clear hba hza hEQ hb1
  cases b1 with
  | false =>
   have HEE:Hid (E=.inl 11):=hid (by rw [HXJ.out,if_pos (.inl (by simpa using HB1.out))])
   go_wp2
   refine wp_region_any (by kernel_rfl) ?_
   change wpAny _ _ _ _ _ _ _ (World.drew _)
   refine wpAny_take (i:=0) rfl (by kernel_rfl) (by kernel_rfl) (by kernel_rfl) (fun _ _ _ h=>h) (Or.inl ⟨by rfl,by (intro w;go_simp;try with_reducible rfl)⟩) ?_
   go_simp
   refine wpAny_take (i:=1) rfl (by kernel_rfl) (by kernel_rfl) (by kernel_rfl) (fun _ _ _ h=>h) (Or.inl ⟨by rfl,by (intro w;go_simp;try with_reducible rfl)⟩) ?_
   go_simp
   refine wpAny_take (i:=2) rfl (by kernel_rfl) (by kernel_rfl) (by kernel_rfl) (fun _ _ _ h=>h) (Or.inl ⟨by rfl,by (intro w;go_simp;try with_reducible rfl)⟩) ?_
   go_simp
   refine wpAny_take (i:=3) rfl (by kernel_rfl) (by kernel_rfl) (by kernel_rfl) (fun _ _ _ h=>h) (Or.inl ⟨by rfl,by (intro w;go_simp;try with_reducible rfl)⟩) ?_
   go_simp
   refine wpAny_ready (rs:=[4]) (by kernel_rfl) (by simp) ?_
   refine AllReady.cons rfl (fun K hK=>?_) AllReady.nil
   go_simp
   refine hK _ _ ?_;clear hK K
   refine wpAny_ready (rs:=[5]) (by kernel_rfl) (by simp) ?_
   refine AllReady.cons rfl (fun K hK=>?_) AllReady.nil
   go_simp
   go_wp2_with (go_at_call 52;refine HEQ.out.mono ?_;rintro e w11 ⟨rfl,rfl⟩)
   refine wpAny_take (i:=6) rfl (by kernel_rfl) (by kernel_rfl) (by kernel_rfl) (fun _ _ _ h=>h) (Or.inl ⟨by rfl,by (intro w;go_simp;try with_reducible rfl)⟩) ?_
   go_simp
   refine wpAny_take (i:=7) rfl (by kernel_rfl) (by kernel_rfl) (by kernel_rfl) (fun _ _ _ h=>h) (Or.inl ⟨by rfl,by (intro w;go_simp;try with_reducible rfl)⟩) ?_
   go_simp
   refine wpAny_take (i:=8) rfl (by kernel_rfl) (by kernel_rfl) (by kernel_rfl) (fun _ _ _ h=>h) (Or.inr ⟨by rfl,rfl⟩) ?_
   go_simp
   refine wpAny_take (i:=9) rfl (by kernel_rfl) (by kernel_rfl) (by kernel_rfl) (fun _ _ _ h=>h) (Or.inr ⟨by rfl,rfl⟩) ?_
   go_simp
   refine wpAny_take (i:=10) rfl (by kernel_rfl) (by kernel_rfl) (by kernel_rfl) (fun _ _ _ h=>h) (Or.inr ⟨by rfl,rfl⟩) ?_
   go_simp
   refine wpAny_take (i:=11) rfl (by kernel_rfl) (by kernel_rfl) (by kernel_rfl) (fun _ _ _ h=>h) (Or.inr ⟨by rfl,rfl⟩) ?_
   go_simp
   refine wpAny_take (i:=12) rfl (by kernel_rfl) (by kernel_rfl) (by kernel_rfl) (fun _ _ _ h=>h) (Or.inr ⟨by rfl,rfl⟩) ?_
   go_simp
   refine wpAny_take (i:=13) rfl (by kernel_rfl) (by kernel_rfl) (by kernel_rfl) (fun _ _ _ h=>h) (Or.inr ⟨by rfl,rfl⟩) ?_
   go_simp
   refine wpAny_take (i:=14) rfl (by kernel_rfl) (by kernel_rfl) (by kernel_rfl) (fun _ _ _ h=>h) (Or.inr ⟨by rfl,rfl⟩) ?_
   go_simp
   refine wpAny_take (i:=15) rfl (by kernel_rfl) (by kernel_rfl) (by kernel_rfl) (fun _ _ _ h=>h) (Or.inl ⟨by rfl,by (intro w;go_simp;try with_reducible rfl)⟩) ?_
   go_simp
   refine wpAny_done (by kernel_rfl) ?_ _
   go_wp2
   go_ret2
   exact indexEnd_err HEE.out (H10.out.2.1.transW (Frm.of_below (S:=fun _=>False) HBA.out) (fun _ h=>h.elim))
  | true =>
   have hSE:=seal_p A9 T8 L8 k9 Wa H10.out.2.2.2.2.2.2.2.symm ((H10.out.1.below HBA.out).more HBA.out.size) (by rw [H10.out.2.2.2.2.2.2.2];have:=HL8.out;have:=HGR.out.2.1;have:=HB.out.2.2.1;omega)
   have HSE:=hid hSE
   obtain ⟨b2,hb2⟩:∃ b,(sealB T8==P2)=b:=⟨_,rfl⟩
   have HB2:=hid hb2
   clear hSE hb2
   go_wp2
   refine wp_region_any (by kernel_rfl) ?_
   change wpAny _ _ _ _ _ _ _ (World.drew _)
   refine wpAny_take (i:=0) rfl (by kernel_rfl) (by kernel_rfl) (by kernel_rfl) (fun _ _ _ h=>h) (Or.inl ⟨by rfl,by (intro w;go_simp;try with_reducible rfl)⟩) ?_
   go_simp
   refine wpAny_take (i:=1) rfl (by kernel_rfl) (by kernel_rfl) (by kernel_rfl) (fun _ _ _ h=>h) (Or.inl ⟨by rfl,by (intro w;go_simp;try with_reducible rfl)⟩) ?_
   go_simp
   refine wpAny_take (i:=2) rfl (by kernel_rfl) (by kernel_rfl) (by kernel_rfl) (fun _ _ _ h=>h) (Or.inl ⟨by rfl,by (intro w;go_simp;try with_reducible rfl)⟩) ?_
   go_simp
   refine wpAny_take (i:=3) rfl (by kernel_rfl) (by kernel_rfl) (by kernel_rfl) (fun _ _ _ h=>h) (Or.inl ⟨by rfl,by (intro w;go_simp;try with_reducible rfl)⟩) ?_
   go_simp
   refine wpAny_ready (rs:=[4]) (by kernel_rfl) (by simp) ?_
   refine AllReady.cons rfl (fun K hK=>?_) AllReady.nil
   go_simp
   refine hK _ _ ?_;clear hK K
   refine wpAny_ready (rs:=[5]) (by kernel_rfl) (by simp) ?_
   refine AllReady.cons rfl (fun K hK=>?_) AllReady.nil
   go_simp
   go_wp2_with (go_at_call 52;refine HEQ.out.mono ?_;rintro e w11 ⟨rfl,rfl⟩)
   refine wpAny_take (i:=6) rfl (by kernel_rfl) (by kernel_rfl) (by kernel_rfl) (fun _ _ _ h=>h) (Or.inl ⟨by rfl,by (intro w;go_simp;try with_reducible rfl)⟩) ?_
   go_simp
   refine wpAny_take (i:=7) rfl (by kernel_rfl) (by kernel_rfl) (by kernel_rfl) (fun _ _ _ h=>h) (Or.inl ⟨by rfl,by (intro w;go_simp;try with_reducible rfl)⟩) ?_
   go_simp
   refine wpAny_take (i:=10) rfl (by kernel_rfl) (by kernel_rfl) (by kernel_rfl) (fun _ _ _ h=>h) (Or.inl ⟨by rfl,by (intro w;go_simp;try with_reducible rfl)⟩) ?_
   go_simp
   refine wpAny_take (i:=11) rfl (by kernel_rfl) (by kernel_rfl) (by kernel_rfl) (fun _ _ _ h=>h) (Or.inl ⟨by rfl,by (intro w;go_simp;try with_reducible rfl)⟩) ?_
   go_simp
   refine wpAny_take (i:=12) rfl (by kernel_rfl) (by kernel_rfl) (by kernel_rfl) (fun _ _ _ h=>h) (Or.inl ⟨by rfl,by (intro w;go_simp;try with_reducible rfl)⟩) ?_
   go_simp
   refine wpAny_ready (rs:=[8]) (by kernel_rfl) (by simp) ?_
   refine AllReady.cons rfl (fun K hK=>?_) AllReady.nil
   go_simp
   refine hK _ _ ?_;clear hK K
   refine wpAny_ready (rs:=[9]) (by kernel_rfl) (by simp) ?_
   refine AllReady.cons rfl (fun K hK=>?_) AllReady.nil
   go_simp
   go_wp2_with (go_at_call 93;refine HSE.out.mono ?_;rintro e w12 ⟨v12,rfl,ho12,hb12⟩;obtain ⟨A12,k12,rfl,-,-,hr12⟩:=ho12.slice;rw [sealB_len];have R12:=hid hr12;have B12:=hid hb12;clear ho12 hr12 hb12)
   refine wpAny_ready (rs:=[13]) (by kernel_rfl) (by simp) ?_
   refine AllReady.cons rfl (fun K hK=>?_) AllReady.nil
   go_simp
   go_wp2_with (go_at_call 52;have HE2:=equal_p A12 A8 (sealB T8) P2 4 k12 4 4 w12.heap.size w12 (sealB_len _).symm R12.out HL7.out.2.1.symm (((H10.out.2.2.2.1.below (HBA.out.mono H10.out.2.2.2.2.2.2.1)).below (B12.out.mono (Nat.le_trans H10.out.2.2.2.2.2.2.1 HBA.out.size))).more (Nat.le_trans H10.out.2.2.2.2.2.2.1 (Nat.le_trans HBA.out.size B12.out.size)));rw [HB2.out] at HE2;refine HE2.mono ?_;rintro e w13 ⟨rfl,rfl⟩)
   refine wpAny_take (i:=14) rfl (by kernel_rfl) (by kernel_rfl) (by kernel_rfl) (fun _ _ _ h=>h) (Or.inl ⟨by rfl,by (intro w;go_simp;try with_reducible rfl)⟩) ?_
   go_simp
   refine wpAny_take (i:=15) rfl (by kernel_rfl) (by kernel_rfl) (by kernel_rfl) (fun _ _ _ h=>h) (Or.inl ⟨by rfl,by (intro w;go_simp;try with_reducible rfl)⟩) ?_
   go_simp
   refine wpAny_done (by kernel_rfl) ?_ _
   have hbw:Below W10.heap.size W10 w12:=HBA.out.trans (B12.out.mono HBA.out.size)
   have hfw:Frm (· = fb) w w12:=H10.out.2.1.transW (Frm.of_below (S:=fun _=>False) hbw) (fun _ h=>h.elim)
   have gc12:w12.cell? ⟨w.heap.size,0,none⟩=some (.slice A9 L8 k9):=(hbw.cell (p:=⟨w.heap.size,0,none⟩) (World.block_lt_of_cell? W10 ⟨w.heap.size,0,none⟩ gc10)).trans gc10
   have HFW:=hid (And.intro hfw hbw)
   clear hfw hbw
   cases b2 with
   | false =>
    have HEE:Hid (E=.inl 11):=hid (by rw [HXJ.out,if_pos (.inr (by simpa using HB2.out))])
    go_wp2
    go_ret2
    exact indexEnd_err HEE.out HFW.out.1
   | true =>
    have HEE:Hid (E=.inr (U+q4,r.drop q4)):=hid (by
     rw [HXJ.out,if_neg]
     rintro (h | h)
     ·exact h (by simpa using HB1.out)
     exact h (by simpa using HB2.out))
    have hL4:((L8:Int)+4)=((U+q4:Nat):Int):=by have:=HL8.out;omega
    obtain ⟨N4,hN4⟩:∃ N,U+q4=N:=⟨_,rfl⟩
    rw [hN4] at hL4 HEE
    have hNw:IntKind.i64.wrap (N4:Int)=(N4:Int):=Go.IntWalk.i64_in _ (by have:=HGR.out.2.1;have:=HB.out.2.2.1;have:=HN6.out;have:=HS6.out.2.2.2.1;omega)
    clear hN4
    go_wp2
    go_ret2
    rw [HEE.out]
    refine ⟨HFW.out.1,rfl,_,_,_,_,H10.out.2.2.2.2.2.1.below HFW.out.2 (Pts.lt H10.out.2.2.2.2.2.1),by have:=HS6.out.2.1;have:=HN6.out;omega,H10.out.2.2.2.2.1.below (HFW.out.2.mono H10.out.2.2.2.2.2.2.1),by rw [List.length_drop,HS6.out.2.2.2.1],by have:=HS6.out.2.2.2.2.1;omega,by have:=HS6.out.2.2.2.2.2;omega⟩
 have qz:((z:Int) != 0)=true:=bne_iff_ne.2 (by omega)
 have HEE:Hid (E=.inl z):=hid (by rw [← HE.out];unfold xIndex;rw [HZ.out.2.2 hz])
 clear hz
 go_wp2
 go_ret2
 exact indexEnd_err HEE.out HZ.out.1
end Go.Proofs.YtffehfpbdcokbaaGreat
