import Derived.Test.YtffehfpbdcokbaaGreatBu5
import Derived.Test.YtffehfpbdcokbaaGreatBu12
set_option linter.unusedVariables false
set_option linter.unusedSimpArgs false
namespace Go.Proofs.YtffehfpbdcokbaaGreat
open Lib (hid)
open Go.RowKit Rng Lz
theorem dzero_list:Tryz.zeroCells180.toList=(List.replicate 4 (Value.int .i64 0)++List.replicate 4 (Value.int .u32 0))++List.replicate 1860 (Value.int .u16 0)++[Value.slice none 0 0]:=by kernel_rfl
theorem dzero_size:Tryz.zeroCells180.size=1869:=by kernel_rfl
theorem dzero_q:Tryz.zeroCells180=qcells 0 0 0 0 (fun _=>0) (fun _=>0) (.slice none 0 0):=by
 refine qcells_eq dzero_size fun j hj=>?_
 rw [← Array.getElem?_toList,dzero_list]
 have hX:(List.replicate 4 (Value.int .i64 0)++List.replicate 4 (Value.int .u32 0)).length=8:=rfl
 obtain ⟨N,hN⟩:∃ N,N=1860:=⟨_,rfl⟩
 rw [← hN]
 unfold qcell
 by_cases h8:j<8
 ·rw [List.append_assoc,List.getElem?_append_left (by rw [hX];exact h8)]
  have a:j=0∨j=1∨j=2∨j=3∨j=4∨j=5∨j=6∨j=7:=by omega
  rcases a with rfl | rfl | rfl | rfl | rfl | rfl | rfl | rfl <;> rfl
 rw [split_get _ [] _ _ N hX (by omega),if_neg (show ¬ j=0 by omega),if_neg (show ¬ j=1 by omega),if_neg (show ¬ j=2 by omega),if_neg (show ¬ j=3 by omega),if_neg h8]
 by_cases hu:j<1868
 ·rw [if_pos (show j<8+N by omega),if_pos hu];rfl
 rw [if_neg (show ¬ j<8+N by omega),if_neg hu,if_pos (by omega)]
theorem dmade_q:(Tryz.zeroCells180.setIfInBounds 0 (.int .i64 3)).setIfInBounds 2 (.int .i64 2)=qcells 3 0 2 0 (fun _=>0) (fun _=>0) (.slice none 0 0):=by
 rw [dzero_q]
 refine qcells_eq (by rw [Array.size_setIfInBounds,Array.size_setIfInBounds,qcells_size]) fun j hj=>?_
 by_cases e2:j=2
 ·subst e2
  rw [Array.getElem?_setIfInBounds_self_of_lt (by rw [Array.size_setIfInBounds,qcells_size];omega)]
  rfl
 rw [Array.getElem?_setIfInBounds_ne (fun h=>e2 h.symm)]
 by_cases e0:j=0
 ·subst e0
  rw [Array.getElem?_setIfInBounds_self_of_lt (by rw [qcells_size];omega)]
  rfl
 rw [Array.getElem?_setIfInBounds_ne (fun h=>e0 h.symm),qcells_get _ _ _ _ _ _ _ hj]
 unfold qcell
 simp only [if_neg e0,if_neg e2]
set_option maxRecDepth 100000 in
set_option maxHeartbeats 1000000 in
theorem refnew_p (w:World):Calls Tryz.prog 40 #[] w fun e w'=>∃ b lb,e=.returned (.pointer (some ⟨b,0,none⟩))∧w.heap.size≤b∧w.heap.size≤lb∧b≠lb ∧
 Pts w' b (mcells (newK b lb) 0 (fun _=>0) (fun _=>1024)) 180∧Pts w' lb (lcells (newK b lb) (fun _=>1024)) 117∧Below w.heap.size w w':=by
 have hma:=dmade_q
 go_enter Tryz.func40,Tryz.ntmps40
 go_wp2_with fail
 have hp:=Pts.new w (qcells 3 0 2 0 (fun _=>0) (fun _=>0) (.slice none 0 0)) 180
 have hb:=(Below.refl w.heap.size w).alloc (Nat.le_refl _) (.cells (qcells 3 0 2 0 (fun _=>0) (fun _=>0) (.slice none 0 0)) 180)
 have hsz:(w.alloc (.cells (qcells 3 0 2 0 (fun _=>0) (fun _=>0) (.slice none 0 0)) 180)).heap.size=w.heap.size+1:=by show (w.heap.push _).size=_;rw [Array.size_push]
 generalize w.alloc (.cells (qcells 3 0 2 0 (fun _=>0) (fun _=>0) (.slice none 0 0)) 180)=wa at *
 refine (dreset_p w.heap.size 3 0 2 0 _ _ _ 180 wa hp (by omega) ⟨none,0,0,rfl⟩ (by omega)).mono ?_;rintro e w1 ⟨rfl,lb,h1,h2,h3,f1⟩
 have H2:=hid h2
 have H3:=hid h3
 have B1:=hid (hb.trans (f1.below hb.size (fun q hq=>by omega)))
 have hlb:w.heap.size<lb:=by omega
 clear h2 h3 f1 hma
 go_wp2
 go_ret
 exact ⟨w.heap.size,lb,rfl,Nat.le_refl _,by omega,by omega,H2.out,H3.out,B1.out⟩
open Go.RowKit Rng Win Lz
structure DStAt (w:World) (k:LK) (st:Nat) (rep:Nat→Nat) (pr:Pr):Prop where
 m:Pts w k.sb (mcells k st rep pr) 180
 l:Pts w k.lb (lcells k pr) 117
 fit:∀ i,pr i<65536
 ne:k.sb≠k.lb
theorem DStAt.frm {w w':World} {k:LK} {st:Nat} {rep:Nat→Nat} {pr:Pr} {N:Nat→Prop} (h:DStAt w k st rep pr) (hf:Frm N w w') (h1:¬ N k.sb) (h2:¬ N k.lb):DStAt w' k st rep pr:=⟨h.m.frm hf h1,h.l.frm hf h2,h.fit,h.ne⟩
section
variable {Z : Nat → Prop} {w0 w w' : World} {k : LK} {g : DB} {st : Nat} {rep : Nat → Nat} {s : CP Dec} {all : List UInt8} {wv : Value}
def DZn (k:LK) (g:DB) (wv:Value) (q:Nat):Prop:=q=g.db∨q=k.sb∨q=k.lb∨q=g.wb∨wv.ownBlock=some q
theorem DzAt.rebase (h:DzAt Z w0 w k g st rep s all wv):DzAt (DZn k g wv) w w k g st rep s all wv:=⟨h.lz,h.win,h.nr,h.bs,fun _ hq _=>hq,Frm.refl _ _⟩
theorem DzAt.back {st':Nat} {rep':Nat→Nat} {s':CP Dec} {all':List UInt8} {wv':Value} (h:DzAt Z w0 w k g st rep s all wv) (h':DzAt (DZn k g wv) w w' k g st' rep' s' all' wv'):DzAt Z w0 w' k g st' rep' s' all' wv':=by
 refine ⟨h'.lz,h'.win,h'.nr,h'.bs,fun q hq hlt=>?_,h.f.transW h'.f (fun q hq hlt=>h.z q hq hlt)⟩
 rcases hq with e | e | e | e | e
 ·exact h.z q (.inl e) hlt
 ·exact h.z q (.inr (.inl e)) hlt
 ·exact h.z q (.inr (.inr (.inl e))) hlt
 ·exact h.z q (.inr (.inr (.inr (.inl e)))) hlt
 exact h.z q (h'.z q (.inr (.inr (.inr (.inr e)))) (Nat.lt_of_lt_of_le hlt h.f.size)) hlt
theorem DzAt.back_none (h:DzAt Z w0 w k g st rep s all wv) (hf:Frm (DZn k g wv) w w'):Frm Z w0 w':=h.f.transW hf (fun q hq hlt=>h.z q hq hlt)
theorem DzAt.mine {tv:Value} {base:Nat} {told:List UInt8} (h:DzAt Z w0 w k g st rep s all wv) (ho:OwnB w 5 base tv told) (hn:∀ q,tv.ownBlock=some q→wv.ownBlock≠some q):∀ q,tv.ownBlock=some q→¬ DZn k g wv q:=by
 obtain ⟨cd,hd⟩:=DCr.pts h.lz.c
 rintro q hq (e | e | e | e | e)
 ·subst e;exact own_ne ho hd (by decide) hq
 ·subst e;exact own_ne ho h.lz.m (by decide) hq
 ·subst e;exact own_ne ho h.lz.l (by decide) hq
 ·subst e;exact own_ne ho h.win.p (by decide) hq
 exact hn q hq e
theorem DzAt.tell {S:Nat→Prop} (h:DzAt Z w0 w k g st rep s all wv) (hf:Frm S w w') (h1:∀ q,S q→¬ DZn k g wv q) (h2:¬ S g.rb) (hz:∀ q,S q→w0.heap.size≤q):DzAt Z w0 w' k g st rep s all wv:=by
 have hn:∀ q,DZn k g wv q→¬ S q:=fun q hq hs=>h1 q hs hq
 refine ⟨h.lz.frm (DCr.keep _ _ _) hf ?_,⟨h.win.p.frm hf (hn _ (.inr (.inr (.inr (.inl rfl))))),h.win.o.frm hf (fun q hq=>hn _ (.inr (.inr (.inr (.inr hq)))))⟩,h.nr,Nat.le_trans h.bs hf.size,h.z,h.f.transW hf (fun q hq hlt=>by have:=hz q hq;omega)⟩
 rintro q ((e | e) | e | e)
 ·exact hn q (.inl e)
 ·exact fun hs=>h2 (e▸hs)
 ·exact hn q (.inr (.inl e))
 exact hn q (.inr (.inr (.inl e)))
end
def lenV (v:Value):Nat:=match v with
 | .slice _ n _=>n
 | _=>0
def DZc (k:LK) (wb:Nat) (wv:Value) (q:Nat):Prop:=q=k.sb∨q=k.lb∨q=wb∨wv.ownBlock=some q
def DChunk (k:LK) (base wb kb S:Nat) (all:List UInt8) (wv:Value) (w:World) (R:Option (List UInt8×RS)) (e:Ending) (w':World):Prop :=
 (R=none∧e=.returned (.tuple #[.slice none 0 0,.int .i64 11])∧Frm (DZc k wb wv) w w') ∨
 (∃ told y A c wv',R=some (told,y)∧e=.returned (.tuple #[.slice A told.length c,.int .i64 0])∧OwnB w' 5 w.heap.size (.slice A told.length c) told∧DStAt w' k y.st y.rep y.s.pr ∧
   RWin w' base wb kb S true wv' (all++told)∧(∀ q,wv'.ownBlock=some q→wv.ownBlock=some q∨w.heap.size≤q)∧y.C=lastN S (all++told)∧y.Ok∧told.length≤2097152∧(∀ q,A=some q→wv'.ownBlock≠some q.block)∧Frm (DZc k wb wv) w w')
set_option maxRecDepth 100000 in
set_option maxHeartbeats 4000000 in
theorem dchunk_p (k:LK) (base wb kb S st:Nat) (rep:Nat→Nat) (pr:Pr) (all bs:List UInt8) (wv:Value) (A:Option Addr) (l c total n:Nat) (w:World) (hs:DStAt w k st rep pr) (hw:RWin w base wb kb S true wv all) (hb:base≤w.heap.size)
 (hk:k.Ok) (hst:st<12) (hrep:∀ j,rep j<4294967296) (hS:1≤S∧S≤16777216) (hn:1≤n∧n≤2097152) (ht:total≤1000000000) (hl:all.length≤50000000) (hln:l=bs.length) (hr:BRow w w.heap.size A bs) (hc:bs.length≤c) (hcm:c≤maxLen)
 (hoff:BOff (DZc k wb wv) A bs) :
 Calls Tryz.prog 127 #[.pointer (some ⟨k.sb,0,none⟩),.pointer (some ⟨wb,0,none⟩),.int .i64 total,.slice A l c,.int .i64 n] w (DChunk k base wb kb S all wv w (chunkOf k S total n st rep pr (lastN S all) bs)):=by
 obtain ⟨R,hR⟩:∃ R,chunkOf k S total n st rep pr (lastN S all) bs=R:=⟨_,rfl⟩
 rw [hR]
 have htot:totOf total=total:=by unfold totOf;rw [if_neg (by omega)]
 unfold chunkOf at hR
 rw [htot] at hR
 have hn1:¬ (n:Int)<1:=by omega
 have hn2:decide ((2097152:Int)<(n:Int))=false:=decide_eq_false (by omega)
 have ht0:¬ (total:Int)<0:=by omega
 have ht1:decide ((1099511627776:Int)<(total:Int))=false:=decide_eq_false (by omega)
 have HS:=hid hs
 have HW:=hid (And.intro hw hb)
 have HK:=hid (And.intro hk (And.intro hst hrep))
 have HSS:=hid hS
 have HN:=hid hn
 have HT:=hid (And.intro ht hl)
 have HRW:=hid (And.intro hln (And.intro hr (And.intro hc (And.intro hcm hoff))))
 clear hs hw hb hk hst hrep hS hn ht hl hln hr hc hcm hoff htot
 by_cases hne:newErr bs≠0
 ·rw [if_pos hne] at hR
  have HB:=hid (dnew_bad_r A bs l c w.heap.size w HRW.out.1 HRW.out.2.1 HRW.out.2.2.1 HRW.out.2.2.2.1 hne)
  obtain ⟨ne,hnee⟩:∃ x,newErr bs=x:=⟨_,rfl⟩
  rw [hnee] at HB hne
  have q1:((ne:Int) != 0)=true:=by simp;omega
  have HR:=hid hR
  clear hne hR hnee
  go_enter Tryz.func127,Tryz.ntmps127
  go_wp2_with fail
  refine HB.out.mono ?_;rintro e w1 ⟨rfl,rfl⟩
  go_wp2
  go_ret2
  exact .inl ⟨HR.out.symm,rfl,Frm.refl _ _⟩
 rw [if_neg hne] at hR
 obtain ⟨GO,hGO⟩:∃ x,chunkGo k S total n (n+1) [] ⟨st,rep,⟨newDec bs,pr⟩,lastN S all⟩=x:=⟨_,rfl⟩
 rw [hGO] at hR
 have HB:=hid (dnew_r A bs l c w HRW.out.1 HRW.out.2.1 HRW.out.2.2.1 HRW.out.2.2.2.1 (by omega))
 have HR:=hid hR
 have HGO:=hid hGO
 have HNE:=hid hne
 clear hne hR hGO
 go_enter Tryz.func127,Tryz.ntmps127
 go_wp2_with fail
 refine HB.out.mono ?_;rintro e w1 ⟨db,rb,off,rfl,rfl,hd,hdb,hb1⟩
 have h5:0<bs.length:=by
  by_cases h0:0<bs.length
  ·exact h0
  have e:bs=[]:=List.eq_nil_of_length_eq_zero (by omega)
  exfalso
  apply HNE.out
  rw [e]
  decide
 have hrb:rb<w.heap.size:=by
  obtain ⟨b',o',e,hlt,-⟩:=HRW.out.2.1 h5
  injection e with e
  injection e with e e2
  rw [e];exact hlt
 obtain ⟨Rw,hRw⟩:∃ X,w1.heap[rb]?=some X:=⟨w1.heap[rb]'(Nat.lt_of_lt_of_le hrb hb1.size),Array.getElem?_eq_getElem _⟩
 obtain ⟨g,hg⟩:∃ g:DB,(⟨db,rb,wb,kb,S,base,Rw⟩:DB)=g:=⟨_,rfl⟩
 have hgd:g.db=db∧g.rb=rb∧g.wb=wb∧g.kb=kb∧g.S=S∧g.bw=base∧g.R=Rw:=by rw [← hg];exact ⟨rfl,rfl,rfl,rfl,rfl,rfl,rfl⟩
 have hno:=HRW.out.2.2.2.2 h5 _ rfl
 have hsl:=HS.out.m.lt
 have hll:=HS.out.l.lt
 have HD:Hid (DzAt (DZc k wb wv) w w1 k g st rep ⟨newDec bs,pr⟩ all wv):=hid (by
  obtain ⟨e1,e2,e3,e4,e5,e6,e7⟩:=hgd
  refine ⟨⟨?_,HS.out.m.below hb1 hsl,HS.out.l.below hb1 hll,HS.out.fit,?_⟩,?_,?_,?_,?_,Frm.of_below hb1⟩
  ·rw [e1,e2,e7];exact ⟨hd,hRw⟩
  ·rw [e1,e2]
   refine ⟨?_,?_,HS.out.ne⟩
   ·rintro (e | e)
    ·omega
    exact hno (.inl e.symm)
   rintro (e | e)
   ·omega
   exact hno (.inr (.inl e.symm))
  ·rw [e3,e4,e5,e6]
   exact ⟨HW.out.1.p.below hb1 HW.out.1.p.lt,HW.out.1.o.frm (Frm.of_below (S:=fun _=>False) hb1) (fun _ _ h=>h)⟩
  ·rw [e2,e3]
   exact ⟨fun e=>hno (.inr (.inr (.inl e))),fun e=>hno (.inr (.inr (.inr e)))⟩
  ·rw [e6];exact Nat.le_trans HW.out.2 hb1.size
  rintro q (e | e | e | e | e) hlt
  ·rw [e1] at e;omega
  ·exact .inl e
  ·exact .inr (.inl e)
  ·rw [e3] at e;exact .inr (.inr (.inl e))
  exact .inr (.inr (.inr e)))
 have HG:=hid (And.intro hgd hrb)
 have HSI:Hid (w.heap.size≤w1.heap.size):=hid hb1.size
 obtain ⟨d1,d2,d3⟩:g.db=db∧g.wb=wb∧g.S=S:=⟨hgd.1,hgd.2.2.1,hgd.2.2.2.2.1⟩
 subst d1;subst d2;subst d3
 clear hd hdb hb1 h5 hrb hRw hg hgd hno hsl hll HB
 go_wp2
 go_loopw [14] (fun ov wr=>∃ (f Lo co:Nat) (Ao:Option Addr) (told:List UInt8) (x:RS) (v:Value),ov=.slice Ao Lo co∧Lo≤n∧Hid (Lo=told.length∧chunkGo k g.S total n f told x=GO∧n-Lo<f∧DzAt (DZc k g.wb wv) w wr k g x.st x.rep x.s (all++told) v∧x.C=lastN g.S (all++told)∧x.Ok∧OwnB wr 5 w.heap.size (.slice Ao Lo co) told∧(∀ q,(Value.slice Ao Lo co).ownBlock=some q→v.ownBlock≠some q))) (fun ov _=>n-lenV ov)
 case atStart=>exact ⟨n+1,0,0,none,[],⟨st,rep,⟨newDec bs,pr⟩,lastN g.S all⟩,wv,rfl,Nat.zero_le _,hid ⟨rfl,HGO.out,by omega,by rw [List.append_nil];exact HD.out,by rw [List.append_nil],⟨HK.out.2.1,HK.out.2.2⟩,OwnB.nil _ _ _,fun q e=>by cases e⟩⟩
 case round =>
 obtain ⟨f,Lo,co,Ao,told,x,v,rfl,hLo,HI⟩:=hrel
 obtain ⟨f,rfl⟩:∃ f',f=f'+1:=⟨f-1,by have:=HI.out.2.2.1;omega⟩
 have hgo:=HI.out.2.1
 unfold chunkGo at hgo
 have hto:told.length=Lo:=HI.out.1.symm
 rw [hto] at hgo
 by_cases hlt:Lo<n
 ·rw [if_neg (by omega)] at hgo
  obtain ⟨t1,ht1e⟩:∃ t,total+Lo=t:=⟨_,rfl⟩
  obtain ⟨rm,hrm⟩:∃ r,n-Lo=r:=⟨_,rfl⟩
  have q1:(total:Int)+(Lo:Int)=(t1:Int):=by omega
  have q2:(n:Int)-(Lo:Int)=(rm:Int):=by omega
  have qw1:IntKind.i64.wrap (t1:Int)=(t1:Int):=Go.IntWalk.i64_in _ (by have:=HT.out;have:=HN.out;omega)
  have qw2:IntKind.i64.wrap (rm:Int)=(rm:Int):=Go.IntWalk.i64_in _ (by have:=HN.out;omega)
  have hx:(⟨x.st,x.rep,x.s,lastN g.S (all++told)⟩:RS)=x:=by rw [← HI.out.2.2.2.2.1]
  have HSTEP:=hid (dstep_p HI.out.2.2.2.1.rebase HK.out.1 t1 rm (by have:=HT.out;have:=HN.out;omega) HI.out.2.2.2.2.2.1.st HI.out.2.2.2.2.2.1.rep HSS.out (by have:=HN.out;omega) (by rw [List.length_append];have:=HT.out;have:=HN.out;omega))
  rw [hx] at HSTEP
  rw [ht1e,hrm] at hgo
  have HG2:=hid hgo
  have HNUM:=hid (And.intro ht1e hrm)
  clear hgo hx ht1e hrm hto
  go_wp2_with fail
  refine HSTEP.out.mono ?_;rintro e w2 hstep
  rcases hstep with ⟨hn,⟨A2,n2,c2,rfl⟩,hf⟩ | ⟨b,y,A2,c2,v2,hn,rfl,hrow,hz,hyC⟩
  ·have HNO:Hid (none=GO):=hid (by have:=HG2.out;rw [hn] at this;exact this)
   have HF:=hid (HI.out.2.2.2.1.back_none hf)
   clear hn hf HG2 HSTEP
   go_wp2
   go_ret2
   refine .inl ⟨?_,rfl,HF.out⟩
   rw [← HR.out,← HNO.out]
  obtain ⟨Lb,hLb⟩:∃ L,b.length=L:=⟨_,rfl⟩
  rw [hLb]
  have hgo2:=HG2.out
  rw [hn] at hgo2
  dsimp only at hgo2
  have hinv:=stepOf_inv HI.out.2.2.2.2.2.1 (by omega) hn
  have hmine:=HI.out.2.2.2.1.mine HI.out.2.2.2.2.2.2.1 HI.out.2.2.2.2.2.2.2
  have ho2:=HI.out.2.2.2.2.2.2.1.frm hz.f (fun q hq=>hmine q hq)
  have hback:=HI.out.2.2.2.1.back hz
  have hv2:∀ q,(Value.slice Ao Lo co).ownBlock=some q→v2.ownBlock≠some q:=fun q hq e=>hmine q hq (hz.z q (.inr (.inr (.inr (.inr e)))) (HI.out.2.2.2.2.2.2.1.lt hq).2)
  have H2:=hid (And.intro hLb (And.intro hgo2 (And.intro hinv (And.intro ho2 (And.intro hback (And.intro hv2 (And.intro hrow hyC)))))))
  have Z2:Hid (w.heap.size≤w2.heap.size):=hid hback.f.size
  clear hLb hgo2 hinv hmine ho2 hback hv2 hrow hyC hn hz HG2 HSTEP
  go_wp2_with (at_builtin;refine wpList_append_bytes _ rfl (.tmp 63) (.tmp 64) 22 rfl 5 w.heap.size Tryz.underlying22 Tryz.info_u8 (.slice Ao Lo co) told rfl ?own1 A2 Lb c2 w2.heap.size b rfl H2.out.1.symm ?row1 ?len1 ?base1 ?next1)
  case own1=>exact H2.out.2.2.2.1
  case row1=>exact H2.out.2.2.2.2.2.2.1
  case len1=>have:=HI.out.1;have:=H2.out.2.2.1;have:=HN.out;omega
  case base1=>exact Z2.out
  case next1 =>
  intro v3 w3 hown3 hfrm3 hnew3
  obtain ⟨A3,c3,e3,-,-,-⟩:=hown3.slice
  obtain ⟨L3,hL3⟩:∃ L,(told++b).length=L:=⟨_,rfl⟩
  rw [hL3] at e3
  subst e3
  have hL3e:L3=Lo+Lb:=by rw [← hL3,List.length_append,H2.out.1,← HI.out.1]
  have hm2:=H2.out.2.2.2.2.1.mine H2.out.2.2.2.1 H2.out.2.2.2.2.2.1
  have hz3:=H2.out.2.2.2.2.1.tell hfrm3 (fun q hq=>hm2 q hq) (fun hq=>by have:=(H2.out.2.2.2.1.lt hq).1;have:=HG.out.2;have:=HG.out.1.2.1;omega) (fun q hq=>(H2.out.2.2.2.1.lt hq).1)
  rw [List.append_assoc] at hz3
  have hyC:=H2.out.2.2.2.2.2.2.2
  rw [List.append_assoc] at hyC
  have hne3:∀ q,(Value.slice A3 L3 c3).ownBlock=some q→v2.ownBlock≠some q:=fun q hq e=>by
   rcases hnew3 with h | h
   ·exact H2.out.2.2.2.2.2.1 q (h▸hq) e
   rw [h] at hq
   have e2:=Option.some.inj hq
   have:=(H2.out.2.2.2.2.1.win.o.lt e).2
   omega
  have H3:=hid (And.intro hL3.symm (And.intro hz3 (And.intro hyC (And.intro hown3 hne3))))
  have hb:=H2.out.2.2.1
  obtain ⟨i1,i2,i3⟩:=hb
  rw [H2.out.1] at i2 i3
  have HI1:=hid i1
  clear hz3 hyC hown3 hne3 hm2 hfrm3 hnew3 hL3 i1
  go_wp2
  refine ⟨⟨f,L3,c3,A3,told++b,y,v2,rfl,by omega,hid ⟨H3.out.1,H2.out.2.1,by have:=HI.out.2.2.1;omega,H3.out.2.1,H3.out.2.2.1,HI1.out,H3.out.2.2.2.1,H3.out.2.2.2.2⟩⟩,by show n-L3<n-Lo;omega⟩
 rw [if_pos (by omega)] at hgo
 obtain rfl:Lo=n:=by omega
 have hdr:=HI.out.2.2.2.1.lz.c
 have HE:=hid (dend_r g.db g.rb x.s.d wr hdr.1)
 have HGN:Hid (some (told,x)=GO):=hid hgo
 clear hgo hdr hto
 go_wp2_with fail
 refine HE.out.mono ?_;rintro e w2 ⟨rfl,hd2,hf2⟩
 obtain ⟨⟨l1,l2⟩,hfin⟩:∃ q,x.s.d.fin=q:=⟨_,rfl⟩
 rw [hfin]
 have HFIN:=hid hfin
 have HF2:=hid hf2
 clear hd2 hf2 hfin
 have hA:=HI.out.2.2.2.1
 obtain ⟨cd,hdp⟩:=DCr.pts hA.lz.c
 have hfr:Frm (DZc k g.wb wv) w w2:=hA.f.transW HF2.out (fun q e hlt=>hA.z q (.inl e) hlt)
 have HEND:Hid (Frm (DZc k g.wb wv) w w2∧OwnB w2 5 w.heap.size (.slice Ao told.length co) told∧DStAt w2 k x.st x.rep x.s.pr∧RWin w2 base g.wb kb g.S true v (all++told)∧(∀ q,v.ownBlock=some q→wv.ownBlock=some q∨w.heap.size≤q)):=hid (by
  refine ⟨hfr,?_,⟨hA.lz.m.frm HF2.out (fun e=>hA.lz.ne.1 (.inl e)),hA.lz.l.frm HF2.out (fun e=>hA.lz.ne.2.1 (.inl e)),hA.lz.fit,hA.lz.ne.2.2⟩,?_,fun q hq=>?_⟩
  ·rw [← HI.out.1]
   exact HI.out.2.2.2.2.2.2.1.frm HF2.out (fun q hq e=>own_ne HI.out.2.2.2.2.2.2.1 hdp (by decide) (e▸hq))
  ·have hw2:RWin w2 g.bw g.wb g.kb g.S true v (all++told):=⟨hA.win.p.frm HF2.out (fun e=>hA.win.p.ne_of hdp (by decide) e),hA.win.o.frm HF2.out (fun q hq e=>own_ne hA.win.o hdp (by decide) (e▸hq))⟩
   rw [HG.out.1.2.2.2.2.2.1,HG.out.1.2.2.2.1] at hw2
   exact hw2
  by_cases hlt2:q<w.heap.size
  ·rcases hA.z q (.inr (.inr (.inr (.inr hq)))) hlt2 with e | e | e | e
   ·subst e;exact absurd hq (own_ne hA.win.o hA.lz.m (by decide))
   ·subst e;exact absurd hq (own_ne hA.win.o hA.lz.l (by decide))
   ·subst e;exact absurd hq (own_ne hA.win.o hA.win.p (by decide))
   exact .inl e
  exact .inr (by omega))
 clear hA hdp hfr
 by_cases hok:l2=0∧l1=0
 ·obtain ⟨rfl,rfl⟩:=hok
  have HRR:Hid (some (told,x)=R):=hid (by
   have:=HR.out
   rw [← HGN.out] at this
   dsimp only at this
   rw [if_pos HFIN.out] at this
   exact this)
  clear HR HE
  go_wp2
  go_ret2
  refine .inr ⟨told,x,Ao,co,v,HRR.out.symm,?_,HEND.out.2.1,HEND.out.2.2.1,HEND.out.2.2.2.1,HEND.out.2.2.2.2,HI.out.2.2.2.2.1,HI.out.2.2.2.2.2.1,by have:=HI.out.1;have:=HN.out;omega,fun q hq=>HI.out.2.2.2.2.2.2.2 q.block (by rw [hq];rfl),HEND.out.1⟩
  rw [← HI.out.1]
  rfl
 have HRR:Hid (none=R):=hid (by
  have:=HR.out
  rw [← HGN.out] at this
  dsimp only at this
  rw [if_neg (by rw [HFIN.out];intro e;injection e with e1 e2;exact hok ⟨e2,e1⟩)] at this
  exact this)
 have hcs:(((l2:Nat):Int) != 0)=true∨((((l2:Nat):Int) != 0)=false∧(((l1:Nat):Int) != 0)=true):=by
  by_cases h2:l2=0
  ·refine .inr ⟨by simp [h2],?_⟩
   have:¬ l1=0:=fun e=>hok ⟨h2,e⟩
   simp;omega
  exact .inl (by simp;omega)
 clear HR HE hok
 rcases hcs with h1 | ⟨h1,h2⟩
 all_goals
  go_wp2
  go_ret2
  exact .inl ⟨HRR.out.symm,rfl,HEND.out.1⟩
open Go.RowKit Rng Win Lz
structure DS where
 C:List UInt8
 lc:Nat
 lp:Nat
 pb:Nat
 st:Nat
 rep:Nat→Nat
 pr:Pr
 total:Nat
 begun:Bool
 props:Bool
def headN (c:Nat):Nat:=if c=0 then 1 else if c<3 then 3 else if c<128 then 0 else if c<192 then 5 else 6
def DS.clear (x:DS):DS:={ x with C:=[],total:=0,begun:=true }
def DS.reset (x:DS):DS:={ x with st:=0,rep:=fun _=>0,pr:=fun _=>1024 }
inductive OneR
 | err (e:Nat)
 | fin (rest:List UInt8)
 | told (b:List UInt8) (x:DS) (rest:List UInt8)
def twoB (h:List UInt8) (i:Nat):Nat:=(h.getD i 0).toNat*256+(h.getD (i+1) 0).toNat
def DS.dict (x:DS) (c:Nat):DS:=if c=1 then { x.clear with props:=false } else if 224≤c then x.clear else x
def DS.set (x:DS) (c p:Nat):DS:=if 192≤c then { x.reset with lc:=p % 9,lp:=p / 9 % 5,pb:=p / 45,props:=true } else if 160≤c then x.reset else x
def badP (p:Nat):Prop:=224<p∨4<p % 9+p / 9 % 5
instance (p:Nat):Decidable (badP p):=by unfold badP;infer_instance
def oneLz (S:Nat) (x:DS) (n:Nat) (bs rest:List UInt8):OneR :=
 match chunkOf ⟨0,0,x.lc,x.lp,x.pb⟩ S x.total n x.st x.rep x.pr x.C bs with
 | none=>.err 11
 | some (t,y)=>.told t { x with st:=y.st,rep:=y.rep,pr:=y.s.pr,C:=y.C } rest
def oneBody (S:Nat) (x:DS) (c:Nat) (h r:List UInt8):OneR :=
 if c<3 then
  if r.length<twoB h 1+1 then .err 10
  else .told (r.take (twoB h 1+1)) { x.dict c with C:=lastN S ((x.dict c).C++r.take (twoB h 1+1)) } (r.drop (twoB h 1+1))
 else if r.length<twoB h 3+1 then .err 10
 else if 192≤c∧badP (h.getD 5 0).toNat then .err 11
 else oneLz S ((x.dict c).set c (h.getD 5 0).toNat) (twoB h 1+1+c % 32*65536) (r.take (twoB h 3+1)) (r.drop (twoB h 3+1))
def badHead (x:DS) (c:Nat):Prop:=(x.begun=false∧c≠1∧c<224)∨(headN c=5∧x.props=false)
instance (x:DS) (c:Nat):Decidable (badHead x c):=by unfold badHead;infer_instance
def one (S:Nat) (x:DS) (src:List UInt8):OneR :=
 if src.length<1 then .err 10
 else if headN (src.getD 0 0).toNat=0 then .err 11
 else if src.length<headN (src.getD 0 0).toNat then .err 10
 else if headN (src.getD 0 0).toNat=1 then .fin (src.drop 1)
 else if badHead x (src.getD 0 0).toNat then .err 11
 else oneBody S x (src.getD 0 0).toNat (src.take (headN (src.getD 0 0).toNat)) (src.drop (headN (src.getD 0 0).toNat))
def d2Go (S most:Nat):Nat→DS→List UInt8→List UInt8→List UInt8×(Nat ⊕ List UInt8)
 | 0,_,out,_=>(out,.inl 10)
 | f+1,x,out,src =>
  match one S x src with
  | .err e=>(out,.inl e)
  | .fin rest=>(out,.inr rest)
  | .told b y rest=>if most<out.length+b.length then (out,.inl 3) else d2Go S most f { y with total:=y.total+b.length } (out++b) rest
def newDS:DS:=⟨[],3,0,2,0,fun _=>0,fun _=>1024,0,false,false⟩
def d2P (S most:Nat) (src:List UInt8):List UInt8×(Nat ⊕ List UInt8):=d2Go S most (src.length+1) newDS [] src
theorem getD_app {p q:List UInt8} {i:Nat} (h:i<p.length):(p++q).getD i 0=p.getD i 0:=by
 rw [List.getD_eq_getElem?_getD,List.getD_eq_getElem?_getD,List.getElem?_append_left h]
theorem headN_le (c:Nat):headN c≤6:=by unfold headN;repeat' split
                                       all_goals omega
def OneR.more (R:OneR) (q:List UInt8):OneR :=
 match R with
 | .err e=>.err e
 | .fin r=>.fin (r++q)
 | .told b x r=>.told b x (r++q)
theorem body_more (S:Nat) (x:DS) (c:Nat) (h r q:List UInt8) (hne:oneBody S x c h r≠.err 10):oneBody S x c h (r++q)=(oneBody S x c h r).more q:=by
 unfold oneBody at hne ⊢
 by_cases h3:c<3
 ·rw [if_pos h3] at hne ⊢
  rw [if_pos h3]
  by_cases hl:r.length<twoB h 1+1
  ·rw [if_pos hl] at hne;exact absurd rfl hne
  rw [if_neg hl,if_neg (by rw [List.length_append];omega),List.take_append_of_le_length (by omega),List.drop_append_of_le_length (by omega)]
  rfl
 rw [if_neg h3] at hne ⊢
 rw [if_neg h3]
 by_cases hl:r.length<twoB h 3+1
 ·rw [if_pos hl] at hne;exact absurd rfl hne
 rw [if_neg hl,if_neg (by rw [List.length_append];omega),List.take_append_of_le_length (by omega),List.drop_append_of_le_length (by omega)]
 by_cases hp:192≤c∧badP (h.getD 5 0).toNat
 ·rw [if_pos hp,if_pos hp];rfl
 rw [if_neg hp,if_neg hp]
 unfold oneLz
 split <;> rfl
theorem one_more (S:Nat) (x:DS) (src q:List UInt8) (hne:one S x src≠.err 10):one S x (src++q)=(one S x src).more q:=by
 unfold one at hne ⊢
 by_cases h1:src.length<1
 ·rw [if_pos h1] at hne;exact absurd rfl hne
 rw [if_neg h1] at hne ⊢
 rw [if_neg (show ¬ (src++q).length<1 by rw [List.length_append];omega),getD_app (by omega)]
 by_cases h2:headN (src.getD 0 0).toNat=0
 ·rw [if_pos h2,if_pos h2];rfl
 rw [if_neg h2] at hne ⊢
 rw [if_neg h2]
 by_cases h3:src.length<headN (src.getD 0 0).toNat
 ·rw [if_pos h3] at hne;exact absurd rfl hne
 rw [if_neg h3] at hne ⊢
 rw [if_neg (show ¬ (src++q).length<headN (src.getD 0 0).toNat by rw [List.length_append];omega)]
 by_cases h4:headN (src.getD 0 0).toNat=1
 ·rw [if_pos h4,if_pos h4,List.drop_append_of_le_length (by omega)];rfl
 rw [if_neg h4] at hne ⊢
 rw [if_neg h4]
 by_cases h5:badHead x (src.getD 0 0).toNat
 ·rw [if_pos h5,if_pos h5];rfl
 rw [if_neg h5] at hne ⊢
 rw [if_neg h5,List.take_append_of_le_length (by omega),List.drop_append_of_le_length (by omega)]
 exact body_more S x _ _ _ q hne
theorem one_front (S:Nat) (x:DS) (src:List UInt8):(∀ b y r,one S x src=.told b y r→∃ m,1≤m∧m≤src.length∧r=src.drop m)∧(∀ r,one S x src=.fin r→1≤src.length∧r=src.drop 1):=by
 unfold one
 by_cases h1:src.length<1
 ·rw [if_pos h1]
  exact ⟨(fun _ _ _ h=>by cases h),(fun _ h=>by cases h)⟩
 rw [if_neg h1]
 by_cases h2:headN (src.getD 0 0).toNat=0
 ·rw [if_pos h2]
  exact ⟨(fun _ _ _ h=>by cases h),(fun _ h=>by cases h)⟩
 rw [if_neg h2]
 by_cases h3:src.length<headN (src.getD 0 0).toNat
 ·rw [if_pos h3]
  exact ⟨(fun _ _ _ h=>by cases h),(fun _ h=>by cases h)⟩
 rw [if_neg h3]
 by_cases h4:headN (src.getD 0 0).toNat=1
 ·rw [if_pos h4]
  exact ⟨(fun _ _ _ h=>by cases h),(fun _ h=>by injection h with h;exact ⟨by omega,h.symm⟩)⟩
 rw [if_neg h4]
 by_cases h5:badHead x (src.getD 0 0).toNat
 ·rw [if_pos h5]
  exact ⟨(fun _ _ _ h=>by cases h),(fun _ h=>by cases h)⟩
 rw [if_neg h5]
 have hdl:(src.drop (headN (src.getD 0 0).toNat)).length=src.length-headN (src.getD 0 0).toNat:=List.length_drop
 unfold oneBody
 by_cases hc:(src.getD 0 0).toNat<3
 ·rw [if_pos hc]
  by_cases hl:(src.drop (headN (src.getD 0 0).toNat)).length<twoB (src.take (headN (src.getD 0 0).toNat)) 1+1
  ·rw [if_pos hl]
   exact ⟨(fun _ _ _ h=>by cases h),(fun _ h=>by cases h)⟩
  rw [if_neg hl]
  exact ⟨(fun _ _ _ h=>by injection h with _ _ h;exact ⟨headN (src.getD 0 0).toNat+(twoB (src.take (headN (src.getD 0 0).toNat)) 1+1),by omega,by omega,by rw [← h,List.drop_drop]⟩),(fun _ h=>by cases h)⟩
 rw [if_neg hc]
 by_cases hl:(src.drop (headN (src.getD 0 0).toNat)).length<twoB (src.take (headN (src.getD 0 0).toNat)) 3+1
 ·rw [if_pos hl]
  exact ⟨(fun _ _ _ h=>by cases h),(fun _ h=>by cases h)⟩
 rw [if_neg hl]
 by_cases hp:192≤(src.getD 0 0).toNat∧badP ((src.take (headN (src.getD 0 0).toNat)).getD 5 0).toNat
 ·rw [if_pos hp]
  exact ⟨(fun _ _ _ h=>by cases h),(fun _ h=>by cases h)⟩
 rw [if_neg hp]
 unfold oneLz
 split
 ·exact ⟨(fun _ _ _ h=>by cases h),(fun _ h=>by cases h)⟩
 exact ⟨(fun _ _ _ h=>by injection h with _ _ h;exact ⟨headN (src.getD 0 0).toNat+(twoB (src.take (headN (src.getD 0 0).toNat)) 3+1),by omega,by omega,by rw [← h,List.drop_drop]⟩),(fun _ h=>by cases h)⟩
theorem go_more (S most:Nat) (q:List UInt8):∀ (f g:Nat) (x:DS) (out src:List UInt8) (T r:List UInt8),src.length<f→src.length<g→d2Go S most f x out src=(T,.inr r)→d2Go S most g x out (src++q)=(T,.inr (r++q))
 | 0,_,_,_,_,_,_,h,_,_=>absurd h (by omega)
 | _,0,_,_,_,_,_,_,h,_=>absurd h (by omega)
 | f+1,g+1,x,out,src,T,r,hf,hg,h=>by
  unfold d2Go at h ⊢
  have hm:=one_more S x src q
  cases ho:one S x src with
  | err e =>
   rw [ho] at h
   simp only [Prod.mk.injEq,reduceCtorEq,and_false] at h
  | fin rest =>
   rw [ho] at h hm
   rw [hm (by simp)]
   simp only [OneR.more,Prod.mk.injEq,Sum.inr.injEq] at h ⊢
   exact ⟨h.1,by rw [h.2]⟩
  | told b y rest =>
   obtain ⟨m,hm1,hm2,hr⟩:=(one_front S x src).1 b y rest ho
   rw [ho] at h hm
   rw [hm (by simp)]
   simp only [OneR.more] at h ⊢
   by_cases hl:most<out.length+b.length
   ·rw [if_pos hl] at h
    simp only [Prod.mk.injEq,reduceCtorEq,and_false] at h
   rw [if_neg hl] at h ⊢
   have hrl:rest.length=src.length-m:=by rw [hr,List.length_drop]
   exact go_more S most q f g _ _ rest T r (by omega) (by omega) h
theorem getD_takeU (l:List UInt8) {m i:Nat} (h:i<m):(l.take m).getD i 0=l.getD i 0:=by
 rw [List.getD_eq_getElem?_getD,List.getD_eq_getElem?_getD,List.getElem?_take,if_pos h]
theorem one_exact (S:Nat) (x:DS) (src:List UInt8) {b:List UInt8} {y:DS} {r:List UInt8} (h:one S x src=.told b y r):∃ p,src=p++r∧1≤p.length∧one S x p=.told b y []:=by
 obtain ⟨m,hm1,hm2,hr⟩:=(one_front S x src).1 b y r h
 subst hr
 refine ⟨src.take m,(List.take_append_drop m src).symm,by rw [List.length_take];omega,?_⟩
 have hne:one S x (src.take m)≠.err 10:=by
  intro he
  have hl:(src.drop m).length=src.length-m:=List.length_drop
  unfold one at h he
  have hmin:min m src.length=m:=by omega
  rw [List.length_take,hmin,getD_takeU src (by omega)] at he
  by_cases h1:src.length<1
  ·omega
  rw [if_neg h1] at h
  rw [if_neg (by omega)] at he
  by_cases h2:headN (src.getD 0 0).toNat=0
  ·rw [if_pos h2] at h;cases h
  rw [if_neg h2] at h he
  by_cases h3:src.length<headN (src.getD 0 0).toNat
  ·rw [if_pos h3] at h;cases h
  rw [if_neg h3] at h
  by_cases h4:headN (src.getD 0 0).toNat=1
  ·rw [if_pos h4] at h;cases h
  rw [if_neg h4] at h
  by_cases h5:badHead x (src.getD 0 0).toNat
  ·rw [if_pos h5] at h;cases h
  rw [if_neg h5] at h
  have hdl:(src.drop (headN (src.getD 0 0).toNat)).length=src.length-headN (src.getD 0 0).toNat:=List.length_drop
  generalize hc:(src.getD 0 0).toNat=c at *
  unfold oneBody at h
  by_cases hc3:c<3
  ·rw [if_pos hc3] at h
   by_cases hlt:(src.drop (headN c)).length<twoB (src.take (headN c)) 1+1
   ·rw [if_pos hlt] at h;cases h
   rw [if_neg hlt] at h
   injection h with _ _ h
   have hmm:m=headN c+(twoB (src.take (headN c)) 1+1):=by
    have:=congrArg List.length h
    rw [List.length_drop,List.length_drop,List.length_drop] at this
    omega
   rw [if_neg (by omega),if_neg h4,if_neg h5] at he
   unfold oneBody at he
   rw [if_pos hc3,List.take_take,show min (headN c) m=headN c by omega,List.length_drop,List.length_take,hmin,if_neg (by omega)] at he
   cases he
  rw [if_neg hc3] at h
  by_cases hlt:(src.drop (headN c)).length<twoB (src.take (headN c)) 3+1
  ·rw [if_pos hlt] at h;cases h
  rw [if_neg hlt] at h
  by_cases hp:192≤c∧badP ((src.take (headN c)).getD 5 0).toNat
  ·rw [if_pos hp] at h;cases h
  rw [if_neg hp] at h
  unfold oneLz at h
  split at h
  ·cases h
  injection h with _ _ h
  have hmm:m=headN c+(twoB (src.take (headN c)) 3+1):=by
   have:=congrArg List.length h
   rw [List.length_drop,List.length_drop,List.length_drop] at this
   omega
  rw [if_neg (by omega),if_neg h4,if_neg h5] at he
  unfold oneBody at he
  rw [if_neg hc3,List.take_take,show min (headN c) m=headN c by omega,List.length_drop,List.length_take,hmin,if_neg (by omega),if_neg hp] at he
  unfold oneLz at he
  split at he <;> cases he
 have hm:=one_more S x (src.take m) (src.drop m) hne
 rw [List.take_append_drop,h] at hm
 cases ho:one S x (src.take m) with
 | err e=>rw [ho] at hm;cases hm
 | fin r=>rw [ho] at hm;cases hm
 | told b' y' r' =>
  rw [ho] at hm
  injection hm with e1 e2 e3
  have:r'=[]:=by
   have h:=congrArg List.length e3
   rw [List.length_append] at h
   exact List.eq_nil_of_length_eq_zero (by omega)
  rw [this,← e1,← e2]
theorem go_exact (S most:Nat):∀ (f g:Nat) (x:DS) (out src:List UInt8) (T r:List UInt8),src.length<f→src.length<g→d2Go S most f x out src=(T,.inr r)→∃ p,src=p++r∧1≤p.length∧d2Go S most g x out p=(T,.inr [])
 | 0,_,_,_,_,_,_,h,_,_=>absurd h (by omega)
 | _,0,_,_,_,_,_,_,h,_=>absurd h (by omega)
 | f+1,g+1,x,out,src,T,r,hf,hg,h=>by
  unfold d2Go at h
  cases ho:one S x src with
  | err e=>rw [ho] at h;simp only [Prod.mk.injEq,reduceCtorEq,and_false] at h
  | fin rest =>
   obtain ⟨h1,h2⟩:=(one_front S x src).2 rest ho
   rw [ho] at h
   simp only [Prod.mk.injEq,Sum.inr.injEq] at h
   obtain ⟨e1,e2⟩:=h
   subst e1;subst e2
   refine ⟨src.take 1,by rw [h2,List.take_append_drop],by rw [List.length_take];omega,?_⟩
   have hh:headN (src.getD 0 0).toNat=1:=by
    unfold one at ho
    rw [if_neg (by omega)] at ho
    by_cases k2:headN (src.getD 0 0).toNat=0
    ·rw [if_pos k2] at ho;cases ho
    rw [if_neg k2] at ho
    by_cases k3:src.length<headN (src.getD 0 0).toNat
    ·rw [if_pos k3] at ho;cases ho
    rw [if_neg k3] at ho
    by_cases k4:headN (src.getD 0 0).toNat=1
    ·exact k4
    rw [if_neg k4] at ho
    by_cases k5:badHead x (src.getD 0 0).toNat
    ·rw [if_pos k5] at ho;cases ho
    rw [if_neg k5] at ho
    unfold oneBody at ho
    split at ho
    ·split at ho <;> cases ho
    split at ho
    ·cases ho
    split at ho
    ·cases ho
    unfold oneLz at ho
    split at ho <;> cases ho
   have hl:(src.take 1).length=1:=by rw [List.length_take];omega
   have e:one S x (src.take 1)=.fin []:=by
    unfold one
    rw [hl,getD_takeU src (by omega),hh,if_neg (by omega),if_neg (by omega),if_neg (by omega),if_pos rfl,List.drop_of_length_le (by omega)]
   unfold d2Go
   rw [e]
  | told b y rest =>
   obtain ⟨p,e1,e2,e3⟩:=one_exact S x src ho
   have hlen:=congrArg List.length e1
   rw [List.length_append] at hlen
   rw [ho] at h
   simp only at h
   by_cases hl:most<out.length+b.length
   ·rw [if_pos hl] at h;simp only [Prod.mk.injEq,reduceCtorEq,and_false] at h
   rw [if_neg hl] at h
   obtain ⟨p2,k1,k2,k3⟩:=go_exact S most f g _ _ rest T r (by omega) (by omega) h
   refine ⟨p++p2,by rw [e1,k1,List.append_assoc],by rw [List.length_append];omega,?_⟩
   unfold d2Go
   rw [one_more S x p p2 (by rw [e3];simp),e3]
   simp only [OneR.more,List.nil_append]
   rw [if_neg hl]
   exact k3
end Go.Proofs.YtffehfpbdcokbaaGreat
