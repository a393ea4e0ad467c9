import Derived.Lib.SlBytesConst
import Derived.Test.YtffehfpbdcokbaaGreatBu18
import Derived.Test.YtffehfpbdcokbaaGreatBu37
set_option linter.unusedVariables false
set_option linter.unusedSimpArgs false
namespace Go.Proofs.YtffehfpbdcokbaaGreat
open Lib (hid)
open Go.RowKit Rng Lz Win Fnd
structure PAt (w:World) (k:LK) (st:Nat) (rep:Nat→Nat) (pr:Pr):Prop where
 m:Pts w k.sb (mcells k st rep pr) 136
 l:Pts w k.lb (lcells k pr) 117
 fit:∀ i,pr i<65536
 ne:k.sb≠k.lb
theorem PAt.frm {w w':World} {k:LK} {st:Nat} {rep:Nat→Nat} {pr:Pr} {N:Nat→Prop} (h:PAt w k st rep pr) (hf:Frm N w w') (h1:¬ N k.sb) (h2:¬ N k.lb):PAt w' k st rep pr:=⟨h.m.frm hf h1,h.l.frm hf h2,h.fit,h.ne⟩
theorem PAt.later {w w':World} {k:LK} {st:Nat} {rep:Nat→Nat} {pr:Pr} (h:PAt w k st rep pr) (hb:Below w.heap.size w w'):PAt w' k st rep pr:=h.frm (Frm.of_below (S:=fun _=>False) hb) id id
def KZ (k:LK) (q:Nat):Prop:=q=k.sb∨q=k.lb
theorem OwnB.low {w:World} {T base base':Nat} {v:Value} {bs:List UInt8} (h:OwnB w T base v bs) (hb:base'≤base):OwnB w T base' v bs:=by
 refine ⟨h.1,?_⟩
 rcases h.2 with h2 | ⟨g,cap,cur,rfl,hb2,r⟩
 ·exact .inl h2
 exact .inr ⟨g,cap,cur,rfl,by omega,r⟩
theorem WrAt.start {w w2:World} {k:LK} {st eb:Nat} {rep:Nat→Nat} {pr:Pr} {A:Option Addr} {c fr:Nat} {bs:List UInt8} {sh:Int} (hs:PAt w k st rep pr) (hr:BRow w w.heap.size A bs) (hoff:BOff (KZ k) A bs) (h1:Below w.heap.size w w2) (he:EncAt w2 206 0 eb eb (.slice none 0 0) newEnc) (heb:w.heap.size≤eb) :
 WrAt (fun q=>q=eb∨w2.heap.size+1≤q) (w2.alloc (.cells #[.pointer (some ⟨k.sb,0,none⟩),.pointer (some ⟨eb,0,none⟩),.slice A bs.length c,.int .i64 fr,.int .i64 sh] 157)) k ⟨eb,w2.heap.size⟩ A c bs sh fr st rep ⟨newEnc,pr⟩:=by
 have s2:=hs.later h1
 have e1:=hs.m.lt
 have e2:=hs.l.lt
 have e3:=he.p.lt
 have e4:=h1.size
 have hsz:(w2.alloc (.cells #[.pointer (some ⟨k.sb,0,none⟩),.pointer (some ⟨eb,0,none⟩),.slice A bs.length c,.int .i64 fr,.int .i64 sh] 157)).heap.size=w2.heap.size+1:=by show (w2.heap.push _).size=_;rw [Array.size_push]
 refine ⟨⟨⟨⟨.slice none 0 0,⟨he.p.alloc _,OwnB.nil _ _ _,he.k⟩,fun q hq=>by cases hq⟩,.inl rfl,fun q hq=>.inr (by omega),encI_new⟩,s2.m.alloc _,s2.l.alloc _,s2.fit,?_,?_,s2.ne⟩,Pts.new _ _ _,?_,?_,?_⟩
 ·rintro (e | e) <;> omega
 ·rintro (e | e) <;> omega
 ·intro h0
  obtain ⟨b,off,rfl,hlt,hc⟩:=hr h0
  have hb:Below w.heap.size w (w2.alloc (.cells #[.pointer (some ⟨k.sb,0,none⟩),.pointer (some ⟨eb,0,none⟩),.slice (some ⟨b,off,none⟩) bs.length c,.int .i64 fr,.int .i64 sh] 157)):=h1.alloc h1.size _
  exact ⟨b,off,rfl,by omega,fun j hj=>(hb.cell (p:=⟨b,off+j,none⟩) hlt).trans (hc j hj)⟩
 ·intro h0 ad e hz
  obtain ⟨b,off,e6,hlt,hc⟩:=hr h0
  have e7:=hoff h0 ad e
  rw [e] at e6
  injection e6 with e6
  subst e6
  rcases hz with (e8 | e8) | e8
  ·rcases e8 with e8 | e8
   ·simp only at e8;omega
   simp only at e8;omega
  ·exact e7 e8
  simp only at e8;omega
 rintro (e | e)
 ·simp only at e;omega
 simp only at e;omega
set_option maxRecDepth 100000 in
set_option maxHeartbeats 8000000 in
theorem putchunk_main (k:LK) (st:Nat) (rep:Nat→Nat) (pr:Pr) (A:Option Addr) (bs:List UInt8) (n c fr total:Nat) (B:Option Addr) (l:List Sq) (m d:Nat) (w:World)
 (hs:PAt w k st rep pr) (hk:k.Ok) (hst:st<12) (hrep:∀ j,rep j<4294967296) (hn:n=bs.length) (hc:bs.length≤c) (hr:BRow w w.heap.size A bs) (hoff:BOff (KZ k) A bs) (hlen:bs.length≤16777216)
 (hm:m=l.length) (hmd:l.length≤d) (hl:SqRow w w.heap.size B l) (hlo:∀ ad,B=some ad→¬ KZ k ad.block) (hml:l.length≤140737488355328) (hfit:∀ s∈l,s.fits) (hfr:fr≤bs.length) (h21:bs.length-fr≤2097152) (ht:total<9223372036854775808)
 (hright:rightP bs fr l=true) (hcost:costOps (opsOf l)+110≤1000000) :
 Calls Tryz.prog 33 #[.pointer (some ⟨k.sb,0,none⟩),.slice A n c,.int .i64 fr,.int .i64 total,.slice B m d] w fun e w'=>∃ v,e=.returned (.tuple #[v,.int .i64 0])∧OwnB w' 5 w.heap.size v (opsB k bs fr total st rep pr (opsOf l)) ∧
  PAt w' k (wOps k bs fr (totOf total) (opsOf l) ⟨fr,st,rep,⟨newEnc,pr⟩⟩).st (wOps k bs fr (totOf total) (opsOf l) ⟨fr,st,rep,⟨newEnc,pr⟩⟩).rep (wOps k bs fr (totOf total) (opsOf l) ⟨fr,st,rep,⟨newEnc,pr⟩⟩).s.pr∧Frm (KZ k) w w':=by
 subst hn;subst hm
 unfold opsB
 obtain ⟨T,hT⟩:∃ T,totOf total=T:=⟨_,rfl⟩
 rw [hT]
 have hTb:T<1099511627792:=by rw [← hT];exact totOf_lt total
 obtain ⟨X,hX⟩:∃ X,wOps k bs fr T (opsOf l) ⟨fr,st,rep,⟨newEnc,pr⟩⟩=X:=⟨_,rfl⟩
 rw [hX]
 have hgo:rightGo bs l fr=some bs.length∧fr<bs.length:=by
  unfold rightP rightEnd at hright
  cases hg:rightGo bs l fr with
  | none=>rw [hg] at hright;cases hright
  | some a =>
   rw [hg] at hright
   obtain ⟨e1,e2⟩:=of_decide_eq_true hright
   subst e1
   exact ⟨rfl,e2⟩
 obtain ⟨sh,hsh⟩:∃ sh:Int,(T:Int)-(fr:Int)=sh:=⟨_,rfl⟩
 have hshw:IntKind.i64.wrap sh=sh:=Go.IntWalk.i64_in _ (by omega)
 have HR1:=hid (right_p A bs bs.length c fr B l l.length d w rfl hc hr (by omega) rfl hmd hl hml hfit hfr)
 rw [hright] at HR1
 obtain ⟨r,hr2⟩:∃ r,bs.length-fr=r:=⟨_,rfl⟩
 have hri:(bs.length:Int)-(fr:Int)=(r:Int):=by omega
 have hrw:IntKind.i64.wrap (r:Int)=(r:Int):=Go.IntWalk.i64_in _ (by omega)
 have hr21:(r:Int)≤2097152:=by omega
 have hf1:(0:Int)≤(fr:Int):=by omega
 have hf2:(fr:Int)≤(bs.length:Int):=by omega
 have ht1:(0:Int)≤(total:Int):=by omega
 have HS:=hid hs
 have HK:=hid hk
 have HREP:=hid hrep
 have HR:=hid hr
 have HOFF:=hid hoff
 have HL:=hid hl
 have HLO:=hid hlo
 have HF:=hid hfit
 have HT:=hid hT
 have HX:=hid hX
 have HGO:=hid hgo
 have HCO:=hid hcost
 have HSH:=hid hsh
 have HN:=hid (And.intro hlen (And.intro hfr hTb))
 clear hs hk hrep hr hoff hl hlo hfit hT hX hgo hcost hright hr2 h21 hfr
 go_enter Tryz.func33,Tryz.ntmps33
 go_wp2_with fail
 refine HR1.out.mono ?_;rintro e w1 ⟨rfl,b1⟩
 have B1:=hid b1
 clear b1 HR1
 go_upto_if 45 with fail
 go_cut [3] from 46 (fun v wx=>v=.int .i64 T∧wx=w1)
 case first =>
  by_cases hbig:1099511627776<total
  ·have hi:(1099511627776:Int)<(total:Int):=by omega
   have ha:=and15 total ht
   obtain ⟨m,hm⟩:∃ m,total % 16=m:=⟨_,rfl⟩
   have hTe:=HT.out
   unfold totOf at hTe
   rw [if_pos hbig,hm] at hTe
   rw [hm] at ha
   have hmb:m<16:=by omega
   have hTi:(1099511627776:Int)+(m:Int)=(T:Int):=by omega
   have hTw:IntKind.i64.wrap (T:Int)=(T:Int):=Go.IntWalk.i64_in _ (by omega)
   clear hm hTe hbig hmb
   go_wp2
   go_meet
   case rel=>exact ⟨rfl,rfl⟩
  have hi:(total:Int)≤1099511627776:=by omega
  have hTe:=HT.out
  unfold totOf at hTe
  rw [if_neg hbig] at hTe
  subst hTe
  clear hbig
  go_wp2
  go_meet
  case rel=>exact ⟨rfl,rfl⟩
 case rest =>
 obtain ⟨rfl,hwx⟩:=hcut
 subst hwx
 go_wp2_with fail
 refine (enew_p wc).mono ?_;rintro e w2 ⟨rfl,h2,b2⟩
 have B2:=hid (B1.out.trans (b2.mono B1.out.size))
 have E2:=hid h2
 have HST:=hid (WrAt.start (fr:=fr) (sh:=sh) (c:=c) HS.out HR.out HOFF.out B2.out E2.out B1.out.size)
 have hsb:=HSH.out
 obtain ⟨eb,heb⟩:∃ eb,wc.heap.size=eb:=⟨_,rfl⟩
 have hebw:w.heap.size≤eb:=by have:=B1.out.size;omega
 rw [heb] at HST ⊢
 have HEB:=hid hebw
 clear h2 b2 heb hebw
 go_upto_region 13 with fail
 have HB3:=hid (B2.out.alloc B2.out.size (.cells #[.pointer (some ⟨k.sb,0,none⟩),.pointer (some ⟨eb,0,none⟩),.slice A bs.length c,.int .i64 fr,.int .i64 sh] 157))
 obtain ⟨w3,hw3⟩:∃ w3,w2.alloc (.cells #[.pointer (some ⟨k.sb,0,none⟩),.pointer (some ⟨eb,0,none⟩),.slice A bs.length c,.int .i64 fr,.int .i64 sh] 157)=w3:=⟨_,rfl⟩
 obtain ⟨O,hO⟩:∃ O:Nat→Prop,(fun q=>q=eb∨w2.heap.size+1≤q)=O:=⟨_,rfl⟩
 have hxb2:=B2.out.size
 have HO:Hid (∀ q,O q→w.heap.size≤q):=hid (fun q hq=>by
  rw [← hO] at hq
  rcases hq with e | e
  ·have:=HEB.out;omega
  omega)
 obtain ⟨xb,hxb⟩:∃ xb,w2.heap.size=xb:=⟨_,rfl⟩
 rw [hw3,hO,hxb] at HST
 rw [hw3] at HB3
 rw [hw3,hxb]
 rw [hxb] at hxb2
 have HXB:=hid hxb2
 clear hw3 hO hxb hxb2 hsb B1 B2 E2
 have hlen2:(l.length:Int)≤140737488355328:=by omega
 go_wp2
 go_loopw [64] (fun iv wr=>∃ (j:Nat) (x:PS),iv=.int .i64 j∧j≤l.length∧WrAt O wr k ⟨eb,xb⟩ A c bs sh x.pos x.st x.rep x.s∧rightGo bs (l.drop j) x.pos=some bs.length∧wOps k bs fr T (opsOf (l.drop j)) x=X∧x.s.d.cnt+costOps (opsOf (l.drop j))+110≤1000000∧x.st<12∧(∀ i,x.rep i<4294967296)∧fr≤x.pos∧x.pos≤bs.length∧Frm (KZ k) w wr) (fun iv _=>l.length-(intOf iv).toNat)
 case atStart=>exact ⟨0,⟨fr,st,rep,⟨newEnc,pr⟩⟩,rfl,by omega,HST.out,HGO.out.1,HX.out,by have:=HCO.out;have h0:newEnc.cnt=0:=rfl;simp only [List.drop_zero];omega,hst,HREP.out,Nat.le_refl _,HN.out.2.1,Frm.of_below HB3.out⟩
 case round =>
 obtain ⟨j,x,rfl,hj,hwr,hgo,hX,hcost,hxst,hxrep,hxf,hxl,hfr⟩:=hrel
 have HWR:=hid hwr
 have HGO2:=hid hgo
 have HX2:=hid hX
 have HCO2:=hid hcost
 have HXR:=hid hxrep
 have HXF:=hid (And.intro hxf hxl)
 have HFR:=hid hfr
 have hbnd:=hwr.p.lt
 simp only at hbnd
 have HBND:=hid hbnd
 clear hwr hgo hX hcost hxrep hxf hxl hfr hbnd HST HB3
 by_cases hjl:j<l.length
 ·obtain ⟨b,off,hB,hb,hcell⟩:=HL.out (by omega)
  subst hB
  obtain ⟨c0,c1,c2⟩:=hcell j hjl
  obtain ⟨s,hs⟩:∃ s,l.getD j default=s:=⟨_,rfl⟩
  rw [hs] at c0 c1 c2
  have hdrop:l.drop j=s::l.drop (j+1):=by
   rw [List.drop_eq_getElem_cons hjl,← hs]
   simp [List.getD,hjl]
  have hbk:¬ KZ k b:=HLO.out ⟨b,off,none⟩ rfl
  have hbl:=HFR.out.block b hb hbk
  have x0:=(World.cell?_of_block (a:=⟨b,off+j*3,none⟩) hbl).trans c0
  have x1:=(World.cell?_of_block (a:=⟨b,off+j*3+1,none⟩) hbl).trans c1
  have x2:=(World.cell?_of_block (a:=⟨b,off+j*3+2,none⟩) hbl).trans c2
  obtain ⟨⟨s0,s1⟩,⟨s2,s3⟩,s4,s5⟩:=HF.out s (by rw [← hs];simp [List.getD,hjl])
  have HDR:=hid hdrop
  clear hcell c0 c1 c2 hs hdrop hbl hbk
  obtain ⟨sl,sm,sb⟩:=s
  simp only at x0 x1 x2 s0 s1 s2 s3 s4 s5
  have hg:=HGO2.out
  have hX:=HX2.out
  have hco:=HCO2.out
  rw [HDR.out] at hg hX hco
  rw [rightGo] at hg
  unfold opsOf opsSq at hX hco
  by_cases hbad:RB1 ⟨sl,sm,sb⟩ (bs.length-x.pos)
  ·rw [if_pos hbad] at hg;cases hg
  rw [if_neg hbad] at hg
  unfold RB1 at hbad
  simp only at hbad hg hX hco
  obtain ⟨L,rfl⟩:∃ L:Nat,sl=L:=⟨sl.toNat,by omega⟩
  obtain ⟨M,rfl⟩:∃ M:Nat,sm=M:=⟨sm.toNat,by omega⟩
  simp only [Int.toNat_natCast] at hg hX hco
  rw [List.append_assoc] at hX hco
  obtain ⟨R1,hR1⟩:∃ R1,(if 0<(M:Int) then [some (M,sb.toNat-1)] else [])++opsOf (l.drop (j+1))=R1:=⟨_,rfl⟩
  rw [hR1] at hX hco
  rw [costOps_append,costOps_lits] at hco
  have hL1:x.pos+L≤bs.length:=by have:=HXF.out;omega
  have HG:=hid hg
  have HX3:=hid hX
  have HCO3:=hid hco
  have HR1:=hid hR1
  have HL1:=hid hL1
  have HM:=hid (show M≠1∧M≤273 by omega)
  have hLi:(L:Int)≤16777216:=by have:=HN.out.1;omega
  have H1:=hid (HWR.out.narrow ((Frm.refl (fun _=>False) wr).alloc (.cells #[.int .i64 (L:Int),.int .i64 (M:Int),.int .i64 sb] 138)) (fun q=>q=wr.heap.size) (fun q e=>by
   have:(wr.alloc (.cells #[.int .i64 (L:Int),.int .i64 (M:Int),.int .i64 sb] 138)).heap.size=wr.heap.size+1:=by show (wr.heap.push _).size=_;rw [Array.size_push]
   omega))
  have HP:=hid (Pts.new wr #[.int .i64 (L:Int),.int .i64 (M:Int),.int .i64 sb] 138)
  have HF1:=hid (HFR.out.alloc (.cells #[.int .i64 (L:Int),.int .i64 (M:Int),.int .i64 sb] 138))
  clear hg hX hco hR1 hL1 hbad
  go_wp2_with fail
  obtain ⟨wo,rfl⟩:∃ wo:World,wo=wr:=⟨_,rfl⟩
  obtain ⟨yb,hyb⟩:∃ yb,wo.heap.size=yb:=⟨_,rfl⟩
  rw [hyb] at H1 HP HBND ⊢
  obtain ⟨O1,hO1⟩:∃ O1:Nat→Prop,(fun q=>O q∧¬ q=yb)=O1:=⟨_,rfl⟩
  rw [hO1] at H1
  have HO1:Hid ((∀ q,O1 q→O q)∧¬ O1 yb):=hid ⟨fun q hq=>by rw [← hO1] at hq;exact hq.1,fun hq=>by rw [← hO1] at hq;exact hq.2 rfl⟩
  have HWB:Hid (w.heap.size≤yb):=hid (by have:=HFR.out.size;omega)
  have HSL:Hid (k.sb<yb∧k.lb<yb):=hid ⟨by have:=HWR.out.lz.m.lt;omega,by have:=HWR.out.lz.l.lt;omega⟩
  clear hO1 x0 x1 x2
  go_loopw [70] (fun iv wq=>∃ (t:Nat) (y:PS),iv=.int .i64 t∧t≤L∧WrAt O1 wq k ⟨eb,xb⟩ A c bs sh y.pos y.st y.rep y.s∧y.pos=x.pos+t∧wOps k bs fr T (List.replicate (L-t) none++R1) y=X∧y.s.d.cnt+(9*(L-t)+costOps R1)+110≤1000000∧y.st<12∧(∀ i,y.rep i<4294967296)∧Pts wq yb #[.int .i64 (L:Int),.int .i64 (M:Int),.int .i64 sb] 138∧Frm (KZ k) w wq) (fun iv _=>L-(intOf iv).toNat)
  case atStart=>exact ⟨0,x,rfl,by omega,H1.out,rfl,HX3.out,HCO3.out,hxst,HXR.out,HP.out,HF1.out⟩
  case round =>
  obtain ⟨t,y,rfl,ht,hw1,hyp,hyX,hyc,hyst,hyrep,hpy,hfy⟩:=hrel
  have HW1:=hid hw1
  have HYP:=hid hyp
  have HYX:=hid hyX
  have HYC:=hid hyc
  have HYR:=hid hyrep
  have HPY:=hid hpy
  have HFY:=hid hfy
  have z1:wr.cell? ⟨yb,1,none⟩=some (.int .i64 (M:Int)):=by rw [hpy.cell];rfl
  have z2:wr.cell? ⟨yb,2,none⟩=some (.int .i64 sb):=by rw [hpy.cell];rfl
  clear hw1 hyp hyX hyc hyrep hpy hfy H1 HP
  have htot:(y.pos:Int)+sh=((T+(y.pos-fr):Nat):Int):=by have:=HSH.out;have:=HYP.out;have:=HXF.out;omega
  have HTOT:=hid htot
  clear htot
  by_cases htL:t<L
  ·go_wp2_with fail
   refine (putlit_p O1 wr k ⟨eb,xb⟩ A c bs sh y.pos (T+(y.pos-fr)) y.st y.rep y.s HW1.out HK.out HTOT.out (by have:=HN.out;have:=HYP.out;have:=HL1.out;omega) (by have:=HYP.out;have:=HL1.out;omega) (by have:=HN.out;omega) hyst (HYR.out 0) (by have:=HYC.out;omega)).mono ?_;rintro e w4 ⟨rfl,h4,f4⟩
   have H4:=hid h4
   have P4:=hid (HPY.out.frm f4 (by
    rintro ((e | e | e) | e)
    ·exact HO1.out.2 e
    ·have:=HSL.out;omega
    ·have:=HSL.out;omega
    have:=HBND.out;simp only at e;omega))
   have F4:=hid (HFY.out.transR f4 (fun q hq e=>by
    rcases e with (e | e | e) | e
    ·have:=HO.out q (HO1.out.1 q e);omega
    ·exact .inl e
    ·exact .inr e
    have:=HXB.out;simp only at e;omega))
   have hX5:wOps k bs fr T (List.replicate (L-(t+1)) none++R1) (wOp k bs fr T y none)=X:=by
    have h:=HYX.out
    rw [show L-t=(L-(t+1))+1 by omega,List.replicate_succ,List.cons_append,wOps_cons] at h
    exact h
   have hc5:(wOp k bs fr T y none).s.d.cnt+(9*(L-(t+1))+costOps R1)+110≤1000000:=by
    have h1:=cnt_putLit k bs (T+(y.pos-fr)) y.pos y.st y.rep y.s
    have h2:=HYC.out
    show (putLit k bs (T+(y.pos-fr)) y.pos y.st y.rep y.s).d.cnt+_+110≤1000000
    omega
   have HX5:=hid hX5
   have HC5:=hid hc5
   clear h4 f4 hX5 hc5 z1 z2
   go_wp2
   exact ⟨⟨t+1,wOp k bs fr T y none,by go_num,by omega,H4.out,by show y.pos+1=_;have:=HYP.out;omega,HX5.out,HC5.out,show behS y.st 0<12 from behS_lt hyst,HYR.out,P4.out,F4.out⟩,by simp [intOf];omega⟩
  obtain rfl:t=L:=by omega
  have hg:=HG.out
  have hX6:=HYX.out
  rw [Nat.sub_self,List.replicate_zero,List.nil_append] at hX6
  have hpy:=HYP.out
  rw [← hpy] at hg
  by_cases hM0:M=0
  ·subst hM0
   rw [if_pos (show ((0:Nat):Int)=0 from rfl)] at hg
   have hR1:=HR1.out
   rw [if_neg (show ¬ (0:Int)<((0:Nat):Int) by omega),List.nil_append] at hR1
   rw [← hR1] at hX6
   have hc6:y.s.d.cnt+costOps (opsOf (l.drop (j+1)))+110≤1000000:=by have:=HYC.out;rw [hR1];omega
   have HC6:=hid hc6
   have HG6:=hid hg
   have HX6:=hid hX6
   have HW6:=hid (HW1.out.widen HWR.out HO1.out.1 (by have:=HPY.out.lt;omega))
   have hM1:((0:Nat):Int)≤0:=by omega
   clear hg hX6 hpy hR1 hc6
   go_wp2
   exact ⟨⟨j+1,y,by go_num,by omega,HW6.out,HG6.out,HX6.out,HC6.out,hyst,HYR.out,by have:=HXF.out;have:=HYP.out;omega,by have:=HL1.out;have:=HYP.out;omega,HFY.out⟩,by simp [intOf];omega⟩
  rw [if_neg (show ¬ ((M:Nat):Int)=0 by omega)] at hg
  by_cases hbad2:RB2 ⟨t,M,sb⟩ bs.length y.pos
  ·rw [if_pos hbad2] at hg;cases hg
  rw [if_neg hbad2] at hg
  unfold RB2 at hbad2
  simp only at hbad2 hg
  obtain ⟨K,rfl⟩:∃ K:Nat,sb=K:=⟨sb.toNat,by omega⟩
  simp only [Int.toNat_natCast] at hg
  by_cases hsm:Same bs y.pos M K
  ·rw [if_pos hsm] at hg
   have hR1:=HR1.out
   rw [if_pos (show (0:Int)<(M:Int) by omega)] at hR1
   rw [← hR1] at hX6
   simp only [Int.toNat_natCast,List.cons_append,List.nil_append] at hX6
   rw [wOps_cons] at hX6
   have hyc2:y.s.d.cnt+(100+costOps (opsOf (l.drop (j+1))))+110≤1000000:=by
    have h1:=HYC.out
    rw [← hR1] at h1
    simp only [Nat.sub_self,Nat.mul_zero,Nat.zero_add,List.cons_append,List.nil_append,costOps,costOp] at h1
    exact h1
   obtain ⟨D,hD⟩:∃ D,K-1=D:=⟨_,rfl⟩
   rw [hD] at hX6
   have hK1:K=D+1:=by omega
   have hDb:D<4294967296:=by have:=HN.out;omega
   have HG6:=hid hg
   have HX6:=hid hX6
   have HC6:=hid hyc2
   have HD:=hid (And.intro hK1 hDb)
   have HB2:=hid (show y.pos+M≤bs.length by omega)
   have hM1:(0:Int)<(M:Int):=by omega
   have HM2:=hid (show 2≤M by have:=HM.out;omega)
   clear hg hX6 hyc2 hD hK1 hDb hR1 hpy hsm hbad2 hM0
   go_wp2_with fail
   refine (putmatch_p O1 wr k ⟨eb,xb⟩ A c bs sh y.pos (T+(y.pos-fr)) y.st y.rep y.s HW1.out HK.out HTOT.out (by have:=HN.out;have:=HB2.out;omega) M K D HM2.out HM.out.2 HD.out.1 HD.out.2 (by have:=HN.out;have:=HB2.out;omega) hyst HYR.out (by have:=HC6.out;omega)).mono ?_;rintro e w4 ⟨rfl,h4,f4⟩
   have F4:=hid (HFY.out.transR f4 (fun q hq e=>by
    rcases e with (e | e | e) | e
    ·have:=HO.out q (HO1.out.1 q e);omega
    ·exact .inl e
    ·exact .inr e
    have:=HXB.out;simp only at e;omega))
   have H4:=hid (h4.widen HWR.out HO1.out.1 (by have:=HPY.out.lt;have:=f4.size;omega))
   have hinv:=putMatch_inv k (T+(y.pos-fr)) M D y.st y.rep y.s hyst HYR.out HD.out.2
   have hcn:=cnt_putMatch k (T+(y.pos-fr)) M D y.st y.rep y.s HD.out.2
   have HINV:=hid hinv
   have HCN:Hid ((wOp k bs fr T y (some (M,D))).s.d.cnt+costOps (opsOf (l.drop (j+1)))+110≤1000000):=hid (by
    have h1:=HC6.out
    show (putMatch k (T+(y.pos-fr)) M D y.st y.rep y.s).2.2.d.cnt+_+110≤1000000
    omega)
   clear h4 f4 z1 z2 hinv hcn
   go_wp2
   exact ⟨⟨j+1,wOp k bs fr T y (some (M,D)),by go_num,by omega,H4.out,HG6.out,HX6.out,HCN.out,HINV.out.1,HINV.out.2,by show fr≤y.pos+M;have:=HXF.out;have:=HYP.out;omega,HB2.out,F4.out⟩,by simp [intOf];omega⟩
  rw [if_neg hsm] at hg;cases hg
 obtain rfl:j=l.length:=by omega
 have hX:=HX2.out
 rw [List.drop_length] at hX
 have hX2:x=X:=hX
 subst hX2
 have hco:=HCO2.out
 have HC7:Hid (x.s.d.cnt+5<1000000):=hid (by omega)
 clear hX hco
 obtain ⟨⟨v,hv,hvo⟩,hob,hoz,hI⟩:=HWR.out.lz.c
 have HV:=hid hv
 have HVO:=hid (And.intro hvo hob)
 clear hv hvo hob hoz hI
 go_wp2_with fail
 refine (eclose_p eb 0 v x.s.d wr HV.out (Nat.zero_le _) HC7.out).mono ?_;rintro e w5 ⟨v',rv,rfl,h5,f5,m5,o5,n5⟩
 have F5:=hid (HFR.out.transR f5 (fun q hq e=>by
  rcases e with e | e
  ·have:=HEB.out;omega
  have:=HO.out q (HVO.out.1 q e);omega))
 have S5:Hid (PAt w5 k x.st x.rep x.s.pr):=hid (by
  have hne:∀ q,KZ k q→¬ (q=eb∨v.ownBlock=some q):=by
   intro q hq e
   have hoq:O q:=by
    rcases e with e | e
    ·rw [e];exact HVO.out.2
    exact HVO.out.1 q e
   rcases hq with e2 | e2
   ·exact HWR.out.lz.ne.1 (e2▸hoq)
   exact HWR.out.lz.ne.2.1 (e2▸hoq)
  exact ⟨HWR.out.lz.m.frm f5 (hne _ (.inl rfl)),HWR.out.lz.l.frm f5 (hne _ (.inr rfl)),HWR.out.lz.fit,HWR.out.lz.ne.2.2⟩)
 have O5:=hid (o5.low (base':=w.heap.size) HFR.out.size)
 clear h5 f5 m5 o5 n5
 go_wp2
 go_ret2
 exact ⟨rv,rfl,O5.out,S5.out,F5.out⟩
open Go.RowKit Rng Win Lz Fnd
open Go.RowKit Rng Win Lz Fnd
set_option maxRecDepth 100000 in
theorem cnt_ops (k:LK) (bs:List UInt8) (fr T:Nat) (hb:bs.length≤16777216):∀ (l:List (Option (Nat×Nat))) (x:PS),OkOps bs x.pos l→(wOps k bs fr T l x).s.d.cnt≤x.s.d.cnt+costOps l
 | [],x,_=>Nat.le_refl _
 | none::l,x,h=>by
  rw [wOps_cons]
  have h1:=cnt_ops k bs fr T hb l (wOp k bs fr T x none) h.2
  have h2:(wOp k bs fr T x none).s.d.cnt≤x.s.d.cnt+9:=cnt_putLit _ _ _ _ _ _ _
  show _≤x.s.d.cnt+(_+costOps l)
  unfold costOp
  simp only
  omega
 | some m::l,x,h=>by
  obtain ⟨a1,a2,a3,a4,a5,a6⟩:=h
  rw [wOps_cons]
  have h1:=cnt_ops k bs fr T hb l (wOp k bs fr T x (some m)) a6
  have h2:(wOp k bs fr T x (some m)).s.d.cnt≤x.s.d.cnt+100:=cnt_putMatch _ _ _ _ _ _ _ (by omega)
  show _≤x.s.d.cnt+(_+costOps l)
  unfold costOp
  simp only
  omega
theorem pnew_p (lc lp pb:Nat) (h1:lc+lp≤4) (h2:pb≤4) (w:World):Calls Tryz.prog 30 #[.int .i64 lc,.int .i64 lp,.int .i64 pb] w fun e w'=>∃ b lb,e=.returned (.tuple #[.pointer (some ⟨b,0,none⟩),.int .i64 0])∧w.heap.size≤b∧w.heap.size≤lb∧PAt w' ⟨b,lb,lc,lp,pb⟩ 0 (fun _=>0) (fun _=>1024)∧Below w.heap.size w w':=by
 refine (putnew_p lc lp pb h1 h2 w).mono ?_
 rintro e w' ⟨b,lb,rfl,h3,h4,h5,h6,h7,h8⟩
 exact ⟨b,lb,rfl,h3,h4,⟨h6,h7,fun _=>(by decide:1024<65536),h5⟩,h8⟩
theorem pnew32 (w:World):Calls Tryz.prog 30 #[.int .i64 3,.int .i64 0,.int .i64 2] w fun e w'=>∃ b lb,e=.returned (.tuple #[.pointer (some ⟨b,0,none⟩),.int .i64 0])∧w.heap.size≤b∧w.heap.size≤lb∧PAt w' (newK b lb) 0 (fun _=>0) (fun _=>1024)∧Below w.heap.size w w':=pnew_p 3 0 2 (by omega) (by omega) w
end Go.Proofs.YtffehfpbdcokbaaGreat
