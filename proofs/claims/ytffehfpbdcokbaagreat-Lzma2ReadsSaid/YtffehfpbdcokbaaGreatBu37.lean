import Derived.Test.YtffehfpbdcokbaaGreatBu2
import Derived.Test.YtffehfpbdcokbaaGreatBu35
import Derived.Test.YtffehfpbdcokbaaGreatBu36
set_option linter.unusedVariables false
set_option linter.unusedSimpArgs false
namespace Go.Proofs.YtffehfpbdcokbaaGreat
open Lib (hid)
open Go.RowKit Fnd
def RB1 (s:Sq) (rest:Nat):Prop:=s.lits<0∨s.mat<0∨s.mat=1∨273<s.mat∨(rest:Int)<s.lits
def RB2 (s:Sq) (len a:Nat):Prop:=((len-a:Nat):Int)<s.mat∨s.back<1∨(a:Int)<s.back
instance (s:Sq) (n:Nat):Decidable (RB1 s n):=by unfold RB1;infer_instance
instance (s:Sq) (n a:Nat):Decidable (RB2 s n a):=by unfold RB2;infer_instance
def Same (bs:List UInt8) (a n k:Nat):Prop:=∀ i,i<n→bs.getD (a+i) 0=bs.getD (a+i-k) 0
instance (bs:List UInt8) (a n k:Nat):Decidable (Same bs a n k):=by unfold Same;infer_instance
def rightGo (bs:List UInt8):List Sq→Nat→Option Nat
 | [],a=>some a
 | s::l,a =>
  if RB1 s (bs.length-a) then none
  else if s.mat=0 then rightGo bs l (a+s.lits.toNat)
  else if RB2 s bs.length (a+s.lits.toNat) then none
  else if Same bs (a+s.lits.toNat) s.mat.toNat s.back.toNat then rightGo bs l (a+s.lits.toNat+s.mat.toNat)
  else none
def rightEnd (n fr:Nat):Option Nat→Bool
 | none=>false
 | some a=>decide (a=n∧fr<a)
def rightP (bs:List UInt8) (fr:Nat) (l:List Sq):Bool:=rightEnd bs.length fr (rightGo bs l fr)
set_option maxRecDepth 100000 in
set_option maxHeartbeats 4000000 in
theorem right_p (A:Option Addr) (bs:List UInt8) (n c fr:Nat) (B:Option Addr) (l:List Sq) (m d:Nat) (w:World) (hn:n=bs.length) (hc:bs.length≤c) (hr:BRow w w.heap.size A bs) (hlen:bs.length≤140737488355328)
 (hm:m=l.length) (hmd:l.length≤d) (hl:SqRow w w.heap.size B l) (hml:l.length≤140737488355328) (hfit:∀ s∈l,s.fits) (hfr:fr≤bs.length) :
 Calls Tryz.prog 73 #[.slice A n c,.int .i64 fr,.slice B m d] w fun e w'=>e=.returned (.bool (rightP bs fr l))∧Below w.heap.size w w':=by
 subst hn;subst hm
 obtain ⟨β,hβ⟩:∃ β,rightP bs fr l=β:=⟨_,rfl⟩
 rw [hβ]
 obtain ⟨res,hres⟩:∃ res,rightGo bs l fr=res:=⟨_,rfl⟩
 have hβ2:rightEnd bs.length fr res=β:=by rw [← hβ,← hres];rfl
 have HR:=hid hr
 have HL:=hid hl
 have HF:=hid hfit
 have HRES:=hid hres
 have HE:=hid hβ2
 have HFR:=hid hfr
 clear hr hl hfit hβ hβ2 hres
 go_enter Tryz.func73,Tryz.ntmps73
 go_wp2
 go_loopw [1,14] (fun av iv wr=>∃ k a:Nat,k≤l.length∧iv=.int .i64 k∧av=.int .i64 a∧a≤bs.length∧rightGo bs (l.drop k) a=res∧Below w.heap.size w wr) (fun _ iv _=>l.length-(intOf iv).toNat)
 case atStart=>exact ⟨0,fr,by omega,rfl,rfl,HFR.out,HRES.out,Below.refl _ _⟩
 case round =>
 obtain ⟨k,a,hk,rfl,rfl,ha,hgo,hbel⟩:=hrel
 have HGO:=hid hgo
 have HB:=hid hbel
 clear hgo hbel
 by_cases hkl:k<l.length
 ·obtain ⟨b,off,hB,hb,hcell⟩:=HL.out (by omega)
  subst hB
  obtain ⟨c0,c1,c2⟩:=hcell k hkl
  have hs:∃ s,l.getD k default=s:=⟨_,rfl⟩
  obtain ⟨s,hs⟩:=hs
  rw [hs] at c0 c1 c2
  have hdrop:l.drop k=s::l.drop (k+1):=by
   rw [List.drop_eq_getElem_cons hkl,← hs]
   simp [List.getD,hkl]
  have x0:=(HB.out.cell (p:=⟨b,off+k*3,none⟩) hb).trans c0
  have x1:=(HB.out.cell (p:=⟨b,off+k*3+1,none⟩) hb).trans c1
  have x2:=(HB.out.cell (p:=⟨b,off+k*3+2,none⟩) hb).trans c2
  obtain ⟨⟨s0,s1⟩,⟨s2,s3⟩,s4,s5⟩:=HF.out s (by rw [← hs];simp [List.getD,hkl])
  have HDR:=hid hdrop
  clear hcell c0 c1 c2 hs hdrop
  obtain ⟨sl,sm,sb⟩:=s
  simp only at x0 x1 x2 s0 s1 s2 s3 s4 s5
  obtain ⟨mn,hmn⟩:∃ mn,min sl sm=mn:=⟨_,rfl⟩
  have hmin:=fun w=>min2_int (P:=Tryz.prog) #[3,3] 3 sl sm mn hmn w
  have hg:=HGO.out
  rw [HDR.out,rightGo] at hg
  clear HGO HDR
  obtain ⟨r,hr⟩:∃ r,bs.length-a=r:=⟨_,rfl⟩
  rw [hr] at hg
  have hri:(bs.length:Int)-(a:Int)=(r:Int):=by omega
  have hrw:IntKind.i64.wrap (r:Int)=(r:Int):=Go.IntWalk.i64_in _ (by omega)
  have HBX:=hid (HB.out.alloc HB.out.size (.cells #[.int .i64 sl,.int .i64 sm,.int .i64 sb] 138))
  by_cases hbad:RB1 ⟨sl,sm,sb⟩ r
  ·rw [if_pos hbad] at hg
   have hβf:β=false:=by rw [← HE.out,← hg];rfl
   subst hβf
   unfold RB1 at hbad
   simp only at hbad
   clear hg hr
   have hcase:mn<0∨(0≤mn∧sm=1)∨(0≤mn∧(sm==1)=false∧273<sm)∨(0≤mn∧(sm==1)=false∧sm≤273∧(r:Int)<sl):=by
    by_cases h1:sm=1
    ·by_cases h0:mn<0
     ·exact .inl h0
     exact .inr (.inl ⟨by omega,h1⟩)
    have e:(sm==1)=false:=beq_eq_false_iff_ne.2 h1
    by_cases h0:mn<0
    ·exact .inl h0
    by_cases h2:273<sm
    ·exact .inr (.inr (.inl ⟨by omega,e,h2⟩))
    exact .inr (.inr (.inr ⟨by omega,e,by omega,by omega⟩))
   clear hmn hbad
   rcases hcase with h0 | ⟨h0,h1⟩ | ⟨h0,h1,h2⟩ | ⟨h0,h1,h2,h3⟩
   ·go_wp2
    go_ret
    exact ⟨rfl,HBX.out⟩
   ·subst h1
    go_wp2
    go_ret
    exact ⟨rfl,HBX.out⟩
   ·go_wp2
    go_ret
    exact ⟨rfl,HBX.out⟩
   go_wp2
   go_ret
   exact ⟨rfl,HBX.out⟩
  rw [if_neg hbad] at hg
  unfold RB1 at hbad
  simp only at hbad hg
  obtain ⟨L,rfl⟩:∃ L:Nat,sl=L:=⟨sl.toNat,by omega⟩
  obtain ⟨M,rfl⟩:∃ M:Nat,sm=M:=⟨sm.toNat,by omega⟩
  have h0:0≤mn:=by omega
  have h1:((M:Int)==1)=false:=beq_eq_false_iff_ne.2 (by omega)
  have h2:(M:Int)≤273:=by omega
  have h3:(L:Int)≤(r:Int):=by omega
  simp only [Int.toNat_natCast] at hg
  obtain ⟨a1,ha1⟩:∃ a1,a+L=a1:=⟨_,rfl⟩
  rw [ha1] at hg
  have ha1i:(a:Int)+(L:Int)=(a1:Int):=by omega
  have ha1w:IntKind.i64.wrap (a1:Int)=(a1:Int):=Go.IntWalk.i64_in _ (by omega)
  have hal:a1≤bs.length:=by omega
  have HM1:=hid (show M≠1 by omega)
  clear hmn hbad ha1
  by_cases hM0:M=0
  ·have hMe:((M:Int)==0)=true:=by rw [hM0];rfl
   rw [if_pos (by omega)] at hg
   have HG:=hid hg
   clear hg hr hM0
   go_wp2
   exact ⟨⟨k+1,a1,by omega,by go_num,by first | rfl | trivial,hal,HG.out,HBX.out⟩,by simp [intOf];omega⟩
  have hMe:((M:Int)==0)=false:=beq_eq_false_iff_ne.2 (by omega)
  rw [if_neg (by omega)] at hg
  obtain ⟨r1,hr1⟩:∃ r1,bs.length-a1=r1:=⟨_,rfl⟩
  have hr1i:(bs.length:Int)-(a1:Int)=(r1:Int):=by omega
  have hr1w:IntKind.i64.wrap (r1:Int)=(r1:Int):=Go.IntWalk.i64_in _ (by omega)
  by_cases hbad2:RB2 ⟨L,M,sb⟩ bs.length a1
  ·rw [if_pos hbad2] at hg
   have hβf:β=false:=by rw [← HE.out,← hg];rfl
   subst hβf
   unfold RB2 at hbad2
   simp only at hbad2
   rw [hr1] at hbad2
   clear hg hr hr1 hM0
   have hcase:(r1:Int)<(M:Int)∨((M:Int)≤(r1:Int)∧sb<1)∨((M:Int)≤(r1:Int)∧1≤sb∧(a1:Int)<sb):=by omega
   clear hbad2
   rcases hcase with g0 | ⟨g0,g1⟩ | ⟨g0,g1,g2⟩
   ·go_wp2
    go_ret
    exact ⟨rfl,HBX.out⟩
   ·go_wp2
    go_ret
    exact ⟨rfl,HBX.out⟩
   go_wp2
   go_ret
   exact ⟨rfl,HBX.out⟩
  rw [if_neg hbad2] at hg
  unfold RB2 at hbad2
  simp only at hbad2 hg
  rw [hr1] at hbad2
  obtain ⟨K,rfl⟩:∃ K:Nat,sb=K:=⟨sb.toNat,by omega⟩
  simp only [Int.toNat_natCast] at hg
  have g0:(M:Int)≤(r1:Int):=by omega
  have g1:(1:Int)≤(K:Int):=by omega
  have g2:(K:Int)≤(a1:Int):=by omega
  have HG:=hid hg
  have HM0:=hid hM0
  have HN:=hid (show a1+M≤bs.length by omega)
  have HP:=hid (Pts.new wr #[.int .i64 (L:Int),.int .i64 (M:Int),.int .i64 (K:Int)] 138)
  clear hg hbad2 hr hr1 hM0
  go_wp2_with fail
  obtain ⟨wo,rfl⟩:∃ wo:World,wo=wr:=⟨_,rfl⟩
  go_loopw [70] (fun iv wq=>∃ t:Nat,t≤M∧iv=.int .i64 t∧(∀ j,j<t→bs.getD (a1+j) 0=bs.getD (a1+j-K) 0)∧Pts wq wo.heap.size #[.int .i64 (L:Int),.int .i64 (M:Int),.int .i64 (K:Int)] 138∧Below w.heap.size w wq) (fun iv _=>M-(intOf iv).toNat)
  case atStart=>exact ⟨0,by omega,rfl,fun j hj=>absurd hj (by omega),HP.out,HBX.out⟩
  case round =>
  obtain ⟨t,ht,rfl,hsame,hp2,hb2⟩:=hrel
  have z1:wr.cell? ⟨wo.heap.size,1,none⟩=some (.int .i64 (M:Int)):=by rw [hp2.cell];rfl
  have z2:wr.cell? ⟨wo.heap.size,2,none⟩=some (.int .i64 (K:Int)):=by rw [hp2.cell];rfl
  have HS:=hid hsame
  have HP2:=hid hp2
  have HB2:=hid hb2
  clear hsame hp2 hb2
  by_cases htM:t<M
  ·obtain ⟨bb,bo,hA,hbb,hbc⟩:=HR.out (by have:=HN.out;omega)
   subst hA
   obtain ⟨q1,hq1⟩:∃ q1,a1+t=q1:=⟨_,rfl⟩
   obtain ⟨q2,hq2⟩:∃ q2,q1-K=q2:=⟨_,rfl⟩
   have hq1i:(a1:Int)+(t:Int)=(q1:Int):=by omega
   have hq2i:(q1:Int)-(K:Int)=(q2:Int):=by omega
   have hq1w:IntKind.i64.wrap (q1:Int)=(q1:Int):=Go.IntWalk.i64_in _ (by have:=HN.out;omega)
   have hq2w:IntKind.i64.wrap (q2:Int)=(q2:Int):=Go.IntWalk.i64_in _ (by have:=HN.out;omega)
   have hq1b:q1<bs.length:=by have:=HN.out;omega
   have hq2b:q2<bs.length:=by omega
   have kk1:=(HB2.out.cell (p:=⟨bb,bo+q1,none⟩) hbb).trans (hbc q1 hq1b)
   have kk2:=(HB2.out.cell (p:=⟨bb,bo+q2,none⟩) hbb).trans (hbc q2 hq2b)
   obtain ⟨u1,hu1⟩:∃ u1,bs.getD q1 0=u1:=⟨_,rfl⟩
   obtain ⟨u2,hu2⟩:∃ u2,bs.getD q2 0=u2:=⟨_,rfl⟩
   have HU:=hid (And.intro hq1 (And.intro hq2 (And.intro hu1 hu2)))
   obtain ⟨v1,hv1⟩:∃ v1,u1.toNat=v1:=⟨_,rfl⟩
   obtain ⟨v2,hv2⟩:∃ v2,u2.toNat=v2:=⟨_,rfl⟩
   have k1:wr.cell? ⟨bb,bo+q1,none⟩=some (.int .u8 (v1:Int)):=by rw [kk1,hu1,← hv1];rfl
   have k2:wr.cell? ⟨bb,bo+q2,none⟩=some (.int .u8 (v2:Int)):=by rw [kk2,hu2,← hv2];rfl
   clear kk1 kk2 hbc hq1 hq2 hu1 hu2 x0 x1 x2
   by_cases hev:u1=u2
   ·have hne:((v1:Int) != (v2:Int))=false:=by rw [← hv1,← hv2,hev];simp
    have HEV:=hid hev
    clear hev hv1 hv2
    go_wp2
    go_quiet (fail)
    go_wp2
    refine ⟨⟨t+1,by omega,by go_num,fun j hj=>?_,HP2.out.drewN _,below_drewN HB2.out _⟩,by simp [intOf];omega⟩
    by_cases hjt:j=t
    ·subst hjt
     rw [HU.out.1,HU.out.2.1,HU.out.2.2.1,HU.out.2.2.2]
     exact HEV.out
    exact HS.out j (by omega)
   have hne:((v1:Int) != (v2:Int))=true:=by
    rw [bne_iff_ne]
    intro e
    apply hev
    apply UInt8.toNat_inj.1
    omega
   have hns:¬ Same bs a1 M K:=by
    intro h
    apply hev
    have h1:=h t htM
    rw [HU.out.1,HU.out.2.1,HU.out.2.2.1,HU.out.2.2.2] at h1
    exact h1
   have hg:=HG.out
   rw [if_neg hns] at hg
   have hβf:β=false:=by rw [← HE.out,← hg];rfl
   subst hβf
   clear hev hv1 hv2 hns hg
   go_wp2
   go_quiet (fail)
   go_wp2
   go_ret
   exact ⟨rfl,below_drewN HB2.out _⟩
  obtain rfl:t=M:=by omega
  have hg:=HG.out
  rw [if_pos (show Same bs a1 t K from HS.out)] at hg
  have HG2:=hid hg
  obtain ⟨a2,ha2⟩:∃ a2,a1+t=a2:=⟨_,rfl⟩
  have ha2i:(a1:Int)+(t:Int)=(a2:Int):=by omega
  have hN:=HN.out
  have ha2w:IntKind.i64.wrap (a2:Int)=(a2:Int):=Go.IntWalk.i64_in _ (by omega)
  have HA2:=hid ha2
  clear hg ha2 hN x0 x1 x2
  go_wp2
  exact ⟨⟨k+1,a2,by omega,by go_num,by first | rfl | trivial,by have:=HN.out;have:=HA2.out;omega,by rw [← HA2.out];exact HG2.out,HB2.out⟩,by simp [intOf];omega⟩
 obtain rfl:k=l.length:=by omega
 have hg:=HGO.out
 rw [List.drop_length,rightGo] at hg
 have hβe:decide (a=bs.length∧fr<a)=β:=by
  have h:=HE.out
  rw [← hg] at h
  exact h
 clear hg HGO
 by_cases he:a=bs.length
 ·subst he
  have he2:((bs.length:Int)==(bs.length:Int))=true:=by simp
  by_cases hf:fr<bs.length
  ·rw [decide_eq_true ⟨rfl,hf⟩] at hβe
   subst hβe
   have hfi:(fr:Int)<(bs.length:Int):=by omega
   go_wp2
   go_ret
   exact ⟨by first | rfl | simp [hf],HB.out⟩
  rw [decide_eq_false (show ¬ (bs.length=bs.length∧fr<bs.length) from fun h=>hf h.2)] at hβe
  subst hβe
  go_wp2
  go_ret
  exact ⟨by first | rfl | simp [hf],HB.out⟩
 rw [decide_eq_false (show ¬ (a=bs.length∧fr<a) from fun h=>he h.1)] at hβe
 subst hβe
 have he2:((a:Int)==(bs.length:Int))=false:=beq_eq_false_iff_ne.2 (by omega)
 go_wp2
 go_ret
 exact ⟨rfl,HB.out⟩
open Go.RowKit Rng Lz Win Fnd
theorem putmatch_p (O:Nat→Prop) (w:World) (k:LK) (g:WB) (A:Option Addr) (c:Nat) (bs:List UInt8) (shift:Int) (pos tot st:Nat) (rep:Nat→Nat) (s:CP Enc) (h:WrAt O w k g A c bs shift pos st rep s) (hk:k.Ok) (htot:(pos:Int)+shift=(tot:Int)) (ht:tot<4611686018427387904)
 (size back d:Nat) (h2:2≤size) (hs:size≤273) (hbd:back=d+1) (hd:d<4294967296) (hpos:pos+size≤140737488355328) (hst:st<12) (hrep:∀ j,rep j<4294967296) (hc:s.d.cnt+100<1000000) :
 Calls Tryz.prog 76 #[.pointer (some ⟨g.xb,0,none⟩),.int .i64 size,.int .i64 back] w fun e w'=>e=.returned (.tuple #[])∧WrAt O w' k g A c bs shift (pos+size) (putMatch k tot size d st rep s).1 (putMatch k tot size d st rep s).2.1 (putMatch k tot size d st rep s).2.2∧Frm (WZ k O g) w w':=by
 have h4:=idxOf_le rep d
 obtain ⟨J,hJ⟩:∃ J,idxOf rep d=J:=⟨_,rfl⟩
 rw [hJ] at h4
 have hcase:J=4∨J=0∨J=1∨(J=2∨J=3):=by omega
 rcases hcase with rfl | rfl | rfl | e
 ·exact putmatch_fresh O w k g A c bs shift pos tot st rep s h hk htot ht size back d h2 hs hbd hd hpos hst hrep hc hJ
 ·exact putmatch_zero O w k g A c bs shift pos tot st rep s h hk htot ht size back d h2 hs hbd hd hpos hst hrep hc hJ
 ·exact putmatch_one O w k g A c bs shift pos tot st rep s h hk htot ht size back d h2 hs hbd hd hpos hst hrep hc hJ
 exact putmatch_two O w k g A c bs shift pos tot st rep s h hk htot ht size back d h2 hs hbd hd hpos hst hrep hc J e hJ
theorem cnt_farIn (base x far:Nat):∀ (n m:Nat) (s:CP Enc),(farGo inC base x far n m s).2.d.cnt≤s.d.cnt+n
 | 0,m,s=>Nat.le_refl _
 | n+1,m,s=>by
  unfold farGo
  have h2:=cnt_bitIn1 (base+(1+far / 2 ^ n % 2)*256+m) (x / 2 ^ n % 2) s
  simp only
  split
  ·have h1:=cnt_farIn base x far n (2*m+(bitAt inC (base+(1+far / 2 ^ n % 2)*256+m) (x / 2 ^ n % 2) s).1) (bitAt inC (base+(1+far / 2 ^ n % 2)*256+m) (x / 2 ^ n % 2) s).2
   omega
  have h1:=cnt_treeIn base x n (2*m+(bitAt inC (base+(1+far / 2 ^ n % 2)*256+m) (x / 2 ^ n % 2) s).1) (bitAt inC (base+(1+far / 2 ^ n % 2)*256+m) (x / 2 ^ n % 2) s).2
  omega
theorem cnt_litIn (lc lp st total ahead far x:Nat) (s:CP Enc):(litAt inC lc lp st total ahead far x s).2.d.cnt≤s.d.cnt+8:=by
 unfold litAt
 simp only
 split
 ·exact cnt_farIn _ _ _ 8 1 s
 exact cnt_treeIn _ _ 8 1 s
theorem cnt_distIn (d size:Nat) (s:CP Enc) (hd:d<4294967296):(distAt inC d size s).2.d.cnt≤s.d.cnt+50:=by
 have ht:=treeAt_in (440+(min size 5-2)*64) 6 (slotOf d) s (slot_lt hd)
 have hc:=cnt_treeAt (440+(min size 5-2)*64) 6 (slotOf d) s
 have hs:=slot_lt hd
 unfold distAt
 simp only
 generalize treeAt inC (440+(min size 5-2)*64) 6 (slotOf d) s=T at *
 rw [ht]
 split
 ·simp only;omega
 split
 ·rename_i h1 h2
  have h3:=cnt_backIn (696+(2+slotOf d % 2)*2 ^ (slotOf d / 2-1)-slotOf d) (d-(2+slotOf d % 2)*2 ^ (slotOf d / 2-1)) (slotOf d / 2-1) (slotOf d / 2-1) 1 0 T.2
  unfold backAt
  simp only
  omega
 have h3:=cnt_backIn 824 (d % 16) 4 4 1 0 ⟨Enc.direct ((d-(2+slotOf d % 2)*2 ^ (slotOf d / 2-1)) / 16) (slotOf d / 2-1-4) T.2.d,T.2.pr⟩
 have h4:(Enc.direct ((d-(2+slotOf d % 2)*2 ^ (slotOf d / 2-1)) / 16) (slotOf d / 2-1-4) T.2.d).cnt≤T.2.d.cnt+(slotOf d / 2-1-4):=Enc.direct_cnt
 unfold backAt
 exact Nat.le_trans h3 (by simp only;omega)
def costOp:Option (Nat×Nat)→Nat
 | none=>9
 | some _=>100
def costOps:List (Option (Nat×Nat))→Nat
 | []=>0
 | o::l=>costOp o+costOps l
theorem costOps_append (l m:List (Option (Nat×Nat))):costOps (l++m)=costOps l+costOps m:=by
 induction l with
 | nil=>simp [costOps]
 | cons o l ih=>simp only [List.cons_append,costOps,ih];omega
theorem costOps_lits (n:Nat):costOps (List.replicate n none)=9*n:=by
 induction n with
 | zero=>rfl
 | succ n ih=>rw [List.replicate_succ,costOps,ih];show 9+9*n=9*(n+1);omega
theorem cnt_putLit (k:LK) (bs:List UInt8) (tot pos st:Nat) (rep:Nat→Nat) (s:CP Enc):(putLit k bs tot pos st rep s).d.cnt≤s.d.cnt+9:=by
 unfold putLit
 refine Nat.le_trans (cnt_litIn _ _ _ _ _ _ _ _) ?_
 have:=cnt_bitIn1 (8+st*16+tot % 2 ^ k.pb) 0 s
 omega
theorem cnt_putRep (st p size j:Nat) (s:CP Enc):(putRep inC st p size j s).d.cnt≤s.d.cnt+13:=by
 unfold putRep
 simp only
 refine Nat.le_trans (cnt_len _ _ _ _) ?_
 have h1:=fun x=>cnt_bitIn1 (212+st) x s
 split
 ·have h2:=cnt_bitIn1 (248+st*16+p) 1 (bitAt inC (212+st) 0 s).2
  have:=h1 0
  omega
 have h2:=fun x=>cnt_bitIn1 (224+st) x (bitAt inC (212+st) 1 s).2
 have h4:=h1 1
 split
 ·have:=h2 0
  omega
 have h3:=cnt_bitIn1 (236+st) (j-2) (bitAt inC (224+st) 1 (bitAt inC (212+st) 1 s).2).2
 have:=h2 1
 omega
theorem cnt_putMatch (k:LK) (tot size d st:Nat) (rep:Nat→Nat) (s:CP Enc) (hd:d<4294967296):(putMatch k tot size d st rep s).2.2.d.cnt≤s.d.cnt+100:=by
 unfold putMatch
 simp only
 have h1:=cnt_bitIn1 (8+st*16+tot % 2 ^ k.pb) 1 s
 split
 ·refine Nat.le_trans (cnt_distIn _ _ _ hd) ?_
  have h2:=cnt_bitIn1 (200+st) 0 (bitAt inC (8+st*16+tot % 2 ^ k.pb) 1 s).2
  have h3:=cnt_len 840 size (tot % 2 ^ k.pb) (bitAt inC (200+st) 0 (bitAt inC (8+st*16+tot % 2 ^ k.pb) 1 s).2).2
  omega
 refine Nat.le_trans (cnt_putRep _ _ _ _ _) ?_
 have h2:=cnt_bitIn1 (200+st) 1 (bitAt inC (8+st*16+tot % 2 ^ k.pb) 1 s).2
 omega
theorem putMatch_inv (k:LK) (tot size d st:Nat) (rep:Nat→Nat) (s:CP Enc) (hst:st<12) (hrep:∀ j,rep j<4294967296) (hd:d<4294967296):(putMatch k tot size d st rep s).1<12∧∀ j,(putMatch k tot size d st rep s).2.1 j<4294967296:=by
 unfold putMatch
 simp only
 split
 ·refine ⟨show behS st 1<12 from behS_lt hst,fun j=>?_⟩
  show (if j=0 then d else shiftN rep 3 j)<_
  split
  ·exact hd
  exact shiftN_lt hrep 3 j
 refine ⟨show behS st 2<12 from behS_lt hst,fun j=>?_⟩
 show (if idxOf rep d=0 then rep else takeS rep (idxOf rep d)) j<_
 split
 ·exact hrep j
 exact takeS_lt hrep _ j
def opsSq (s:Sq):List (Option (Nat×Nat)):=List.replicate s.lits.toNat none++(if 0<s.mat then [some (s.mat.toNat,s.back.toNat-1)] else [])
def opsOf:List Sq→List (Option (Nat×Nat))
 | []=>[]
 | s::l=>opsSq s++opsOf l
theorem okOps_lits {bs:List UInt8} (l:List (Option (Nat×Nat))):∀ (n a:Nat),a+n≤bs.length→OkOps bs (a+n) l→OkOps bs a (List.replicate n none++l)
 | 0,a,_,h=>h
 | n+1,a,hn,h=>by
  rw [List.replicate_succ]
  exact ⟨by omega,okOps_lits l n (a+1) (by omega) (by rw [show a+1+n=a+(n+1) by omega];exact h)⟩
theorem right_ops {bs:List UInt8}:∀ (l:List Sq) (a:Nat),a≤bs.length→rightGo bs l a=some bs.length→OkOps bs a (opsOf l)
 | [],a,_,h=>by
  unfold rightGo at h
  exact Option.some.inj h
 | s::l,a,ha,h=>by
  unfold rightGo at h
  by_cases h1:RB1 s (bs.length-a)
  ·rw [if_pos h1] at h;cases h
  rw [if_neg h1] at h
  unfold RB1 at h1
  have hl:a+s.lits.toNat≤bs.length:=by omega
  unfold opsOf opsSq
  rw [List.append_assoc]
  refine okOps_lits _ _ _ hl ?_
  by_cases h2:s.mat=0
  ·rw [if_pos h2] at h
   rw [if_neg (by omega)]
   exact right_ops l _ hl h
  rw [if_neg h2] at h
  by_cases h3:RB2 s bs.length (a+s.lits.toNat)
  ·rw [if_pos h3] at h;cases h
  rw [if_neg h3] at h
  unfold RB2 at h3
  by_cases h4:Same bs (a+s.lits.toNat) s.mat.toNat s.back.toNat
  ·rw [if_pos h4] at h
   rw [if_pos (by omega)]
   refine ⟨by simp only;omega,by simp only;omega,by simp only;omega,by simp only;omega,?_,?_⟩
   ·intro i hi
    simp only at hi ⊢
    rw [show s.back.toNat-1+1=s.back.toNat by omega]
    exact h4 i hi
   exact right_ops l _ (by simp only;omega) h
  rw [if_neg h4] at h;cases h
theorem wOps_cons (k:LK) (bs:List UInt8) (fr total:Nat) (o:Option (Nat×Nat)) (l:List (Option (Nat×Nat))) (x:PS):wOps k bs fr total (o::l) x=wOps k bs fr total l (wOp k bs fr total x o):=rfl
end Go.Proofs.YtffehfpbdcokbaaGreat
