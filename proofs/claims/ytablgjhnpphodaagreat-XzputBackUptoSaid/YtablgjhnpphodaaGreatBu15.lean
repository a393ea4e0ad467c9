import Derived.Test.YtablgjhnpphodaaGreatChecked
import Derived.Lib.SlBytesConst
import Derived.Deep.CutBlock
import Derived.Deep.RegionLaw
import Derived.StillTailTactics
import Derived.Test.YtablgjhnpphodaaGreatBu1
import Derived.Test.YtablgjhnpphodaaGreatBu4
import Derived.Test.YtablgjhnpphodaaGreatBu7
import Derived.Test.YtablgjhnpphodaaGreatBu9
import Derived.Test.YtablgjhnpphodaaGreatBu10
import Derived.Test.YtablgjhnpphodaaGreatBu14
set_option linter.unusedVariables false
set_option linter.unusedSimpArgs false
namespace Go.Proofs.YtablgjhnpphodaaGreat
open Lib (hid)
open Go.RowKit Rng Win Lz Fnd
theorem right_go {bs:List UInt8} {win:Nat}:∀ (l:List Sq) (a:Nat),a≤bs.length→Right bs win 2 273 l a→rightGo bs l a=some bs.length
 | [],a,_,h=>by
  have h:a=bs.length:=h
  unfold rightGo
  rw [h]
 | s::l,a,ha,h=>by
  unfold rightGo
  rcases h with ⟨m,⟨L,M,K,rfl,h1,h2,h3,h4,h5,h6,h7,h8⟩,hr⟩ | ⟨rfl,L,rfl,h1,h2⟩
  ·rw [if_neg (by unfold RB1;simp only;omega),if_neg (by simp only;omega),if_neg (by unfold RB2;simp only;omega)]
   simp only [Int.toNat_natCast]
   rw [if_pos (show Same bs (a+L) M K from h8),h1]
   exact right_go l m h2 hr
  rw [if_neg (by unfold RB1;simp only;omega),if_pos rfl]
  simp only [Int.toNat_natCast]
  rw [h2]
  rfl
theorem right_fits {bs:List UInt8} {win:Nat} (hb:bs.length≤16777216) (hw:win≤16777216):∀ (l:List Sq) (a:Nat),Right bs win 2 273 l a→∀ s∈l,s.fits
 | [],_,_,s,hs=>by cases hs
 | t::l,a,h,s,hs=>by
  rcases h with ⟨m,⟨L,M,K,rfl,h1,h2,h3,h4,h5,h6,h7,h8⟩,hr⟩ | ⟨rfl,L,rfl,h1,h2⟩
  ·rcases List.mem_cons.1 hs with rfl | hs
   ·unfold Sq.fits;simp only;omega
   exact right_fits hb hw l m hr s hs
  rcases List.mem_cons.1 hs with rfl | hs
  ·unfold Sq.fits;simp only;omega
  cases hs
theorem okOps_cost {bs:List UInt8}:∀ (l:List (Option (Nat×Nat))) (a:Nat),OkOps bs a l→costOps l+50*a≤50*bs.length
 | [],a,h=>by
  have h:a=bs.length:=h
  show 0+50*a≤_
  omega
 | none::l,a,h=>by
  have h1:=okOps_cost l (a+1) h.2
  show 9+costOps l+50*a≤_
  omega
 | some m::l,a,h=>by
  obtain ⟨a1,a2,a3,a4,a5,a6⟩:=h
  have h1:=okOps_cost l (a+m.1) a6
  show 100+costOps l+50*a≤_
  omega
section
variable {P : Program} (w : World)
end
open Go.RowKit Fnd
open Go.RowKit Fnd
open Go.RowKit Fnd
set_option maxRecDepth 100000 in
set_option maxHeartbeats 1000000 in
theorem parse_any (A:Option Addr) (bs:List UInt8) (n c:Nat) (fr level window least most:Int) (at_ lv win lo hi:Nat) (w:World) (hn:n=bs.length) (hc:bs.length≤c) (hcm:c≤maxLen) (hr:BRow w w.heap.size A bs) (hlen:bs.length≤1048576)
 (h1:min (max fr 0) bs.length=at_) (h2:min (max level 0) 3=lv) (h3:min (max window 1) 16777216=win) (h4:min (max least 2) 65536=lo) (h5:max (lo:Int) (min most 65536)=hi) :
 Calls Tryz.prog 59 #[.slice A n c,.int .i64 fr,.int .i64 level,.int .i64 window,.int .i64 least,.int .i64 most] w fun e w' =>
  ∃ v l,e=.returned v∧OwnSq w' 152 w.heap.size v l∧Right bs win lo hi l at_∧(at_=bs.length→l=[])∧(lv=0→∀ s∈l,s.mat=0)∧(1≤lv→AllSame bs at_→l.length≤2+(bs.length-at_) / hi)∧l.length≤2097153∧Below w.heap.size w w':=by
 by_cases hat:at_<bs.length
 ·by_cases hlv:1≤lv
  ·refine (parse_main A bs n c fr level window least most at_ lv win lo hi w hn hc hcm hr hlen h1 h2 h3 h4 h5 hat hlv).mono ?_
   rintro e w' ⟨v,l,rfl,h6,h7,h8,h9,h10⟩
   exact ⟨v,l,rfl,h6,h7,fun h=>by omega,fun h=>by omega,fun _=>h8,h9,h10⟩
  have hlv0:lv=0:=by omega
  subst hlv0;subst hn
  obtain ⟨X,hX⟩:∃ X,max fr 0=X:=⟨_,rfl⟩
  obtain ⟨Y,hY⟩:∃ X,max level 0=X:=⟨_,rfl⟩
  rw [hX] at h1;rw [hY] at h2
  have f1:=fun w=>max2_int (P:=Tryz.prog) #[3,3] 3 _ _ _ hX w
  have f2:=fun w=>max2_int (P:=Tryz.prog) #[3,3] 3 _ _ _ hY w
  have f6:=fun w=>min2_int (P:=Tryz.prog) #[3,3] 3 _ _ _ h1 w
  have f7:=fun w=>min2_int (P:=Tryz.prog) #[3,3] 3 _ _ _ (show min Y 3=0 from h2) w
  have ne1:((at_:Int)==(bs.length:Int))=false:=beq_eq_false_iff_ne.2 (by omega)
  have hcast:((bs.length-at_:Nat):Int)=(bs.length:Int)-at_:=by omega
  have HC:=hid hcast
  clear hX hY h1 h2 h3 h4 h5 hr hcast
  go_enter Tryz.func59,Tryz.ntmps59
  go_wp2
  go_ret
  have ho:=OwnSq.one w 152 w.heap.size (Nat.le_refl _) ⟨((bs.length-at_:Nat):Int),0,0⟩
  simp only [HC.out] at ho
  exact ⟨_,[⟨(bs.length:Int)-at_,0,0⟩],rfl,ho,.inr ⟨rfl,bs.length-at_,by rw [HC.out],by omega,by omega⟩,fun h=>by omega,fun _ s hs=>by simp at hs;rw [hs],fun h=>by omega,by simp,(Below.refl _ _).alloc (Nat.le_refl _) _⟩
 have hat2:at_=bs.length:=by omega
 subst hn
 obtain ⟨X,hX⟩:∃ X,max fr 0=X:=⟨_,rfl⟩
 obtain ⟨Y,hY⟩:∃ X,max level 0=X:=⟨_,rfl⟩
 rw [hX] at h1;rw [hY] at h2
 have f1:=fun w=>max2_int (P:=Tryz.prog) #[3,3] 3 _ _ _ hX w
 have f2:=fun w=>max2_int (P:=Tryz.prog) #[3,3] 3 _ _ _ hY w
 have f6:=fun w=>min2_int (P:=Tryz.prog) #[3,3] 3 _ _ _ h1 w
 have f7:=fun w=>min2_int (P:=Tryz.prog) #[3,3] 3 _ _ _ h2 w
 have ne1:((at_:Int)==(bs.length:Int))=true:=beq_iff_eq.2 (by omega)
 clear hX hY h1 h2 h3 h4 h5 hr
 have HA:=hid hat2
 clear hat2 hat
 go_enter Tryz.func59,Tryz.ntmps59
 go_wp2
 go_ret
 exact ⟨_,[],rfl,OwnSq.nil _ _ _,HA.out,fun _=>rfl,fun _ s hs=>absurd hs (by simp),fun _ _=>by simp,by simp,Below.refl _ _⟩
open Go.RowKit Rng Win Lz Fnd
theorem rightP_of {bs:List UInt8} {fr:Nat} {l:List Sq} (h:rightGo bs l fr=some bs.length) (h1:fr<bs.length):rightP bs fr l=true:=by
 unfold rightP
 rw [h]
 exact decide_eq_true ⟨rfl,h1⟩
theorem wOp_new (sb lb:Nat):wOp (newK sb lb)=wOp (newK 0 0):=by
 funext bs fr total x o
 cases o <;> rfl
theorem opsB_new (sb lb:Nat) (bs:List UInt8) (fr total st:Nat) (rep:Nat→Nat) (pr:Pr) (l:List (Option (Nat×Nat))):opsB (newK sb lb) bs fr total st rep pr l=opsB (newK 0 0) bs fr total st rep pr l:=by
 unfold opsB wOps
 rw [wOp_new]
def EncEnd (bs:List UInt8) (fr:Nat) (w:World) (e:Ending) (w':World):Prop :=
 ∃ v x,e=.returned (.tuple #[v,.int .i64 0])∧OwnB w' 5 w.heap.size v x∧IsEnc bs fr x∧Below w.heap.size w w'
def StepsAt (bs:List UInt8) (fr:Nat) (wr:World) (sv:Value) (wx:World):Prop :=
 ∃ (l:List Sq) (B:Option Addr) (d:Nat),sv=.slice B l.length d∧l.length≤d∧SqRow wx wx.heap.size B l∧(∀ ad,B=some ad→wr.heap.size≤ad.block)∧l.length≤2097153∧rightGo bs l fr=some bs.length∧(∀ s∈l,s.fits)∧Below wr.heap.size wr wx
theorem enc_parse (A:Option Addr) (bs:List UInt8) (n c fr lv:Nat) (win:Int) (w:World) (hn:n=bs.length) (hc:bs.length≤c) (hcm:c≤maxLen) (hr:BRow w w.heap.size A bs) (hlen:bs.length≤16384) (hfr:fr≤bs.length) (hlv:lv≤3) (hw:1≤win∧win≤131072) :
 Calls Tryz.prog 59 #[.slice A n c,.int .i64 fr,.int .i64 lv,.int .i64 win,.int .i64 2,.int .i64 273] w fun e w'=>∃ v,e=.returned v∧StepsAt bs fr w v w':=by
 refine (parse_any A bs n c fr lv win 2 273 fr lv win.toNat 2 273 w hn hc hcm hr (by omega) (by omega) (by omega) (by omega) (by omega) (by omega)).mono ?_
 rintro e w' ⟨v,l,rfl,ho,hR,-,-,-,hll,hb⟩
 obtain ⟨A1,c1,rfl,hc1,hm1,hs⟩:=ho.slice
 refine ⟨_,rfl,l,A1,c1,rfl,hc1,hs,?_,hll,right_go l fr hfr hR,right_fits (by omega) (by omega) l fr hR,hb⟩
 rintro ad rfl
 exact (ho.lt rfl).1
theorem lzB_len {bs:List UInt8} {fr:Nat} {l:List Sq} (h:rightGo bs l fr=some bs.length) (hf:fr≤bs.length) (hb:bs.length≤16384):5≤(lzB bs fr l).length∧(lzB bs fr l).length≤1000000:=by
 have hok:=right_ops l fr hf h
 have hI:EncI (wOps (newK 0 0) bs fr (totOf fr) (opsOf l) ⟨fr,0,fun _=>0,⟨newEnc,fun _=>1024⟩⟩).s.d:=stays_wOps encI_stays (newK 0 0) bs fr (totOf fr) (opsOf l) (x:=⟨fr,0,fun _=>0,⟨newEnc,fun _=>1024⟩⟩) encI_new
 have h1:=(told_close hI).l
 have h2:=cnt_ops (newK 0 0) bs fr (totOf fr) (by omega) (opsOf l) ⟨fr,0,fun _=>0,⟨newEnc,fun _=>1024⟩⟩ hok
 have h3:=okOps_cost (opsOf l) fr hok
 have h4:newEnc.cnt=0:=rfl
 have h5:(⟨fr,0,fun _=>0,⟨newEnc,fun _=>1024⟩⟩:PS).s.d.cnt=0:=rfl
 unfold lzB opsB
 omega
theorem sqRow_offF {N:Nat→Prop} {w w':World} {B B':Nat} {A:Option Addr} {l:List Sq} (h:SqRow w B A l) (ho:∀ ad,A=some ad→¬ N ad.block) (hf:Frm N w w') (hB:B≤B'):SqRow w' B' A l:=by
 intro hn
 obtain ⟨b,off,rfl,hb,hc⟩:=h hn
 refine ⟨b,off,rfl,by omega,fun k hk=>?_⟩
 obtain ⟨h1,h2,h3⟩:=hc k hk
 have e:∀ o,w'.cell? ⟨b,o,none⟩=w.cell? ⟨b,o,none⟩:=fun o=>World.cell?_of_block (hf.block b (World.block_lt_of_cell? w ⟨b,off+k*3,none⟩ h1) (ho _ rfl))
 rw [e,e,e]
 exact ⟨h1,h2,h3⟩
theorem preset_s (k:LK) (st:Nat) (rep:Nat→Nat) (pr:Pr) (w:World) (h:PAt w k st rep pr) (hk:k.Ok) :
 Calls Tryz.prog 60 #[.pointer (some ⟨k.sb,0,none⟩)] w fun e w'=>e=.returned (.tuple #[])∧∃ lb,w.heap.size≤lb∧PAt w' ⟨k.sb,lb,k.lc,k.lp,k.pb⟩ 0 (fun _=>0) (fun _=>1024)∧Frm (· = k.sb) w w':=by
 have hm:=h.m
 rw [← qcells_m] at hm
 refine (putreset_st k.sb k.lc k.lp k.pb st rep pr _ 150 w hm hk.a ⟨_,_,_,rfl⟩ hk.b).mono ?_
 rintro e w' ⟨rfl,lb,h3,h4,h5,hf⟩
 exact ⟨rfl,lb,h3,⟨h4,h5,fun _=>(by decide:1024<65536),by have:=h.m.lt;show k.sb≠lb;omega⟩,hf⟩
theorem row_cells (w:World) (T:TypeId) (bs:List UInt8) (cs:Array Value) (h:cs=(bs.map byteV).toArray):BRow (w.alloc (.cells cs T)) (w.heap.size+1) (some ⟨w.heap.size,0,none⟩) bs:=by
 intro _
 subst h
 refine ⟨w.heap.size,0,rfl,Nat.lt_succ_self _,fun j hj=>?_⟩
 have hp:=Pts.new w (bs.map byteV).toArray T
 rw [hp.cell,Nat.zero_add,List.getElem?_toArray,List.getElem?_map,List.getElem?_eq_getElem hj,List.getD_eq_getElem?_getD,List.getElem?_eq_getElem hj]
 rfl
theorem slice_cut (A:Option Addr) (n c fr N:Nat) (h1:fr+N=n) (hn:n≤c) (hN:1≤N) (w:World) :
 (Instr.sliceAt 27 (.slice A n c) (some (.int .i64 (fr:Int))) (some (.int .i64 (n:Int))) none).run Tryz.prog w=.ok (.slice (A.map (·.add fr)) N (c-fr)) w:=by
 have e:(n:Int)=(fr:Int)+(N:Int):=by omega
 rw [e]
 refine (slice_mid A n c fr N (by omega) hn w).trans ?_
 rw [if_neg (by omega)]
theorem u8_wrap (m:Nat):IntKind.u8.wrap (m:Int)=((UInt8.ofNat m).toNat:Int):=by
 rw [IntKind.wrap_u8',UInt8.toNat_ofNat']
 omega
set_option maxRecDepth 100000 in
set_option maxHeartbeats 8000000 in
theorem encode_p (A:Option Addr) (bs:List UInt8) (n c fr:Nat) (level:Int) (w:World) (hn:n=bs.length) (hc:bs.length≤c) (hcm:c≤maxLen) (hr:BRow w w.heap.size A bs) (hlen:bs.length≤16384) (hfr:fr≤bs.length) :
 Calls Tryz.prog 37 #[.slice A n c,.int .i64 fr,.int .i64 level] w (EncEnd bs fr w):=by
 obtain ⟨Y,hY⟩:∃ X,max level 0=X:=⟨_,rfl⟩
 obtain ⟨lv,hL⟩:∃ lv:Nat,min Y 3=(lv:Int):=⟨(min Y 3).toNat,by omega⟩
 have f1:=fun w=>max2_num (P:=Tryz.prog) .i64 #[3,3] 3 _ _ _ hY w
 have f2:=fun w=>min2_num (P:=Tryz.prog) .i64 #[3,3] 3 _ _ _ hL w
 have hlv:lv≤3:=by omega
 have q1:(0:Int)≤(fr:Int):=by omega
 have q2:(fr:Int)≤(n:Int):=by omega
 have q3:(n:Int)≤16777216:=by omega
 have HN:=hid hn
 have HR:=hid hr
 have HC:=hid (And.intro hc (And.intro hcm (And.intro hlen hfr)))
 have HLV:=hid hlv
 clear hn hr hc hcm hlen hfr hY hL hlv
 go_enter Tryz.func37,Tryz.ntmps37
 go_wp2_with fail
 refine (pnew32 w).mono ?_;rintro e w1 ⟨sb,lb,rfl,g1,g2,hs1,hb1⟩
 have S1:=hid hs1
 have B1:=hid hb1
 have G1:=hid (And.intro g1 g2)
 clear hs1 hb1 g1 g2 f1 f2 q1 q2 q3
 go_wp2_with fail
 go_loopg [6,10,11] 1 (fun gf ov pv av wr=>(gf=1∧fr<n∧ov=.slice none 0 0∧pv=.bool true∧av=.int .i64 fr∧PAt wr (newK sb lb) 0 (fun _=>0) (fun _=>1024)∧Below w.heap.size w wr)∨(av=.int .i64 n∧∃ x,OwnB wr 5 w.heap.size ov x∧IsEnc bs fr x∧Below w.heap.size w wr))
 case atStart =>
  rcases Nat.lt_or_ge fr n with h | h
  ·exact .inl ⟨rfl,h,rfl,rfl,rfl,S1.out,B1.out⟩
  have:fr=n:=by have:=HC.out.2.2.2;have:=HN.out;omega
  exact .inr ⟨by rw [this],[],OwnB.nil _ _ _,.inl ⟨by have:=HN.out;omega,rfl⟩,B1.out⟩
 case round =>
 rcases hrel with ⟨hg,hlt,rfl,rfl,rfl,hs,hb⟩ | ⟨rfl,x,ho,hx,hb⟩
 ·have ql:(fr:Int)<(n:Int):=by omega
  obtain ⟨E,hE⟩:∃ E:Nat,fr+65536=E:=⟨_,rfl⟩
  have iE:(fr:Int)+65536=(E:Int):=by omega
  have wE:IntKind.i64.wrap (E:Int)=(E:Int):=Go.IntWalk.i64_in _ (by have:=HC.out;omega)
  have f3:=fun w=>min2_num (P:=Tryz.prog) .i64 #[3,3] 3 _ _ _ (show min (n:Int) (E:Int)=(n:Int) by have:=HC.out;have:=HN.out;omega) w
  obtain ⟨N,hN⟩:∃ N:Nat,n-fr=N:=⟨_,rfl⟩
  have iN:(n:Int)-(fr:Int)=(N:Int):=by omega
  have wN:IntKind.i64.wrap (N:Int)=(N:Int):=Go.IntWalk.i64_in _ (by have:=HC.out;have:=HN.out;omega)
  have hnc:(n:Int)≤(c:Int):=by have:=HC.out;have:=HN.out;omega
  have S:=hid hs
  have B:=hid hb
  have HRW:=hid (HR.out.below hb)
  have HNN:=hid (And.intro hN hlt)
  have HNB:Hid (n=bs.length∧bs.length≤c∧c≤maxLen∧bs.length≤16384∧fr≤bs.length):=hid ⟨HN.out,HC.out.1,HC.out.2.1,HC.out.2.2.1,HC.out.2.2.2⟩
  clear hs hb hE hN hlt
  go_upto_region 12 with fail
  clear iE wE f3 iN wN ql
  go_cut [14] from 140 (fun sv wx=>StepsAt bs fr wr sv wx)
  case first =>
   have hlv:=HLV.out
   have hcl:lv=0∨lv=1∨lv=2∨lv=3:=by omega
   clear hlv
   rcases hcl with rfl | rfl | rfl | rfl
   all_goals
    go_wp2_with fail
    refine (enc_parse A bs n c fr _ _ wr HNB.out.1 HNB.out.2.1 HNB.out.2.2.1 (HRW.out.more B.out.size) HNB.out.2.2.2.1 HNB.out.2.2.2.2 (by decide) (by decide)).mono ?_
    rintro e w2 ⟨v,rfl,hst⟩
    have ST:=hid hst
    clear hst
    go_wp2
    go_meet
    case rel=>exact ST.out
  case rest =>
  obtain ⟨l,B0,d,rfl,hld,hsq,hbl,hll,hgo,hfit,hbw⟩:=hcut
  have SW:=hid (S.out.later hbw)
  have BW:=hid (B.out.trans (hbw.mono B.out.size))
  have SQ:=hid (And.intro hsq (And.intro hbl (And.intro hgo hfit)))
  have SL:=hid (And.intro hld hll)
  have SZ:=hid (And.intro S.out.m.lt hbw.size)
  clear hsq hbl hgo hfit hbw hld hll
  iterate 40 (first | (with_reducible show Code.wp _ (Code.seq (Code.region 14 _ _) _) _ _ _) | go_values | go_guarded | go_step | go_upon)
  go_cut [15] from 140 (fun cv wx=>∃ cb,OwnB wx 5 w.heap.size cv cb∧Below w.heap.size w wx∧((lv=0∧cb=[])∨(1≤lv∧cb=lzB bs fr l)))
  case first =>
   by_cases h0:lv=0
   ·subst h0
    go_wp2
    go_meet
    case rel=>exact ⟨[],OwnB.nil _ _ _,BW.out,.inl (by simp)⟩
   have ql:(0:Int)<(lv:Int):=by omega
   have HL0:=hid (show 1≤lv by omega)
   clear h0
   go_wp2_with fail
   refine (preset_s (newK sb lb) 0 (fun _=>0) (fun _=>1024) wc SW.out (newK_ok _ _)).mono ?_;rintro e w2 ⟨rfl,lb2,hlb2,hs2,hf2⟩
   have S2:Hid (PAt w2 (newK sb lb2) 0 (fun _=>0) (fun _=>1024)):=hid hs2
   have F2:Hid (Frm (· = sb) wc w2):=hid hf2
   have L2:=hid hlb2
   have B2:Hid (Below w.heap.size w w2):=hid (BW.out.trans (hf2.below BW.out.size (by intro q hq;have e:q=sb:=hq;rw [e];exact G1.out.1)))
   clear hs2 hf2 hlb2
   have hoff:BOff (KZ (newK sb lb2)) A bs:=BOff.of_row HR.out (by
    rintro q (e | e)
    ·rw [e];exact G1.out.1
    rw [e];exact Nat.le_trans BW.out.size L2.out)
   have hlo:∀ ad,B0=some ad→¬ KZ (newK sb lb2) ad.block:=by
    intro ad had
    have h1:=SQ.out.2.1 ad had
    have h2:sb<wr.heap.size:=SZ.out.1
    rintro (e | e)
    ·have e:ad.block=sb:=e
     omega
    have e:ad.block=lb2:=e
    have h4:=L2.out
    have h3:0<l.length:=by
     cases l with
     | nil =>
      have hgo:=SQ.out.2.2.1
      unfold rightGo at hgo
      injection hgo with hgo
      have:=HNN.out
      have:=HN.out
      omega
     | cons _ _=>simp
    obtain ⟨b,off,e2,hb,_⟩:=SQ.out.1 h3
    rw [had] at e2
    injection e2 with e2
    rw [e2] at e
    have e:b=lb2:=e
    omega
   have hcost:costOps (opsOf l)+110≤1000000:=by
    have:=okOps_cost (opsOf l) fr (right_ops l fr HNB.out.2.2.2.2 SQ.out.2.2.1)
    have:=HNB.out.2.2.2.1
    omega
   have HCH:=hid (putchunk_main (newK sb lb2) 0 (fun _=>0) (fun _=>1024) A bs n c fr fr B0 l l.length d w2 S2.out (newK_ok _ _) (by decide) (fun _=>by decide) HNB.out.1 HNB.out.2.1 ((HR.out.below B2.out).more B2.out.size) hoff (by have:=HNB.out.2.2.2.1;omega) rfl SL.out.1
    (sqRow_offF SQ.out.1 (fun ad had e=>hlo ad had (.inl e)) F2.out F2.out.size) hlo (by have:=SL.out.2;omega) SQ.out.2.2.2 HNB.out.2.2.2.2 (by have:=HNB.out.2.2.2.1;omega) (by have:=HNB.out.2.2.2;omega) (rightP_of SQ.out.2.2.1 (by have:=HNN.out.2;have:=HN.out;omega)) hcost)
   clear hoff hlo hcost
   go_wp2_with fail
   refine HCH.out.mono ?_;rintro e w3 ⟨v,rfl,ho3,hs3,hf3⟩
   have hb3:Below w.heap.size w w3:=B2.out.trans (hf3.below B2.out.size (by
    rintro q (e | e)
    ·rw [e];exact G1.out.1
    rw [e];exact Nat.le_trans BW.out.size L2.out))
   have O3:=hid (And.intro (ho3.low B2.out.size) hb3)
   clear ho3 hs3 hf3 hb3
   go_wp2
   go_meet
   case rel=>exact ⟨_,O3.out.1,O3.out.2,.inr ⟨HL0.out,opsB_new sb lb2 _ _ _ _ _ _ _⟩⟩
  case rest =>
  obtain ⟨wx,hwx⟩:∃ wx,wx=wc:=⟨_,rfl⟩
  subst hwx
  obtain ⟨cb,hcb,hbx,hcs⟩:=hcut
  obtain ⟨Ac,kc,hcv,hck,hckm,hcr⟩:=hcb.slice
  obtain ⟨L,hL⟩:∃ L,cb.length=L:=⟨_,rfl⟩
  rw [hL] at hcv
  subst hcv
  obtain ⟨L6,hL6⟩:∃ x,L+6=x:=⟨_,rfl⟩
  obtain ⟨N3,hN3⟩:∃ x,N+3=x:=⟨_,rfl⟩
  have hLb:L≤140737488355328:=by
   rcases hcs with ⟨_,e⟩ | ⟨_,e⟩
   ·rw [e] at hL;simp at hL;omega
   have:=lzB_len SQ.out.2.2.1 HNB.out.2.2.2.2 HNB.out.2.2.2.1
   rw [← e,hL] at this
   omega
  have i6:(L:Int)+6=(L6:Int):=by omega
  have i3:(N:Int)+3=(N3:Int):=by omega
  have w6:IntKind.i64.wrap (L6:Int)=(L6:Int):=Go.IntWalk.i64_in _ (by omega)
  have w3:IntKind.i64.wrap (N3:Int)=(N3:Int):=Go.IntWalk.i64_in _ (by have:=HNB.out;have:=HNN.out;omega)
  have OC:=hid hcb
  have CR:=hid hcr
  have BX:=hid hbx
  have CS:=hid hcs
  have HL:=hid (And.intro hL (And.intro hL6 hN3))
  obtain ⟨N1,hN1⟩:∃ x,N-1=x:=⟨_,rfl⟩
  have hNp:1≤N∧N≤16384:=by have:=HNB.out;have:=HNN.out;omega
  have j1:(N:Int)-1=(N1:Int):=by omega
  have v1:IntKind.i64.wrap (N1:Int)=(N1:Int):=Go.IntWalk.i64_in _ (by omega)
  have HN1:=hid (And.intro hN1 hNp)
  clear hcb hcr hbx hcs hL hL6 hN3 hN1 hNp hck hckm
  by_cases hp:lv=0∨N3≤L6
  ·have hcc:((lv:Int)==0)=true∨(((lv:Int)==0)=false∧(N3:Int)≤(L6:Int)):=by
    by_cases h0:lv=0
    ·exact .inl (by rw [h0];rfl)
    exact .inr ⟨beq_eq_false_iff_ne.2 (by omega),by omega⟩
   clear hp
   obtain ⟨h1,hh1⟩:∃ x,UInt8.ofNat (N1 / 256)=x:=⟨_,rfl⟩
   obtain ⟨h2,hh2⟩:∃ x,UInt8.ofNat N1=x:=⟨_,rfl⟩
   have sh:(N1:Int) / 256=((N1 / 256:Nat):Int):=by omega
   have b1:=u8_wrap (N1 / 256)
   have b2:=u8_wrap N1
   rw [hh1,← sh] at b1
   rw [hh2] at b2
   clear sh
   obtain ⟨ct,hct⟩:∃ ct:UInt8,(if fr=0 then (1:UInt8) else 2)=ct:=⟨_,rfl⟩
   have hcz:(((fr:Int)==0)=true∧ct=1)∨(((fr:Int)==0)=false∧ct=2):=by
    by_cases hz:fr=0
    ·exact .inl ⟨by rw [hz];rfl,by rw [← hct,if_pos hz]⟩
    exact .inr ⟨beq_eq_false_iff_ne.2 (by omega),by rw [← hct,if_neg hz]⟩
   have HX:Hid (encPlain bs fr=[ct,h1,h2]++bs.drop fr):=hid (by
    have hlb:lenB bs fr=N1:=by have:=HN.out;have:=HNN.out.1;have:=HN1.out.1;unfold lenB;omega
    unfold encPlain
    rw [hlb,hct,hh1,hh2]
    rfl)
   clear hct hh1 hh2
   have hsl:∀ w,(Instr.sliceAt 27 (.slice A n c) (some (.int .i64 (fr:Int))) (some (.int .i64 (n:Int))) none).run Tryz.prog w=.ok (.slice (A.map (·.add fr)) N (c-fr)) w:=fun w=>slice_cut A n c fr N (by have:=HNB.out;have:=HNN.out;omega) (by have:=HNB.out;omega) HN1.out.2.1 w
   obtain ⟨A',hA'⟩:∃ A',A.map (·.add fr)=A':=⟨_,rfl⟩
   obtain ⟨c',hc'⟩:∃ c',c-fr=c':=⟨_,rfl⟩
   rw [hA',hc'] at hsl
   have HA':Hid (∀ w3,BRow w3 w.heap.size A bs→BRow w3 w.heap.size A' (bs.drop fr)):=hid (fun w3 h=>by
    have:=h.drop (k:=fr) (cap:=c) (by have:=HNB.out.2.1;omega)
    rw [if_neg (by have:=HNB.out;have:=HNN.out;omega),hA'] at this
    exact this)
   clear hA' hc'
   rcases hcz with ⟨qz,rfl⟩ | ⟨qz,rfl⟩
   ·rcases hcc with h5 | ⟨h5,h6⟩
    all_goals
     go_wp2_with (at_builtin;refine wpList_append_bytes _ rfl (.tmp 90) (.tmp 99) 27 rfl 5 w.heap.size Tryz.underlying27 Tryz.info_u8 (.slice none 0 0) [] rfl ?own1 (some ⟨wx.heap.size,0,none⟩) 3 3 (wx.heap.size+1) [1,h1,h2] rfl rfl ?row1 ?len1 ?base1 ?next1)
     case own1=>exact OwnB.nil _ _ _
     case row1=>exact row_cells wx _ [1,h1,h2] _ rfl
     case len1=>simp
     case base1=>have:=BX.out.size;simp;omega
     case next1 =>
     intro v3 w3 hown3 hfrm3 hnew3
     have hb3:Below w.heap.size w w3:=(BX.out.trans ((below_alloc wx _).mono BX.out.size)).trans (hfrm3.below (by have:=BX.out.size;simp;omega) (by intro q hq;cases hq))
     obtain ⟨A3,k3,rfl,-,-,-⟩:=hown3.slice
     have O3:=hid hown3
     have B3:=hid hb3
     clear hown3 hfrm3 hnew3 hb3
     go_wp2_with (at_builtin;refine wpList_append_bytes _ rfl (.tmp 101) (.tmp 105) 27 rfl 5 w.heap.size Tryz.underlying27 Tryz.info_u8 _ ([]++[1,h1,h2]) rfl ?own2 A' N c' w.heap.size (bs.drop fr) rfl ?lenn ?row2 ?len2 ?base2 ?next2)
     case own2=>exact O3.out
     case lenn=>have:=HNN.out.1;have:=HN.out;rw [List.length_drop];omega
     case row2=>exact HA'.out w3 (HR.out.below B3.out)
     case len2=>have:=HNB.out.2.2.2.1;rw [List.length_drop];simp;omega
     case base2=>exact B3.out.size
     case next2 =>
     intro v4 w4 hown4 hfrm4 hnew4
     have hb4:Below w.heap.size w w4:=B3.out.trans (hfrm4.below B3.out.size (fun q hq=>(O3.out.lt hq).1))
     have O4:=hid hown4
     have B4:=hid hb4
     clear hown4 hfrm4 hnew4 hb4
     go_wp2
     go_roundg 0
     case rel=>exact .inr ⟨rfl,_,O4.out,.inr (.inl ⟨by have:=HNN.out.2;have:=HN.out;omega,HX.out.symm⟩),B4.out⟩
     case measure=>omega
   rcases hcc with h5 | ⟨h5,h6⟩
   all_goals
    go_wp2_with (at_builtin;refine wpList_append_bytes _ rfl (.tmp 90) (.tmp 99) 27 rfl 5 w.heap.size Tryz.underlying27 Tryz.info_u8 (.slice none 0 0) [] rfl ?own1 (some ⟨wx.heap.size,0,none⟩) 3 3 (wx.heap.size+1) [2,h1,h2] rfl rfl ?row1 ?len1 ?base1 ?next1)
    case own1=>exact OwnB.nil _ _ _
    case row1=>exact row_cells wx _ [2,h1,h2] _ rfl
    case len1=>simp
    case base1=>have:=BX.out.size;simp;omega
    case next1 =>
    intro v3 w3 hown3 hfrm3 hnew3
    have hb3:Below w.heap.size w w3:=(BX.out.trans ((below_alloc wx _).mono BX.out.size)).trans (hfrm3.below (by have:=BX.out.size;simp;omega) (by intro q hq;cases hq))
    obtain ⟨A3,k3,rfl,-,-,-⟩:=hown3.slice
    have O3:=hid hown3
    have B3:=hid hb3
    clear hown3 hfrm3 hnew3 hb3
    go_wp2_with (at_builtin;refine wpList_append_bytes _ rfl (.tmp 101) (.tmp 105) 27 rfl 5 w.heap.size Tryz.underlying27 Tryz.info_u8 _ ([]++[2,h1,h2]) rfl ?own2 A' N c' w.heap.size (bs.drop fr) rfl ?lenn ?row2 ?len2 ?base2 ?next2)
    case own2=>exact O3.out
    case lenn=>have:=HNN.out.1;have:=HN.out;rw [List.length_drop];omega
    case row2=>exact HA'.out w3 (HR.out.below B3.out)
    case len2=>have:=HNB.out.2.2.2.1;rw [List.length_drop];simp;omega
    case base2=>exact B3.out.size
    case next2 =>
    intro v4 w4 hown4 hfrm4 hnew4
    have hb4:Below w.heap.size w w4:=B3.out.trans (hfrm4.below B3.out.size (fun q hq=>(O3.out.lt hq).1))
    have O4:=hid hown4
    have B4:=hid hb4
    clear hown4 hfrm4 hnew4 hb4
    go_wp2
    go_roundg 0
    case rel=>exact .inr ⟨rfl,_,O4.out,.inr (.inl ⟨by have:=HNN.out.2;have:=HN.out;omega,HX.out.symm⟩),B4.out⟩
    case measure=>omega
  have q5:((lv:Int)==0)=false:=beq_eq_false_iff_ne.2 (by omega)
  have q6:(L6:Int)<(N3:Int):=by omega
  have HCB:Hid (cb=lzB bs fr l):=hid (by
   rcases CS.out with ⟨e,_⟩ | ⟨_,e⟩
   ·omega
   exact e)
  have hlen:=lzB_len SQ.out.2.2.1 HNB.out.2.2.2.2 HNB.out.2.2.2.1
  rw [← HCB.out,HL.out.1] at hlen
  obtain ⟨L1,hL1⟩:∃ x,L-1=x:=⟨_,rfl⟩
  have jl:(L:Int)-1=(L1:Int):=by omega
  have vl:IntKind.i64.wrap (L1:Int)=(L1:Int):=Go.IntWalk.i64_in _ (by omega)
  have hsm:L+6<N+3:=by have:=HL.out;omega
  obtain ⟨h1,hh1⟩:∃ x,UInt8.ofNat (N1 / 256)=x:=⟨_,rfl⟩
  obtain ⟨h2,hh2⟩:∃ x,UInt8.ofNat N1=x:=⟨_,rfl⟩
  obtain ⟨h3,hh3⟩:∃ x,UInt8.ofNat (L1 / 256)=x:=⟨_,rfl⟩
  obtain ⟨h4,hh4⟩:∃ x,UInt8.ofNat L1=x:=⟨_,rfl⟩
  have sh:(N1:Int) / 256=((N1 / 256:Nat):Int):=by omega
  have shl:(L1:Int) / 256=((L1 / 256:Nat):Int):=by omega
  have b1:=u8_wrap (N1 / 256)
  have b2:=u8_wrap N1
  have b3:=u8_wrap (L1 / 256)
  have b4:=u8_wrap L1
  rw [hh1,← sh] at b1
  rw [hh2] at b2
  rw [hh3,← shl] at b3
  rw [hh4] at b4
  clear sh shl
  obtain ⟨ct,hct⟩:∃ ct:UInt8,(if fr=0 then (224:UInt8) else 192)=ct:=⟨_,rfl⟩
  have hcz:(((fr:Int)==0)=true∧ct=224)∨(((fr:Int)==0)=false∧ct=192):=by
   by_cases hz:fr=0
   ·exact .inl ⟨by rw [hz];rfl,by rw [← hct,if_pos hz]⟩
   exact .inr ⟨beq_eq_false_iff_ne.2 (by omega),by rw [← hct,if_neg hz]⟩
  have HX:Hid (encLz bs fr cb=[ct,h1,h2,h3,h4]++[93]++cb):=hid (by
   have hlb:lenB bs fr=N1:=by have:=HN.out;have:=HNN.out.1;have:=HN1.out.1;unfold lenB;omega
   unfold encLz
   rw [hlb,HL.out.1,hL1,hct,hh1,hh2,hh3,hh4]
   rfl)
  have HEN:Hid (IsEnc bs fr (encLz bs fr cb)):=hid (.inr (.inr ⟨by have:=HN.out;have:=HNN.out;omega,l,SQ.out.2.2.1,by rw [← HCB.out,HL.out.1];have:=HN.out;have:=HNN.out;omega,by rw [HCB.out]⟩))
  clear hct hh1 hh2 hh3 hh4 hL1 hsm hlen hp
  rcases hcz with ⟨qz,rfl⟩ | ⟨qz,rfl⟩
  ·go_wp2_with (at_builtin;refine wpList_append_bytes _ rfl (.tmp 111) (.tmp 129) 27 rfl 5 w.heap.size Tryz.underlying27 Tryz.info_u8 (.slice none 0 0) [] rfl ?own1 (some ⟨wx.heap.size,0,none⟩) 5 5 (wx.heap.size+1) [224,h1,h2,h3,h4] rfl rfl ?row1 ?len1 ?base1 ?next1)
   case own1=>exact OwnB.nil _ _ _
   case row1=>exact row_cells wx _ [224,h1,h2,h3,h4] _ rfl
   case len1=>simp
   case base1=>have:=BX.out.size;simp;omega
   case next1 =>
   intro v3 w3 hown3 hfrm3 hnew3
   have hb3:Below w.heap.size w w3:=(BX.out.trans ((below_alloc wx _).mono BX.out.size)).trans (hfrm3.below (by have:=BX.out.size;simp;omega) (by intro q hq;cases hq))
   have hr3:BRow w3 wx.heap.size Ac cb:=row_kept (CR.out.below (below_alloc wx _)) hfrm3 (by simp) (by intro q hq;cases hq)
   have hz3:wx.heap.size≤w3.heap.size:=by have:=hfrm3.size;simp at this;omega
   have hv3:∀ q,v3.ownBlock=some q→wx.heap.size≤q:=by
    intro q hq
    rcases hnew3 with e | e
    ·rw [e] at hq;cases hq
    rw [e] at hq;injection hq with hq;rw [← hq];simp
   obtain ⟨A3,k3,rfl,-,-,-⟩:=hown3.slice
   have O3:=hid hown3
   have B3:=hid hb3
   have R3:=hid hr3
   have Z3:=hid hz3
   have V3:=hid hv3
   clear hown3 hfrm3 hnew3 hb3 hr3 hz3 hv3
   go_wp2_with (at_builtin;refine wpList_append_bytes _ rfl (.tmp 132) (.tmp 133) 27 rfl 5 w.heap.size Tryz.underlying27 Tryz.info_u8 _ ([]++[224,h1,h2,h3,h4]) rfl ?own2 (some ⟨w3.heap.size,0,none⟩) 1 1 (w3.heap.size+1) [93] rfl rfl ?row2 ?len2 ?base2 ?next2)
   case own2=>exact O3.out.alloc _
   case row2=>exact row_cells w3 _ [93] _ rfl
   case len2=>simp
   case base2=>have:=B3.out.size;simp;omega
   case next2 =>
   intro v4 w4 hown4 hfrm4 hnew4
   have hb4:Below w.heap.size w w4:=(B3.out.trans ((below_alloc w3 _).mono B3.out.size)).trans (hfrm4.below (by have:=B3.out.size;simp;omega) (fun q hq=>(O3.out.lt hq).1))
   have hr4:BRow w4 wx.heap.size Ac cb:=row_kept (R3.out.below ((below_alloc w3 _).mono Z3.out)) hfrm4 (by have:=Z3.out;simp;omega) (fun q hq=>V3.out q hq)
   obtain ⟨A4,k4,rfl,-,-,-⟩:=hown4.slice
   have O4:=hid hown4
   have B4:=hid hb4
   have R4:=hid hr4
   clear hown4 hfrm4 hnew4 hb4 hr4
   go_wp2_with (at_builtin;refine wpList_append_bytes _ rfl (.tmp 135) (.tmp 136) 27 rfl 5 w.heap.size Tryz.underlying27 Tryz.info_u8 _ ([]++[224,h1,h2,h3,h4]++[93]) rfl ?own3 Ac L kc wx.heap.size cb rfl HL.out.1.symm ?row3 ?len3 ?base3 ?next3)
   case own3=>exact O4.out
   case row3=>exact R4.out
   case len3 =>
    have h1:=lzB_len SQ.out.2.2.1 HNB.out.2.2.2.2 HNB.out.2.2.2.1
    rw [← HCB.out] at h1
    simp
    omega
   case base3=>exact B4.out.size
   case next3 =>
   intro v5 w5 hown5 hfrm5 hnew5
   have hb5:Below w.heap.size w w5:=B4.out.trans (hfrm5.below B4.out.size (fun q hq=>(O4.out.lt hq).1))
   have O5:=hid hown5
   have B5:=hid hb5
   clear hown5 hfrm5 hnew5 hb5
   go_wp2
   go_roundg 0
   case rel=>exact .inr ⟨rfl,_,O5.out,by have h:=HEN.out;rw [HX.out] at h;exact h,B5.out⟩
   case measure=>omega
  go_wp2_with (at_builtin;refine wpList_append_bytes _ rfl (.tmp 111) (.tmp 129) 27 rfl 5 w.heap.size Tryz.underlying27 Tryz.info_u8 (.slice none 0 0) [] rfl ?own1 (some ⟨wx.heap.size,0,none⟩) 5 5 (wx.heap.size+1) [192,h1,h2,h3,h4] rfl rfl ?row1 ?len1 ?base1 ?next1)
  case own1=>exact OwnB.nil _ _ _
  case row1=>exact row_cells wx _ [192,h1,h2,h3,h4] _ rfl
  case len1=>simp
  case base1=>have:=BX.out.size;simp;omega
  case next1 =>
  intro v3 w3 hown3 hfrm3 hnew3
  have hb3:Below w.heap.size w w3:=(BX.out.trans ((below_alloc wx _).mono BX.out.size)).trans (hfrm3.below (by have:=BX.out.size;simp;omega) (by intro q hq;cases hq))
  have hr3:BRow w3 wx.heap.size Ac cb:=row_kept (CR.out.below (below_alloc wx _)) hfrm3 (by simp) (by intro q hq;cases hq)
  have hz3:wx.heap.size≤w3.heap.size:=by have:=hfrm3.size;simp at this;omega
  have hv3:∀ q,v3.ownBlock=some q→wx.heap.size≤q:=by
   intro q hq
   rcases hnew3 with e | e
   ·rw [e] at hq;cases hq
   rw [e] at hq;injection hq with hq;rw [← hq];simp
  obtain ⟨A3,k3,rfl,-,-,-⟩:=hown3.slice
  have O3:=hid hown3
  have B3:=hid hb3
  have R3:=hid hr3
  have Z3:=hid hz3
  have V3:=hid hv3
  clear hown3 hfrm3 hnew3 hb3 hr3 hz3 hv3
  go_wp2_with (at_builtin;refine wpList_append_bytes _ rfl (.tmp 132) (.tmp 133) 27 rfl 5 w.heap.size Tryz.underlying27 Tryz.info_u8 _ ([]++[192,h1,h2,h3,h4]) rfl ?own2 (some ⟨w3.heap.size,0,none⟩) 1 1 (w3.heap.size+1) [93] rfl rfl ?row2 ?len2 ?base2 ?next2)
  case own2=>exact O3.out.alloc _
  case row2=>exact row_cells w3 _ [93] _ rfl
  case len2=>simp
  case base2=>have:=B3.out.size;simp;omega
  case next2 =>
  intro v4 w4 hown4 hfrm4 hnew4
  have hb4:Below w.heap.size w w4:=(B3.out.trans ((below_alloc w3 _).mono B3.out.size)).trans (hfrm4.below (by have:=B3.out.size;simp;omega) (fun q hq=>(O3.out.lt hq).1))
  have hr4:BRow w4 wx.heap.size Ac cb:=row_kept (R3.out.below ((below_alloc w3 _).mono Z3.out)) hfrm4 (by have:=Z3.out;simp;omega) (fun q hq=>V3.out q hq)
  obtain ⟨A4,k4,rfl,-,-,-⟩:=hown4.slice
  have O4:=hid hown4
  have B4:=hid hb4
  have R4:=hid hr4
  clear hown4 hfrm4 hnew4 hb4 hr4
  go_wp2_with (at_builtin;refine wpList_append_bytes _ rfl (.tmp 135) (.tmp 136) 27 rfl 5 w.heap.size Tryz.underlying27 Tryz.info_u8 _ ([]++[192,h1,h2,h3,h4]++[93]) rfl ?own3 Ac L kc wx.heap.size cb rfl HL.out.1.symm ?row3 ?len3 ?base3 ?next3)
  case own3=>exact O4.out
  case row3=>exact R4.out
  case len3 =>
   have h1:=lzB_len SQ.out.2.2.1 HNB.out.2.2.2.2 HNB.out.2.2.2.1
   rw [← HCB.out] at h1
   simp
   omega
  case base3=>exact B4.out.size
  case next3 =>
  intro v5 w5 hown5 hfrm5 hnew5
  have hb5:Below w.heap.size w w5:=B4.out.trans (hfrm5.below B4.out.size (fun q hq=>(O4.out.lt hq).1))
  have O5:=hid hown5
  have B5:=hid hb5
  clear hown5 hfrm5 hnew5 hb5
  go_wp2
  go_roundg 0
  case rel=>exact .inr ⟨rfl,_,O5.out,by have h:=HEN.out;rw [HX.out] at h;exact h,B5.out⟩
  case measure=>omega
 have O:=hid ho
 have X:=hid hx
 have B:=hid hb
 clear ho hx hb
 go_wp2
 go_ret2
 exact ⟨_,x,rfl,O.out,X.out,B.out⟩
open Go.RowKit Rng Win Lz Box
structure EncS where
 txt:List UInt8
 done:Nat
 packed:Nat
 head:Nat
 begun:Bool
 closed:Bool
def ecells (v:Value) (lv sb:Nat) (s:EncS):Array Value :=
 #[v,.int .i64 (s.done:Int),.int .i64 (lv:Int),.pointer (some ⟨sb,0,none⟩),.int .u64 (s.txt.length:Int),.int .u64 (s.packed:Int),.int .i64 (s.head:Int),.bool s.begun,.bool s.closed]
structure XEncAt (w:World) (K:Nat) (O:Nat→Prop) (eb lv:Nat) (s:EncS) (v:Value) (sb:Nat) (own:Nat→Prop):Prop where
 p:Pts w eb (ecells v lv sb s) 48
 r:OwnB w 5 K v s.txt
 m:SumAt w sb own 2 s.txt
 n1:¬ own eb
 n2:v.ownBlock≠some eb
 n3:∀ q,own q→v.ownBlock≠some q
 k1:K≤eb
 k2:∀ q,own q→K≤q
 o:∀ q,O q↔(q=eb∨own q∨v.ownBlock=some q)
 z:K≤w.heap.size
section
variable {w w' : World} {K eb lv sb : Nat} {O own : Nat → Prop} {s : EncS} {v : Value}
theorem XEncAt.frm {S:Nat→Prop} (h:XEncAt w K O eb lv s v sb own) (hf:Frm S w w') (hn:∀ q,O q→¬ S q):XEncAt w' K O eb lv s v sb own :=
 ⟨h.p.frm hf (hn _ ((h.o _).2 (.inl rfl))),h.r.frm hf (fun k hk=>hn _ ((h.o _).2 (.inr (.inr hk)))),h.m.frmX hf (fun k hk=>hn _ ((h.o _).2 (.inr (.inl hk)))),h.n1,h.n2,h.n3,h.k1,h.k2,h.o,Nat.le_trans h.z hf.size⟩
theorem XEncAt.lt (h:XEncAt w K O eb lv s v sb own):∀ q,O q→q<w.heap.size:=fun q hq=>by
 rcases (h.o q).1 hq with rfl | hq | hq
 ·exact h.p.lt
 ·exact lt_of_cells (h.m.cellsX q hq)
 exact (h.r.lt hq).2
theorem XEncAt.ge (h:XEncAt w K O eb lv s v sb own):∀ q,O q→K≤q:=fun q hq=>by
 rcases (h.o q).1 hq with rfl | hq | hq
 ·exact h.k1
 ·exact h.k2 q hq
 exact (h.r.lt hq).1
theorem XEncAt.below (h:XEncAt w K O eb lv s v sb own) (hb:Below w.heap.size w w'):XEncAt w' K O eb lv s v sb own :=
 h.frm (S:=fun _=>False) (Frm.of_below hb) (fun _ _ h=>h)
theorem XEncAt.turn {s':EncS} (h:XEncAt w K O eb lv s v sb own) (hp:Pts w' eb (ecells v lv sb s') 48) (hf:Frm (· = eb) w w') (ht:s'.txt=s.txt):XEncAt w' K O eb lv s' v sb own :=
 ⟨hp,by rw [ht];exact h.r.frm hf (fun k hk e=>h.n2 (e▸hk)),by rw [ht];exact h.m.frmX hf (fun k hk e=>h.n1 (e▸hk)),h.n1,h.n2,h.n3,h.k1,h.k2,h.o,Nat.le_trans h.z hf.size⟩
end
theorem xpblock_done (eb k:Nat) (C:Array Value) (w:World) (h:Pts w eb C 48) (hb:C[6]?=some (.int .i64 (k:Int))) (hk:0<k):Calls Tryz.prog 39 #[.pointer (some ⟨eb,0,none⟩)] w fun e w'=>e=.returned (.slice none 0 0)∧w=w':=by
 have c7:w.cell? ⟨eb,6,none⟩=some (.int .i64 (k:Int)):=by rw [h.cell,hb]
 have q1:(0:Int)<(k:Int):=by omega
 clear h
 go_enter Tryz.func39,Tryz.ntmps39
 go_wp2
 go_ret
 exact ⟨rfl,rfl⟩
def head8 (code:UInt8):List UInt8:=[2,0,33,1,code,0,0,0]
theorem head8_hd (code:UInt8):head8 code++sealB (head8 code)=hdB false [] code:=(hdB_eq code).symm
set_option maxRecDepth 8000 in
set_option maxHeartbeats 4000000 in
theorem xpblock_p (eb lv:Nat) (C:Array Value) (w:World) (h:Pts w eb C 48) (hb:C[6]?=some (.int .i64 0)) (hl:C[2]?=some (.int .i64 (lv:Int))) (hlv:lv≤3) :
 Calls Tryz.prog 39 #[.pointer (some ⟨eb,0,none⟩)] w fun e w'=>∃ A c,e=.returned (.slice A 12 c)∧OwnB w' 5 w.heap.size (.slice A 12 c) (hdB false [] (codeOf lv))∧Pts w' eb (C.setIfInBounds 6 (.int .i64 12)) 48∧Frm (· = eb) w w':=by
 have c6:w.cell? ⟨eb,6,none⟩=some (.int .i64 0):=by rw [h.cell,hb]
 have c2:w.cell? ⟨eb,2,none⟩=some (.int .i64 (lv:Int)):=by rw [h.cell,hl]
 obtain ⟨k1,k2,k3⟩:=codeOf_win hlv
 obtain ⟨code,hcode⟩:∃ code,codeOf lv=code:=⟨_,rfl⟩
 rw [hcode] at k1 k2
 obtain ⟨l4,hl4⟩:∃ l4,4*lv=l4:=⟨_,rfl⟩
 obtain ⟨cn,hcn⟩:∃ cn,code.toNat=cn:=⟨_,rfl⟩
 have i1:(4:Int)*(lv:Int)=(l4:Int):=by omega
 have i2:(8:Int)+(l4:Int)=(cn:Int):=by omega
 have i3:IntKind.i64.wrap (l4:Int)=(l4:Int):=Go.IntWalk.i64_in _ (by omega)
 have i4:IntKind.i64.wrap (cn:Int)=(cn:Int):=Go.IntWalk.i64_in _ (by omega)
 have i5:IntKind.u8.wrap (cn:Int)=(cn:Int):=Go.IntWalk.u8_in _ (by omega)
 obtain ⟨W,hW⟩:∃ W,w.alloc (.cells #[.int .u8 2,.int .u8 0,.int .u8 33,.int .u8 1,.int .u8 (cn:Int),.int .u8 0,.int .u8 0,.int .u8 0] 5)=W:=⟨_,rfl⟩
 have r0:BRow W (w.heap.size+1) (some ⟨w.heap.size,0,none⟩) (head8 code):=by rw [← hW];exact row_cellsX w _ (head8 code) _ (by simp [head8,byteV,hcn])
 have hWz:W.heap.size=w.heap.size+1:=by rw [← hW];simp
 have hWb:Below w.heap.size w W:=by rw [← hW];exact below_alloc _ _
 rw [← hWz] at r0
 have HS:=hid (seal_p (some ⟨w.heap.size,0,none⟩) (head8 code) 8 8 W rfl r0 (by simp [head8]))
 have HH:=hid (And.intro h (And.intro r0 (And.intro hWb (And.intro hWz hcode))))
 clear h hb hl k1 k2 k3 hl4 hcn r0 hWb hWz hcode
 go_enter Tryz.func39,Tryz.ntmps39
 go_wp2_with fail
 refine HS.out.mono ?_;rintro e w2 ⟨v2,rfl,ho2,hb2⟩
 obtain ⟨A2,k2,rfl,-,-,hr2⟩:=ho2.slice
 have HO:=hid (xoutL_p [⟨some ⟨w.heap.size,0,none⟩,head8 code,8⟩,⟨A2,sealB (head8 code),k2⟩] w2 2 #[.slice (some ⟨w.heap.size,0,none⟩) 8 8,.slice A2 4 k2] rfl rfl (by simp) (by
  intro r hr
  simp only [List.mem_cons,List.not_mem_nil,or_false] at hr
  rcases hr with rfl | rfl
  ·exact ⟨(HH.out.2.1.below hb2).more hb2.size,by simp [head8]⟩
  exact ⟨hr2,by simp [sealB_len]⟩))
 have B2:=hid (HH.out.2.2.1.trans (hb2.mono HH.out.2.2.1.size))
 clear ho2 hb2 hr2 HS
 go_wp2_with fail
 refine HO.out.mono ?_;rintro e w3 ⟨v3,rfl,ho3,hb3⟩
 have e12:(List.map (fun x:ByteRow=>x.bs) [⟨some ⟨w.heap.size,0,none⟩,head8 code,8⟩,⟨A2,sealB (head8 code),k2⟩]).flatten=hdB false [] code:=by
  rw [← head8_hd]
  simp
 rw [e12] at ho3
 obtain ⟨A3,k3,e3,-,-,-⟩:=ho3.slice
 rw [hdB_12] at e3
 subst e3
 have B3:=hid (B2.out.trans (hb3.mono B2.out.size))
 have P3:=HH.out.1.below B3.out HH.out.1.lt
 have f6:=P3.frozen 6
 have c6':w3.cell? ⟨eb,6,none⟩=some (.int .i64 0):=by rw [P3.cell,← HH.out.1.cell 6];exact c6
 have H3:=hid (And.intro (ho3.lowZ B2.out.size) P3)
 clear ho3 hb3 P3 HO e12
 go_wp2
 go_ret
 refine ⟨_,_,rfl,?_,H3.out.2.set 6 _,Frm.setCell (S:=(· = eb)) (Frm.of_below B3.out) (p:=⟨eb,6,none⟩) rfl _⟩
 rw [HH.out.2.2.2.2]
 exact H3.out.1.other (fun e=>by have h1:=(H3.out.1.lt e).1;have h2:=HH.out.1.lt;exact absurd h1 (Nat.not_le.2 h2)) _
open Go.RowKit Rng Win Lz Box
def ChEnd (w:World) (K:Nat) (O:Nat→Prop) (eb lv:Nat) (s:EncS) (v:Value) (sb:Nat) (own:Nat→Prop) (e:Ending) (w':World):Prop :=
 (s.done=s.txt.length∧e=.returned (.slice none 0 0)∧XEncAt w' K O eb lv s v sb own∧Frm O w w') ∨
 (s.done<s.txt.length∧∃ A c x r,e=.returned (.slice A r.length c)∧OwnB w' 5 w.heap.size (.slice A r.length c) r∧IsEnc s.txt s.done x∧r=(if s.begun then [] else headM 4++hdB false [] (codeOf lv))++x ∧
   XEncAt w' K O eb lv { s with done:=s.txt.length,packed:=s.packed+x.length,head:=12,begun:=true } v sb own∧Frm O w w')
structure EncOk (s:EncS):Prop where
 t:s.txt.length≤16384
 d:s.done≤s.txt.length
 k:s.packed≤1000000
 h:s.head=if s.begun then 12 else 0
theorem XEncAt.drew {w:World} {K eb lv sb:Nat} {O own:Nat→Prop} {s:EncS} {v:Value} (h:XEncAt w K O eb lv s v sb own):XEncAt w.drew K O eb lv s v sb own :=
 h.frm (S:=fun _=>False) (Frm.refl _ w).drew (fun _ _ h=>h)
theorem XEncAt.cells {w:World} {K eb lv sb:Nat} {O own:Nat→Prop} {s:EncS} {v:Value} (h:XEncAt w K O eb lv s v sb own) :
 w.cell? ⟨eb,0,none⟩=some v∧w.cell? ⟨eb,1,none⟩=some (.int .i64 (s.done:Int))∧w.cell? ⟨eb,2,none⟩=some (.int .i64 (lv:Int))∧w.cell? ⟨eb,3,none⟩=some (.pointer (some ⟨sb,0,none⟩)) ∧
 w.cell? ⟨eb,4,none⟩=some (.int .u64 (s.txt.length:Int))∧w.cell? ⟨eb,5,none⟩=some (.int .u64 (s.packed:Int))∧w.cell? ⟨eb,6,none⟩=some (.int .i64 (s.head:Int))∧w.cell? ⟨eb,7,none⟩=some (.bool s.begun)∧w.cell? ⟨eb,8,none⟩=some (.bool s.closed)∧∀ k,w.frozen? ⟨eb,k,none⟩=false :=
 ⟨by rw [h.p.cell];rfl,by rw [h.p.cell];rfl,by rw [h.p.cell];rfl,by rw [h.p.cell];rfl,by rw [h.p.cell];rfl,by rw [h.p.cell];rfl,by rw [h.p.cell];rfl,by rw [h.p.cell];rfl,by rw [h.p.cell];rfl,fun k=>h.p.frozen k⟩
set_option maxRecDepth 100000 in
set_option maxHeartbeats 8000000 in
theorem chunks_x (K:Nat) (O:Nat→Prop) (eb lv:Nat) (s:EncS) (v:Value) (sb:Nat) (own:Nat→Prop) (w:World) (h:XEncAt w K O eb lv s v sb own) (hlv:lv≤3) (ho:EncOk s) :
 Calls Tryz.prog 19 #[.pointer (some ⟨eb,0,none⟩)] w (ChEnd w K O eb lv s v sb own):=by
 obtain ⟨A,c,rfl,hc,hcm,hr⟩:=h.r.slice
 obtain ⟨txt,done,packed,head,begun,closed⟩:=s
 obtain ⟨n,hn⟩:∃ n,txt.length=n:=⟨_,rfl⟩
 obtain ⟨ho1,ho2,ho3,ho4⟩:=ho
 simp only at hc hr ho1 ho2 ho3 ho4
 simp only [hn] at h hc ho1 ho2
 simp only [hn]
 have HC:=hid h
 have HO:=hid (And.intro ho1 (And.intro ho2 (And.intro ho3 (And.intro ho4 (And.intro hc (And.intro hcm hlv))))))
 have HN:=hid hn
 have D0:=hid h.drew
 have F0:Hid (Frm O w w.drew):=hid (Frm.refl _ w).drew
 obtain ⟨r0,r1,-,-,-,-,-,-,-,rf⟩:=D0.out.cells
 simp only at r1
 clear h ho1 ho2 ho3 ho4 hc hcm hlv hn hr
 by_cases hd:done=n
 ·have q1:((done:Int)==(n:Int))=true:=beq_iff_eq.2 (by omega)
  have HD:=hid hd
  clear hd
  go_enter Tryz.func19,Tryz.ntmps19
  go_upto_region 1 with fail
  go_still (by kernel_rfl)
  go_wp2
  go_ret
  exact .inl ⟨by rw [HN.out];exact HD.out,rfl,D0.out,F0.out⟩
 have q1:((done:Int)==(n:Int))=false:=beq_eq_false_iff_ne.2 (by omega)
 have HD:=hid hd
 clear hd
 go_enter Tryz.func19,Tryz.ntmps19
 go_upto_region 1 with fail
 go_still (by kernel_rfl)
 obtain ⟨w0,hw0⟩:∃ w0,w.drew=w0:=⟨_,rfl⟩
 rw [hw0] at D0 F0 r0 r1
 rw [show ({ heap:=w.heap,tape:=w.tape,drawn:=w.drawn+1,os:=w.os,output:=w.output }:World)=w0 from hw0]
 clear hw0 r0 r1 rf
 go_upto_region 3 with fail
 have D1:=hid D0.out.drew
 have F1:Hid (Frm O w w0.drew):=hid F0.out.drew
 refine wp_region_stc 14 (by kernel_rfl) (by kernel_rfl) ?_
 obtain ⟨r0,r1,r2,-,-,-,-,-,-,rf⟩:=D0.out.cells
 simp only at r1 r2
 simp only [List.take_succ_cons,List.take_zero,List.drop_succ_cons,List.drop_zero]
 repeat still_step
 refine wpStill_nil ?_
 change wpList _ _ _ _ _ w0.drew
 obtain ⟨w1,hw1⟩:∃ w1,w0.drew=w1:=⟨_,rfl⟩
 rw [hw1] at D1 F1
 rw [hw1]
 have hlen:txt.length≤16384:=by rw [HN.out];exact HO.out.1
 have HEN:=hid (encode_p A txt n c done (lv:Int) w1 HN.out.symm (by rw [HN.out];exact HO.out.2.2.2.2.1) HO.out.2.2.2.2.2.1 D1.out.r.rowZ hlen (by rw [HN.out];exact HO.out.2.1))
 clear hw1 r0 r1 r2 rf D0 F0 hlen
 go_wp2_with fail
 refine HEN.out.mono ?_;rintro e w2 ⟨vc,x,rfl,hox,hx,hb2⟩
 obtain ⟨Ac,cc,e,-,-,-⟩:=hox.slice
 obtain ⟨L,hL⟩:∃ L,x.length=L:=⟨_,rfl⟩
 rw [hL] at e
 subst e
 have D2:=hid (D1.out.below hb2)
 have F2:=hid (F1.out.trans (Frm.of_below hb2))
 have hLb:L≤16390:=by
  have q:=(isEnc_len hx).1
  rw [hL,HN.out] at q
  have:=HO.out.1
  omega
 have HX:=hid (And.intro hx (And.intro hL (And.intro hLb (And.intro hox hb2.size))))
 clear HEN hox hx hb2 hL
 go_wp2_with fail
 change wpStill _ _ _ _ _ _
 repeat still_step
 refine wpStill_nil ?_
 obtain ⟨r0,r1,r2,r3,r4,r5,r6,r7,r8,rf⟩:=D2.out.cells
 simp only at r1 r2 r3 r4 r5 r6 r7 r8
 have f5:=rf 5
 obtain ⟨P,hP⟩:∃ P,packed+L=P:=⟨_,rfl⟩
 have i1:(packed:Int)+(L:Int)=(P:Int):=by omega
 have i2:IntKind.u64.wrap (P:Int)=(P:Int):=Go.IntWalk.u64_in _ (by have:=HO.out.2.2.1;omega)
 have i3:IntKind.u64.wrap (L:Int)=(L:Int):=Go.IntWalk.u64_in _ (by omega)
 have hp3:=D2.out.p.set 5 (.int .u64 (P:Int))
 have hf3:Frm (· = eb) w2 (w2.setCell ⟨eb,5,none⟩ (.int .u64 (P:Int))):=Frm.setCell (S:=(· = eb)) (Frm.refl _ w2) (p:=⟨eb,5,none⟩) rfl _
 obtain ⟨w3,hw3⟩:∃ w3,w2.setCell ⟨eb,5,none⟩ (.int .u64 (P:Int))=w3:=⟨_,rfl⟩
 rw [hw3] at hp3 hf3
 have hp4:=hp3.set 1 (.int .i64 (n:Int))
 have hf4:Frm (· = eb) w2 (w3.setCell ⟨eb,1,none⟩ (.int .i64 (n:Int))):=hf3.trans (Frm.setCell (S:=(· = eb)) (Frm.refl _ w3) (p:=⟨eb,1,none⟩) rfl _)
 have s0:w3.cell? ⟨eb,0,none⟩=some (.slice A n c):=by rw [hp3.cell];rfl
 have s1:=hp3.frozen 1
 have s1c:w3.cell? ⟨eb,1,none⟩=some (.int .i64 (done:Int)):=by rw [hp3.cell];rfl
 obtain ⟨w4,hw4⟩:∃ w4,w3.setCell ⟨eb,1,none⟩ (.int .i64 (n:Int))=w4:=⟨_,rfl⟩
 rw [hw4] at hp4 hf4
 have t0:w4.cell? ⟨eb,0,none⟩=some (.slice A n c):=by rw [hp4.cell];rfl
 have t2:w4.cell? ⟨eb,2,none⟩=some (.int .i64 (lv:Int)):=by rw [hp4.cell];rfl
 have D4:Hid (XEncAt w4 K O eb lv ⟨txt,n,P,head,begun,closed⟩ (.slice A n c) sb own):=hid (D2.out.turn (s':=⟨txt,n,P,head,begun,closed⟩) (by have q:=hp4;exact q) hf4 rfl)
 have F4:=hid (F2.out.trans (hf4.mono fun q _ e=>(D2.out.o q).2 (.inl e)))
 have HW4:=hid hf4
 clear F1 hp3 hf3 hp4 hf4 r1 r3 r4 r6 r7 r8 rf r2
 go_upto_region 6 with fail
 clear s0 s1 s1c r0 r5 f5 i1 i2 i3 hw3 hw4
 obtain ⟨l2,hl2⟩:∃ l2,2*lv=l2:=⟨_,rfl⟩
 obtain ⟨kk,hkk⟩:∃ kk,16+l2=kk:=⟨_,rfl⟩
 have hlv:=HO.out.2.2.2.2.2.2
 have j1:(2:Int)*(lv:Int)=(l2:Int):=by omega
 have j2:(16:Int)+(l2:Int)=(kk:Int):=by omega
 have j3:IntKind.i64.wrap (l2:Int)=(l2:Int):=Go.IntWalk.i64_in _ (by omega)
 have j4:IntKind.i64.wrap (kk:Int)=(kk:Int):=Go.IntWalk.i64_in _ (by omega)
 have j5:IntKind.u64.wrap (kk:Int)=(kk:Int):=Go.IntWalk.u64_in _ (by omega)
 have hkw:=win_ge hlv
 obtain ⟨KP,hKP⟩:∃ KP,2 ^ (16+2*lv)=KP:=⟨_,rfl⟩
 rw [hKP] at hkw
 have j6:(2:Int) ^ (min kk 64)=(KP:Int):=by rw [Nat.min_eq_left (by omega),← hkk,← hl2,← hKP];simp
 have j7:IntKind.i64.wrap (KP:Int)=(KP:Int):=Go.IntWalk.i64_in _ (by omega)
 obtain ⟨KQ,hKQ⟩:∃ KQ,2*KP=KQ:=⟨_,rfl⟩
 obtain ⟨KR,hKR⟩:∃ KR,KQ+131072=KR:=⟨_,rfl⟩
 have j8:(2:Int)*(KP:Int)=(KQ:Int):=by omega
 have j9:(KQ:Int)+131072=(KR:Int):=by omega
 have j10:IntKind.i64.wrap (KQ:Int)=(KQ:Int):=Go.IntWalk.i64_in _ (by omega)
 have j11:IntKind.i64.wrap (KR:Int)=(KR:Int):=Go.IntWalk.i64_in _ (by omega)
 have j12:(n:Int)<(KR:Int):=by have:=HO.out.1;omega
 clear hl2 hkk hlv hkw hKP hKQ hKR
 have hox:=HX.out.2.2.2.1
 cases begun
 ·have h0:head=0:=HO.out.2.2.2.1
  subst h0
  go_wp2_with fail
  refine (xpbegin_p eb _ w4 D4.out.p rfl).mono ?_;rintro e w5 ⟨A5,c5,rfl,ho5,hp5,hf5⟩
  have O5:=hid ho5
  have P5:=hid hp5
  have F5:=hid (HW4.out.trans hf5)
  have Z5:=hid hf5.size
  clear ho5 hp5 hf5
  go_wp2_with fail
  refine (xpblock_p eb lv _ w5 P5.out rfl rfl HO.out.2.2.2.2.2.2).mono ?_;rintro e w6 ⟨A6,c6,rfl,ho6,hp6,hf6⟩
  have D6:=hid (D2.out.turn (s':=⟨txt,n,P,12,true,closed⟩) (by have q:=hp6;exact q) (F5.out.trans hf6) rfl)
  have hlt:=D1.out.p.lt
  have hr5:BRow w6 w6.heap.size A5 (headM 4):=(O5.out.frm hf6 (fun k hk e=>by have:=(O5.out.lt hk).1;have:=HW4.out.size;have:=HX.out.2.2.2.2;omega)).rowZ
  have hrx:BRow w6 w6.heap.size Ac x:=(hox.frm (F5.out.trans hf6) (fun k hk e=>by have:=(hox.lt hk).1;omega)).rowZ
  have HOL:=hid (xoutL_p [⟨A5,headM 4,c5⟩,⟨A6,hdB false [] (codeOf lv),c6⟩,⟨Ac,x,cc⟩] w6 3 #[.slice A5 12 c5,.slice A6 12 c6,.slice Ac L cc] rfl (by simp only [List.map_cons,List.map_nil,ByteRow.v,hdB_12,HX.out.2.1];rfl) (by simp) (by
   intro r hr
   simp only [List.mem_cons,List.not_mem_nil,or_false] at hr
   rcases hr with rfl | rfl | rfl
   ·exact ⟨hr5,(by decide:(12:Nat)≤1000000)⟩
   ·exact ⟨ho6.rowZ,by rw [hdB_12];omega⟩
   exact ⟨hrx,by rw [HX.out.2.1];omega⟩))
  have F6:=hid (F2.out.trans ((F5.out.trans hf6).mono fun q _ e=>(D2.out.o q).2 (.inl e)))
  have Z6:=hid (Nat.le_trans (Nat.le_trans Z5.out hf6.size) (Nat.le_refl _))
  clear hr5 hrx ho6 hp6 hf6 hlt O5 P5 F5
  go_wp2_with fail
  refine HOL.out.mono ?_;rintro e w7 ⟨v7,rfl,ho7,hb7⟩
  have e7:(List.map (fun x:ByteRow=>x.bs) [⟨A5,headM 4,c5⟩,⟨A6,hdB false [] (codeOf lv),c6⟩,⟨Ac,x,cc⟩]).flatten=(headM 4++hdB false [] (codeOf lv))++x:=by simp
  rw [e7] at ho7
  obtain ⟨R7,hR7⟩:∃ r,(headM 4++hdB false [] (codeOf lv))++x=r:=⟨_,rfl⟩
  rw [hR7] at ho7
  have HR7:=hid hR7
  obtain ⟨A7,c7,e8,-,-,-⟩:=ho7.slice
  obtain ⟨L7,hL7⟩:∃ L,R7.length=L:=⟨_,rfl⟩
  rw [hL7] at e8
  have HL7:=hid hL7
  subst e8
  have D7:=hid (D6.out.below hb7)
  have F7:=hid (F6.out.trans (Frm.of_below hb7))
  have H7:=hid (ho7.lowZ (base':=w.heap.size) (Nat.le_trans F2.out.size (Nat.le_trans HW4.out.size Z6.out)))
  clear ho7 hb7 e7 HOL hR7 hL7
  go_wp2
  go_ret
  refine .inr ⟨by have:=HO.out.2.1;have:=HD.out;have:=HN.out;simp only;omega,A7,c7,x,R7,by rw [HL7.out];rfl,by rw [HL7.out];exact H7.out,HX.out.1,HR7.out.symm,?_,F7.out⟩
  simp only [HN.out,HX.out.2.1,hP]
  exact D7.out
 have h0:head=12:=HO.out.2.2.2.1
 subst h0
 go_wp2_with fail
 refine (xpbegin_done eb _ w4 D4.out.p rfl).mono ?_;rintro e w5 ⟨rfl,rfl⟩
 go_wp2_with fail
 refine (xpblock_done eb 12 _ w4 D4.out.p rfl (by omega)).mono ?_;rintro e w6 ⟨rfl,rfl⟩
 have hlt:=D1.out.p.lt
 have hrx:BRow w4 w4.heap.size Ac x:=(hox.frm HW4.out (fun k hk e=>by have:=(hox.lt hk).1;omega)).rowZ
 have HOL:=hid (xoutL_p [⟨none,[],0⟩,⟨none,[],0⟩,⟨Ac,x,cc⟩] w4 3 #[.slice none 0 0,.slice none 0 0,.slice Ac L cc] rfl (by simp only [List.map_cons,List.map_nil,ByteRow.v,HX.out.2.1];rfl) (by simp) (by
  intro r hr
  simp only [List.mem_cons,List.not_mem_nil,or_false] at hr
  rcases hr with rfl | rfl | rfl
  ·exact ⟨BRow.nil _ _ _,by simp⟩
  ·exact ⟨BRow.nil _ _ _,by simp⟩
  exact ⟨hrx,by rw [HX.out.2.1];omega⟩))
 clear hrx hlt
 go_wp2_with fail
 refine HOL.out.mono ?_;rintro e w7 ⟨v7,rfl,ho7,hb7⟩
 have e7:(List.map (fun x:ByteRow=>x.bs) [⟨none,[],0⟩,⟨none,[],0⟩,⟨Ac,x,cc⟩]).flatten=[]++x:=by simp
 rw [e7] at ho7
 obtain ⟨R7,hR7⟩:∃ r,([]:List UInt8)++x=r:=⟨_,rfl⟩
 rw [hR7] at ho7
 have HR7:=hid hR7
 obtain ⟨A7,c7,e8,-,-,-⟩:=ho7.slice
 obtain ⟨L7,hL7⟩:∃ L,R7.length=L:=⟨_,rfl⟩
 rw [hL7] at e8
 have HL7:=hid hL7
 subst e8
 have D7:=hid (D4.out.below hb7)
 have F7:=hid (F4.out.trans (Frm.of_below hb7))
 have H7:=hid (ho7.lowZ (base':=w.heap.size) F4.out.size)
 clear ho7 hb7 e7 HOL hR7 hL7
 go_wp2
 go_ret
 refine .inr ⟨by have:=HO.out.2.1;have:=HD.out;have:=HN.out;simp only;omega,A7,c7,x,R7,by rw [HL7.out];rfl,by rw [HL7.out];exact H7.out,HX.out.1,HR7.out.symm,?_,F7.out⟩
 simp only [HN.out,HX.out.2.1,hP]
 exact D7.out
open Go.RowKit Rng Win Lz Box
def newEnc:EncS:=⟨[],0,0,0,false,false⟩
def lvOf (level:Int):Nat:=(min (max level 0) 3).toNat
theorem lvOf_le (level:Int):lvOf level≤3:=by unfold lvOf;omega
theorem new_x (level:Int) (w:World):Calls Tryz.prog 10 #[.int .i64 level] w fun e w'=>∃ eb sb O own,e=.returned (.pointer (some ⟨eb,0,none⟩))∧XEncAt w' w.heap.size O eb (lvOf level) newEnc (.slice none 0 0) sb own∧Below w.heap.size w w':=by
 obtain ⟨m1,hm1⟩:∃ m1,max level 0=m1:=⟨_,rfl⟩
 obtain ⟨lv,hlv⟩:∃ lv,lvOf level=lv:=⟨_,rfl⟩
 have hm2:min m1 3=(lv:Int):=by rw [← hlv,← hm1];unfold lvOf;omega
 have f1:=fun w=>Fnd.max2_int (P:=Tryz.prog) #[3,3] 3 _ _ _ hm1 w
 have f2:=fun w=>Fnd.min2_int (P:=Tryz.prog) #[3,3] 3 _ _ _ hm2 w
 have HN:=hid (new_any 2 w)
 rw [hlv]
 clear hm1 hlv hm2
 go_enter Tryz.func10,Tryz.ntmps10
 go_wp2_with fail
 refine HN.out.mono ?_;rintro e w1 ⟨sb,own,rfl,hs,hown,hb⟩
 have HS:=hid (And.intro hs (And.intro hown hb))
 clear hs hown hb HN
 go_wp2
 go_ret
 have hba:=below_alloc w1 (.cells (ecells (.slice none 0 0) lv sb newEnc) 48)
 refine ⟨_,sb,fun q=>q=w1.heap.size∨own q,own,rfl,⟨Pts.new w1 _ _,OwnB.nil _ _ _,HS.out.1.frmX (S:=fun _=>False) (Frm.of_below hba) (fun _ _ h=>h),fun hq=>?_,fun h=>(by cases h),fun q _ h=>(by cases h),HS.out.2.2.size,HS.out.2.1,fun q=>⟨fun h=>h.elim .inl (fun h=>.inr (.inl h)),fun h=>h.elim .inl (fun h=>h.elim .inr (fun h=>(by cases h)))⟩,Nat.le_trans HS.out.2.2.size hba.size⟩,HS.out.2.2.trans (hba.mono HS.out.2.2.size)⟩
 exact absurd (lt_of_cells (HS.out.1.cellsX _ hq)) (Nat.lt_irrefl _)
theorem flush_nil (w:World):Calls Tryz.prog 11 #[.pointer none] w fun e w'=>e=.returned (.slice none 0 0)∧w=w':=by
 go_enter Tryz.func11,Tryz.ntmps11
 go_wp2
 go_ret
 exact ⟨rfl,rfl⟩
theorem flush_closed (K:Nat) (O:Nat→Prop) (eb lv:Nat) (s:EncS) (v:Value) (sb:Nat) (own:Nat→Prop) (w:World) (h:XEncAt w K O eb lv s v sb own) (hcl:s.closed=true) :
 Calls Tryz.prog 11 #[.pointer (some ⟨eb,0,none⟩)] w fun e w'=>e=.returned (.slice none 0 0)∧w=w':=by
 obtain ⟨-,-,-,-,-,-,-,-,r8,-⟩:=h.cells
 rw [hcl] at r8
 clear h hcl
 go_enter Tryz.func11,Tryz.ntmps11
 go_wp2
 go_ret
 exact ⟨rfl,rfl⟩
theorem flush_x (K:Nat) (O:Nat→Prop) (eb lv:Nat) (s:EncS) (v:Value) (sb:Nat) (own:Nat→Prop) (w:World) (h:XEncAt w K O eb lv s v sb own) (hlv:lv≤3) (ho:EncOk s) (hcl:s.closed=false) :
 Calls Tryz.prog 11 #[.pointer (some ⟨eb,0,none⟩)] w (ChEnd w K O eb lv s v sb own):=by
 obtain ⟨-,-,-,-,-,-,-,-,r8,-⟩:=h.cells
 rw [hcl] at r8
 have HC:=hid (chunks_x K O eb lv s v sb own w h hlv ho)
 clear h hcl hlv ho
 go_enter Tryz.func11,Tryz.ntmps11
 go_wp2_with fail
 refine HC.out.mono ?_;rintro e w1 he
 rcases he with ⟨h1,rfl,h2,h3⟩ | ⟨h1,A,c,x,r,rfl,h2,h3,h4,h5,h6⟩
 ·have HE:=hid (And.intro h1 (And.intro h2 h3))
  clear h1 h2 h3 HC r8
  go_wp2
  go_ret
  exact .inl ⟨HE.out.1,rfl,HE.out.2.1,HE.out.2.2⟩
 obtain ⟨L,hL⟩:∃ L,r.length=L:=⟨_,rfl⟩
 rw [hL] at h2
 simp only [hL]
 have HE:=hid (And.intro h1 (And.intro h2 (And.intro h3 (And.intro h4 (And.intro h5 (And.intro h6 hL))))))
 clear h1 h2 h3 h4 h5 h6 HC r8 hL
 go_wp2
 go_ret
 exact .inr ⟨HE.out.1,A,c,x,r,by rw [HE.out.2.2.2.2.2.2];rfl,by rw [HE.out.2.2.2.2.2.2];exact HE.out.2.1,HE.out.2.2.1,HE.out.2.2.2.1,HE.out.2.2.2.2.1,HE.out.2.2.2.2.2.1⟩
theorem write_nil (A:Option Addr) (n c:Nat) (w:World):Calls Tryz.prog 12 #[.pointer none,.slice A n c] w fun e w'=>e=.returned (.slice none 0 0)∧w=w':=by
 go_enter Tryz.func12,Tryz.ntmps12
 go_wp2
 go_ret
 exact ⟨rfl,rfl⟩
theorem write_closed (K:Nat) (O:Nat→Prop) (eb lv:Nat) (s:EncS) (v:Value) (sb:Nat) (own:Nat→Prop) (A:Option Addr) (n c:Nat) (w:World) (h:XEncAt w K O eb lv s v sb own) (hcl:s.closed=true) :
 Calls Tryz.prog 12 #[.pointer (some ⟨eb,0,none⟩),.slice A n c] w fun e w'=>e=.returned (.slice none 0 0)∧w=w':=by
 obtain ⟨-,-,-,-,-,-,-,-,r8,-⟩:=h.cells
 rw [hcl] at r8
 clear h hcl
 go_enter Tryz.func12,Tryz.ntmps12
 go_wp2
 go_ret
 exact ⟨rfl,rfl⟩
open Go.RowKit Rng Win Lz Box
def WrEnd (w:World) (K:Nat) (O:Nat→Prop) (eb lv:Nat) (s:EncS) (sb:Nat) (e:Ending) (w':World):Prop :=
 e=.returned (.slice none 0 0)∧∃ v' own' O',XEncAt w' K O' eb lv s v' sb own'∧(∀ q,O' q→O q∨w.heap.size≤q)∧Frm O w w'
set_option maxRecDepth 100000 in
set_option maxHeartbeats 8000000 in
theorem write_x (K:Nat) (O:Nat→Prop) (eb lv:Nat) (s:EncS) (v:Value) (sb:Nat) (own:Nat→Prop) (A:Option Addr) (bs:List UInt8) (n c B:Nat) (w:World) (h:XEncAt w K O eb lv s v sb own) (hcl:s.closed=false)
 (hn:n=bs.length) (hr:BRow w B A bs) (hoff:BOff O A bs) (hB:B≤w.heap.size) (hc:n≤c) (ht:s.txt.length+n≤16384) (hd:s.done≤s.txt.length) :
 Calls Tryz.prog 12 #[.pointer (some ⟨eb,0,none⟩),.slice A n c] w (WrEnd w K O eb lv { s with txt:=s.txt++bs } sb):=by
 obtain ⟨Av,cv,rfl,hcv,hcvm,-⟩:=h.r.slice
 obtain ⟨txt,done,packed,head,begun,closed⟩:=s
 simp only at hcl ht hd
 subst hcl
 obtain ⟨N,hN⟩:∃ N,txt.length=N:=⟨_,rfl⟩
 simp only [hN] at h ht hd hcv
 obtain ⟨r0,r1,r2,r3,r4,r5,r6,r7,r8,rf⟩:=h.cells
 simp only [hN] at r0 r1 r4 r8
 have HC:=hid h
 have HNN:=hid hN
 by_cases h0:n=0
 ·subst h0
  have hbs:bs=[]:=List.eq_nil_of_length_eq_zero hn.symm
  subst hbs
  clear h hn hr hoff hcv hN ht hd
  go_enter Tryz.func12,Tryz.ntmps12
  go_wp2
  refine wp_loop_rounds 1 ?_
  rw [rounds_succ]
  go_wp2
  go_ret
  refine ⟨rfl,.slice Av N cv,own,O,?_,fun q hq=>.inl hq,Frm.refl _ _⟩
  simp only [List.append_nil]
  exact HC.out
 obtain ⟨D,hD⟩:∃ D:Nat,N-done=D:=⟨_,rfl⟩
 obtain ⟨Z,hZ⟩:∃ Z:Nat,65536-D=Z:=⟨_,rfl⟩
 have i1:(N:Int)-(done:Int)=(D:Int):=by omega
 have i2:(65536:Int)-(D:Int)=(Z:Int):=by omega
 have i3:IntKind.i64.wrap (D:Int)=(D:Int):=Go.IntWalk.i64_in _ (by omega)
 have i4:IntKind.i64.wrap (Z:Int)=(Z:Int):=Go.IntWalk.i64_in _ (by omega)
 have hmin:min (n:Int) (Z:Int)=(n:Int):=by omega
 have f1:=fun w=>Fnd.min2_int (P:=Tryz.prog) #[3,3] 3 _ _ _ hmin w
 have hnp:(0:Int)<(n:Int):=by omega
 have hs1:=fun w=>slice_toX A n c n (Nat.le_refl _) hc w
 have hs2:=fun w=>slice_fromX A n c n (Nat.le_refl _) hc w
 rw [Nat.sub_self] at hs2
 obtain ⟨A',hA'⟩:∃ A',(if c=n then A else A.map (·.add n))=A':=⟨_,rfl⟩
 obtain ⟨c',hc'⟩:∃ c',c-n=c':=⟨_,rfl⟩
 simp only [hA',hc'] at hs2
 obtain ⟨M,hM⟩:∃ M,N+n=M:=⟨_,rfl⟩
 have j1:(N:Int)+(n:Int)=(M:Int):=by omega
 have j2:IntKind.u64.wrap (M:Int)=(M:Int):=Go.IntWalk.u64_in _ (by omega)
 have j3:IntKind.u64.wrap (n:Int)=(n:Int):=Go.IntWalk.u64_in _ (by omega)
 obtain ⟨E,hE⟩:∃ E,M-done=E:=⟨_,rfl⟩
 have j4:(M:Int)-(done:Int)=(E:Int):=by omega
 have j5:IntKind.i64.wrap (E:Int)=(E:Int):=Go.IntWalk.i64_in _ (by omega)
 have j6:((E:Int)==65536)=false:=beq_eq_false_iff_ne.2 (by omega)
 have HH:=hid (And.intro hn (And.intro hr (And.intro hoff (And.intro hB (And.intro ht hM)))))
 have D0:=hid h.drew
 have F0:Hid (Frm O w w.drew):=hid (Frm.refl _ w).drew
 clear h hn hr hoff hcv hN ht hd hD hZ hmin hM hE hB r2 r3 r4 r5 r6 r7 rf hA' hc' h0
 go_enter Tryz.func12,Tryz.ntmps12
 go_wp2
 refine wp_loop_rounds 2 ?_
 rw [rounds_succ]
 go_upto_region 5 with fail
 go_still (by kernel_rfl)
 obtain ⟨w0,hw0⟩:∃ w0,w.drew=w0:=⟨_,rfl⟩
 rw [hw0] at D0 F0
 rw [show ({ heap:=w.heap,tape:=w.tape,drawn:=w.drawn+1,os:=w.os,output:=w.output }:World)=w0 from hw0]
 have hbw:Below B w w0:=by rw [← hw0];exact below_drewN (Below.refl _ _) 1
 have R0:=hid (HH.out.2.1.below hbw)
 have ZB:Hid (B≤w0.heap.size):=hid (by rw [← hw0];exact HH.out.2.2.2.1)
 clear hw0 r0 r1 r8 hbw
 obtain ⟨r0,r1,r2,r3,r4,r5,r6,r7,r8,rf⟩:=D0.out.cells
 simp only at r0 r1
 go_upto_region 6 with fail
 have hlen:txt.length+bs.length≤140737488355328:=by have:=HH.out.2.2.2.2.1;have:=HNN.out;have:=HH.out.1;omega
 have e2:(txt++bs).length=M:=by rw [List.length_append,HNN.out,← HH.out.1];exact HH.out.2.2.2.2.2
 have E2:=hid e2
 clear e2
 have g0:=rf 0
 have OW:=hid D0.out.r
 go_region_law (refine step_append_bytes _ rfl (.tmp 39) (.tmp 42) 27 rfl 5 K Tryz.underlying27 Tryz.info_u8 (.slice Av N cv) txt rfl (OW.out.drewN 1) A n c B bs rfl HH.out.1 (R0.out.drewN 1) hlen D0.out.z ?_;intro v1 w1 hown1 hfrm1 hnew1;obtain ⟨A1,c1,e1,-,-,-⟩:=hown1.slice;rw [E2.out] at e1;subst e1;have hp1:=D0.out.drew.p.frm (S:=fun k=>(Value.slice Av N cv).ownBlock=some k) hfrm1 D0.out.n2;have z0:w1.cell? ⟨eb,0,none⟩=some (.slice Av N cv):=(hp1.cell 0).trans rfl;have z1:=hp1.frozen 0)
 have hbd:∀ k,(Value.slice Av N cv).ownBlock=some k→k<w0.heap.size:=fun k hk=>(OW.out.lt hk).2
 have hed:eb<w0.heap.size:=D0.out.p.lt
 have hod:∀ k,own k→k<w0.heap.size:=fun k hk=>lt_of_cells (D0.out.m.cellsX k hk)
 have hl1:∀ k,(Value.slice A1 M c1).ownBlock=some k→k<w1.heap.size:=fun k hk=>(hown1.lt hk).2
 have hnew:∀ k,(Value.slice A1 M c1).ownBlock=some k→(Value.slice Av N cv).ownBlock=some k∨k=w0.heap.size:=fun k hk=>by
  rcases hnew1 with e | e
  ·exact .inl (e▸hk)
  rw [e] at hk
  exact .inr (Option.some.inj hk).symm
 have hne:(Value.slice A1 M c1).ownBlock≠some eb:=fun e=>by
  rcases hnew _ e with h | h
  ·exact D0.out.n2 h
  omega
 have hno:∀ q,own q→(Value.slice A1 M c1).ownBlock≠some q:=fun q hq e=>by
  rcases hnew _ e with h | h
  ·exact D0.out.n3 q hq h
  have:=hod q hq;omega
 have hm1:=(D0.out.drew.m.frmX hfrm1 (fun k hk e=>D0.out.n3 k hk e))
 have hp2:=hp1.set 0 (.slice A1 M c1)
 have hf2:Frm (fun q=>q=eb) w1 (w1.setCell ⟨eb,0,none⟩ (.slice A1 M c1)):=Frm.setCell (S:=(· = eb)) (Frm.refl _ w1) (p:=⟨eb,0,none⟩) rfl _
 have hrow2:BRow (w1.setCell ⟨eb,0,none⟩ (.slice A1 M c1)) B A bs:=by
  refine BRow.below' (BRow.below' (R0.out.drewN 1) hfrm1 (fun h0 ad e hk=>HH.out.2.2.1 h0 ad e ((HC.out.o _).2 (.inr (.inr hk))))) hf2 (fun h0 ad e hk=>HH.out.2.2.1 h0 ad e ((HC.out.o _).2 (.inl hk)))
 obtain ⟨w2,hw2⟩:∃ w2,w1.setCell ⟨eb,0,none⟩ (.slice A1 M c1)=w2:=⟨_,rfl⟩
 rw [hw2] at hp2 hf2 hrow2
 rw [hw2]
 clear hw2
 have hz1:w0.heap.size≤w1.heap.size:=hfrm1.size
 have O2:=hid (hown1.frm hf2 (fun k hk e=>hne (e▸hk)))
 have M2:=hid (hm1.frmX hf2 (fun k hk e=>HC.out.n1 (e▸hk)))
 have P2:=hid hp2
 have R2:=hid hrow2
 have F2:Hid (Frm O w w2):=hid ((F0.out.trans ((Frm.refl O w0).drew.trans (hfrm1.mono fun q _ e=>(HC.out.o q).2 (.inr (.inr e))))).trans (hf2.mono fun q _ e=>(HC.out.o q).2 (.inl e)))
 have HNO:=hid (And.intro hne (And.intro hno (And.intro hl1 (And.intro hf2.size (And.intro hnew (And.intro hed (And.intro hod (And.intro hz1 hbd))))))))
 clear hbd hed hod hl1 hnew hne hno hm1 hp2 hf2 hrow2 hz1 hown1 hfrm1 hnew1 hp1 z0 z1 OW r0 r1 r2 r3 r4 r5 r6 r7 r8 rf g0
 have t3:w2.cell? ⟨eb,3,none⟩=some (.pointer (some ⟨sb,0,none⟩)):=by rw [P2.out.cell];rfl
 go_upto_region 7 with fail
 go_still_tail 7,(by kernel_rfl)
 change wpList _ _ _ _ _ w2.drew
 go_wp2_with fail
 refine (add_crc sb own 2 txt A bs n c B w2.drew (M2.out.frmX (S:=fun _=>False) (Frm.refl _ w2).drew (fun _ _ h=>h)) (by decide) HH.out.1 (R2.out.drewN 1) (fun h0 ad e hk=>HH.out.2.2.1 h0 ad e ((HC.out.o _).2 (.inr (.inl hk)))) hlen).mono ?_;rintro e w3 ⟨rfl,own',hm3,hown3,hf3⟩
 have hz2:w2.drew.heap.size=w2.heap.size:=rfl
 rw [hz2] at hown3
 have hf3':Frm own w2 w3:=(Frm.refl own w2).drew.trans hf3
 have hp3:=P2.out.frm hf3' (fun e=>HC.out.n1 e)
 have ho3:=O2.out.frm hf3' (fun k hk e=>HNO.out.2.1 k e hk)
 have q4:w3.cell? ⟨eb,4,none⟩=some (.int .u64 (N:Int)):=by rw [hp3.cell,← HNN.out];rfl
 have g4:=hp3.frozen 4
 have hp4:=hp3.set 4 (.int .u64 (M:Int))
 have hf4:Frm (fun q=>q=eb) w3 (w3.setCell ⟨eb,4,none⟩ (.int .u64 (M:Int))):=Frm.setCell (S:=(· = eb)) (Frm.refl _ w3) (p:=⟨eb,4,none⟩) rfl _
 have u0:(w3.setCell ⟨eb,4,none⟩ (.int .u64 (M:Int))).cell? ⟨eb,0,none⟩=some (.slice A1 M c1):=by rw [hp4.cell];rfl
 have u1:(w3.setCell ⟨eb,4,none⟩ (.int .u64 (M:Int))).cell? ⟨eb,1,none⟩=some (.int .i64 (done:Int)):=by rw [hp4.cell];rfl
 have hno':∀ q,own' q→q≠eb∧(Value.slice A1 M c1).ownBlock≠some q∧K≤q:=fun q hq=>by
  rcases hown3 q hq with h | h
  ·exact ⟨fun e=>HC.out.n1 (e▸h),HNO.out.2.1 q h,HC.out.k2 q h⟩
  have h5:=HNO.out
  refine ⟨fun e=>?_,fun e=>?_,?_⟩
  ·have:=h5.2.2.2.2.2.1
   have:=h5.2.2.2.1
   have:=h5.2.2.2.2.2.2.2.1
   omega
  ·have:=h5.2.2.1 q e
   have:=h5.2.2.2.1
   omega
  have:=h5.2.2.2.1
  have:=h5.2.2.2.2.2.2.2.1
  have:=D0.out.z
  omega
 obtain ⟨w4,hw4⟩:∃ w4,w3.setCell ⟨eb,4,none⟩ (.int .u64 (M:Int))=w4:=⟨_,rfl⟩
 rw [hw4] at hp4 hf4 u0 u1
 have H4:Hid (XEncAt w4 K (fun q=>q=eb∨own' q∨(Value.slice A1 M c1).ownBlock=some q) eb lv ⟨txt++bs,done,packed,head,begun,false⟩ (.slice A1 M c1) sb own'):=Lib.hid
  ⟨by have q:=hp4;have e:M=(txt++bs).length:=E2.out.symm;subst e;exact q,ho3.frm hf4 (fun k hk e=>HNO.out.1 (e▸hk)),hm3.frmX hf4 (fun k hk e=>(hno' k hk).1 e),fun e=>(hno' _ e).1 rfl,HNO.out.1,fun q hq=>(hno' q hq).2.1,HC.out.k1,fun q hq=>(hno' q hq).2.2,fun q=>Iff.rfl,Nat.le_trans HC.out.z (Nat.le_trans F2.out.size (Nat.le_trans hf3'.size hf4.size))⟩
 have F4:=hid ((F2.out.trans (hf3'.mono fun q _ e=>(HC.out.o q).2 (.inr (.inl e)))).trans (hf4.mono fun q _ e=>(HC.out.o q).2 (.inl e)))
 have G4:Hid (∀ q,(q=eb∨own' q∨(Value.slice A1 M c1).ownBlock=some q)→O q∨w.heap.size≤q):=hid (fun q hq=>by
  rcases hq with rfl | hq | hq
  ·exact .inl ((HC.out.o _).2 (.inl rfl))
  ·rcases hown3 q hq with h | h
   ·exact .inl ((HC.out.o _).2 (.inr (.inl h)))
   exact .inr (Nat.le_trans F2.out.size h)
  rcases HNO.out.2.2.2.2.1 q hq with h | h
  ·exact .inl ((HC.out.o _).2 (.inr (.inr h)))
  exact .inr (by rw [h];exact F0.out.size))
 clear hz2 hown3 hm3 hf3 hf3' hp3 ho3 hp4 hf4 hno' M2 P2 R2 F2 O2 HNO t3
 go_upto_region 10 with fail
 go_still (by kernel_rfl)
 have H5:=hid H4.out.drew
 have F5:Hid (Frm O w w4.drew):=hid F4.out.drew
 obtain ⟨w5,hw5⟩:∃ w5,w4.drew=w5:=⟨_,rfl⟩
 rw [hw5] at H5 F5
 rw [show ({ heap:=w4.heap,tape:=w4.tape,drawn:=w4.drawn+1,os:=w4.os,output:=w4.output }:World)=w5 from hw5]
 clear hw5 u0 u1 hw4 q4 g4
 go_wp2
 rw [rounds_succ]
 go_wp2
 go_ret
 exact ⟨rfl,_,own',_,H5.out,G4.out,F5.out⟩
open Go.RowKit Rng Win Lz Box
structure EncInv (s:EncS) (xs:List (List UInt8)):Prop where
 t:s.txt.length≤16384
 st:Strs s.txt 0 s.done xs
 pk:s.packed=xs.flatten.length
 hd:s.head=if s.begun then 12 else 0
 bg:s.begun=true↔xs≠[]
 nx:xs.length≤100
 ne:xs≠[]→0<s.done
theorem EncInv.d {s:EncS} {xs:List (List UInt8)} (h:EncInv s xs):s.done≤s.txt.length:=(strs_le xs 0 (Nat.zero_le _) h.st).2
theorem EncInv.ok {s:EncS} {xs:List (List UInt8)} (h:EncInv s xs):EncOk s :=
 ⟨h.t,h.d,by have q:=strs_len xs 0 (Nat.zero_le _) h.st;have:=h.d;have:=h.t;have:=h.nx;rw [h.pk];omega,h.hd⟩
theorem newEnc_inv:EncInv newEnc []:=⟨by decide,rfl,rfl,rfl,by decide,by decide,fun h=>absurd rfl h⟩
theorem EncInv.write {s:EncS} {xs:List (List UInt8)} (h:EncInv s xs) (bs:List UInt8) (hl:s.txt.length+bs.length≤16384):EncInv { s with txt:=s.txt++bs } xs :=
 ⟨by simp only [List.length_append];exact hl,strs_more bs xs 0 h.st,h.pk,h.hd,h.bg,h.nx,h.ne⟩
theorem ch_step {w w':World} {K eb lv sb:Nat} {O own:Nat→Prop} {s:EncS} {v:Value} {e:Ending} {xs:List (List UInt8)} (h:ChEnd w K O eb lv s v sb own e w') (hi:EncInv s xs) (hx:xs.length≤99) :
 ∃ A c r xs' s',e=.returned (.slice A r.length c)∧OwnB w' 5 w.heap.size (.slice A r.length c) r∧outS lv xs++r=outS lv xs'∧XEncAt w' K O eb lv s' v sb own∧EncInv s' xs'∧s'.txt=s.txt∧s'.done=s.txt.length∧s'.closed=s.closed ∧
  xs'.length≤xs.length+1∧Frm O w w'∧r.length≤20000:=by
 rcases h with ⟨h1,rfl,h2,h3⟩ | ⟨h1,A,c,x,r,rfl,h2,h3,h4,h5,h6⟩
 ·exact ⟨none,0,[],xs,s,rfl,OwnB.nil _ _ _,by simp,h2,hi,rfl,h1,rfl,by omega,h3,by simp⟩
 have hne:xs++[x]≠[]:=by simp
 have hxl:=(isEnc_len h3).1
 have ht:=hi.t
 refine ⟨A,c,r,xs++[x],_,rfl,h2,?_,h5,⟨ht,?_,?_,rfl,?_,?_,fun _=>Nat.lt_of_le_of_lt (Nat.zero_le _) h1⟩,rfl,rfl,rfl,by simp,h6,?_⟩
 ·rw [h4]
  unfold outS
  rw [if_neg hne]
  cases hb:s.begun with
  | false =>
   have hx0:xs=[]:=Classical.byContradiction fun h=>by have:=hi.bg.2 h;rw [hb] at this;cases this
   subst hx0
   simp
  | true =>
   have hx0:=hi.bg.1 hb
   rw [if_neg hx0]
   simp
 ·exact strs_snoc hi.d (Nat.le_refl _) (by rw [List.take_length];exact h3) xs 0 hi.st
 ·simp only
  rw [hi.pk]
  simp
 ·simp
 ·simp;omega
 rw [h4]
 have h12:(headM 4).length=12:=rfl
 have h13:=hdB_12 (codeOf lv)
 cases s.begun
 ·simp only [Bool.false_eq_true,if_false,List.length_append]
  omega
 simp only [if_true,List.nil_append]
 omega
structure TwK (T K:Nat) (w0 w:World) (vo vi:Value) (o i:List UInt8):Prop where
 oo:OwnB w T K vo o
 oi:OwnB w T K vi i
 ne:∀ q,vo.ownBlock=some q→vi.ownBlock≠some q
 be:Below K w0 w
 hk:K≤w.heap.size
section
variable {T K : Nat} {w0 w w' : World} {vo vi v' : Value} {o i i' o' : List UInt8}
theorem TwK.keep (h:TwK T K w0 w vo vi o i) (hb:Below w.heap.size w w'):TwK T K w0 w' vo vi o i :=
 ⟨h.oo.keepZ hb,h.oi.keepZ hb,h.ne,h.be.trans (hb.mono h.hk),Nat.le_trans h.hk hb.size⟩
theorem TwK.drewN (h:TwK T K w0 w vo vi o i) (n:Nat):TwK T K w0 (w.drewN n) vo vi o i:=⟨h.oo,h.oi,h.ne,below_drewN h.be n,h.hk⟩
theorem TwK.swap (h:TwK T K w0 w vo vi o i):TwK T K w0 w vi vo i o:=⟨h.oi,h.oo,fun q h1 h2=>h.ne q h2 h1,h.be,h.hk⟩
theorem TwK.idx (h:TwK T K w0 w vo vi o i) (hown:OwnB w' T K v' i') (hfrm:Frm (fun k=>vi.ownBlock=some k) w w') (hnew:v'.ownBlock=vi.ownBlock∨v'.ownBlock=some w.heap.size):TwK T K w0 w' vo v' o i' :=
 ⟨h.oo.frm hfrm (fun k hk hS=>h.ne k hk hS),hown,fun q h1 h2=>by
  rcases hnew with hn | hn
  ·exact h.ne q h1 (by rw [← hn];exact h2)
  rw [hn] at h2
  obtain rfl:=Option.some.inj h2
  exact absurd (h.oo.lt h1).2 (Nat.lt_irrefl _),h.be.trans (hfrm.below h.hk (fun q hq=>(h.oi.lt hq).1)),Nat.le_trans h.hk hfrm.size⟩
theorem TwK.out (h:TwK T K w0 w vo vi o i) (hown:OwnB w' T K v' o') (hfrm:Frm (fun k=>vo.ownBlock=some k) w w') (hnew:v'.ownBlock=vo.ownBlock∨v'.ownBlock=some w.heap.size):TwK T K w0 w' v' vi o' i :=
 (h.swap.idx hown hfrm hnew).swap
theorem TwK.fresh (h:TwK T K w0 w vo vi o i) (hown:OwnB w' T w.heap.size v' i') (hb:Below w.heap.size w w'):TwK T K w0 w' vo v' o i' :=
 ⟨h.oo.keepZ hb,hown.lowZ h.hk,fun q h1 h2=>by have:=(h.oo.lt h1).2;have:=(hown.lt h2).1;omega,h.be.trans (hb.mono h.hk),Nat.le_trans h.hk hb.size⟩
end
open Go.RowKit Rng Win Lz Box
def ClEnd (w:World) (K:Nat) (O:Nat→Prop) (eb lv:Nat) (s:EncS) (xs:List (List UInt8)) (v:Value) (sb:Nat) (own:Nat→Prop) (e:Ending) (w':World):Prop :=
 ∃ A c r xs' s',e=.returned (.slice A r.length c)∧OwnB w' 5 w.heap.size (.slice A r.length c) r∧outS lv xs++r=endS lv xs' s.txt∧Strs s.txt 0 s.txt.length xs'∧xs'.length≤xs.length+1 ∧
  XEncAt w' K O eb lv s' v sb own∧s'.closed=true∧Frm O w w'∧r.length≤40000∧(xs'≠[]→0<s.txt.length)
theorem xclose_nil (w:World):Calls Tryz.prog 15 #[.pointer none] w fun e w'=>e=.returned (.slice none 0 0)∧w=w':=by
 go_enter Tryz.func15,Tryz.ntmps15
 go_wp2
 go_ret
 exact ⟨rfl,rfl⟩
theorem xclose_closed (K:Nat) (O:Nat→Prop) (eb lv:Nat) (s:EncS) (v:Value) (sb:Nat) (own:Nat→Prop) (w:World) (h:XEncAt w K O eb lv s v sb own) (hcl:s.closed=true) :
 Calls Tryz.prog 15 #[.pointer (some ⟨eb,0,none⟩)] w fun e w'=>e=.returned (.slice none 0 0)∧w=w':=by
 obtain ⟨-,-,-,-,-,-,-,-,r8,-⟩:=h.cells
 rw [hcl] at r8
 clear h hcl
 go_enter Tryz.func15,Tryz.ntmps15
 go_wp2
 go_ret
 exact ⟨rfl,rfl⟩
def Cl1 (w:World) (K:Nat) (O:Nat→Prop) (eb lv:Nat) (txt:List UInt8) (xs:List (List UInt8)) (v:Value) (sb:Nat) (own:Nat→Prop) (tv:Value) (wx:World):Prop :=
 ∃ (s:EncS) (xs1:List (List UInt8)) (tb:List UInt8),OwnB wx 5 w.heap.size tv tb∧XEncAt wx K O eb lv s v sb own∧Frm O w wx∧s.txt=txt∧s.packed=xs1.flatten.length∧s.head=(if xs1=[] then 0 else 12) ∧
  Strs txt 0 txt.length xs1∧xs1.length≤xs.length+1∧outS lv xs++tb=headM 4++(if xs1=[] then [] else hdB false [] (codeOf lv)++xs1.flatten)∧tb.length≤20012∧(xs1≠[]→0<txt.length)
def recsC (txt:List UInt8) (xs1:List (List UInt8)):List (Nat×Nat):=if xs1=[] then [] else [(12+(xs1.flatten.length+1)+8,txt.length)]
def preC (lv:Nat) (txt:List UInt8) (xs1:List (List UInt8)):List UInt8 :=
 if xs1=[] then headM 4 else headM 4++(hdB false [] (codeOf lv)++((xs1.flatten++[0])++(zs (12+(xs1.flatten.length+1))++chkB 4 txt)))
theorem idxRaw_nil:idxRaw []=[0,0]:=by kernel_rfl
theorem put_one:put 1=[1]:=by kernel_rfl
theorem idxRaw_one (a b:Nat):idxRaw [(a,b)]=[0]++([1]++(put a++put b)):=by
 unfold idxRaw headB recsB
 rw [show [(a,b)].length=1 from rfl,put_one,List.flatMap_cons,List.flatMap_nil,List.append_nil]
 rfl
theorem own_one (T:TypeId) (W:World):OwnB (W.alloc (.cells #[.int .u8 1] T)) T W.heap.size (.slice (some ⟨W.heap.size,0,none⟩) 1 1) [1]:=OwnB.of_cells W T _ [1] (Nat.le_refl _) (by decide)
theorem xoutL_at (l:List ByteRow) (w:World) (b k:Nat) (cs:Array Value) (he:w.heap.size=b) (hk:k=l.length) (hcs:cs=(l.map ByteRow.v).toArray) (hn:l.length≤8) (hb:∀ r∈l,BRow w w.heap.size r.A r.bs∧r.bs.length≤1000000) :
 Calls Tryz.prog 26 #[.slice (some ⟨b,0,none⟩) k k] (w.alloc (.cells cs 27)) fun e w'=>∃ v,e=.returned v∧OwnB w' 5 w.heap.size v (l.map (·.bs)).flatten∧Below w.heap.size w w':=by
 subst he
 exact xoutL_p l w k cs hk hcs hn hb
theorem recsC_nil (txt:List UInt8):recsC txt []=[]:=if_pos rfl
theorem preC_nil (lv:Nat) (txt:List UInt8):preC lv txt []=headM 4:=if_pos rfl
theorem endS_parts (lv:Nat) (txt:List UInt8) (xs1:List (List UInt8)):endS lv xs1 txt=preC lv txt xs1++(idxB (recsC txt xs1)++footM ((idxB (recsC txt xs1)).length / 4-1) 4):=by
 unfold endS preC recsC
 by_cases h:xs1=[]
 ·rw [if_pos h,if_pos h,if_pos h]
  unfold madeX blocksB recsX
  rw [List.flatMap_nil,List.map_nil,List.nil_append]
 rw [if_neg h,if_neg h,if_neg h]
 unfold oneX
 have e:(xs1.flatten++[0]).length=xs1.flatten.length+1:=by rw [List.length_append];rfl
 rw [e]
 simp only [List.append_assoc]
theorem Frm.viaB {O:Nat→Prop} {K:Nat} {w w4 w':World} (h:Frm O w w4) (hb:Below K w4 w') (hK:w.heap.size≤K):Frm O w w' :=
 ⟨hb.os.trans h.os,hb.tape.trans h.tape,hb.output.trans h.output,Nat.le_trans h.size hb.size,fun k hk hn=>(hb.block k (by omega)).trans (h.block k hk hn)⟩
theorem recsC_len (txt:List UInt8) (xs1:List (List UInt8)):(recsC txt xs1).length≤1:=by
 unfold recsC
 split <;> simp
theorem row_end (w:World) (T:TypeId):BRow (w.alloc (.cells #[.int .u8 89,.int .u8 90] T (2,3))) (w.alloc (.cells #[.int .u8 89,.int .u8 90] T (2,3))).heap.size (some ⟨w.heap.size,0,none⟩) [89,90]:=fun _=>⟨w.heap.size,0,rfl,by simp,fun k hk=>by
 unfold World.cell?
 simp only
 rw [World.alloc_heap_new]
 have h6:k<2:=hk
 rcases (by omega:k=0∨k=1) with rfl | rfl <;> rfl⟩
def Cl2 (lv:Nat) (txt:List UInt8) (xs xs1:List (List UInt8)) (K:Nat) (w0:World) (tv iv:Value) (wx:World):Prop :=
 ∃ tb ib,TwK 5 K w0 wx tv iv tb ib∧outS lv xs++tb=preC lv txt xs1∧ib=idxRaw (recsC txt xs1)∧tb.length≤20040
theorem EncInv.tot {s:EncS} {xs:List (List UInt8)} (h:EncInv s xs) (hd:s.done=s.txt.length):Strs s.txt 0 s.txt.length xs:=by
 have q:=h.st
 rw [hd] at q
 exact q
theorem EncInv.hx {s:EncS} {xs:List (List UInt8)} (h:EncInv s xs):s.head=(if xs=[] then 0 else 12):=by
 rw [h.hd]
 cases hb:s.begun with
 | false =>
  have hx:xs=[]:=Classical.byContradiction fun hx=>by have:=h.bg.2 hx;rw [hb] at this;cases this
  rw [if_pos hx]
  rfl
 | true=>rw [if_neg (h.bg.1 hb)];rfl
set_option maxRecDepth 100000 in
set_option maxHeartbeats 8000000 in
theorem xclose_x (K:Nat) (O:Nat→Prop) (eb lv:Nat) (s:EncS) (xs:List (List UInt8)) (v:Value) (sb:Nat) (own:Nat→Prop) (w:World) (h:XEncAt w K O eb lv s v sb own) (hlv:lv≤3) (hi:EncInv s xs) (hx:xs.length≤99) (hcl:s.closed=false) :
 Calls Tryz.prog 15 #[.pointer (some ⟨eb,0,none⟩)] w (ClEnd w K O eb lv s xs v sb own):=by
 have hcv:=fun (w:World) (C:Array Value) (n c:Nat)=>Lib.run_convert_bytes_const (P:=Tryz.prog) w 27 5 C n c Tryz.underlying27 Tryz.underlying5
 obtain ⟨-,-,-,-,-,-,-,-,r8,-⟩:=h.cells
 rw [hcl] at r8
 have HF:=hid (flush_x K O eb lv s v sb own w h hlv hi.ok hcl)
 have HI:=hid (And.intro hi (And.intro hx (And.intro hlv hcl)))
 have HE0:=hid h
 clear h hcl hlv hi hx
 go_enter Tryz.func15,Tryz.ntmps15
 go_upto_region 3 with fail
 go_cut [3] from 16 (fun tv wx=>Cl1 w K O eb lv s.txt xs v sb own tv wx)
 case first =>
  go_wp2_with fail
  refine HF.out.mono ?_;rintro e w1 he
  obtain ⟨A1,c1,r1,xs1,s1,rfl,ho1,hout1,hE1,hI1,ht1,hd1,hc1,hx1,hf1,hl1⟩:=ch_step he HI.out.1 HI.out.2.1
  obtain ⟨L1,hL1⟩:∃ L,r1.length=L:=⟨_,rfl⟩
  rw [hL1] at ho1
  simp only [hL1]
  have H1:=hid (And.intro hout1 (And.intro hI1 (And.intro ht1 (And.intro hd1 (And.intro hx1 (And.intro hl1 hL1))))))
  have E1:=hid (And.intro hE1 (And.intro hf1 ho1))
  clear ho1 hout1 hE1 hI1 ht1 hd1 hc1 hx1 hf1 hl1 hL1 he HF r8
  obtain ⟨txt,done,packed,head,begun,closed⟩:=s1
  cases begun
  ·have hx0:xs1=[]:=Classical.byContradiction fun h=>by have:=H1.out.2.1.bg.2 h;cases this
   subst hx0
   go_wp2_with fail
   refine (xpbegin_p eb _ w1 E1.out.1.p rfl).mono ?_;rintro e w2 ⟨A2,c2,rfl,ho2,hp2,hf2⟩
   have D2:=hid (E1.out.1.turn (s':=⟨txt,done,packed,head,true,closed⟩) (by have q:=hp2;exact q) hf2 rfl)
   have hlt:=HE0.out.p.lt
   have hlw:=E1.out.2.1.size
   have hr1:BRow w2 w2.heap.size A1 r1:=(E1.out.2.2.frm hf2 (fun k hk e=>by have:=(E1.out.2.2.lt hk).1;omega)).rowZ
   have HOL:=hid (xoutL_p [⟨A1,r1,c1⟩,⟨A2,headM 4,c2⟩] w2 2 #[.slice A1 L1 c1,.slice A2 12 c2] rfl (by simp only [List.map_cons,List.map_nil,ByteRow.v,H1.out.2.2.2.2.2.2];rfl) (by simp) (by
    intro r hr
    simp only [List.mem_cons,List.not_mem_nil,or_false] at hr
    rcases hr with rfl | rfl
    ·exact ⟨hr1,by have:=H1.out.2.2.2.2.2.1;show r1.length≤1000000;omega⟩
    exact ⟨ho2.rowZ,(by decide:(12:Nat)≤1000000)⟩))
   have F2:=hid (E1.out.2.1.trans (hf2.mono fun q _ e=>(E1.out.1.o q).2 (.inl e)))
   clear hr1 ho2 hp2 hf2 hlt hlw
   go_wp2_with fail
   refine HOL.out.mono ?_;rintro e w3 ⟨v3,rfl,ho3,hb3⟩
   have e3:(List.map (fun x:ByteRow=>x.bs) [⟨A1,r1,c1⟩,⟨A2,headM 4,c2⟩]).flatten=r1++headM 4:=by simp
   rw [e3] at ho3
   have HF3:Hid (Cl1 w K O eb lv s.txt xs v sb own v3 w3):=hid ⟨⟨txt,done,packed,head,true,closed⟩,[],r1++headM 4,ho3.lowZ F2.out.size,D2.out.below hb3,F2.out.trans (Frm.of_below hb3),H1.out.2.2.1,H1.out.2.1.pk,H1.out.2.1.hx,by
    have q:=H1.out.2.1.tot (H1.out.2.2.2.1.trans (congrArg List.length H1.out.2.2.1).symm)
    have e:=H1.out.2.2.1
    simp only at e q
    rw [e] at q
    exact q,H1.out.2.2.2.2.1,by rw [← List.append_assoc,H1.out.1];simp [outS],by have:=H1.out.2.2.2.2.2.1;rw [List.length_append];have h12:(headM 4).length=12:=rfl;omega,fun h=>absurd rfl h⟩
   clear ho3 hb3 e3 HOL
   go_wp2
   go_meet
   case rel=>exact HF3.out
  go_wp2_with fail
  refine (xpbegin_done eb _ w1 E1.out.1.p rfl).mono ?_;rintro e w2 ⟨rfl,rfl⟩
  have hx0:xs1≠[]:=H1.out.2.1.bg.1 rfl
  have HOL:=hid (xoutL_p [⟨A1,r1,c1⟩,⟨none,[],0⟩] w1 2 #[.slice A1 L1 c1,.slice none 0 0] rfl (by simp only [List.map_cons,List.map_nil,ByteRow.v,H1.out.2.2.2.2.2.2];rfl) (by simp) (by
   intro r hr
   simp only [List.mem_cons,List.not_mem_nil,or_false] at hr
   rcases hr with rfl | rfl
   ·exact ⟨E1.out.2.2.rowZ,by have:=H1.out.2.2.2.2.2.1;show r1.length≤1000000;omega⟩
   exact ⟨BRow.nil _ _ _,by simp⟩))
  have HX0:=hid hx0
  clear hx0
  go_wp2_with fail
  refine HOL.out.mono ?_;rintro e w3 ⟨v3,rfl,ho3,hb3⟩
  have e3:(List.map (fun x:ByteRow=>x.bs) [⟨A1,r1,c1⟩,⟨none,[],0⟩]).flatten=r1:=by simp
  rw [e3] at ho3
  have HF3:Hid (Cl1 w K O eb lv s.txt xs v sb own v3 w3):=hid ⟨⟨txt,done,packed,head,true,closed⟩,xs1,r1,ho3.lowZ E1.out.2.1.size,E1.out.1.below hb3,E1.out.2.1.trans (Frm.of_below hb3),H1.out.2.2.1,H1.out.2.1.pk,H1.out.2.1.hx,by
   have q:=H1.out.2.1.tot (H1.out.2.2.2.1.trans (congrArg List.length H1.out.2.2.1).symm)
   have e:=H1.out.2.2.1
   simp only at e q
   rw [e] at q
   exact q,H1.out.2.2.2.2.1,by rw [H1.out.1,if_neg HX0.out];unfold outS;rw [if_neg HX0.out],by have:=H1.out.2.2.2.2.2.1;omega,fun h=>Nat.lt_of_lt_of_eq (H1.out.2.1.ne h) H1.out.2.2.2.1⟩
  clear ho3 hb3 e3 HOL
  go_wp2
  go_meet
  case rel=>exact HF3.out
 case rest =>
 obtain ⟨⟨txt,done,packed,head,begun,closed⟩,xs1,tb,ho3,hE3,hf3,ht3,hp3,hh3,hst3,hx3,hout3,hl3,hne3⟩:=hcut
 have HNE:=hid hne3
 clear hne3
 simp only at ht3 hp3 hh3
 subst ht3
 obtain ⟨n,hn⟩:∃ n,s.txt.length=n:=⟨_,rfl⟩
 obtain ⟨A3,c3,e3,-,-,-⟩:=ho3.slice
 obtain ⟨L3,hL3⟩:∃ L,tb.length=L:=⟨_,rfl⟩
 rw [hL3] at e3
 subst e3
 have P3:=hid hE3.p
 have q8:wc.cell? ⟨eb,8,none⟩=some (.bool closed):=by rw [hE3.p.cell];rfl
 have g8:=hE3.p.frozen 8
 have hp4:=hE3.p.set 8 (.bool true)
 have hf4:Frm (fun q=>q=eb) wc (wc.setCell ⟨eb,8,none⟩ (.bool true)):=Frm.setCell (S:=(· = eb)) (Frm.refl _ wc) (p:=⟨eb,8,none⟩) rfl _
 obtain ⟨w4,hw4⟩:∃ w4,wc.setCell ⟨eb,8,none⟩ (.bool true)=w4:=⟨_,rfl⟩
 rw [hw4] at hp4 hf4
 have hlt:=HE0.out.p.lt
 have hE4:XEncAt w4 K O eb lv ⟨s.txt,done,packed,head,begun,true⟩ v sb own:=hE3.turn (s':=⟨s.txt,done,packed,head,begun,true⟩) (by have q:=hp4;exact q) hf4 rfl
 have ho4:OwnB w4 5 w.heap.size (.slice A3 L3 c3) tb:=ho3.frm hf4 (fun k hk e=>by have:=(ho3.lt hk).1;omega)
 have hf4':Frm O w w4:=hf3.trans (hf4.mono fun q _ e=>(hE3.o q).2 (.inl e))
 have hE5:=hE4.below (below_alloc w4 (.cells #[.int .u8 0] 5))
 have hf5:=hf4'.trans (Frm.of_below (S:=O) (below_alloc w4 (.cells #[.int .u8 0] 5)))
 obtain ⟨w5,hw5⟩:∃ w5,w4.alloc (.cells #[.int .u8 0] 5)=w5:=⟨_,rfl⟩
 have HT:Hid (TwK 5 w.heap.size w4 (w4.alloc (.cells #[.int .u8 0] 5)) (.slice A3 L3 c3) (.slice (some ⟨w4.heap.size,0,none⟩) 1 1) tb [0]):=Lib.hid
  ⟨ho4.alloc _,(OwnB.of_cells w4 5 w4.heap.size [0] (Nat.le_refl _) (by decide)).lowZ hf4'.size,fun q h1 h2=>by have:=(ho4.lt h1).2;have e:=Option.some.inj h2;simp only at e;omega,(Below.refl _ w4).alloc hf4'.size _,by rw [World.size_alloc];exact Nat.le_succ_of_le hf4'.size⟩
 rw [hw5] at HT hE5 hf5
 have t6:w5.cell? ⟨eb,6,none⟩=some (.int .i64 (head:Int)):=by rw [hE5.p.cell];rfl
 have H4:=hid (And.intro hE4 (And.intro hf4' (And.intro hp3 (And.intro hh3 (And.intro hst3 (And.intro hx3 (And.intro hout3 (And.intro hl3 (And.intro hn hL3)))))))))
 have E5:=hid (And.intro hE5 hf5)
 clear ho3 hE3 hf3 hp3 hh3 hst3 hx3 hout3 hl3 hp4 hf4 hE4 ho4 hf4' hn hL3 HF r8 hlt P3 hE5 hf5
 go_upto_if 31 with fail
 go_cut [3,4,5,6] from 31 (fun tv iv sv xv wx=>Cl2 lv s.txt xs xs1 w.heap.size w4 tv iv wx)
 case first =>
  by_cases hx0:xs1=[]
  ·subst hx0
   have h0:head=0:=H4.out.2.2.2.1
   subst h0
   go_wp2_with (at_builtin;refine wpList_append_bytes _ rfl (.tmp 32) (.tmp 33) 27 rfl 5 w.heap.size Tryz.underlying27 Tryz.info_u8 (.slice (some ⟨w4.heap.size,0,none⟩) 1 1) [0] rfl ?own (some ⟨w5.heap.size,0,none⟩) 1 1 (w5.heap.size+1) [0] rfl rfl ?row ?len ?base ?next)
   case own=>exact HT.out.oi.alloc _
   case row=>exact row_cellsX w5 _ [0] _ rfl
   case base=>have:=HT.out.hk;simp;omega
   case next =>
   intro v6 w6 hown6 hfrm6 hnew6
   have HC2:Hid (Cl2 lv s.txt xs [] w.heap.size w4 (.slice A3 L3 c3) v6 w6):=hid ⟨tb,[0]++[0],(HT.out.keep (below_alloc w5 (.cells #[.int .u8 0] 5))).idx hown6 hfrm6 (by simpa using hnew6),by rw [H4.out.2.2.2.2.2.2.1,preC_nil];simp,by rw [recsC_nil,idxRaw_nil];rfl,by have:=H4.out.2.2.2.2.2.2.2.1;omega⟩
   clear hown6 hfrm6 hnew6
   go_wp2
   go_meet
   case rel=>exact HC2.out
  have h12:head=12:=by rw [H4.out.2.2.2.1,if_neg hx0]
  subst h12
  have HX0:=hid hx0
  obtain ⟨FL,hFL⟩:∃ FL,xs1.flatten.length=FL:=⟨_,rfl⟩
  have hpk:packed=FL:=H4.out.2.2.1.trans hFL
  subst hpk
  have hFb:packed≤17000:=by
   have q:=strs_len xs1 0 (Nat.zero_le _) H4.out.2.2.2.2.1
   have:=HI.out.1.t
   have:=H4.out.2.2.2.2.2.1
   have:=HI.out.2.1
   omega
  have HFL:=hid hFL
  obtain ⟨p1,hp1⟩:∃ p1,12+packed=p1:=⟨_,rfl⟩
  obtain ⟨sz,hsz⟩:∃ sz,p1+1=sz:=⟨_,rfl⟩
  have i1:(12:Int)+(packed:Int)=(p1:Int):=by omega
  have i2:(p1:Int)+1=(sz:Int):=by omega
  have i3:IntKind.i64.wrap (packed:Int)=(packed:Int):=Go.IntWalk.i64_in _ (by omega)
  have i4:IntKind.i64.wrap (p1:Int)=(p1:Int):=Go.IntWalk.i64_in _ (by omega)
  have i5:IntKind.i64.wrap (sz:Int)=(sz:Int):=Go.IntWalk.i64_in _ (by omega)
  have hpl:=padOf_lt sz
  have hna:=neg_and3 sz
  obtain ⟨P,hP⟩:∃ P,padOf sz=P:=⟨_,rfl⟩
  rw [hP] at hpl hna
  obtain ⟨P1,hP1⟩:∃ P1,1+P=P1:=⟨_,rfl⟩
  have i6:(1:Int)+(P:Int)=(P1:Int):=by omega
  have i7:IntKind.i64.wrap (-(sz:Int)) = -(sz:Int):=Go.IntWalk.i64_in _ (by omega)
  have i8:IntKind.i64.wrap (P:Int)=(P:Int):=Go.IntWalk.i64_in _ (by omega)
  have i9:IntKind.i64.wrap (P1:Int)=(P1:Int):=Go.IntWalk.i64_in _ (by omega)
  have HSZ:=hid (And.intro hp1 (And.intro hsz (And.intro hP (And.intro hP1 (And.intro hFb hpl)))))
  obtain ⟨-,-,-,-,-,t5,-,-,-,-⟩:=E5.out.1.cells
  simp only at t5
  clear hx0 hFL hFb hp1 hsz hP hP1 hpl
  go_upto_region 8 with fail
  go_still (by kernel_rfl)
  have HT6:=hid (HT.out.drewN 1)
  change Hid (TwK 5 w.heap.size w4 w5.drew _ _ _ _) at HT6
  obtain ⟨w6,hw6⟩:∃ w6,w5.drew=w6:=⟨_,rfl⟩
  rw [hw6] at HT6
  rw [show ({ heap:=w5.heap,tape:=w5.tape,drawn:=w5.drawn+1,os:=w5.os,output:=w5.output }:World)=w6 from hw6]
  clear hw6 t5 t6
  go_wp2_with (at_builtin;refine wpList_append_zeros _ rfl (.tmp 46) (.tmp 50) 27 3 rfl 5 w.heap.size Tryz.underlying27 Tryz.underlying3 Tryz.info_u8 (.slice A3 L3 c3) tb rfl ?own7 P1 rfl ?len7 ?base7 ?next7)
  case own7=>exact HT6.out.oo
  case len7=>have:=H4.out.2.2.2.2.2.2.2.1;have:=HSZ.out;omega
  case base7=>exact HT6.out.hk
  case next7 =>
  intro v7 w7 hown7 hfrm7 hnew7
  have HT7:=hid (HT6.out.out hown7 hfrm7 hnew7)
  have hE7:XEncAt w7 K O eb lv ⟨s.txt,done,packed,12,begun,true⟩ v sb own:=H4.out.1.frm (S:=fun q=>w.heap.size≤q) ⟨HT7.out.be.os,HT7.out.be.tape,HT7.out.be.output,HT7.out.be.size,fun k hk hn=>HT7.out.be.block k (by omega)⟩ (fun q hq hS=>by have:=HE0.out.lt q hq;omega)
  obtain ⟨A7,c7,e7,-,-,-⟩:=hown7.slice
  obtain ⟨L7,hL7⟩:∃ L,(tb++List.replicate P1 0).length=L:=⟨_,rfl⟩
  rw [hL7] at e7
  subst e7
  have t3:w7.cell? ⟨eb,3,none⟩=some (.pointer (some ⟨sb,0,none⟩)):=by rw [hE7.p.cell];rfl
  obtain ⟨X,hX,hXlt,hchk⟩:=chk_sum 4 s.txt
  have hV:=value_crc sb own 2 s.txt w7 hE7.m (by decide) (by have:=HI.out.1.t;omega)
  rw [show sumOf 2 s.txt=(X:Int) from hX] at hV
  have HV:=hid hV
  have HX:=hid (And.intro hXlt (And.intro hchk hL7))
  clear hown7 hfrm7 hnew7 hE7 hL7 hX hXlt hchk hV HT6
  go_wp2_with fail
  refine HV.out.mono ?_;rintro e w8 ⟨rfl,d,rfl⟩
  have HT8:=hid (HT7.out.drewN d)
  obtain ⟨w8,hw8⟩:∃ w8,w7.drewN d=w8:=⟨_,rfl⟩
  rw [hw8] at HT8
  rw [hw8]
  clear hw8 t3 HV HT7
  obtain ⟨tb7,htb7⟩:∃ t,tb++List.replicate P1 0=t:=⟨_,rfl⟩
  rw [htb7] at HT8 HX
  have HTB:=hid htb7
  clear htb7
  go_wp2
  go_loopw [3,6,57] (fun tv xv iv wr=>∃ j:Nat,iv=.int .i64 (j:Int)∧j≤8∧xv=.int .u64 ((X / 256 ^ j:Nat):Int)∧TwK 5 w.heap.size w4 wr tv (.slice (some ⟨w4.heap.size,0,none⟩) 1 1) (tb7++leB X j) [0]) (fun _ _ iv _=>8-(intOf iv).toNat)
  case atStart=>exact ⟨0,rfl,Nat.zero_le _,by simp,by simpa [leB] using HT8.out⟩
  case round =>
  obtain ⟨j,rfl,hj,hxv,htw⟩:=hrel
  obtain ⟨Y,hY⟩:∃ Y,X / 256 ^ j=Y:=⟨_,rfl⟩
  rw [hY] at hxv
  subst hxv
  have HW:=hid htw
  have HY:=hid hY
  have hYb:Y<18446744073709551616:=by rw [← hY];exact Nat.lt_of_le_of_lt (Nat.div_le_self _ _) HX.out.1
  clear htw hY
  by_cases h8:j<8
  ·obtain ⟨y,hy⟩:∃ y,UInt8.ofNat Y=y:=⟨_,rfl⟩
   have hw8:=u8_wrap_nat Y
   rw [hy] at hw8
   obtain ⟨yn,hyn⟩:∃ yn,y.toNat=yn:=⟨_,rfl⟩
   rw [hyn] at hw8
   have HYN:=hid (And.intro hy hyn)
   have hYd:((Y:Int) / 256)=((Y / 256:Nat):Int):=by omega
   have hYn:X / 256 ^ (j+1)=Y / 256:=by rw [← HY.out,Nat.div_div_eq_div_mul,Nat.pow_succ]
   have HYN2:=hid hYn
   obtain ⟨Y2,hY2⟩:∃ Y2,Y / 256=Y2:=⟨_,rfl⟩
   rw [hY2] at hYd HYN2
   have hj8:(j:Int)<8:=by omega
   clear hy hyn hYn hY2
   have HWA:=hid (HW.out.keep (below_alloc wr (.cells #[.int .u8 (yn:Int)] 5)))
   go_wp2_with (at_builtin;refine wpList_append_bytes _ rfl (.tmp 59) (.tmp 62) 27 rfl 5 w.heap.size Tryz.underlying27 Tryz.info_u8 _ (tb7++leB X j) rfl ?own8 (some ⟨wr.heap.size,0,none⟩) 1 1 (wr.heap.size+1) [y] rfl rfl ?row8 ?len8 ?base8 ?next8)
   case own8=>exact HWA.out.oo
   case row8=>rw [← HYN.out.2];exact row_cellsX wr _ [y] _ rfl
   case len8 =>
    have h1:=H4.out.2.2.2.2.2.2.2.1
    have h2:=HSZ.out
    have h3:=HTB.out
    rw [List.length_append,leB_len,← h3,List.length_append,List.length_replicate]
    simp only [List.length_cons,List.length_nil]
    omega
   case base8=>exact HWA.out.hk
   case next8 =>
   intro v9 w9 hown9 hfrm9 hnew9
   have HT9:=hid (HWA.out.out hown9 hfrm9 (by simpa using hnew9))
   clear hown9 hfrm9 hnew9
   go_wp2
   exact ⟨⟨j+1,by go_num,by omega,by rw [HYN2.out],by rw [leB_snoc,HY.out,HYN.out.1];first | exact HT9.out | (rw [← List.append_assoc];exact HT9.out)⟩,by simp [intOf];omega⟩
  obtain rfl:j=8:=by omega
  clear hj hYb
  obtain ⟨s8,hs8⟩:∃ s8,sz+8=s8:=⟨_,rfl⟩
  have k1:(sz:Int)+8=(s8:Int):=by omega
  have k2:IntKind.i64.wrap (s8:Int)=(s8:Int):=Go.IntWalk.i64_in _ (by have:=HSZ.out;omega)
  have k3:IntKind.u64.wrap (s8:Int)=(s8:Int):=Go.IntWalk.u64_in _ (by have:=HSZ.out;omega)
  have hs9:s8<9223372036854775808:=by have:=HSZ.out;omega
  obtain ⟨La,hLa⟩:∃ L,(put s8).length=L:=⟨_,rfl⟩
  obtain ⟨Lb,hLb⟩:∃ L,(put n).length=L:=⟨_,rfl⟩
  have hn9:n<9223372036854775808:=by have:=H4.out.2.2.2.2.2.2.2.2.1;have:=HI.out.1.t;omega
  have HCC:Hid (∀ W,Below w.heap.size w4 W→W.cell? ⟨eb,4,none⟩=some (.int .u64 (n:Int))):=hid (fun W hb=>by
   have q:=H4.out.1.frm (S:=fun q=>w.heap.size≤q) ⟨hb.os,hb.tape,hb.output,hb.size,fun k hk hn=>hb.block k (by omega)⟩ (fun q hq hS=>by have:=HE0.out.lt q hq;omega)
   rw [q.p.cell,← H4.out.2.2.2.2.2.2.2.2.1]
   rfl)
  have HS8:=hid (And.intro hs8 (And.intro hLa (And.intro hLb (And.intro hs9 hn9))))
  have hb1:Below wr.heap.size wr (wr.alloc (.cells #[.int .u8 1] 5)).drew:=((Below.refl _ wr).alloc (Nat.le_refl _) _).drew
  have hp1:OwnB (wr.alloc (.cells #[.int .u8 1] 5)).drew 5 wr.heap.size (.slice (some ⟨wr.heap.size,0,none⟩) 1 1) [1]:=OwnB.of_cells wr 5 _ [1] (Nat.le_refl _) (by decide)
  have HB1:=hid (And.intro hb1 hp1)
  have HBE:Hid (∀ W,Below wr.heap.size wr W→Below w.heap.size w4 W):=hid (fun W hb=>HW.out.be.trans (hb.mono HW.out.hk))
  have HFIN:Hid (∀ (W:World) (vo:Value) (b:Nat),wr.heap.size≤b→OwnB W 5 b vo ([0]++([1]++(put s8++put n)))→Below wr.heap.size wr W→Cl2 lv s.txt xs xs1 w.heap.size w4 u3 vo W):=hid (fun W vo b hb ho hbw=>by
   refine ⟨_,_,HW.out.fresh (ho.lowZ hb) hbw,?_,?_,?_⟩
   ·have h1:=H4.out.2.2.2.2.2.2.1
    rw [if_neg HX0.out] at h1
    have h3:=HX.out.2.1
    unfold preC
    rw [if_neg HX0.out,← HTB.out,← List.append_assoc,← List.append_assoc,h1,h3,HFL.out]
    have e1:12+(packed+1)=sz:=by have:=HSZ.out;omega
    rw [e1]
    have e2:List.replicate P1 (0:UInt8)=[0]++zs sz:=by
     unfold zs
     rw [HSZ.out.2.2.1,← HSZ.out.2.2.2.1]
     rw [Nat.add_comm];rfl
    rw [e2]
    have e3:chkLen 4=8:=rfl
    rw [e3]
    simp only [List.append_assoc]
   ·unfold recsC
    rw [if_neg HX0.out,HFL.out]
    have e1:12+(packed+1)+8=s8:=by have:=HSZ.out;have:=HS8.out.1;omega
    rw [e1,H4.out.2.2.2.2.2.2.2.2.1]
    exact (idxRaw_one s8 n).symm
   have h1:=H4.out.2.2.2.2.2.2.2.1
   have h2:=HSZ.out
   rw [← HTB.out,List.length_append,List.length_append,List.length_replicate,leB_len]
   omega)
  have z0:=HCC.out wr HW.out.be
  have z1:=HCC.out _ (HW.out.be.alloc HW.out.hk (.cells #[.int .u8 1] 5))
  have z2:=HCC.out _ (HBE.out _ HB1.out.1)
  have z3:=HCC.out _ HW.out.be.drew
  clear hs8 hLa hLb hs9 hn9 hb1 hp1
  go_upto_region 16 with fail
  go_region_held3 (fun w'=>w'.cell? ⟨eb,4,none⟩=some (.int .u64 (n:Int))) (first | assumption | exact HCC.out _ (HBE.out _ (by assumption)))
   (first
   | (go_at_call 29;have hh:=xnum_p s8 ((wr.alloc (.cells #[.int .u8 1] 5)).drew) HS8.out.2.2.2.1;rw [HS8.out.2.1] at hh;with_reducible refine Calls.mono hh ?_;rintro e wa_ ⟨Aa_,ca_,rfl,hoa_,hba_⟩;have hba2_:=HB1.out.1.trans (hba_.mono HB1.out.1.size);have za_:=HCC.out wa_ (HBE.out _ hba2_);clear hh)
   | (go_at_call 29;have hh:=xnum_p n wa_ HS8.out.2.2.2.2;rw [HS8.out.2.2.1] at hh;with_reducible refine Calls.mono hh ?_;rintro e wb_ ⟨Ab_,cb_,rfl,hob_,hbb_⟩;have hbb2_:=hba2_.trans (hbb_.mono hba2_.size);have zb_:=HCC.out wb_ (HBE.out _ hbb2_);have zc_:=HCC.out _ (HBE.out _ (hbb2_.alloc hbb2_.size (.cells #[.slice (some ⟨w4.heap.size,0,none⟩) 1 1,.slice (some ⟨wr.heap.size,0,none⟩) 1 1,.slice Aa_ La ca_,.slice Ab_ Lb cb_] 27)));clear hh)
   | (go_at_call 26;have hh:=xoutL_p [⟨some ⟨w4.heap.size,0,none⟩,[0],1⟩,⟨some ⟨wr.heap.size,0,none⟩,[1],1⟩,⟨Aa_,put s8,ca_⟩,⟨Ab_,put n,cb_⟩] wb_ 4 #[.slice (some ⟨w4.heap.size,0,none⟩) 1 1,.slice (some ⟨wr.heap.size,0,none⟩) 1 1,.slice Aa_ La ca_,.slice Ab_ Lb cb_] rfl (by simp only [List.map_cons,List.map_nil,ByteRow.v,HS8.out.2.1,HS8.out.2.2.1];rfl) (by simp) (by {
       intro r hr
       simp only [List.mem_cons,List.not_mem_nil,or_false] at hr
       rcases hr with rfl | rfl | rfl | rfl
       ·exact ⟨((HW.out.keep hbb2_).oi).rowZ,(by decide:(1:Nat)≤1000000)⟩
       ·exact ⟨((HB1.out.2.keepZ hba_).keepZ hbb_).rowZ,(by decide:(1:Nat)≤1000000)⟩
       ·exact ⟨(hoa_.keepZ hbb_).rowZ,by have:=(put_len s8).2;show (put s8).length≤1000000;omega⟩
       ·exact ⟨hob_.rowZ,by have:=(put_len n).2;show (put n).length≤1000000;omega⟩ });with_reducible refine Calls.mono hh ?_;rintro e wo_ ⟨vo_,rfl,ho_,hbo_⟩;have hbw_:=hbb2_.trans (hbo_.mono hbb2_.size);have zo_:=HCC.out wo_ (HBE.out _ hbw_);have HEND:=hid (HFIN.out wo_ vo_ _ hbb2_.size (by simpa using ho_) hbw_);clear hh ho_ hbo_)
   | (go_at_call 29;have hh:=xnum_p s8 wr.drew HS8.out.2.2.2.1;rw [HS8.out.2.1] at hh;with_reducible refine Calls.mono hh ?_;rintro e wx_ ⟨Ax_,cx_,rfl,hox_,hbx_⟩;have hbx2_:Below wr.heap.size wr wx_:=(Below.refl _ wr).drew.trans (hbx_.mono (show wr.heap.size≤wr.drew.heap.size from Nat.le_refl _));have zx_:=HCC.out wx_ (HBE.out _ hbx2_);have zx2_:=HCC.out _ (HBE.out _ (hbx2_.alloc hbx2_.size (.cells #[.int .u8 1] 5)));clear hh)
   | (go_at_call 29;have hh:=xnum_p n (wx_.alloc (.cells #[.int .u8 1] 5)) HS8.out.2.2.2.2;rw [HS8.out.2.2.1] at hh;with_reducible refine Calls.mono hh ?_;rintro e wy_ ⟨Ay_,cy_,rfl,hoy_,hby_⟩;have hbq_:=below_alloc wx_ (.cells #[.int .u8 1] 5);have hoq_:OwnB (wx_.alloc (.cells #[.int .u8 1] 5)) 5 wx_.heap.size (.slice (some ⟨wx_.heap.size,0,none⟩) 1 1) [1]:=own_one 5 wx_;have hby2_:Below wr.heap.size wr wy_:=(hbx2_.trans (hbq_.mono hbx2_.size)).trans (hby_.mono (Nat.le_trans hbx2_.size hbq_.size));have zy_:=HCC.out wy_ (HBE.out _ hby2_);have zy2_:=HCC.out _ (HBE.out _ (hby2_.alloc hby2_.size (.cells #[.slice (some ⟨w4.heap.size,0,none⟩) 1 1,.slice (some ⟨wx_.heap.size,0,none⟩) 1 1,.slice Ax_ La cx_,.slice Ay_ Lb cy_] 27)));clear hh)
   | (go_at_call 26;have hh:=xoutL_p [⟨some ⟨w4.heap.size,0,none⟩,[0],1⟩,⟨some ⟨wx_.heap.size,0,none⟩,[1],1⟩,⟨Ax_,put s8,cx_⟩,⟨Ay_,put n,cy_⟩] wy_ 4 #[.slice (some ⟨w4.heap.size,0,none⟩) 1 1,.slice (some ⟨wx_.heap.size,0,none⟩) 1 1,.slice Ax_ La cx_,.slice Ay_ Lb cy_] rfl (by simp only [List.map_cons,List.map_nil,ByteRow.v,HS8.out.2.1,HS8.out.2.2.1];rfl) (by simp) (by {
       intro r hr
       simp only [List.mem_cons,List.not_mem_nil,or_false] at hr
       rcases hr with rfl | rfl | rfl | rfl
       ·exact ⟨((HW.out.keep hby2_).oi).rowZ,(by decide:(1:Nat)≤1000000)⟩
       ·exact ⟨(hoq_.keepZ hby_).rowZ,(by decide:(1:Nat)≤1000000)⟩
       ·exact ⟨((hox_.keepZ hbq_).keepZ hby_).rowZ,by have:=(put_len s8).2;show (put s8).length≤1000000;omega⟩
       ·exact ⟨hoy_.rowZ,by have:=(put_len n).2;show (put n).length≤1000000;omega⟩ });with_reducible refine Calls.mono hh ?_;rintro e wo_ ⟨vo_,rfl,ho_,hbo_⟩;have hbw_:=hby2_.trans (hbo_.mono hby2_.size);have zo_:=HCC.out wo_ (HBE.out _ hbw_);have HEND:=hid (HFIN.out wo_ vo_ _ hby2_.size (by simpa using ho_) hbw_);clear hh ho_ hbo_)
   | (go_at_call 29;have hh:=xnum_p n wx_ HS8.out.2.2.2.2;rw [HS8.out.2.2.1] at hh;with_reducible refine Calls.mono hh ?_;rintro e wz_ ⟨Az_,cz_,rfl,hoz_,hbz_⟩;have hbq_:=below_alloc wz_ (.cells #[.int .u8 1] 5);have hoq_:OwnB (wz_.alloc (.cells #[.int .u8 1] 5)) 5 wz_.heap.size (.slice (some ⟨wz_.heap.size,0,none⟩) 1 1) [1]:=own_one 5 wz_;have hbz2_:Below wr.heap.size wr wz_:=hbx2_.trans (hbz_.mono hbx2_.size);have hbz3_:Below wr.heap.size wr (wz_.alloc (.cells #[.int .u8 1] 5)):=hbz2_.alloc hbz2_.size _;have zz_:=HCC.out wz_ (HBE.out _ hbz2_);have zz2_:=HCC.out _ (HBE.out _ hbz3_);have zz3_:=HCC.out _ (HBE.out _ (hbz3_.alloc hbz3_.size (.cells #[.slice (some ⟨w4.heap.size,0,none⟩) 1 1,.slice (some ⟨wz_.heap.size,0,none⟩) 1 1,.slice Ax_ La cx_,.slice Az_ Lb cz_] 27)));clear hh)
   | (go_at_call 26;have hh:=xoutL_at [⟨some ⟨w4.heap.size,0,none⟩,[0],1⟩,⟨some ⟨wz_.heap.size,0,none⟩,[1],1⟩,⟨Ax_,put s8,cx_⟩,⟨Az_,put n,cz_⟩] (wz_.alloc (.cells #[.int .u8 1] 5)) (wz_.heap.size+1) 4 #[.slice (some ⟨w4.heap.size,0,none⟩) 1 1,.slice (some ⟨wz_.heap.size,0,none⟩) 1 1,.slice Ax_ La cx_,.slice Az_ Lb cz_] (World.size_alloc _ _) rfl (by simp only [List.map_cons,List.map_nil,ByteRow.v,HS8.out.2.1,HS8.out.2.2.1];rfl) (by simp) (by {
       intro r hr
       simp only [List.mem_cons,List.not_mem_nil,or_false] at hr
       rcases hr with rfl | rfl | rfl | rfl
       ·exact ⟨((HW.out.keep hbz3_).oi).rowZ,(by decide:(1:Nat)≤1000000)⟩
       ·exact ⟨hoq_.rowZ,(by decide:(1:Nat)≤1000000)⟩
       ·exact ⟨((hox_.keepZ hbz_).keepZ hbq_).rowZ,by have:=(put_len s8).2;show (put s8).length≤1000000;omega⟩
       ·exact ⟨(hoz_.keepZ hbq_).rowZ,by have:=(put_len n).2;show (put n).length≤1000000;omega⟩ });with_reducible refine Calls.mono hh ?_;rintro e wo_ ⟨vo_,rfl,ho_,hbo_⟩;have hbw_:=hbz3_.trans (hbo_.mono hbz3_.size);have zo_:=HCC.out wo_ (HBE.out _ hbw_);have HEND:=hid (HFIN.out wo_ vo_ _ hbz3_.size (by simpa using ho_) hbw_);clear hh ho_ hbo_)
   | fail)
  all_goals
   go_wp2
   go_meet
   case rel=>exact HEND.out
 case rest =>
 obtain ⟨tb2,ib,htw,hto,hib,hl2⟩:=hcut
 have hRl:=recsC_len s.txt xs1
 have hEP:=endS_parts lv s.txt xs1
 obtain ⟨R,hR⟩:∃ R,recsC s.txt xs1=R:=⟨_,rfl⟩
 rw [hR] at hib hRl hEP
 subst hib
 have hil:=idxRaw_len R
 have HH:=hid (And.intro hto (And.intro hl2 (And.intro hEP (And.intro hRl hil))))
 have HT2:=hid htw
 obtain ⟨At,ct,et,-,-,-⟩:=htw.oo.slice
 obtain ⟨Lt,hLt⟩:∃ L,tb2.length=L:=⟨_,rfl⟩
 rw [hLt] at et
 subst et
 have HLT:=hid hLt
 clear htw hto hl2 hEP hRl hil hR HT E5 t6 hLt
 go_wp2_with fail
 refine (xppadded_p _ (idxRaw R) w.heap.size _ HT2.out.oi (by have:=HH.out;omega) HT2.out.hk).mono ?_;rintro e w1 ⟨v1,rfl,ho1,hf1,hn1⟩
 have T1:=HT2.out.idx ho1 hf1 hn1
 change TwK _ _ _ _ _ _ _ (idxPad R) at T1
 change OwnB _ _ _ _ (idxPad R) at ho1
 have hpl:(idxPad R).length=(idxRaw R).length+padOf (idxRaw R).length:=by unfold idxPad;rw [List.length_append,zs_len]
 have hpm:=padOf_mod (idxRaw R).length
 have hpp:=padOf_lt (idxRaw R).length
 obtain ⟨ZX,hZX⟩:∃ ZX,idxPad R=ZX:=⟨_,rfl⟩
 have hIB:ZX++sealB ZX=idxB R:=by unfold idxB sealOn;rw [hZX]
 rw [hZX] at T1 ho1 hpl
 obtain ⟨M,hM⟩:∃ M,ZX.length=M:=⟨_,rfl⟩
 obtain ⟨A1,c1,e1,-,-,-⟩:=ho1.slice
 rw [hM] at e1
 subst e1
 have hM4:M % 4=0∧4≤M∧M≤32:=by have:=HH.out;omega
 have HM:=hid (And.intro hM (And.intro hIB hM4))
 have HT3:=hid T1
 clear ho1 hf1 hn1 T1 hpl hpm hpp hM hIB hM4 hZX HT2
 go_wp2_with fail
 refine (seal_p A1 ZX M c1 w1 HM.out.1.symm HT3.out.oi.rowZ (by have:=HM.out;omega)).mono ?_;rintro e w2 ⟨v2,rfl,ho2,hb2⟩
 have HT4:=hid (HT3.out.keep hb2)
 obtain ⟨A2,c2,e2,-,-,-⟩:=ho2.slice
 rw [sealB_len] at e2
 subst e2
 have HOL:=hid (xoutL_p [⟨A1,ZX,c1⟩,⟨A2,sealB ZX,c2⟩] w2 2 #[.slice A1 M c1,.slice A2 4 c2] rfl (by simp only [List.map_cons,List.map_nil,ByteRow.v,HM.out.1];rfl) (by simp) (by
  intro r hr
  simp only [List.mem_cons,List.not_mem_nil,or_false] at hr
  rcases hr with rfl | rfl
  ·exact ⟨HT4.out.oi.rowZ,by have:=HM.out;show ZX.length≤1000000;omega⟩
  exact ⟨ho2.rowZ,(by decide:(4:Nat)≤1000000)⟩))
 clear ho2 hb2 HT3
 go_wp2_with fail
 refine HOL.out.mono ?_;rintro e w3 ⟨v3,rfl,ho3,hb3⟩
 have e3:(List.map (fun x:ByteRow=>x.bs) [⟨A1,ZX,c1⟩,⟨A2,sealB ZX,c2⟩]).flatten=idxB R:=by rw [← HM.out.2.1];simp
 rw [e3] at ho3
 have HT5:=hid (HT4.out.fresh ho3 hb3)
 obtain ⟨q,hq⟩:∃ q,M / 4=q:=⟨_,rfl⟩
 obtain ⟨IL,hIL⟩:∃ IL,M+4=IL:=⟨_,rfl⟩
 have hIBl:(idxB R).length=IL:=by rw [← HM.out.2.1,List.length_append,sealB_len,HM.out.1,hIL]
 obtain ⟨IB,hIB⟩:∃ IB,idxB R=IB:=⟨_,rfl⟩
 rw [hIB] at HT5 ho3 hIBl
 have hqb:q≤8:=by have:=HM.out.2.2;omega
 have k1:(IL:Int) / 4=(q:Int)+1:=by have:=HM.out.2.2;omega
 have k2:IntKind.i64.wrap ((q:Int)+1)=(q:Int)+1:=Go.IntWalk.i64_in _ (by omega)
 have k3:IntKind.i64.wrap (q:Int)=(q:Int):=Go.IntWalk.i64_in _ (by omega)
 have k4:IntKind.u32.wrap (q:Int)=(q:Int):=Go.IntWalk.u32_in _ (by omega)
 have k5:IntKind.u8.wrap (q:Int)=(q:Int):=Go.IntWalk.u8_in _ (by omega)
 have k6:(q:Int) / 256=0:=by omega
 have k7:(q:Int) / 65536=0:=by omega
 have k8:(q:Int) / 16777216=0:=by omega
 obtain ⟨A5,c5,e5,-,-,-⟩:=ho3.slice
 rw [hIBl] at e5
 subst e5
 obtain ⟨QB,hQB⟩:∃ QB:UInt8,UInt8.ofNat q=QB:=⟨_,rfl⟩
 have hQt:QB.toNat=q:=by rw [← hQB];simp;omega
 obtain ⟨ft,hft⟩:∃ ft:List UInt8,[QB,0,0,0,0,4]=ft:=⟨_,rfl⟩
 have hfoot:footM (IB.length / 4-1) 4=sealB ft++ft++[89,90]:=by
  have q0:IB.length / 4-1=q:=by have:=HM.out.2.2;omega
  have q1:q / 256=0:=by omega
  have q2:q / 65536=0:=by omega
  have q3:q / 16777216=0:=by omega
  rw [q0]
  unfold footM four
  rw [q1,q2,q3,hQB,← hft]
  rfl
 have hfl:ft.length=6:=by rw [← hft];rfl
 have hfq:ft=[QB,0,0,0,0,4]:=hft.symm
 obtain ⟨W6,hW6⟩:∃ W,w3.alloc (.cells #[.int .u8 (q:Int),.int .u8 0,.int .u8 0,.int .u8 0] 5)=W:=⟨_,rfl⟩
 have hb6:Below w3.heap.size w3 W6:=by rw [← hW6];exact (Below.refl _ _).alloc (Nat.le_refl _) _
 have hown6:OwnB W6 5 w3.heap.size (.slice (some ⟨w3.heap.size,0,none⟩) 4 4) [QB,0,0,0]:=by
  have q0:=OwnB.of_cells w3 5 w3.heap.size [QB,0,0,0] (Nat.le_refl _) (by unfold maxLen;simp)
  have e:([QB,0,0,0].map byteV).toArray=#[.int .u8 (q:Int),.int .u8 0,.int .u8 0,.int .u8 0]:=by simp [byteV,hQt]
  rw [e,hW6] at q0
  exact q0
 have HF6:=hid (And.intro hown6 hb6)
 have HF:=hid (And.intro hIBl (And.intro (show IL≤40 by have:=HM.out.2.2;omega) (And.intro hfoot (And.intro hIB (And.intro hfl hfq)))))
 clear ho3 hb3 e3 HOL hfoot hQt hQB hIBl hIB hq hIL hft hfl hfq hb6 hown6 HT4 hqb
 go_upto_region 21 with fail
 clear hW6
 go_wp2_with (first | (go_at_call 32;go_in) | (at_builtin;refine wpList_append_bytes _ rfl (.tmp 104) (.tmp 105) 27 rfl 5 w3.heap.size Tryz.underlying27 Tryz.info_u8 (.slice (some ⟨w3.heap.size,0,none⟩) 4 4) [QB,0,0,0] rfl ?ownF (some ⟨W6.heap.size,0,none⟩) 2 2 (W6.heap.size+1) [0,4] rfl rfl ?rowF ?lenF ?baseF ?nextF) | fail)
 case ownF=>exact HF6.out.1.alloc _
 case rowF=>exact row_cellsX W6 _ [0,4] _ rfl
 case lenF=>simp
 case baseF=>have:=HF6.out.2.size;simp;omega
 case nextF =>
 intro v7 w7 hown7 hfrm7 hnew7
 have hb7:Below w3.heap.size w3 w7:=(HF6.out.2.alloc HF6.out.2.size _).trans (hfrm7.below (by have:=HF6.out.2.size;simp;omega) (fun q hq=>(HF6.out.1.lt hq).1))
 rw [← HF.out.2.2.2.2.2] at hown7
 have T7:=hid (HT5.out.keep hb7)
 obtain ⟨A7,c7,e7,-,-,-⟩:=hown7.slice
 rw [HF.out.2.2.2.2.1] at e7
 subst e7
 have F7:=hid hown7
 clear hown7 hfrm7 hnew7 hb7 HT5 HF6
 go_wp2_with fail
 refine (seal_p A7 ft 6 c7 w7 HF.out.2.2.2.2.1.symm F7.out.rowZ (by rw [HF.out.2.2.2.2.1];omega)).mono ?_;rintro e w8 ⟨v8,rfl,ho8,hb8⟩
 obtain ⟨A8,c8,e8,-,-,-⟩:=ho8.slice
 rw [sealB_len] at e8
 subst e8
 obtain ⟨W9,hW9⟩:∃ W,w8.alloc (.cells #[.int .u8 89,.int .u8 90] 5 (2,3))=W:=⟨_,rfl⟩
 have hb9:Below w8.heap.size w8 W9:=by rw [← hW9];exact below_alloc _ _
 have hr9:BRow W9 W9.heap.size (some ⟨w8.heap.size,0,none⟩) [89,90]:=by rw [← hW9];exact row_end w8 5
 have T9:=hid ((T7.out.keep hb8).keep hb9)
 have F9:=hid ((F7.out.keepZ hb8).keepZ hb9)
 have HOL:=hid (xoutL_p [⟨At,tb2,ct⟩,⟨A5,IB,c5⟩,⟨A8,sealB ft,c8⟩,⟨A7,ft,c7⟩,⟨some ⟨w8.heap.size,0,none⟩,[89,90],2⟩] W9 5 #[.slice At Lt ct,.slice A5 IL c5,.slice A8 4 c8,.slice A7 6 c7,.slice (some ⟨w8.heap.size,0,none⟩) 2 2] rfl (by simp only [List.map_cons,List.map_nil,ByteRow.v,HLT.out,HF.out.1,HF.out.2.2.2.2.1,sealB_len];rfl) (by simp) (by
  intro r hr
  simp only [List.mem_cons,List.not_mem_nil,or_false] at hr
  rcases hr with rfl | rfl | rfl | rfl | rfl
  ·exact ⟨T9.out.oo.rowZ,by have:=HH.out.2.1;show tb2.length≤1000000;omega⟩
  ·exact ⟨T9.out.oi.rowZ,by have:=HF.out;show IB.length≤1000000;omega⟩
  ·exact ⟨(ho8.keepZ hb9).rowZ,(by decide:(4:Nat)≤1000000)⟩
  ·exact ⟨F9.out.rowZ,by have:=HF.out;show ft.length≤1000000;omega⟩
  exact ⟨hr9,(by decide:(2:Nat)≤1000000)⟩))
 clear ho8 hb8 hb9 hr9 T7 F7
 go_wp2_with fail
 refine HOL.out.mono ?_;rintro e w10 ⟨v10,rfl,ho10,hb10⟩
 have e10:(List.map (fun x:ByteRow=>x.bs) [⟨At,tb2,ct⟩,⟨A5,IB,c5⟩,⟨A8,sealB ft,c8⟩,⟨A7,ft,c7⟩,⟨some ⟨w8.heap.size,0,none⟩,[89,90],2⟩]).flatten=tb2++(IB++footM (IB.length / 4-1) 4):=by
  rw [HF.out.2.2.1]
  simp
 rw [e10] at ho10
 have hbe:=T9.out.be.trans (hb10.mono T9.out.hk)
 have hE10:XEncAt w10 K O eb lv ⟨s.txt,done,packed,head,begun,true⟩ v sb own:=H4.out.1.frm (S:=fun q=>w.heap.size≤q) ⟨hbe.os,hbe.tape,hbe.output,hbe.size,fun k hk hn=>hbe.block k (by omega)⟩ (fun q hq hS=>by have:=HE0.out.lt q hq;omega)
 have ho10':=ho10.lowZ T9.out.hk
 obtain ⟨A10,c10,e11,-,-,-⟩:=ho10'.slice
 obtain ⟨L10,hL10⟩:∃ L,(tb2++(IB++footM (IB.length / 4-1) 4)).length=L:=⟨_,rfl⟩
 rw [hL10] at e11
 subst e11
 have hfin:ClEnd w K O eb lv s xs v sb own (.returned (.slice A10 L10 c10)) w10:=by
  refine ⟨A10,c10,_,xs1,_,by rw [hL10],by rw [hL10];exact ho10',?_,H4.out.2.2.2.2.1,H4.out.2.2.2.2.2.1,hE10,rfl,H4.out.2.1.viaB hbe (Nat.le_refl _),?_,HNE.out⟩
  ·rw [HH.out.2.2.1,HF.out.2.2.2.1,← List.append_assoc,HH.out.1]
  have h1:=HH.out.2.1
  have h2:=HF.out
  rw [List.length_append,List.length_append,show (footM (IB.length / 4-1) 4).length=12 from rfl]
  omega
 have HFIN:=hid hfin
 clear ho10 hb10 e10 HOL hbe hE10 ho10' hfin hL10
 go_wp2
 go_ret
 exact HFIN.out
open Go.RowKit Rng Win Lz Box
theorem outS_readB {lv budget:Nat} (h:lv≤3) (hb:2 ^ (16+2*lv)≤budget) {txt:List UInt8} {xs:List (List UInt8)} {done:Nat} (hs:Strs txt 0 done xs) (ht:txt.length≤16384):xP budget (outS lv xs)=(txt.take done,.inl 10):=by
 obtain ⟨c1,c2,c3⟩:=codeOf_win h
 obtain ⟨g1,g2⟩:=win_ge h
 unfold outS
 by_cases hx:xs=[]
 ·subst hx
  have h0:0=done:=hs
  subst h0
  rw [if_pos rfl]
  rfl
 rw [if_neg hx]
 have hle:=strs_le xs 0 (Nat.zero_le _) hs
 have hp:=strs_take xs 0 (Nat.zero_le _) hs
 have hl:(txt.take done).length=done:=by rw [List.length_take];omega
 have hpc:=strs_pieces xs 0 (by rw [hl];exact hp)
 refine openX_read c2 (by rw [c3];exact Int.ofNat_le.2 hb) (pieces_open _ _ ?_ (by omega) (by omega) xs hpc)
 rw [c3]
 omega
theorem endS_readB {lv budget:Nat} (h:lv≤3) (hb:2 ^ (16+2*lv)≤budget) {txt:List UInt8} {xs:List (List UInt8)} (hs:Strs txt 0 txt.length xs) (ht:txt.length≤16384) (hn:xs.length≤100):xP budget (endS lv xs txt)=(txt,.inr []):=by
 obtain ⟨c1,c2,c3⟩:=codeOf_win h
 obtain ⟨g1,g2⟩:=win_ge h
 unfold endS
 by_cases hx:xs=[]
 ·subst hx
  have h0:0=txt.length:=hs
  have ht0:txt=[]:=List.eq_nil_of_length_eq_zero h0.symm
  subst ht0
  rw [if_pos rfl]
  have q:=madeX_read (kc:=4) (.inr (.inr rfl)) false c2 (budget:=budget) (l:=[]) (.inl rfl) (by simp) (by simp) (by simp) []
  rw [List.append_nil] at q
  unfold xP
  rw [q]
  rfl
 rw [if_neg hx]
 have hpc:=strs_pieces xs 0 hs
 have hl:=strs_len xs 0 (Nat.zero_le _) hs
 have hd0:d2P (max (winOf (codeOf lv).toNat).toNat 4096) 16777216 (xs.flatten++[0])=(txt,.inr []):=pieces_read _ _ (by rw [c3];omega) (by omega) (by omega) xs hpc
 have hd:∀ r,d2P (max (winOf (codeOf lv).toNat).toNat 4096) 16777216 ((xs.flatten++[0])++r)=(txt,.inr r):=fun r=>by
  rw [d2P_more _ _ _ r (fun T e=>by rw [hd0] at e;cases e),hd0]
  rfl
 exact oneX_read c2 (by rw [c3];exact Int.ofNat_le.2 hb) hd (by rw [List.length_append];have:([0]:List UInt8).length=1:=rfl;omega) (by omega)
theorem blockOf_more2 {c:UInt8} {r q:List UInt8} (h:(c.toNat+1)*4≤(c::r).length):blockOf (c::r++q)=blockOf (c::r):=by
 have e:(c::r++q)=c::(r++q):=rfl
 rw [e]
 unfold blockOf
 simp only
 have t:(c::(r++q)).take ((c.toNat+1)*4)=(c::r).take ((c.toNat+1)*4):=by rw [← List.cons_append,List.take_append_of_le_length h]
 rw [if_neg (by rw [← List.cons_append,List.length_append];omega),t]
 conv=>rhs;rw [if_neg (by omega)]
theorem headM_front4 (r:List UInt8):headOf (headM 4++r)=(4,0):=by
 have hs:=sealed_seal [0,4]
 have hl:(headM 4++r).length=12+r.length:=by rw [List.length_append];rfl
 unfold headOf
 rw [if_neg (by omega)]
 have e1:(headM 4++r).take 6=magic:=rfl
 have e2:((headM 4++r).take 12).drop 6=sealOn [0,4]:=rfl
 have e3:(headM 4++r).getD 6 0=0:=rfl
 have e4:(headM 4++r).getD 7 0=4:=rfl
 rw [e1,e2,e3,e4,if_neg (by rw [hs];simp),if_neg (by unfold flagsOk;simp)]
 rfl
theorem endS_win {lv:Nat} (h:lv≤3) (xs:List (List UInt8)) (txt:List UInt8):winX (endS lv xs txt)=(if xs=[] then 0 else ((2 ^ (16+2*lv):Nat):Int),0):=by
 obtain ⟨c1,c2,c3⟩:=codeOf_win h
 unfold endS
 by_cases hx:xs=[]
 ·rw [if_pos hx,if_pos hx]
  unfold madeX
  obtain ⟨F,hF⟩:∃ F,footM ((idxB (recsX (((4:UInt8).toNat:Nat):Int) false (codeOf lv) [])).length / 4-1) 4=F:=⟨_,rfl⟩
  rw [hF]
  have hil:=idxB_len (recsX (((4:UInt8).toNat:Nat):Int) false (codeOf lv) [])
  obtain ⟨X,hX⟩:∃ X,blocksB (((4:UInt8).toNat:Nat):Int) false (codeOf lv) []++(idxB (recsX (((4:UInt8).toNat:Nat):Int) false (codeOf lv) [])++F)=X:=⟨_,rfl⟩
  have hXl:1≤X.length:=by rw [← hX,List.length_append,List.length_append];omega
  rw [hX]
  unfold winX
  rw [headM_front4 X]
  have hlen:(headM 4++X).length=12+X.length:=by rw [List.length_append];rfl
  have hg:(headM 4++X).getD 12 0=X.getD 0 0:=rfl
  have h0:X.getD 0 0=0:=by rw [← hX];rfl
  rw [if_neg (by simp),if_neg (by omega),hg,if_pos h0]
 rw [if_neg hx,if_neg hx]
 unfold oneX
 generalize (xs.flatten++[0]++(zs (12+(xs.flatten++[0]).length)++(chkB 4 txt++(idxB [(12+(xs.flatten++[0]).length+8,txt.length)]++footM ((idxB [(12+(xs.flatten++[0]).length+8,txt.length)]).length / 4-1) 4))))=Y
 obtain ⟨X,hX⟩:∃ X,hdB false [] (codeOf lv)++Y=X:=⟨_,rfl⟩
 have h12:=hdB_12 (codeOf lv)
 have hXl:12≤X.length:=by rw [← hX,List.length_append];omega
 have hh:=hdB_head (codeOf lv) Y
 rw [hX] at hh
 have hbl:blockOf X=blockOf (hdB false [] (codeOf lv)):=by
  rw [← hX]
  have e:=hdB_eq (codeOf lv)
  have e2:hdB false [] (codeOf lv)=2::([0,33,1,codeOf lv,0,0,0]++sealB [2,0,33,1,codeOf lv,0,0,0]):=by rw [e];rfl
  rw [e2] at h12 ⊢
  exact blockOf_more2 (by rw [h12];decide)
 rw [hX]
 unfold winX
 rw [headM_front4 X]
 have hlen:(headM 4++X).length=12+X.length:=by rw [List.length_append];rfl
 have hg:(headM 4++X).getD 12 0=X.getD 0 0:=rfl
 have hd:(headM 4++X).drop 12=X:=rfl
 rw [if_neg (by simp),if_neg (by omega),hg,hd,hh,if_neg (by decide),hbl,blockOf_hd false [] c2 (by simp),c3]
theorem mem_ok {bud m u:Nat} {bs T r:List UInt8} {w w':World} {e:Ending} (h:MemEnd bud bs w e w') (hd:xP bud bs=(T,.inr r)) (hm:T.length=m) (hu:bs.length-r.length=u) :
 ∃ A c,e=.returned (.tuple #[.slice A m c,.int .i64 (u:Int),.int .i64 0])∧OwnB w' 5 w.heap.size (.slice A m c) T∧BRow w' w'.heap.size A T∧Below w.heap.size w w':=by
 subst hm;subst hu
 obtain ⟨v,h1,h2,h3⟩:=h
 rw [hd] at h1 h3
 obtain ⟨A,c,rfl,-,-,hr⟩:=h1.slice
 exact ⟨A,c,h3.2,h1,hr,h2⟩
theorem mem_err {bud z m:Nat} {bs T:List UInt8} {w w':World} {e:Ending} (h:MemEnd bud bs w e w') (hd:xP bud bs=(T,.inl z)) (hm:T.length=m) :
 ∃ A c,e=.returned (.tuple #[.slice A m c,.int .i64 0,.int .i64 ((z:Nat):Int)])∧OwnB w' 5 w.heap.size (.slice A m c) T∧BRow w' w'.heap.size A T∧Below w.heap.size w w'∧z≠0:=by
 subst hm
 obtain ⟨v,h1,h2,h3⟩:=h
 rw [hd] at h1 h3
 obtain ⟨A,c,rfl,-,-,hr⟩:=h1.slice
 exact ⟨A,c,h3.2,h1,hr,h2,h3.1⟩
theorem window22_p (level:Int) (w:World):Calls Tryz.prog 14 #[.int .i64 level] w fun e w'=>e=.returned (.int .i64 ((2 ^ (16+2*lvOf level):Nat):Int))∧w=w':=by
 obtain ⟨m1,hm1⟩:∃ m1,min level 3=m1:=⟨_,rfl⟩
 obtain ⟨lv,hlv⟩:∃ lv,lvOf level=lv:=⟨_,rfl⟩
 have hm2:max 0 m1=(lv:Int):=by rw [← hlv,← hm1];unfold lvOf;omega
 have f1:=fun w=>Fnd.min2_int (P:=Tryz.prog) #[3,3] 3 _ _ _ hm1 w
 have f2:=fun w=>Fnd.max2_int (P:=Tryz.prog) #[3,3] 3 _ _ _ hm2 w
 have hl:lv≤3:=by rw [← hlv];exact lvOf_le level
 rw [hlv]
 clear hm1 hlv hm2
 rcases (by omega:lv=0∨lv=1∨lv=2∨lv=3) with rfl | rfl | rfl | rfl
 all_goals
  clear hl
  go_enter Tryz.func14,Tryz.ntmps14
  go_wp2
  go_ret
  exact ⟨by first | rfl | (simp;done) | decide,rfl⟩
open Go.RowKit Rng Win Lz Box
def EnD (w:World) (K:Nat) (O:Nat→Prop) (eb lv:Nat) (s:EncS) (xs:List (List UInt8)):Prop:=(∃ v sb own,XEncAt w K O eb lv s v sb own)∧EncInv s xs
section
variable {w w' : World} {K eb lv : Nat} {O : Nat → Prop} {s : EncS} {xs : List (List UInt8)}
theorem EnD.lt (h:EnD w K O eb lv s xs):∀ q,O q→q<w.heap.size:=by obtain ⟨⟨v,sb,own,h⟩,-⟩:=h;exact h.lt
theorem EnD.ge (h:EnD w K O eb lv s xs):∀ q,O q→K≤q:=by obtain ⟨⟨v,sb,own,h⟩,-⟩:=h;exact h.ge
theorem EnD.frm {S:Nat→Prop} (h:EnD w K O eb lv s xs) (hf:Frm S w w') (hn:∀ q,O q→¬ S q):EnD w' K O eb lv s xs:=by obtain ⟨⟨v,sb,own,h⟩,hi⟩:=h;exact ⟨⟨v,sb,own,h.frm hf hn⟩,hi⟩
theorem EnD.below (h:EnD w K O eb lv s xs) (hb:Below w.heap.size w w'):EnD w' K O eb lv s xs:=by obtain ⟨⟨v,sb,own,h⟩,hi⟩:=h;exact ⟨⟨v,sb,own,h.below hb⟩,hi⟩
theorem en_new (level:Int) (w:World):Calls Tryz.prog 10 #[.int .i64 level] w fun e w'=>∃ eb O,e=.returned (.pointer (some ⟨eb,0,none⟩))∧EnD w' w.heap.size O eb (lvOf level) newEnc []∧Below w.heap.size w w':=by
 refine (new_x level w).mono ?_
 rintro e w' ⟨eb,sb,O,own,rfl,h1,h2⟩
 exact ⟨eb,O,rfl,⟨⟨_,sb,own,h1⟩,newEnc_inv⟩,h2⟩
theorem en_write (h:EnD w K O eb lv s xs) (hcl:s.closed=false) (A:Option Addr) (bs:List UInt8) (n c B:Nat) (hn:n=bs.length) (hr:BRow w B A bs) (hoff:BOff O A bs) (hB:B≤w.heap.size) (hc:n≤c) (ht:s.txt.length+n≤16384) :
 Calls Tryz.prog 12 #[.pointer (some ⟨eb,0,none⟩),.slice A n c] w fun e w'=>e=.returned (.slice none 0 0)∧∃ O',EnD w' K O' eb lv { s with txt:=s.txt++bs } xs∧(∀ q,O' q→O q∨w.heap.size≤q)∧Frm O w w':=by
 obtain ⟨⟨v,sb,own,h⟩,hi⟩:=h
 refine (write_x K O eb lv s v sb own A bs n c B w h hcl hn hr hoff hB hc ht hi.d).mono ?_
 rintro e w' ⟨rfl,v',own',O',h1,h2,h3⟩
 exact ⟨rfl,O',⟨⟨v',sb,own',h1⟩,hi.write bs (by omega)⟩,h2,h3⟩
theorem en_flush (h:EnD w K O eb lv s xs) (hcl:s.closed=false) (hlv:lv≤3) (hx:xs.length≤99) :
 Calls Tryz.prog 11 #[.pointer (some ⟨eb,0,none⟩)] w fun e w'=>∃ A c r xs' s',e=.returned (.slice A r.length c)∧OwnB w' 5 w.heap.size (.slice A r.length c) r∧outS lv xs++r=outS lv xs'∧EnD w' K O eb lv s' xs'∧s'.txt=s.txt∧s'.done=s.txt.length∧s'.closed=false ∧
  xs'.length≤xs.length+1∧Frm O w w'∧r.length≤20000:=by
 obtain ⟨⟨v,sb,own,h⟩,hi⟩:=h
 refine (flush_x K O eb lv s v sb own w h hlv hi.ok hcl).mono ?_
 rintro e w' he
 obtain ⟨A,c,r,xs',s',rfl,h1,h2,h3,h4,h5,h6,h7,h8,h9,h10⟩:=ch_step he hi hx
 exact ⟨A,c,r,xs',s',rfl,h1,h2,⟨⟨v,sb,own,h3⟩,h4⟩,h5,h6,h7.trans hcl,h8,h9,h10⟩
theorem en_close (h:EnD w K O eb lv s xs) (hcl:s.closed=false) (hlv:lv≤3) (hx:xs.length≤99) :
 Calls Tryz.prog 15 #[.pointer (some ⟨eb,0,none⟩)] w fun e w'=>∃ A c r xs' s',e=.returned (.slice A r.length c)∧OwnB w' 5 w.heap.size (.slice A r.length c) r∧outS lv xs++r=endS lv xs' s.txt∧Strs s.txt 0 s.txt.length xs'∧xs'.length≤xs.length+1 ∧
  (∃ v sb own,XEncAt w' K O eb lv s' v sb own)∧s'.closed=true∧Frm O w w'∧r.length≤40000∧(xs'≠[]→0<s.txt.length):=by
 obtain ⟨⟨v,sb,own,h⟩,hi⟩:=h
 refine (xclose_x K O eb lv s xs v sb own w h hlv hi hx hcl).mono ?_
 rintro e w' ⟨A,c,r,xs',s',rfl,h1,h2,h3,h4,h5,h6,h7,h8,h9⟩
 exact ⟨A,c,r,xs',s',rfl,h1,h2,h3,h4,⟨v,sb,own,h5⟩,h6,h7,h8,h9⟩
end
theorem endS_none (lv:Nat):(endS lv [] []).length=32:=by
 unfold endS
 rw [if_pos rfl]
 unfold madeX
 rw [List.length_append,List.length_append,List.length_append]
 have e1:recsX (((4:UInt8).toNat:Nat):Int) false (codeOf lv) []=[]:=rfl
 have e2:(blocksB (((4:UInt8).toNat:Nat):Int) false (codeOf lv) []).length=0:=rfl
 rw [e1,e2]
 have h1:=idxB_len []
 rw [idxRaw_nil] at h1
 rw [h1.1]
 rfl
def abcE:List UInt8:=[97,98,99]
def defE:List UInt8:=[100,101,102]
theorem row_frz (w:World) (T:TypeId) (bs:List UInt8) (cs:Array Value) (r:Nat×Nat) (h:cs=(bs.map byteV).toArray):BRow (w.alloc (.cells cs T r)) (w.heap.size+1) (some ⟨w.heap.size,0,none⟩) bs:=by
 intro _
 subst h
 refine ⟨w.heap.size,0,rfl,Nat.lt_succ_self _,fun j hj=>?_⟩
 have hp:=World.alloc_heap_new w (.cells (bs.map byteV).toArray T r)
 have h:(w.alloc (.cells (bs.map byteV).toArray T r)).cell? ⟨w.heap.size,0+j,none⟩=(bs.map byteV).toArray[0+j]?:=by unfold World.cell?;simp only;rw [hp];rfl
 rw [h,Nat.zero_add,List.getElem?_toArray,List.getElem?_map,List.getElem?_eq_getElem hj,List.getD_eq_getElem?_getD,List.getElem?_eq_getElem hj]
 rfl
end Go.Proofs.YtablgjhnpphodaaGreat
