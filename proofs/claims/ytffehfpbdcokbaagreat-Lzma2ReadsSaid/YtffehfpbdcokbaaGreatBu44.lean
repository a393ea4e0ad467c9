import Derived.Deep.CutBlock
import Derived.Test.YtffehfpbdcokbaaGreatBu26
import Derived.Test.YtffehfpbdcokbaaGreatBu39
import Derived.Test.YtffehfpbdcokbaaGreatBu43
set_option linter.unusedVariables false
set_option linter.unusedSimpArgs false
namespace Go.Proofs.YtffehfpbdcokbaaGreat
open Lib (hid)
open Go.RowKit Rng Win Lz Fnd
theorem rightP_of {bs:List UInt8} {fr:Nat} {l:List Sq} (h:rightGo bs l fr=some bs.length) (h1:fr<bs.length):rightP bs fr l=true:=by
 unfold rightP
 rw [h]
 exact decide_eq_true ⟨rfl,h1⟩
theorem wOp_new (sb lb:Nat):wOp (newK sb lb)=wOp (newK 0 0):=by
 funext bs fr total x o
 cases o <;> rfl
theorem opsB_new (sb lb:Nat) (bs:List UInt8) (fr total st:Nat) (rep:Nat→Nat) (pr:Pr) (l:List (Option (Nat×Nat))):opsB (newK sb lb) bs fr total st rep pr l=opsB (newK 0 0) bs fr total st rep pr l:=by
 unfold opsB wOps
 rw [wOp_new]
def EncEnd (bs:List UInt8) (fr:Nat) (w:World) (e:Ending) (w':World):Prop :=
 ∃ v x,e=.returned (.tuple #[v,.int .i64 0])∧OwnB w' 5 w.heap.size v x∧IsEnc bs fr x∧Below w.heap.size w w'
def StepsAt (bs:List UInt8) (fr:Nat) (wr:World) (sv:Value) (wx:World):Prop :=
 ∃ (l:List Sq) (B:Option Addr) (d:Nat),sv=.slice B l.length d∧l.length≤d∧SqRow wx wx.heap.size B l∧(∀ ad,B=some ad→wr.heap.size≤ad.block)∧l.length≤2097153∧rightGo bs l fr=some bs.length∧(∀ s∈l,s.fits)∧Below wr.heap.size wr wx
theorem enc_parse (A:Option Addr) (bs:List UInt8) (n c fr lv:Nat) (win:Int) (w:World) (hn:n=bs.length) (hc:bs.length≤c) (hcm:c≤maxLen) (hr:BRow w w.heap.size A bs) (hlen:bs.length≤16384) (hfr:fr≤bs.length) (hlv:lv≤3) (hw:1≤win∧win≤131072) :
 Calls Tryz.prog 31 #[.slice A n c,.int .i64 fr,.int .i64 lv,.int .i64 win,.int .i64 2,.int .i64 273] w fun e w'=>∃ v,e=.returned v∧StepsAt bs fr w v w':=by
 refine (parse_any A bs n c fr lv win 2 273 fr lv win.toNat 2 273 w hn hc hcm hr (by omega) (by omega) (by omega) (by omega) (by omega) (by omega)).mono ?_
 rintro e w' ⟨v,l,rfl,ho,hR,-,-,-,hll,hb⟩
 obtain ⟨A1,c1,rfl,hc1,hm1,hs⟩:=ho.slice
 refine ⟨_,rfl,l,A1,c1,rfl,hc1,hs,?_,hll,right_go l fr hfr hR,right_fits (by omega) (by omega) l fr hR,hb⟩
 rintro ad rfl
 exact (ho.lt rfl).1
theorem lzB_len {bs:List UInt8} {fr:Nat} {l:List Sq} (h:rightGo bs l fr=some bs.length) (hf:fr≤bs.length) (hb:bs.length≤16384):5≤(lzB bs fr l).length∧(lzB bs fr l).length≤1000000:=by
 have hok:=right_ops l fr hf h
 have hI:EncI (wOps (newK 0 0) bs fr (totOf fr) (opsOf l) ⟨fr,0,fun _=>0,⟨newEnc,fun _=>1024⟩⟩).s.d:=stays_wOps encI_stays (newK 0 0) bs fr (totOf fr) (opsOf l) (x:=⟨fr,0,fun _=>0,⟨newEnc,fun _=>1024⟩⟩) encI_new
 have h1:=(told_close hI).l
 have h2:=cnt_ops (newK 0 0) bs fr (totOf fr) (by omega) (opsOf l) ⟨fr,0,fun _=>0,⟨newEnc,fun _=>1024⟩⟩ hok
 have h3:=okOps_cost (opsOf l) fr hok
 have h4:newEnc.cnt=0:=rfl
 have h5:(⟨fr,0,fun _=>0,⟨newEnc,fun _=>1024⟩⟩:PS).s.d.cnt=0:=rfl
 unfold lzB opsB
 omega
theorem sqRow_offF {N:Nat→Prop} {w w':World} {B B':Nat} {A:Option Addr} {l:List Sq} (h:SqRow w B A l) (ho:∀ ad,A=some ad→¬ N ad.block) (hf:Frm N w w') (hB:B≤B'):SqRow w' B' A l:=by
 intro hn
 obtain ⟨b,off,rfl,hb,hc⟩:=h hn
 refine ⟨b,off,rfl,by omega,fun k hk=>?_⟩
 obtain ⟨h1,h2,h3⟩:=hc k hk
 have e:∀ o,w'.cell? ⟨b,o,none⟩=w.cell? ⟨b,o,none⟩:=fun o=>World.cell?_of_block (hf.block b (World.block_lt_of_cell? w ⟨b,off+k*3,none⟩ h1) (ho _ rfl))
 rw [e,e,e]
 exact ⟨h1,h2,h3⟩
theorem preset_s (k:LK) (st:Nat) (rep:Nat→Nat) (pr:Pr) (w:World) (h:PAt w k st rep pr) (hk:k.Ok) :
 Calls Tryz.prog 32 #[.pointer (some ⟨k.sb,0,none⟩)] w fun e w'=>e=.returned (.tuple #[])∧∃ lb,w.heap.size≤lb∧PAt w' ⟨k.sb,lb,k.lc,k.lp,k.pb⟩ 0 (fun _=>0) (fun _=>1024)∧Frm (· = k.sb) w w':=by
 have hm:=h.m
 rw [← qcells_m] at hm
 refine (putreset_st k.sb k.lc k.lp k.pb st rep pr _ 136 w hm hk.a ⟨_,_,_,rfl⟩ hk.b).mono ?_
 rintro e w' ⟨rfl,lb,h3,h4,h5,hf⟩
 exact ⟨rfl,lb,h3,⟨h4,h5,fun _=>(by decide:1024<65536),by have:=h.m.lt;show k.sb≠lb;omega⟩,hf⟩
theorem row_cells (w:World) (T:TypeId) (bs:List UInt8) (cs:Array Value) (h:cs=(bs.map byteV).toArray):BRow (w.alloc (.cells cs T)) (w.heap.size+1) (some ⟨w.heap.size,0,none⟩) bs:=by
 intro _
 subst h
 refine ⟨w.heap.size,0,rfl,Nat.lt_succ_self _,fun j hj=>?_⟩
 have hp:=Pts.new w (bs.map byteV).toArray T
 rw [hp.cell,Nat.zero_add,List.getElem?_toArray,List.getElem?_map,List.getElem?_eq_getElem hj,List.getD_eq_getElem?_getD,List.getElem?_eq_getElem hj]
 rfl
theorem slice_cut (A:Option Addr) (n c fr N:Nat) (h1:fr+N=n) (hn:n≤c) (hN:1≤N) (w:World) :
 (Instr.sliceAt 22 (.slice A n c) (some (.int .i64 (fr:Int))) (some (.int .i64 (n:Int))) none).run Tryz.prog w=.ok (.slice (A.map (·.add fr)) N (c-fr)) w:=by
 have e:(n:Int)=(fr:Int)+(N:Int):=by omega
 rw [e]
 refine (slice_mid A n c fr N (by omega) hn w).trans ?_
 rw [if_neg (by omega)]
theorem u8_wrap (m:Nat):IntKind.u8.wrap (m:Int)=((UInt8.ofNat m).toNat:Int):=by
 rw [IntKind.wrap_u8',UInt8.toNat_ofNat']
 omega
set_option maxRecDepth 100000 in
set_option maxHeartbeats 8000000 in
theorem encode_p (A:Option Addr) (bs:List UInt8) (n c fr:Nat) (level:Int) (w:World) (hn:n=bs.length) (hc:bs.length≤c) (hcm:c≤maxLen) (hr:BRow w w.heap.size A bs) (hlen:bs.length≤16384) (hfr:fr≤bs.length) :
 Calls Tryz.prog 14 #[.slice A n c,.int .i64 fr,.int .i64 level] w (EncEnd bs fr w):=by
 obtain ⟨Y,hY⟩:∃ X,max level 0=X:=⟨_,rfl⟩
 obtain ⟨lv,hL⟩:∃ lv:Nat,min Y 3=(lv:Int):=⟨(min Y 3).toNat,by omega⟩
 have f1:=fun w=>max2_num (P:=Tryz.prog) .i64 #[3,3] 3 _ _ _ hY w
 have f2:=fun w=>min2_num (P:=Tryz.prog) .i64 #[3,3] 3 _ _ _ hL w
 have hlv:lv≤3:=by omega
 have q1:(0:Int)≤(fr:Int):=by omega
 have q2:(fr:Int)≤(n:Int):=by omega
 have q3:(n:Int)≤16777216:=by omega
 have HN:=hid hn
 have HR:=hid hr
 have HC:=hid (And.intro hc (And.intro hcm (And.intro hlen hfr)))
 have HLV:=hid hlv
 clear hn hr hc hcm hlen hfr hY hL hlv
 go_enter Tryz.func14,Tryz.ntmps14
 go_wp2_with fail
 refine (pnew32 w).mono ?_;rintro e w1 ⟨sb,lb,rfl,g1,g2,hs1,hb1⟩
 have S1:=hid hs1
 have B1:=hid hb1
 have G1:=hid (And.intro g1 g2)
 clear hs1 hb1 g1 g2 f1 f2 q1 q2 q3
 go_wp2_with fail
 go_loopg [6,10,11] 1 (fun gf ov pv av wr=>(gf=1∧fr<n∧ov=.slice none 0 0∧pv=.bool true∧av=.int .i64 fr∧PAt wr (newK sb lb) 0 (fun _=>0) (fun _=>1024)∧Below w.heap.size w wr)∨(av=.int .i64 n∧∃ x,OwnB wr 5 w.heap.size ov x∧IsEnc bs fr x∧Below w.heap.size w wr))
 case atStart =>
  rcases Nat.lt_or_ge fr n with h | h
  ·exact .inl ⟨rfl,h,rfl,rfl,rfl,S1.out,B1.out⟩
  have:fr=n:=by have:=HC.out.2.2.2;have:=HN.out;omega
  exact .inr ⟨by rw [this],[],OwnB.nil _ _ _,.inl ⟨by have:=HN.out;omega,rfl⟩,B1.out⟩
 case round =>
 rcases hrel with ⟨hg,hlt,rfl,rfl,rfl,hs,hb⟩ | ⟨rfl,x,ho,hx,hb⟩
 ·have ql:(fr:Int)<(n:Int):=by omega
  obtain ⟨E,hE⟩:∃ E:Nat,fr+65536=E:=⟨_,rfl⟩
  have iE:(fr:Int)+65536=(E:Int):=by omega
  have wE:IntKind.i64.wrap (E:Int)=(E:Int):=Go.IntWalk.i64_in _ (by have:=HC.out;omega)
  have f3:=fun w=>min2_num (P:=Tryz.prog) .i64 #[3,3] 3 _ _ _ (show min (n:Int) (E:Int)=(n:Int) by have:=HC.out;have:=HN.out;omega) w
  obtain ⟨N,hN⟩:∃ N:Nat,n-fr=N:=⟨_,rfl⟩
  have iN:(n:Int)-(fr:Int)=(N:Int):=by omega
  have wN:IntKind.i64.wrap (N:Int)=(N:Int):=Go.IntWalk.i64_in _ (by have:=HC.out;have:=HN.out;omega)
  have hnc:(n:Int)≤(c:Int):=by have:=HC.out;have:=HN.out;omega
  have S:=hid hs
  have B:=hid hb
  have HRW:=hid (HR.out.below hb)
  have HNN:=hid (And.intro hN hlt)
  have HNB:Hid (n=bs.length∧bs.length≤c∧c≤maxLen∧bs.length≤16384∧fr≤bs.length):=hid ⟨HN.out,HC.out.1,HC.out.2.1,HC.out.2.2.1,HC.out.2.2.2⟩
  clear hs hb hE hN hlt
  go_upto_region 12 with fail
  clear iE wE f3 iN wN ql
  go_cut [14] from 140 (fun sv wx=>StepsAt bs fr wr sv wx)
  case first =>
   have hlv:=HLV.out
   have hcl:lv=0∨lv=1∨lv=2∨lv=3:=by omega
   clear hlv
   rcases hcl with rfl | rfl | rfl | rfl
   all_goals
    go_wp2_with fail
    refine (enc_parse A bs n c fr _ _ wr HNB.out.1 HNB.out.2.1 HNB.out.2.2.1 (HRW.out.more B.out.size) HNB.out.2.2.2.1 HNB.out.2.2.2.2 (by decide) (by decide)).mono ?_
    rintro e w2 ⟨v,rfl,hst⟩
    have ST:=hid hst
    clear hst
    go_wp2
    go_meet
    case rel=>exact ST.out
  case rest =>
  obtain ⟨l,B0,d,rfl,hld,hsq,hbl,hll,hgo,hfit,hbw⟩:=hcut
  have SW:=hid (S.out.later hbw)
  have BW:=hid (B.out.trans (hbw.mono B.out.size))
  have SQ:=hid (And.intro hsq (And.intro hbl (And.intro hgo hfit)))
  have SL:=hid (And.intro hld hll)
  have SZ:=hid (And.intro S.out.m.lt hbw.size)
  clear hsq hbl hgo hfit hbw hld hll
  iterate 40 (first | (with_reducible show Code.wp _ (Code.seq (Code.region 14 _ _) _) _ _ _) | go_values | go_guarded | go_step | go_upon)
  go_cut [15] from 140 (fun cv wx=>∃ cb,OwnB wx 5 w.heap.size cv cb∧Below w.heap.size w wx∧((lv=0∧cb=[])∨(1≤lv∧cb=lzB bs fr l)))
  case first =>
   by_cases h0:lv=0
   ·subst h0
    go_wp2
    go_meet
    case rel=>exact ⟨[],OwnB.nil _ _ _,BW.out,.inl (by simp)⟩
   have ql:(0:Int)<(lv:Int):=by omega
   have HL0:=hid (show 1≤lv by omega)
   clear h0
   go_wp2_with fail
   refine (preset_s (newK sb lb) 0 (fun _=>0) (fun _=>1024) wc SW.out (newK_ok _ _)).mono ?_;rintro e w2 ⟨rfl,lb2,hlb2,hs2,hf2⟩
   have S2:Hid (PAt w2 (newK sb lb2) 0 (fun _=>0) (fun _=>1024)):=hid hs2
   have F2:Hid (Frm (· = sb) wc w2):=hid hf2
   have L2:=hid hlb2
   have B2:Hid (Below w.heap.size w w2):=hid (BW.out.trans (hf2.below BW.out.size (by intro q hq;have e:q=sb:=hq;rw [e];exact G1.out.1)))
   clear hs2 hf2 hlb2
   have hoff:BOff (KZ (newK sb lb2)) A bs:=BOff.of_row HR.out (by
    rintro q (e | e)
    ·rw [e];exact G1.out.1
    rw [e];exact Nat.le_trans BW.out.size L2.out)
   have hlo:∀ ad,B0=some ad→¬ KZ (newK sb lb2) ad.block:=by
    intro ad had
    have h1:=SQ.out.2.1 ad had
    have h2:sb<wr.heap.size:=SZ.out.1
    rintro (e | e)
    ·have e:ad.block=sb:=e
     omega
    have e:ad.block=lb2:=e
    have h4:=L2.out
    have h3:0<l.length:=by
     cases l with
     | nil =>
      have hgo:=SQ.out.2.2.1
      unfold rightGo at hgo
      injection hgo with hgo
      have:=HNN.out
      have:=HN.out
      omega
     | cons _ _=>simp
    obtain ⟨b,off,e2,hb,_⟩:=SQ.out.1 h3
    rw [had] at e2
    injection e2 with e2
    rw [e2] at e
    have e:b=lb2:=e
    omega
   have hcost:costOps (opsOf l)+110≤1000000:=by
    have:=okOps_cost (opsOf l) fr (right_ops l fr HNB.out.2.2.2.2 SQ.out.2.2.1)
    have:=HNB.out.2.2.2.1
    omega
   have HCH:=hid (putchunk_main (newK sb lb2) 0 (fun _=>0) (fun _=>1024) A bs n c fr fr B0 l l.length d w2 S2.out (newK_ok _ _) (by decide) (fun _=>by decide) HNB.out.1 HNB.out.2.1 ((HR.out.below B2.out).more B2.out.size) hoff (by have:=HNB.out.2.2.2.1;omega) rfl SL.out.1
    (sqRow_offF SQ.out.1 (fun ad had e=>hlo ad had (.inl e)) F2.out F2.out.size) hlo (by have:=SL.out.2;omega) SQ.out.2.2.2 HNB.out.2.2.2.2 (by have:=HNB.out.2.2.2.1;omega) (by have:=HNB.out.2.2.2;omega) (rightP_of SQ.out.2.2.1 (by have:=HNN.out.2;have:=HN.out;omega)) hcost)
   clear hoff hlo hcost
   go_wp2_with fail
   refine HCH.out.mono ?_;rintro e w3 ⟨v,rfl,ho3,hs3,hf3⟩
   have hb3:Below w.heap.size w w3:=B2.out.trans (hf3.below B2.out.size (by
    rintro q (e | e)
    ·rw [e];exact G1.out.1
    rw [e];exact Nat.le_trans BW.out.size L2.out))
   have O3:=hid (And.intro (ho3.low B2.out.size) hb3)
   clear ho3 hs3 hf3 hb3
   go_wp2
   go_meet
   case rel=>exact ⟨_,O3.out.1,O3.out.2,.inr ⟨HL0.out,opsB_new sb lb2 _ _ _ _ _ _ _⟩⟩
  case rest =>
  obtain ⟨wx,hwx⟩:∃ wx,wx=wc:=⟨_,rfl⟩
  subst hwx
  obtain ⟨cb,hcb,hbx,hcs⟩:=hcut
  obtain ⟨Ac,kc,hcv,hck,hckm,hcr⟩:=hcb.slice
  obtain ⟨L,hL⟩:∃ L,cb.length=L:=⟨_,rfl⟩
  rw [hL] at hcv
  subst hcv
  obtain ⟨L6,hL6⟩:∃ x,L+6=x:=⟨_,rfl⟩
  obtain ⟨N3,hN3⟩:∃ x,N+3=x:=⟨_,rfl⟩
  have hLb:L≤140737488355328:=by
   rcases hcs with ⟨_,e⟩ | ⟨_,e⟩
   ·rw [e] at hL;simp at hL;omega
   have:=lzB_len SQ.out.2.2.1 HNB.out.2.2.2.2 HNB.out.2.2.2.1
   rw [← e,hL] at this
   omega
  have i6:(L:Int)+6=(L6:Int):=by omega
  have i3:(N:Int)+3=(N3:Int):=by omega
  have w6:IntKind.i64.wrap (L6:Int)=(L6:Int):=Go.IntWalk.i64_in _ (by omega)
  have w3:IntKind.i64.wrap (N3:Int)=(N3:Int):=Go.IntWalk.i64_in _ (by have:=HNB.out;have:=HNN.out;omega)
  have OC:=hid hcb
  have CR:=hid hcr
  have BX:=hid hbx
  have CS:=hid hcs
  have HL:=hid (And.intro hL (And.intro hL6 hN3))
  obtain ⟨N1,hN1⟩:∃ x,N-1=x:=⟨_,rfl⟩
  have hNp:1≤N∧N≤16384:=by have:=HNB.out;have:=HNN.out;omega
  have j1:(N:Int)-1=(N1:Int):=by omega
  have v1:IntKind.i64.wrap (N1:Int)=(N1:Int):=Go.IntWalk.i64_in _ (by omega)
  have HN1:=hid (And.intro hN1 hNp)
  clear hcb hcr hbx hcs hL hL6 hN3 hN1 hNp hck hckm
  by_cases hp:lv=0∨N3≤L6
  ·have hcc:((lv:Int)==0)=true∨(((lv:Int)==0)=false∧(N3:Int)≤(L6:Int)):=by
    by_cases h0:lv=0
    ·exact .inl (by rw [h0];rfl)
    exact .inr ⟨beq_eq_false_iff_ne.2 (by omega),by omega⟩
   clear hp
   obtain ⟨h1,hh1⟩:∃ x,UInt8.ofNat (N1 / 256)=x:=⟨_,rfl⟩
   obtain ⟨h2,hh2⟩:∃ x,UInt8.ofNat N1=x:=⟨_,rfl⟩
   have sh:(N1:Int) / 256=((N1 / 256:Nat):Int):=by omega
   have b1:=u8_wrap (N1 / 256)
   have b2:=u8_wrap N1
   rw [hh1,← sh] at b1
   rw [hh2] at b2
   clear sh
   obtain ⟨ct,hct⟩:∃ ct:UInt8,(if fr=0 then (1:UInt8) else 2)=ct:=⟨_,rfl⟩
   have hcz:(((fr:Int)==0)=true∧ct=1)∨(((fr:Int)==0)=false∧ct=2):=by
    by_cases hz:fr=0
    ·exact .inl ⟨by rw [hz];rfl,by rw [← hct,if_pos hz]⟩
    exact .inr ⟨beq_eq_false_iff_ne.2 (by omega),by rw [← hct,if_neg hz]⟩
   have HX:Hid (encPlain bs fr=[ct,h1,h2]++bs.drop fr):=hid (by
    have hlb:lenB bs fr=N1:=by have:=HN.out;have:=HNN.out.1;have:=HN1.out.1;unfold lenB;omega
    unfold encPlain
    rw [hlb,hct,hh1,hh2]
    rfl)
   clear hct hh1 hh2
   have hsl:∀ w,(Instr.sliceAt 22 (.slice A n c) (some (.int .i64 (fr:Int))) (some (.int .i64 (n:Int))) none).run Tryz.prog w=.ok (.slice (A.map (·.add fr)) N (c-fr)) w:=fun w=>slice_cut A n c fr N (by have:=HNB.out;have:=HNN.out;omega) (by have:=HNB.out;omega) HN1.out.2.1 w
   obtain ⟨A',hA'⟩:∃ A',A.map (·.add fr)=A':=⟨_,rfl⟩
   obtain ⟨c',hc'⟩:∃ c',c-fr=c':=⟨_,rfl⟩
   rw [hA',hc'] at hsl
   have HA':Hid (∀ w3,BRow w3 w.heap.size A bs→BRow w3 w.heap.size A' (bs.drop fr)):=hid (fun w3 h=>by
    have:=h.drop (k:=fr) (cap:=c) (by have:=HNB.out.2.1;omega)
    rw [if_neg (by have:=HNB.out;have:=HNN.out;omega),hA'] at this
    exact this)
   clear hA' hc'
   rcases hcz with ⟨qz,rfl⟩ | ⟨qz,rfl⟩
   ·rcases hcc with h5 | ⟨h5,h6⟩
    all_goals
     go_wp2_with (at_builtin;refine wpList_append_bytes _ rfl (.tmp 90) (.tmp 99) 22 rfl 5 w.heap.size Tryz.underlying22 Tryz.info_u8 (.slice none 0 0) [] rfl ?own1 (some ⟨wx.heap.size,0,none⟩) 3 3 (wx.heap.size+1) [1,h1,h2] rfl rfl ?row1 ?len1 ?base1 ?next1)
     case own1=>exact OwnB.nil _ _ _
     case row1=>exact row_cells wx _ [1,h1,h2] _ rfl
     case len1=>simp
     case base1=>have:=BX.out.size;simp;omega
     case next1 =>
     intro v3 w3 hown3 hfrm3 hnew3
     have hb3:Below w.heap.size w w3:=(BX.out.trans ((below_alloc wx _).mono BX.out.size)).trans (hfrm3.below (by have:=BX.out.size;simp;omega) (by intro q hq;cases hq))
     obtain ⟨A3,k3,rfl,-,-,-⟩:=hown3.slice
     have O3:=hid hown3
     have B3:=hid hb3
     clear hown3 hfrm3 hnew3 hb3
     go_wp2_with (at_builtin;refine wpList_append_bytes _ rfl (.tmp 101) (.tmp 105) 22 rfl 5 w.heap.size Tryz.underlying22 Tryz.info_u8 _ ([]++[1,h1,h2]) rfl ?own2 A' N c' w.heap.size (bs.drop fr) rfl ?lenn ?row2 ?len2 ?base2 ?next2)
     case own2=>exact O3.out
     case lenn=>have:=HNN.out.1;have:=HN.out;rw [List.length_drop];omega
     case row2=>exact HA'.out w3 (HR.out.below B3.out)
     case len2=>have:=HNB.out.2.2.2.1;rw [List.length_drop];simp;omega
     case base2=>exact B3.out.size
     case next2 =>
     intro v4 w4 hown4 hfrm4 hnew4
     have hb4:Below w.heap.size w w4:=B3.out.trans (hfrm4.below B3.out.size (fun q hq=>(O3.out.lt hq).1))
     have O4:=hid hown4
     have B4:=hid hb4
     clear hown4 hfrm4 hnew4 hb4
     go_wp2
     go_roundg 0
     case rel=>exact .inr ⟨rfl,_,O4.out,.inr (.inl ⟨by have:=HNN.out.2;have:=HN.out;omega,HX.out.symm⟩),B4.out⟩
     case measure=>omega
   rcases hcc with h5 | ⟨h5,h6⟩
   all_goals
    go_wp2_with (at_builtin;refine wpList_append_bytes _ rfl (.tmp 90) (.tmp 99) 22 rfl 5 w.heap.size Tryz.underlying22 Tryz.info_u8 (.slice none 0 0) [] rfl ?own1 (some ⟨wx.heap.size,0,none⟩) 3 3 (wx.heap.size+1) [2,h1,h2] rfl rfl ?row1 ?len1 ?base1 ?next1)
    case own1=>exact OwnB.nil _ _ _
    case row1=>exact row_cells wx _ [2,h1,h2] _ rfl
    case len1=>simp
    case base1=>have:=BX.out.size;simp;omega
    case next1 =>
    intro v3 w3 hown3 hfrm3 hnew3
    have hb3:Below w.heap.size w w3:=(BX.out.trans ((below_alloc wx _).mono BX.out.size)).trans (hfrm3.below (by have:=BX.out.size;simp;omega) (by intro q hq;cases hq))
    obtain ⟨A3,k3,rfl,-,-,-⟩:=hown3.slice
    have O3:=hid hown3
    have B3:=hid hb3
    clear hown3 hfrm3 hnew3 hb3
    go_wp2_with (at_builtin;refine wpList_append_bytes _ rfl (.tmp 101) (.tmp 105) 22 rfl 5 w.heap.size Tryz.underlying22 Tryz.info_u8 _ ([]++[2,h1,h2]) rfl ?own2 A' N c' w.heap.size (bs.drop fr) rfl ?lenn ?row2 ?len2 ?base2 ?next2)
    case own2=>exact O3.out
    case lenn=>have:=HNN.out.1;have:=HN.out;rw [List.length_drop];omega
    case row2=>exact HA'.out w3 (HR.out.below B3.out)
    case len2=>have:=HNB.out.2.2.2.1;rw [List.length_drop];simp;omega
    case base2=>exact B3.out.size
    case next2 =>
    intro v4 w4 hown4 hfrm4 hnew4
    have hb4:Below w.heap.size w w4:=B3.out.trans (hfrm4.below B3.out.size (fun q hq=>(O3.out.lt hq).1))
    have O4:=hid hown4
    have B4:=hid hb4
    clear hown4 hfrm4 hnew4 hb4
    go_wp2
    go_roundg 0
    case rel=>exact .inr ⟨rfl,_,O4.out,.inr (.inl ⟨by have:=HNN.out.2;have:=HN.out;omega,HX.out.symm⟩),B4.out⟩
    case measure=>omega
  have q5:((lv:Int)==0)=false:=beq_eq_false_iff_ne.2 (by omega)
  have q6:(L6:Int)<(N3:Int):=by omega
  have HCB:Hid (cb=lzB bs fr l):=hid (by
   rcases CS.out with ⟨e,_⟩ | ⟨_,e⟩
   ·omega
   exact e)
  have hlen:=lzB_len SQ.out.2.2.1 HNB.out.2.2.2.2 HNB.out.2.2.2.1
  rw [← HCB.out,HL.out.1] at hlen
  obtain ⟨L1,hL1⟩:∃ x,L-1=x:=⟨_,rfl⟩
  have jl:(L:Int)-1=(L1:Int):=by omega
  have vl:IntKind.i64.wrap (L1:Int)=(L1:Int):=Go.IntWalk.i64_in _ (by omega)
  have hsm:L+6<N+3:=by have:=HL.out;omega
  obtain ⟨h1,hh1⟩:∃ x,UInt8.ofNat (N1 / 256)=x:=⟨_,rfl⟩
  obtain ⟨h2,hh2⟩:∃ x,UInt8.ofNat N1=x:=⟨_,rfl⟩
  obtain ⟨h3,hh3⟩:∃ x,UInt8.ofNat (L1 / 256)=x:=⟨_,rfl⟩
  obtain ⟨h4,hh4⟩:∃ x,UInt8.ofNat L1=x:=⟨_,rfl⟩
  have sh:(N1:Int) / 256=((N1 / 256:Nat):Int):=by omega
  have shl:(L1:Int) / 256=((L1 / 256:Nat):Int):=by omega
  have b1:=u8_wrap (N1 / 256)
  have b2:=u8_wrap N1
  have b3:=u8_wrap (L1 / 256)
  have b4:=u8_wrap L1
  rw [hh1,← sh] at b1
  rw [hh2] at b2
  rw [hh3,← shl] at b3
  rw [hh4] at b4
  clear sh shl
  obtain ⟨ct,hct⟩:∃ ct:UInt8,(if fr=0 then (224:UInt8) else 192)=ct:=⟨_,rfl⟩
  have hcz:(((fr:Int)==0)=true∧ct=224)∨(((fr:Int)==0)=false∧ct=192):=by
   by_cases hz:fr=0
   ·exact .inl ⟨by rw [hz];rfl,by rw [← hct,if_pos hz]⟩
   exact .inr ⟨beq_eq_false_iff_ne.2 (by omega),by rw [← hct,if_neg hz]⟩
  have HX:Hid (encLz bs fr cb=[ct,h1,h2,h3,h4]++[93]++cb):=hid (by
   have hlb:lenB bs fr=N1:=by have:=HN.out;have:=HNN.out.1;have:=HN1.out.1;unfold lenB;omega
   unfold encLz
   rw [hlb,HL.out.1,hL1,hct,hh1,hh2,hh3,hh4]
   rfl)
  have HEN:Hid (IsEnc bs fr (encLz bs fr cb)):=hid (.inr (.inr ⟨by have:=HN.out;have:=HNN.out;omega,l,SQ.out.2.2.1,by rw [← HCB.out,HL.out.1];have:=HN.out;have:=HNN.out;omega,by rw [HCB.out]⟩))
  clear hct hh1 hh2 hh3 hh4 hL1 hsm hlen hp
  rcases hcz with ⟨qz,rfl⟩ | ⟨qz,rfl⟩
  ·go_wp2_with (at_builtin;refine wpList_append_bytes _ rfl (.tmp 111) (.tmp 129) 22 rfl 5 w.heap.size Tryz.underlying22 Tryz.info_u8 (.slice none 0 0) [] rfl ?own1 (some ⟨wx.heap.size,0,none⟩) 5 5 (wx.heap.size+1) [224,h1,h2,h3,h4] rfl rfl ?row1 ?len1 ?base1 ?next1)
   case own1=>exact OwnB.nil _ _ _
   case row1=>exact row_cells wx _ [224,h1,h2,h3,h4] _ rfl
   case len1=>simp
   case base1=>have:=BX.out.size;simp;omega
   case next1 =>
   intro v3 w3 hown3 hfrm3 hnew3
   have hb3:Below w.heap.size w w3:=(BX.out.trans ((below_alloc wx _).mono BX.out.size)).trans (hfrm3.below (by have:=BX.out.size;simp;omega) (by intro q hq;cases hq))
   have hr3:BRow w3 wx.heap.size Ac cb:=row_kept (CR.out.below (below_alloc wx _)) hfrm3 (by simp) (by intro q hq;cases hq)
   have hz3:wx.heap.size≤w3.heap.size:=by have:=hfrm3.size;simp at this;omega
   have hv3:∀ q,v3.ownBlock=some q→wx.heap.size≤q:=by
    intro q hq
    rcases hnew3 with e | e
    ·rw [e] at hq;cases hq
    rw [e] at hq;injection hq with hq;rw [← hq];simp
   obtain ⟨A3,k3,rfl,-,-,-⟩:=hown3.slice
   have O3:=hid hown3
   have B3:=hid hb3
   have R3:=hid hr3
   have Z3:=hid hz3
   have V3:=hid hv3
   clear hown3 hfrm3 hnew3 hb3 hr3 hz3 hv3
   go_wp2_with (at_builtin;refine wpList_append_bytes _ rfl (.tmp 132) (.tmp 133) 22 rfl 5 w.heap.size Tryz.underlying22 Tryz.info_u8 _ ([]++[224,h1,h2,h3,h4]) rfl ?own2 (some ⟨w3.heap.size,0,none⟩) 1 1 (w3.heap.size+1) [93] rfl rfl ?row2 ?len2 ?base2 ?next2)
   case own2=>exact O3.out.alloc _
   case row2=>exact row_cells w3 _ [93] _ rfl
   case len2=>simp
   case base2=>have:=B3.out.size;simp;omega
   case next2 =>
   intro v4 w4 hown4 hfrm4 hnew4
   have hb4:Below w.heap.size w w4:=(B3.out.trans ((below_alloc w3 _).mono B3.out.size)).trans (hfrm4.below (by have:=B3.out.size;simp;omega) (fun q hq=>(O3.out.lt hq).1))
   have hr4:BRow w4 wx.heap.size Ac cb:=row_kept (R3.out.below ((below_alloc w3 _).mono Z3.out)) hfrm4 (by have:=Z3.out;simp;omega) (fun q hq=>V3.out q hq)
   obtain ⟨A4,k4,rfl,-,-,-⟩:=hown4.slice
   have O4:=hid hown4
   have B4:=hid hb4
   have R4:=hid hr4
   clear hown4 hfrm4 hnew4 hb4 hr4
   go_wp2_with (at_builtin;refine wpList_append_bytes _ rfl (.tmp 135) (.tmp 136) 22 rfl 5 w.heap.size Tryz.underlying22 Tryz.info_u8 _ ([]++[224,h1,h2,h3,h4]++[93]) rfl ?own3 Ac L kc wx.heap.size cb rfl HL.out.1.symm ?row3 ?len3 ?base3 ?next3)
   case own3=>exact O4.out
   case row3=>exact R4.out
   case len3 =>
    have h1:=lzB_len SQ.out.2.2.1 HNB.out.2.2.2.2 HNB.out.2.2.2.1
    rw [← HCB.out] at h1
    simp
    omega
   case base3=>exact B4.out.size
   case next3 =>
   intro v5 w5 hown5 hfrm5 hnew5
   have hb5:Below w.heap.size w w5:=B4.out.trans (hfrm5.below B4.out.size (fun q hq=>(O4.out.lt hq).1))
   have O5:=hid hown5
   have B5:=hid hb5
   clear hown5 hfrm5 hnew5 hb5
   go_wp2
   go_roundg 0
   case rel=>exact .inr ⟨rfl,_,O5.out,by have h:=HEN.out;rw [HX.out] at h;exact h,B5.out⟩
   case measure=>omega
  go_wp2_with (at_builtin;refine wpList_append_bytes _ rfl (.tmp 111) (.tmp 129) 22 rfl 5 w.heap.size Tryz.underlying22 Tryz.info_u8 (.slice none 0 0) [] rfl ?own1 (some ⟨wx.heap.size,0,none⟩) 5 5 (wx.heap.size+1) [192,h1,h2,h3,h4] rfl rfl ?row1 ?len1 ?base1 ?next1)
  case own1=>exact OwnB.nil _ _ _
  case row1=>exact row_cells wx _ [192,h1,h2,h3,h4] _ rfl
  case len1=>simp
  case base1=>have:=BX.out.size;simp;omega
  case next1 =>
  intro v3 w3 hown3 hfrm3 hnew3
  have hb3:Below w.heap.size w w3:=(BX.out.trans ((below_alloc wx _).mono BX.out.size)).trans (hfrm3.below (by have:=BX.out.size;simp;omega) (by intro q hq;cases hq))
  have hr3:BRow w3 wx.heap.size Ac cb:=row_kept (CR.out.below (below_alloc wx _)) hfrm3 (by simp) (by intro q hq;cases hq)
  have hz3:wx.heap.size≤w3.heap.size:=by have:=hfrm3.size;simp at this;omega
  have hv3:∀ q,v3.ownBlock=some q→wx.heap.size≤q:=by
   intro q hq
   rcases hnew3 with e | e
   ·rw [e] at hq;cases hq
   rw [e] at hq;injection hq with hq;rw [← hq];simp
  obtain ⟨A3,k3,rfl,-,-,-⟩:=hown3.slice
  have O3:=hid hown3
  have B3:=hid hb3
  have R3:=hid hr3
  have Z3:=hid hz3
  have V3:=hid hv3
  clear hown3 hfrm3 hnew3 hb3 hr3 hz3 hv3
  go_wp2_with (at_builtin;refine wpList_append_bytes _ rfl (.tmp 132) (.tmp 133) 22 rfl 5 w.heap.size Tryz.underlying22 Tryz.info_u8 _ ([]++[192,h1,h2,h3,h4]) rfl ?own2 (some ⟨w3.heap.size,0,none⟩) 1 1 (w3.heap.size+1) [93] rfl rfl ?row2 ?len2 ?base2 ?next2)
  case own2=>exact O3.out.alloc _
  case row2=>exact row_cells w3 _ [93] _ rfl
  case len2=>simp
  case base2=>have:=B3.out.size;simp;omega
  case next2 =>
  intro v4 w4 hown4 hfrm4 hnew4
  have hb4:Below w.heap.size w w4:=(B3.out.trans ((below_alloc w3 _).mono B3.out.size)).trans (hfrm4.below (by have:=B3.out.size;simp;omega) (fun q hq=>(O3.out.lt hq).1))
  have hr4:BRow w4 wx.heap.size Ac cb:=row_kept (R3.out.below ((below_alloc w3 _).mono Z3.out)) hfrm4 (by have:=Z3.out;simp;omega) (fun q hq=>V3.out q hq)
  obtain ⟨A4,k4,rfl,-,-,-⟩:=hown4.slice
  have O4:=hid hown4
  have B4:=hid hb4
  have R4:=hid hr4
  clear hown4 hfrm4 hnew4 hb4 hr4
  go_wp2_with (at_builtin;refine wpList_append_bytes _ rfl (.tmp 135) (.tmp 136) 22 rfl 5 w.heap.size Tryz.underlying22 Tryz.info_u8 _ ([]++[192,h1,h2,h3,h4]++[93]) rfl ?own3 Ac L kc wx.heap.size cb rfl HL.out.1.symm ?row3 ?len3 ?base3 ?next3)
  case own3=>exact O4.out
  case row3=>exact R4.out
  case len3 =>
   have h1:=lzB_len SQ.out.2.2.1 HNB.out.2.2.2.2 HNB.out.2.2.2.1
   rw [← HCB.out] at h1
   simp
   omega
  case base3=>exact B4.out.size
  case next3 =>
  intro v5 w5 hown5 hfrm5 hnew5
  have hb5:Below w.heap.size w w5:=B4.out.trans (hfrm5.below B4.out.size (fun q hq=>(O4.out.lt hq).1))
  have O5:=hid hown5
  have B5:=hid hb5
  clear hown5 hfrm5 hnew5 hb5
  go_wp2
  go_roundg 0
  case rel=>exact .inr ⟨rfl,_,O5.out,by have h:=HEN.out;rw [HX.out] at h;exact h,B5.out⟩
  case measure=>omega
 have O:=hid ho
 have X:=hid hx
 have B:=hid hb
 clear ho hx hb
 go_wp2
 go_ret2
 exact ⟨_,x,rfl,O.out,X.out,B.out⟩
end Go.Proofs.YtffehfpbdcokbaaGreat
