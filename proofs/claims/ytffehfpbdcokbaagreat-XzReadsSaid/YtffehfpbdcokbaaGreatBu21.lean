import Derived.RangeFuncBound
import Derived.RangeFuncCalls
import Derived.RangeFuncLeaves
import Derived.OwnWalkIn
import Derived.TacticsInMore
import Derived.LoopNIn
import Derived.LoopIn
import Derived.Sort.LoopGhostIn
import Derived.Sort.CutIn
import Derived.BigFrameIn
import Derived.Test.YtffehfpbdcokbaaGreatBu20
set_option linter.unusedVariables false
set_option linter.unusedSimpArgs false
namespace Go.Proofs.YtffehfpbdcokbaaGreat
open Lib (hid)
open Go.RowKit Rng Win Lz
attribute [local go_sem] Oper.semAt_some
structure Ck where
 val:Value
 b:List UInt8
 e:Nat
def ckEnc (x:Ck):Array Value:=#[x.val,.int .i64 (x.e:Int)]
def ckP (x:Ck):List UInt8×Nat:=(x.b,x.e)
def sumC (pre:List Ck):Nat:=(pre.map (·.b.length)).sum
def PxC (fb un most:Nat) (pre:List Ck) (x:Ck) (W:World):Prop :=
 (∃ A n c used,SrcAt W fb A n c used∧used≤un)∧∃ Ab cb,x.val=.slice Ab x.b.length cb∧BRow W W.heap.size Ab x.b∧x.b.length≤cb∧cb≤maxLen∧sumC pre+x.b.length≤most∧(x.e≠0→x.val=.slice none 0 0)
def SC (E:List (List UInt8×Nat)×Option (List UInt8)) (fb un B0:Nat) (N:Nat→Prop) (xs:List Ck) (W:World):Prop :=
 xs.map ckP=E.1∧∀ rest,E.2=some rest→∃ A n c used,SrcAt W fb A n c used∧used+n=un∧BRow W B0 A rest∧n=rest.length∧n≤c∧c≤maxLen
def SpC (E:List (List UInt8×Nat)×Option (List UInt8)) (pre:List Ck):Prop:=pre.map ckP <+: E.1
theorem pxC_err (fb un most:Nat) (pre:List Ck) (e:Nat) (W:World) (hs:∃ A n c used,SrcAt W fb A n c used∧used≤un) (h:sumC pre≤most):PxC fb un most pre ⟨.slice none 0 0,[],e⟩ W :=
 ⟨hs,none,0,rfl,BRow.nil _ _ _,Nat.le_refl _,Nat.zero_le _,by simpa using h,fun _=>rfl⟩
theorem BRow.setI64 {w:World} {B:Nat} {A:Option Addr} {bs:List UInt8} {p:Addr} {z:Int} (h:BRow w B A bs) (hp:w.cell? p=some (.int .i64 z)) (v:Value):BRow (w.setCell p v) B A bs:=by
 intro h0
 obtain ⟨b,off,rfl,hb,hc⟩:=h h0
 refine ⟨b,off,rfl,hb,fun k hk=>?_⟩
 rw [World.cell?_setCell_other]
 ·exact hc k hk
 intro e
 rw [e,hc k hk] at hp
 simp [byteV] at hp
theorem body_p (rb fb wb kb base S B0:Nat) (k:LK) (x:DS) (wv:Value) (A:Option Addr) (n c used:Nat) (most:Int) (bs hd:List UInt8) (ha:Option Addr) (cc m:Nat) (w:World)
 (h:RdS w rb fb wb kb base S k x wv A n c used most) (hB:∀ q,RdB rb fb wb k wv q→B0≤q) (hB0:B0≤w.heap.size) (hS:S≤16777216) (hn:n=bs.length) (hr:BRow w B0 A bs) (hc:n≤c) (hcm:c≤maxLen)
 (hhr:BRow w B0 ha hd) (hm:m=headN cc) (hdl:hd.length=m) (hcc:(hd.getD 0 0).toNat=cc) (hleg:m≠0∧m≠1) (hu:used+n≤4611686018427387904) (ht:x.total<9223372036854775808) :
 Calls Tryz.prog 81 #[.pointer (some ⟨rb,0,none⟩),.slice ha m m] w (BodyEnd rb fb wb kb base S B0 k wv most (used+n) w (oneBody S x cc hd bs)):=by
 obtain ⟨hb,off,rfl,_,_⟩:=hhr (by omega)
 have hcase:(cc=1∨cc=2)∧m=3∨(128≤cc∧cc<192)∧m=5∨192≤cc∧m=6:=by
  unfold headN at hm
  repeat' split at hm
  all_goals omega
 rcases hcase with ⟨h1,rfl⟩ | ⟨h1,rfl⟩ | ⟨h1,rfl⟩
 ·exact body_raw rb fb wb kb base S B0 k x wv A n c used most bs hd hb off cc w h hB hB0 hS hn hr hc hcm hhr hdl hcc h1 hu ht
 ·exact body_lz rb fb wb kb base S B0 k x wv A n c used most bs hd hb off cc w h hB hB0 hS hn hr hc hcm hhr hdl hcc h1 hu ht
 exact body_set rb fb wb kb base S B0 k x wv A n c used most bs hd hb off cc w h hB hB0 hS hn hr hc hcm hhr hdl hcc h1 hu ht
set_option maxRecDepth 8000 in
set_option maxHeartbeats 10000000 in
theorem chunks_seq (n rb fb wb kb base S B0:Nat) (k:LK) (x:DS) (wv:Value) (A:Option Addr) (nn c used most un:Nat) (bs:List UInt8) (w:World) (hn1:2≤n)
 (h:RdS w rb fb wb kb base S k x wv A nn c used (most:Int)) (hB:∀ q,RdB rb fb wb k wv q→B0≤q) (hB0:B0≤w.heap.size) (hS:S≤16777216) (hn:nn=bs.length) (hr:BRow w B0 A bs) (hc:nn≤c) (hcm:c≤maxLen)
 (hu:used+nn=un) (hub:un≤4611686018427387904) (ht:x.total+most≤4611686018427387904) :
 SeqN Fence.wide n Tryz.prog 37 #[.pointer (some ⟨rb,0,none⟩)] ckEnc (PxC fb un most) (SC (evGo S most (bs.length+1) x 0 bs) fb un B0) (SpC (evGo S most (bs.length+1) x 0 bs)) B0 (RdB rb fb wb k wv) w:=by
 intro l J Jx W hW hJ hY h0
 have hd:RdS W rb fb wb kb base S k x wv A nn c used (most:Int):=h.frm hW (fun q hq hn=>hn.1 hq)
 have hr':BRow W B0 A bs:=row_kept hr hW hB0 (fun q hq=>hq.2)
 have hz:B0≤W.heap.size:=Nat.le_trans hB0 hW.size
 obtain ⟨E,hE⟩:∃ E,evGo S most (bs.length+1) x 0 bs=E:=⟨_,rfl⟩
 rw [hE]
 obtain ⟨T0,hT0⟩:∃ T,x.total=T:=⟨_,rfl⟩
 have HJ:=hid hJ
 have HY:=hid hY
 have HS:Hid (J (RdB rb fb wb k wv) [] W∧RdS W rb fb wb kb base S k x wv A nn c used (most:Int)∧BRow W B0 A bs∧nn=bs.length∧nn≤c∧c≤maxLen∧used+nn=un∧(∀ q,RdB rb fb wb k wv q→B0≤q)∧B0≤W.heap.size∧x.total≤T0) :=
  hid ⟨h0,hd,hr',hn,hc,hcm,hu,hB,hz,by omega⟩
 have HE:=hid hE
 have HT:Hid (T0+most≤4611686018427387904):=hid (by omega)
 clear h hB hB0 hn hr hc hcm hu ht hW hJ hY h0 hd hr' hz hE hT0
 refine callsIn_of_wp Tryz.func37 rfl trivial ?_ rfl
 simp only [Tryz.ntmps37,List.size_toArray,List.length_cons,List.length_nil,Nat.reduceAdd,Nat.reduceSub,Array.replicate_succ,Array.replicate_zero,List.push_toArray,List.append_toArray,List.nil_append,List.cons_append]
 gi_wp2
 gi_loopg [4] (bs.length+1) (fun gf tv wr=>∃ (pre:List Ck) (told:Nat) (x1:DS) (k1:LK) (wv1:Value) (A1:Option Addr) (n1 c1 used1:Nat) (src:List UInt8),tv=.int .i64 (told:Int)∧J (RdB rb fb wb k1 wv1) pre wr∧RdS wr rb fb wb kb base S k1 x1 wv1 A1 n1 c1 used1 (most:Int)∧BRow wr B0 A1 src∧n1=src.length∧n1≤c1∧c1≤maxLen∧used1+n1=un∧(∀ q,RdB rb fb wb k1 wv1 q→B0≤q)∧B0≤wr.heap.size∧x1.total≤T0+told∧src.length<gf∧told≤most∧told=sumC pre∧E.1=pre.map ckP++(evGo S most gf x1 told src).1∧E.2=(evGo S most gf x1 told src).2)
 case atStart =>
  obtain ⟨h1,h2,h3,h4,h5,h6,h7,h8,h9,h10⟩:=HS.out
  exact ⟨[],0,x,k,wv,A,nn,c,used,bs,rfl,h1,h2,h3,h4,h5,h6,h7,h8,h9,h10,by omega,by omega,rfl,by rw [HE.out];rfl,by rw [HE.out]⟩
 case round =>
 obtain ⟨pre,told,x1,k1,wv1,A1,n1,c1,used1,src,rfl,hj,hd,hr,hn,hc,hcm,hu,hB,hz,htot,hlen,htm,hts,hE1,hE2⟩:=hrel
 clear HS HE
 obtain ⟨g,rfl⟩:∃ g,gk=g+1:=⟨gk-1,by omega⟩
 have HJ1:=hid hj
 have HD:=hid hd
 have HR:=hid hr
 have HB:=hid hB
 have HU:=hid hu
 have HTS:=hid hts
 have h1n:1≤n:=by omega
 obtain ⟨r0,r1,r2,r3,r4,r5,r6⟩:=hd.cells
 have hend:∀ (e:Nat) (xk:Ck) (W':World),evGo S most (g+1) x1 told src=([([],e)],none)→xk.b=[]→xk.e=e→((J (RdB rb fb wb k1 wv1) (pre++[xk]) W'→SC E fb un B0 (RdB rb fb wb k1 wv1) (pre++[xk]) W')∧SpC E (pre++[xk])):=by
  intro e xk W' hev hxb hxe
  rw [hev] at hE1 hE2
  have hm:(pre++[xk]).map ckP=E.1:=by rw [List.map_append,hE1];simp [ckP,hxb,hxe]
  exact ⟨fun _=>⟨hm,fun rest hrst=>by rw [hE2] at hrst;cases hrst⟩,by unfold SpC;rw [hm];exact List.prefix_refl _⟩
 have HEND:=hid hend
 have HE1:=hid hE1
 have HE2:=hid hE2
 clear hj hd hr hB hu hts hend hE1 hE2 r0 r1 r3 r4
 have HYE:Hid (∀ (e:Nat) (W1:World),(∃ A n c used,SrcAt W1 fb A n c used∧used≤un)→J (RdB rb fb wb k1 wv1) pre W1→YieldAt Fence.wide (n-1) Tryz.prog l #[.slice none 0 0,.int .i64 (e:Int)] W1 fun e' W' =>
  (e'=.returned (.bool true)∧J (RdB rb fb wb k1 wv1) (pre++[⟨.slice none 0 0,[],e⟩]) W'∧Frm (fun q=>¬ RdB rb fb wb k1 wv1 q∧B0≤q) W1 W')∨(e'=.returned (.bool false)∧Jx (RdB rb fb wb k1 wv1) (pre++[⟨.slice none 0 0,[],e⟩]) W')):=Lib.hid
  (fun e W1 hs hj=>HY.out _ pre ⟨.slice none 0 0,[],e⟩ W1 hj (pxC_err fb un most pre e W1 hs (by rw [← HTS.out];exact htm)))
 by_cases hs0:src.length<1
 ·have hev:evGo S most (g+1) x1 told src=([([],10)],none):=by
   unfold evGo one
   rw [if_pos hs0]
  obtain ⟨fn,tmps,assign,body,hy,hR⟩:=HYE.out 10 wr ⟨_,_,_,_,HD.out.src,by have:=HU.out;omega⟩ HJ1.out
  replace hy:(Instr.yield l #[.slice none 0 0,.int .i64 10]).run Tryz.prog wr=.ok (.round l fn tmps assign body) wr:=hy
  have HP:=hid (peek_p fb A1 n1 c1 used1 1 wr HD.out.src hc)
  rw [if_neg (by omega)] at HP
  have HEV:=hid hev
  clear hev
  gi_wp2_with (refine ⟨trivial,?_⟩;gi_at_call 51;refine (callsIn_wide.2 HP.out).mono ?_;rintro e w2 ⟨rfl,hw⟩;subst hw)
  refine hR.mono ?_
  rintro e W' (⟨rfl,hJ',hk⟩ | ⟨rfl,hJx'⟩)
  ·gi_wp2
   refine bodyPost_ret (results_none rfl _ _ _) rfl ?_
   exact ⟨⟨_,rfl⟩,.inl ⟨_,_,(HEND.out 10 _ W' HEV.out rfl rfl).1 hJ',hJ'⟩⟩
  gi_wp2
  refine bodyPost_ret (results_none rfl _ _ _) rfl ?_
  exact ⟨⟨_,rfl⟩,.inr ⟨_,_,(HEND.out 10 _ W' HEV.out rfl rfl).2,hJx'⟩⟩
 obtain ⟨ab,ao,rfl,hab,hcell⟩:=HR.out (by omega)
 obtain ⟨c0,hc0⟩:∃ c,(src.getD 0 0).toNat=c:=⟨_,rfl⟩
 have hc256:c0<256:=by rw [← hc0];exact (src.getD 0 0).toNat_lt
 have b0:wr.cell? ⟨ab,ao,none⟩=some (.int .u8 (c0:Int)):=by rw [← hc0];exact hcell 0 (by omega)
 obtain ⟨m,hm⟩:∃ m,headN c0=m:=⟨_,rfl⟩
 have hm6:m≤6:=by rw [← hm];exact headN_le c0
 have HP:=hid (peek_p fb (some ⟨ab,ao,none⟩) n1 c1 used1 1 wr HD.out.src hc)
 rw [if_pos (by omega)] at HP
 have HH:=hid (mhead_p c0 wr hc256)
 rw [hm] at HH
 have hone:one S x1 src=if m=0 then .err 11 else if src.length<m then .err 10 else if m=1 then .fin (src.drop 1) else if badHead x1 c0 then .err 11 else oneBody S x1 c0 (src.take m) (src.drop m):=by
  unfold one
  rw [if_neg hs0,hc0,hm]
 have HO:=hid hone
 have HM:=hid hm
 have HC0:=hid hc0
 clear hone hm hc0 hcell
 by_cases hm0:m=0
 ·have hev:evGo S most (g+1) x1 told src=([([],11)],none):=by
   unfold evGo
   rw [HO.out,if_pos hm0]
  obtain ⟨fn,tmps,assign,body,hy,hR⟩:=HYE.out 11 wr ⟨_,_,_,_,HD.out.src,by have:=HU.out;omega⟩ HJ1.out
  replace hy:(Instr.yield l #[.slice none 0 0,.int .i64 11]).run Tryz.prog wr=.ok (.round l fn tmps assign body) wr:=hy
  have HEV:=hid hev
  have q0:((m:Int)==0)=true:=beq_iff_eq.2 (by omega)
  clear hev
  gi_wp2_with (first | (refine ⟨trivial,?_⟩;gi_at_call 51;refine (callsIn_wide.2 HP.out).mono ?_;rintro e w2 ⟨rfl,hw⟩;subst hw) | (refine ⟨trivial,?_⟩;gi_at_call 80;refine (callsIn_wide.2 HH.out).mono ?_;rintro e w2 ⟨rfl,hw⟩;subst hw))
  refine hR.mono ?_
  rintro e W' (⟨rfl,hJ',hk⟩ | ⟨rfl,hJx'⟩)
  ·gi_wp2
   refine bodyPost_ret (results_none rfl _ _ _) rfl ?_
   exact ⟨⟨_,rfl⟩,.inl ⟨_,_,(HEND.out 11 _ W' HEV.out rfl rfl).1 hJ',hJ'⟩⟩
  gi_wp2
  refine bodyPost_ret (results_none rfl _ _ _) rfl ?_
  exact ⟨⟨_,rfl⟩,.inr ⟨_,_,(HEND.out 11 _ W' HEV.out rfl rfl).2,hJx'⟩⟩
 have q0:((m:Int)==0)=false:=beq_eq_false_iff_ne.2 (by omega)
 by_cases hml:src.length<m
 ·have hev:evGo S most (g+1) x1 told src=([([],10)],none):=by
   unfold evGo
   rw [HO.out,if_neg hm0,if_pos hml]
  obtain ⟨fn,tmps,assign,body,hy,hR⟩:=HYE.out 10 wr ⟨_,_,_,_,HD.out.src,by have:=HU.out;omega⟩ HJ1.out
  replace hy:(Instr.yield l #[.slice none 0 0,.int .i64 10]).run Tryz.prog wr=.ok (.round l fn tmps assign body) wr:=hy
  have HEV:=hid hev
  have HT1:=hid (take_no fb (some ⟨ab,ao,none⟩) n1 c1 used1 m wr HD.out.src (by omega))
  clear hev
  gi_wp2_with (first | (refine ⟨trivial,?_⟩;gi_at_call 51;refine (callsIn_wide.2 HP.out).mono ?_;rintro e w2 ⟨rfl,hw⟩;subst hw) | (refine ⟨trivial,?_⟩;gi_at_call 80;refine (callsIn_wide.2 HH.out).mono ?_;rintro e w2 ⟨rfl,hw⟩;subst hw) | (refine ⟨trivial,?_⟩;gi_at_call 53;refine (callsIn_wide.2 HT1.out).mono ?_;rintro e w2 ⟨rfl,hw⟩;subst hw))
  refine hR.mono ?_
  rintro e W' (⟨rfl,hJ',hk⟩ | ⟨rfl,hJx'⟩)
  ·gi_wp2
   refine bodyPost_ret (results_none rfl _ _ _) rfl ?_
   exact ⟨⟨_,rfl⟩,.inl ⟨_,_,(HEND.out 10 _ W' HEV.out rfl rfl).1 hJ',hJ'⟩⟩
  gi_wp2
  refine bodyPost_ret (results_none rfl _ _ _) rfl ?_
  exact ⟨⟨_,rfl⟩,.inr ⟨_,_,(HEND.out 10 _ W' HEV.out rfl rfl).2,hJx'⟩⟩
 have HT1:=hid (take_p fb (some ⟨ab,ao,none⟩) n1 c1 used1 m wr HD.out.src hc (by omega) (by have:=HU.out;omega))
 by_cases hm1:m=1
 ·have q1:((m:Int)==1)=true:=beq_iff_eq.2 (by omega)
  have e1:((1:Nat):Int)=1:=rfl
  rw [hm1,e1] at HT1
  clear e1
  gi_wp2_with (first | (refine ⟨trivial,?_⟩;gi_at_call 51;refine (callsIn_wide.2 HP.out).mono ?_;rintro e w2 ⟨rfl,hw⟩;subst hw) | (refine ⟨trivial,?_⟩;gi_at_call 80;refine (callsIn_wide.2 HH.out).mono ?_;rintro e w2 ⟨rfl,hw⟩;subst hw) | (refine ⟨trivial,?_⟩;gi_at_call 53;refine (callsIn_wide.2 HT1.out).mono ?_;rintro e w2 ⟨rfl,hs2,hf2⟩))
  refine bodyPost_ret (results_none rfl _ _ _) rfl ?_
  refine ⟨⟨_,rfl⟩,.inl ⟨RdB rb fb wb k1 wv1,pre,?_,HJ.out _ _ _ _ _ HJ1.out (hf2.mono fun q _ e=>.inr (.inl e)) (fun q hq=>.inl hq)⟩⟩
  have hev:evGo S most (g+1) x1 told src=([],some (src.drop 1)):=by
   unfold evGo
   rw [HO.out,if_neg hm0,if_neg hml,if_pos hm1]
  have e1:=HE1.out
  have e2:=HE2.out
  rw [hev] at e1 e2
  refine ⟨by rw [e1];simp,fun rest hrst=>?_⟩
  rw [e2] at hrst
  injection hrst with hrst
  subst hrst
  have hr2:=row_kept HR.out hf2 hz (fun q e=>by rw [e];exact HB.out fb (.inr (.inl rfl)))
  have:=HU.out
  exact ⟨_,_,_,_,hs2,by omega,hr2.drop (by omega),by rw [List.length_drop];omega,by omega,by omega⟩
 have q1:((m:Int)==1)=false:=beq_eq_false_iff_ne.2 (by omega)
 by_cases hbad:badHead x1 c0
 ·have hev:evGo S most (g+1) x1 told src=([([],11)],none):=by
   unfold evGo
   rw [HO.out,if_neg hm0,if_neg hml,if_neg hm1,if_pos hbad]
  have HEV:=hid hev
  clear hev
  by_cases hba:x1.begun=false∧c0≠1∧c0<224
  ·obtain ⟨hb1,hb2,hb3⟩:=hba
   have q2:((c0:Int)==1)=false:=beq_eq_false_iff_ne.2 (by omega)
   have q3:(c0:Int)<224:=by omega
   have q2n:((c0:Int) != 1)=true:=by simp [bne,q2]
   have hm0i:(0:Int)<(m:Int):=by omega
   clear hbad
   gi_wp2_with (first | (refine ⟨trivial,?_⟩;gi_at_call 51;refine (callsIn_wide.2 HP.out).mono ?_;rintro e w2 ⟨rfl,hw⟩;subst hw) | (refine ⟨trivial,?_⟩;gi_at_call 80;refine (callsIn_wide.2 HH.out).mono ?_;rintro e w2 ⟨rfl,hw⟩;subst hw))
   refine ⟨trivial,?_⟩
   refine (callsIn_wide.2 HT1.out).mono ?_;rintro e w2 ⟨rfl,hs2,hf2⟩
   have hj2:=HJ.out _ _ _ _ _ HJ1.out (hf2.mono (S':=RdB rb fb wb k1 wv1) fun q _ e=>.inr (.inl e)) (fun q hq=>.inl hq)
   have hd2:=HD.out.src' hs2 hf2
   have hr2:=row_kept HR.out hf2 hz (fun q e=>by rw [e];exact HB.out fb (.inr (.inl rfl)))
   have b2:w2.cell? ⟨ab,ao,none⟩=some (.int .u8 (c0:Int)):=by rw [← HC0.out];exact hr2.addr (k:=0) (by omega)
   obtain ⟨s0,s1,s2,s3,s4,s5,s6⟩:=hd2.cells
   rw [hb1] at s5
   have HS2:=hid hs2
   clear hs2 hf2 hd2 hr2 s0 s1 s2 s3 s4 s6 r2 r5 r6 b0 hb2 hb3
   obtain ⟨fn,tmps,assign,body,hy,hR⟩:=HYE.out 11 w2 ⟨_,_,_,_,HS2.out,by have:=HU.out;omega⟩ hj2
   replace hy:(Instr.yield l #[.slice none 0 0,.int .i64 11]).run Tryz.prog w2=.ok (.round l fn tmps assign body) w2:=hy
   clear hj2
   gi_wp2
   refine hR.mono ?_
   rintro e W' (⟨rfl,hJ',hk⟩ | ⟨rfl,hJx'⟩)
   ·gi_wp2
    refine bodyPost_ret (results_none rfl _ _ _) rfl ?_
    exact ⟨⟨_,rfl⟩,.inl ⟨_,_,(HEND.out 11 _ W' HEV.out rfl rfl).1 hJ',hJ'⟩⟩
   gi_wp2
   refine bodyPost_ret (results_none rfl _ _ _) rfl ?_
   exact ⟨⟨_,rfl⟩,.inr ⟨_,_,(HEND.out 11 _ W' HEV.out rfl rfl).2,hJx'⟩⟩
  have hb0:headN c0=5∧x1.props=false:=by
   rcases hbad with h | h
   ·exact absurd h hba
   exact h
  have hm5:m=5:=by rw [← HM.out];exact hb0.1
  have hb2:=hb0.2
  have hb1:x1.begun=true:=by
   cases hb:x1.begun with
   | true=>rfl
   | false =>
    exfalso
    refine hba ⟨hb,?_⟩
    have h5:=hb0.1
    unfold headN at h5
    repeat' split at h5
    all_goals omega
  subst hm5
  have e5:((5:Nat):Int)=5:=rfl
  rw [e5] at HT1 HH
  clear e5 q0 q1 hbad hba hb0
  gi_wp2_with (first | (refine ⟨trivial,?_⟩;gi_at_call 51;refine (callsIn_wide.2 HP.out).mono ?_;rintro e w2 ⟨rfl,hw⟩;subst hw) | (refine ⟨trivial,?_⟩;gi_at_call 80;refine (callsIn_wide.2 HH.out).mono ?_;rintro e w2 ⟨rfl,hw⟩;subst hw))
  refine ⟨trivial,?_⟩
  refine (callsIn_wide.2 HT1.out).mono ?_;rintro e w2 ⟨rfl,hs2,hf2⟩
  have hj2:=HJ.out _ _ _ _ _ HJ1.out (hf2.mono (S':=RdB rb fb wb k1 wv1) fun q _ e=>.inr (.inl e)) (fun q hq=>.inl hq)
  have hd2:=HD.out.src' hs2 hf2
  have hr2:=row_kept HR.out hf2 hz (fun q e=>by rw [e];exact HB.out fb (.inr (.inl rfl)))
  have b2:w2.cell? ⟨ab,ao,none⟩=some (.int .u8 (c0:Int)):=by rw [← HC0.out];exact hr2.addr (k:=0) (by omega)
  obtain ⟨s0,s1,s2,s3,s4,s5,s6⟩:=hd2.cells
  rw [hb1] at s5
  rw [hb2] at s6
  have HS2:=hid hs2
  clear hs2 hf2 hd2 hr2 s0 s1 s2 s3 s4 r2 r5 r6 b0
  obtain ⟨fn,tmps,assign,body,hy,hR⟩:=HYE.out 11 w2 ⟨_,_,_,_,HS2.out,by have:=HU.out;omega⟩ hj2
  replace hy:(Instr.yield l #[.slice none 0 0,.int .i64 11]).run Tryz.prog w2=.ok (.round l fn tmps assign body) w2:=hy
  clear hj2
  gi_wp2
  refine hR.mono ?_
  rintro e W' (⟨rfl,hJ',hk⟩ | ⟨rfl,hJx'⟩)
  ·gi_wp2
   refine bodyPost_ret (results_none rfl _ _ _) rfl ?_
   exact ⟨⟨_,rfl⟩,.inl ⟨_,_,(HEND.out 11 _ W' HEV.out rfl rfl).1 hJ',hJ'⟩⟩
  gi_wp2
  refine bodyPost_ret (results_none rfl _ _ _) rfl ?_
  exact ⟨⟨_,rfl⟩,.inr ⟨_,_,(HEND.out 11 _ W' HEV.out rfl rfl).2,hJx'⟩⟩
 have hnb:(x1.begun=true∧m≠5)∨(x1.begun=true∧m=5∧x1.props=true)∨(x1.begun=false∧c0=1∧m≠5)∨(x1.begun=false∧224≤c0∧m≠5):=by
  unfold badHead at hbad
  have hmc:=HM.out
  have h5:m=5→x1.props=true:=by
   intro e
   cases hp:x1.props with
   | true=>rfl
   | false=>exact absurd (.inr ⟨by rw [hmc];exact e,hp⟩) hbad
  have h5c:c0=1∨224≤c0→m≠5:=by
   intro e e5
   rw [e5] at hmc
   unfold headN at hmc
   repeat' split at hmc
   all_goals omega
  cases hg:x1.begun with
  | true =>
   by_cases e5:m=5
   ·exact .inr (.inl ⟨rfl,e5,h5 e5⟩)
   ·exact .inl ⟨rfl,e5⟩
  | false =>
   have:c0=1∨224≤c0:=by
    rcases Nat.lt_or_ge c0 224 with hlt | hge
    ·by_cases e1:c0=1
     ·exact .inl e1
     exact absurd (.inl ⟨hg,e1,hlt⟩) hbad
    exact .inr hge
   rcases this with e | e
   ·exact .inr (.inr (.inl ⟨rfl,e,h5c (.inl e)⟩))
   exact .inr (.inr (.inr ⟨rfl,e,h5c (.inr e)⟩))
 have HNB:=hid hnb
 have hone2:one S x1 src=oneBody S x1 c0 (src.take m) (src.drop m):=by
  rw [HO.out,if_neg hm0,if_neg hml,if_neg hm1,if_neg hbad]
 have HO2:=hid hone2
 have hm0i:(0:Int)<(m:Int):=by omega
 clear hnb hone2 hbad HO
 gi_wp2_with (first | (refine ⟨trivial,?_⟩;gi_at_call 51;refine (callsIn_wide.2 HP.out).mono ?_;rintro e w2 ⟨rfl,hw⟩;subst hw) | (refine ⟨trivial,?_⟩;gi_at_call 80;refine (callsIn_wide.2 HH.out).mono ?_;rintro e w2 ⟨rfl,hw⟩;subst hw))
 refine ⟨trivial,?_⟩
 refine (callsIn_wide.2 HT1.out).mono ?_;rintro e w2 ⟨rfl,hs2,hf2⟩
 have hj2:=HJ.out _ _ _ _ _ HJ1.out (hf2.mono (S':=RdB rb fb wb k1 wv1) fun q _ e=>.inr (.inl e)) (fun q hq=>.inl hq)
 have hd2:=HD.out.src' hs2 hf2
 have hr2:=row_kept HR.out hf2 hz (fun q e=>by rw [e];exact HB.out fb (.inr (.inl rfl)))
 have b2:w2.cell? ⟨ab,ao,none⟩=some (.int .u8 (c0:Int)):=by rw [← HC0.out];exact hr2.addr (k:=0) (by omega)
 obtain ⟨s0,s1,s2,s3,s4,s5,s6⟩:=hd2.cells
 have hz2:B0≤w2.heap.size:=Nat.le_trans hz hf2.size
 have HBD:=hid (body_p rb fb wb kb base S B0 k1 x1 wv1 (takeA (some ⟨ab,ao,none⟩) c1 m) (n1-m) (c1-m) (used1+m) most (src.drop m) (src.take m) (some ⟨ab,ao,none⟩) c0 m w2 hd2 HB.out hz2 hS (by rw [List.length_drop];omega) (hr2.drop (by omega)) (by omega) (by omega) (hr2.take m) HM.out.symm (by rw [List.length_take];omega) (by rw [getD_takeU src (by omega)];exact HC0.out) ⟨hm0,hm1⟩ (by have:=HU.out;omega) (by have:=HT.out;omega))
 have HJ2:=hid hj2
 have HD2:=hid hd2
 have HF2:=hid hf2
 clear hj2 hd2 hf2 hs2 hr2 r2 r5 r6 b0 s0 s1 s2 s3 s4 HP HH HT1
 dsimp only
 iterate 40 (first | (with_reducible show Code.wpIn _ _ _ (Code.block 2 _) _ _ _) | go_values | gi_guarded | gi_step | gi_upon | gi_back)
 gi_cut [] from 40 (fun wx=>wx=w2)
 case first =>
  rcases HNB.out with ⟨e1,e5⟩ | ⟨e1,e5,e6⟩ | ⟨e1,ec,e5⟩ | ⟨e1,ec,e5⟩
  ·have q5:((m:Int)==5)=false:=beq_eq_false_iff_ne.2 (by omega)
   rw [e1] at s5
   clear s6 e5
   gi_wp2
   gi_meet
   case rel=>rfl
  ·have q5:((m:Int)==5)=true:=beq_iff_eq.2 (by omega)
   rw [e1] at s5
   rw [e6] at s6
   clear e5
   gi_wp2
   gi_meet
   case rel=>rfl
  ·have q5:((m:Int)==5)=false:=beq_eq_false_iff_ne.2 (by omega)
   have qc:((c0:Int) != 1)=false:=by simp [ec]
   rw [e1] at s5
   clear s6 e5 ec
   gi_wp2
   gi_meet
   case rel=>rfl
  have q5:((m:Int)==5)=false:=beq_eq_false_iff_ne.2 (by omega)
  have qc:((c0:Int) != 1)=true:=bne_iff_ne.2 (by omega)
  have qd:(224:Int)≤(c0:Int):=by omega
  rw [e1] at s5
  clear s6 e5 ec
  gi_wp2
  gi_meet
  case rel=>rfl
 case rest =>
 have hw2:w2=wc:=hcut.symm
 subst hw2
 clear hcut s5 s6 b2 hm0i
 have HG:=hid hlen
 have hfin:∀ (e:Nat) (xk:Ck) (W':World),oneBody S x1 c0 (src.take m) (src.drop m)=.err e→xk.b=[]→xk.e=e→((J (RdB rb fb wb k1 wv1) (pre++[xk]) W'→SC E fb un B0 (RdB rb fb wb k1 wv1) (pre++[xk]) W')∧SpC E (pre++[xk])):=by
  intro e xk W' he hb' he'
  exact HEND.out e xk W' (by unfold evGo;rw [HO2.out,he]) hb' he'
 have htwr:IntKind.i64.wrap (told:Int)=(told:Int):=Go.IntWalk.i64_in _ (by have:=HT.out;omega)
 cases hR:oneBody S x1 c0 (src.take m) (src.drop m) with
 | fin r =>
  exfalso
  have hne:=hR
  unfold oneBody at hne
  repeat' split at hne
  all_goals first | (cases hne;done) | (unfold oneLz at hne;split at hne <;> cases hne)
 | err z =>
  have hz0:z≠0:=one_err (S:=S) (x:=x1) (src:=src) (by rw [HO2.out,hR])
  have qz:((z:Int)==0)=false:=beq_eq_false_iff_ne.2 (by omega)
  have HF:=hid (fun xk W'=>hfin z xk W' hR)
  rw [hR] at HBD
  clear hfin hR hz0
  gi_wp2_with fail
  refine ⟨trivial,?_⟩
  refine (callsIn_wide.2 HBD.out).mono ?_
  rintro e w3 ⟨hf3,rfl,t,bg,pp,A3,n3,c3,used3,hp3,ht3,hs3,hu3⟩
  have r3:w3.cell? ⟨rb,3,none⟩=some (.int .i64 (t:Int)):=by rw [hp3.cell];rfl
  have z3:=hp3.frozen 3
  have htw:IntKind.i64.wrap (t:Int)=(t:Int):=Go.IntWalk.i64_in _ (by omega)
  have hj3:=HJ.out _ _ _ _ _ HJ2.out hf3 (fun q hq=>.inl hq)
  have hf4:Frm (RdB rb fb wb k1 wv1) w3 (w3.setCell ⟨rb,3,none⟩ (.int .i64 (t:Int))):=Frm.setCell (p:=⟨rb,3,none⟩) (Frm.refl _ w3) (.inl rfl) _
  have hj4:=HJ.out _ _ _ _ _ hj3 hf4 (fun q hq=>.inl hq)
  have hs4:SrcAt (w3.setCell ⟨rb,3,none⟩ (.int .i64 (t:Int))) fb A3 n3 c3 used3:=Pts.other hs3 (p:=⟨rb,3,none⟩) (hp3.ne_of hs3 (by decide)).symm _
  obtain ⟨fn,tmps,assign,body,hy,hRr⟩:=HYE.out z _ ⟨_,_,_,_,hs4,by have:=HU.out;omega⟩ hj4
  replace hy:(Instr.yield l #[.slice none 0 0,.int .i64 (z:Int)]).run Tryz.prog (w3.setCell ⟨rb,3,none⟩ (.int .i64 (t:Int)))=.ok (.round l fn tmps assign body) (w3.setCell ⟨rb,3,none⟩ (.int .i64 (t:Int))):=hy
  clear hj3 hf4 hj4 hs4 hf3 hp3 ht3 hs3 hu3
  gi_wp2
  refine hRr.mono ?_
  rintro e W' (⟨rfl,hJ',hk⟩ | ⟨rfl,hJx'⟩)
  ·gi_wp2
   refine bodyPost_ret (results_none rfl _ _ _) rfl ?_
   exact ⟨⟨_,rfl⟩,.inl ⟨_,_,(HF.out _ W' rfl rfl).1 hJ',hJ'⟩⟩
  ·gi_wp2
   refine bodyPost_ret (results_none rfl _ _ _) rfl ?_
   exact ⟨⟨_,rfl⟩,.inr ⟨_,_,(HF.out _ W' rfl rfl).2,hJx'⟩⟩
 | told b y rest =>
  rw [hR] at HBD
  have hev:=HO2.out
  rw [hR] at hev
  have HEV:=hid hev
  have HBF:=hid (body_facts HD2.out.st hR)
  obtain ⟨L,hL⟩:∃ L,b.length=L:=⟨_,rfl⟩
  obtain ⟨told2,htold2⟩:∃ x,told+L=x:=⟨_,rfl⟩
  obtain ⟨yt,hyt⟩:∃ x,y.total=x:=⟨_,rfl⟩
  have hLb:L≤2097152:=by have:=HBF.out.2.1;omega
  have hytb:yt≤x1.total:=by have:=HBF.out.1;omega
  have hyt62:yt≤4611686018427387904:=by have:=HT.out;omega
  have hti:(told:Int)+(L:Int)=(told2:Int):=by omega
  have htw2:IntKind.i64.wrap (told2:Int)=(told2:Int):=Go.IntWalk.i64_in _ (by have:=HT.out;omega)
  have HL:=hid hL
  have HT2:=hid htold2
  have HYT:=hid hyt
  clear hfin hR hev
  by_cases hover:most<told2
  ·have qo:(most:Int)<(told2:Int):=by omega
   have htw:IntKind.i64.wrap (yt:Int)=(yt:Int):=Go.IntWalk.i64_in _ (by omega)
   have HF:Hid (∀ (xk:Ck) (W':World),xk.b=[]→xk.e=3→((J (RdB rb fb wb k1 wv1) (pre++[xk]) W'→SC E fb un B0 (RdB rb fb wb k1 wv1) (pre++[xk]) W')∧SpC E (pre++[xk]))) :=
    hid (fun xk W'=>HEND.out 3 xk W' (by unfold evGo;rw [HEV.out];simp only;rw [if_pos (by have:=HL.out;have:=HT2.out;omega)]))
   clear hytb hLb hover
   gi_wp2_with fail
   refine ⟨trivial,?_⟩
   refine (callsIn_wide.2 HBD.out).mono ?_
   rintro e w3 ⟨hf3,k',wv',A',n',c',used',Ab,cb,rfl,hd3,hr3,hn3,hc3,hcm3,hu3,hrb3,hbc3,hcb3,hsb3,hlb3,hmv3⟩
   obtain ⟨r0,r1,r2,r3,r4,r5,r6⟩:=hd3.cells
   rw [HYT.out] at r3
   rw [HL.out]
   have z3:=hd3.p.frozen 3
   have hj3:=HJ.out _ _ _ _ _ HJ2.out hf3 (fun q hq=>.inl hq)
   have hf4:Frm (RdB rb fb wb k1 wv1) w3 (w3.setCell ⟨rb,3,none⟩ (.int .i64 (yt:Int))):=Frm.setCell (p:=⟨rb,3,none⟩) (Frm.refl _ w3) (.inl rfl) _
   have hj4:=HJ.out _ _ _ _ _ hj3 hf4 (fun q hq=>.inl hq)
   have hs4:SrcAt (w3.setCell ⟨rb,3,none⟩ (.int .i64 (yt:Int))) fb A' n' c' used':=Pts.other hd3.src (p:=⟨rb,3,none⟩) (hd3.p.ne_of hd3.src (by decide)).symm _
   obtain ⟨fn,tmps,assign,body,hy,hRr⟩:=HYE.out 3 _ ⟨_,_,_,_,hs4,by have:=HU.out;omega⟩ hj4
   replace hy:(Instr.yield l #[.slice none 0 0,.int .i64 3]).run Tryz.prog (w3.setCell ⟨rb,3,none⟩ (.int .i64 (yt:Int)))=.ok (.round l fn tmps assign body) (w3.setCell ⟨rb,3,none⟩ (.int .i64 (yt:Int))):=hy
   clear hj3 hf4 hj4 hs4 hf3 hd3 hr3 hn3 hc3 hcm3 hu3 hrb3 hbc3 hcb3 hsb3 hlb3 hmv3 r0 r1 r2 r5 r6
   gi_wp2
   refine hRr.mono ?_
   rintro e W' (⟨rfl,hJ',hk⟩ | ⟨rfl,hJx'⟩)
   ·gi_wp2
    refine bodyPost_ret (results_none rfl _ _ _) rfl ?_
    exact ⟨⟨_,rfl⟩,.inl ⟨_,_,(HF.out _ W' rfl rfl).1 hJ',hJ'⟩⟩
   gi_wp2
   refine bodyPost_ret (results_none rfl _ _ _) rfl ?_
   exact ⟨⟨_,rfl⟩,.inr ⟨_,_,(HF.out _ W' rfl rfl).2,hJx'⟩⟩
  have qo:(told2:Int)≤(most:Int):=by omega
  obtain ⟨yt2,hyt2⟩:∃ x,yt+L=x:=⟨_,rfl⟩
  have hyi:(yt:Int)+(L:Int)=(yt2:Int):=by omega
  have htw:IntKind.i64.wrap (yt2:Int)=(yt2:Int):=Go.IntWalk.i64_in _ (by omega)
  have HY2:=hid hyt2
  have HO:=hid hover
  have HLY:=hid hytb
  clear hytb hLb hover hyt2
  gi_wp2_with fail
  refine ⟨trivial,?_⟩
  refine (callsIn_wide.2 HBD.out).mono ?_
  rintro e w3 ⟨hf3,k',wv',A',n',c',used',Ab,cb,rfl,hd3,hr3,hn3,hc3,hcm3,hu3,hrb3,hbc3,hcb3,hsb3,hlb3,hmv3⟩
  obtain ⟨r0,r1,r2,r3,r4,r5,r6⟩:=hd3.cells
  rw [HYT.out] at r3
  rw [HL.out]
  have z3:=hd3.p.frozen 3
  have hN3:∀ q,RdB rb fb wb k' wv' q→q<w3.heap.size:=by
   rintro q (e | e | e | e | e | e)
   ·rw [e];exact hd3.p.lt
   ·rw [e];exact Pts.lt hd3.src
   ·rw [e];exact hd3.win.pts.choose_spec.lt
   ·rw [e];exact hd3.s.m.lt
   ·rw [e];exact hd3.s.l.lt
   obtain ⟨l,ho⟩:=hd3.win.own
   exact (ho.lt e).2
  have hNN:∀ q,RdB rb fb wb k' wv' q→RdB rb fb wb k1 wv1 q∨(w2.heap.size≤q∧q<w3.heap.size):=by
   intro q hq
   have hlt:=hN3 q hq
   rcases hq with e | e | e | e | e | e
   ·exact .inl (.inl e)
   ·exact .inl (.inr (.inl e))
   ·exact .inl (.inr (.inr (.inl e)))
   ·exact .inl (.inr (.inr (.inr (.inl (e.trans hsb3)))))
   ·rcases hlb3 with e2 | e2
    ·exact .inl (.inr (.inr (.inr (.inr (.inl (e.trans e2))))))
    exact .inr ⟨by omega,hlt⟩
   rcases hmv3 q e with e2 | e2
   ·exact .inl (.inr (.inr (.inr (.inr (.inr e2)))))
   exact .inr ⟨e2,hlt⟩
  have hj3:=HJ.out _ _ _ _ _ HJ2.out hf3 hNN
  obtain ⟨hd4,hf4⟩:=hd3.own 3 (.int .i64 (yt2:Int)) { y with total:=y.total+b.length } ⟨rfl,rfl,rfl,rfl,rfl,rfl,rfl⟩ (by rw [HL.out,HYT.out,HY2.out];rfl)
  have hj4:=HJ.out _ _ _ _ _ hj3 (hf4.mono (S':=RdB rb fb wb k' wv') fun q _ e=>.inl e) (fun q hq=>.inl hq)
  have hB3:∀ q,RdB rb fb wb k' wv' q→B0≤q:=by
   intro q hq
   rcases hNN q hq with e | e
   ·exact HB.out q e
   omega
  have hz3:B0≤w3.heap.size:=Nat.le_trans hz2 hf3.size
  have hr4:=row_kept hr3 hf4 hz3 (fun q e=>by rw [e];exact hB3 rb (.inl rfl))
  have hrb4:BRow (w3.setCell ⟨rb,3,none⟩ (.int .i64 (yt2:Int))) (w3.setCell ⟨rb,3,none⟩ (.int .i64 (yt2:Int))).heap.size Ab b:=(hrb3.setI64 r3 _).more hf4.size
  obtain ⟨fn,tmps,assign,body,hy,hRr⟩:=HY.out _ pre ⟨.slice Ab b.length cb,b,0⟩ _ hj4 ⟨⟨_,_,_,_,hd4.src,by have:=HU.out;omega⟩,Ab,cb,rfl,hrb4,hbc3,hcb3,by rw [← HTS.out];have:=HL.out;have:=HT2.out;have:=HO.out;simp only;omega,fun h=>absurd rfl h⟩
  have hy2:(Instr.yield l #[.slice Ab L cb,.int .i64 0]).run Tryz.prog (w3.setCell ⟨rb,3,none⟩ (.int .i64 (yt2:Int)))=.ok (.round l fn tmps assign body) (w3.setCell ⟨rb,3,none⟩ (.int .i64 (yt2:Int))):=by
   rw [← HL.out];exact hy
  have D4:=hid hd4
  have R4:=hid hr4
  have B4:=hid hB3
  have Z4:=hid (Nat.le_trans hz3 hf4.size)
  have N4:Hid (n'=rest.length∧n'≤c'∧c'≤maxLen∧used'+n'=un):=hid ⟨hn3,hc3,hcm3,by have:=HU.out;omega⟩
  clear hy hj3 hf4 hj4 hf3 hd3 hr3 hn3 hc3 hcm3 hu3 hrb3 hbc3 hcb3 hsb3 hlb3 hmv3 r0 r1 r2 r5 r6 hN3 hNN hd4 hr4 hrb4 hB3 hz3
  gi_wp2
  refine hRr.mono ?_
  rintro e W' (⟨rfl,hJ',hk⟩ | ⟨rfl,hJx'⟩)
  ·have D5:=hid (D4.out.frm hk (fun q hq hn=>hn.1 hq))
   have R5:=hid (row_kept R4.out hk Z4.out (fun q hq=>hq.2))
   have Z5:=hid (Nat.le_trans Z4.out hk.size)
   have HJ5:=hid hJ'
   clear hJ' hk hRr
   gi_wp2
   gi_roundg g
   case rel =>
    refine ⟨pre++[⟨.slice Ab b.length cb,b,0⟩],told2,{ y with total:=y.total+b.length },k',wv',A',n',c',used',rest,rfl,HJ5.out,D5.out,R5.out,N4.out.1,N4.out.2.1,N4.out.2.2.1,N4.out.2.2.2,B4.out,Z5.out,?_,?_,by omega,?_,?_,?_⟩
    ·have:=HLY.out;have:=HL.out;have:=HT2.out;have:=HYT.out;simp only;omega
    ·have:=HBF.out.2.2;have h2:(src.drop m).length=src.length-m:=List.length_drop;have:=HG.out;omega
    ·rw [← HT2.out,HTS.out,← HL.out];simp [sumC]
    ·rw [HE1.out,List.map_append]
     conv=>lhs;unfold evGo
     rw [HEV.out]
     simp only
     rw [if_neg (by have:=HL.out;have:=HT2.out;have:=HO.out;omega)]
     simp [ckP,← HT2.out,HL.out]
    rw [HE2.out]
    conv=>lhs;unfold evGo
    rw [HEV.out]
    simp only
    rw [if_neg (by have:=HL.out;have:=HT2.out;have:=HO.out;omega)]
    simp [← HT2.out,HL.out]
   case measure=>omega
  gi_wp2
  refine bodyPost_ret (results_none rfl _ _ _) rfl ?_
  refine ⟨⟨_,rfl⟩,.inr ⟨_,_,?_,hJx'⟩⟩
  unfold SpC
  rw [HE1.out,List.map_append]
  refine (List.prefix_append_right_inj _).2 ?_
  unfold evGo
  rw [HEV.out]
  simp only
  rw [if_neg (by have:=HL.out;have:=HT2.out;have:=HO.out;omega)]
  exact ⟨_,rfl⟩
open Go.RowKit Rng Win Lz
theorem evErr_zero {l:List (List UInt8×Nat)} (h:∀ p∈l,p.2=0):evErr l=0:=by
 unfold evErr
 have:(l.map (·.2)).find? (· ≠ 0)=none:=List.find?_eq_none.2 (by
  intro a ha
  obtain ⟨q,hq,rfl⟩:=List.mem_map.1 ha
  simp [h q hq])
 rw [this]
 rfl
theorem evErr_snoc {l:List (List UInt8×Nat)} {p:List UInt8×Nat} (h:∀ q∈l,q.2=0) (hp:p.2≠0):evErr (l++[p])=p.2:=by
 unfold evErr
 have:(l.map (·.2)).find? (· ≠ 0)=none:=List.find?_eq_none.2 (by
  intro a ha
  obtain ⟨q,hq,rfl⟩:=List.mem_map.1 ha
  simp [h q hq])
 rw [List.map_append,List.find?_append,this]
 simp [hp]
theorem ev_stop {S most f told:Nat} {x:DS} {src:List UInt8} {l:List (List UInt8×Nat)} {p:List UInt8×Nat} (h:l++[p] <+: (evGo S most f x told src).1) (hp:p.2≠0) :
 (evGo S most f x told src).1=l++[p]∧(evGo S most f x told src).2=none∧∀ q∈l,q.2=0:=by
 obtain ⟨t,ht⟩:=h
 rcases evGo_ok S most f x told src with ⟨m,b,e,h1,h2,h3,h4,h5⟩ | ⟨_,h2⟩
 ·rw [h1] at ht
  rcases List.eq_nil_or_concat t with rfl | ⟨t',z,rfl⟩
  ·rw [List.append_nil] at ht
   obtain ⟨e1,e2⟩:=List.append_inj' ht rfl
   refine ⟨by rw [h1,← ht],h4,?_⟩
   rw [e1]
   exact h5
  rw [List.concat_eq_append,← List.append_assoc] at ht
  obtain ⟨e1,e2⟩:=List.append_inj' ht rfl
  exfalso
  refine hp (h5 p ?_)
  rw [← e1]
  simp
 exfalso
 refine hp (h2 p ?_)
 rw [← ht]
 simp
theorem ev_none {S most f told:Nat} {x:DS} {src:List UInt8} (h:∀ q∈(evGo S most f x told src).1,q.2=0):∃ r,(evGo S most f x told src).2=some r:=by
 rcases evGo_ok S most f x told src with ⟨m,b,e,h1,h2,h3,h4,h5⟩ | ⟨⟨r,h1⟩,_⟩
 ·exfalso
  refine h2 (h (b,e) ?_)
  rw [h1]
  simp
 exact ⟨r,h1⟩
def d2E (S most:Nat) (src:List UInt8):List (List UInt8×Nat)×Option (List UInt8):=evGo S most (src.length+1) newDS 0 src
theorem d2E_d2P (S most:Nat) (src:List UInt8):d2P S most src=(evOut (d2E S most src).1,match (d2E S most src).2 with | none=>.inl (evErr (d2E S most src).1) | some r=>.inr r):=by
 unfold d2P
 rw [evGo_d2Go]
 rfl
end Go.Proofs.YtffehfpbdcokbaaGreat
