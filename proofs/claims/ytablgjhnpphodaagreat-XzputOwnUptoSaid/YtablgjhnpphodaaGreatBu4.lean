import Derived.Deep.CutBlock
import Derived.StillTailTactics
import Derived.Tactics2
import Derived.RangeFuncNested
import Derived.Test.YtablgjhnpphodaaGreatFrm
import Derived.RangeFuncBound
import Derived.RangeFuncCalls
import Derived.RangeFuncLeaves
import Derived.OwnWalkIn
import Derived.TacticsInMore
import Derived.LoopNIn
import Derived.LoopIn
import Derived.Sort.LoopGhostIn
import Derived.Sort.CutIn
import Derived.BigFrameIn
import Derived.Test.YtablgjhnpphodaaGreatBu3
set_option linter.unusedVariables false
set_option linter.unusedSimpArgs false
namespace Go.Proofs.YtablgjhnpphodaaGreat
open Lib (hid)
open Go.RowKit Rng Win Lz
theorem chunkGo_lk (k:LK) (S total n:Nat):∀ (f:Nat) (told:List UInt8) (x:RS),chunkGo k S total n f told x=chunkGo ⟨0,0,k.lc,k.lp,k.pb⟩ S total n f told x
 | 0,_,_=>rfl
 | f+1,told,x=>by
  have ih:=chunkGo_lk k S total n f
  have e:∀ a b,stepOf k S a b x=stepOf ⟨0,0,k.lc,k.lp,k.pb⟩ S a b x:=fun a b=>rfl
  unfold chunkGo
  split
  ·rfl
  rw [← e]
  cases stepOf k S (total+told.length) (n-told.length) x with
  | none=>rfl
  | some p=>obtain ⟨b,y⟩:=p;exact ih (told++b) y
theorem chunkOf_lk (k:LK) (S total n st:Nat) (rep:Nat→Nat) (pr:Pr) (C bs:List UInt8):chunkOf k S total n st rep pr C bs=chunkOf ⟨0,0,k.lc,k.lp,k.pb⟩ S total n st rep pr C bs:=by
 unfold chunkOf
 rw [chunkGo_lk]
section
variable {w w' : World} {rb fb wb kb base S : Nat} {k : LK} {x : DS} {wv : Value} {A : Option Addr} {n c used : Nat} {most : Int}
theorem RdS.win' {N:Nat→Prop} {C':List UInt8} {wv':Value} (h:RdS w rb fb wb kb base S k x wv A n c used most) (hw:WinC w' base wb kb S C' wv') (hf:Frm N w w') (hN:∀ q,q=rb∨q=fb∨q=k.sb∨q=k.lb→¬ N q) :
 RdS w' rb fb wb kb base S k { x with C:=C' } wv' A n c used most :=
 ⟨h.p.frm hf (hN _ (.inl rfl)),h.s.frm hf (hN _ (.inr (.inr (.inl rfl)))) (hN _ (.inr (.inr (.inr rfl)))),h.ks,h.ok,h.st,hw,Nat.le_trans h.b hf.size,Pts.frm h.src hf (hN _ (.inr (.inl rfl)))⟩
theorem RdS.src' {A':Option Addr} {n' c' used':Nat} (h:RdS w rb fb wb kb base S k x wv A n c used most) (hs:SrcAt w' fb A' n' c' used') (hf:Frm (· = fb) w w'):RdS w' rb fb wb kb base S k x wv A' n' c' used' most:=by
 obtain ⟨n1,n2,n3,n4,n5,n6,n7,n8,n9,n10⟩:=h.ne
 exact ⟨h.p.frm hf n1,h.s.frm hf (fun e=>n6 e.symm) (fun e=>n7 e.symm),h.ks,h.ok,h.st,h.win.frm hf (fun e=>n5 e.symm) (fun q hq e=>(n10 q hq).2.1 e.symm),Nat.le_trans h.b hf.size,hs⟩
theorem RdS.st' {k':LK} {y:DS} (h:RdS w rb fb wb kb base S k x wv A n c used most) (hsb:k'.sb=k.sb) (hlb:w.heap.size≤k'.lb) (hs:StAt w' k' y.st y.rep y.pr) (hk:k'.lc=y.lc∧k'.lp=y.lp∧k'.pb=y.pb) (hok:k'.Ok) (hst:y.st<12∧∀ j,y.rep j<4294967296)
 (hy:y.total=x.total∧y.begun=x.begun∧y.props=x.props∧y.C=x.C) (hf:Frm (· = k.sb) w w'):RdS w' rb fb wb kb base S k' y wv A n c used most:=by
 obtain ⟨n1,n2,n3,n4,n5,n6,n7,n8,n9,n10⟩:=h.ne
 obtain ⟨y1,y2,y3,y4⟩:=hy
 have hp:=h.p.frm hf n3
 rw [← hsb,← y1,← y2,← y3] at hp
 refine ⟨hp,hs,hk,hok,hst,?_,Nat.le_trans h.b hf.size,Pts.frm h.src hf n6⟩
 rw [y4]
 exact h.win.frm hf (fun e=>n8 e) (fun q hq e=>(n10 q hq).2.2.1 e.symm)
end
def RdOwn (w:World) (rb fb wb sb:Nat) (most:Int) (un:Nat):Prop:=∃ (t:Nat) (bg pp:Bool) (A:Option Addr) (n c used:Nat),Pts w rb #[.pointer (some ⟨wb,0,none⟩),.pointer (some ⟨sb,0,none⟩),.pointer (some ⟨fb,0,none⟩),.int .i64 t,.int .i64 most,.bool bg,.bool pp] 182∧t<9223372036854775808∧SrcAt w fb A n c used∧used≤un
theorem RdS.ownB {w:World} {rb fb wb kb base S:Nat} {k:LK} {x:DS} {wv:Value} {A:Option Addr} {n c used:Nat} {most:Int} (h:RdS w rb fb wb kb base S k x wv A n c used most) (ht:x.total<9223372036854775808) {un:Nat} (hu:used≤un):RdOwn w rb fb wb k.sb most un:=⟨x.total,x.begun,x.props,A,n,c,used,h.p,ht,h.src,hu⟩
theorem RdOwn.frm {N:Nat→Prop} {w w':World} {rb fb wb sb un:Nat} {most:Int} (h:RdOwn w rb fb wb sb most un) (hf:Frm N w w') (hN:¬ N rb) (hN2:¬ N fb):RdOwn w' rb fb wb sb most un:=by
 obtain ⟨t,bg,pp,A,n,c,used,hp,ht,hs,hu⟩:=h
 exact ⟨t,bg,pp,A,n,c,used,hp.frm hf hN,ht,Pts.frm hs hf hN2,hu⟩
theorem dict_total (x:DS) (c:Nat):(x.dict c).total≤x.total:=by
 unfold DS.dict DS.clear
 repeat' split
 all_goals first | exact Nat.zero_le _ | exact Nat.le_refl _
def BodyEnd (rb fb wb kb base S B0:Nat) (k:LK) (wv:Value) (most:Int) (un:Nat) (w:World) (R:OneR) (e:Ending) (w':World):Prop :=
 Frm (RdB rb fb wb k wv) w w' ∧
 match R with
 | .err z=>e=.returned (.tuple #[.slice none 0 0,.int .i64 ((z:Nat):Int)])∧RdOwn w' rb fb wb k.sb most un
 | .fin _=>False
 | .told b y rest=>∃ (k':LK) (wv':Value) (A':Option Addr) (n' c' used':Nat) (Ab:Option Addr) (cb:Nat),e=.returned (.tuple #[.slice Ab b.length cb,.int .i64 0])∧RdS w' rb fb wb kb base S k' y wv' A' n' c' used' most ∧
  BRow w' B0 A' rest∧n'=rest.length∧n'≤c'∧c'≤maxLen∧used'+n'=un∧BRow w' w'.heap.size Ab b∧b.length≤cb∧cb≤maxLen∧k'.sb=k.sb∧(k'.lb=k.lb∨w.heap.size≤k'.lb)∧Mv w wv wv'
theorem twoB_le (h:List UInt8) (i:Nat):twoB h i<65536:=by
 unfold twoB
 have h1:=(h.getD i 0).toNat_lt
 have h2:=(h.getD (i+1) 0).toNat_lt
 omega
theorem shl8 (x:UInt8):IntKind.i64.wrap ((x.toNat:Int)*256)=(x.toNat:Int)*256:=by
 have h:=x.toNat_lt
 exact Go.IntWalk.i64_in _ (by omega)
theorem take_len {bs:List UInt8} {N:Nat} (h:N≤bs.length):(bs.take N).length=N:=by rw [List.length_take];omega
section
variable {w wx w' : World} {rb fb wb kb base S B0 : Nat} {k : LK} {x : DS} {wv : Value} {A : Option Addr} {n c used : Nat} {most : Int}
def Dict1 (w:World) (rb fb wb kb base S:Nat) (k:LK) (x:DS) (cc:Nat) (wv:Value) (A:Option Addr) (n c used:Nat) (most:Int) (wx:World):Prop :=
 ∃ wv1,RdS wx rb fb wb kb base S k (x.dict cc) wv1 A n c used most∧wv1.ownBlock=wv.ownBlock∧Frm (fun q=>q=rb∨q=wb) w wx
theorem Dict1.not (h:RdS w rb fb wb kb base S k x wv A n c used most) {cc:Nat} (h1:cc≠1) (h2:cc<224):Dict1 w rb fb wb kb base S k x cc wv A n c used most w :=
 ⟨wv,by rw [show x.dict cc=x by unfold DS.dict;rw [if_neg h1,if_neg (by omega)]];exact h,rfl,Frm.refl _ _⟩
theorem RdS.clearP (h:RdS w rb fb wb kb base S k x wv A n c used most):RdS (w.setCell ⟨rb,6,none⟩ (.bool false)) rb fb wb kb base S k { x with props:=false } wv A n c used most∧Frm (· = rb) w (w.setCell ⟨rb,6,none⟩ (.bool false)) :=
 h.own 6 (.bool false) { x with props:=false } ⟨rfl,rfl,rfl,rfl,rfl,rfl,rfl⟩ rfl
theorem RdS.setP (h:RdS w rb fb wb kb base S k x wv A n c used most):RdS (w.setCell ⟨rb,6,none⟩ (.bool true)) rb fb wb kb base S k { x with props:=true } wv A n c used most∧Frm (· = rb) w (w.setCell ⟨rb,6,none⟩ (.bool true)) :=
 h.own 6 (.bool true) { x with props:=true } ⟨rfl,rfl,rfl,rfl,rfl,rfl,rfl⟩ rfl
theorem RdS.begin (h:RdS w rb fb wb kb base S k x wv A n c used most):RdS ((w.setCell ⟨rb,3,none⟩ (.int .i64 0)).setCell ⟨rb,5,none⟩ (.bool true)) rb fb wb kb base S k { x with total:=0,begun:=true } wv A n c used most∧Frm (· = rb) w ((w.setCell ⟨rb,3,none⟩ (.int .i64 0)).setCell ⟨rb,5,none⟩ (.bool true)):=by
 obtain ⟨h1,f1⟩:=h.own 3 (.int .i64 0) { x with total:=0 } ⟨rfl,rfl,rfl,rfl,rfl,rfl,rfl⟩ rfl
 obtain ⟨h2,f2⟩:=h1.own 5 (.bool true) { x with total:=0,begun:=true } ⟨rfl,rfl,rfl,rfl,rfl,rfl,rfl⟩ rfl
 exact ⟨h2,f1.trans f2⟩
theorem row_kept {N:Nat→Prop} {bs:List UInt8} (hr:BRow w B0 A bs) (hf:Frm N w w') (hB0:B0≤w.heap.size) (hN:∀ q,N q→B0≤q):BRow w' B0 A bs:=hr.below (hf.below hB0 hN)
end
set_option maxRecDepth 8000 in
set_option maxHeartbeats 2000000 in
theorem body_raw (rb fb wb kb base S B0:Nat) (k:LK) (x:DS) (wv:Value) (A:Option Addr) (n c used:Nat) (most:Int) (bs hd:List UInt8) (hb off cc:Nat) (w:World)
 (h:RdS w rb fb wb kb base S k x wv A n c used most) (hB:∀ q,RdB rb fb wb k wv q→B0≤q) (hB0:B0≤w.heap.size) (hS:S≤16777216) (hn:n=bs.length) (hr:BRow w B0 A bs) (hc:n≤c) (hcm:c≤maxLen)
 (hhr:BRow w B0 (some ⟨hb,off,none⟩) hd) (hdl:hd.length=3) (hcc:(hd.getD 0 0).toNat=cc) (hleg:cc=1∨cc=2) (hu:used+n≤4611686018427387904) (ht:x.total<9223372036854775808) :
 Calls Tryz.prog 101 #[.pointer (some ⟨rb,0,none⟩),.slice (some ⟨hb,off,none⟩) 3 3] w (BodyEnd rb fb wb kb base S B0 k wv most (used+n) w (oneBody S x cc hd bs)):=by
 have b0:w.cell? ⟨hb,off,none⟩=some (.int .u8 ((cc:Nat):Int)):=by rw [← hcc];exact hhr.addr (k:=0) (by omega)
 have b1:w.cell? ⟨hb,off+1,none⟩=some (.int .u8 (((hd.getD 1 0).toNat:Nat):Int)):=hhr.addr (k:=1) (by omega)
 have b2:w.cell? ⟨hb,off+2,none⟩=some (.int .u8 (((hd.getD 2 0).toNat:Nat):Int)):=hhr.addr (k:=2) (by omega)
 obtain ⟨N,hN⟩:∃ N,twoB hd 1+1=N:=⟨_,rfl⟩
 have hNl:N≤65536:=by have:=twoB_le hd 1;omega
 have hN1:1≤N:=by omega
 have e8:=shl8 (hd.getD 1 0)
 have hsum:((hd.getD 1 0).toNat:Int)*256+((hd.getD 2 0).toNat:Int)+1=(N:Int):=by have e:twoB hd 1=(hd.getD 1 0).toNat*256+(hd.getD 2 0).toNat:=rfl;omega
 have hl1:=(hd.getD 1 0).toNat_lt
 have hl2:=(hd.getD 2 0).toNat_lt
 have hw1:IntKind.i64.wrap (((hd.getD 1 0).toNat:Int)*256+((hd.getD 2 0).toNat:Int))=((hd.getD 1 0).toNat:Int)*256+((hd.getD 2 0).toNat:Int):=Go.IntWalk.i64_in _ (by omega)
 have hw2:IntKind.i64.wrap (N:Int)=(N:Int):=Go.IntWalk.i64_in _ (by omega)
 have HD:=hid h
 have HL:=hid hleg
 have hz:∀ i,w.frozen? ⟨rb,i,none⟩=false:=fun i=>h.p.frozen i
 obtain ⟨r0,r1,r2,r3,r4,r5,r6⟩:=h.cells
 obtain ⟨h1v,hh1⟩:∃ v,(hd.getD 1 0).toNat=v:=⟨_,rfl⟩
 obtain ⟨h2v,hh2⟩:∃ v,(hd.getD 2 0).toNat=v:=⟨_,rfl⟩
 rw [hh1] at b1 e8 hsum hw1 hl1
 rw [hh2] at b2 hsum hw1 hl2
 have hwa:IntKind.i64.wrap (h1v:Int)=(h1v:Int):=Go.IntWalk.i64_in _ (by omega)
 have hwb:IntKind.i64.wrap (h2v:Int)=(h2v:Int):=Go.IntWalk.i64_in _ (by omega)
 have HB:=hid hB
 have HN:=hid hN
 have HHR:=hid hhr
 clear h hz hleg hcc hB hN hhr r0 r1 r2 r3 r4 r5 r6 hh1 hh2
 go_enter Tryz.func101,Tryz.ntmps101
 go_upto_region 2 with fail
 go_still (by kernel_rfl)
 have D0:=hid (HD.out.later ((Frm.refl (fun _=>False) w).drew))
 have F0:Hid (Frm (fun _=>False) w w.drew):=hid ((Frm.refl (fun _=>False) w).drew)
 have hz:∀ i,w.drew.frozen? ⟨rb,i,none⟩=false:=fun i=>D0.out.p.frozen i
 obtain ⟨r0,r1,r2,r3,r4,r5,r6⟩:=D0.out.cells
 have z6:=hz 6
 clear hz r1 r3 r4 r5 HD
 obtain ⟨w0,hw0⟩:∃ w0,w.drew=w0:=⟨_,rfl⟩
 rw [hw0] at D0 F0 r0 r2 r6 z6
 rw [show ({ heap:=w.heap,tape:=w.tape,drawn:=w.drawn+1,os:=w.os,output:=w.output }:World)=w0 from hw0]
 clear hwa e8 hwb hw1 hsum hw2 b0 b1 b2 hw0
 go_upto_block 0 with fail
 go_cut [] from 13 (fun wx=>Dict1 w0 rb fb wb kb base S k x cc wv A n c used most wx)
 case first =>
  rcases HL.out with rfl | rfl
  ·go_wp2_with fail
   obtain ⟨D1,f1⟩:=D0.out.clearP
   refine (clear_c base wb kb S x.C wv _ D1.win).mono ?_;rintro e w2 ⟨v',rfl,hw2,hf2,ho2⟩
   obtain ⟨n1,n2,n3,n4,n5,n6,n7,n8,n9,n10⟩:=D1.ne
   have D2:=D1.win' hw2 hf2 (by rintro q (e | e | e | e) e2 <;> omega)
   obtain ⟨D3,f3⟩:=D2.begin
   have hp3:=D2.p
   have c3:=hp3.cell 3
   have c5:=hp3.cell 5
   have z3:=hp3.frozen 3
   have z5:=hp3.frozen 5
   have DD:=hid D3
   have FF:=hid (((f1.mono (S':=fun q=>q=rb∨q=wb) fun q _ e=>.inl e).trans (hf2.mono fun q _ e=>.inr e)).trans (f3.mono fun q _ e=>.inl e))
   clear D1 f1 hw2 hf2 n1 n2 n3 n4 n5 n6 n7 n8 n9 n10 D2 D3 f3 hp3 r0 r2 r6 z6
   go_wp2
   go_meet
   case rel=>exact ⟨v',DD.out,ho2,FF.out⟩
  go_wp2
  go_meet
  case rel=>exact Dict1.not D0.out (by decide) (by decide)
 obtain ⟨wv1,d1,ho1,f1⟩:=hcut
 have hcl:cc<3:=by rcases HL.out with e | e <;> omega
 have hci:(cc:Int)<3:=by omega
 have hBR:∀ q,q=rb∨q=wb→B0≤q:=by
  rintro q (e | e)
  ·exact HB.out q (.inl e)
  exact HB.out q (.inr (.inr (.inl e)))
 have hsz:B0≤wc.heap.size:=Nat.le_trans hB0 (Nat.le_trans F0.out.size f1.size)
 have hr1:BRow wc B0 A bs:=row_kept (row_kept hr F0.out hB0 (fun _ e=>e.elim)) f1 (Nat.le_trans hB0 F0.out.size) hBR
 obtain ⟨y,hy⟩:∃ y,x.dict cc=y:=⟨_,rfl⟩
 have HO:Hid (oneBody S x cc hd bs=if bs.length<N then .err 10 else .told (bs.take N) { y with C:=lastN S (y.C++bs.take N) } (bs.drop N)):=hid (by
  unfold oneBody
  rw [if_pos hcl,HN.out,hy])
 rw [hy] at d1
 obtain ⟨r0,r1,r2,r3,r4,r5,r6⟩:=d1.cells
 have F1:Hid (Frm (fun q=>q=rb∨q=wb) w wc):=hid ((F0.out.mono fun _ _ e=>e.elim).trans f1)
 have DC:=hid d1
 have HR1:=hid hr1
 clear D0 F0 d1 f1 hr1 hcl r1 r3 r4 r5 r6 HL
 by_cases hN2:N≤n
 ·have hT:=take_p fb A n c used N wc DC.out.src hc hN2 (by omega)
  have HT:=hid hT
  clear hT
  go_wp2_with fail
  refine HT.out.mono ?_;rintro e w2 ⟨rfl,hs2,hf2⟩
  have d2:=DC.out.src' hs2 hf2
  have hfb:B0≤fb:=HB.out fb (.inr (.inl rfl))
  have hz2:B0≤w2.heap.size:=Nat.le_trans hsz hf2.size
  have hr2:BRow w2 B0 A bs:=row_kept HR1.out hf2 hsz (fun q e=>by rw [e];exact hfb)
  obtain ⟨r0,r1,r2,r3,r4,r5,r6⟩:=d2.cells
  have D2:=hid d2
  have HR2:=hid hr2
  have HF2:=hid hf2
  have hNb:N≤bs.length:=by omega
  clear HT hs2 hf2 d2 hr2 r1 r2 r3 r4 r5 r6
  have hwo:∀ q,q=wb∨wv1.ownBlock=some q→B0≤q:=by
   rintro q (e | e)
   ·exact HB.out q (.inr (.inr (.inl e)))
   rw [ho1] at e;exact HB.out q (.inr (.inr (.inr (.inr (.inr e)))))
  have HP:=hid (put_c base wb kb S N B0 N y.C wv1 A (bs.take N) w2 D2.out.win (take_len hNb).symm (HR2.out.take N) (BOff.of_row (HR2.out.take N) hwo) (by rw [take_len hNb];exact Nat.le_refl _) (by unfold maxLen;omega) (by rw [take_len hNb];omega) D2.out.b hS hz2)
  go_wp2_with fail
  refine HP.out.mono ?_;rintro e w3 ⟨rfl,v',hw3,hf3,hm3⟩
  clear HP
  go_wp2
  go_ret2
  rw [HO.out,if_neg (by omega)]
  obtain ⟨n1,n2,n3,n4,n5,n6,n7,n8,n9,n10⟩:=D2.out.ne
  have d3:=D2.out.win' hw3 hf3 (by
   rintro q hq (e | e)
   ·rcases hq with e2 | e2 | e2 | e2 <;> omega
   have h10:=n10 q e
   rcases hq with e2 | e2 | e2 | e2 <;> omega)
  have hz3:=hf3.size
  refine ⟨?_,k,v',takeA A c N,n-N,c-N,used+N,A,N,by rw [take_len hNb];rfl,d3,(row_kept HR2.out hf3 hz2 hwo).drop (by omega),by rw [List.length_drop];omega,by omega,by omega,by omega,?_,by rw [take_len hNb];exact Nat.le_refl _,by unfold maxLen;omega,rfl,.inl rfl,?_⟩
  ·refine ((F1.out.mono ?_).trans (HF2.out.mono ?_)).trans (hf3.mono ?_)
   ·rintro q _ (e | e)
    ·exact .inl e
    exact .inr (.inr (.inl e))
   ·intro q _ e;exact .inr (.inl e)
   rintro q _ (e | e)
   ·exact .inr (.inr (.inl e))
   rw [ho1] at e;exact .inr (.inr (.inr (.inr (.inr e))))
  ·exact ((row_kept HR2.out hf3 hz2 hwo).take N).more (Nat.le_trans hz2 hz3)
  intro q hq
  rcases hm3 q hq with e | e
  ·exact .inl (ho1▸e)
  exact .inr (Nat.le_trans (Nat.le_trans F1.out.size HF2.out.size) e)
 have hT:=take_no fb A n c used N wc DC.out.src (by omega)
 have HT:=hid hT
 clear hT
 go_wp2_with fail
 refine HT.out.mono ?_;rintro e w2 ⟨rfl,rfl⟩
 go_wp2
 go_ret2
 rw [HO.out,if_pos (by omega)]
 exact ⟨F1.out.mono fun q _ e=>by rcases e with e | e;exact .inl e;exact .inr (.inr (.inl e)),rfl,DC.out.ownB (by have:=dict_total x cc;rw [hy] at this;omega) (Nat.le_add_right _ _)⟩
open Go
section
variable {P : Program} {ops : Array Oper} {md : Region.Mode} {w : World}
def fwdB (md:Region.Mode) (ops:Array Oper):Bool :=
 (List.range ops.size).all fun j=>match ops[j]? with
   | some o=>o.after.all fun e => !Region.binds md e || decide (e.on<j)
   | none=>true
def rootB (md:Region.Mode) (ops:Array Oper) (n:Nat):Bool :=
 (List.range ops.size).all fun t=>decide (t≤n) || (List.range t).any fun j=>decide (n≤j) && Region.waitsFor md ops t j
theorem fwdB_spec (h:fwdB md ops=true) {j:Nat} {o:Oper} (ho:ops[j]?=some o) {e} (he:e∈o.after) (hb:Region.binds md e=true):e.on<j:=by
 have h1:=List.all_eq_true.1 h j (List.mem_range.2 (Array.getElem?_eq_some_iff.1 ho).1)
 simp only [ho] at h1
 have h2:=Array.all_eq_true_iff_forall_mem.1 h1 e he
 simpa [hb] using h2
theorem ready_head {n:Nat} {listed:Array Bool} (hs:Region.sinkB md ops n=true) (hr:rootB md ops n=true) (inv:HeadInv md ops n listed) {i:Nat} (hi:i<n) (hun:listed.getD i true=false)
 {t:Nat} (ht:t∈Region.ready md ops listed):t<n:=by
 rcases Nat.lt_or_ge t n with h | hge
 ·exact h
 exfalso
 obtain ⟨_,ot,hot,hall⟩:=mem_ready.1 ht
 have htlt:t<ops.size:=(Array.getElem?_eq_some_iff.1 hot).1
 by_cases htn:t=n
 ·subst htn
  have key:∀ d j,t-j=d→j<t→listed.getD j false=true:=by
   intro d
   induction d using Nat.strongRecOn with
   | _ d ih =>
    intro j hd hj
    obtain ⟨q,hq,hq2⟩:=List.any_eq_true.1 (List.all_eq_true.1 hs j (List.mem_range.2 hj))
    simp only [Bool.and_eq_true,decide_eq_true_eq] at hq2
    obtain ⟨oq,hoq,e,he,hb,hon⟩:=Region.waitsFor_spec hq2.2
    have hqle:=List.mem_range.1 hq
    rw [← hon]
    by_cases hqt:q=t
    ·subst hqt
     have:oq=ot:=Option.some.inj (hoq.symm.trans hot)
     subst this
     exact hall e he hb
    exact inv.closed q oq hoq (ih (t-q) (by omega) q rfl (by omega)) e he hb
  have h2:=key _ i rfl hi
  rw [getD_both hun] at h2
  cases h2
 have h1:=List.all_eq_true.1 hr t (List.mem_range.2 htlt)
 simp only [Bool.or_eq_true,decide_eq_true_eq] at h1
 rcases h1 with h1 | h1
 ·omega
 obtain ⟨q,hq,hq2⟩:=List.any_eq_true.1 h1
 simp only [Bool.and_eq_true,decide_eq_true_eq] at hq2
 obtain ⟨oq,hoq,e,he,hb,hon⟩:=Region.waitsFor_spec hq2.2
 have:oq=ot:=Option.some.inj (hoq.symm.trans hot)
 subst this
 have h2:=hall e he hb
 have hql:=List.mem_range.1 hq
 rw [hon,getD_both (inv.tail q hq2.1 (by omega))] at h2
 cases h2
theorem wpAny_more {Q:Exit→Act→World→Prop}:∀ (f:Nat) (listed:Array Bool) (a:Act) (w:World),wpAny P md ops Q f listed a w→wpAny P md ops Q (f+1) listed a w
 | 0,listed,a,w,h=>⟨fun _=>h.2,fun i hi=>by rw [h.1] at hi;cases hi⟩
 | f+1,listed,a,w,h=>⟨h.1,fun i hi=>wpOp_mono (fun a' w'=>wpAny_more f _ a' w') (h.2 i hi)⟩
theorem wpAny_plus {Q:Exit→Act→World→Prop} {g:Nat} {listed:Array Bool} {a:Act} (h:wpAny P md ops Q g listed a w):∀ f,wpAny P md ops Q (f+g) listed a w
 | 0=>by rw [Nat.zero_add];exact h
 | f+1=>by rw [show f+1+g=(f+g)+1 by omega];exact wpAny_more _ _ _ _ (wpAny_plus h f)
def firstN (m n:Nat):Array Bool:=Array.ofFn (n:=m) fun j=>decide (j.val<n)
def lastN' (m n:Nat):Array Bool:=Array.ofFn (n:=m) fun j=>decide (n≤j.val)
theorem head_any {n g:Nat} {Qe:Act→Prop} {Q:Exit→Act→World→Prop} (hf:fwdB md ops=true) (hs:Region.sinkB md ops n=true) (hr:rootB md ops n=true) (hn:n<ops.size)
 (hE:∀ a,Qe a→wpAny P md ops Q g (firstN ops.size n) a w) :
 ∀ (f:Nat) (listed l1:Array Bool) (a:Act),HeadInv md ops n listed→l1.size=ops.size→(∀ j d,j<n→l1.getD j d=listed.getD j d)→(∀ j,n≤j→l1.getD j true=true) →
  wpAnyS P md ops w Qe f l1 a→wpAny P md ops Q (f+g) listed a w:=by
 have same:∀ (listed l1:Array Bool),HeadInv md ops n listed→(∀ j d,j<n→l1.getD j d=listed.getD j d)→(∀ j,n≤j→l1.getD j true=true) →
  ∀ i,(i<n∧i∈Region.ready md ops listed↔i∈Region.ready md ops l1):=by
  intro listed l1 inv h1 h2 i
  constructor
  ·rintro ⟨hi,hm⟩
   obtain ⟨hu,o,ho,hall⟩:=mem_ready.1 hm
   exact mem_ready.2 ⟨(h1 i true hi).trans hu,o,ho,fun e he hb=>(h1 e.on false (by have:=fwdB_spec hf ho he hb;omega)).trans (hall e he hb)⟩
  intro hm
  obtain ⟨hu,o,ho,hall⟩:=mem_ready.1 hm
  have hi:i<n:=by
   rcases Nat.lt_or_ge i n with h | h
   ·exact h
   rw [h2 i h] at hu;cases hu
  exact ⟨hi,mem_ready.2 ⟨(h1 i true hi).symm.trans hu,o,ho,fun e he hb=>(h1 e.on false (by have:=fwdB_spec hf ho he hb;omega)).symm.trans (hall e he hb)⟩⟩
 have done:∀ (listed l1:Array Bool),HeadInv md ops n listed→(∀ j d,j<n→l1.getD j d=listed.getD j d)→(∀ j,n≤j→l1.getD j true=true) →
  Region.ready md ops l1=[]→listed=firstN ops.size n:=by
  intro listed l1 inv h1 h2 he
  have all:∀ d i,i=d→i<n→listed.getD i false=true:=by
   intro d
   induction d using Nat.strongRecOn with
   | _ d ih =>
    intro i hd hi
    cases hl:listed.getD i true with
    | true =>
     have hlt:i<listed.size:=by rw [inv.size];omega
     simp [hlt] at hl ⊢
     exact hl
    | false =>
     exfalso
     have hlt:i<ops.size:=by omega
     have hm:=mem_ready.2 ⟨(h1 i true hi).trans hl,ops[i],Array.getElem?_eq_getElem hlt,fun e he hb=>by
      have hlt2:=fwdB_spec hf (Array.getElem?_eq_getElem hlt) he hb
      exact (h1 e.on false (by omega)).trans (ih e.on (by omega) e.on rfl (by omega))⟩
     rw [he] at hm
     cases hm
  apply Array.ext
  ·simp [firstN,inv.size]
  intro i hi1 hi2
  simp only [firstN,Array.getElem_ofFn]
  rcases Nat.lt_or_ge i n with h | h
  ·have:=all i i rfl h
   simp [hi1] at this
   simp [this,h]
  have:=inv.tail i h (by rw [← inv.size];exact hi1)
  simp [hi1] at this
  rw [this]
  simp only [Bool.false_eq,decide_eq_false_iff_not]
  omega
 intro f
 induction f with
 | zero =>
  intro listed l1 a inv hsz h1 h2 h
  rw [done listed l1 inv h1 h2 h.1,Nat.zero_add]
  exact hE a h.2
 | succ f ih =>
  intro listed l1 a inv hsz h1 h2 h
  cases hrl:Region.ready md ops l1 with
  | nil =>
   rw [done listed l1 inv h1 h2 hrl]
   exact wpAny_plus (hE a (h.1 hrl)) _
  | cons x xs =>
   have hx:x∈Region.ready md ops l1:=by rw [hrl];exact List.mem_cons_self
   have hx2:=(same listed l1 inv h1 h2 x).2 hx
   have hxu:=(mem_ready.1 hx2.2).1
   rw [show f+1+g=(f+g)+1 by omega]
   refine ⟨fun h0=>by rw [h0] at hx2;exact absurd hx2.2 (by simp),fun i hi=>?_⟩
   have hin:i<n:=ready_head hs hr inv hx2.1 hxu hi
   have hil:=(same listed l1 inv h1 h2 i).1 ⟨hin,hi⟩
   refine wpOp_of_stOp (fun a' h'=>ih (listed.setIfInBounds i true) (l1.setIfInBounds i true) a' (inv.set hi hin) (by simp [hsz]) ?_ ?_ h') (h.2 i hil)
   ·intro j d hj
    by_cases hij:i=j
    ·subst hij
     have e1:i<l1.size:=by omega
     have e2:i<listed.size:=by rw [inv.size];omega
     simp [e1,e2]
    rw [getD_set_ne d hij,getD_set_ne d hij];exact h1 j d hj
   intro j hj
   rw [getD_set_ne true (by omega)]
   exact h2 j hj
theorem still_lex {n:Nat} {Qe:Act→Prop} (hsel:Region.noSelect ops=true):∀ (l:List Oper) (k:Nat) (listed:Array Bool) (a:Act),(∀ j,j<l.length→l[j]?=ops[k+j]?) →
 Region.lexFrom md ops l.length k listed=true→wpStill P ops w Qe l a→wpAnyS P md ops w Qe l.length listed a
 | [],_,_,_,_,hB,h=>⟨by simpa [Region.lexFrom] using hB,h⟩
 | o::l,k,listed,a,hl,hB,h=>by
  have h0:ops[k]?=some o:=by simpa using (hl 0 (by simp)).symm
  simp only [List.length_cons,Region.lexFrom,Bool.and_eq_true] at hB
  have hst:stOp P ops w k (wpStill P ops w Qe l) a:=by unfold stOp;simp only [h0];exact h
  obtain ⟨v,hy,hK⟩:=yieldsAt_of_stOp h0 hst
  exact wpAnyS_first h0 (Region.noSelect_spec hsel) l.length listed a (Region.free_spec h0 hB.1.2) (by simpa using hB.1.1) hy
   (still_lex (n:=n) hsel l (k+1) _ _ (fun j hj=>by have:=hl (j+1) (by simp;omega);simpa [Nat.add_assoc,Nat.add_comm 1 j] using this) hB.2 hK)
def tailQ (P:Program) (ops:Array Oper) (Q:Exit→Act→World→Prop) (l:List Oper):Exit→Act→World→Prop
 | .normal,a,w=>wpStill P ops w (fun a'=>Q .normal a' w) l a
 | e,a,w=>Q e a w
def stcB (md:Region.Mode) (ops:Array Oper) (n:Nat):Bool :=
 Region.noSelect ops && decide (n<ops.size) && fwdB md ops && Region.sinkB md ops n && rootB md ops n && Region.lexFrom md ops n 0 (lastN' ops.size n) &&
  decide (Region.ready md ops (firstN ops.size n)=[n]) && Region.lexFrom md ops (ops.size-(n+1)) (n+1) ((firstN ops.size n).setIfInBounds n true)
theorem wp_of_tailQ {o:Oper} {a:Act} {K:Act→World→Prop} {Q:Exit→Act→World→Prop} {l:List Oper} (h:o.wp P a w K (tailQ P ops Q l)):o.wp P a w K Q:=by
 unfold Oper.wp at *
 generalize (execOp a.eval o).run P w=r at *
 cases r with
 | ok n w' =>
  cases n <;> simp only [Oper.upon] at h ⊢
  case enter f args=>exact Calls.mono h (fun e w'' he=>by cases e <;> exact he)
  all_goals exact h
 | halt x w'=>cases x <;> simp only [Oper.upon] at h ⊢ <;> exact h
theorem wp_region_stc {id:Nat} {Q:Exit→Act→World→Prop} {a:Act} {w:World} {l:List Oper} (n:Nat) (hm:P.follows .mixedOrders=true) (hB:stcB .any l.toArray n=true)
 (h:wpStill P l.toArray { w with drawn:=w.drawn+1 } (fun a'=>wpList P l.toArray (tailQ P l.toArray Q (l.drop (n+1))) ((l.drop n).take 1) a' { w with drawn:=w.drawn+1 }) (l.take n) a) :
 (Code.region id l.toArray true).wp P Q a w:=by
 simp only [stcB,Bool.and_eq_true,decide_eq_true_eq] at hB
 obtain ⟨⟨⟨⟨⟨⟨⟨hsel,hn⟩,hf⟩,hs⟩,hr⟩,hlex⟩,hcall⟩,htail⟩:=hB
 have hn':n<l.length:=by simpa using hn
 have htl:(l.take n).length=n:=by simp;omega
 refine wp_region_any hm ?_
 have inv0:HeadInv .any l.toArray n (Array.replicate l.toArray.size false) :=
  ⟨by simp,fun j oj _ hl=>(by rw [getD_replicate_false] at hl;cases hl),fun t _ ht=>getD_in (by simpa using ht) (getD_replicate_false _ _)⟩
 have H:=still_lex (n:=n) (md:=.any) (w:={ w with drawn:=w.drawn+1 }) hsel (l.take n) 0 (lastN' l.toArray.size n) a (fun j hj=>by
  have hj':j<n:=by rw [htl] at hj;exact hj
  simp [hj']) (by rw [htl];exact hlex) h
 rw [htl] at H
 have G:=head_any (Q:=Q) (g:=l.toArray.size-(n+1)+1) hf hs hr hn (fun a' ha'=>?_) n (Array.replicate l.toArray.size false) (lastN' l.toArray.size n) a inv0 (by simp [lastN']) ?_ ?_ H
 ·rw [show n+(l.toArray.size-(n+1)+1)=l.toArray.size by omega] at G
  exact G
 ·have hdl:(l.drop (n+1)).length=l.toArray.size-(n+1):=by simp
  have ho:l[n]?=some l[n]:=List.getElem?_eq_getElem hn'
  have e1:(l.drop n).take 1=[l[n]]:=by
   rw [List.drop_eq_getElem_cons hn'];rfl
  rw [e1] at ha'
  refine ⟨fun h0=>(by rw [hcall] at h0;cases h0),fun i hi=>?_⟩
  rw [hcall] at hi
  have hin:i=n:=by simpa using hi
  subst hin
  have hK:∀ (a:Act) (w':World),tailQ P l.toArray Q (l.drop (i+1)) .normal a w'→wpAny P .any l.toArray Q (l.toArray.size-(i+1)) ((firstN l.toArray.size i).setIfInBounds i true) a w':=by
   intro a w' ht
   have h2:=wpAnyS_lex (md:=.any) hsel (l.drop (i+1)) (i+1) ((firstN l.toArray.size i).setIfInBounds i true) a (fun j=>by simp [List.getElem?_drop]) (by rw [hdl];exact htail) ht
   rw [hdl] at h2
   exact wpAny_of_still (fun _ h=>h) _ _ _ h2
  have hwo:wpOp P l.toArray Q i (fun a w'=>tailQ P l.toArray Q (l.drop (i+1)) .normal a w') a' { w with drawn:=w.drawn+1 }:=by
   unfold wpOp
   have h0:l.toArray[i]?=some l[i]:=by simp [ho]
   simp only [h0]
   unfold wpList at ha'
   split
   ·rename_i hw
    simp only [hw,if_true] at ha'
    refine ha'.imp (fun h=>wp_of_tailQ h) (fun h=>⟨h.1,?_⟩)
    obtain ⟨a0,w0,h0⟩:=h.2
    exact ⟨a0,w0,h0⟩
   rename_i hw
   simp only [hw] at ha'
   exact ha'
  exact wpOp_mono hK hwo
 ·intro j d hj
  have e1:j<l.toArray.size:=by omega
  have e2:j<(lastN' l.toArray.size n).size:=by simpa [lastN'] using e1
  have e3:j<(Array.replicate l.toArray.size false).size:=by simpa using e1
  simp only [Array.getD_eq_getD_getElem?,Array.getElem?_eq_getElem e2,Array.getElem?_eq_getElem e3,Option.getD_some]
  simp [lastN']
  omega
 intro j hj
 rcases Nat.lt_or_ge j l.toArray.size with e1 | e1
 ·have e2:j<(lastN' l.toArray.size n).size:=by simpa [lastN'] using e1
  simp only [Array.getD_eq_getD_getElem?,Array.getElem?_eq_getElem e2,Option.getD_some]
  simp [lastN']
  omega
 have e2:(lastN' l.toArray.size n).size≤j:=by simpa [lastN'] using e1
 simp only [Array.getD_eq_getD_getElem?,Array.getElem?_eq_none e2,Option.getD_none]
end
open Go.RowKit Rng Win Lz
theorem chunkOf_inv {k:LK} {S total n st:Nat} {rep:Nat→Nat} {pr:Pr} {C bs t:List UInt8} {y:RS} (hst:st<12) (hrep:∀ j,rep j<4294967296) (h:chunkOf k S total n st rep pr C bs=some (t,y)):y.Ok∧t.length=n:=by
 unfold chunkOf at h
 split at h
 ·cases h
 split at h
 ·cases h
 rename_i told x hx
 split at h
 ·injection h with h
  injection h with h1 h2
  subst h1 h2
  have hi:=chunkGo_inv _ (x:=⟨st,rep,⟨newDec bs,pr⟩,C⟩) ⟨hst,hrep⟩ (by simp) hx
  exact ⟨hi.1,hi.2.1⟩
 cases h
theorem chunk_tells {w w3 w4:World} {rb fb wb kb base S B0:Nat} {k k1:LK} {x1:DS} {wv wv1:Value} {A':Option Addr} {n' c' used' n un:Nat} {most:Int} {rest bs:List UInt8} {e:Ending}
 (hd:RdS w3 rb fb wb kb base S k1 x1 wv1 A' n' c' used' most) (hf:Frm (RdB rb fb wb k wv) w w3) (hB:∀ q,RdB rb fb wb k wv q→B0≤q) (hB0:B0≤w.heap.size)
 (hsb:k1.sb=k.sb) (hlb:k1.lb=k.lb∨w.heap.size≤k1.lb) (ho:wv1.ownBlock=wv.ownBlock) (hr:BRow w3 B0 A' rest) (hn:n'=rest.length) (hc:n'≤c') (hcm:c'≤maxLen) (hu:used'+n'=un) (ht:x1.total<9223372036854775808)
 (h:ChunkEnd k1 base wb kb S wv1 w3 (chunkOf k1 S x1.total n x1.st x1.rep x1.pr x1.C bs) e w4):BodyEnd rb fb wb kb base S B0 k wv most un w (oneLz S x1 n bs rest) e w4:=by
 obtain ⟨hf4,hend⟩:=h
 have hF:Frm (RdB rb fb wb k wv) w w4:=hf.transW hf4 (by
  rintro q (e | e | e | e) hq
  ·exact .inr (.inr (.inr (.inl (e.trans hsb))))
  ·rcases hlb with e2 | e2
   ·exact .inr (.inr (.inr (.inr (.inl (e.trans e2)))))
   omega
  ·exact .inr (.inr (.inl e))
  rw [ho] at e;exact .inr (.inr (.inr (.inr (.inr e)))))
 refine ⟨hF,?_⟩
 have hlk:=chunkOf_lk k1 S x1.total n x1.st x1.rep x1.pr x1.C bs
 rw [hd.ks.1,hd.ks.2.1,hd.ks.2.2] at hlk
 unfold oneLz
 rw [← hlk]
 rcases hend with ⟨e1,e2⟩ | ⟨told,y,tv,wv',e1,e2,h1,h2,h3,h4,h5⟩
 ·rw [e1]
  obtain ⟨n1,n2,n3,n4,n5,n6,n7,n8,n9,n10⟩:=hd.ne
  refine ⟨e2,?_⟩
  rw [← hsb]
  refine (hd.ownB ht (un:=un) (by omega)).frm hf4 ?_ ?_
  ·rintro (e | e | e | e)
   ·exact n3 e
   ·exact n4 e
   ·exact n2 e
   exact (n10 _ e).1 rfl
  rintro (e | e | e | e)
  ·exact n6 e
  ·exact n7 e
  ·exact n5 e
  exact (n10 _ e).2.1 rfl
 have hy:=chunkOf_inv hd.st.1 hd.st.2 e1
 rw [e1]
 obtain ⟨n1,n2,n3,n4,n5,n6,n7,n8,n9,n10⟩:=hd.ne
 obtain ⟨A5,c5,e5,h6,h7,h8⟩:=h1.slice
 have hz3:B0≤w3.heap.size:=Nat.le_trans hB0 hf.size
 have hno:∀ q,q=rb∨q=fb→¬ (q=k1.sb∨q=k1.lb∨q=wb∨wv1.ownBlock=some q):=by
  rintro q hq (e | e | e | e)
  ·rcases hq with e2 | e2 <;> omega
  ·rcases hq with e2 | e2 <;> omega
  ·rcases hq with e2 | e2 <;> omega
  have h10:=n10 q e
  rcases hq with e2 | e2 <;> omega
 refine ⟨k1,wv',A',n',c',used',A5,c5,by rw [e2,e5],⟨hd.p.frm hf4 (hno _ (.inl rfl)),h2,hd.ks,hd.ok,⟨hy.1.1,hy.1.2⟩,h3,Nat.le_trans hd.b hf4.size,Pts.frm hd.src hf4 (hno _ (.inr rfl))⟩,?_,hn,hc,hcm,hu,h8,h6,h7,hsb,hlb,?_⟩
 ·refine row_kept hr hf4 hz3 ?_
  rintro q (e | e | e | e)
  ·exact hB q (.inr (.inr (.inr (.inl (e.trans hsb)))))
  ·rcases hlb with e2 | e2
   ·exact hB q (.inr (.inr (.inr (.inr (.inl (e.trans e2))))))
   omega
  ·exact hB q (.inr (.inr (.inl e)))
  rw [ho] at e;exact hB q (.inr (.inr (.inr (.inr (.inr e)))))
 intro q hq
 rcases h4 q hq with e | e
 ·exact .inl (ho▸e)
 exact .inr (Nat.le_trans hf.size e)
theorem and31 (c:Nat) (h:c<256):bits .and .u8 (c:Int) 31=((c % 32:Nat):Int):=by
 have h1:bits .and .u8 (c:Int) ((31:Nat):Int)=((c &&& 31:Nat):Int):=u8_and_nat c 31 h (by decide)
 rw [show (31:Int)=((31:Nat):Int) from rfl,h1,show (31:Nat)=2 ^ 5-1 by rfl,Nat.and_two_pow_sub_one_eq_mod]
set_option maxRecDepth 8000 in
set_option maxHeartbeats 2000000 in
theorem body_lz (rb fb wb kb base S B0:Nat) (k:LK) (x:DS) (wv:Value) (A:Option Addr) (n c used:Nat) (most:Int) (bs hd:List UInt8) (hb off cc:Nat) (w:World)
 (h:RdS w rb fb wb kb base S k x wv A n c used most) (hB:∀ q,RdB rb fb wb k wv q→B0≤q) (hB0:B0≤w.heap.size) (hS:S≤16777216) (hn:n=bs.length) (hr:BRow w B0 A bs) (hc:n≤c) (hcm:c≤maxLen)
 (hhr:BRow w B0 (some ⟨hb,off,none⟩) hd) (hdl:hd.length=5) (hcc:(hd.getD 0 0).toNat=cc) (hleg:128≤cc∧cc<192) (hu:used+n≤4611686018427387904) (ht:x.total<9223372036854775808) :
 Calls Tryz.prog 101 #[.pointer (some ⟨rb,0,none⟩),.slice (some ⟨hb,off,none⟩) 5 5] w (BodyEnd rb fb wb kb base S B0 k wv most (used+n) w (oneBody S x cc hd bs)):=by
 have b0:w.cell? ⟨hb,off,none⟩=some (.int .u8 ((cc:Nat):Int)):=by rw [← hcc];exact hhr.addr (k:=0) (by omega)
 have b1:w.cell? ⟨hb,off+1,none⟩=some (.int .u8 (((hd.getD 1 0).toNat:Nat):Int)):=hhr.addr (k:=1) (by omega)
 have b2:w.cell? ⟨hb,off+2,none⟩=some (.int .u8 (((hd.getD 2 0).toNat:Nat):Int)):=hhr.addr (k:=2) (by omega)
 have b3:w.cell? ⟨hb,off+3,none⟩=some (.int .u8 (((hd.getD 3 0).toNat:Nat):Int)):=hhr.addr (k:=3) (by omega)
 have b4:w.cell? ⟨hb,off+4,none⟩=some (.int .u8 (((hd.getD 4 0).toNat:Nat):Int)):=hhr.addr (k:=4) (by omega)
 obtain ⟨N,hN⟩:∃ N,twoB hd 1+1=N:=⟨_,rfl⟩
 obtain ⟨M,hM⟩:∃ M,twoB hd 3+1=M:=⟨_,rfl⟩
 have hNl:N≤65536:=by have:=twoB_le hd 1;omega
 have hMl:M≤65536:=by have:=twoB_le hd 3;omega
 have hM1:1≤M:=by omega
 have hl1:=(hd.getD 1 0).toNat_lt
 have hl2:=(hd.getD 2 0).toNat_lt
 have hl3:=(hd.getD 3 0).toNat_lt
 have hl4:=(hd.getD 4 0).toNat_lt
 have e8:=shl8 (hd.getD 1 0)
 have e8b:=shl8 (hd.getD 3 0)
 have hsum:((hd.getD 1 0).toNat:Int)*256+((hd.getD 2 0).toNat:Int)+1=(N:Int):=by have e:twoB hd 1=(hd.getD 1 0).toNat*256+(hd.getD 2 0).toNat:=rfl;omega
 have hsumb:((hd.getD 3 0).toNat:Int)*256+((hd.getD 4 0).toNat:Int)+1=(M:Int):=by have e:twoB hd 3=(hd.getD 3 0).toNat*256+(hd.getD 4 0).toNat:=rfl;omega
 obtain ⟨h1v,hh1⟩:∃ v,(hd.getD 1 0).toNat=v:=⟨_,rfl⟩
 obtain ⟨h2v,hh2⟩:∃ v,(hd.getD 2 0).toNat=v:=⟨_,rfl⟩
 obtain ⟨h3v,hh3⟩:∃ v,(hd.getD 3 0).toNat=v:=⟨_,rfl⟩
 obtain ⟨h4v,hh4⟩:∃ v,(hd.getD 4 0).toNat=v:=⟨_,rfl⟩
 rw [hh1] at b1 e8 hsum hl1
 rw [hh2] at b2 hsum hl2
 rw [hh3] at b3 e8b hsumb hl3
 rw [hh4] at b4 hsumb hl4
 have hw1:IntKind.i64.wrap ((h1v:Int)*256+(h2v:Int))=(h1v:Int)*256+(h2v:Int):=Go.IntWalk.i64_in _ (by omega)
 have hw1b:IntKind.i64.wrap ((h3v:Int)*256+(h4v:Int))=(h3v:Int)*256+(h4v:Int):=Go.IntWalk.i64_in _ (by omega)
 have hw2:IntKind.i64.wrap (N:Int)=(N:Int):=Go.IntWalk.i64_in _ (by omega)
 have hw2b:IntKind.i64.wrap (M:Int)=(M:Int):=Go.IntWalk.i64_in _ (by omega)
 have hwa:IntKind.i64.wrap (h1v:Int)=(h1v:Int):=Go.IntWalk.i64_in _ (by omega)
 have hwb:IntKind.i64.wrap (h2v:Int)=(h2v:Int):=Go.IntWalk.i64_in _ (by omega)
 have hwc:IntKind.i64.wrap (h3v:Int)=(h3v:Int):=Go.IntWalk.i64_in _ (by omega)
 have hwd:IntKind.i64.wrap (h4v:Int)=(h4v:Int):=Go.IntWalk.i64_in _ (by omega)
 have a31:=and31 cc (by omega)
 obtain ⟨c31,hc31⟩:∃ v,cc % 32=v:=⟨_,rfl⟩
 have hcl:c31<32:=by omega
 rw [hc31] at a31
 have hw31:IntKind.i64.wrap (c31:Int)=(c31:Int):=Go.IntWalk.i64_in _ (by omega)
 have hw32:IntKind.i64.wrap ((c31:Int)*65536)=(c31:Int)*65536:=Go.IntWalk.i64_in _ (by omega)
 obtain ⟨T,hT⟩:∃ T,N+c31*65536=T:=⟨_,rfl⟩
 have hTl:T≤2097152:=by omega
 have hT1:1≤T:=by omega
 have hti:(N:Int)+(c31:Int)*65536=(T:Int):=by omega
 have hwt:IntKind.i64.wrap (T:Int)=(T:Int):=Go.IntWalk.i64_in _ (by omega)
 have q1:((cc:Int)==1)=false:=beq_eq_false_iff_ne.2 (by omega)
 have q2:(cc:Int)<224:=by omega
 have q3:(3:Int)≤(cc:Int):=by omega
 have q4:(cc:Int)<192:=by omega
 have D0:=hid (h.later ((Frm.refl (fun _=>False) w).drew))
 have F0:Hid (Frm (fun _=>False) w w.drew):=hid ((Frm.refl (fun _=>False) w).drew)
 have HR0:Hid (BRow w.drew B0 A bs):=hid (hr.drewN 1)
 obtain ⟨r0,r1,r2,r3,r4,r5,r6⟩:=D0.out.cells
 have d3:w.drew.cell? ⟨hb,off+3,none⟩=some (.int .u8 (h3v:Int)):=b3
 have d4:w.drew.cell? ⟨hb,off+4,none⟩=some (.int .u8 (h4v:Int)):=b4
 have HO:Hid (oneBody S x cc hd bs=if bs.length<M then .err 10 else oneLz S (if 160≤cc then x.reset else x) T (bs.take M) (bs.drop M)):=hid (by
  unfold oneBody
  rw [if_neg (by omega),hM,hN,hc31,hT]
  split
  ·rfl
  rw [if_neg (fun h=>by have:=h.1;omega)]
  unfold DS.dict DS.set
  rw [if_neg (show ¬ 192≤cc by omega),if_neg (show ¬ cc=1 by omega),if_neg (show ¬ 224≤cc by omega)])
 have HB:=hid hB
 have HT:=hid (And.intro hTl hT1)
 clear h hcc hB hN hM hhr hh1 hh2 hh3 hh4 hc31 hT b3 b4 r1 r3 r4 r5 r6 hTl hT1
 go_enter Tryz.func101,Tryz.ntmps101
 go_upto_region 2 with fail
 go_still (by kernel_rfl)
 obtain ⟨w0,hw0⟩:∃ w0,w.drew=w0:=⟨_,rfl⟩
 rw [hw0] at D0 F0 HR0 r0 r2 d3 d4
 rw [show ({ heap:=w.heap,tape:=w.tape,drawn:=w.drawn+1,os:=w.os,output:=w.output }:World)=w0 from hw0]
 clear hwa e8 hwb hw1 hsum hw2 b0 b1 b2 hw0
 go_upto_region 15 with fail
 have D1:=hid (D0.out.later ((Frm.refl (fun _=>False) w0).drew))
 have F1:Hid (Frm (fun _=>False) w w0.drew):=hid (F0.out.trans ((Frm.refl (fun _=>False) w0).drew))
 have HR1:Hid (BRow w0.drew B0 A bs):=hid (HR0.out.drewN 1)
 have hz1:B0≤w0.drew.heap.size:=Nat.le_trans hB0 F1.out.size
 refine wp_region_stc 15 (by kernel_rfl) (by kernel_rfl) ?_
 simp only [List.take_succ_cons,List.take_zero,List.drop_succ_cons,List.drop_zero]
 repeat still_step
 refine wpStill_nil ?_
 change wpList _ _ _ _ _ w0.drew
 obtain ⟨w1,hw1⟩:∃ w1,w0.drew=w1:=⟨_,rfl⟩
 rw [hw1] at D1 F1 HR1 hz1
 rw [hw1]
 clear hw1 D0 F0 HR0 r0 r2 d3 d4 e8b hw1b hwc hwd a31 hw31 hw32 hti
 by_cases hM2:M≤n
 ·have HT1:=hid (take_p fb A n c used M w1 D1.out.src hc hM2 (by omega))
  go_wp2_with fail
  refine HT1.out.mono ?_;rintro e w2 ⟨rfl,hs2,hf2⟩
  go_wp2_with fail
  change wpStill _ _ _ _ _ _
  repeat still_step
  refine wpStill_nil ?_
  have d2:=D1.out.src' hs2 hf2
  have hfb:B0≤fb:=HB.out fb (.inr (.inl rfl))
  have hz2:B0≤w2.heap.size:=Nat.le_trans hz1 hf2.size
  have hr2:BRow w2 B0 A bs:=row_kept HR1.out hf2 hz1 (fun q e=>by rw [e];exact hfb)
  obtain ⟨r0,r1,r2,r3,r4,r5,r6⟩:=d2.cells
  have D2:=hid d2
  have HR2:=hid hr2
  have F2:Hid (Frm (· = fb) w w2):=hid ((F1.out.mono fun _ _ e=>e.elim).trans hf2)
  have hMb:M≤bs.length:=by omega
  clear HT1 hs2 hf2 d2 hr2 D1 F1 HR1 r2 r4 r5 r6
  by_cases h160:160≤cc
  ·have q5:(160:Int)≤(cc:Int):=by omega
   have HRs:=hid (reset_s k x.st x.rep x.pr w2 D2.out.s D2.out.ok)
   go_wp2_with fail
   refine HRs.out.mono ?_;rintro e w3 ⟨rfl,lb,hlb,hs3,hf3⟩
   have d3:=D2.out.st' (k':=⟨k.sb,lb,k.lc,k.lp,k.pb⟩) (y:=x.reset) rfl hlb hs3 D2.out.ks ⟨D2.out.ok.a,D2.out.ok.b⟩ ⟨(by decide:(0:Nat)<12),fun _=>(by decide:(0:Nat)<4294967296)⟩ ⟨rfl,rfl,rfl,rfl⟩ hf3
   have hsb:B0≤k.sb:=HB.out _ (.inr (.inr (.inr (.inl rfl))))
   have hr3:BRow w3 B0 A bs:=row_kept HR2.out hf3 hz2 (fun q e=>by rw [e];exact hsb)
   obtain ⟨r0,r1,r2,r3,r4,r5,r6⟩:=d3.cells
   have hz3:B0≤w3.heap.size:=Nat.le_trans hz2 hf3.size
   have F3:Hid (Frm (RdB rb fb wb k wv) w w3):=hid ((F2.out.mono fun q _ e=>.inr (.inl e)).trans (hf3.mono fun q _ e=>.inr (.inr (.inr (.inl e)))))
   have hlb2:w.heap.size≤lb:=Nat.le_trans F2.out.size hlb
   have D3:=hid d3
   have HR3:=hid hr3
   clear HRs hs3 hf3 d3 hr3 D2 F2 HR2 r2 r4 r5 r6 hlb
   go_upto_region 25 with fail
   have D4:=hid (D3.out.later ((Frm.refl (fun _=>False) w3).drew))
   have F4:=hid (F3.out.drew)
   have HR4:Hid (BRow w3.drew B0 A bs):=hid (HR3.out.drewN 1)
   have hz4:B0≤w3.drew.heap.size:=hz3
   have HC:=hid (chunk_p ⟨k.sb,lb,k.lc,k.lp,k.pb⟩ x.reset.st x.reset.rep x.reset.pr base wb kb S x.reset.C (bs.take M) wv A T M M x.reset.total w3.drew D4.out.s D4.out.win D4.out.b hS D4.out.ok D4.out.st.1 D4.out.st.2 (take_len hMb).symm ((HR4.out.take M).more hz4) (by rw [take_len hMb];exact Nat.le_refl _) (by unfold maxLen;omega) (by rw [take_len hMb];omega) HT.out.2 HT.out.1 ht)
   refine wp_region_stc 14 (by kernel_rfl) (by kernel_rfl) ?_
   simp only [List.take_succ_cons,List.take_zero,List.drop_succ_cons,List.drop_zero]
   repeat still_step
   refine wpStill_nil ?_
   change wpList _ _ _ _ _ w3.drew
   go_wp2_with fail
   refine HC.out.mono ?_;rintro e w5 hce
   obtain ⟨tv,ev,he⟩:∃ tv ev,e=.returned (.tuple #[tv,ev]):=by
    rcases hce.2 with ⟨_,h2⟩ | ⟨_,_,tv,_,_,h2,_⟩
    ·exact ⟨_,_,h2⟩
    exact ⟨_,_,h2⟩
   subst he
   go_wp2_with fail
   change wpStill _ _ _ _ _ _
   repeat still_step
   refine wpStill_nil ?_
   go_wp2
   go_ret2
   rw [HO.out,if_neg (by omega),if_pos h160]
   exact chunk_tells D4.out F4.out HB.out hB0 rfl (.inr hlb2) rfl ((HR4.out.drop (by omega))) (by rw [List.length_drop];omega) (by omega) (by omega) (by omega) ht hce
  have q5:(cc:Int)<160:=by omega
  go_upto_region 25 with fail
  obtain ⟨w3,hw3⟩:∃ w3,w2=w3:=⟨_,rfl⟩
  subst hw3
  have D3:=D2
  have HR3:=HR2
  have F3:Hid (Frm (RdB rb fb wb k wv) w w2):=hid (F2.out.mono fun q _ e=>.inr (.inl e))
  have hz3:=hz2
  have D4:=hid (D3.out.later ((Frm.refl (fun _=>False) w2).drew))
  have F4:=hid (F3.out.drew)
  have HR4:Hid (BRow w2.drew B0 A bs):=hid (HR3.out.drewN 1)
  have hz4:B0≤w2.drew.heap.size:=hz3
  have HC:=hid (chunk_p k x.st x.rep x.pr base wb kb S x.C (bs.take M) wv A T M M x.total w2.drew D4.out.s D4.out.win D4.out.b hS D4.out.ok D4.out.st.1 D4.out.st.2 (take_len hMb).symm ((HR4.out.take M).more hz4) (by rw [take_len hMb];exact Nat.le_refl _) (by unfold maxLen;omega) (by rw [take_len hMb];omega) HT.out.2 HT.out.1 ht)
  refine wp_region_stc 14 (by kernel_rfl) (by kernel_rfl) ?_
  simp only [List.take_succ_cons,List.take_zero,List.drop_succ_cons,List.drop_zero]
  repeat still_step
  refine wpStill_nil ?_
  change wpList _ _ _ _ _ w2.drew
  go_wp2_with fail
  refine HC.out.mono ?_;rintro e w5 hce
  obtain ⟨tv,ev,he⟩:∃ tv ev,e=.returned (.tuple #[tv,ev]):=by
   rcases hce.2 with ⟨_,h2⟩ | ⟨_,_,tv,_,_,h2,_⟩
   ·exact ⟨_,_,h2⟩
   exact ⟨_,_,h2⟩
  subst he
  go_wp2_with fail
  change wpStill _ _ _ _ _ _
  repeat still_step
  refine wpStill_nil ?_
  go_wp2
  go_ret2
  rw [HO.out,if_neg (by omega),if_neg h160]
  exact chunk_tells D4.out F4.out HB.out hB0 rfl (.inl rfl) rfl ((HR4.out.drop (by omega))) (by rw [List.length_drop];omega) (by omega) (by omega) (by omega) ht hce
 have HT1:=hid (take_no fb A n c used M w1 D1.out.src (by omega))
 go_wp2_with fail
 refine HT1.out.mono ?_;rintro e w2 ⟨rfl,rfl⟩
 go_wp2_with fail
 change wpStill _ _ _ _ _ _
 repeat still_step
 refine wpStill_nil ?_
 go_wp2
 go_ret2
 rw [HO.out,if_pos (by omega)]
 exact ⟨F1.out.mono fun q _ e=>e.elim,rfl,D1.out.ownB ht (Nat.le_add_right _ _)⟩
open Go.RowKit Rng Win Lz
set_option maxRecDepth 8000 in
set_option maxHeartbeats 2000000 in
theorem body_set (rb fb wb kb base S B0:Nat) (k:LK) (x:DS) (wv:Value) (A:Option Addr) (n c used:Nat) (most:Int) (bs hd:List UInt8) (hb off cc:Nat) (w:World)
 (h:RdS w rb fb wb kb base S k x wv A n c used most) (hB:∀ q,RdB rb fb wb k wv q→B0≤q) (hB0:B0≤w.heap.size) (hS:S≤16777216) (hn:n=bs.length) (hr:BRow w B0 A bs) (hc:n≤c) (hcm:c≤maxLen)
 (hhr:BRow w B0 (some ⟨hb,off,none⟩) hd) (hdl:hd.length=6) (hcc:(hd.getD 0 0).toNat=cc) (hleg:192≤cc) (hu:used+n≤4611686018427387904) (ht:x.total<9223372036854775808) :
 Calls Tryz.prog 101 #[.pointer (some ⟨rb,0,none⟩),.slice (some ⟨hb,off,none⟩) 6 6] w (BodyEnd rb fb wb kb base S B0 k wv most (used+n) w (oneBody S x cc hd bs)):=by
 have b0:w.cell? ⟨hb,off,none⟩=some (.int .u8 ((cc:Nat):Int)):=by rw [← hcc];exact hhr.addr (k:=0) (by omega)
 have b1:w.cell? ⟨hb,off+1,none⟩=some (.int .u8 (((hd.getD 1 0).toNat:Nat):Int)):=hhr.addr (k:=1) (by omega)
 have b2:w.cell? ⟨hb,off+2,none⟩=some (.int .u8 (((hd.getD 2 0).toNat:Nat):Int)):=hhr.addr (k:=2) (by omega)
 have b3:w.cell? ⟨hb,off+3,none⟩=some (.int .u8 (((hd.getD 3 0).toNat:Nat):Int)):=hhr.addr (k:=3) (by omega)
 have b4:w.cell? ⟨hb,off+4,none⟩=some (.int .u8 (((hd.getD 4 0).toNat:Nat):Int)):=hhr.addr (k:=4) (by omega)
 have b5:w.cell? ⟨hb,off+5,none⟩=some (.int .u8 (((hd.getD 5 0).toNat:Nat):Int)):=hhr.addr (k:=5) (by omega)
 have hc256:cc<256:=by rw [← hcc];exact (hd.getD 0 0).toNat_lt
 obtain ⟨N,hN⟩:∃ N,twoB hd 1+1=N:=⟨_,rfl⟩
 obtain ⟨M,hM⟩:∃ M,twoB hd 3+1=M:=⟨_,rfl⟩
 have hNl:N≤65536:=by have:=twoB_le hd 1;omega
 have hMl:M≤65536:=by have:=twoB_le hd 3;omega
 have hM1:1≤M:=by omega
 have hl1:=(hd.getD 1 0).toNat_lt
 have hl2:=(hd.getD 2 0).toNat_lt
 have hl3:=(hd.getD 3 0).toNat_lt
 have hl4:=(hd.getD 4 0).toNat_lt
 have e8:=shl8 (hd.getD 1 0)
 have e8b:=shl8 (hd.getD 3 0)
 have hsum:((hd.getD 1 0).toNat:Int)*256+((hd.getD 2 0).toNat:Int)+1=(N:Int):=by have e:twoB hd 1=(hd.getD 1 0).toNat*256+(hd.getD 2 0).toNat:=rfl;omega
 have hsumb:((hd.getD 3 0).toNat:Int)*256+((hd.getD 4 0).toNat:Int)+1=(M:Int):=by have e:twoB hd 3=(hd.getD 3 0).toNat*256+(hd.getD 4 0).toNat:=rfl;omega
 obtain ⟨h1v,hh1⟩:∃ v,(hd.getD 1 0).toNat=v:=⟨_,rfl⟩
 obtain ⟨h2v,hh2⟩:∃ v,(hd.getD 2 0).toNat=v:=⟨_,rfl⟩
 obtain ⟨h3v,hh3⟩:∃ v,(hd.getD 3 0).toNat=v:=⟨_,rfl⟩
 obtain ⟨h4v,hh4⟩:∃ v,(hd.getD 4 0).toNat=v:=⟨_,rfl⟩
 rw [hh1] at b1 e8 hsum hl1
 rw [hh2] at b2 hsum hl2
 rw [hh3] at b3 e8b hsumb hl3
 rw [hh4] at b4 hsumb hl4
 obtain ⟨p,hp⟩:∃ v,(hd.getD 5 0).toNat=v:=⟨_,rfl⟩
 have hp255:p≤255:=by have:=(hd.getD 5 0).toNat_lt;omega
 rw [hp] at b5
 have hw1:IntKind.i64.wrap ((h1v:Int)*256+(h2v:Int))=(h1v:Int)*256+(h2v:Int):=Go.IntWalk.i64_in _ (by omega)
 have hw1b:IntKind.i64.wrap ((h3v:Int)*256+(h4v:Int))=(h3v:Int)*256+(h4v:Int):=Go.IntWalk.i64_in _ (by omega)
 have hw2:IntKind.i64.wrap (N:Int)=(N:Int):=Go.IntWalk.i64_in _ (by omega)
 have hw2b:IntKind.i64.wrap (M:Int)=(M:Int):=Go.IntWalk.i64_in _ (by omega)
 have hwa:IntKind.i64.wrap (h1v:Int)=(h1v:Int):=Go.IntWalk.i64_in _ (by omega)
 have hwb:IntKind.i64.wrap (h2v:Int)=(h2v:Int):=Go.IntWalk.i64_in _ (by omega)
 have hwc:IntKind.i64.wrap (h3v:Int)=(h3v:Int):=Go.IntWalk.i64_in _ (by omega)
 have hwd:IntKind.i64.wrap (h4v:Int)=(h4v:Int):=Go.IntWalk.i64_in _ (by omega)
 have a31:=and31 cc (by omega)
 obtain ⟨c31,hc31⟩:∃ v,cc % 32=v:=⟨_,rfl⟩
 have hcl:c31<32:=by omega
 rw [hc31] at a31
 have hw31:IntKind.i64.wrap (c31:Int)=(c31:Int):=Go.IntWalk.i64_in _ (by omega)
 have hw32:IntKind.i64.wrap ((c31:Int)*65536)=(c31:Int)*65536:=Go.IntWalk.i64_in _ (by omega)
 obtain ⟨T,hT⟩:∃ T,N+c31*65536=T:=⟨_,rfl⟩
 have hTl:T≤2097152:=by omega
 have hT1:1≤T:=by omega
 have hti:(N:Int)+(c31:Int)*65536=(T:Int):=by omega
 have hwt:IntKind.i64.wrap (T:Int)=(T:Int):=Go.IntWalk.i64_in _ (by omega)
 have q1:((cc:Int)==1)=false:=beq_eq_false_iff_ne.2 (by omega)
 have q3:(3:Int)≤(cc:Int):=by omega
 have q4:(192:Int)≤(cc:Int):=by omega
 have D0:=hid (h.later ((Frm.refl (fun _=>False) w).drew))
 have F0:Hid (Frm (fun _=>False) w w.drew):=hid ((Frm.refl (fun _=>False) w).drew)
 have HR0:Hid (BRow w.drew B0 A bs):=hid (hr.drewN 1)
 obtain ⟨r0,r1,r2,r3,r4,r5,r6⟩:=D0.out.cells
 have d3:w.drew.cell? ⟨hb,off+3,none⟩=some (.int .u8 (h3v:Int)):=b3
 have d4:w.drew.cell? ⟨hb,off+4,none⟩=some (.int .u8 (h4v:Int)):=b4
 have d5:w.drew.cell? ⟨hb,off+5,none⟩=some (.int .u8 (p:Int)):=b5
 have HBH:=hid (hhr.drewN 1)
 obtain ⟨y,hy⟩:∃ y,x.dict cc=y:=⟨_,rfl⟩
 have hyt:y.total<9223372036854775808:=by have:=dict_total x cc;rw [hy] at this;omega
 have HO:Hid (oneBody S x cc hd bs=if bs.length<M then .err 10 else if badP p then .err 11 else oneLz S { y.reset with lc:=p % 9,lp:=p / 9 % 5,pb:=p / 45,props:=true } T (bs.take M) (bs.drop M)):=hid (by
  unfold oneBody
  rw [if_neg (by omega),hM,hN,hc31,hT,hp,hy]
  split
  ·rfl
  by_cases hbp:badP p
  ·rw [if_pos ⟨hleg,hbp⟩,if_pos hbp]
  rw [if_neg (fun h=>hbp h.2),if_neg hbp]
  unfold DS.set
  rw [if_pos hleg])
 have HB:=hid hB
 have HH:=hid (And.intro hh3 (And.intro hh4 hp))
 have HT:=hid (And.intro hTl hT1)
 clear h hcc hB hN hM hhr hh1 hh2 hh3 hh4 hc31 hT b3 b4 b5 hp r0 r1 r2 r3 r4 r5 r6 hTl hT1
 go_enter Tryz.func101,Tryz.ntmps101
 go_upto_region 2 with fail
 go_still (by kernel_rfl)
 obtain ⟨w0,hw0⟩:∃ w0,w.drew=w0:=⟨_,rfl⟩
 rw [hw0] at D0 F0 HR0 d3 d4 d5
 have HBH2:Hid (BRow w0 B0 (some ⟨hb,off,none⟩) hd):=hid (by have h:=HBH.out;change BRow w.drew _ _ _ at h;rw [hw0] at h;exact h)
 rw [show ({ heap:=w.heap,tape:=w.tape,drawn:=w.drawn+1,os:=w.os,output:=w.output }:World)=w0 from hw0]
 clear hwa e8 hwb hw1 hsum hw2 b0 b1 b2 hw0
 have hfr:∀ i,w0.frozen? ⟨rb,i,none⟩=false:=fun i=>D0.out.p.frozen i
 obtain ⟨r0,r1,r2,r3,r4,r5,r6⟩:=D0.out.cells
 clear r1 r2 r3 r4 r5 r6 hfr HBH
 go_upto_block 0 with fail
 go_cut [] from 13 (fun wx=>Dict1 w0 rb fb wb kb base S k x cc wv A n c used most wx)
 case first =>
  by_cases h224:224≤cc
  ·have q5:(224:Int)≤(cc:Int):=by omega
   go_wp2_with fail
   refine (clear_c base wb kb S x.C wv _ D0.out.win).mono ?_;rintro e w2 ⟨v',rfl,hw2,hf2,ho2⟩
   obtain ⟨n1,n2,n3,n4,n5,n6,n7,n8,n9,n10⟩:=D0.out.ne
   have D2:=D0.out.win' hw2 hf2 (by rintro q (e | e | e | e) e2 <;> omega)
   obtain ⟨D3,f3⟩:=D2.begin
   have hp3:=D2.p
   have c3:=hp3.cell 3
   have c5:=hp3.cell 5
   have z3:=hp3.frozen 3
   have z5:=hp3.frozen 5
   have DD:=hid D3
   have FF:=hid ((hf2.mono (S':=fun q=>q=rb∨q=wb) fun q _ e=>.inr e).trans (f3.mono fun q _ e=>.inl e))
   have HY2:Hid (x.dict cc={ { x with C:=[] } with total:=0,begun:=true }):=hid (by unfold DS.dict DS.clear;rw [if_neg (by omega),if_pos h224])
   clear hw2 hf2 n1 n2 n3 n4 n5 n6 n7 n8 n9 n10 D2 D3 f3 hp3 r0
   go_wp2
   go_meet
   case rel=>exact ⟨v',by rw [HY2.out];exact DD.out,ho2,FF.out⟩
  have q5:(cc:Int)<224:=by omega
  go_wp2
  go_meet
  case rel=>exact Dict1.not D0.out (by omega) (by omega)
 obtain ⟨wv1,e1,ho1,f1⟩:=hcut
 rw [hy] at e1
 have hBR:∀ q,q=rb∨q=wb→B0≤q:=by
  rintro q (e | e)
  ·exact HB.out q (.inl e)
  exact HB.out q (.inr (.inr (.inl e)))
 have hz0:B0≤w0.heap.size:=Nat.le_trans hB0 F0.out.size
 have hr1:BRow wc B0 A bs:=row_kept HR0.out f1 hz0 hBR
 have hbr1:BRow wc B0 (some ⟨hb,off,none⟩) hd:=row_kept HBH2.out f1 hz0 hBR
 have d3c:wc.drew.cell? ⟨hb,off+3,none⟩=some (.int .u8 (h3v:Int)):=by rw [← HH.out.1];exact hbr1.addr (k:=3) (by omega)
 have d4c:wc.drew.cell? ⟨hb,off+4,none⟩=some (.int .u8 (h4v:Int)):=by rw [← HH.out.2.1];exact hbr1.addr (k:=4) (by omega)
 have F1:Hid (Frm (RdB rb fb wb k wv) w wc.drew):=hid (((F0.out.mono fun _ _ e=>e.elim).trans (f1.mono fun q _ e=>by rcases e with e | e;exact .inl e;exact .inr (.inr (.inl e)))).drew)
 have D1:=hid (e1.later ((Frm.refl (fun _=>False) wc).drew))
 have HR1:Hid (BRow wc.drew B0 A bs):=hid (hr1.drewN 1)
 have HBR1:Hid (BRow wc.drew B0 (some ⟨hb,off,none⟩) hd):=hid (hbr1.drewN 1)
 have hz1:B0≤wc.drew.heap.size:=Nat.le_trans hB0 F1.out.size
 obtain ⟨r0,r1,r2,r3,r4,r5,r6⟩:=D1.out.cells
 clear e1 f1 hr1 hbr1 hBR D0 F0 HR0 HBH2 d3 d4 d5 r0 r1 r3 r4 r5 r6
 go_upto_region 15 with fail
 refine wp_region_stc 15 (by kernel_rfl) (by kernel_rfl) ?_
 simp only [List.take_succ_cons,List.take_zero,List.drop_succ_cons,List.drop_zero]
 repeat still_step
 refine wpStill_nil ?_
 change wpList _ _ _ _ _ wc.drew
 obtain ⟨w1,hw1⟩:∃ w1,wc.drew=w1:=⟨_,rfl⟩
 rw [hw1] at D1 F1 HR1 HBR1 hz1
 rw [hw1]
 clear hw1 r2 d3c d4c e8b hw1b hwc hwd a31 hw31 hw32 hti
 by_cases hM2:M≤n
 ·have HT1:=hid (take_p fb A n c used M w1 D1.out.src hc hM2 (by omega))
  go_wp2_with fail
  refine HT1.out.mono ?_;rintro e w2 ⟨rfl,hs2,hf2⟩
  go_wp2_with fail
  change wpStill _ _ _ _ _ _
  repeat still_step
  refine wpStill_nil ?_
  have d2:=D1.out.src' hs2 hf2
  have hfb:B0≤fb:=HB.out fb (.inr (.inl rfl))
  have hz2:B0≤w2.heap.size:=Nat.le_trans hz1 hf2.size
  have hr2:BRow w2 B0 A bs:=row_kept HR1.out hf2 hz1 (fun q e=>by rw [e];exact hfb)
  have hbr2:BRow w2 B0 (some ⟨hb,off,none⟩) hd:=row_kept HBR1.out hf2 hz1 (fun q e=>by rw [e];exact hfb)
  have F2:Hid (Frm (RdB rb fb wb k wv) w w2.drew):=hid ((F1.out.trans (hf2.mono fun q _ e=>.inr (.inl e))).drew)
  have hMb:M≤bs.length:=by omega
  have D2:=hid (d2.later ((Frm.refl (fun _=>False) w2).drew))
  have HR2:Hid (BRow w2.drew B0 A bs):=hid (hr2.drewN 1)
  have hz2d:B0≤w2.drew.heap.size:=hz2
  have d5:w2.drew.cell? ⟨hb,off+5,none⟩=some (.int .u8 (p:Int)):=by rw [← HH.out.2.2];exact hbr2.addr (k:=5) (by omega)
  obtain ⟨r0,r1,r2,r3,r4,r5,r6⟩:=D2.out.cells
  clear HT1 hs2 hf2 d2 hr2 hbr2 D1 F1 HR1 HBR1 r0 r2 r3 r4 r5 r6
  go_upto_region 19 with fail
  refine wp_region_stc 7 (by kernel_rfl) (by kernel_rfl) ?_
  simp only [List.take_succ_cons,List.take_zero,List.drop_succ_cons,List.drop_zero]
  repeat still_step
  refine wpStill_nil ?_
  change wpList _ _ _ _ _ w2.drew
  obtain ⟨w3,hw3⟩:∃ w3,w2.drew=w3:=⟨_,rfl⟩
  rw [hw3] at D2 F2 HR2 hz2d
  rw [hw3]
  clear hw3 r1 d5 hz2
  have hsb:B0≤k.sb:=HB.out _ (.inr (.inr (.inr (.inl rfl))))
  by_cases hbp:badP p
  ·have HPr:=hid (set_bad k y.st p y.rep y.pr w3 D2.out.s hp255 hbp)
   go_wp2_with fail
   refine HPr.out.mono ?_;rintro e w4 ⟨rfl,hf4⟩
   go_wp2_with fail
   change wpStill _ _ _ _ _ _
   repeat still_step
   refine wpStill_nil ?_
   go_wp2
   go_ret2
   rw [HO.out,if_neg (by omega),if_pos hbp]
   exact ⟨F2.out.trans (hf4.mono fun q _ e=>.inr (.inr (.inr (.inl e)))),rfl,(D2.out.ownB hyt (by omega)).frm hf4 D2.out.ne.2.2.1 D2.out.ne.2.2.2.2.2.1⟩
  have HPr:=hid (set_s k y.st p y.rep y.pr w3 D2.out.s hp255 hbp)
  go_wp2_with fail
  refine HPr.out.mono ?_;rintro e w4 ⟨rfl,lb,hlb,hs4,hf4⟩
  go_wp2_with fail
  change wpStill _ _ _ _ _ _
  repeat still_step
  refine wpStill_nil ?_
  have hpk:p % 9+p / 9 % 5≤4∧p / 45≤4:=by unfold badP at hbp;omega
  have d4:=D2.out.st' (k':=⟨k.sb,lb,p % 9,p / 9 % 5,p / 45⟩) (y:={ y.reset with lc:=p % 9,lp:=p / 9 % 5,pb:=p / 45 }) rfl hlb hs4 ⟨rfl,rfl,rfl⟩ ⟨hpk.1,hpk.2⟩ ⟨(by decide:(0:Nat)<12),fun _=>(by decide:(0:Nat)<4294967296)⟩ ⟨rfl,rfl,rfl,rfl⟩ hf4
  have hr4:BRow w4 B0 A bs:=row_kept HR2.out hf4 hz2d (fun q e=>by rw [e];exact hsb)
  have hz4:B0≤w4.heap.size:=Nat.le_trans hz2d hf4.size
  have hlb2:w.heap.size≤lb:=Nat.le_trans F2.out.size hlb
  have F4:=F2.out.trans (hf4.mono fun q _ e=>(.inr (.inr (.inr (.inl e))):RdB rb fb wb k wv q))
  obtain ⟨d5,f5⟩:=d4.setP
  have p6:=d4.p.cell 6
  have z6:=d4.p.frozen 6
  have hrb:B0≤rb:=HB.out _ (.inl rfl)
  have hr5:=row_kept hr4 f5 hz4 (fun q e=>by rw [e];exact hrb)
  have F5:=hid (F4.trans (f5.mono fun q _ e=>(.inl e:RdB rb fb wb k wv q)))
  have D5:=hid d5
  have HR5:=hid hr5
  have hz5:B0≤(w4.setCell ⟨rb,6,none⟩ (.bool true)).heap.size:=Nat.le_trans hz4 f5.size
  clear HPr hs4 hf4 d4 hr4 D2 F2 HR2 hlb F4 d5 f5 hr5 hz4
  go_upto_region 25 with fail
  obtain ⟨w5,hw5⟩:∃ w5,w4.setCell ⟨rb,6,none⟩ (.bool true)=w5:=⟨_,rfl⟩
  rw [hw5] at D5 F5 HR5 hz5
  rw [hw5]
  clear hw5 p6 z6
  obtain ⟨r0,r1,r2,r3,r4,r5,r6⟩:=D5.out.cells
  clear r2 r4 r5 r6
  have D6:=hid (D5.out.later ((Frm.refl (fun _=>False) w5).drew))
  have F6:=hid (F5.out.drew)
  have HR6:Hid (BRow w5.drew B0 A bs):=hid (HR5.out.drewN 1)
  have hz6:B0≤w5.drew.heap.size:=hz5
  have HC:=hid (chunk_p ⟨k.sb,lb,p % 9,p / 9 % 5,p / 45⟩ 0 (fun _=>0) (fun _=>1024) base wb kb S y.C (bs.take M) wv1 A T M M y.total w5.drew D6.out.s D6.out.win D6.out.b hS D6.out.ok D6.out.st.1 D6.out.st.2 (take_len hMb).symm ((HR6.out.take M).more hz6) (by rw [take_len hMb];exact Nat.le_refl _) (by unfold maxLen;omega) (by rw [take_len hMb];omega) HT.out.2 HT.out.1 hyt)
  refine wp_region_stc 14 (by kernel_rfl) (by kernel_rfl) ?_
  simp only [List.take_succ_cons,List.take_zero,List.drop_succ_cons,List.drop_zero]
  repeat still_step
  refine wpStill_nil ?_
  change wpList _ _ _ _ _ w5.drew
  go_wp2_with fail
  refine HC.out.mono ?_;rintro e w7 hce
  obtain ⟨tv,ev,he⟩:∃ tv ev,e=.returned (.tuple #[tv,ev]):=by
   rcases hce.2 with ⟨_,h2⟩ | ⟨_,_,tv,_,_,h2,_⟩
   ·exact ⟨_,_,h2⟩
   exact ⟨_,_,h2⟩
  subst he
  go_wp2_with fail
  change wpStill _ _ _ _ _ _
  repeat still_step
  refine wpStill_nil ?_
  go_wp2
  go_ret2
  rw [HO.out,if_neg (by omega),if_neg hbp]
  exact chunk_tells D6.out F6.out HB.out hB0 rfl (.inr hlb2) ho1 ((HR6.out.drop (by omega))) (by rw [List.length_drop];omega) (by omega) (by omega) (by omega) hyt hce
 have HT1:=hid (take_no fb A n c used M w1 D1.out.src (by omega))
 go_wp2_with fail
 refine HT1.out.mono ?_;rintro e w2 ⟨rfl,rfl⟩
 go_wp2_with fail
 change wpStill _ _ _ _ _ _
 repeat still_step
 refine wpStill_nil ?_
 go_wp2
 go_ret2
 rw [HO.out,if_pos (by omega)]
 exact ⟨F1.out,rfl,D1.out.ownB hyt (Nat.le_add_right _ _)⟩
open Go.RowKit
theorem Frm.putObj {S:Nat→Prop} {a w:World} (h:Frm S a w) {l:Nat} (hl:S l) (o:Obj):Frm S a (w.putObj l o) :=
 h.trans ⟨rfl,rfl,rfl,by simp,fun k _ hk=>World.putObj_heap_other (fun e=>hk (e▸hl))⟩
def AbN {α:Type} (J:(Nat→Prop)→List α→World→Prop):Prop:=∀ N N' pre A B,J N pre A→Frm N A B→(∀ q,N' q→N q∨(A.heap.size≤q∧q<B.heap.size))→J N' pre B
def AbL {α:Type} (D:Nat) (J:(Nat→Prop)→List α→World→Prop):Prop:=∀ N pre W l o o',D≤l→W.heap[l]?=some o→o.isCells=false→J N pre W→J N pre (W.putObj l o')
def SeqN {α:Type} (F:Fence) (n:Nat) (P:Program) (g:Nat) (bd:Array Value) (encs:α→Array Value) (Px:List α→α→World→Prop) (S:(Nat→Prop)→List α→World→Prop) (Sp:List α→Prop) (B0:Nat) (N0:Nat→Prop) (w:World):Prop :=
 ∀ (l:Nat) (J Jx:(Nat→Prop)→List α→World→Prop) (W:World),Frm (fun q=>¬ N0 q∧B0≤q) w W→AbN J →
  (∀ N pre x W1,J N pre W1→Px pre x W1→YieldAt F (n-1) P l (encs x) W1 fun e W' =>
    (e=.returned (.bool true)∧J N (pre++[x]) W'∧Frm (fun q=>¬ N q∧B0≤q) W1 W')∨(e=.returned (.bool false)∧Jx N (pre++[x]) W')) →
  J N0 [] W →
  CallsIn F n P g (bd++#[.func (.yield l) #[] #[]]) W fun e W'=>(∃ v,e=.returned v)∧((∃ N xs,S N xs W'∧J N xs W')∨(∃ N pre,Sp pre∧Jx N pre W'))
def ownPostN {α:Type} (D B0:Nat) (N:Nat→Prop) (I:(Nat→Prop)→List α→World→Prop) (Ix:Code→(Nat→Prop)→List α→World→Prop) (xs:List α) (W:World):Exit→Act→World→Prop
 | .normal,_,W'=>(W'.heap[D]?=W.heap[D]?∧W'.heap[D+1]?=W.heap[D+1]?)∧Frm (fun q=>¬ N q∧B0≤q) W W'∧I N xs W'
 | .ret,_,W'=>(W'.heap[D]?=W.heap[D]?∧W'.heap[D+1]?=W.heap[D+1]?)∧Ix .ret N xs W'
 | .exit id,_,W'=>(W'.heap[D]?=W.heap[D]?∧W'.heap[D+1]?=W.heap[D+1]?)∧Ix (.exit id) N xs W'
 | .goto t,_,W'=>(W'.heap[D]?=W.heap[D]?∧W'.heap[D+1]?=W.heap[D+1]?)∧Ix (.goto t) N xs W'
 | .panic _,_,_=>False
 | .outgrown,_,_=>False
variable {F : Fence} {n : Nat} {P : Program}
theorem wpIn_rangeFunc_ownW {α:Type} {g:Operand} {ps:Array Tmp} {assign body:Code} {Q:Exit→Act→World→Prop} {a:Act} {w:World}
 (hro:F.round=none) (h1:1≤n) {gf:Nat} {bd:Array Value} (hg:a.eval g=.func (.func gf) bd #[]) (hFg:F.fn gf) (eg:∀ args w,(callFunc gf args).run P w=.ok (.enter gf args) w)
 {encs:α→Array Value} {Px:List α→α→World→Prop} {S:(Nat→Prop)→List α→World→Prop} {Sp:List α→Prop} {B0:Nat} {N0:Nat→Prop} (hseq:SeqN F (n-1) P gf bd encs Px S Sp B0 N0 w)
 (hN0:∀ q,N0 q→q<w.heap.size) (hB0:B0≤w.heap.size) (hps:∀ x,(encs x).size=ps.size)
 (I:(Nat→Prop)→List α→World→Prop) (Ix:Code→(Nat→Prop)→List α→World→Prop) (hI:AbN I) (hS:AbL w.heap.size S) (hIl:AbL w.heap.size I) (hIxl:∀ c,AbL w.heap.size (Ix c)) (h0:I N0 [] ((w.alloc (.deferred (some []))).alloc (.loop default))) (a₁:α→Act)
 (hPx:∀ pre x W l o o',w.heap.size≤l→W.heap[l]?=some o→o.isCells=false→Px pre x W→Px pre x (W.putObj l o'))
 (hassign:∀ (l:Nat) (x:α) (W:World) (K:Act→World→Prop),K (a₁ x) W →
   assign.wpIn (F.inRound l) (n-1-1) P (Exit.then K (fun _ _ _=>False)) { tmps:=(ps.zip (encs x)).foldl (fun t (p,v)=>t.setIfInBounds p v) a.tmps,defers:=[] } W)
 (hbody:∀ (l:Nat) (N:Nat→Prop) (pre:List α) (x:α) (W:World),I N pre W→Px pre x W→¬ N w.heap.size→¬ N (w.heap.size+1)→W.heap[w.heap.size]?=some (.deferred (some []))→(∃ r,W.heap[w.heap.size+1]?=some (.loop r))→body.wpIn (F.inRound l) (n-1-1) P (ownPostN w.heap.size B0 N I Ix (pre++[x]) W) (a₁ x) W)
 (hdone:∀ (N:Nat→Prop) (xs:List α) (W:World),S N xs W→I N xs W→W.heap[w.heap.size]?=some (.deferred (some []))→Q .normal { a with defers:={ target:=.collected w.heap.size,args:=#[] }::a.defers } W)
 (hstop:∀ (c:Code) (N:Nat→Prop) (pre:List α) (W:World),Sp pre→Ix c N pre W→W.heap[w.heap.size]?=some (.deferred (some []))→c.wpIn F n P Q { a with defers:={ target:=.collected w.heap.size,args:=#[] }::a.defers } W) :
 (Code.rangeFunc g ps assign body).wpIn F n P Q a w:=by
 refine wpIn_rangeFunc ?_
 intro fn hfn
 rw [hro]
 obtain ⟨rec,hrec⟩:∃ rec:LoopState→Option Code→Loop,rec=fun st pe=>{ state:=st,pending:=pe,fn,tmps:=a.tmps,params:=ps,assign,body,defers:=w.heap.size }:=⟨_,rfl⟩
 obtain ⟨W1,hW1⟩:∃ W1,(w.alloc (.deferred (some []))).alloc (.loop (rec .ready none))=W1:=⟨_,rfl⟩
 have hL1:W1.heap[w.heap.size+1]?=some (.loop (rec .ready none)):=by
  rw [← hW1];have:=World.alloc_heap_new (w.alloc (.deferred (some []))) (.loop (rec .ready none));rwa [World.size_alloc] at this
 have hK1:W1.heap[w.heap.size]?=some (.deferred (some [])):=by
  rw [← hW1];exact (Below.heap_alloc _ _ _ (by simp)).trans (World.alloc_heap_new w _)
 have hI1:I N0 [] W1:=by
  have hL0:((w.alloc (.deferred (some []))).alloc (.loop default)).heap[w.heap.size+1]?=some (.loop default):=by
   have:=World.alloc_heap_new (w.alloc (.deferred (some []))) (.loop default);rwa [World.size_alloc] at this
  have h:=hIl N0 [] _ (w.heap.size+1) _ (.loop (rec .ready none)) (by omega) hL0 rfl h0
  have e:((w.alloc (.deferred (some []))).alloc (.loop default)).putObj (w.heap.size+1) (.loop (rec .ready none))=W1:=by
   rw [← hW1]
   simp only [World.putObj,World.alloc]
   congr 1
   apply Array.ext_getElem?
   intro i
   simp only [Array.getElem?_setIfInBounds,Array.getElem?_push,Array.size_push]
   repeat' split
   all_goals first | rfl | omega | simp_all
  rw [e] at h
  exact h
 have hb1:Frm (fun q=>¬ N0 q∧B0≤q) w W1:=by
  rw [← hW1];exact ((Frm.refl _ w).alloc _).alloc _
 refine ⟨w.heap.size+1,[{ target:=.collected w.heap.size,args:=#[] }],W1,{ target:=.fn (.func gf) #[],args:=bd++#[.func (.yield (w.heap.size+1)) #[] #[]] },W1,gf,
  bd++#[.func (.yield (w.heap.size+1)) #[] #[]],W1,?_,?_,?_,?_,fun _=>h1,?_⟩
 ·rw [← hW1,hrec];exact run_enterLoop_outer _ _ _ _ _
 ·simp only [resolve,hg]
  simp [go_sem]
 ·intro f' hf';simp [Target.leads] at hf';subst hf';exact hFg
 ·simp [invoke,go_sem,eg]
 refine (hseq (w.heap.size+1)
  (fun N pre W=>I N pre W∧¬ N w.heap.size∧¬ N (w.heap.size+1)∧W.heap[w.heap.size+1]?=some (.loop (rec .ready none))∧W.heap[w.heap.size]?=some (.deferred (some [])))
  (fun N pre W=>∃ c,Ix c N pre W∧¬ N w.heap.size∧¬ N (w.heap.size+1)∧W.heap[w.heap.size+1]?=some (.loop (rec .done (some c)))∧W.heap[w.heap.size]?=some (.deferred (some [])))
  W1 hb1 ?_ ?_ ⟨hI1,fun h=>by have:=hN0 _ h;omega,fun h=>by have:=hN0 _ h;omega,hL1,hK1⟩).mono ?_
 ·rintro N N' pre A B ⟨hi,hn1,hn2,hl,hk⟩ hf hN
  have l1:=(Array.getElem?_eq_some_iff.1 hl).1
  have l2:=(Array.getElem?_eq_some_iff.1 hk).1
  exact ⟨hI N N' pre A B hi hf hN,fun h=>by rcases hN _ h with h | h;exact hn1 h;omega,fun h=>by rcases hN _ h with h | h;exact hn2 h;omega,(hf.block _ l1 hn2).trans hl,(hf.block _ l2 hn1).trans hk⟩
 ·rintro N pre x W ⟨hi,hn1,hn2,hl,hk⟩ hpx
  have hlt:w.heap.size+1<W.heap.size:=(Array.getElem?_eq_some_iff.1 hl).1
  have hy:=run_yield (P:=P) (args:=encs x) hl (by rw [hrec];exact hps x)
  rw [hrec] at hy
  refine ⟨fn,_,assign,body,hy,roundIn_of_wpIn hfn (hassign _ x W _ ⟨_,run_beginRound hl (by rw [hrec]),?_⟩)⟩
  obtain ⟨W2,hW2⟩:∃ W2,W.putObj (w.heap.size+1) (.loop { rec .ready none with state:=.busy })=W2:=⟨_,rfl⟩
  have hl2:W2.heap[w.heap.size+1]?=some (.loop { rec .ready none with state:=.busy }):=by rw [← hW2];exact World.putObj_heap_same hlt
  have hk2:W2.heap[w.heap.size]?=some (.deferred (some [])):=by rw [← hW2];exact (World.putObj_heap_other (by omega)).trans hk
  have hf2:Frm (fun q=>¬ N q∧B0≤q) W W2:=by rw [← hW2];exact (Frm.refl _ W).putObj (S:=fun q=>¬ N q∧B0≤q) ⟨hn2,by omega⟩ _
  have hi2:I N pre W2:=by rw [← hW2];exact hIl N pre W _ _ _ (by omega) hl rfl hi
  have hp2:Px pre x W2:=by rw [← hW2];exact hPx pre x W _ _ _ (by omega) hl rfl hpx
  have hlt2:w.heap.size+1<W2.heap.size:=(Array.getElem?_eq_some_iff.1 hl2).1
  rw [hW2]
  refine wpIn_mono (hbody _ N pre x _ hi2 hp2 hn1 hn2 hk2 ⟨_,hl2⟩) ?_
  have fin:∀ (jump:Option Code) (W3:World),(W3.heap[w.heap.size]?=W2.heap[w.heap.size]?∧W3.heap[w.heap.size+1]?=W2.heap[w.heap.size+1]?) →
   (Instr.endRound (w.heap.size+1) jump).run P W3=.ok (.bool jump.isNone) (W3.putObj (w.heap.size+1) (.loop (rec (if jump.isNone then .ready else .done) jump))) ∧
   W3.heap[w.heap.size+1]?=some (.loop { rec .ready none with state:=.busy }) ∧
   (W3.putObj (w.heap.size+1) (.loop (rec (if jump.isNone then .ready else .done) jump))).heap[w.heap.size+1]?=some (.loop (rec (if jump.isNone then .ready else .done) jump)) ∧
   (W3.putObj (w.heap.size+1) (.loop (rec (if jump.isNone then .ready else .done) jump))).heap[w.heap.size]?=some (.deferred (some [])):=fun jump W3 hk3=>by
   have hl3:=hk3.2.trans hl2
   have:=run_endRound (P:=P) jump hl3
   rw [hrec] at this ⊢
   exact ⟨this,by rw [hrec] at hl3;exact hl3,World.putObj_heap_same (Array.getElem?_eq_some_iff.1 hl3).1,(World.putObj_heap_other (by omega)).trans (hk3.1.trans hk2)⟩
  rintro e a3 W3 hp
  cases e with
  | normal =>
   obtain ⟨hk3,hkp3,hi3⟩:=hp
   obtain ⟨hr,hl3,hl4,hk4⟩:=fin none W3 hk3
   exact ⟨_,_,hr,.inl ⟨rfl,⟨hIl _ _ _ _ _ _ (by omega) hl3 rfl hi3,hn1,hn2,hl4,hk4⟩,(hf2.trans hkp3).putObj (S:=fun q=>¬ N q∧B0≤q) ⟨hn2,by omega⟩ _⟩⟩
  | ret =>
   obtain ⟨hk3,hi3⟩:=hp
   obtain ⟨hr,hl3,hl4,hk4⟩:=fin (some .ret) W3 hk3
   exact ⟨_,_,hr,.inr ⟨rfl,.ret,hIxl _ _ _ _ _ _ _ (by omega) hl3 rfl hi3,hn1,hn2,hl4,hk4⟩⟩
  | exit id =>
   obtain ⟨hk3,hi3⟩:=hp
   obtain ⟨hr,hl3,hl4,hk4⟩:=fin (some (.exit id)) W3 hk3
   exact ⟨_,_,hr,.inr ⟨rfl,.exit id,hIxl _ _ _ _ _ _ _ (by omega) hl3 rfl hi3,hn1,hn2,hl4,hk4⟩⟩
  | goto t =>
   obtain ⟨hk3,hi3⟩:=hp
   obtain ⟨hr,hl3,hl4,hk4⟩:=fin (some (.goto t)) W3 hk3
   exact ⟨_,_,hr,.inr ⟨rfl,.goto t,hIxl _ _ _ _ _ _ _ (by omega) hl3 rfl hi3,hn1,hn2,hl4,hk4⟩⟩
  | panic ch=>exact hp.elim
  | outgrown=>exact hp.elim
 rintro e W2 ⟨⟨v,rfl⟩,(⟨N,xs,hSx,hi,hn1,hn2,hl,hk⟩ | ⟨N,pre,hSp,c,hi,hn1,hn2,hl,hk⟩)⟩
 ·exact ⟨none,_,by have:=run_endLoop (P:=P) hl (by rw [hrec];simp);rw [hrec] at this;exact this,hdone N xs _ (hS _ _ _ _ _ _ (by omega) hl rfl hSx) (hIl _ _ _ _ _ _ (by omega) hl rfl hi) ((World.putObj_heap_other (by omega)).trans hk)⟩
 exact ⟨some c,_,by have:=run_endLoop (P:=P) hl (by rw [hrec];simp);rw [hrec] at this;exact this,hstop c N pre _ hSp (hIxl _ _ _ _ _ _ _ (by omega) hl rfl hi) ((World.putObj_heap_other (by omega)).trans hk)⟩
open Go.RowKit Rng Win Lz
def evGo (S most:Nat):Nat→DS→Nat→List UInt8→List (List UInt8×Nat)×Option (List UInt8)
 | 0,_,_,_=>([([],10)],none)
 | f+1,x,told,src =>
  match one S x src with
  | .err e=>([([],e)],none)
  | .fin rest=>([],some rest)
  | .told b y rest=>if most<told+b.length then ([([],3)],none) else ((b,0)::(evGo S most f { y with total:=y.total+b.length } (told+b.length) rest).1,(evGo S most f { y with total:=y.total+b.length } (told+b.length) rest).2)
def evOut (l:List (List UInt8×Nat)):List UInt8:=(l.map (·.1)).flatten
def evErr (l:List (List UInt8×Nat)):Nat:=((l.map (·.2)).find? (· ≠ 0)).getD 0
theorem one_err {S:Nat} {x:DS} {src:List UInt8} {e:Nat} (h:one S x src=.err e):e≠0:=by
 unfold one oneBody oneLz at h
 repeat' split at h
 all_goals first | (cases h;done) | (injection h with h;omega)
theorem evGo_d2Go (S most:Nat):∀ (f:Nat) (x:DS) (out src:List UInt8),d2Go S most f x out src=(out++evOut (evGo S most f x out.length src).1,match (evGo S most f x out.length src).2 with | none=>.inl (evErr (evGo S most f x out.length src).1) | some r=>.inr r)
 | 0,x,out,src=>by simp [d2Go,evGo,evOut,evErr]
 | f+1,x,out,src=>by
  unfold d2Go evGo
  cases h:one S x src with
  | err e =>
   have:=one_err h
   simp [evOut,evErr,this]
  | fin rest=>simp [evOut]
  | told b y rest =>
   simp only
   by_cases hm:most<out.length+b.length
   ·simp [hm,evOut,evErr]
   rw [if_neg hm,if_neg hm]
   have ih:=evGo_d2Go S most f { y with total:=y.total+b.length } (out++b) rest
   rw [List.length_append] at ih
   rw [ih]
   simp [evOut,evErr]
theorem evGo_ok (S most:Nat):∀ (f:Nat) (x:DS) (told:Nat) (src:List UInt8),(∃ l b e,(evGo S most f x told src).1=l++[(b,e)]∧e≠0∧b=[]∧(evGo S most f x told src).2=none∧∀ p∈l,p.2=0)∨((∃ r,(evGo S most f x told src).2=some r)∧∀ p∈(evGo S most f x told src).1,p.2=0)
 | 0,_,_,_=>.inl ⟨[],[],10,rfl,by decide,rfl,rfl,fun _ h=>by cases h⟩
 | f+1,x,told,src=>by
  unfold evGo
  cases h:one S x src with
  | err e=>exact .inl ⟨[],[],e,rfl,one_err h,rfl,rfl,fun _ h=>by cases h⟩
  | fin rest=>exact .inr ⟨⟨rest,rfl⟩,fun _ h=>by cases h⟩
  | told b y rest =>
   simp only
   by_cases hm:most<told+b.length
   ·rw [if_pos hm]
    exact .inl ⟨[],[],3,rfl,by decide,rfl,rfl,fun _ h=>by cases h⟩
   rw [if_neg hm]
   rcases evGo_ok S most f { y with total:=y.total+b.length } (told+b.length) rest with ⟨l,b2,e2,h1,h2,h3,h4,h5⟩ | ⟨⟨r,h1⟩,h2⟩
   ·exact .inl ⟨(b,0)::l,b2,e2,by simp only [h1];rfl,h2,h3,h4,fun p hp=>by
     rcases List.mem_cons.1 hp with e | e
     ·rw [e]
     exact h5 p e⟩
   exact .inr ⟨⟨r,h1⟩,fun p hp=>by
    rcases List.mem_cons.1 hp with e | e
    ·rw [e]
    exact h2 p e⟩
theorem body_facts {S:Nat} {x y:DS} {c:Nat} {h r b rest:List UInt8} (hst:x.st<12∧∀ j,x.rep j<4294967296) (hb:oneBody S x c h r=.told b y rest):y.total≤x.total∧b.length≤2097152∧rest.length≤r.length:=by
 have hd:=dict_total x c
 unfold oneBody at hb
 split at hb
 ·split at hb
  ·cases hb
  injection hb with h1 h2 h3
  subst h1 h2 h3
  have:=twoB_le h 1
  refine ⟨hd,by rw [List.length_take];omega,by rw [List.length_drop];omega⟩
 split at hb
 ·cases hb
 split at hb
 ·cases hb
 unfold oneLz at hb
 have hs:∀ p,((x.dict c).set c p).st<12∧(∀ j,((x.dict c).set c p).rep j<4294967296)∧((x.dict c).set c p).total≤x.total:=by
  intro p
  unfold DS.set DS.dict DS.reset DS.clear
  repeat' split
  all_goals first | exact ⟨hst.1,hst.2,Nat.le_refl _⟩ | exact ⟨hst.1,hst.2,Nat.zero_le _⟩ | exact ⟨(show (0:Nat)<12 by decide),fun _=>(show (0:Nat)<4294967296 by decide),Nat.le_refl _⟩ | exact ⟨(show (0:Nat)<12 by decide),fun _=>(show (0:Nat)<4294967296 by decide),Nat.zero_le _⟩
 obtain ⟨s1,s2,s3⟩:=hs (h.getD 5 0).toNat
 split at hb
 ·cases hb
 rename_i t z hz
 injection hb with h1 h2 h3
 subst h1 h2 h3
 have hi:=chunkOf_inv s1 s2 hz
 have:=twoB_le h 1
 refine ⟨s3,by rw [hi.2];omega,by rw [List.length_drop];omega⟩
open Go.RowKit Rng Win Lz
attribute [local go_sem] Oper.semAt_some
structure Ck where
 val:Value
 b:List UInt8
 e:Nat
def ckEnc (x:Ck):Array Value:=#[x.val,.int .i64 (x.e:Int)]
def ckP (x:Ck):List UInt8×Nat:=(x.b,x.e)
def sumC (pre:List Ck):Nat:=(pre.map (·.b.length)).sum
def PxC (fb un most:Nat) (pre:List Ck) (x:Ck) (W:World):Prop :=
 (∃ A n c used,SrcAt W fb A n c used∧used≤un)∧∃ Ab cb,x.val=.slice Ab x.b.length cb∧BRow W W.heap.size Ab x.b∧x.b.length≤cb∧cb≤maxLen∧sumC pre+x.b.length≤most∧(x.e≠0→x.val=.slice none 0 0)
def SC (E:List (List UInt8×Nat)×Option (List UInt8)) (fb un B0:Nat) (N:Nat→Prop) (xs:List Ck) (W:World):Prop :=
 xs.map ckP=E.1∧∀ rest,E.2=some rest→∃ A n c used,SrcAt W fb A n c used∧used+n=un∧BRow W B0 A rest∧n=rest.length∧n≤c∧c≤maxLen
def SpC (E:List (List UInt8×Nat)×Option (List UInt8)) (pre:List Ck):Prop:=pre.map ckP <+: E.1
theorem pxC_err (fb un most:Nat) (pre:List Ck) (e:Nat) (W:World) (hs:∃ A n c used,SrcAt W fb A n c used∧used≤un) (h:sumC pre≤most):PxC fb un most pre ⟨.slice none 0 0,[],e⟩ W :=
 ⟨hs,none,0,rfl,BRow.nil _ _ _,Nat.le_refl _,Nat.zero_le _,by simpa using h,fun _=>rfl⟩
theorem BRow.setI64 {w:World} {B:Nat} {A:Option Addr} {bs:List UInt8} {p:Addr} {z:Int} (h:BRow w B A bs) (hp:w.cell? p=some (.int .i64 z)) (v:Value):BRow (w.setCell p v) B A bs:=by
 intro h0
 obtain ⟨b,off,rfl,hb,hc⟩:=h h0
 refine ⟨b,off,rfl,hb,fun k hk=>?_⟩
 rw [World.cell?_setCell_other]
 ·exact hc k hk
 intro e
 rw [e,hc k hk] at hp
 simp [byteV] at hp
theorem body_p (rb fb wb kb base S B0:Nat) (k:LK) (x:DS) (wv:Value) (A:Option Addr) (n c used:Nat) (most:Int) (bs hd:List UInt8) (ha:Option Addr) (cc m:Nat) (w:World)
 (h:RdS w rb fb wb kb base S k x wv A n c used most) (hB:∀ q,RdB rb fb wb k wv q→B0≤q) (hB0:B0≤w.heap.size) (hS:S≤16777216) (hn:n=bs.length) (hr:BRow w B0 A bs) (hc:n≤c) (hcm:c≤maxLen)
 (hhr:BRow w B0 ha hd) (hm:m=headN cc) (hdl:hd.length=m) (hcc:(hd.getD 0 0).toNat=cc) (hleg:m≠0∧m≠1) (hu:used+n≤4611686018427387904) (ht:x.total<9223372036854775808) :
 Calls Tryz.prog 101 #[.pointer (some ⟨rb,0,none⟩),.slice ha m m] w (BodyEnd rb fb wb kb base S B0 k wv most (used+n) w (oneBody S x cc hd bs)):=by
 obtain ⟨hb,off,rfl,_,_⟩:=hhr (by omega)
 have hcase:(cc=1∨cc=2)∧m=3∨(128≤cc∧cc<192)∧m=5∨192≤cc∧m=6:=by
  unfold headN at hm
  repeat' split at hm
  all_goals omega
 rcases hcase with ⟨h1,rfl⟩ | ⟨h1,rfl⟩ | ⟨h1,rfl⟩
 ·exact body_raw rb fb wb kb base S B0 k x wv A n c used most bs hd hb off cc w h hB hB0 hS hn hr hc hcm hhr hdl hcc h1 hu ht
 ·exact body_lz rb fb wb kb base S B0 k x wv A n c used most bs hd hb off cc w h hB hB0 hS hn hr hc hcm hhr hdl hcc h1 hu ht
 exact body_set rb fb wb kb base S B0 k x wv A n c used most bs hd hb off cc w h hB hB0 hS hn hr hc hcm hhr hdl hcc h1 hu ht
set_option maxRecDepth 8000 in
set_option maxHeartbeats 10000000 in
theorem chunks_seq (n rb fb wb kb base S B0:Nat) (k:LK) (x:DS) (wv:Value) (A:Option Addr) (nn c used most un:Nat) (bs:List UInt8) (w:World) (hn1:2≤n)
 (h:RdS w rb fb wb kb base S k x wv A nn c used (most:Int)) (hB:∀ q,RdB rb fb wb k wv q→B0≤q) (hB0:B0≤w.heap.size) (hS:S≤16777216) (hn:nn=bs.length) (hr:BRow w B0 A bs) (hc:nn≤c) (hcm:c≤maxLen)
 (hu:used+nn=un) (hub:un≤4611686018427387904) (ht:x.total+most≤4611686018427387904) :
 SeqN Fence.wide n Tryz.prog 83 #[.pointer (some ⟨rb,0,none⟩)] ckEnc (PxC fb un most) (SC (evGo S most (bs.length+1) x 0 bs) fb un B0) (SpC (evGo S most (bs.length+1) x 0 bs)) B0 (RdB rb fb wb k wv) w:=by
 intro l J Jx W hW hJ hY h0
 have hd:RdS W rb fb wb kb base S k x wv A nn c used (most:Int):=h.frm hW (fun q hq hn=>hn.1 hq)
 have hr':BRow W B0 A bs:=row_kept hr hW hB0 (fun q hq=>hq.2)
 have hz:B0≤W.heap.size:=Nat.le_trans hB0 hW.size
 obtain ⟨E,hE⟩:∃ E,evGo S most (bs.length+1) x 0 bs=E:=⟨_,rfl⟩
 rw [hE]
 obtain ⟨T0,hT0⟩:∃ T,x.total=T:=⟨_,rfl⟩
 have HJ:=hid hJ
 have HY:=hid hY
 have HS:Hid (J (RdB rb fb wb k wv) [] W∧RdS W rb fb wb kb base S k x wv A nn c used (most:Int)∧BRow W B0 A bs∧nn=bs.length∧nn≤c∧c≤maxLen∧used+nn=un∧(∀ q,RdB rb fb wb k wv q→B0≤q)∧B0≤W.heap.size∧x.total≤T0) :=
  hid ⟨h0,hd,hr',hn,hc,hcm,hu,hB,hz,by omega⟩
 have HE:=hid hE
 have HT:Hid (T0+most≤4611686018427387904):=hid (by omega)
 clear h hB hB0 hn hr hc hcm hu ht hW hJ hY h0 hd hr' hz hE hT0
 refine callsIn_of_wp Tryz.func83 rfl trivial ?_ rfl
 simp only [Tryz.ntmps83,List.size_toArray,List.length_cons,List.length_nil,Nat.reduceAdd,Nat.reduceSub,Array.replicate_succ,Array.replicate_zero,List.push_toArray,List.append_toArray,List.nil_append,List.cons_append]
 gi_wp2
 gi_loopg [4] (bs.length+1) (fun gf tv wr=>∃ (pre:List Ck) (told:Nat) (x1:DS) (k1:LK) (wv1:Value) (A1:Option Addr) (n1 c1 used1:Nat) (src:List UInt8),tv=.int .i64 (told:Int)∧J (RdB rb fb wb k1 wv1) pre wr∧RdS wr rb fb wb kb base S k1 x1 wv1 A1 n1 c1 used1 (most:Int)∧BRow wr B0 A1 src∧n1=src.length∧n1≤c1∧c1≤maxLen∧used1+n1=un∧(∀ q,RdB rb fb wb k1 wv1 q→B0≤q)∧B0≤wr.heap.size∧x1.total≤T0+told∧src.length<gf∧told≤most∧told=sumC pre∧E.1=pre.map ckP++(evGo S most gf x1 told src).1∧E.2=(evGo S most gf x1 told src).2)
 case atStart =>
  obtain ⟨h1,h2,h3,h4,h5,h6,h7,h8,h9,h10⟩:=HS.out
  exact ⟨[],0,x,k,wv,A,nn,c,used,bs,rfl,h1,h2,h3,h4,h5,h6,h7,h8,h9,h10,by omega,by omega,rfl,by rw [HE.out];rfl,by rw [HE.out]⟩
 obtain ⟨pre,told,x1,k1,wv1,A1,n1,c1,used1,src,rfl,hj,hd,hr,hn,hc,hcm,hu,hB,hz,htot,hlen,htm,hts,hE1,hE2⟩:=hrel
 clear HS HE
 obtain ⟨g,rfl⟩:∃ g,gk=g+1:=⟨gk-1,by omega⟩
 have HJ1:=hid hj
 have HD:=hid hd
 have HR:=hid hr
 have HB:=hid hB
 have HU:=hid hu
 have HTS:=hid hts
 have h1n:1≤n:=by omega
 obtain ⟨r0,r1,r2,r3,r4,r5,r6⟩:=hd.cells
 have hend:∀ (e:Nat) (xk:Ck) (W':World),evGo S most (g+1) x1 told src=([([],e)],none)→xk.b=[]→xk.e=e→((J (RdB rb fb wb k1 wv1) (pre++[xk]) W'→SC E fb un B0 (RdB rb fb wb k1 wv1) (pre++[xk]) W')∧SpC E (pre++[xk])):=by
  intro e xk W' hev hxb hxe
  rw [hev] at hE1 hE2
  have hm:(pre++[xk]).map ckP=E.1:=by rw [List.map_append,hE1];simp [ckP,hxb,hxe]
  exact ⟨fun _=>⟨hm,fun rest hrst=>by rw [hE2] at hrst;cases hrst⟩,by unfold SpC;rw [hm];exact List.prefix_refl _⟩
 have HEND:=hid hend
 have HE1:=hid hE1
 have HE2:=hid hE2
 clear hj hd hr hB hu hts hend hE1 hE2 r0 r1 r3 r4
 have HYE:Hid (∀ (e:Nat) (W1:World),(∃ A n c used,SrcAt W1 fb A n c used∧used≤un)→J (RdB rb fb wb k1 wv1) pre W1→YieldAt Fence.wide (n-1) Tryz.prog l #[.slice none 0 0,.int .i64 (e:Int)] W1 fun e' W' =>
  (e'=.returned (.bool true)∧J (RdB rb fb wb k1 wv1) (pre++[⟨.slice none 0 0,[],e⟩]) W'∧Frm (fun q=>¬ RdB rb fb wb k1 wv1 q∧B0≤q) W1 W')∨(e'=.returned (.bool false)∧Jx (RdB rb fb wb k1 wv1) (pre++[⟨.slice none 0 0,[],e⟩]) W')):=Lib.hid
  (fun e W1 hs hj=>HY.out _ pre ⟨.slice none 0 0,[],e⟩ W1 hj (pxC_err fb un most pre e W1 hs (by rw [← HTS.out];exact htm)))
 by_cases hs0:src.length<1
 ·have hev:evGo S most (g+1) x1 told src=([([],10)],none):=by
   unfold evGo one
   rw [if_pos hs0]
  obtain ⟨fn,tmps,assign,body,hy,hR⟩:=HYE.out 10 wr ⟨_,_,_,_,HD.out.src,by have:=HU.out;omega⟩ HJ1.out
  replace hy:(Instr.yield l #[.slice none 0 0,.int .i64 10]).run Tryz.prog wr=.ok (.round l fn tmps assign body) wr:=hy
  have HP:=hid (peek_p fb A1 n1 c1 used1 1 wr HD.out.src hc)
  rw [if_neg (by omega)] at HP
  have HEV:=hid hev
  clear hev
  gi_wp2_with (refine ⟨trivial,?_⟩;gi_at_call 45;refine (callsIn_wide.2 HP.out).mono ?_;rintro e w2 ⟨rfl,hw⟩;subst hw)
  refine hR.mono ?_
  rintro e W' (⟨rfl,hJ',hk⟩ | ⟨rfl,hJx'⟩)
  ·gi_wp2
   refine bodyPost_ret (results_none rfl _ _ _) rfl ?_
   exact ⟨⟨_,rfl⟩,.inl ⟨_,_,(HEND.out 10 _ W' HEV.out rfl rfl).1 hJ',hJ'⟩⟩
  gi_wp2
  refine bodyPost_ret (results_none rfl _ _ _) rfl ?_
  exact ⟨⟨_,rfl⟩,.inr ⟨_,_,(HEND.out 10 _ W' HEV.out rfl rfl).2,hJx'⟩⟩
 obtain ⟨ab,ao,rfl,hab,hcell⟩:=HR.out (by omega)
 obtain ⟨c0,hc0⟩:∃ c,(src.getD 0 0).toNat=c:=⟨_,rfl⟩
 have hc256:c0<256:=by rw [← hc0];exact (src.getD 0 0).toNat_lt
 have b0:wr.cell? ⟨ab,ao,none⟩=some (.int .u8 (c0:Int)):=by rw [← hc0];exact hcell 0 (by omega)
 obtain ⟨m,hm⟩:∃ m,headN c0=m:=⟨_,rfl⟩
 have hm6:m≤6:=by rw [← hm];exact headN_le c0
 have HP:=hid (peek_p fb (some ⟨ab,ao,none⟩) n1 c1 used1 1 wr HD.out.src hc)
 rw [if_pos (by omega)] at HP
 have HH:=hid (mhead_p c0 wr hc256)
 rw [hm] at HH
 have hone:one S x1 src=if m=0 then .err 11 else if src.length<m then .err 10 else if m=1 then .fin (src.drop 1) else if badHead x1 c0 then .err 11 else oneBody S x1 c0 (src.take m) (src.drop m):=by
  unfold one
  rw [if_neg hs0,hc0,hm]
 have HO:=hid hone
 have HM:=hid hm
 have HC0:=hid hc0
 clear hone hm hc0 hcell
 by_cases hm0:m=0
 ·have hev:evGo S most (g+1) x1 told src=([([],11)],none):=by
   unfold evGo
   rw [HO.out,if_pos hm0]
  obtain ⟨fn,tmps,assign,body,hy,hR⟩:=HYE.out 11 wr ⟨_,_,_,_,HD.out.src,by have:=HU.out;omega⟩ HJ1.out
  replace hy:(Instr.yield l #[.slice none 0 0,.int .i64 11]).run Tryz.prog wr=.ok (.round l fn tmps assign body) wr:=hy
  have HEV:=hid hev
  have q0:((m:Int)==0)=true:=beq_iff_eq.2 (by omega)
  clear hev
  gi_wp2_with (first | (refine ⟨trivial,?_⟩;gi_at_call 45;refine (callsIn_wide.2 HP.out).mono ?_;rintro e w2 ⟨rfl,hw⟩;subst hw) | (refine ⟨trivial,?_⟩;gi_at_call 100;refine (callsIn_wide.2 HH.out).mono ?_;rintro e w2 ⟨rfl,hw⟩;subst hw))
  refine hR.mono ?_
  rintro e W' (⟨rfl,hJ',hk⟩ | ⟨rfl,hJx'⟩)
  ·gi_wp2
   refine bodyPost_ret (results_none rfl _ _ _) rfl ?_
   exact ⟨⟨_,rfl⟩,.inl ⟨_,_,(HEND.out 11 _ W' HEV.out rfl rfl).1 hJ',hJ'⟩⟩
  gi_wp2
  refine bodyPost_ret (results_none rfl _ _ _) rfl ?_
  exact ⟨⟨_,rfl⟩,.inr ⟨_,_,(HEND.out 11 _ W' HEV.out rfl rfl).2,hJx'⟩⟩
 have q0:((m:Int)==0)=false:=beq_eq_false_iff_ne.2 (by omega)
 by_cases hml:src.length<m
 ·have hev:evGo S most (g+1) x1 told src=([([],10)],none):=by
   unfold evGo
   rw [HO.out,if_neg hm0,if_pos hml]
  obtain ⟨fn,tmps,assign,body,hy,hR⟩:=HYE.out 10 wr ⟨_,_,_,_,HD.out.src,by have:=HU.out;omega⟩ HJ1.out
  replace hy:(Instr.yield l #[.slice none 0 0,.int .i64 10]).run Tryz.prog wr=.ok (.round l fn tmps assign body) wr:=hy
  have HEV:=hid hev
  have HT1:=hid (take_no fb (some ⟨ab,ao,none⟩) n1 c1 used1 m wr HD.out.src (by omega))
  clear hev
  gi_wp2_with (first | (refine ⟨trivial,?_⟩;gi_at_call 45;refine (callsIn_wide.2 HP.out).mono ?_;rintro e w2 ⟨rfl,hw⟩;subst hw) | (refine ⟨trivial,?_⟩;gi_at_call 100;refine (callsIn_wide.2 HH.out).mono ?_;rintro e w2 ⟨rfl,hw⟩;subst hw) | (refine ⟨trivial,?_⟩;gi_at_call 47;refine (callsIn_wide.2 HT1.out).mono ?_;rintro e w2 ⟨rfl,hw⟩;subst hw))
  refine hR.mono ?_
  rintro e W' (⟨rfl,hJ',hk⟩ | ⟨rfl,hJx'⟩)
  ·gi_wp2
   refine bodyPost_ret (results_none rfl _ _ _) rfl ?_
   exact ⟨⟨_,rfl⟩,.inl ⟨_,_,(HEND.out 10 _ W' HEV.out rfl rfl).1 hJ',hJ'⟩⟩
  gi_wp2
  refine bodyPost_ret (results_none rfl _ _ _) rfl ?_
  exact ⟨⟨_,rfl⟩,.inr ⟨_,_,(HEND.out 10 _ W' HEV.out rfl rfl).2,hJx'⟩⟩
 have HT1:=hid (take_p fb (some ⟨ab,ao,none⟩) n1 c1 used1 m wr HD.out.src hc (by omega) (by have:=HU.out;omega))
 by_cases hm1:m=1
 ·have q1:((m:Int)==1)=true:=beq_iff_eq.2 (by omega)
  have e1:((1:Nat):Int)=1:=rfl
  rw [hm1,e1] at HT1
  clear e1
  gi_wp2_with (first | (refine ⟨trivial,?_⟩;gi_at_call 45;refine (callsIn_wide.2 HP.out).mono ?_;rintro e w2 ⟨rfl,hw⟩;subst hw) | (refine ⟨trivial,?_⟩;gi_at_call 100;refine (callsIn_wide.2 HH.out).mono ?_;rintro e w2 ⟨rfl,hw⟩;subst hw) | (refine ⟨trivial,?_⟩;gi_at_call 47;refine (callsIn_wide.2 HT1.out).mono ?_;rintro e w2 ⟨rfl,hs2,hf2⟩))
  refine bodyPost_ret (results_none rfl _ _ _) rfl ?_
  refine ⟨⟨_,rfl⟩,.inl ⟨RdB rb fb wb k1 wv1,pre,?_,HJ.out _ _ _ _ _ HJ1.out (hf2.mono fun q _ e=>.inr (.inl e)) (fun q hq=>.inl hq)⟩⟩
  have hev:evGo S most (g+1) x1 told src=([],some (src.drop 1)):=by
   unfold evGo
   rw [HO.out,if_neg hm0,if_neg hml,if_pos hm1]
  have e1:=HE1.out
  have e2:=HE2.out
  rw [hev] at e1 e2
  refine ⟨by rw [e1];simp,fun rest hrst=>?_⟩
  rw [e2] at hrst
  injection hrst with hrst
  subst hrst
  have hr2:=row_kept HR.out hf2 hz (fun q e=>by rw [e];exact HB.out fb (.inr (.inl rfl)))
  have:=HU.out
  exact ⟨_,_,_,_,hs2,by omega,hr2.drop (by omega),by rw [List.length_drop];omega,by omega,by omega⟩
 have q1:((m:Int)==1)=false:=beq_eq_false_iff_ne.2 (by omega)
 by_cases hbad:badHead x1 c0
 ·have hev:evGo S most (g+1) x1 told src=([([],11)],none):=by
   unfold evGo
   rw [HO.out,if_neg hm0,if_neg hml,if_neg hm1,if_pos hbad]
  have HEV:=hid hev
  clear hev
  by_cases hba:x1.begun=false∧c0≠1∧c0<224
  ·obtain ⟨hb1,hb2,hb3⟩:=hba
   have q2:((c0:Int)==1)=false:=beq_eq_false_iff_ne.2 (by omega)
   have q3:(c0:Int)<224:=by omega
   have q2n:((c0:Int) != 1)=true:=by simp [bne,q2]
   have hm0i:(0:Int)<(m:Int):=by omega
   clear hbad
   gi_wp2_with (first | (refine ⟨trivial,?_⟩;gi_at_call 45;refine (callsIn_wide.2 HP.out).mono ?_;rintro e w2 ⟨rfl,hw⟩;subst hw) | (refine ⟨trivial,?_⟩;gi_at_call 100;refine (callsIn_wide.2 HH.out).mono ?_;rintro e w2 ⟨rfl,hw⟩;subst hw))
   refine ⟨trivial,?_⟩
   refine (callsIn_wide.2 HT1.out).mono ?_;rintro e w2 ⟨rfl,hs2,hf2⟩
   have hj2:=HJ.out _ _ _ _ _ HJ1.out (hf2.mono (S':=RdB rb fb wb k1 wv1) fun q _ e=>.inr (.inl e)) (fun q hq=>.inl hq)
   have hd2:=HD.out.src' hs2 hf2
   have hr2:=row_kept HR.out hf2 hz (fun q e=>by rw [e];exact HB.out fb (.inr (.inl rfl)))
   have b2:w2.cell? ⟨ab,ao,none⟩=some (.int .u8 (c0:Int)):=by rw [← HC0.out];exact hr2.addr (k:=0) (by omega)
   obtain ⟨s0,s1,s2,s3,s4,s5,s6⟩:=hd2.cells
   rw [hb1] at s5
   have HS2:=hid hs2
   clear hs2 hf2 hd2 hr2 s0 s1 s2 s3 s4 s6 r2 r5 r6 b0 hb2 hb3
   obtain ⟨fn,tmps,assign,body,hy,hR⟩:=HYE.out 11 w2 ⟨_,_,_,_,HS2.out,by have:=HU.out;omega⟩ hj2
   replace hy:(Instr.yield l #[.slice none 0 0,.int .i64 11]).run Tryz.prog w2=.ok (.round l fn tmps assign body) w2:=hy
   clear hj2
   gi_wp2
   refine hR.mono ?_
   rintro e W' (⟨rfl,hJ',hk⟩ | ⟨rfl,hJx'⟩)
   ·gi_wp2
    refine bodyPost_ret (results_none rfl _ _ _) rfl ?_
    exact ⟨⟨_,rfl⟩,.inl ⟨_,_,(HEND.out 11 _ W' HEV.out rfl rfl).1 hJ',hJ'⟩⟩
   gi_wp2
   refine bodyPost_ret (results_none rfl _ _ _) rfl ?_
   exact ⟨⟨_,rfl⟩,.inr ⟨_,_,(HEND.out 11 _ W' HEV.out rfl rfl).2,hJx'⟩⟩
  have hb0:headN c0=5∧x1.props=false:=by
   rcases hbad with h | h
   ·exact absurd h hba
   exact h
  have hm5:m=5:=by rw [← HM.out];exact hb0.1
  have hb2:=hb0.2
  have hb1:x1.begun=true:=by
   cases hb:x1.begun with
   | true=>rfl
   | false =>
    exfalso
    refine hba ⟨hb,?_⟩
    have h5:=hb0.1
    unfold headN at h5
    repeat' split at h5
    all_goals omega
  subst hm5
  have e5:((5:Nat):Int)=5:=rfl
  rw [e5] at HT1 HH
  clear e5 q0 q1 hbad hba hb0
  gi_wp2_with (first | (refine ⟨trivial,?_⟩;gi_at_call 45;refine (callsIn_wide.2 HP.out).mono ?_;rintro e w2 ⟨rfl,hw⟩;subst hw) | (refine ⟨trivial,?_⟩;gi_at_call 100;refine (callsIn_wide.2 HH.out).mono ?_;rintro e w2 ⟨rfl,hw⟩;subst hw))
  refine ⟨trivial,?_⟩
  refine (callsIn_wide.2 HT1.out).mono ?_;rintro e w2 ⟨rfl,hs2,hf2⟩
  have hj2:=HJ.out _ _ _ _ _ HJ1.out (hf2.mono (S':=RdB rb fb wb k1 wv1) fun q _ e=>.inr (.inl e)) (fun q hq=>.inl hq)
  have hd2:=HD.out.src' hs2 hf2
  have hr2:=row_kept HR.out hf2 hz (fun q e=>by rw [e];exact HB.out fb (.inr (.inl rfl)))
  have b2:w2.cell? ⟨ab,ao,none⟩=some (.int .u8 (c0:Int)):=by rw [← HC0.out];exact hr2.addr (k:=0) (by omega)
  obtain ⟨s0,s1,s2,s3,s4,s5,s6⟩:=hd2.cells
  rw [hb1] at s5
  rw [hb2] at s6
  have HS2:=hid hs2
  clear hs2 hf2 hd2 hr2 s0 s1 s2 s3 s4 r2 r5 r6 b0
  obtain ⟨fn,tmps,assign,body,hy,hR⟩:=HYE.out 11 w2 ⟨_,_,_,_,HS2.out,by have:=HU.out;omega⟩ hj2
  replace hy:(Instr.yield l #[.slice none 0 0,.int .i64 11]).run Tryz.prog w2=.ok (.round l fn tmps assign body) w2:=hy
  clear hj2
  gi_wp2
  refine hR.mono ?_
  rintro e W' (⟨rfl,hJ',hk⟩ | ⟨rfl,hJx'⟩)
  ·gi_wp2
   refine bodyPost_ret (results_none rfl _ _ _) rfl ?_
   exact ⟨⟨_,rfl⟩,.inl ⟨_,_,(HEND.out 11 _ W' HEV.out rfl rfl).1 hJ',hJ'⟩⟩
  gi_wp2
  refine bodyPost_ret (results_none rfl _ _ _) rfl ?_
  exact ⟨⟨_,rfl⟩,.inr ⟨_,_,(HEND.out 11 _ W' HEV.out rfl rfl).2,hJx'⟩⟩
 have hnb:(x1.begun=true∧m≠5)∨(x1.begun=true∧m=5∧x1.props=true)∨(x1.begun=false∧c0=1∧m≠5)∨(x1.begun=false∧224≤c0∧m≠5):=by
  unfold badHead at hbad
  have hmc:=HM.out
  have h5:m=5→x1.props=true:=by
   intro e
   cases hp:x1.props with
   | true=>rfl
   | false=>exact absurd (.inr ⟨by rw [hmc];exact e,hp⟩) hbad
  have h5c:c0=1∨224≤c0→m≠5:=by
   intro e e5
   rw [e5] at hmc
   unfold headN at hmc
   repeat' split at hmc
   all_goals omega
  cases hg:x1.begun with
  | true =>
   by_cases e5:m=5
   ·exact .inr (.inl ⟨rfl,e5,h5 e5⟩)
   ·exact .inl ⟨rfl,e5⟩
  | false =>
   have:c0=1∨224≤c0:=by
    rcases Nat.lt_or_ge c0 224 with hlt | hge
    ·by_cases e1:c0=1
     ·exact .inl e1
     exact absurd (.inl ⟨hg,e1,hlt⟩) hbad
    exact .inr hge
   rcases this with e | e
   ·exact .inr (.inr (.inl ⟨rfl,e,h5c (.inl e)⟩))
   exact .inr (.inr (.inr ⟨rfl,e,h5c (.inr e)⟩))
 have HNB:=hid hnb
 have hone2:one S x1 src=oneBody S x1 c0 (src.take m) (src.drop m):=by
  rw [HO.out,if_neg hm0,if_neg hml,if_neg hm1,if_neg hbad]
 have HO2:=hid hone2
 have hm0i:(0:Int)<(m:Int):=by omega
 clear hnb hone2 hbad HO
 gi_wp2_with (first | (refine ⟨trivial,?_⟩;gi_at_call 45;refine (callsIn_wide.2 HP.out).mono ?_;rintro e w2 ⟨rfl,hw⟩;subst hw) | (refine ⟨trivial,?_⟩;gi_at_call 100;refine (callsIn_wide.2 HH.out).mono ?_;rintro e w2 ⟨rfl,hw⟩;subst hw))
 refine ⟨trivial,?_⟩
 refine (callsIn_wide.2 HT1.out).mono ?_;rintro e w2 ⟨rfl,hs2,hf2⟩
 have hj2:=HJ.out _ _ _ _ _ HJ1.out (hf2.mono (S':=RdB rb fb wb k1 wv1) fun q _ e=>.inr (.inl e)) (fun q hq=>.inl hq)
 have hd2:=HD.out.src' hs2 hf2
 have hr2:=row_kept HR.out hf2 hz (fun q e=>by rw [e];exact HB.out fb (.inr (.inl rfl)))
 have b2:w2.cell? ⟨ab,ao,none⟩=some (.int .u8 (c0:Int)):=by rw [← HC0.out];exact hr2.addr (k:=0) (by omega)
 obtain ⟨s0,s1,s2,s3,s4,s5,s6⟩:=hd2.cells
 have hz2:B0≤w2.heap.size:=Nat.le_trans hz hf2.size
 have HBD:=hid (body_p rb fb wb kb base S B0 k1 x1 wv1 (takeA (some ⟨ab,ao,none⟩) c1 m) (n1-m) (c1-m) (used1+m) most (src.drop m) (src.take m) (some ⟨ab,ao,none⟩) c0 m w2 hd2 HB.out hz2 hS (by rw [List.length_drop];omega) (hr2.drop (by omega)) (by omega) (by omega) (hr2.take m) HM.out.symm (by rw [List.length_take];omega) (by rw [getD_takeU src (by omega)];exact HC0.out) ⟨hm0,hm1⟩ (by have:=HU.out;omega) (by have:=HT.out;omega))
 have HJ2:=hid hj2
 have HD2:=hid hd2
 have HF2:=hid hf2
 clear hj2 hd2 hf2 hs2 hr2 r2 r5 r6 b0 s0 s1 s2 s3 s4 HP HH HT1
 dsimp only
 iterate 40 (first | (with_reducible show Code.wpIn _ _ _ (Code.block 2 _) _ _ _) | go_values | gi_guarded | gi_step | gi_upon | gi_back)
 gi_cut [] from 40 (fun wx=>wx=w2)
 case first =>
  rcases HNB.out with ⟨e1,e5⟩ | ⟨e1,e5,e6⟩ | ⟨e1,ec,e5⟩ | ⟨e1,ec,e5⟩
  ·have q5:((m:Int)==5)=false:=beq_eq_false_iff_ne.2 (by omega)
   rw [e1] at s5
   clear s6 e5
   gi_wp2
   gi_meet
   case rel=>rfl
  ·have q5:((m:Int)==5)=true:=beq_iff_eq.2 (by omega)
   rw [e1] at s5
   rw [e6] at s6
   clear e5
   gi_wp2
   gi_meet
   case rel=>rfl
  ·have q5:((m:Int)==5)=false:=beq_eq_false_iff_ne.2 (by omega)
   have qc:((c0:Int) != 1)=false:=by simp [ec]
   rw [e1] at s5
   clear s6 e5 ec
   gi_wp2
   gi_meet
   case rel=>rfl
  have q5:((m:Int)==5)=false:=beq_eq_false_iff_ne.2 (by omega)
  have qc:((c0:Int) != 1)=true:=bne_iff_ne.2 (by omega)
  have qd:(224:Int)≤(c0:Int):=by omega
  rw [e1] at s5
  clear s6 e5 ec
  gi_wp2
  gi_meet
  case rel=>rfl
 have hw2:w2=wc:=hcut.symm
 subst hw2
 clear hcut s5 s6 b2 hm0i
 have HG:=hid hlen
 have hfin:∀ (e:Nat) (xk:Ck) (W':World),oneBody S x1 c0 (src.take m) (src.drop m)=.err e→xk.b=[]→xk.e=e→((J (RdB rb fb wb k1 wv1) (pre++[xk]) W'→SC E fb un B0 (RdB rb fb wb k1 wv1) (pre++[xk]) W')∧SpC E (pre++[xk])):=by
  intro e xk W' he hb' he'
  exact HEND.out e xk W' (by unfold evGo;rw [HO2.out,he]) hb' he'
 have htwr:IntKind.i64.wrap (told:Int)=(told:Int):=Go.IntWalk.i64_in _ (by have:=HT.out;omega)
 cases hR:oneBody S x1 c0 (src.take m) (src.drop m) with
 | fin r =>
  exfalso
  have hne:=hR
  unfold oneBody at hne
  repeat' split at hne
  all_goals first | (cases hne;done) | (unfold oneLz at hne;split at hne <;> cases hne)
 | err z =>
  have hz0:z≠0:=one_err (S:=S) (x:=x1) (src:=src) (by rw [HO2.out,hR])
  have qz:((z:Int)==0)=false:=beq_eq_false_iff_ne.2 (by omega)
  have HF:=hid (fun xk W'=>hfin z xk W' hR)
  rw [hR] at HBD
  clear hfin hR hz0
  gi_wp2_with fail
  refine ⟨trivial,?_⟩
  refine (callsIn_wide.2 HBD.out).mono ?_
  rintro e w3 ⟨hf3,rfl,t,bg,pp,A3,n3,c3,used3,hp3,ht3,hs3,hu3⟩
  have r3:w3.cell? ⟨rb,3,none⟩=some (.int .i64 (t:Int)):=by rw [hp3.cell];rfl
  have z3:=hp3.frozen 3
  have htw:IntKind.i64.wrap (t:Int)=(t:Int):=Go.IntWalk.i64_in _ (by omega)
  have hj3:=HJ.out _ _ _ _ _ HJ2.out hf3 (fun q hq=>.inl hq)
  have hf4:Frm (RdB rb fb wb k1 wv1) w3 (w3.setCell ⟨rb,3,none⟩ (.int .i64 (t:Int))):=Frm.setCell (p:=⟨rb,3,none⟩) (Frm.refl _ w3) (.inl rfl) _
  have hj4:=HJ.out _ _ _ _ _ hj3 hf4 (fun q hq=>.inl hq)
  have hs4:SrcAt (w3.setCell ⟨rb,3,none⟩ (.int .i64 (t:Int))) fb A3 n3 c3 used3:=Pts.other hs3 (p:=⟨rb,3,none⟩) (hp3.ne_of hs3 (by decide)).symm _
  obtain ⟨fn,tmps,assign,body,hy,hRr⟩:=HYE.out z _ ⟨_,_,_,_,hs4,by have:=HU.out;omega⟩ hj4
  replace hy:(Instr.yield l #[.slice none 0 0,.int .i64 (z:Int)]).run Tryz.prog (w3.setCell ⟨rb,3,none⟩ (.int .i64 (t:Int)))=.ok (.round l fn tmps assign body) (w3.setCell ⟨rb,3,none⟩ (.int .i64 (t:Int))):=hy
  clear hj3 hf4 hj4 hs4 hf3 hp3 ht3 hs3 hu3
  gi_wp2
  refine hRr.mono ?_
  rintro e W' (⟨rfl,hJ',hk⟩ | ⟨rfl,hJx'⟩)
  ·gi_wp2
   refine bodyPost_ret (results_none rfl _ _ _) rfl ?_
   exact ⟨⟨_,rfl⟩,.inl ⟨_,_,(HF.out _ W' rfl rfl).1 hJ',hJ'⟩⟩
  ·gi_wp2
   refine bodyPost_ret (results_none rfl _ _ _) rfl ?_
   exact ⟨⟨_,rfl⟩,.inr ⟨_,_,(HF.out _ W' rfl rfl).2,hJx'⟩⟩
 | told b y rest =>
  rw [hR] at HBD
  have hev:=HO2.out
  rw [hR] at hev
  have HEV:=hid hev
  have HBF:=hid (body_facts HD2.out.st hR)
  obtain ⟨L,hL⟩:∃ L,b.length=L:=⟨_,rfl⟩
  obtain ⟨told2,htold2⟩:∃ x,told+L=x:=⟨_,rfl⟩
  obtain ⟨yt,hyt⟩:∃ x,y.total=x:=⟨_,rfl⟩
  have hLb:L≤2097152:=by have:=HBF.out.2.1;omega
  have hytb:yt≤x1.total:=by have:=HBF.out.1;omega
  have hyt62:yt≤4611686018427387904:=by have:=HT.out;omega
  have hti:(told:Int)+(L:Int)=(told2:Int):=by omega
  have htw2:IntKind.i64.wrap (told2:Int)=(told2:Int):=Go.IntWalk.i64_in _ (by have:=HT.out;omega)
  have HL:=hid hL
  have HT2:=hid htold2
  have HYT:=hid hyt
  clear hfin hR hev
  by_cases hover:most<told2
  ·have qo:(most:Int)<(told2:Int):=by omega
   have htw:IntKind.i64.wrap (yt:Int)=(yt:Int):=Go.IntWalk.i64_in _ (by omega)
   have HF:Hid (∀ (xk:Ck) (W':World),xk.b=[]→xk.e=3→((J (RdB rb fb wb k1 wv1) (pre++[xk]) W'→SC E fb un B0 (RdB rb fb wb k1 wv1) (pre++[xk]) W')∧SpC E (pre++[xk]))) :=
    hid (fun xk W'=>HEND.out 3 xk W' (by unfold evGo;rw [HEV.out];simp only;rw [if_pos (by have:=HL.out;have:=HT2.out;omega)]))
   clear hytb hLb hover
   gi_wp2_with fail
   refine ⟨trivial,?_⟩
   refine (callsIn_wide.2 HBD.out).mono ?_
   rintro e w3 ⟨hf3,k',wv',A',n',c',used',Ab,cb,rfl,hd3,hr3,hn3,hc3,hcm3,hu3,hrb3,hbc3,hcb3,hsb3,hlb3,hmv3⟩
   obtain ⟨r0,r1,r2,r3,r4,r5,r6⟩:=hd3.cells
   rw [HYT.out] at r3
   rw [HL.out]
   have z3:=hd3.p.frozen 3
   have hj3:=HJ.out _ _ _ _ _ HJ2.out hf3 (fun q hq=>.inl hq)
   have hf4:Frm (RdB rb fb wb k1 wv1) w3 (w3.setCell ⟨rb,3,none⟩ (.int .i64 (yt:Int))):=Frm.setCell (p:=⟨rb,3,none⟩) (Frm.refl _ w3) (.inl rfl) _
   have hj4:=HJ.out _ _ _ _ _ hj3 hf4 (fun q hq=>.inl hq)
   have hs4:SrcAt (w3.setCell ⟨rb,3,none⟩ (.int .i64 (yt:Int))) fb A' n' c' used':=Pts.other hd3.src (p:=⟨rb,3,none⟩) (hd3.p.ne_of hd3.src (by decide)).symm _
   obtain ⟨fn,tmps,assign,body,hy,hRr⟩:=HYE.out 3 _ ⟨_,_,_,_,hs4,by have:=HU.out;omega⟩ hj4
   replace hy:(Instr.yield l #[.slice none 0 0,.int .i64 3]).run Tryz.prog (w3.setCell ⟨rb,3,none⟩ (.int .i64 (yt:Int)))=.ok (.round l fn tmps assign body) (w3.setCell ⟨rb,3,none⟩ (.int .i64 (yt:Int))):=hy
   clear hj3 hf4 hj4 hs4 hf3 hd3 hr3 hn3 hc3 hcm3 hu3 hrb3 hbc3 hcb3 hsb3 hlb3 hmv3 r0 r1 r2 r5 r6
   gi_wp2
   refine hRr.mono ?_
   rintro e W' (⟨rfl,hJ',hk⟩ | ⟨rfl,hJx'⟩)
   ·gi_wp2
    refine bodyPost_ret (results_none rfl _ _ _) rfl ?_
    exact ⟨⟨_,rfl⟩,.inl ⟨_,_,(HF.out _ W' rfl rfl).1 hJ',hJ'⟩⟩
   gi_wp2
   refine bodyPost_ret (results_none rfl _ _ _) rfl ?_
   exact ⟨⟨_,rfl⟩,.inr ⟨_,_,(HF.out _ W' rfl rfl).2,hJx'⟩⟩
  have qo:(told2:Int)≤(most:Int):=by omega
  obtain ⟨yt2,hyt2⟩:∃ x,yt+L=x:=⟨_,rfl⟩
  have hyi:(yt:Int)+(L:Int)=(yt2:Int):=by omega
  have htw:IntKind.i64.wrap (yt2:Int)=(yt2:Int):=Go.IntWalk.i64_in _ (by omega)
  have HY2:=hid hyt2
  have HO:=hid hover
  have HLY:=hid hytb
  clear hytb hLb hover hyt2
  gi_wp2_with fail
  refine ⟨trivial,?_⟩
  refine (callsIn_wide.2 HBD.out).mono ?_
  rintro e w3 ⟨hf3,k',wv',A',n',c',used',Ab,cb,rfl,hd3,hr3,hn3,hc3,hcm3,hu3,hrb3,hbc3,hcb3,hsb3,hlb3,hmv3⟩
  obtain ⟨r0,r1,r2,r3,r4,r5,r6⟩:=hd3.cells
  rw [HYT.out] at r3
  rw [HL.out]
  have z3:=hd3.p.frozen 3
  have hN3:∀ q,RdB rb fb wb k' wv' q→q<w3.heap.size:=by
   rintro q (e | e | e | e | e | e)
   ·rw [e];exact hd3.p.lt
   ·rw [e];exact Pts.lt hd3.src
   ·rw [e];exact hd3.win.pts.choose_spec.lt
   ·rw [e];exact hd3.s.m.lt
   ·rw [e];exact hd3.s.l.lt
   obtain ⟨l,ho⟩:=hd3.win.own
   exact (ho.lt e).2
  have hNN:∀ q,RdB rb fb wb k' wv' q→RdB rb fb wb k1 wv1 q∨(w2.heap.size≤q∧q<w3.heap.size):=by
   intro q hq
   have hlt:=hN3 q hq
   rcases hq with e | e | e | e | e | e
   ·exact .inl (.inl e)
   ·exact .inl (.inr (.inl e))
   ·exact .inl (.inr (.inr (.inl e)))
   ·exact .inl (.inr (.inr (.inr (.inl (e.trans hsb3)))))
   ·rcases hlb3 with e2 | e2
    ·exact .inl (.inr (.inr (.inr (.inr (.inl (e.trans e2))))))
    exact .inr ⟨by omega,hlt⟩
   rcases hmv3 q e with e2 | e2
   ·exact .inl (.inr (.inr (.inr (.inr (.inr e2)))))
   exact .inr ⟨e2,hlt⟩
  have hj3:=HJ.out _ _ _ _ _ HJ2.out hf3 hNN
  obtain ⟨hd4,hf4⟩:=hd3.own 3 (.int .i64 (yt2:Int)) { y with total:=y.total+b.length } ⟨rfl,rfl,rfl,rfl,rfl,rfl,rfl⟩ (by rw [HL.out,HYT.out,HY2.out];rfl)
  have hj4:=HJ.out _ _ _ _ _ hj3 (hf4.mono (S':=RdB rb fb wb k' wv') fun q _ e=>.inl e) (fun q hq=>.inl hq)
  have hB3:∀ q,RdB rb fb wb k' wv' q→B0≤q:=by
   intro q hq
   rcases hNN q hq with e | e
   ·exact HB.out q e
   omega
  have hz3:B0≤w3.heap.size:=Nat.le_trans hz2 hf3.size
  have hr4:=row_kept hr3 hf4 hz3 (fun q e=>by rw [e];exact hB3 rb (.inl rfl))
  have hrb4:BRow (w3.setCell ⟨rb,3,none⟩ (.int .i64 (yt2:Int))) (w3.setCell ⟨rb,3,none⟩ (.int .i64 (yt2:Int))).heap.size Ab b:=(hrb3.setI64 r3 _).more hf4.size
  obtain ⟨fn,tmps,assign,body,hy,hRr⟩:=HY.out _ pre ⟨.slice Ab b.length cb,b,0⟩ _ hj4 ⟨⟨_,_,_,_,hd4.src,by have:=HU.out;omega⟩,Ab,cb,rfl,hrb4,hbc3,hcb3,by rw [← HTS.out];have:=HL.out;have:=HT2.out;have:=HO.out;simp only;omega,fun h=>absurd rfl h⟩
  have hy2:(Instr.yield l #[.slice Ab L cb,.int .i64 0]).run Tryz.prog (w3.setCell ⟨rb,3,none⟩ (.int .i64 (yt2:Int)))=.ok (.round l fn tmps assign body) (w3.setCell ⟨rb,3,none⟩ (.int .i64 (yt2:Int))):=by
   rw [← HL.out];exact hy
  have D4:=hid hd4
  have R4:=hid hr4
  have B4:=hid hB3
  have Z4:=hid (Nat.le_trans hz3 hf4.size)
  have N4:Hid (n'=rest.length∧n'≤c'∧c'≤maxLen∧used'+n'=un):=hid ⟨hn3,hc3,hcm3,by have:=HU.out;omega⟩
  clear hy hj3 hf4 hj4 hf3 hd3 hr3 hn3 hc3 hcm3 hu3 hrb3 hbc3 hcb3 hsb3 hlb3 hmv3 r0 r1 r2 r5 r6 hN3 hNN hd4 hr4 hrb4 hB3 hz3
  gi_wp2
  refine hRr.mono ?_
  rintro e W' (⟨rfl,hJ',hk⟩ | ⟨rfl,hJx'⟩)
  ·have D5:=hid (D4.out.frm hk (fun q hq hn=>hn.1 hq))
   have R5:=hid (row_kept R4.out hk Z4.out (fun q hq=>hq.2))
   have Z5:=hid (Nat.le_trans Z4.out hk.size)
   have HJ5:=hid hJ'
   clear hJ' hk hRr
   gi_wp2
   gi_roundg g
   case rel =>
    refine ⟨pre++[⟨.slice Ab b.length cb,b,0⟩],told2,{ y with total:=y.total+b.length },k',wv',A',n',c',used',rest,rfl,HJ5.out,D5.out,R5.out,N4.out.1,N4.out.2.1,N4.out.2.2.1,N4.out.2.2.2,B4.out,Z5.out,?_,?_,by omega,?_,?_,?_⟩
    ·have:=HLY.out;have:=HL.out;have:=HT2.out;have:=HYT.out;simp only;omega
    ·have:=HBF.out.2.2;have h2:(src.drop m).length=src.length-m:=List.length_drop;have:=HG.out;omega
    ·rw [← HT2.out,HTS.out,← HL.out];simp [sumC]
    ·rw [HE1.out,List.map_append]
     conv=>lhs;unfold evGo
     rw [HEV.out]
     simp only
     rw [if_neg (by have:=HL.out;have:=HT2.out;have:=HO.out;omega)]
     simp [ckP,← HT2.out,HL.out]
    rw [HE2.out]
    conv=>lhs;unfold evGo
    rw [HEV.out]
    simp only
    rw [if_neg (by have:=HL.out;have:=HT2.out;have:=HO.out;omega)]
    simp [← HT2.out,HL.out]
   case measure=>omega
  gi_wp2
  refine bodyPost_ret (results_none rfl _ _ _) rfl ?_
  refine ⟨⟨_,rfl⟩,.inr ⟨_,_,?_,hJx'⟩⟩
  unfold SpC
  rw [HE1.out,List.map_append]
  refine (List.prefix_append_right_inj _).2 ?_
  unfold evGo
  rw [HEV.out]
  simp only
  rw [if_neg (by have:=HL.out;have:=HT2.out;have:=HO.out;omega)]
  exact ⟨_,rfl⟩
open Go.RowKit Rng Win Lz
theorem evErr_zero {l:List (List UInt8×Nat)} (h:∀ p∈l,p.2=0):evErr l=0:=by
 unfold evErr
 have:(l.map (·.2)).find? (· ≠ 0)=none:=List.find?_eq_none.2 (by
  intro a ha
  obtain ⟨q,hq,rfl⟩:=List.mem_map.1 ha
  simp [h q hq])
 rw [this]
 rfl
theorem evErr_snoc {l:List (List UInt8×Nat)} {p:List UInt8×Nat} (h:∀ q∈l,q.2=0) (hp:p.2≠0):evErr (l++[p])=p.2:=by
 unfold evErr
 have:(l.map (·.2)).find? (· ≠ 0)=none:=List.find?_eq_none.2 (by
  intro a ha
  obtain ⟨q,hq,rfl⟩:=List.mem_map.1 ha
  simp [h q hq])
 rw [List.map_append,List.find?_append,this]
 simp [hp]
theorem ev_stop {S most f told:Nat} {x:DS} {src:List UInt8} {l:List (List UInt8×Nat)} {p:List UInt8×Nat} (h:l++[p] <+: (evGo S most f x told src).1) (hp:p.2≠0) :
 (evGo S most f x told src).1=l++[p]∧(evGo S most f x told src).2=none∧∀ q∈l,q.2=0:=by
 obtain ⟨t,ht⟩:=h
 rcases evGo_ok S most f x told src with ⟨m,b,e,h1,h2,h3,h4,h5⟩ | ⟨_,h2⟩
 ·rw [h1] at ht
  rcases List.eq_nil_or_concat t with rfl | ⟨t',z,rfl⟩
  ·rw [List.append_nil] at ht
   obtain ⟨e1,e2⟩:=List.append_inj' ht rfl
   refine ⟨by rw [h1,← ht],h4,?_⟩
   rw [e1]
   exact h5
  rw [List.concat_eq_append,← List.append_assoc] at ht
  obtain ⟨e1,e2⟩:=List.append_inj' ht rfl
  exfalso
  refine hp (h5 p ?_)
  rw [← e1]
  simp
 exfalso
 refine hp (h2 p ?_)
 rw [← ht]
 simp
theorem ev_none {S most f told:Nat} {x:DS} {src:List UInt8} (h:∀ q∈(evGo S most f x told src).1,q.2=0):∃ r,(evGo S most f x told src).2=some r:=by
 rcases evGo_ok S most f x told src with ⟨m,b,e,h1,h2,h3,h4,h5⟩ | ⟨⟨r,h1⟩,_⟩
 ·exfalso
  refine h2 (h (b,e) ?_)
  rw [h1]
  simp
 exact ⟨r,h1⟩
def d2E (S most:Nat) (src:List UInt8):List (List UInt8×Nat)×Option (List UInt8):=evGo S most (src.length+1) newDS 0 src
theorem d2E_d2P (S most:Nat) (src:List UInt8):d2P S most src=(evOut (d2E S most src).1,match (d2E S most src).2 with | none=>.inl (evErr (d2E S most src).1) | some r=>.inr r):=by
 unfold d2P
 rw [evGo_d2Go]
 rfl
end Go.Proofs.YtablgjhnpphodaaGreat
