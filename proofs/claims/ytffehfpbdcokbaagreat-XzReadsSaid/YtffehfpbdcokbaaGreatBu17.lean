import Derived.Deep.CutBlock
import Derived.StillTailTactics
import Derived.Tactics2
import Derived.Test.YtffehfpbdcokbaaGreatBu16
set_option linter.unusedVariables false
set_option linter.unusedSimpArgs false
namespace Go.Proofs.YtffehfpbdcokbaaGreat
open Lib (hid)
open Go.RowKit Rng Win Lz
theorem chunkGo_lk (k:LK) (S total n:Nat):∀ (f:Nat) (told:List UInt8) (x:RS),chunkGo k S total n f told x=chunkGo ⟨0,0,k.lc,k.lp,k.pb⟩ S total n f told x
 | 0,_,_=>rfl
 | f+1,told,x=>by
  have ih:=chunkGo_lk k S total n f
  have e:∀ a b,stepOf k S a b x=stepOf ⟨0,0,k.lc,k.lp,k.pb⟩ S a b x:=fun a b=>rfl
  unfold chunkGo
  split
  ·rfl
  rw [← e]
  cases stepOf k S (total+told.length) (n-told.length) x with
  | none=>rfl
  | some p=>obtain ⟨b,y⟩:=p;exact ih (told++b) y
theorem chunkOf_lk (k:LK) (S total n st:Nat) (rep:Nat→Nat) (pr:Pr) (C bs:List UInt8):chunkOf k S total n st rep pr C bs=chunkOf ⟨0,0,k.lc,k.lp,k.pb⟩ S total n st rep pr C bs:=by
 unfold chunkOf
 rw [chunkGo_lk]
section
variable {w w' : World} {rb fb wb kb base S : Nat} {k : LK} {x : DS} {wv : Value} {A : Option Addr} {n c used : Nat} {most : Int}
theorem RdS.win' {N:Nat→Prop} {C':List UInt8} {wv':Value} (h:RdS w rb fb wb kb base S k x wv A n c used most) (hw:WinC w' base wb kb S C' wv') (hf:Frm N w w') (hN:∀ q,q=rb∨q=fb∨q=k.sb∨q=k.lb→¬ N q) :
 RdS w' rb fb wb kb base S k { x with C:=C' } wv' A n c used most :=
 ⟨h.p.frm hf (hN _ (.inl rfl)),h.s.frm hf (hN _ (.inr (.inr (.inl rfl)))) (hN _ (.inr (.inr (.inr rfl)))),h.ks,h.ok,h.st,hw,Nat.le_trans h.b hf.size,Pts.frm h.src hf (hN _ (.inr (.inl rfl)))⟩
theorem RdS.src' {A':Option Addr} {n' c' used':Nat} (h:RdS w rb fb wb kb base S k x wv A n c used most) (hs:SrcAt w' fb A' n' c' used') (hf:Frm (· = fb) w w'):RdS w' rb fb wb kb base S k x wv A' n' c' used' most:=by
 obtain ⟨n1,n2,n3,n4,n5,n6,n7,n8,n9,n10⟩:=h.ne
 exact ⟨h.p.frm hf n1,h.s.frm hf (fun e=>n6 e.symm) (fun e=>n7 e.symm),h.ks,h.ok,h.st,h.win.frm hf (fun e=>n5 e.symm) (fun q hq e=>(n10 q hq).2.1 e.symm),Nat.le_trans h.b hf.size,hs⟩
theorem RdS.st' {k':LK} {y:DS} (h:RdS w rb fb wb kb base S k x wv A n c used most) (hsb:k'.sb=k.sb) (hlb:w.heap.size≤k'.lb) (hs:StAt w' k' y.st y.rep y.pr) (hk:k'.lc=y.lc∧k'.lp=y.lp∧k'.pb=y.pb) (hok:k'.Ok) (hst:y.st<12∧∀ j,y.rep j<4294967296)
 (hy:y.total=x.total∧y.begun=x.begun∧y.props=x.props∧y.C=x.C) (hf:Frm (· = k.sb) w w'):RdS w' rb fb wb kb base S k' y wv A n c used most:=by
 obtain ⟨n1,n2,n3,n4,n5,n6,n7,n8,n9,n10⟩:=h.ne
 obtain ⟨y1,y2,y3,y4⟩:=hy
 have hp:=h.p.frm hf n3
 rw [← hsb,← y1,← y2,← y3] at hp
 refine ⟨hp,hs,hk,hok,hst,?_,Nat.le_trans h.b hf.size,Pts.frm h.src hf n6⟩
 rw [y4]
 exact h.win.frm hf (fun e=>n8 e) (fun q hq e=>(n10 q hq).2.2.1 e.symm)
end
def RdOwn (w:World) (rb fb wb sb:Nat) (most:Int) (un:Nat):Prop:=∃ (t:Nat) (bg pp:Bool) (A:Option Addr) (n c used:Nat),Pts w rb #[.pointer (some ⟨wb,0,none⟩),.pointer (some ⟨sb,0,none⟩),.pointer (some ⟨fb,0,none⟩),.int .i64 t,.int .i64 most,.bool bg,.bool pp] 71∧t<9223372036854775808∧SrcAt w fb A n c used∧used≤un
theorem RdS.ownB {w:World} {rb fb wb kb base S:Nat} {k:LK} {x:DS} {wv:Value} {A:Option Addr} {n c used:Nat} {most:Int} (h:RdS w rb fb wb kb base S k x wv A n c used most) (ht:x.total<9223372036854775808) {un:Nat} (hu:used≤un):RdOwn w rb fb wb k.sb most un:=⟨x.total,x.begun,x.props,A,n,c,used,h.p,ht,h.src,hu⟩
theorem RdOwn.frm {N:Nat→Prop} {w w':World} {rb fb wb sb un:Nat} {most:Int} (h:RdOwn w rb fb wb sb most un) (hf:Frm N w w') (hN:¬ N rb) (hN2:¬ N fb):RdOwn w' rb fb wb sb most un:=by
 obtain ⟨t,bg,pp,A,n,c,used,hp,ht,hs,hu⟩:=h
 exact ⟨t,bg,pp,A,n,c,used,hp.frm hf hN,ht,Pts.frm hs hf hN2,hu⟩
theorem dict_total (x:DS) (c:Nat):(x.dict c).total≤x.total:=by
 unfold DS.dict DS.clear
 repeat' split
 all_goals first | exact Nat.zero_le _ | exact Nat.le_refl _
def BodyEnd (rb fb wb kb base S B0:Nat) (k:LK) (wv:Value) (most:Int) (un:Nat) (w:World) (R:OneR) (e:Ending) (w':World):Prop :=
 Frm (RdB rb fb wb k wv) w w' ∧
 match R with
 | .err z=>e=.returned (.tuple #[.slice none 0 0,.int .i64 ((z:Nat):Int)])∧RdOwn w' rb fb wb k.sb most un
 | .fin _=>False
 | .told b y rest=>∃ (k':LK) (wv':Value) (A':Option Addr) (n' c' used':Nat) (Ab:Option Addr) (cb:Nat),e=.returned (.tuple #[.slice Ab b.length cb,.int .i64 0])∧RdS w' rb fb wb kb base S k' y wv' A' n' c' used' most ∧
  BRow w' B0 A' rest∧n'=rest.length∧n'≤c'∧c'≤maxLen∧used'+n'=un∧BRow w' w'.heap.size Ab b∧b.length≤cb∧cb≤maxLen∧k'.sb=k.sb∧(k'.lb=k.lb∨w.heap.size≤k'.lb)∧Mv w wv wv'
theorem twoB_le (h:List UInt8) (i:Nat):twoB h i<65536:=by
 unfold twoB
 have h1:=(h.getD i 0).toNat_lt
 have h2:=(h.getD (i+1) 0).toNat_lt
 omega
theorem shl8 (x:UInt8):IntKind.i64.wrap ((x.toNat:Int)*256)=(x.toNat:Int)*256:=by
 have h:=x.toNat_lt
 exact Go.IntWalk.i64_in _ (by omega)
theorem take_len {bs:List UInt8} {N:Nat} (h:N≤bs.length):(bs.take N).length=N:=by rw [List.length_take];omega
section
variable {w wx w' : World} {rb fb wb kb base S B0 : Nat} {k : LK} {x : DS} {wv : Value} {A : Option Addr} {n c used : Nat} {most : Int}
def Dict1 (w:World) (rb fb wb kb base S:Nat) (k:LK) (x:DS) (cc:Nat) (wv:Value) (A:Option Addr) (n c used:Nat) (most:Int) (wx:World):Prop :=
 ∃ wv1,RdS wx rb fb wb kb base S k (x.dict cc) wv1 A n c used most∧wv1.ownBlock=wv.ownBlock∧Frm (fun q=>q=rb∨q=wb) w wx
theorem Dict1.not (h:RdS w rb fb wb kb base S k x wv A n c used most) {cc:Nat} (h1:cc≠1) (h2:cc<224):Dict1 w rb fb wb kb base S k x cc wv A n c used most w :=
 ⟨wv,by rw [show x.dict cc=x by unfold DS.dict;rw [if_neg h1,if_neg (by omega)]];exact h,rfl,Frm.refl _ _⟩
theorem RdS.clearP (h:RdS w rb fb wb kb base S k x wv A n c used most):RdS (w.setCell ⟨rb,6,none⟩ (.bool false)) rb fb wb kb base S k { x with props:=false } wv A n c used most∧Frm (· = rb) w (w.setCell ⟨rb,6,none⟩ (.bool false)) :=
 h.own 6 (.bool false) { x with props:=false } ⟨rfl,rfl,rfl,rfl,rfl,rfl,rfl⟩ rfl
theorem RdS.setP (h:RdS w rb fb wb kb base S k x wv A n c used most):RdS (w.setCell ⟨rb,6,none⟩ (.bool true)) rb fb wb kb base S k { x with props:=true } wv A n c used most∧Frm (· = rb) w (w.setCell ⟨rb,6,none⟩ (.bool true)) :=
 h.own 6 (.bool true) { x with props:=true } ⟨rfl,rfl,rfl,rfl,rfl,rfl,rfl⟩ rfl
theorem RdS.begin (h:RdS w rb fb wb kb base S k x wv A n c used most):RdS ((w.setCell ⟨rb,3,none⟩ (.int .i64 0)).setCell ⟨rb,5,none⟩ (.bool true)) rb fb wb kb base S k { x with total:=0,begun:=true } wv A n c used most∧Frm (· = rb) w ((w.setCell ⟨rb,3,none⟩ (.int .i64 0)).setCell ⟨rb,5,none⟩ (.bool true)):=by
 obtain ⟨h1,f1⟩:=h.own 3 (.int .i64 0) { x with total:=0 } ⟨rfl,rfl,rfl,rfl,rfl,rfl,rfl⟩ rfl
 obtain ⟨h2,f2⟩:=h1.own 5 (.bool true) { x with total:=0,begun:=true } ⟨rfl,rfl,rfl,rfl,rfl,rfl,rfl⟩ rfl
 exact ⟨h2,f1.trans f2⟩
theorem row_kept {N:Nat→Prop} {bs:List UInt8} (hr:BRow w B0 A bs) (hf:Frm N w w') (hB0:B0≤w.heap.size) (hN:∀ q,N q→B0≤q):BRow w' B0 A bs:=hr.below (hf.below hB0 hN)
end
set_option maxRecDepth 8000 in
set_option maxHeartbeats 2000000 in
theorem body_raw (rb fb wb kb base S B0:Nat) (k:LK) (x:DS) (wv:Value) (A:Option Addr) (n c used:Nat) (most:Int) (bs hd:List UInt8) (hb off cc:Nat) (w:World)
 (h:RdS w rb fb wb kb base S k x wv A n c used most) (hB:∀ q,RdB rb fb wb k wv q→B0≤q) (hB0:B0≤w.heap.size) (hS:S≤16777216) (hn:n=bs.length) (hr:BRow w B0 A bs) (hc:n≤c) (hcm:c≤maxLen)
 (hhr:BRow w B0 (some ⟨hb,off,none⟩) hd) (hdl:hd.length=3) (hcc:(hd.getD 0 0).toNat=cc) (hleg:cc=1∨cc=2) (hu:used+n≤4611686018427387904) (ht:x.total<9223372036854775808) :
 Calls Tryz.prog 81 #[.pointer (some ⟨rb,0,none⟩),.slice (some ⟨hb,off,none⟩) 3 3] w (BodyEnd rb fb wb kb base S B0 k wv most (used+n) w (oneBody S x cc hd bs)):=by
 have b0:w.cell? ⟨hb,off,none⟩=some (.int .u8 ((cc:Nat):Int)):=by rw [← hcc];exact hhr.addr (k:=0) (by omega)
 have b1:w.cell? ⟨hb,off+1,none⟩=some (.int .u8 (((hd.getD 1 0).toNat:Nat):Int)):=hhr.addr (k:=1) (by omega)
 have b2:w.cell? ⟨hb,off+2,none⟩=some (.int .u8 (((hd.getD 2 0).toNat:Nat):Int)):=hhr.addr (k:=2) (by omega)
 obtain ⟨N,hN⟩:∃ N,twoB hd 1+1=N:=⟨_,rfl⟩
 have hNl:N≤65536:=by have:=twoB_le hd 1;omega
 have hN1:1≤N:=by omega
 have e8:=shl8 (hd.getD 1 0)
 have hsum:((hd.getD 1 0).toNat:Int)*256+((hd.getD 2 0).toNat:Int)+1=(N:Int):=by have e:twoB hd 1=(hd.getD 1 0).toNat*256+(hd.getD 2 0).toNat:=rfl;omega
 have hl1:=(hd.getD 1 0).toNat_lt
 have hl2:=(hd.getD 2 0).toNat_lt
 have hw1:IntKind.i64.wrap (((hd.getD 1 0).toNat:Int)*256+((hd.getD 2 0).toNat:Int))=((hd.getD 1 0).toNat:Int)*256+((hd.getD 2 0).toNat:Int):=Go.IntWalk.i64_in _ (by omega)
 have hw2:IntKind.i64.wrap (N:Int)=(N:Int):=Go.IntWalk.i64_in _ (by omega)
 have HD:=hid h
 have HL:=hid hleg
 have hz:∀ i,w.frozen? ⟨rb,i,none⟩=false:=fun i=>h.p.frozen i
 obtain ⟨r0,r1,r2,r3,r4,r5,r6⟩:=h.cells
 obtain ⟨h1v,hh1⟩:∃ v,(hd.getD 1 0).toNat=v:=⟨_,rfl⟩
 obtain ⟨h2v,hh2⟩:∃ v,(hd.getD 2 0).toNat=v:=⟨_,rfl⟩
 rw [hh1] at b1 e8 hsum hw1 hl1
 rw [hh2] at b2 hsum hw1 hl2
 have hwa:IntKind.i64.wrap (h1v:Int)=(h1v:Int):=Go.IntWalk.i64_in _ (by omega)
 have hwb:IntKind.i64.wrap (h2v:Int)=(h2v:Int):=Go.IntWalk.i64_in _ (by omega)
 have HB:=hid hB
 have HN:=hid hN
 have HHR:=hid hhr
 clear h hz hleg hcc hB hN hhr r0 r1 r2 r3 r4 r5 r6 hh1 hh2
 go_enter Tryz.func81,Tryz.ntmps81
 go_upto_region 2 with fail
 go_still (by kernel_rfl)
 have D0:=hid (HD.out.later ((Frm.refl (fun _=>False) w).drew))
 have F0:Hid (Frm (fun _=>False) w w.drew):=hid ((Frm.refl (fun _=>False) w).drew)
 have hz:∀ i,w.drew.frozen? ⟨rb,i,none⟩=false:=fun i=>D0.out.p.frozen i
 obtain ⟨r0,r1,r2,r3,r4,r5,r6⟩:=D0.out.cells
 have z6:=hz 6
 clear hz r1 r3 r4 r5 HD
 obtain ⟨w0,hw0⟩:∃ w0,w.drew=w0:=⟨_,rfl⟩
 rw [hw0] at D0 F0 r0 r2 r6 z6
 rw [show ({ heap:=w.heap,tape:=w.tape,drawn:=w.drawn+1,os:=w.os,output:=w.output }:World)=w0 from hw0]
 clear hwa e8 hwb hw1 hsum hw2 b0 b1 b2 hw0
 go_upto_block 0 with fail
 go_cut [] from 13 (fun wx=>Dict1 w0 rb fb wb kb base S k x cc wv A n c used most wx)
 case first =>
  rcases HL.out with rfl | rfl
  ·go_wp2_with fail
   obtain ⟨D1,f1⟩:=D0.out.clearP
   refine (clear_c base wb kb S x.C wv _ D1.win).mono ?_;rintro e w2 ⟨v',rfl,hw2,hf2,ho2⟩
   obtain ⟨n1,n2,n3,n4,n5,n6,n7,n8,n9,n10⟩:=D1.ne
   have D2:=D1.win' hw2 hf2 (by rintro q (e | e | e | e) e2 <;> omega)
   obtain ⟨D3,f3⟩:=D2.begin
   have hp3:=D2.p
   have c3:=hp3.cell 3
   have c5:=hp3.cell 5
   have z3:=hp3.frozen 3
   have z5:=hp3.frozen 5
   have DD:=hid D3
   have FF:=hid (((f1.mono (S':=fun q=>q=rb∨q=wb) fun q _ e=>.inl e).trans (hf2.mono fun q _ e=>.inr e)).trans (f3.mono fun q _ e=>.inl e))
   clear D1 f1 hw2 hf2 n1 n2 n3 n4 n5 n6 n7 n8 n9 n10 D2 D3 f3 hp3 r0 r2 r6 z6
   go_wp2
   go_meet
   case rel=>exact ⟨v',DD.out,ho2,FF.out⟩
  go_wp2
  go_meet
  case rel=>exact Dict1.not D0.out (by decide) (by decide)
 case rest =>
 obtain ⟨wv1,d1,ho1,f1⟩:=hcut
 have hcl:cc<3:=by rcases HL.out with e | e <;> omega
 have hci:(cc:Int)<3:=by omega
 have hBR:∀ q,q=rb∨q=wb→B0≤q:=by
  rintro q (e | e)
  ·exact HB.out q (.inl e)
  exact HB.out q (.inr (.inr (.inl e)))
 have hsz:B0≤wc.heap.size:=Nat.le_trans hB0 (Nat.le_trans F0.out.size f1.size)
 have hr1:BRow wc B0 A bs:=row_kept (row_kept hr F0.out hB0 (fun _ e=>e.elim)) f1 (Nat.le_trans hB0 F0.out.size) hBR
 obtain ⟨y,hy⟩:∃ y,x.dict cc=y:=⟨_,rfl⟩
 have HO:Hid (oneBody S x cc hd bs=if bs.length<N then .err 10 else .told (bs.take N) { y with C:=lastN S (y.C++bs.take N) } (bs.drop N)):=hid (by
  unfold oneBody
  rw [if_pos hcl,HN.out,hy])
 rw [hy] at d1
 obtain ⟨r0,r1,r2,r3,r4,r5,r6⟩:=d1.cells
 have F1:Hid (Frm (fun q=>q=rb∨q=wb) w wc):=hid ((F0.out.mono fun _ _ e=>e.elim).trans f1)
 have DC:=hid d1
 have HR1:=hid hr1
 clear D0 F0 d1 f1 hr1 hcl r1 r3 r4 r5 r6 HL
 by_cases hN2:N≤n
 ·have hT:=take_p fb A n c used N wc DC.out.src hc hN2 (by omega)
  have HT:=hid hT
  clear hT
  go_wp2_with fail
  refine HT.out.mono ?_;rintro e w2 ⟨rfl,hs2,hf2⟩
  have d2:=DC.out.src' hs2 hf2
  have hfb:B0≤fb:=HB.out fb (.inr (.inl rfl))
  have hz2:B0≤w2.heap.size:=Nat.le_trans hsz hf2.size
  have hr2:BRow w2 B0 A bs:=row_kept HR1.out hf2 hsz (fun q e=>by rw [e];exact hfb)
  obtain ⟨r0,r1,r2,r3,r4,r5,r6⟩:=d2.cells
  have D2:=hid d2
  have HR2:=hid hr2
  have HF2:=hid hf2
  have hNb:N≤bs.length:=by omega
  clear HT hs2 hf2 d2 hr2 r1 r2 r3 r4 r5 r6
  have hwo:∀ q,q=wb∨wv1.ownBlock=some q→B0≤q:=by
   rintro q (e | e)
   ·exact HB.out q (.inr (.inr (.inl e)))
   rw [ho1] at e;exact HB.out q (.inr (.inr (.inr (.inr (.inr e)))))
  have HP:=hid (put_c base wb kb S N B0 N y.C wv1 A (bs.take N) w2 D2.out.win (take_len hNb).symm (HR2.out.take N) (BOff.of_row (HR2.out.take N) hwo) (by rw [take_len hNb];exact Nat.le_refl _) (by unfold maxLen;omega) (by rw [take_len hNb];omega) D2.out.b hS hz2)
  go_wp2_with fail
  refine HP.out.mono ?_;rintro e w3 ⟨rfl,v',hw3,hf3,hm3⟩
  clear HP
  go_wp2
  go_ret2
  rw [HO.out,if_neg (by omega)]
  obtain ⟨n1,n2,n3,n4,n5,n6,n7,n8,n9,n10⟩:=D2.out.ne
  have d3:=D2.out.win' hw3 hf3 (by
   rintro q hq (e | e)
   ·rcases hq with e2 | e2 | e2 | e2 <;> omega
   have h10:=n10 q e
   rcases hq with e2 | e2 | e2 | e2 <;> omega)
  have hz3:=hf3.size
  refine ⟨?_,k,v',takeA A c N,n-N,c-N,used+N,A,N,by rw [take_len hNb];rfl,d3,(row_kept HR2.out hf3 hz2 hwo).drop (by omega),by rw [List.length_drop];omega,by omega,by omega,by omega,?_,by rw [take_len hNb];exact Nat.le_refl _,by unfold maxLen;omega,rfl,.inl rfl,?_⟩
  ·refine ((F1.out.mono ?_).trans (HF2.out.mono ?_)).trans (hf3.mono ?_)
   ·rintro q _ (e | e)
    ·exact .inl e
    exact .inr (.inr (.inl e))
   ·intro q _ e;exact .inr (.inl e)
   rintro q _ (e | e)
   ·exact .inr (.inr (.inl e))
   rw [ho1] at e;exact .inr (.inr (.inr (.inr (.inr e))))
  ·exact ((row_kept HR2.out hf3 hz2 hwo).take N).more (Nat.le_trans hz2 hz3)
  intro q hq
  rcases hm3 q hq with e | e
  ·exact .inl (ho1▸e)
  exact .inr (Nat.le_trans (Nat.le_trans F1.out.size HF2.out.size) e)
 have hT:=take_no fb A n c used N wc DC.out.src (by omega)
 have HT:=hid hT
 clear hT
 go_wp2_with fail
 refine HT.out.mono ?_;rintro e w2 ⟨rfl,rfl⟩
 go_wp2
 go_ret2
 rw [HO.out,if_pos (by omega)]
 exact ⟨F1.out.mono fun q _ e=>by rcases e with e | e;exact .inl e;exact .inr (.inr (.inl e)),rfl,DC.out.ownB (by have:=dict_total x cc;rw [hy] at this;omega) (Nat.le_add_right _ _)⟩
open Go
section
variable {P : Program} {ops : Array Oper} {md : Region.Mode} {w : World}
def fwdB (md:Region.Mode) (ops:Array Oper):Bool :=
 (List.range ops.size).all fun j=>match ops[j]? with
   | some o=>o.after.all fun e => !Region.binds md e || decide (e.on<j)
   | none=>true
def rootB (md:Region.Mode) (ops:Array Oper) (n:Nat):Bool :=
 (List.range ops.size).all fun t=>decide (t≤n) || (List.range t).any fun j=>decide (n≤j) && Region.waitsFor md ops t j
theorem fwdB_spec (h:fwdB md ops=true) {j:Nat} {o:Oper} (ho:ops[j]?=some o) {e} (he:e∈o.after) (hb:Region.binds md e=true):e.on<j:=by
 have h1:=List.all_eq_true.1 h j (List.mem_range.2 (Array.getElem?_eq_some_iff.1 ho).1)
 simp only [ho] at h1
 have h2:=Array.all_eq_true_iff_forall_mem.1 h1 e he
 simpa [hb] using h2
theorem ready_head {n:Nat} {listed:Array Bool} (hs:Region.sinkB md ops n=true) (hr:rootB md ops n=true) (inv:HeadInv md ops n listed) {i:Nat} (hi:i<n) (hun:listed.getD i true=false)
 {t:Nat} (ht:t∈Region.ready md ops listed):t<n:=by
 rcases Nat.lt_or_ge t n with h | hge
 ·exact h
 exfalso
 obtain ⟨_,ot,hot,hall⟩:=mem_ready.1 ht
 have htlt:t<ops.size:=(Array.getElem?_eq_some_iff.1 hot).1
 by_cases htn:t=n
 ·subst htn
  have key:∀ d j,t-j=d→j<t→listed.getD j false=true:=by
   intro d
   induction d using Nat.strongRecOn with
   | _ d ih =>
    intro j hd hj
    obtain ⟨q,hq,hq2⟩:=List.any_eq_true.1 (List.all_eq_true.1 hs j (List.mem_range.2 hj))
    simp only [Bool.and_eq_true,decide_eq_true_eq] at hq2
    obtain ⟨oq,hoq,e,he,hb,hon⟩:=Region.waitsFor_spec hq2.2
    have hqle:=List.mem_range.1 hq
    rw [← hon]
    by_cases hqt:q=t
    ·subst hqt
     have:oq=ot:=Option.some.inj (hoq.symm.trans hot)
     subst this
     exact hall e he hb
    exact inv.closed q oq hoq (ih (t-q) (by omega) q rfl (by omega)) e he hb
  have h2:=key _ i rfl hi
  rw [getD_both hun] at h2
  cases h2
 have h1:=List.all_eq_true.1 hr t (List.mem_range.2 htlt)
 simp only [Bool.or_eq_true,decide_eq_true_eq] at h1
 rcases h1 with h1 | h1
 ·omega
 obtain ⟨q,hq,hq2⟩:=List.any_eq_true.1 h1
 simp only [Bool.and_eq_true,decide_eq_true_eq] at hq2
 obtain ⟨oq,hoq,e,he,hb,hon⟩:=Region.waitsFor_spec hq2.2
 have:oq=ot:=Option.some.inj (hoq.symm.trans hot)
 subst this
 have h2:=hall e he hb
 have hql:=List.mem_range.1 hq
 rw [hon,getD_both (inv.tail q hq2.1 (by omega))] at h2
 cases h2
theorem wpAny_more {Q:Exit→Act→World→Prop}:∀ (f:Nat) (listed:Array Bool) (a:Act) (w:World),wpAny P md ops Q f listed a w→wpAny P md ops Q (f+1) listed a w
 | 0,listed,a,w,h=>⟨fun _=>h.2,fun i hi=>by rw [h.1] at hi;cases hi⟩
 | f+1,listed,a,w,h=>⟨h.1,fun i hi=>wpOp_mono (fun a' w'=>wpAny_more f _ a' w') (h.2 i hi)⟩
theorem wpAny_plus {Q:Exit→Act→World→Prop} {g:Nat} {listed:Array Bool} {a:Act} (h:wpAny P md ops Q g listed a w):∀ f,wpAny P md ops Q (f+g) listed a w
 | 0=>by rw [Nat.zero_add];exact h
 | f+1=>by rw [show f+1+g=(f+g)+1 by omega];exact wpAny_more _ _ _ _ (wpAny_plus h f)
def firstN (m n:Nat):Array Bool:=Array.ofFn (n:=m) fun j=>decide (j.val<n)
def lastN' (m n:Nat):Array Bool:=Array.ofFn (n:=m) fun j=>decide (n≤j.val)
theorem head_any {n g:Nat} {Qe:Act→Prop} {Q:Exit→Act→World→Prop} (hf:fwdB md ops=true) (hs:Region.sinkB md ops n=true) (hr:rootB md ops n=true) (hn:n<ops.size)
 (hE:∀ a,Qe a→wpAny P md ops Q g (firstN ops.size n) a w) :
 ∀ (f:Nat) (listed l1:Array Bool) (a:Act),HeadInv md ops n listed→l1.size=ops.size→(∀ j d,j<n→l1.getD j d=listed.getD j d)→(∀ j,n≤j→l1.getD j true=true) →
  wpAnyS P md ops w Qe f l1 a→wpAny P md ops Q (f+g) listed a w:=by
 have same:∀ (listed l1:Array Bool),HeadInv md ops n listed→(∀ j d,j<n→l1.getD j d=listed.getD j d)→(∀ j,n≤j→l1.getD j true=true) →
  ∀ i,(i<n∧i∈Region.ready md ops listed↔i∈Region.ready md ops l1):=by
  intro listed l1 inv h1 h2 i
  constructor
  ·rintro ⟨hi,hm⟩
   obtain ⟨hu,o,ho,hall⟩:=mem_ready.1 hm
   exact mem_ready.2 ⟨(h1 i true hi).trans hu,o,ho,fun e he hb=>(h1 e.on false (by have:=fwdB_spec hf ho he hb;omega)).trans (hall e he hb)⟩
  intro hm
  obtain ⟨hu,o,ho,hall⟩:=mem_ready.1 hm
  have hi:i<n:=by
   rcases Nat.lt_or_ge i n with h | h
   ·exact h
   rw [h2 i h] at hu;cases hu
  exact ⟨hi,mem_ready.2 ⟨(h1 i true hi).symm.trans hu,o,ho,fun e he hb=>(h1 e.on false (by have:=fwdB_spec hf ho he hb;omega)).symm.trans (hall e he hb)⟩⟩
 have done:∀ (listed l1:Array Bool),HeadInv md ops n listed→(∀ j d,j<n→l1.getD j d=listed.getD j d)→(∀ j,n≤j→l1.getD j true=true) →
  Region.ready md ops l1=[]→listed=firstN ops.size n:=by
  intro listed l1 inv h1 h2 he
  have all:∀ d i,i=d→i<n→listed.getD i false=true:=by
   intro d
   induction d using Nat.strongRecOn with
   | _ d ih =>
    intro i hd hi
    cases hl:listed.getD i true with
    | true =>
     have hlt:i<listed.size:=by rw [inv.size];omega
     simp [hlt] at hl ⊢
     exact hl
    | false =>
     exfalso
     have hlt:i<ops.size:=by omega
     have hm:=mem_ready.2 ⟨(h1 i true hi).trans hl,ops[i],Array.getElem?_eq_getElem hlt,fun e he hb=>by
      have hlt2:=fwdB_spec hf (Array.getElem?_eq_getElem hlt) he hb
      exact (h1 e.on false (by omega)).trans (ih e.on (by omega) e.on rfl (by omega))⟩
     rw [he] at hm
     cases hm
  apply Array.ext
  ·simp [firstN,inv.size]
  intro i hi1 hi2
  simp only [firstN,Array.getElem_ofFn]
  rcases Nat.lt_or_ge i n with h | h
  ·have:=all i i rfl h
   simp [hi1] at this
   simp [this,h]
  have:=inv.tail i h (by rw [← inv.size];exact hi1)
  simp [hi1] at this
  rw [this]
  simp only [Bool.false_eq,decide_eq_false_iff_not]
  omega
 intro f
 induction f with
 | zero =>
  intro listed l1 a inv hsz h1 h2 h
  rw [done listed l1 inv h1 h2 h.1,Nat.zero_add]
  exact hE a h.2
 | succ f ih =>
  intro listed l1 a inv hsz h1 h2 h
  cases hrl:Region.ready md ops l1 with
  | nil =>
   rw [done listed l1 inv h1 h2 hrl]
   exact wpAny_plus (hE a (h.1 hrl)) _
  | cons x xs =>
   have hx:x∈Region.ready md ops l1:=by rw [hrl];exact List.mem_cons_self
   have hx2:=(same listed l1 inv h1 h2 x).2 hx
   have hxu:=(mem_ready.1 hx2.2).1
   rw [show f+1+g=(f+g)+1 by omega]
   refine ⟨fun h0=>by rw [h0] at hx2;exact absurd hx2.2 (by simp),fun i hi=>?_⟩
   have hin:i<n:=ready_head hs hr inv hx2.1 hxu hi
   have hil:=(same listed l1 inv h1 h2 i).1 ⟨hin,hi⟩
   refine wpOp_of_stOp (fun a' h'=>ih (listed.setIfInBounds i true) (l1.setIfInBounds i true) a' (inv.set hi hin) (by simp [hsz]) ?_ ?_ h') (h.2 i hil)
   ·intro j d hj
    by_cases hij:i=j
    ·subst hij
     have e1:i<l1.size:=by omega
     have e2:i<listed.size:=by rw [inv.size];omega
     simp [e1,e2]
    rw [getD_set_ne d hij,getD_set_ne d hij];exact h1 j d hj
   intro j hj
   rw [getD_set_ne true (by omega)]
   exact h2 j hj
theorem still_lex {n:Nat} {Qe:Act→Prop} (hsel:Region.noSelect ops=true):∀ (l:List Oper) (k:Nat) (listed:Array Bool) (a:Act),(∀ j,j<l.length→l[j]?=ops[k+j]?) →
 Region.lexFrom md ops l.length k listed=true→wpStill P ops w Qe l a→wpAnyS P md ops w Qe l.length listed a
 | [],_,_,_,_,hB,h=>⟨by simpa [Region.lexFrom] using hB,h⟩
 | o::l,k,listed,a,hl,hB,h=>by
  have h0:ops[k]?=some o:=by simpa using (hl 0 (by simp)).symm
  simp only [List.length_cons,Region.lexFrom,Bool.and_eq_true] at hB
  have hst:stOp P ops w k (wpStill P ops w Qe l) a:=by unfold stOp;simp only [h0];exact h
  obtain ⟨v,hy,hK⟩:=yieldsAt_of_stOp h0 hst
  exact wpAnyS_first h0 (Region.noSelect_spec hsel) l.length listed a (Region.free_spec h0 hB.1.2) (by simpa using hB.1.1) hy
   (still_lex (n:=n) hsel l (k+1) _ _ (fun j hj=>by have:=hl (j+1) (by simp;omega);simpa [Nat.add_assoc,Nat.add_comm 1 j] using this) hB.2 hK)
def tailQ (P:Program) (ops:Array Oper) (Q:Exit→Act→World→Prop) (l:List Oper):Exit→Act→World→Prop
 | .normal,a,w=>wpStill P ops w (fun a'=>Q .normal a' w) l a
 | e,a,w=>Q e a w
def stcB (md:Region.Mode) (ops:Array Oper) (n:Nat):Bool :=
 Region.noSelect ops && decide (n<ops.size) && fwdB md ops && Region.sinkB md ops n && rootB md ops n && Region.lexFrom md ops n 0 (lastN' ops.size n) &&
  decide (Region.ready md ops (firstN ops.size n)=[n]) && Region.lexFrom md ops (ops.size-(n+1)) (n+1) ((firstN ops.size n).setIfInBounds n true)
theorem wp_of_tailQ {o:Oper} {a:Act} {K:Act→World→Prop} {Q:Exit→Act→World→Prop} {l:List Oper} (h:o.wp P a w K (tailQ P ops Q l)):o.wp P a w K Q:=by
 unfold Oper.wp at *
 generalize (execOp a.eval o).run P w=r at *
 cases r with
 | ok n w' =>
  cases n <;> simp only [Oper.upon] at h ⊢
  case enter f args=>exact Calls.mono h (fun e w'' he=>by cases e <;> exact he)
  all_goals exact h
 | halt x w'=>cases x <;> simp only [Oper.upon] at h ⊢ <;> exact h
theorem wp_region_stc {id:Nat} {Q:Exit→Act→World→Prop} {a:Act} {w:World} {l:List Oper} (n:Nat) (hm:P.follows .mixedOrders=true) (hB:stcB .any l.toArray n=true)
 (h:wpStill P l.toArray { w with drawn:=w.drawn+1 } (fun a'=>wpList P l.toArray (tailQ P l.toArray Q (l.drop (n+1))) ((l.drop n).take 1) a' { w with drawn:=w.drawn+1 }) (l.take n) a) :
 (Code.region id l.toArray true).wp P Q a w:=by
 simp only [stcB,Bool.and_eq_true,decide_eq_true_eq] at hB
 obtain ⟨⟨⟨⟨⟨⟨⟨hsel,hn⟩,hf⟩,hs⟩,hr⟩,hlex⟩,hcall⟩,htail⟩:=hB
 have hn':n<l.length:=by simpa using hn
 have htl:(l.take n).length=n:=by simp;omega
 refine wp_region_any hm ?_
 have inv0:HeadInv .any l.toArray n (Array.replicate l.toArray.size false) :=
  ⟨by simp,fun j oj _ hl=>(by rw [getD_replicate_false] at hl;cases hl),fun t _ ht=>getD_in (by simpa using ht) (getD_replicate_false _ _)⟩
 have H:=still_lex (n:=n) (md:=.any) (w:={ w with drawn:=w.drawn+1 }) hsel (l.take n) 0 (lastN' l.toArray.size n) a (fun j hj=>by
  have hj':j<n:=by rw [htl] at hj;exact hj
  simp [hj']) (by rw [htl];exact hlex) h
 rw [htl] at H
 have G:=head_any (Q:=Q) (g:=l.toArray.size-(n+1)+1) hf hs hr hn (fun a' ha'=>?_) n (Array.replicate l.toArray.size false) (lastN' l.toArray.size n) a inv0 (by simp [lastN']) ?_ ?_ H
 ·rw [show n+(l.toArray.size-(n+1)+1)=l.toArray.size by omega] at G
  exact G
 ·have hdl:(l.drop (n+1)).length=l.toArray.size-(n+1):=by simp
  have ho:l[n]?=some l[n]:=List.getElem?_eq_getElem hn'
  have e1:(l.drop n).take 1=[l[n]]:=by
   rw [List.drop_eq_getElem_cons hn'];rfl
  rw [e1] at ha'
  refine ⟨fun h0=>(by rw [hcall] at h0;cases h0),fun i hi=>?_⟩
  rw [hcall] at hi
  have hin:i=n:=by simpa using hi
  subst hin
  have hK:∀ (a:Act) (w':World),tailQ P l.toArray Q (l.drop (i+1)) .normal a w'→wpAny P .any l.toArray Q (l.toArray.size-(i+1)) ((firstN l.toArray.size i).setIfInBounds i true) a w':=by
   intro a w' ht
   have h2:=wpAnyS_lex (md:=.any) hsel (l.drop (i+1)) (i+1) ((firstN l.toArray.size i).setIfInBounds i true) a (fun j=>by simp [List.getElem?_drop]) (by rw [hdl];exact htail) ht
   rw [hdl] at h2
   exact wpAny_of_still (fun _ h=>h) _ _ _ h2
  have hwo:wpOp P l.toArray Q i (fun a w'=>tailQ P l.toArray Q (l.drop (i+1)) .normal a w') a' { w with drawn:=w.drawn+1 }:=by
   unfold wpOp
   have h0:l.toArray[i]?=some l[i]:=by simp [ho]
   simp only [h0]
   unfold wpList at ha'
   split
   ·rename_i hw
    simp only [hw,if_true] at ha'
    refine ha'.imp (fun h=>wp_of_tailQ h) (fun h=>⟨h.1,?_⟩)
    obtain ⟨a0,w0,h0⟩:=h.2
    exact ⟨a0,w0,h0⟩
   rename_i hw
   simp only [hw] at ha'
   exact ha'
  exact wpOp_mono hK hwo
 ·intro j d hj
  have e1:j<l.toArray.size:=by omega
  have e2:j<(lastN' l.toArray.size n).size:=by simpa [lastN'] using e1
  have e3:j<(Array.replicate l.toArray.size false).size:=by simpa using e1
  simp only [Array.getD_eq_getD_getElem?,Array.getElem?_eq_getElem e2,Array.getElem?_eq_getElem e3,Option.getD_some]
  simp [lastN']
  omega
 intro j hj
 rcases Nat.lt_or_ge j l.toArray.size with e1 | e1
 ·have e2:j<(lastN' l.toArray.size n).size:=by simpa [lastN'] using e1
  simp only [Array.getD_eq_getD_getElem?,Array.getElem?_eq_getElem e2,Option.getD_some]
  simp [lastN']
  omega
 have e2:(lastN' l.toArray.size n).size≤j:=by simpa [lastN'] using e1
 simp only [Array.getD_eq_getD_getElem?,Array.getElem?_eq_none e2,Option.getD_none]
end
end Go.Proofs.YtffehfpbdcokbaaGreat
