import Derived.Test.YtffehfpbdcokbaaGreatBu4
import Derived.Test.YtffehfpbdcokbaaGreatBu7
set_option linter.unusedVariables false
set_option linter.unusedSimpArgs false
namespace Go.Proofs.YtffehfpbdcokbaaGreat
open Lib (hid)
open Go.RowKit Rng Lz Win
def WinC (w:World) (base wb kb S:Nat) (C:List UInt8) (v:Value):Prop:=∃ R a,WinAt w base wb kb S v R a∧content R a=C
def Mv (w:World) (v v':Value):Prop:=∀ q,v'.ownBlock=some q→v.ownBlock=some q∨w.heap.size≤q
section
variable {w w' : World} {base wb kb S : Nat} {C : List UInt8} {v : Value}
theorem WinC.pts (h:WinC w base wb kb S C v):∃ c,Pts w wb c 160:=by obtain ⟨R,a,hw,_⟩:=h;exact ⟨_,hw.p⟩
theorem WinC.own (h:WinC w base wb kb S C v):∃ l,OwnB w 5 base v l:=by obtain ⟨R,a,hw,_⟩:=h;exact ⟨R,hw.o⟩
theorem WinC.frm {N:Nat→Prop} (h:WinC w base wb kb S C v) (hf:Frm N w w') (hb:¬ N wb) (hv:∀ q,v.ownBlock=some q→¬ N q):WinC w' base wb kb S C v:=by
 obtain ⟨R,a,hw,hc⟩:=h
 exact ⟨R,a,⟨hw.p.frm hf hb,hw.o.frm hf hv,hw.n,hw.lt,hw.z⟩,hc⟩
theorem WinC.len (h:WinC w base wb kb S C v):C.length≤S:=by obtain ⟨R,a,hw,hc⟩:=h;rw [← hc,content_length];exact hw.n
end
def atB (C:List UInt8) (back:Nat):UInt8:=if 1≤back∧back≤C.length then C.getD (C.length-back) 0 else 0
theorem at_c (base wb kb S back:Nat) (z:Int) (C:List UInt8) (v:Value) (w:World) (h:WinC w base wb kb S C v) (hS:S≤16777216) (hz:z=(back:Int)) :
 Calls Tryz.prog 171 #[.pointer (some ⟨wb,0,none⟩),.int .i64 z] w fun e w'=>(∃ ok,e=.returned (.tuple #[.int .u8 ((atB C back).toNat:Int),.bool ok]))∧∃ d,w'=w.drewN d:=by
 subst hz
 obtain ⟨R,a,hw,hc⟩:=h
 have hl:C.length=R.length:=by rw [← hc,content_length]
 by_cases hb:1≤back∧back≤R.length
 ·have hp:=hw.p
  have hlt:=hw.lt
  have hn:=hw.n
  have hz:=hw.z
  obtain ⟨A0,k0,rfl,hc0,hm0,hr0⟩:=hw.o.slice
  refine (at_in wb kb a S k0 back A0 R w hp hr0 (by omega) (by omega) hb.1 hb.2).mono ?_
  rintro e w' ⟨rfl,d,rfl⟩
  refine ⟨⟨true,?_⟩,d,rfl⟩
  have e1:R.getD ((a+R.length-back) % R.length) 0=atB C back:=by
   unfold atB
   rw [if_pos (by omega),content_at (by by_cases hh:R.length<S;have:=hz hh;omega;omega) hb.1 hb.2,hc,hl]
  rw [e1]
 have hl2:=hw.p
 obtain ⟨A0,k0,rfl,hc0,hm0,hr0⟩:=hw.o.slice
 have hbad:(back:Int)<1∨(R.length:Int)<(back:Int):=by omega
 have e1:atB C back=0:=by unfold atB;rw [if_neg (by omega)]
 rw [e1]
 have c0:w.cell? ⟨wb,0,none⟩=some (.slice A0 R.length k0):=by rw [hw.p.cell];rfl
 have HW:=hid hw
 clear hw hr0 hm0 hc hl hb hl2 e1
 have h3:(back:Int)<1∨(1≤(back:Int)∧(R.length:Int)<(back:Int)):=by omega
 clear hbad
 rcases h3 with h | ⟨h,h4⟩
 all_goals
  go_enter Tryz.func171,Tryz.ntmps171
  go_wp2_with (go_at_call 139;refine (dropped_no _ _ _ _ _ _ HW.out.p).mono ?_;rintro e w1 ⟨rfl,rfl⟩)
  go_ret2
  exact ⟨⟨false,rfl⟩,0,rfl⟩
theorem put_c (base wb kb S c B n:Nat) (C:List UInt8) (v:Value) (A:Option Addr) (bs:List UInt8) (w:World) (h:WinC w base wb kb S C v) (hn:n=bs.length) (hr:BRow w B A bs) (hoff:BOff (fun x=>x=wb∨v.ownBlock=some x) A bs) (hc:bs.length≤c) (hcm:c≤maxLen) (hlen:bs.length≤16777216)
 (hbase:base≤w.heap.size) (hS2:S≤16777216) (hB:B≤w.heap.size) :
 Calls Tryz.prog 118 #[.pointer (some ⟨wb,0,none⟩),.slice A n c] w fun e w'=>e=.returned (.tuple #[])∧∃ v',WinC w' base wb kb S (lastN S (C++bs)) v'∧Frm (fun x=>x=wb∨v.ownBlock=some x) w w'∧Mv w v v':=by
 obtain ⟨R,a,hw,hcn⟩:=h
 refine (put_any base wb kb S a c B n v R A bs w hw hn hr hoff hc hcm hlen hbase hS2 hB).mono ?_
 rintro e w' ⟨v',R',a',rfl,hw',hc',hf,hm⟩
 refine ⟨rfl,v',⟨R',a',hw',by rw [hc',hcn]⟩,hf,fun q hq=>?_⟩
 rcases hm with e | e
 ·exact .inl (e▸hq)
 rw [e] at hq;injection hq with hq;exact .inr (by omega)
theorem copy_c (base wb kb S back n:Nat) (z1 z2:Int) (C:List UInt8) (v:Value) (w:World) (h:WinC w base wb kb S C v) (hbase:base≤w.heap.size) (hS2:S≤16777216) (hn:n≤16777216) (hz1:z1=(back:Int)) (hz2:z2=(n:Int)) (h1:1≤back) :
 Calls Tryz.prog 158 #[.pointer (some ⟨wb,0,none⟩),.int .i64 z1,.int .i64 z2] w fun e w' =>
  (back≤C.length→∃ ov v',e=.returned (.tuple #[ov,.int .i64 0])∧WinC w' base wb kb S (lastN S (C++cyc C back n)) v'∧OwnB w' 5 w.heap.size ov (cyc C back n)∧Frm (fun x=>x=wb∨v.ownBlock=some x) w w'∧Mv w v v'∧(∀ q,ov.ownBlock=some q→v'.ownBlock≠some q)) ∧
  (¬ back≤C.length→e=.returned (.tuple #[.slice none 0 0,.int .i64 11])∧w=w'):=by
 subst hz1;subst hz2
 obtain ⟨R,a,hw,hcn⟩:=h
 have hl:C.length=R.length:=by rw [← hcn,content_length]
 by_cases hb:back≤C.length
 ·refine (copy_any base wb kb S a back n v R w hw hbase hS2 hn h1 (by omega)).mono ?_
  rintro e w' ⟨ov,v',R',a',rfl,hw',hc',ho,hf,hm⟩
  rw [hcn] at hc' ho
  refine ⟨fun _=>⟨ov,v',rfl,⟨R',a',hw',hc'⟩,ho,hf,fun q hq=>?_,fun q hq e=>?_⟩,fun hn=>absurd hb hn⟩
  ·rcases hm with e | ⟨g,e,hg,_⟩
   ·exact .inl (e▸hq)
   rw [e] at hq;injection hq with hq;exact .inr (by omega)
  rcases hm with e' | ⟨g,e',hg,hne⟩
  ·have h2:=(ho.lt hq).1
   have h3:=(hw.o.lt (e'▸e)).2
   omega
  rw [e'] at e;injection e with e;subst e;exact hne hq
 refine (copy_bad base wb kb S a back n v R w hw (by omega) (.inr (by omega))).mono ?_
 rintro e w' ⟨rfl,rfl⟩
 exact ⟨fun h=>absurd h hb,fun _=>⟨rfl,rfl⟩⟩
open Go.RowKit Rng Lz Win
structure RB where
 db:Nat
 rb:Nat
 wb:Nat
 kb:Nat
 xb:Nat
 S:Nat
 bw:Nat
 bt:Nat
theorem Pts.ne_of {w:World} {b b':Nat} {c c':Array Value} {T T':TypeId} (h:Pts w b c T) (h':Pts w b' c' T') (hT:T≠T'):b≠b':=by
 rintro rfl
 have e:=h.symm.trans h'
 injection e with e
 injection e with e1 e2
 exact hT e2
structure RdAt (Z:Nat→Prop) (w0 w:World) (k:LK) (g:RB) (total:Int) (st:Nat) (rep:Nat→Nat) (s:CP Dec) (C told:List UInt8) (wv tv:Value):Prop where
 lz:LzAt (DC g.db g.rb) (DO g.db g.rb) 169 w k st rep s
 win:WinC w g.bw g.wb g.kb g.S C wv
 p:Pts w g.xb #[.pointer (some ⟨k.sb,0,none⟩),.pointer (some ⟨g.wb,0,none⟩),.pointer (some ⟨g.db,0,none⟩),.int .i64 total,tv] 246
 o:OwnB w 5 g.bt tv told
 ne:∀ q,wv.ownBlock=some q→tv.ownBlock≠some q
 nr:g.rb≠g.wb∧g.rb≠g.xb∧wv.ownBlock≠some g.rb∧tv.ownBlock≠some g.rb∧g.rb<w.heap.size
 bs:g.bw≤w.heap.size∧g.bt≤w.heap.size
 z:∀ q,(q=g.db∨q=g.rb∨q=k.sb∨q=k.lb∨q=g.wb∨q=g.xb∨wv.ownBlock=some q∨tv.ownBlock=some q)→q<w0.heap.size→Z q
 f:Frm Z w0 w
section
variable {Z : Nat → Prop} {w0 w w' : World} {k : LK} {g : RB} {total : Int} {st : Nat} {rep : Nat → Nat} {s : CP Dec} {C told : List UInt8} {wv tv : Value}
theorem RdAt.dpts (h:RdAt Z w0 w k g total st rep s C told wv tv):∃ c,Pts w g.db c 265:=by
 exact DC.pts h.lz.c
theorem RdAt.lzStep {st':Nat} {rep':Nat→Nat} {s':CP Dec} (h:RdAt Z w0 w k g total st rep s C told wv tv) (hl:LzAt (DC g.db g.rb) (DO g.db g.rb) 169 w' k st' rep' s') (hf:Frm (Wr (DO g.db g.rb) k) w w'):RdAt Z w0 w' k g total st' rep' s' C told wv tv:=by
 obtain ⟨cd,hd⟩:=h.dpts
 obtain ⟨cw,hw⟩:=h.win.pts
 obtain ⟨lw,hwo⟩:=h.win.own
 refine ⟨hl,h.win.frm hf ?_ ?_,h.p.frm hf ?_,h.o.frm hf ?_,h.ne,⟨h.nr.1,h.nr.2.1,h.nr.2.2.1,h.nr.2.2.2.1,Nat.lt_of_lt_of_le h.nr.2.2.2.2 hf.size⟩,⟨Nat.le_trans h.bs.1 hf.size,Nat.le_trans h.bs.2 hf.size⟩,h.z,h.f.transW hf ?_⟩
 ·rintro ((e | e) | e | e)
  ·exact hw.ne_of hd (by decide) e
  ·exact h.nr.1 e.symm
  ·exact hw.ne_of h.lz.m (by decide) e
  exact hw.ne_of h.lz.l (by decide) e
 ·intro q hq
  rintro ((e | e) | e | e)
  ·subst e;exact own_ne hwo hd (by decide) hq
  ·subst e;exact h.nr.2.2.1 hq
  ·subst e;exact own_ne hwo h.lz.m (by decide) hq
  subst e;exact own_ne hwo h.lz.l (by decide) hq
 ·rintro ((e | e) | e | e)
  ·exact h.p.ne_of hd (by decide) e
  ·exact h.nr.2.1 e.symm
  ·exact h.p.ne_of h.lz.m (by decide) e
  exact h.p.ne_of h.lz.l (by decide) e
 ·intro q hq
  rintro ((e | e) | e | e)
  ·subst e;exact own_ne h.o hd (by decide) hq
  ·subst e;exact h.nr.2.2.2.1 hq
  ·subst e;exact own_ne h.o h.lz.m (by decide) hq
  subst e;exact own_ne h.o h.lz.l (by decide) hq
 rintro q ((e | e) | e | e) hq
 ·exact h.z q (.inl e) hq
 ·exact h.z q (.inr (.inl e)) hq
 ·exact h.z q (.inr (.inr (.inl e))) hq
 exact h.z q (.inr (.inr (.inr (.inl e)))) hq
theorem RdAt.winStep {C':List UInt8} {wv':Value} (h:RdAt Z w0 w k g total st rep s C told wv tv) (hw':WinC w' g.bw g.wb g.kb g.S C' wv') (hf:Frm (fun x=>x=g.wb∨wv.ownBlock=some x) w w') (hm:Mv w wv wv'):RdAt Z w0 w' k g total st rep s C' told wv' tv:=by
 obtain ⟨cd,hd⟩:=h.dpts
 obtain ⟨cw,hw⟩:=h.win.pts
 obtain ⟨lw,hwo⟩:=h.win.own
 have hrb:=h.nr.2.2.2.2
 refine ⟨h.lz.frm (DC.keep _ _) hf ?_,hw',h.p.frm hf ?_,h.o.frm hf ?_,?_,⟨h.nr.1,h.nr.2.1,?_,h.nr.2.2.2.1,Nat.lt_of_lt_of_le hrb hf.size⟩,⟨Nat.le_trans h.bs.1 hf.size,Nat.le_trans h.bs.2 hf.size⟩,?_,h.f.transW hf ?_⟩
 ·rintro q ((e | e) | e | e) (e2 | e2)
  ·exact hd.ne_of hw (by decide) (e.symm.trans e2)
  ·subst e;exact own_ne hwo hd (by decide) e2
  ·exact h.nr.1 (e.symm.trans e2)
  ·subst e;exact h.nr.2.2.1 e2
  ·exact h.lz.m.ne_of hw (by decide) (e.symm.trans e2)
  ·subst e;exact own_ne hwo h.lz.m (by decide) e2
  ·exact h.lz.l.ne_of hw (by decide) (e.symm.trans e2)
  subst e;exact own_ne hwo h.lz.l (by decide) e2
 ·rintro (e | e)
  ·exact h.p.ne_of hw (by decide) e
  exact own_ne hwo h.p (by decide) e
 ·intro q hq
  rintro (e | e)
  ·subst e;exact own_ne h.o hw (by decide) hq
  exact h.ne q e hq
 ·intro q hq ht
  rcases hm q hq with e | e
  ·exact h.ne q e ht
  have:=(h.o.lt ht).2;omega
 ·intro e
  rcases hm _ e with e2 | e2
  ·exact h.nr.2.2.1 e2
  omega
 ·intro q hq hlt
  rcases hq with e | e | e | e | e | e | e | e
  ·exact h.z q (.inl e) hlt
  ·exact h.z q (.inr (.inl e)) hlt
  ·exact h.z q (.inr (.inr (.inl e))) hlt
  ·exact h.z q (.inr (.inr (.inr (.inl e)))) hlt
  ·exact h.z q (.inr (.inr (.inr (.inr (.inl e))))) hlt
  ·exact h.z q (.inr (.inr (.inr (.inr (.inr (.inl e)))))) hlt
  ·rcases hm q e with e2 | e2
   ·exact h.z q (.inr (.inr (.inr (.inr (.inr (.inr (.inl e2))))))) hlt
   have:=h.f.size;omega
  exact h.z q (.inr (.inr (.inr (.inr (.inr (.inr (.inr e))))))) hlt
 rintro q (e | e) hlt
 ·exact h.z q (.inr (.inr (.inr (.inr (.inl e))))) hlt
 exact h.z q (.inr (.inr (.inr (.inr (.inr (.inr (.inl e))))))) hlt
theorem RdAt.frmOut {N:Nat→Prop} (h:RdAt Z w0 w k g total st rep s C told wv tv) (hf:Frm N w w') (hN:∀ q,N q→w.heap.size≤q):RdAt Z w0 w' k g total st rep s C told wv tv:=by
 have hf':Frm (fun _=>False) w w':=⟨hf.os,hf.tape,hf.output,hf.size,fun q hq _=>hf.block q hq (fun hn=>by have:=hN q hn;omega)⟩
 exact ⟨h.lz.later (DC.keep _ _) hf',h.win.frm hf' id (fun _ _ h=>h),h.p.frm hf' id,h.o.frm hf' (fun _ _ h=>h),h.ne,⟨h.nr.1,h.nr.2.1,h.nr.2.2.1,h.nr.2.2.2.1,Nat.lt_of_lt_of_le h.nr.2.2.2.2 hf.size⟩,⟨Nat.le_trans h.bs.1 hf.size,Nat.le_trans h.bs.2 hf.size⟩,h.z,h.f.transW hf' (fun _ h=>h.elim)⟩
theorem RdAt.drewN (h:RdAt Z w0 w k g total st rep s C told wv tv) (n:Nat):RdAt Z w0 (w.drewN n) k g total st rep s C told wv tv:=h.frmOut ((Frm.refl (fun _=>False) w).drewN n) (fun _ h=>h.elim)
theorem RdAt.alloc (h:RdAt Z w0 w k g total st rep s C told wv tv) (X:Obj):RdAt Z w0 (w.alloc X) k g total st rep s C told wv tv:=h.frmOut ((Frm.refl (fun _=>False) w).alloc X) (fun _ h=>h.elim)
theorem RdAt.toldStep {told':List UInt8} {tv':Value} {w1:World} (h:RdAt Z w0 w k g total st rep s C told wv tv) (ho:OwnB w1 5 g.bt tv' told') (hf:Frm (fun x=>tv.ownBlock=some x) w w1) (hm:tv'.ownBlock=tv.ownBlock∨tv'.ownBlock=some w.heap.size):RdAt Z w0 (w1.setCell ⟨g.xb,4,none⟩ tv') k g total st rep s C told' wv tv':=by
 obtain ⟨cd,hd⟩:=h.dpts
 obtain ⟨cw,hw⟩:=h.win.pts
 obtain ⟨lw,hwo⟩:=h.win.own
 have hrb:=h.nr.2.2.2.2
 have hmv:∀ q,tv'.ownBlock=some q→tv.ownBlock=some q∨w.heap.size≤q:=by
  intro q hq
  rcases hm with e | e
  ·exact .inl (e▸hq)
  rw [e] at hq;injection hq with hq;exact .inr (by omega)
 have hxlt:=h.p.lt
 have hf2:Frm (fun x=>x=g.xb∨tv.ownBlock=some x) w (w1.setCell ⟨g.xb,4,none⟩ tv'):=(hf.mono fun q _ e=>.inr e).setCell (p:=⟨g.xb,4,none⟩) (.inl rfl) tv'
 have hx:tv'.ownBlock≠some g.xb:=by
  intro e
  rcases hmv _ e with e2 | e2
  ·exact own_ne h.o h.p (by decide) e2
  omega
 refine ⟨h.lz.frm (DC.keep _ _) hf2 ?_,h.win.frm hf2 ?_ ?_,(h.p.frm hf (own_ne h.o h.p (by decide))).set 4 tv',ho.other (p:=⟨g.xb,4,none⟩) hx tv',?_,⟨h.nr.1,h.nr.2.1,h.nr.2.2.1,?_,Nat.lt_of_lt_of_le hrb hf2.size⟩,⟨Nat.le_trans h.bs.1 hf2.size,Nat.le_trans h.bs.2 hf2.size⟩,?_,h.f.transW hf2 ?_⟩
 ·rintro q ((e | e) | e | e) (e2 | e2)
  ·exact hd.ne_of h.p (by decide) (e.symm.trans e2)
  ·subst e;exact own_ne h.o hd (by decide) e2
  ·exact h.nr.2.1 (e.symm.trans e2)
  ·subst e;exact h.nr.2.2.2.1 e2
  ·exact h.lz.m.ne_of h.p (by decide) (e.symm.trans e2)
  ·subst e;exact own_ne h.o h.lz.m (by decide) e2
  ·exact h.lz.l.ne_of h.p (by decide) (e.symm.trans e2)
  subst e;exact own_ne h.o h.lz.l (by decide) e2
 ·rintro (e | e)
  ·exact hw.ne_of h.p (by decide) e
  exact own_ne h.o hw (by decide) e
 ·intro q hq
  rintro (e | e)
  ·subst e;exact own_ne hwo h.p (by decide) hq
  exact h.ne q hq e
 ·intro q hq ht
  rcases hmv q ht with e | e
  ·exact h.ne q hq e
  have:=(hwo.lt hq).2;omega
 ·intro e
  rcases hmv _ e with e2 | e2
  ·exact h.nr.2.2.2.1 e2
  omega
 ·intro q hq hlt
  rcases hq with e | e | e | e | e | e | e | e
  ·exact h.z q (.inl e) hlt
  ·exact h.z q (.inr (.inl e)) hlt
  ·exact h.z q (.inr (.inr (.inl e))) hlt
  ·exact h.z q (.inr (.inr (.inr (.inl e)))) hlt
  ·exact h.z q (.inr (.inr (.inr (.inr (.inl e))))) hlt
  ·exact h.z q (.inr (.inr (.inr (.inr (.inr (.inl e)))))) hlt
  ·exact h.z q (.inr (.inr (.inr (.inr (.inr (.inr (.inl e))))))) hlt
  rcases hmv q e with e2 | e2
  ·exact h.z q (.inr (.inr (.inr (.inr (.inr (.inr (.inr e2))))))) hlt
  have:=h.f.size;omega
 rintro q (e | e) hlt
 ·exact h.z q (.inr (.inr (.inr (.inr (.inr (.inl e)))))) hlt
 exact h.z q (.inr (.inr (.inr (.inr (.inr (.inr (.inr e))))))) hlt
end
open Go.RowKit Rng Lz Win
theorem farGo_lt {σ:Type} (co:Cod σ) (base x far:Nat):∀ (n m:Nat) (s:CP σ),(farGo co base x far n m s).1<2 ^ n*(m+1)
 | 0,m,s=>by show m<2 ^ 0*(m+1);omega
 | n+1,m,s=>by
  have hb:=bitAt_le co (base+(1+far / 2 ^ n % 2)*256+m) (x / 2 ^ n % 2) s
  have h1:=farGo_lt co base x far n (2*m+(bitAt co (base+(1+far / 2 ^ n % 2)*256+m) (x / 2 ^ n % 2) s).1) (bitAt co (base+(1+far / 2 ^ n % 2)*256+m) (x / 2 ^ n % 2) s).2
  have h2:=treeGo_lt co base x n (2*m+(bitAt co (base+(1+far / 2 ^ n % 2)*256+m) (x / 2 ^ n % 2) s).1) (bitAt co (base+(1+far / 2 ^ n % 2)*256+m) (x / 2 ^ n % 2) s).2
  have h3:2 ^ n*(2*m+(bitAt co (base+(1+far / 2 ^ n % 2)*256+m) (x / 2 ^ n % 2) s).1+1)≤2 ^ (n+1)*(m+1):=by
   rw [Nat.pow_succ,Nat.mul_assoc]
   exact Nat.mul_le_mul_left _ (by omega)
  unfold farGo
  simp only
  split
  ·exact Nat.lt_of_lt_of_le h1 h3
  exact Nat.lt_of_lt_of_le h2 h3
theorem litAt_lt {σ:Type} (co:Cod σ) (lc lp st total ahead far x:Nat) (s:CP σ):(litAt co lc lp st total ahead far x s).1<256:=by
 unfold litAt
 simp only
 split
 ·have:=farGo_lt co (4096+768*(total % 2 ^ lp*2 ^ lc+ahead / 2 ^ (8-lc))) x far 8 1 s;omega
 have:=treeGo_lt co (4096+768*(total % 2 ^ lp*2 ^ lc+ahead / 2 ^ (8-lc))) x 8 1 s;omega
def litOf {σ:Type} (co:Cod σ) (k:LK) (st total:Nat) (rep:Nat→Nat) (C:List UInt8) (s:CP σ):Nat×CP σ :=
 litAt co k.lc k.lp st total (if 0<total then (atB C 1).toNat else 0) (if rep 0<16777216 then (atB C (rep 0+1)).toNat else 0) 0 s
section
variable {Z : Nat → Prop} {w0 w w' : World} {k : LK} {g : RB} {total : Int} {st : Nat} {rep : Nat → Nat} {s : CP Dec} {C told : List UInt8} {wv tv : Value}
theorem RdAt.drew (h:RdAt Z w0 w k g total st rep s C told wv tv):RdAt Z w0 w.drew k g total st rep s C told wv tv:=h.frmOut ((Frm.refl (fun _=>False) w).drew) (fun _ h=>h.elim)
theorem RdAt.cells (h:RdAt Z w0 w k g total st rep s C told wv tv):w.cell? ⟨g.xb,0,none⟩=some (.pointer (some ⟨k.sb,0,none⟩))∧w.cell? ⟨g.xb,1,none⟩=some (.pointer (some ⟨g.wb,0,none⟩))∧w.cell? ⟨g.xb,2,none⟩=some (.pointer (some ⟨g.db,0,none⟩)) ∧
 w.cell? ⟨g.xb,3,none⟩=some (.int .i64 total)∧w.cell? ⟨g.xb,4,none⟩=some tv∧w.cell? ⟨k.sb,4,none⟩=some (.int .u32 (rep 0)):=by
 refine ⟨by rw [h.p.cell];rfl,by rw [h.p.cell];rfl,by rw [h.p.cell];rfl,by rw [h.p.cell];rfl,by rw [h.p.cell];rfl,?_⟩
 exact (h.lz.hdr (i:=4) (by omega)).1
end
set_option maxRecDepth 100000 in
set_option maxHeartbeats 2000000 in
theorem literal_p (Z:Nat→Prop) (w0 w:World) (k:LK) (g:RB) (total st:Nat) (rep:Nat→Nat) (s:CP Dec) (C told:List UInt8) (wv tv:Value) (h:RdAt Z w0 w k g (total:Int) st rep s C told wv tv)
 (hk:k.Ok) (ht:total<4611686018427387904) (hst:st<12) (hrep:rep 0<4294967296) (hS:g.S≤16777216) (hlen:told.length≤100000000) :
 Calls Tryz.prog 156 #[.pointer (some ⟨g.xb,0,none⟩)] w fun e w'=>e=.returned (.tuple #[])∧∃ wv' tv',RdAt Z w0 w' k g (total:Int) (behS st 0) rep (litOf outC k st total rep C s).2 (lastN g.S (C++[UInt8.ofNat (litOf outC k st total rep C s).1])) (told++[UInt8.ofNat (litOf outC k st total rep C s).1]) wv' tv':=by
 obtain ⟨AH,hAH⟩:∃ a,(if 0<total then (atB C 1).toNat else 0)=a:=⟨_,rfl⟩
 obtain ⟨FA,hFA⟩:∃ a,(if rep 0<16777216 then (atB C (rep 0+1)).toNat else 0)=a:=⟨_,rfl⟩
 obtain ⟨⟨b,s2⟩,hL⟩:∃ x,litOf outC k st total rep C s=x:=⟨_,rfl⟩
 have hbl:b<256:=by
  have:=litAt_lt outC k.lc k.lp st total (if 0<total then (atB C 1).toNat else 0) (if rep 0<16777216 then (atB C (rep 0+1)).toNat else 0) 0 s
  unfold litOf at hL
  rw [hL] at this
  exact this
 rw [hL]
 dsimp only
 obtain ⟨bb,hbb⟩:∃ x:UInt8,UInt8.ofNat b=x:=⟨_,rfl⟩
 have HBN:Hid (bb.toNat=b):=hid (by rw [← hbb,UInt8.toNat_ofNat'];omega)
 rw [hbb]
 clear hbb
 unfold litOf at hL
 rw [hAH,hFA] at hL
 have hah:AH<256:=by rw [← hAH];split;exact (atB C 1).toNat_lt;omega
 have hfa:FA<256:=by rw [← hFA];split;exact (atB C (rep 0+1)).toNat_lt;omega
 have HH:=hid h
 have HAH:=hid hAH
 have HFA:=hid hFA
 have HL:=hid hL
 have HK:=hid hk
 obtain ⟨d0,d1,d2,d3,d4,d5⟩:=h.cells
 obtain ⟨r0,hr0⟩:∃ r,rep 0=r:=⟨_,rfl⟩
 rw [hr0] at d5 hrep
 have HR0:=hid hr0
 clear h hAH hFA hL hk hr0
 go_enter Tryz.func156,Tryz.ntmps156
 go_upto_if 9 with fail
 go_cut [2] from 5 (fun v wx=>v=.int .u8 AH∧RdAt Z w0 wx k g (total:Int) st rep s C told wv tv)
 case first =>
  by_cases h0:0<total
  ·have h0i:(0:Int)<(total:Int):=by omega
   have hA:=HAH.out
   rw [if_pos h0] at hA
   go_wp2_with fail
   refine (at_c g.bw g.wb g.kb g.S 1 1 C wv w HH.out.win hS rfl).mono ?_;rintro e w1 ⟨⟨ok,rfl⟩,d,rfl⟩
   rw [hA]
   have H1:=hid (HH.out.drewN d)
   go_wp2
   go_meet
   case rel=>exact ⟨rfl,H1.out⟩
  have h0i:(total:Int)=0:=by omega
  have hA:=HAH.out
  rw [if_neg h0] at hA
  have h0d:decide (0<total)=false:=decide_eq_false h0
  subst hA
  go_wp2
  go_meet
  case rel=>exact ⟨rfl,HH.out⟩
 case rest =>
 obtain ⟨rfl,h1⟩:=hcut
 have H1:=hid h1
 clear d0 d1 d2 d3 d4 d5
 obtain ⟨d0,d1,d2,d3,d4,d5⟩:=h1.cells
 rw [HR0.out] at d5
 clear h1 HH
 go_upto_if 27 with fail
 go_cut [3] from 5 (fun v wx=>v=.int .u8 FA∧RdAt Z w0 wx k g (total:Int) st rep s C told wv tv)
 case first =>
  by_cases h0:r0<16777216
  ·have h0i:(r0:Int)<16777216:=by omega
   have hA:=HFA.out
   rw [HR0.out,if_pos h0] at hA
   have hr1:(r0:Int)+1=((r0+1:Nat):Int):=by omega
   obtain ⟨r1,hr1e⟩:∃ r1,r0+1=r1:=⟨_,rfl⟩
   rw [hr1e] at hr1 hA
   have hr1w:IntKind.i64.wrap (r1:Int)=(r1:Int):=Go.IntWalk.i64_in _ (by omega)
   have hr0w:IntKind.i64.wrap (r0:Int)=(r0:Int):=Go.IntWalk.i64_in _ (by omega)
   have hr1b:r1≤16777216:=by omega
   have HD:=hid H1.out.drew
   have h0i2:decide ((r0:Int)<16777216)=true:=decide_eq_true h0i
   simp only [h0i2]
   clear hr1e h0i h0 h0i2
   go_wp2_with fail
   go_region_with (first
    | (go_at_call 171;refine (at_c g.bw g.wb g.kb g.S r1 r1 C wv _ HD.out.win hS rfl).mono ?_;rintro e w2 ⟨⟨ok,rfl⟩,d,rfl⟩;rw [hA]))
   all_goals
    have H2:=hid (H1.out.drewN (1+d))
    go_wp2
    go_meet
    case rel=>exact ⟨rfl,H2.out⟩
  have h0i:¬ ((r0:Int)<16777216):=by omega
  have hA:=HFA.out
  rw [HR0.out,if_neg h0] at hA
  subst hA
  have h0i2:decide ((r0:Int)<16777216)=false:=decide_eq_false h0i
  simp only [h0i2]
  clear h0i h0
  go_wp2
  go_meet
  case rel=>exact ⟨rfl,H1.out⟩
 case rest =>
 obtain ⟨rfl,h2⟩:=hcut
 have H2:=hid h2
 clear d0 d1 d2 d3 d4 d5
 obtain ⟨d0,d1,d2,d3,d4,d5⟩:=h2.cells
 have HD:=hid h2.drew
 clear h2 H1
 go_upto_region 5 with fail
 go_cut [4] from 5 (fun v wx=>∃ nb:Nat,v=.slice (some ⟨nb,0,none⟩) 1 1∧RdAt Z w0 wx k g (total:Int) st rep s2 C told wv tv∧Pts wx nb #[.int .u8 (b:Int)] 5∧wv.ownBlock≠some nb∧tv.ownBlock≠some nb)
 case first =>
  go_region_with (first
   | (go_at_call 106;refine (lit_p g.db g.rb 169 k st total AH FA rep s _ HD.out.lz HK.out ht hah hfa).mono ?_;rintro e w2 ⟨rfl,h2,f2⟩;rw [HL.out] at h2 ⊢))
  all_goals
   have h3:=HD.out.lzStep h2 f2
   obtain ⟨lw,hwo⟩:=h3.win.own
   have hto:=h3.o
   have n1:wv.ownBlock≠some w2.heap.size:=fun e=>by have:=(hwo.lt e).2;omega
   have n2:tv.ownBlock≠some w2.heap.size:=fun e=>by have:=(hto.lt e).2;omega
   have H3:=hid h3
   clear h2 f2 h3 hwo hto
   go_wp2
   go_meet
   case rel=>exact ⟨w2.heap.size,rfl,H3.out.alloc _,Pts.new w2 _ _,n1,n2⟩
 case rest =>
 obtain ⟨nb,rfl,h3,hnb,n1,n2⟩:=hcut
 have H3:=hid h3
 have NB:=hid hnb
 clear d0 d1 d2 d3 d4 d5 HD H2
 have hbn:=HBN.out
 have hrow:∀ w9:World,Pts w9 nb #[.int .u8 (b:Int)] 5→BRow w9 w9.heap.size (some ⟨nb,0,none⟩) [bb]:=fun w9 hp _=>⟨nb,0,rfl,hp.lt,fun j hj=>by
  obtain rfl:j=0:=by simpa using hj
  refine (hp.cell 0).trans ?_
  show some (Value.int .u8 (b:Int))=some (Value.int .u8 (bb.toNat:Int))
  rw [hbn]⟩
 obtain ⟨cw,hwp⟩:=h3.win.pts
 have nw:nb≠g.wb:=hnb.ne_of hwp (by decide)
 have nx:nb≠g.xb:=hnb.ne_of h3.p (by decide)
 have hoff:BOff (fun x=>x=g.wb∨wv.ownBlock=some x) (some ⟨nb,0,none⟩) [bb]:=by
  intro _ ad had
  injection had with had
  subst had
  rintro (e | e)
  ·exact nw e
  exact n1 e
 have OF:=hid hoff
 have HROW:=hid hrow
 have N12:=hid (And.intro n1 n2)
 obtain ⟨d0,d1,d2,d3,d4,d5⟩:=h3.cells
 clear h3 hnb hwp hoff hrow n1 n2 hbn d2 d3 d5
 go_wp2_with fail
 refine (put_c g.bw g.wb g.kb g.S 1 _ 1 C wv _ [bb] wc H3.out.win rfl (HROW.out _ NB.out) OF.out (by simp) (by unfold maxLen;omega) (by simp) H3.out.bs.1 hS (Nat.le_refl _)).mono ?_;rintro e w4 ⟨rfl,wv4,hw4,f4,m4⟩
 have H4:=hid (H3.out.winStep hw4 f4 m4)
 have NB4:=hid (NB.out.frm f4 (by rintro (e | e);exact nw e;exact N12.out.1 e))
 clear hw4 f4 m4 d0 d1 d4
 obtain ⟨d0,d1,d2,d3,d4,d5⟩:=H4.out.cells
 have hxz:=H4.out.p.frozen 4
 obtain ⟨A5,c5,htv,hc5,hm5,_⟩:=H4.out.o.slice
 subst htv
 clear d1 d2 d3 d5
 go_wp2_with (at_builtin;refine wpList_append_bytes _ rfl (.tmp 76) (.tmp 77) 22 rfl 5 g.bt Tryz.underlying22 Tryz.info_u8 (.slice A5 told.length c5) told rfl ?own5 (some ⟨nb,0,none⟩) 1 1 w4.heap.size [bb] rfl rfl ?row5 ?len5 ?base5 ?next5)
 case own5=>exact H4.out.o
 case row5=>exact HROW.out _ NB4.out
 case len5=>simp;omega
 case base5=>exact H4.out.bs.2
 case next5 =>
 intro v5 w5 hown5 hfrm5 hnew5
 obtain ⟨A6,c6,rfl,-,-,-⟩:=hown5.slice
 have h6:=H4.out.toldStep hown5 hfrm5 hnew5
 have hp5:=H4.out.p.frm hfrm5 (own_ne H4.out.o H4.out.p (by decide))
 have e4:w5.cell? ⟨g.xb,4,none⟩=some (.slice A5 told.length c5):=by rw [hp5.cell];rfl
 have z4:=hp5.frozen 4
 obtain ⟨L6,hL6⟩:∃ L,(told++[bb]).length=L:=⟨_,rfl⟩
 rw [hL6] at h6 ⊢
 have H6:=hid h6
 obtain ⟨q0,-,-,-,-,-⟩:=h6.cells
 clear hown5 hfrm5 hnew5 hp5 h6 hL6 d0 d4
 go_wp2_with fail
 refine (behind_any (DC.keep g.db g.rb) 169 k st 0 rep s2 _ H6.out.lz hst (by omega)).mono ?_;rintro e w7 ⟨rfl,h7,f7⟩
 have H7:=hid (H6.out.lzStep h7 f7)
 clear h7 f7
 go_wp2
 go_end0
 exact ⟨rfl,wv4,_,H7.out⟩
open Go.RowKit Rng Lz Win
def repOf {σ:Type} (co:Cod σ) (st p:Nat) (rep:Nat→Nat) (s:CP σ):Nat×Nat×(Nat→Nat)×CP σ :=
 let a:=bitAt co (212+st) 0 s
 if a.1=0 then
  let b:=bitAt co (248+st*16+p) 0 a.2
  if b.1=0 then (1,behS st 3,rep,b.2)
  else ((lenAt co 1354 2 p b.2).1,behS st 2,rep,(lenAt co 1354 2 p b.2).2)
 else
  let c:=bitAt co (224+st) 0 a.2
  if c.1=1 then
   let d:=bitAt co (236+st) 0 c.2
   ((lenAt co 1354 2 p d.2).1,behS st 2,takeS rep (2+d.1),(lenAt co 1354 2 p d.2).2)
  else ((lenAt co 1354 2 p c.2).1,behS st 2,takeS rep 1,(lenAt co 1354 2 p c.2).2)
theorem RdAt.st3 {Z:Nat→Prop} {w0 w:World} {k:LK} {g:RB} {total:Int} {st:Nat} {rep:Nat→Nat} {s:CP Dec} {C told:List UInt8} {wv tv:Value} (h:RdAt Z w0 w k g total st rep s C told wv tv):w.cell? ⟨k.sb,3,none⟩=some (.int .i64 st):=(h.lz.hdr (i:=3) (by omega)).1
set_option maxRecDepth 100000 in
set_option maxHeartbeats 2000000 in
theorem repeated_p (Z:Nat→Prop) (w0 w:World) (k:LK) (g:RB) (total:Int) (st p:Nat) (rep:Nat→Nat) (s:CP Dec) (C told:List UInt8) (wv tv:Value) (h:RdAt Z w0 w k g total st rep s C told wv tv)
 (hst:st<12) (hp:p<16) :
 Calls Tryz.prog 157 #[.pointer (some ⟨g.xb,0,none⟩),.int .i64 p] w fun e w'=>e=.returned (.int .i64 ((repOf outC st p rep s).1:Nat))∧RdAt Z w0 w' k g total (repOf outC st p rep s).2.1 (repOf outC st p rep s).2.2.1 (repOf outC st p rep s).2.2.2 C told wv tv:=by
 obtain ⟨R,hR⟩:∃ R,repOf outC st p rep s=R:=⟨_,rfl⟩
 rw [hR]
 unfold repOf at hR
 obtain ⟨⟨a,sa⟩,ha⟩:∃ x,bitAt outC (212+st) 0 s=x:=⟨_,rfl⟩
 rw [ha] at hR
 dsimp only at hR
 have HR:=hid hR
 have HA:=hid ha
 have HH:=hid h
 obtain ⟨d0,d1,d2,-,-,-⟩:=h.cells
 have d3:=h.st3
 have HD:=hid h.drew
 have P0:=hid (plm k (i:=212+st) (by omega) (by omega))
 have hsti:(st:Int)<12:=by omega
 have hpi:(p:Int)<16:=by omega
 clear h hR ha
 go_enter Tryz.func157,Tryz.ntmps157
 go_upto_region 2 with fail
 go_cut [27] from 7 (fun v wx=>∃ β:Bool,v=.bool β∧(β=true↔a=0)∧RdAt Z w0 wx k g total st rep sa C told wv tv)
 case first =>
  go_region_with (first
   | (go_at_call 155;refine (lz_bit (obit_any g.db g.rb) HD.out.lz (212+st) k.sb (212+st) 0 _ trivial P0.out.1 P0.out.2).mono ?_;rintro e w2 ⟨rfl,h2,f2⟩;rw [HA.out] at h2 ⊢))
  all_goals
   have H2:=hid (HD.out.lzStep h2 f2)
   clear h2 f2
   go_wp2
   go_meet
   case rel=>exact ⟨_,rfl,by simp,H2.out⟩
 case rest =>
 obtain ⟨β,rfl,hβ,h2⟩:=hcut
 have H2:=hid h2
 clear d0 d1 d2 d3 HD HH
 obtain ⟨d0,d1,d2,-,-,-⟩:=h2.cells
 have d3:=h2.st3
 have HD:=hid h2.drew
 clear h2
 go_upto_if 27 with fail
 go_cut [6] from 7 (fun v wx=>∃ (rep':Nat→Nat) (s':CP Dec),((lenAt outC 1354 2 p s').1,behS st 2,rep',(lenAt outC 1354 2 p s').2)=R∧RdAt Z w0 wx k g total st rep' s' C told wv tv)
 case first =>
  by_cases ha0:a=0
  ·obtain rfl:β=true:=hβ.2 ha0
   have hR:=HR.out
   rw [if_pos ha0] at hR
   obtain ⟨⟨b,sb⟩,hb⟩:∃ x,bitAt outC (248+st*16+p) 0 sa=x:=⟨_,rfl⟩
   rw [hb] at hR
   dsimp only at hR
   have HB:=hid hb
   have HR2:=hid hR
   have P1:=hid (plm k (i:=248+st*16+p) (by omega) (by omega))
   clear hR hb hβ ha0 HR
   go_upto_region 3 with fail
   go_cut [43] from 7 (fun v wx=>∃ β:Bool,v=.bool β∧(β=true↔b=0)∧RdAt Z w0 wx k g total st rep sb C told wv tv)
   case first =>
    go_region_with (first
     | (go_at_call 155;refine (lz_bit (obit_any g.db g.rb) HD.out.lz (248+st*16+p) k.sb (248+st*16+p) 0 _ trivial P1.out.1 P1.out.2).mono ?_;rintro e w2 ⟨rfl,h2,f2⟩;rw [HB.out] at h2 ⊢))
    all_goals
     have H3:=hid (HD.out.lzStep h2 f2)
     clear h2 f2
     go_wp2
     go_meet
     case rel=>exact ⟨_,rfl,by simp,H3.out⟩
   case rest =>
   obtain ⟨β,rfl,hβ,h3⟩:=hcut
   have H3:=hid h3
   clear d0 d1 d2 d3 HD H2 h3
   by_cases hb0:b=0
   ·obtain rfl:β=true:=hβ.2 hb0
    have hR:=HR2.out
    rw [if_pos hb0] at hR
    have HR3:=hid hR
    clear hR hβ hb0 HR2
    go_wp2_with fail
    refine (behind_any (DC.keep g.db g.rb) 169 k st 3 rep sb _ H3.out.lz hst (by omega)).mono ?_;rintro e w7 ⟨rfl,h7,f7⟩
    have H7:=hid (H3.out.lzStep h7 f7)
    clear h7 f7
    go_wp2
    go_ret
    rw [← HR3.out]
    exact ⟨rfl,H7.out⟩
   obtain rfl:β=false:=by cases β;rfl;exact absurd (hβ.1 rfl) hb0
   have hR:=HR2.out
   rw [if_neg hb0] at hR
   have HR3:=hid hR
   clear hR hβ hb0 HR2
   go_wp2
   go_meet
   case rel=>exact ⟨rep,sb,HR3.out,H3.out⟩
  obtain rfl:β=false:=by cases β;rfl;exact absurd (hβ.1 rfl) ha0
  have hR:=HR.out
  rw [if_neg ha0] at hR
  obtain ⟨⟨c,sc⟩,hc⟩:∃ x,bitAt outC (224+st) 0 sa=x:=⟨_,rfl⟩
  rw [hc] at hR
  dsimp only at hR
  have HC:=hid hc
  have HR2:=hid hR
  have P1:=hid (plm k (i:=224+st) (by omega) (by omega))
  clear hR hc hβ ha0 HR
  go_upto_region 7 with fail
  go_cut [60] from 7 (fun v wx=>∃ β:Bool,v=.bool β∧(β=true↔c=1)∧RdAt Z w0 wx k g total st rep sc C told wv tv)
  case first =>
   go_region_with (first
    | (go_at_call 155;refine (lz_bit (obit_any g.db g.rb) HD.out.lz (224+st) k.sb (224+st) 0 _ trivial P1.out.1 P1.out.2).mono ?_;rintro e w2 ⟨rfl,h2,f2⟩;rw [HC.out] at h2 ⊢))
   all_goals
    have H3:=hid (HD.out.lzStep h2 f2)
    clear h2 f2
    go_wp2
    go_meet
    case rel=>exact ⟨_,rfl,by simp;omega,H3.out⟩
  case rest =>
  obtain ⟨β,rfl,hβ,h3⟩:=hcut
  have H3:=hid h3
  clear d0 d1 d2 d3 HD H2
  obtain ⟨d0,d1,d2,-,-,-⟩:=h3.cells
  have d3:=h3.st3
  have HD:=hid h3.drew
  clear h3
  go_upto_if 60 with fail
  go_cut [6] from 7 (fun v wx=>∃ (n:Nat) (s':CP Dec),v=.int .i64 n∧1≤n∧n≤3∧((lenAt outC 1354 2 p s').1,behS st 2,takeS rep n,(lenAt outC 1354 2 p s').2)=R∧RdAt Z w0 wx k g total st rep s' C told wv tv)
  case first =>
   by_cases hc1:c=1
   ·obtain rfl:β=true:=hβ.2 hc1
    have hR:=HR2.out
    rw [if_pos hc1] at hR
    obtain ⟨⟨d,sd⟩,hd⟩:∃ x,bitAt outC (236+st) 0 sc=x:=⟨_,rfl⟩
    rw [hd] at hR
    dsimp only at hR
    have hdl:d≤1:=by have:=bitAt_le outC (236+st) 0 sc;rw [hd] at this;exact this
    have hdw:IntKind.i64.wrap ((2:Int)+(d:Int))=(2:Int)+(d:Int):=Go.IntWalk.i64_in _ (by omega)
    have HDD:=hid hd
    have HR3:=hid hR
    have P2:=hid (plm k (i:=236+st) (by omega) (by omega))
    clear hR hd hβ hc1 HR2
    go_wp2_with fail
    go_region_with (first
     | (go_at_call 155;refine (lz_bit (obit_any g.db g.rb) HD.out.lz (236+st) k.sb (236+st) 0 _ trivial P2.out.1 P2.out.2).mono ?_;rintro e w2 ⟨rfl,h2,f2⟩;rw [HDD.out] at h2 ⊢))
    all_goals
     have H4:=hid (HD.out.lzStep h2 f2)
     clear h2 f2
     go_wp2
     go_meet
     case rel=>exact ⟨2+d,sd,by go_num,by omega,by omega,HR3.out,H4.out⟩
   obtain rfl:β=false:=by cases β;rfl;exact absurd (hβ.1 rfl) hc1
   have hR:=HR2.out
   rw [if_neg hc1] at hR
   have HR3:=hid hR
   clear hR hβ hc1 HR2
   go_wp2
   go_meet
   case rel=>exact ⟨1,sc,rfl,by omega,by omega,HR3.out,H3.out⟩
  case rest =>
  obtain ⟨n,s4,rfl,n1,n3,hR,h4⟩:=hcut
  have H4:=hid h4
  have HR4:=hid hR
  clear d0 d1 d2 d3 HD H3 hR h4
  go_wp2_with fail
  refine (take_any (DC.keep g.db g.rb) 169 k st n rep s4 _ H4.out.lz ⟨n1,n3⟩).mono ?_;rintro e w5 ⟨rfl,h5,f5⟩
  have H5:=hid (H4.out.lzStep h5 f5)
  clear h5 f5
  go_wp2
  go_meet
  case rel=>exact ⟨_,s4,HR4.out,H5.out⟩
 case rest =>
 obtain ⟨rep5,s5,hR,h5⟩:=hcut
 have HR5:=hid hR
 have H5:=hid h5
 clear d0 d1 d2 d3 HD H2 hβ HR hR
 obtain ⟨d0,d1,d2,-,-,-⟩:=h5.cells
 have HD:=hid h5.drew
 obtain ⟨⟨sz,s6⟩,hsz⟩:∃ x,lenAt outC 1354 2 p s5=x:=⟨_,rfl⟩
 have HSZ:=hid hsz
 clear h5 hsz
 go_upto_region 10 with fail
 go_cut [4] from 7 (fun v wx=>v=.int .i64 sz∧RdAt Z w0 wx k g total st rep5 s6 C told wv tv)
 case first =>
  go_region_with (first
   | (go_at_call 110;refine (lens_p g.db g.rb 169 k st rep5 s5 1354 p _ HD.out.lz (.inr rfl) hp).mono ?_;rintro e w2 ⟨rfl,h2,f2⟩;rw [HSZ.out] at h2 ⊢))
  all_goals
   have H6:=hid (HD.out.lzStep h2 f2)
   clear h2 f2
   go_wp2
   go_meet
   case rel=>exact ⟨rfl,H6.out⟩
 case rest =>
 obtain ⟨rfl,h6⟩:=hcut
 have H6:=hid h6
 clear d0 d1 d2 HD H5 h6
 go_wp2_with fail
 refine (behind_any (DC.keep g.db g.rb) 169 k st 2 rep5 s6 _ H6.out.lz hst (by omega)).mono ?_;rintro e w7 ⟨rfl,h7,f7⟩
 have H7:=hid (H6.out.lzStep h7 f7)
 have hR:=HR5.out
 rw [HSZ.out] at hR
 clear h7 f7
 go_wp2
 go_ret
 rw [← hR]
 exact ⟨rfl,H7.out⟩
open Go.RowKit Rng Lz Win
def opOf {σ:Type} (co:Cod σ) (st p:Nat) (rep:Nat→Nat) (s:CP σ):Nat×Nat×(Nat→Nat)×CP σ :=
 let b:=bitAt co (200+st) 0 s
 if b.1=1 then repOf co st p rep b.2
 else
  let l:=lenAt co 840 2 p b.2
  let d:=distAt co 0 l.1 l.2
  (l.1,behS st 1,(fun j=>if j=0 then d.1 else shiftN rep 3 j),d.2)
theorem lenAt_lt {σ:Type} (co:Cod σ) (base n p:Nat) (s:CP σ):2≤(lenAt co base n p s).1∧(lenAt co base n p s).1≤300:=by
 unfold lenAt
 simp only
 split
 ·have:=treeAt_lt co (base+2+p*8) 3 (n-2) (bitAt co base (b2n (decide (10≤n))) s).2 (by omega)
  simp only;omega
 split
 ·have:=treeAt_lt co (base+130+p*8) 3 (n-10) (bitAt co (base+1) (b2n (decide (18≤n))) (bitAt co base (b2n (decide (10≤n))) s).2).2 (by omega)
  simp only;omega
 have:=treeAt_lt co (base+258) 8 (n-18) (bitAt co (base+1) (b2n (decide (18≤n))) (bitAt co base (b2n (decide (10≤n))) s).2).2 (by omega)
 simp only;omega
set_option maxRecDepth 100000 in
set_option maxHeartbeats 2000000 in
theorem step_lit (Z:Nat→Prop) (w0 w:World) (k:LK) (g:RB) (total st:Nat) (room:Int) (rep:Nat→Nat) (s sa:CP Dec) (C told:List UInt8) (wv tv:Value) (h:RdAt Z w0 w k g (total:Int) st rep s C told wv tv)
 (hk:k.Ok) (ht:total<4611686018427387904) (hst:st<12) (hrep:rep 0<4294967296) (hS:g.S≤16777216) (hlen:told.length≤100000000) (p:Nat) (hp:total % 2 ^ k.pb=p) (ha:bitAt outC (8+st*16+p) 0 s=(0,sa)) :
 Calls Tryz.prog 142 #[.pointer (some ⟨g.xb,0,none⟩),.int .i64 room] w fun e w'=>e=.returned (.tuple #[])∧∃ wv' tv',RdAt Z w0 w' k g (total:Int) (behS st 0) rep (litOf outC k st total rep C sa).2 (lastN g.S (C++[UInt8.ofNat (litOf outC k st total rep C sa).1])) (told++[UInt8.ofNat (litOf outC k st total rep C sa).1]) wv' tv':=by
 have hp16:p<16:=by
  have h1:2 ^ k.pb≤2 ^ 4:=Nat.pow_le_pow_right (by omega) hk.b
  have h2:total % 2 ^ k.pb<2 ^ k.pb:=Nat.mod_lt _ (Nat.lt_of_lt_of_le (by omega) (Nat.one_le_two_pow))
  omega
 have HA:=hid ha
 have HH:=hid h
 have HK:=hid hk
 have HPL:=hid (place_any 169 k st total rep s w h.lz hk ht)
 rw [hp] at HPL
 obtain ⟨d0,d1,d2,dt,-,-⟩:=h.cells
 have d3:=h.st3
 have HD:=hid h.drew
 have P0:=hid (plm k (i:=8+st*16+p) (by omega) (by omega))
 have hsti:(st:Int)<12:=by omega
 have hpi:(p:Int)<16:=by omega
 clear h ha hk hp
 go_enter Tryz.func142,Tryz.ntmps142
 go_wp2_with fail
 refine HPL.out.mono ?_;rintro e w1 ⟨rfl,rfl⟩
 go_upto_region 2 with fail
 go_cut [36] from 9 (fun v wx=>v=.bool true∧RdAt Z w0 wx k g (total:Int) st rep sa C told wv tv)
 case first =>
  go_region_with (first
   | (go_at_call 155;refine (lz_bit (obit_any g.db g.rb) HD.out.lz (8+st*16+p) k.sb (8+st*16+p) 0 _ trivial P0.out.1 P0.out.2).mono ?_;rintro e w2 ⟨rfl,h2,f2⟩;rw [HA.out] at h2 ⊢))
  all_goals
   have H2:=hid (HD.out.lzStep h2 f2)
   clear h2 f2
   go_wp2
   go_meet
   case rel=>exact ⟨by simp,H2.out⟩
 case rest =>
 obtain ⟨rfl,h2⟩:=hcut
 have H2:=hid h2
 clear h2 d0 d1 d2 d3 dt HD HH
 go_wp2_with fail
 refine (literal_p Z w0 _ k g total st rep sa C told wv tv H2.out HK.out ht hst hrep hS hlen).mono ?_;rintro e w3 ⟨rfl,h3⟩
 have H3:=hid h3
 clear h3
 go_wp2
 first | go_end0 | (refine bodyPost_ret (results_none rfl _ _ _) rfl ?_)
 exact ⟨rfl,H3.out⟩
end Go.Proofs.YtffehfpbdcokbaaGreat
