import Derived.Deep.RegionWith
import Derived.Shelf.Abstract
import Derived.Test.YtffehfpbdcokbaaGreatBu21
set_option linter.unusedVariables false
set_option linter.unusedSimpArgs false
namespace Go.Proofs.YtffehfpbdcokbaaGreat
open Lib (hid)
open Go.RowKit Rng Win Lz
attribute [local go_sem] Oper.semAt_some
structure PutOk (P:Program) (fput:Nat) (lb:Array Value) (B0 most:Nat) (J:(Nat→Prop)→List UInt8→World→Prop):Prop where
 ent:∀ args w,(callFunc fput args).run P w=.ok (.enter fput args) w
 keep:∀ M T W W',J M T W→Frm (fun q=>¬ M q) W W'→J M T W'
 own:∀ M T W,J M T W→∀ q,M q→B0≤q∧∃ c t f,W.heap[q]?=some (.cells c t f)
 call:∀ M T (b:List UInt8) Ab cb W,J M T W→BRow W W.heap.size Ab b→b.length≤cb→cb≤maxLen→T.length+b.length≤most →
  Calls P fput (#[.slice Ab b.length cb]++lb) W fun e W'=>e=.returned (.bool true)∧∃ M',J M' (T++b) W'∧Frm M W W'∧∀ q,M' q→M q∨(W.heap.size≤q∧q<W'.heap.size)
def catC (pre:List Ck):List UInt8:=(pre.map (·.b)).flatten
theorem catC_snoc (pre:List Ck) (x:Ck):catC (pre++[x])=catC pre++x.b:=by simp [catC]
theorem catC_len (pre:List Ck):(catC pre).length=sumC pre:=by
 unfold catC sumC
 rw [List.length_flatten,List.map_map]
 rfl
theorem catC_out (pre:List Ck):evOut (pre.map ckP)=catC pre:=by
 unfold evOut catC
 rw [List.map_map]
 rfl
structure RunI (w:World) (fb eb pb:Nat) (pv:Value) (M0:Nat→Prop) (J:(Nat→Prop)→List UInt8→World→Prop) (N:Nat→Prop) (pre:List Ck) (W:World):Prop where
 j:∃ M,J M (catC pre) W∧∀ q,M q→¬ N q∧q≠eb∧q≠pb∧(M0 q∨w.heap.size≤q)
 n:∀ q,N q→q<W.heap.size∧q≠eb∧q≠pb∧(q=fb∨w.heap.size≤q)
 e:Pts W eb #[.int .i64 0] 25
 p:Pts W pb #[pv] 37
 f:Frm (fun q=>M0 q∨q=fb) w W
 z:∀ x∈pre,x.e=0
structure RunX (w:World) (fb eb un:Nat) (M0:Nat→Prop) (J:(Nat→Prop)→List UInt8→World→Prop) (pre:List Ck) (W:World):Prop where
 j:∃ M,J M (catC pre) W∧∀ q,M q→q≠eb∧(M0 q∨w.heap.size≤q)
 x:∃ l y,pre=l++[y]∧y.e≠0∧Pts W eb #[.int .i64 (y.e:Int)] 25
 s:∃ A n c used,SrcAt W fb A n c used∧used≤un
 f:Frm (fun q=>M0 q∨q=fb) w W
section
variable {w W W' : World} {fb eb pb un B0 most D : Nat} {pv : Value} {M0 N N' : Nat → Prop} {J : (Nat → Prop) → List UInt8 → World → Prop} {pre : List Ck} {P : Program} {fput : Nat} {lb : Array Value}
theorem PutOk.lt (hp:PutOk P fput lb B0 most J) {M:Nat→Prop} {T:List UInt8} (h:J M T W):∀ q,M q→q<W.heap.size:=by
 intro q hq
 obtain ⟨_,c,t,f,hc⟩:=hp.own M T W h q hq
 exact (Array.getElem?_eq_some_iff.1 hc).1
theorem RunI.ab (hp:PutOk P fput lb B0 most J) (h:RunI w fb eb pb pv M0 J N pre W) (hf:Frm N W W') (hN:∀ q,N' q→N q∨(W.heap.size≤q∧q<W'.heap.size)):RunI w fb eb pb pv M0 J N' pre W':=by
 obtain ⟨M,hj,hM⟩:=h.j
 have hlt:=hp.lt hj
 have he:=h.e.lt
 have hpl:=h.p.lt
 have hw:=h.f.size
 refine ⟨⟨M,hp.keep M _ W W' hj (hf.mono fun q _ hn hm=>(hM q hm).1 hn),fun q hm=>⟨fun hn=>?_,(hM q hm).2⟩⟩,fun q hq=>?_,h.e.frm hf (fun hn=>(h.n _ hn).2.1 rfl),h.p.frm hf (fun hn=>(h.n _ hn).2.2.1 rfl),h.f.transW hf fun q hq hlt=>?_,h.z⟩
 ·rcases hN q hn with h1 | h1
  ·exact (hM q hm).1 h1
  have:=hlt q hm;omega
 ·rcases hN q hq with h1 | h1
  ·obtain ⟨k1,k2,k3,k4⟩:=h.n q h1
   exact ⟨Nat.lt_of_lt_of_le k1 hf.size,k2,k3,k4⟩
  exact ⟨h1.2,by omega,by omega,.inr (by omega)⟩
 obtain ⟨k1,k2,k3,k4⟩:=h.n q hq
 rcases k4 with k4 | k4
 ·exact .inr k4
 omega
theorem RunI.put (hp:PutOk P fput lb B0 most J) (h:RunI w fb eb pb pv M0 J N pre W) {l:Nat} {o o':Obj} (hl:w.heap.size≤l) (ho:W.heap[l]?=some o) (hc:o.isCells=false):RunI w fb eb pb pv M0 J N pre (W.putObj l o'):=by
 obtain ⟨M,hj,hM⟩:=h.j
 have hno:∀ q c t f,W.heap[q]?=some (.cells c t f)→q≠l:=by
  rintro q c t f hq rfl
  rw [ho] at hq
  injection hq with hq
  rw [hq] at hc
  cases hc
 refine ⟨⟨M,hp.keep M _ W _ hj ((Frm.refl _ W).putObj (S:=fun q=>¬ M q) (fun hm=>?_) o'),hM⟩,fun q hq=>by obtain ⟨k1,k2⟩:=h.n q hq;exact ⟨by simpa using k1,k2⟩,
  (World.putObj_heap_other (hno _ _ _ _ h.e)).trans h.e,(World.putObj_heap_other (hno _ _ _ _ h.p)).trans h.p,h.f.transW ((Frm.refl _ W).putObj (S:=fun q=>q=l) rfl o') fun q hq hlt=>by omega,h.z⟩
 obtain ⟨_,c,t,f,hcc⟩:=hp.own M _ W hj l hm
 exact hno _ _ _ _ hcc rfl
theorem RunI.alloc (hp:PutOk P fput lb B0 most J) (h:RunI w fb eb pb pv M0 J N pre W) (o:Obj):RunI w fb eb pb pv M0 J N pre (W.alloc o):=by
 refine h.ab hp ((Frm.refl N W).alloc o) fun q hq=>.inl hq
theorem RunX.put (hp:PutOk P fput lb B0 most J) (h:RunX w fb eb un M0 J pre W) {l:Nat} {o o':Obj} (hl:w.heap.size≤l) (ho:W.heap[l]?=some o) (hc:o.isCells=false):RunX w fb eb un M0 J pre (W.putObj l o'):=by
 obtain ⟨M,hj,hM⟩:=h.j
 obtain ⟨l2,y,e1,e2,e3⟩:=h.x
 obtain ⟨A,n,c,used,hs,hu⟩:=h.s
 have hno:∀ q c t f,W.heap[q]?=some (.cells c t f)→q≠l:=by
  rintro q c t f hq rfl
  rw [ho] at hq
  injection hq with hq
  rw [hq] at hc
  cases hc
 refine ⟨⟨M,hp.keep M _ W _ hj ((Frm.refl _ W).putObj (S:=fun q=>¬ M q) (fun hm=>?_) o'),hM⟩,⟨l2,y,e1,e2,(World.putObj_heap_other (hno _ _ _ _ e3)).trans e3⟩,⟨A,n,c,used,(World.putObj_heap_other (hno _ _ _ _ hs)).trans hs,hu⟩,
  h.f.transW ((Frm.refl _ W).putObj (S:=fun q=>q=l) rfl o') fun q hq hlt=>by omega⟩
 obtain ⟨_,c,t,f,hcc⟩:=hp.own M _ W hj l hm
 exact hno _ _ _ _ hcc rfl
theorem RunI.told (hp:PutOk P fput lb B0 most J) (h:RunI w fb eb pb pv M0 J N pre W) {x:Ck} {M M':Nat→Prop} (hM:∀ q,M q→¬ N q∧q≠eb∧q≠pb∧(M0 q∨w.heap.size≤q)) (hx:x.e=0) (hj:J M' (catC pre++x.b) W') (hf:Frm M W W') (hM':∀ q,M' q→M q∨(W.heap.size≤q∧q<W'.heap.size)) :
 RunI w fb eb pb pv M0 J N (pre++[x]) W':=by
 have he:=h.e.lt
 have hpl:=h.p.lt
 have hw:=h.f.size
 refine ⟨⟨M',by rw [catC_snoc];exact hj,fun q hq=>?_⟩,fun q hq=>?_,h.e.frm hf (fun hn=>(hM _ hn).2.1 rfl),h.p.frm hf (fun hn=>(hM _ hn).2.2.1 rfl),h.f.transW hf fun q hq hlt=>?_,?_⟩
 ·rcases hM' q hq with h1 | h1
  ·exact hM q h1
  exact ⟨fun hn=>by have:=(h.n q hn).1;omega,by omega,by omega,.inr (by omega)⟩
 ·obtain ⟨k1,k2⟩:=h.n q hq
  exact ⟨Nat.lt_of_lt_of_le k1 hf.size,k2⟩
 ·rcases (hM q hq).2.2.2 with k | k
  ·exact .inl k
  omega
 intro y hy
 rcases List.mem_append.1 hy with hy | hy
 ·exact h.z y hy
 rw [List.mem_singleton.1 hy];exact hx
end
theorem AbN_runI {w:World} {fb eb pb B0 most:Nat} {pv:Value} {M0:Nat→Prop} {J:(Nat→Prop)→List UInt8→World→Prop} {P:Program} {fput:Nat} {lb:Array Value} (hp:PutOk P fput lb B0 most J):AbN (RunI w fb eb pb pv M0 J) :=
 fun _ _ _ _ _ h hf hN=>h.ab hp hf hN
theorem cells_ne {W:World} {l q:Nat} {o:Obj} {c:Array Value} {t:TypeId} {f:Nat×Nat} (hq:W.heap[q]?=some (.cells c t f)) (ho:W.heap[l]?=some o) (hc:o.isCells=false):q≠l:=by
 rintro rfl
 rw [ho] at hq
 injection hq with hq
 rw [hq] at hc
 cases hc
theorem BRow.putO {W:World} {B l:Nat} {A:Option Addr} {bs:List UInt8} (h:BRow W B A bs) {o:Obj} (ho:W.heap[l]?=some o) (hc:o.isCells=false) (o':Obj):BRow (W.putObj l o') B A bs:=by
 intro h0
 obtain ⟨b,off,rfl,hb,hcell⟩:=h h0
 refine ⟨b,off,rfl,hb,fun k hk=>?_⟩
 have hne:b≠l:=by
  rintro rfl
  have h1:=hcell k hk
  unfold World.cell? at h1
  simp only [ho] at h1
  cases o <;> first | (cases hc;done) | (cases h1;done) | simp at h1
 rw [World.cell?_of_block (World.putObj_heap_other hne)]
 exact hcell k hk
theorem SC_put {E:List (List UInt8×Nat)×Option (List UInt8)} {fb un B0 D:Nat} (hB:B0≤D):AbL D (SC E fb un B0):=by
 rintro N pre W l o o' hl ho hc ⟨h1,h2⟩
 refine ⟨h1,fun rest hr=>?_⟩
 obtain ⟨A,n,c,used,hs,h3,h4,h5⟩:=h2 rest hr
 exact ⟨A,n,c,used,(World.putObj_heap_other (cells_ne hs ho hc)).trans hs,h3,h4.putO ho hc o',h5⟩
theorem PxC_put {fb un most l:Nat} {pre:List Ck} {x:Ck} {W:World} {o o':Obj} (ho:W.heap[l]?=some o) (hc:o.isCells=false) (h:PxC fb un most pre x W):PxC fb un most pre x (W.putObj l o'):=by
 obtain ⟨⟨A,n,c,used,hs,hu⟩,Ab,cb,h1,h2,h3⟩:=h
 exact ⟨⟨A,n,c,used,(World.putObj_heap_other (cells_ne hs ho hc)).trans hs,hu⟩,Ab,cb,h1,by simpa using h2.putO ho hc o',h3⟩
def RunEnd (fb un B0:Nat) (M0:Nat→Prop) (J:(Nat→Prop)→List UInt8→World→Prop) (E:List (List UInt8×Nat)×Option (List UInt8)) (w:World) (e:Ending) (w':World):Prop :=
 e=.returned (.int .i64 ((evErr E.1:Nat):Int))∧(∃ M,J M (evOut E.1) w'∧∀ q,M q→M0 q∨w.heap.size≤q)∧Frm (fun q=>M0 q∨q=fb) w w' ∧
  (match E.2 with
  | none=>∃ A n c used,SrcAt w' fb A n c used∧used≤un
  | some rest=>∃ A n c used,SrcAt w' fb A n c used∧used+n=un∧BRow w' B0 A rest∧n=rest.length∧n≤c∧c≤maxLen)
set_option maxRecDepth 8000 in
set_option maxHeartbeats 4000000 in
theorem run_p (fb B0 S most fput:Nat) (lb:Array Value) (J:(Nat→Prop)→List UInt8→World→Prop) (M0:Nat→Prop) (A:Option Addr) (nn c used un:Nat) (bs:List UInt8) (w:World)
 (hp:PutOk Tryz.prog fput lb B0 most J) (hj:J M0 [] w) (hfb:¬ M0 fb) (hfb0:B0≤fb) (hs:SrcAt w fb A nn c used) (hn:nn=bs.length) (hr:BRow w B0 A bs) (hB0:B0≤w.heap.size) (hc:nn≤c) (hcm:c≤maxLen) (hu:used+nn=un) (hub:un≤4611686018427387904)
 (hS1:1≤S) (hS:S≤16777216) (hm:most≤16777216) :
 Calls Tryz.prog 16 #[.pointer (some ⟨fb,0,none⟩),.int .i64 S,.int .i64 most,.func (.func fput) #[] lb] w (RunEnd fb un B0 M0 J (evGo S most (bs.length+1) newDS 0 bs) w):=by
 have HP:=hid hp
 have HJ:=hid hj
 have HS:Hid (SrcAt w fb A nn c used∧nn=bs.length∧BRow w B0 A bs∧B0≤w.heap.size∧nn≤c∧c≤maxLen∧used+nn=un∧B0≤fb∧¬ M0 fb):=hid ⟨hs,hn,hr,hB0,hc,hcm,hu,hfb0,hfb⟩
 have hfl:=Pts.lt hs
 have HFL:=hid hfl
 obtain ⟨E,hE⟩:∃ E,evGo S most (bs.length+1) newDS 0 bs=E:=⟨_,rfl⟩
 rw [hE]
 have HE:=hid hE
 clear hp hj hfb hfb0 hs hn hr hB0 hc hcm hu hE hfl
 have hst0:chE 16777216 0 S=0:=(ch_ok (B:=16777216) (n:=0) 0 (k:=(S:Int)) (by omega) (by omega)).1
 have hbud:bud 16777216=16777216:=by decide
 refine (callsIn_wide (n:=6)).1 ?_
 refine callsIn_of_wp_marks Tryz.func16 rfl trivial ?_ rfl
 simp only [Tryz.ntmps16,List.size_toArray,List.length_cons,List.length_nil,Nat.reduceAdd,Nat.reduceSub,Array.replicate_succ,Array.replicate_zero,List.push_toArray,List.append_toArray,List.nil_append,List.cons_append]
 refine wpIn_wide.2 ?_
 go_wp2
 go_step3
 go_wp2_with fail
 obtain ⟨W0,hW0⟩:∃ W,(w.alloc (.cells #[.func (.func fput) #[] lb] 37)).alloc (.cells #[.int .i64 0] 25)=W:=⟨_,rfl⟩
 have hs0:W0.heap.size=w.heap.size+1+1:=by rw [← hW0];simp only [World.size_alloc]
 have HP0:Hid (Pts W0 w.heap.size #[.func (.func fput) #[] lb] 37∧Pts W0 (w.heap.size+1) #[.int .i64 0] 25∧Below w.heap.size w W0):=by
  refine hid ⟨?_,?_,?_⟩
  ·rw [← hW0];exact (Pts.new w _ _).alloc _
  ·rw [← hW0];have:=Pts.new (w.alloc (.cells #[.func (.func fput) #[] lb] 37)) #[.int .i64 0] 25;rwa [World.size_alloc] at this
  rw [← hW0];exact ((Below.refl _ w).alloc (Nat.le_refl _) _).alloc (by simp only [World.size_alloc];omega) _
 rw [hW0]
 clear hW0
 refine (new_led 16777216 _).mono ?_;rintro e w1 ⟨rfl,hl1,hb1⟩
 rw [hbud] at hl1
 rw [hs0] at hl1 hb1
 have HL1:=hid hl1
 have HB1:=hid hb1
 have HZ1:Hid (w.heap.size+1+1+1≤w1.heap.size):=hid (Pts.lt hl1)
 rw [hs0]
 clear hl1 hb1 hbud
 go_wp2_with fail
 refine (new_win _ S 16777216 0 0 w1 HL1.out (by omega) (by omega) (by omega) hS1 hS hst0).mono ?_;rintro e w2 ⟨wb,rfl,hw2,hwb2,hl2,hf2⟩
 have HW2:=hid hw2
 have HF2:=hid hf2
 have HWB:=hid hwb2
 have p2:Pts w2 w.heap.size #[.func (.func fput) #[] lb] 37:=(HP0.out.1.below HB1.out (by omega)).frm hf2 (by omega)
 have e2:Pts w2 (w.heap.size+1) #[.int .i64 0] 25:=(HP0.out.2.1.below HB1.out (by omega)).frm hf2 (by omega)
 have B2:Hid (Below w.heap.size w w2):=hid ((HP0.out.2.2.trans (HB1.out.mono (by omega))).trans (hf2.below (by have:=HZ1.out;omega) (by intro q hq;omega)))
 have ce:w2.cell? ⟨w.heap.size+1,0,none⟩=some (.int .i64 0):=by rw [e2.cell];rfl
 have ze:=e2.frozen 0
 have e3:=e2.set 0 (.int .i64 0)
 have p3:Pts (w2.setCell ⟨w.heap.size+1,0,none⟩ (.int .i64 0)) w.heap.size #[.func (.func fput) #[] lb] 37:=p2.other (p:=⟨w.heap.size+1,0,none⟩) (by simp) _
 have B3:Hid (Below w.heap.size w (w2.setCell ⟨w.heap.size+1,0,none⟩ (.int .i64 0))):=hid (B2.out.trans (((Frm.refl (fun q=>q=w.heap.size+1) w2).setCell (p:=⟨w.heap.size+1,0,none⟩) rfl _).below B2.out.size (by intro q hq;omega)))
 have W3:Hid (WinC (w2.setCell ⟨w.heap.size+1,0,none⟩ (.int .i64 0)) w1.heap.size wb (w.heap.size+1+1) S [] (.slice none 0 0)):=hid ((show WinC w2 w1.heap.size wb (w.heap.size+1+1) S [] (.slice none 0 0) from ⟨[],0,hw2,rfl⟩).frm ((Frm.refl (fun q=>q=w.heap.size+1) w2).setCell (p:=⟨w.heap.size+1,0,none⟩) rfl _) (by have:=HZ1.out;omega) (by intro q hq;cases hq))
 have E3:=hid e3
 have P3:=hid p3
 have hz3:w1.heap.size≤(w2.setCell ⟨w.heap.size+1,0,none⟩ (.int .i64 0)).heap.size:=by simpa [World.setCell] using hf2.size
 have Z3:=hid hz3
 clear hw2 hf2 hl2 hst0 hwb2 p2 e2 e3 p3 B2 hz3
 go_wp2_with fail
 obtain ⟨w3,hw3⟩:∃ W,w2.setCell ⟨w.heap.size+1,0,none⟩ (.int .i64 0)=W:=⟨_,rfl⟩
 rw [hw3] at B3 W3 E3 P3 Z3
 rw [hw3]
 clear hw3 ce ze HW2 HF2 HL1 HP0
 refine (lnew_st w3).mono ?_;rintro e w4 ⟨sb,lb2,rfl,h1,h2,hst,hb4⟩
 have B4:=hid (B3.out.trans (hb4.mono B3.out.size))
 have W4:=hid (W3.out.later hb4)
 have E4:Hid (Pts w4 (w.heap.size+1) #[.int .i64 0] 25):=hid (E3.out.below hb4 E3.out.lt)
 have P4:=hid (P3.out.below hb4 P3.out.lt)
 have Z4:=hid (Nat.le_trans Z3.out hb4.size)
 have S4:=hid hst
 have H4:=hid (And.intro h1 h2)
 have ZW:=hid (Nat.le_trans B3.out.size h1)
 have Z3w:=hid Z3.out
 clear hst hb4 h1 h2 W3 E3 P3 Z3
 go_wp2_with fail
 go_step3
 go_wp2
 obtain ⟨W5,hW5⟩:∃ W,w4.alloc (.cells #[.pointer (some ⟨wb,0,none⟩),.pointer (some ⟨sb,0,none⟩),.pointer (some ⟨fb,0,none⟩),.int .i64 0,.int .i64 most,.bool false,.bool false] 71)=W:=⟨_,rfl⟩
 have hbA:Below w4.heap.size w4 W5:=by rw [← hW5];exact below_alloc _ _
 have hs5:W5.heap.size=w4.heap.size+1:=by rw [← hW5];simp only [World.size_alloc]
 have hR5:RdS W5 w4.heap.size fb wb (w.heap.size+1+1) w1.heap.size S (newK sb lb2) newDS (.slice none 0 0) A nn c used (most:Int):=by
  refine ⟨?_,S4.out.later hbA,⟨rfl,rfl,rfl⟩,newK_ok _ _,⟨(by decide:(0:Nat)<12),fun _=>(by decide:(0:Nat)<4294967296)⟩,W4.out.later hbA,by have:=Z4.out;omega,Pts.below (Pts.below HS.out.1 B4.out HFL.out) hbA (Nat.lt_of_lt_of_le HFL.out B4.out.size)⟩
  rw [← hW5]
  exact Pts.new w4 _ _
 have hB5:Below w.heap.size w W5:=B4.out.trans (hbA.mono B4.out.size)
 have hE5:Pts W5 (w.heap.size+1) #[.int .i64 0] 25:=E4.out.below hbA E4.out.lt
 have hP5:Pts W5 w.heap.size #[.func (.func fput) #[] lb] 37:=P4.out.below hbA P4.out.lt
 have hE4l:=E4.out.lt
 have hwbl:wb<w4.heap.size:=W4.out.pts.choose_spec.lt
 have hsbl:=S4.out.m.lt
 have hlbl:=S4.out.l.lt
 have hN5:∀ q,RdB w4.heap.size fb wb (newK sb lb2) (.slice none 0 0) q→q<W5.heap.size∧q≠w.heap.size+1∧q≠w.heap.size∧(q=fb∨w.heap.size≤q)∧B0≤q:=by
  have h1:=HZ1.out
  have h2:=HWB.out
  have h3:=Z3w.out
  have h4:=H4.out
  have h5:=HFL.out
  have h6:=HS.out.2.2.2.1
  have h7:=HS.out.2.2.2.2.2.2.2.1
  have hk1:(newK sb lb2).sb=sb:=rfl
  have hk2:(newK sb lb2).lb=lb2:=rfl
  rw [hk1] at hsbl
  rw [hk2] at hlbl
  rintro q (e | e | e | e | e | e)
  ·omega
  ·omega
  ·omega
  ·rw [hk1] at e;omega
  ·rw [hk2] at e;omega
  cases e
 have hI5:RunI w fb (w.heap.size+1) w.heap.size (.func (.func fput) #[] lb) M0 J (RdB w4.heap.size fb wb (newK sb lb2) (.slice none 0 0)) [] W5:=by
  refine ⟨⟨M0,HP.out.keep M0 _ w W5 HJ.out (Frm.of_below hB5),fun q hq=>?_⟩,fun q hq=>⟨(hN5 q hq).1,(hN5 q hq).2.1,(hN5 q hq).2.2.1,(hN5 q hq).2.2.2.1⟩,hE5,hP5,Frm.of_below hB5,fun _ h=>by cases h⟩
  have hlt:=HP.out.lt HJ.out q hq
  refine ⟨fun hn=>?_,by omega,by omega,.inl hq⟩
  rcases (hN5 q hn).2.2.2.1 with e | e
  ·exact HS.out.2.2.2.2.2.2.2.2 (e▸hq)
  omega
 have hB0:B0≤W5.heap.size:=Nat.le_trans HS.out.2.2.2.1 hB5.size
 have hseq:=chunks_seq 5 w4.heap.size fb wb (w.heap.size+1+1) w1.heap.size S B0 (newK sb lb2) newDS (.slice none 0 0) A nn c used most un bs W5 (by omega) hR5 (fun q hq=>(hN5 q hq).2.2.2.2) hB0 hS HS.out.2.1 (HS.out.2.2.1.below ((hB5.mono HS.out.2.2.2.1))) HS.out.2.2.2.2.1 HS.out.2.2.2.2.2.1 HS.out.2.2.2.2.2.2.1 hub (by show 0+most≤_;omega)
 rw [HE.out] at hseq
 have hW5w:w.heap.size≤W5.heap.size:=hB5.size
 rw [hW5]
 refine (wpIn_wide (n:=6)).1 ?_
 refine wpIn_rangeFunc_ownW (n:=6) rfl (by omega) (gf:=37) (bd:=#[.pointer (some ⟨w4.heap.size,0,none⟩)]) rfl trivial (enters_of Tryz.func37 (by kernel_rfl) rfl) hseq
  (fun q hq=>(hN5 q hq).1) hB0 (fun _=>rfl) (RunI w fb (w.heap.size+1) w.heap.size (.func (.func fput) #[] lb) M0 J) (fun cd N pre W=>cd=.exit 0∧RunX w fb (w.heap.size+1) un M0 J pre W) (AbN_runI HP.out) (SC_put hB0)
  (fun N pre W l o o' hl ho hc h=>h.put HP.out (Nat.le_trans hW5w hl) ho hc) (fun cd N pre W l o o' hl ho hc h=>⟨h.1,h.2.put HP.out (Nat.le_trans hW5w hl) ho hc⟩) ((hI5.alloc HP.out _).alloc HP.out _)
  (fun x=>{ tmps:=#[.pointer (some ⟨fb,0,none⟩),.int .i64 S,.int .i64 most,.func (.func fput) #[] lb,undef,undef,undef,.pointer (some ⟨w.heap.size,0,none⟩),.pointer (some ⟨w.heap.size+1,0,none⟩),.pointer (some ⟨wb,0,none⟩),.pointer (some ⟨w4.heap.size,0,none⟩),x.val,.int .i64 (x.e:Int),
    .tuple #[.pointer (some ⟨wb,0,none⟩),.int .i64 0],.int .i64 S,.pointer (some ⟨w.heap.size+1+1,0,none⟩),.tuple #[.pointer (some ⟨wb,0,none⟩),.int .i64 0],.pointer (some ⟨wb,0,none⟩),.int .i64 0,.int .i64 0,.bool false,.pointer (some ⟨wb,0,none⟩),.pointer (some ⟨sb,0,none⟩),.pointer (some ⟨fb,0,none⟩),.int .i64 most,
    .agg #[.pointer (some ⟨wb,0,none⟩),.pointer (some ⟨sb,0,none⟩),.pointer (some ⟨fb,0,none⟩),.int .i64 0,.int .i64 most,.bool false,.bool false],.pointer (some ⟨w4.heap.size,0,none⟩),.pointer (some ⟨w4.heap.size,0,none⟩),.func (.func 37) #[.pointer (some ⟨w4.heap.size,0,none⟩)] #[],x.val,.int .i64 (x.e:Int),
    undef,undef,undef,undef,undef,undef,undef,undef,undef,undef],defers:=[] }) (fun pre x W l o o' _ ho hc h=>PxC_put ho hc h) ?assign ?body ?done ?stop
 case assign =>
  intro l x W K hK
  unfold ckEnc
  gi_wp2
  exact hK
 case body =>
  rintro l N pre ⟨xv,xb,xe⟩ W hI ⟨hsrc,Ab,cb,hxv,hxr,hxc,hxm,hxt,hxn⟩ hn1 hn2 hd1 ⟨rl,hd2⟩
  simp only at hxv hxr hxc hxm hxt hxn
  have HI:=hid hI
  have pc:W.cell? ⟨w.heap.size,0,none⟩=some (.func (.func fput) #[] lb):=by rw [hI.p.cell];rfl
  have ec:W.cell? ⟨w.heap.size+1,0,none⟩=some (.int .i64 0):=by rw [hI.e.cell];rfl
  have ez:=hI.e.frozen 0
  have HD:=hid (And.intro hd1 hd2)
  have HSR:=hid hsrc
  have HXR:=hid hxr
  have HXC:Hid (xb.length≤cb∧cb≤maxLen∧sumC pre+xb.length≤most):=hid ⟨hxc,hxm,hxt⟩
  clear hI hseq hI5 hN5 hR5 hE5 hP5 hbA hW5 hd1 hd2 hsrc hxr hxc hxm hxt
  by_cases hx:xe=0
  ·subst hx
   subst hxv
   clear hxn
   gi_wp2
   refine ⟨trivial,?_⟩
   rw [HP.out.ent,Oper.uponIn_enter]
   refine ⟨fun _=>by decide,?_⟩
   obtain ⟨M,hj,hM⟩:=HI.out.j
   refine (CallsIn.inRound l (callsIn_wide.2 (HP.out.call M _ xb Ab cb W hj HXR.out HXC.out.1 HXC.out.2.1 (by rw [catC_len];exact HXC.out.2.2)))).mono ?_
   rintro e W' ⟨rfl,M',hj',hf',hM'⟩
   have hown:=HP.out.own M _ W hj
   have hK1:W'.heap[W5.heap.size]?=W.heap[W5.heap.size]?:=hf'.block _ (Array.getElem?_eq_some_iff.1 HD.out.1).1 (fun hm=>by
    obtain ⟨_,c,t,f,hcc⟩:=hown _ hm
    rw [HD.out.1] at hcc
    cases hcc)
   have hK2:W'.heap[W5.heap.size+1]?=W.heap[W5.heap.size+1]?:=hf'.block _ (Array.getElem?_eq_some_iff.1 HD.out.2).1 (fun hm=>by
    obtain ⟨_,c,t,f,hcc⟩:=hown _ hm
    rw [HD.out.2] at hcc
    cases hcc)
   have hT:=HI.out.told HP.out (x:=⟨.slice Ab xb.length cb,xb,0⟩) hM rfl hj' hf' hM'
   have hFB:Frm (fun q=>¬ N q∧B0≤q) W W':=hf'.mono fun q _ hq=>⟨(hM q hq).1,(hown q hq).1⟩
   have HT:=hid (And.intro (And.intro hK1 hK2) (And.intro hFB hT))
   clear hK1 hK2 hT hFB hown hj hj' hf' hM' hM
   gi_wp2
   exact HT.out
  have q0:((xe:Int) != 0)=true:=bne_iff_ne.2 (by omega)
  have hxv2:=hxn hx
  have hxb:xb=[]:=by
   rw [hxv] at hxv2
   injection hxv2 with _ h2 _
   exact List.eq_nil_of_length_eq_zero h2
  clear hxn hxv hxv2
  gi_wp2
  obtain ⟨M,hj,hM⟩:=HI.out.j
  have hne:∀ q,q=W5.heap.size∨q=W5.heap.size+1→q≠w.heap.size+1:=by
   rintro q (e | e) e2
   ·have h1:=HI.out.e
    rw [← e2,e] at h1
    exact absurd (HD.out.1.symm.trans h1) (by simp)
   have h1:=HI.out.e
   rw [← e2,e] at h1
   exact absurd (HD.out.2.symm.trans h1) (by simp)
  have hset:∀ q,q≠w.heap.size+1→(W.setCell ⟨w.heap.size+1,0,none⟩ (.int .i64 (xe:Int))).heap[q]?=W.heap[q]?:=fun q hq=>Below.heap_setCell _ _ _ _ hq
  refine ⟨⟨hset _ (hne _ (.inl rfl)),hset _ (hne _ (.inr rfl))⟩,rfl,⟨M,?_,fun q hq=>⟨(hM q hq).2.1,(hM q hq).2.2.2⟩⟩,⟨pre,_,rfl,hx,HI.out.e.set 0 _⟩,?_,?_⟩
  ·rw [catC_snoc]
   simp only
   rw [hxb,List.append_nil]
   exact HP.out.keep M _ W _ hj ((Frm.refl _ W).setCell (p:=⟨w.heap.size+1,0,none⟩) (fun hm=>(hM _ hm).2.1 rfl) _)
  ·obtain ⟨A1,n1,c1,u1,hs1,hu1⟩:=HSR.out
   exact ⟨A1,n1,c1,u1,Pts.other hs1 (p:=⟨w.heap.size+1,0,none⟩) (hs1.ne_of HI.out.e (by decide)) _,hu1⟩
  exact HI.out.f.transW ((Frm.refl (fun q=>q=w.heap.size+1) W).setCell (p:=⟨w.heap.size+1,0,none⟩) rfl _) (fun q hq hlt=>by omega)
 case done =>
  rintro N xs W hSx hIx hd
  have ec:W.cell? ⟨w.heap.size+1,0,none⟩=some (.int .i64 0):=by rw [hIx.e.cell];rfl
  have ez:=hIx.e.frozen 0
  have HSX:=hid hSx
  have HI:=hid hIx
  have HD:=hid hd
  clear hSx hIx hd hseq hI5 hN5 hR5 hE5 hP5 hbA hW5
  go_wp2
  have hse:∀ q,q≠w.heap.size+1→(W.setCell ⟨w.heap.size+1,0,none⟩ (.int .i64 0)).heap[q]?=W.heap[q]?:=fun q hq=>Below.heap_setCell _ _ _ _ hq
  have hne:W5.heap.size≠w.heap.size+1:=by omega
  have hd2:(W.setCell ⟨w.heap.size+1,0,none⟩ (.int .i64 0)).heap[W5.heap.size]?=some (.deferred (some [])):=(hse _ hne).trans HD.out
  refine ⟨by simp,.inl ⟨_,_,rfl,run_takeDeferred hd2,?_⟩⟩
  have he2:Pts ((W.setCell ⟨w.heap.size+1,0,none⟩ (.int .i64 0)).putObj W5.heap.size (.deferred none)) (w.heap.size+1) #[.int .i64 0] 25:=(World.putObj_heap_other hne.symm).trans (HI.out.e.set 0 (.int .i64 0))
  have hce:((W.setCell ⟨w.heap.size+1,0,none⟩ (.int .i64 0)).putObj W5.heap.size (.deferred none)).cell? ⟨w.heap.size+1,0,none⟩=some (.int .i64 0):=by rw [he2.cell];rfl
  refine ⟨.int .i64 0,?_,?_⟩
  ·simp [results,Tryz.f16,go_sem,hce]
  have hfin:Frm (fun q=>q=w.heap.size+1∨q=W5.heap.size) W ((W.setCell ⟨w.heap.size+1,0,none⟩ (.int .i64 0)).putObj W5.heap.size (.deferred none)):=((Frm.refl _ W).setCell (p:=⟨w.heap.size+1,0,none⟩) (.inl rfl) _).putObj (.inr rfl) _
  obtain ⟨hx1,hx2⟩:=HSX.out
  have hz:=HI.out.z
  have hall:∀ q∈E.1,q.2=0:=by
   intro q hq
   rw [← hx1] at hq
   obtain ⟨y,hy,rfl⟩:=List.mem_map.1 hq
   exact hz y hy
  obtain ⟨M,hj,hM⟩:=HI.out.j
  have hMD:¬ M W5.heap.size:=fun hm=>by
   obtain ⟨_,c,t,f,hcc⟩:=HP.out.own M _ W hj _ hm
   rw [HD.out] at hcc
   cases hcc
  obtain ⟨r,hr⟩:=ev_none (S:=S) (most:=most) (f:=bs.length+1) (told:=0) (x:=newDS) (src:=bs) (by rw [HE.out];exact hall)
  rw [HE.out] at hr
  refine ⟨by rw [evErr_zero hall];rfl,⟨M,?_,fun q hq=>(hM q hq).2.2.2⟩,HI.out.f.transW hfin (fun q hq hlt=>by omega),?_⟩
  ·rw [← hx1,catC_out]
   refine HP.out.keep M _ W _ hj (hfin.mono ?_)
   rintro q _ (e | e) hm
   ·exact (hM q hm).2.1 e
   exact hMD (e▸hm)
  rw [hr]
  obtain ⟨A1,n1,c1,u1,hs1,h2,h3,h4,h5,h6⟩:=hx2 r hr
  have hB0w:=HS.out.2.2.2.1
  refine ⟨A1,n1,c1,u1,Pts.frm hs1 hfin ?_,h2,row_kept h3 hfin (Nat.le_trans hB0w HI.out.f.size) (fun q hq=>by omega),h4,h5,h6⟩
  rintro (e | e)
  ·exact hs1.ne_of HI.out.e (by decide) e
  exact cells_ne hs1 HD.out rfl e
 case stop =>
 rintro cd N pre W hSp ⟨rfl,hIx⟩ hd
 obtain ⟨M,hj,hM⟩:=hIx.j
 obtain ⟨l,y,hpre,hy,hye⟩:=hIx.x
 have ec:W.cell? ⟨w.heap.size+1,0,none⟩=some (.int .i64 (y.e:Int)):=by rw [hye.cell];rfl
 have ez:=hye.frozen 0
 have HI:=hid hIx
 have HD:=hid hd
 have HYE:=hid hye
 have HJM:=hid (And.intro hj hM)
 have HY:=hid hy
 have HSP:=hid hSp
 have HPR:=hid hpre
 clear hSp hIx hd hye hj hM hy hpre hseq hI5 hN5 hR5 hE5 hP5 hbA hW5
 refine wpIn_wide.2 ?_
 go_wp2
 have hse:∀ q,q≠w.heap.size+1→(W.setCell ⟨w.heap.size+1,0,none⟩ (.int .i64 (y.e:Int))).heap[q]?=W.heap[q]?:=fun q hq=>Below.heap_setCell _ _ _ _ hq
 have hne:W5.heap.size≠w.heap.size+1:=by omega
 have hd2:(W.setCell ⟨w.heap.size+1,0,none⟩ (.int .i64 (y.e:Int))).heap[W5.heap.size]?=some (.deferred (some [])):=(hse _ hne).trans HD.out
 refine ⟨by simp,.inl ⟨_,_,rfl,run_takeDeferred hd2,?_⟩⟩
 have he2:Pts ((W.setCell ⟨w.heap.size+1,0,none⟩ (.int .i64 (y.e:Int))).putObj W5.heap.size (.deferred none)) (w.heap.size+1) #[.int .i64 (y.e:Int)] 25:=(World.putObj_heap_other hne.symm).trans (HYE.out.set 0 (.int .i64 (y.e:Int)))
 have hce:((W.setCell ⟨w.heap.size+1,0,none⟩ (.int .i64 (y.e:Int))).putObj W5.heap.size (.deferred none)).cell? ⟨w.heap.size+1,0,none⟩=some (.int .i64 (y.e:Int)):=by rw [he2.cell];rfl
 refine ⟨.int .i64 (y.e:Int),?_,?_⟩
 ·simp [results,Tryz.f16,go_sem,hce]
 have hfin:Frm (fun q=>q=w.heap.size+1∨q=W5.heap.size) W ((W.setCell ⟨w.heap.size+1,0,none⟩ (.int .i64 (y.e:Int))).putObj W5.heap.size (.deferred none)):=((Frm.refl _ W).setCell (p:=⟨w.heap.size+1,0,none⟩) (.inl rfl) _).putObj (.inr rfl) _
 have hMD:¬ M W5.heap.size:=fun hm=>by
  obtain ⟨_,c,t,f,hcc⟩:=HP.out.own M _ W HJM.out.1 _ hm
  rw [HD.out] at hcc
  cases hcc
 have hsp:=HSP.out
 unfold SpC at hsp
 rw [HPR.out,List.map_append,← HE.out] at hsp
 obtain ⟨k1,k2,k3⟩:=ev_stop (l:=l.map ckP) (p:=ckP y) hsp HY.out
 rw [HE.out] at k1 k2
 refine ⟨by rw [k1,evErr_snoc k3 HY.out];rfl,⟨M,?_,fun q hq=>(HJM.out.2 q hq).2⟩,HI.out.f.transW hfin (fun q hq hlt=>by omega),?_⟩
 ·rw [k1,← List.map_singleton (f:=ckP),← List.map_append,catC_out,← HPR.out]
  refine HP.out.keep M _ W _ HJM.out.1 (hfin.mono ?_)
  rintro q _ (e | e) hm
  ·exact (HJM.out.2 q hm).1 e
  exact hMD (e▸hm)
 rw [k2]
 obtain ⟨A1,n1,c1,u1,hs1,hu1⟩:=HI.out.s
 refine ⟨A1,n1,c1,u1,Pts.frm hs1 hfin ?_,hu1⟩
 rintro (e | e)
 ·exact hs1.ne_of HYE.out (by decide) e
 exact cells_ne hs1 HD.out rfl e
end Go.Proofs.YtffehfpbdcokbaaGreat
