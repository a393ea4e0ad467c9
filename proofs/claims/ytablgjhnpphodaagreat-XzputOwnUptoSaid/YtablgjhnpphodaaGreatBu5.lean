import Derived.Deep.RegionWith
import Derived.Shelf.Abstract
import Derived.Test.YtablgjhnpphodaaGreatChecked
import Derived.Test.YtablgjhnpphodaaGreatFrm
import Derived.Test.YtablgjhnpphodaaGreatOpen
import Derived.WalkKit
import Derived.Lib.Hide
import Derived.BigQuiet
import Derived.Deep.QuietTactic
import Derived.RegionTactic
import Derived.StillTailTactics
import Derived.IntWalk
import Derived.Defers
import Derived.Recover
import Derived.WalkSmall
import Derived.Laws.Pointers
import Derived.Test.YtablgjhnpphodaaGreatBu1
import Derived.Test.YtablgjhnpphodaaGreatBu4
set_option linter.unusedVariables false
set_option linter.unusedSimpArgs false
namespace Go.Proofs.YtablgjhnpphodaaGreat
open Lib (hid)
open Go.RowKit Rng Win Lz
attribute [local go_sem] Oper.semAt_some
structure PutOk (P:Program) (fput:Nat) (lb:Array Value) (B0 most:Nat) (J:(Nat→Prop)→List UInt8→World→Prop):Prop where
 ent:∀ args w,(callFunc fput args).run P w=.ok (.enter fput args) w
 keep:∀ M T W W',J M T W→Frm (fun q=>¬ M q) W W'→J M T W'
 own:∀ M T W,J M T W→∀ q,M q→B0≤q∧∃ c t f,W.heap[q]?=some (.cells c t f)
 call:∀ M T (b:List UInt8) Ab cb W,J M T W→BRow W W.heap.size Ab b→b.length≤cb→cb≤maxLen→T.length+b.length≤most →
  Calls P fput (#[.slice Ab b.length cb]++lb) W fun e W'=>e=.returned (.bool true)∧∃ M',J M' (T++b) W'∧Frm M W W'∧∀ q,M' q→M q∨(W.heap.size≤q∧q<W'.heap.size)
def catC (pre:List Ck):List UInt8:=(pre.map (·.b)).flatten
theorem catC_snoc (pre:List Ck) (x:Ck):catC (pre++[x])=catC pre++x.b:=by simp [catC]
theorem catC_len (pre:List Ck):(catC pre).length=sumC pre:=by
 unfold catC sumC
 rw [List.length_flatten,List.map_map]
 rfl
theorem catC_out (pre:List Ck):evOut (pre.map ckP)=catC pre:=by
 unfold evOut catC
 rw [List.map_map]
 rfl
structure RunI (w:World) (fb eb pb:Nat) (pv:Value) (M0:Nat→Prop) (J:(Nat→Prop)→List UInt8→World→Prop) (N:Nat→Prop) (pre:List Ck) (W:World):Prop where
 j:∃ M,J M (catC pre) W∧∀ q,M q→¬ N q∧q≠eb∧q≠pb∧(M0 q∨w.heap.size≤q)
 n:∀ q,N q→q<W.heap.size∧q≠eb∧q≠pb∧(q=fb∨w.heap.size≤q)
 e:Pts W eb #[.int .i64 0] 32
 p:Pts W pb #[pv] 53
 f:Frm (fun q=>M0 q∨q=fb) w W
 z:∀ x∈pre,x.e=0
structure RunX (w:World) (fb eb un:Nat) (M0:Nat→Prop) (J:(Nat→Prop)→List UInt8→World→Prop) (pre:List Ck) (W:World):Prop where
 j:∃ M,J M (catC pre) W∧∀ q,M q→q≠eb∧(M0 q∨w.heap.size≤q)
 x:∃ l y,pre=l++[y]∧y.e≠0∧Pts W eb #[.int .i64 (y.e:Int)] 32
 s:∃ A n c used,SrcAt W fb A n c used∧used≤un
 f:Frm (fun q=>M0 q∨q=fb) w W
section
variable {w W W' : World} {fb eb pb un B0 most D : Nat} {pv : Value} {M0 N N' : Nat → Prop} {J : (Nat → Prop) → List UInt8 → World → Prop} {pre : List Ck} {P : Program} {fput : Nat} {lb : Array Value}
theorem PutOk.lt (hp:PutOk P fput lb B0 most J) {M:Nat→Prop} {T:List UInt8} (h:J M T W):∀ q,M q→q<W.heap.size:=by
 intro q hq
 obtain ⟨_,c,t,f,hc⟩:=hp.own M T W h q hq
 exact (Array.getElem?_eq_some_iff.1 hc).1
theorem RunI.ab (hp:PutOk P fput lb B0 most J) (h:RunI w fb eb pb pv M0 J N pre W) (hf:Frm N W W') (hN:∀ q,N' q→N q∨(W.heap.size≤q∧q<W'.heap.size)):RunI w fb eb pb pv M0 J N' pre W':=by
 obtain ⟨M,hj,hM⟩:=h.j
 have hlt:=hp.lt hj
 have he:=h.e.lt
 have hpl:=h.p.lt
 have hw:=h.f.size
 refine ⟨⟨M,hp.keep M _ W W' hj (hf.mono fun q _ hn hm=>(hM q hm).1 hn),fun q hm=>⟨fun hn=>?_,(hM q hm).2⟩⟩,fun q hq=>?_,h.e.frm hf (fun hn=>(h.n _ hn).2.1 rfl),h.p.frm hf (fun hn=>(h.n _ hn).2.2.1 rfl),h.f.transW hf fun q hq hlt=>?_,h.z⟩
 ·rcases hN q hn with h1 | h1
  ·exact (hM q hm).1 h1
  have:=hlt q hm;omega
 ·rcases hN q hq with h1 | h1
  ·obtain ⟨k1,k2,k3,k4⟩:=h.n q h1
   exact ⟨Nat.lt_of_lt_of_le k1 hf.size,k2,k3,k4⟩
  exact ⟨h1.2,by omega,by omega,.inr (by omega)⟩
 obtain ⟨k1,k2,k3,k4⟩:=h.n q hq
 rcases k4 with k4 | k4
 ·exact .inr k4
 omega
theorem RunI.put (hp:PutOk P fput lb B0 most J) (h:RunI w fb eb pb pv M0 J N pre W) {l:Nat} {o o':Obj} (hl:w.heap.size≤l) (ho:W.heap[l]?=some o) (hc:o.isCells=false):RunI w fb eb pb pv M0 J N pre (W.putObj l o'):=by
 obtain ⟨M,hj,hM⟩:=h.j
 have hno:∀ q c t f,W.heap[q]?=some (.cells c t f)→q≠l:=by
  rintro q c t f hq rfl
  rw [ho] at hq
  injection hq with hq
  rw [hq] at hc
  cases hc
 refine ⟨⟨M,hp.keep M _ W _ hj ((Frm.refl _ W).putObj (S:=fun q=>¬ M q) (fun hm=>?_) o'),hM⟩,fun q hq=>by obtain ⟨k1,k2⟩:=h.n q hq;exact ⟨by simpa using k1,k2⟩,
  (World.putObj_heap_other (hno _ _ _ _ h.e)).trans h.e,(World.putObj_heap_other (hno _ _ _ _ h.p)).trans h.p,h.f.transW ((Frm.refl _ W).putObj (S:=fun q=>q=l) rfl o') fun q hq hlt=>by omega,h.z⟩
 obtain ⟨_,c,t,f,hcc⟩:=hp.own M _ W hj l hm
 exact hno _ _ _ _ hcc rfl
theorem RunI.alloc (hp:PutOk P fput lb B0 most J) (h:RunI w fb eb pb pv M0 J N pre W) (o:Obj):RunI w fb eb pb pv M0 J N pre (W.alloc o):=by
 refine h.ab hp ((Frm.refl N W).alloc o) fun q hq=>.inl hq
theorem RunX.put (hp:PutOk P fput lb B0 most J) (h:RunX w fb eb un M0 J pre W) {l:Nat} {o o':Obj} (hl:w.heap.size≤l) (ho:W.heap[l]?=some o) (hc:o.isCells=false):RunX w fb eb un M0 J pre (W.putObj l o'):=by
 obtain ⟨M,hj,hM⟩:=h.j
 obtain ⟨l2,y,e1,e2,e3⟩:=h.x
 obtain ⟨A,n,c,used,hs,hu⟩:=h.s
 have hno:∀ q c t f,W.heap[q]?=some (.cells c t f)→q≠l:=by
  rintro q c t f hq rfl
  rw [ho] at hq
  injection hq with hq
  rw [hq] at hc
  cases hc
 refine ⟨⟨M,hp.keep M _ W _ hj ((Frm.refl _ W).putObj (S:=fun q=>¬ M q) (fun hm=>?_) o'),hM⟩,⟨l2,y,e1,e2,(World.putObj_heap_other (hno _ _ _ _ e3)).trans e3⟩,⟨A,n,c,used,(World.putObj_heap_other (hno _ _ _ _ hs)).trans hs,hu⟩,
  h.f.transW ((Frm.refl _ W).putObj (S:=fun q=>q=l) rfl o') fun q hq hlt=>by omega⟩
 obtain ⟨_,c,t,f,hcc⟩:=hp.own M _ W hj l hm
 exact hno _ _ _ _ hcc rfl
theorem RunI.told (hp:PutOk P fput lb B0 most J) (h:RunI w fb eb pb pv M0 J N pre W) {x:Ck} {M M':Nat→Prop} (hM:∀ q,M q→¬ N q∧q≠eb∧q≠pb∧(M0 q∨w.heap.size≤q)) (hx:x.e=0) (hj:J M' (catC pre++x.b) W') (hf:Frm M W W') (hM':∀ q,M' q→M q∨(W.heap.size≤q∧q<W'.heap.size)) :
 RunI w fb eb pb pv M0 J N (pre++[x]) W':=by
 have he:=h.e.lt
 have hpl:=h.p.lt
 have hw:=h.f.size
 refine ⟨⟨M',by rw [catC_snoc];exact hj,fun q hq=>?_⟩,fun q hq=>?_,h.e.frm hf (fun hn=>(hM _ hn).2.1 rfl),h.p.frm hf (fun hn=>(hM _ hn).2.2.1 rfl),h.f.transW hf fun q hq hlt=>?_,?_⟩
 ·rcases hM' q hq with h1 | h1
  ·exact hM q h1
  exact ⟨fun hn=>by have:=(h.n q hn).1;omega,by omega,by omega,.inr (by omega)⟩
 ·obtain ⟨k1,k2⟩:=h.n q hq
  exact ⟨Nat.lt_of_lt_of_le k1 hf.size,k2⟩
 ·rcases (hM q hq).2.2.2 with k | k
  ·exact .inl k
  omega
 intro y hy
 rcases List.mem_append.1 hy with hy | hy
 ·exact h.z y hy
 rw [List.mem_singleton.1 hy];exact hx
end
theorem AbN_runI {w:World} {fb eb pb B0 most:Nat} {pv:Value} {M0:Nat→Prop} {J:(Nat→Prop)→List UInt8→World→Prop} {P:Program} {fput:Nat} {lb:Array Value} (hp:PutOk P fput lb B0 most J):AbN (RunI w fb eb pb pv M0 J) :=
 fun _ _ _ _ _ h hf hN=>h.ab hp hf hN
theorem cells_ne {W:World} {l q:Nat} {o:Obj} {c:Array Value} {t:TypeId} {f:Nat×Nat} (hq:W.heap[q]?=some (.cells c t f)) (ho:W.heap[l]?=some o) (hc:o.isCells=false):q≠l:=by
 rintro rfl
 rw [ho] at hq
 injection hq with hq
 rw [hq] at hc
 cases hc
theorem BRow.putO {W:World} {B l:Nat} {A:Option Addr} {bs:List UInt8} (h:BRow W B A bs) {o:Obj} (ho:W.heap[l]?=some o) (hc:o.isCells=false) (o':Obj):BRow (W.putObj l o') B A bs:=by
 intro h0
 obtain ⟨b,off,rfl,hb,hcell⟩:=h h0
 refine ⟨b,off,rfl,hb,fun k hk=>?_⟩
 have hne:b≠l:=by
  rintro rfl
  have h1:=hcell k hk
  unfold World.cell? at h1
  simp only [ho] at h1
  cases o <;> first | (cases hc;done) | (cases h1;done) | simp at h1
 rw [World.cell?_of_block (World.putObj_heap_other hne)]
 exact hcell k hk
theorem SC_put {E:List (List UInt8×Nat)×Option (List UInt8)} {fb un B0 D:Nat} (hB:B0≤D):AbL D (SC E fb un B0):=by
 rintro N pre W l o o' hl ho hc ⟨h1,h2⟩
 refine ⟨h1,fun rest hr=>?_⟩
 obtain ⟨A,n,c,used,hs,h3,h4,h5⟩:=h2 rest hr
 exact ⟨A,n,c,used,(World.putObj_heap_other (cells_ne hs ho hc)).trans hs,h3,h4.putO ho hc o',h5⟩
theorem PxC_put {fb un most l:Nat} {pre:List Ck} {x:Ck} {W:World} {o o':Obj} (ho:W.heap[l]?=some o) (hc:o.isCells=false) (h:PxC fb un most pre x W):PxC fb un most pre x (W.putObj l o'):=by
 obtain ⟨⟨A,n,c,used,hs,hu⟩,Ab,cb,h1,h2,h3⟩:=h
 exact ⟨⟨A,n,c,used,(World.putObj_heap_other (cells_ne hs ho hc)).trans hs,hu⟩,Ab,cb,h1,by simpa using h2.putO ho hc o',h3⟩
def RunEnd (fb un B0:Nat) (M0:Nat→Prop) (J:(Nat→Prop)→List UInt8→World→Prop) (E:List (List UInt8×Nat)×Option (List UInt8)) (w:World) (e:Ending) (w':World):Prop :=
 e=.returned (.int .i64 ((evErr E.1:Nat):Int))∧(∃ M,J M (evOut E.1) w'∧∀ q,M q→M0 q∨w.heap.size≤q)∧Frm (fun q=>M0 q∨q=fb) w w' ∧
  (match E.2 with
  | none=>∃ A n c used,SrcAt w' fb A n c used∧used≤un
  | some rest=>∃ A n c used,SrcAt w' fb A n c used∧used+n=un∧BRow w' B0 A rest∧n=rest.length∧n≤c∧c≤maxLen)
set_option maxRecDepth 8000 in
set_option maxHeartbeats 4000000 in
theorem run_p (fb B0 S most fput:Nat) (lb:Array Value) (J:(Nat→Prop)→List UInt8→World→Prop) (M0:Nat→Prop) (A:Option Addr) (nn c used un:Nat) (bs:List UInt8) (w:World)
 (hp:PutOk Tryz.prog fput lb B0 most J) (hj:J M0 [] w) (hfb:¬ M0 fb) (hfb0:B0≤fb) (hs:SrcAt w fb A nn c used) (hn:nn=bs.length) (hr:BRow w B0 A bs) (hB0:B0≤w.heap.size) (hc:nn≤c) (hcm:c≤maxLen) (hu:used+nn=un) (hub:un≤4611686018427387904)
 (hS1:1≤S) (hS:S≤16777216) (hm:most≤16777216) :
 Calls Tryz.prog 63 #[.pointer (some ⟨fb,0,none⟩),.int .i64 S,.int .i64 most,.func (.func fput) #[] lb] w (RunEnd fb un B0 M0 J (evGo S most (bs.length+1) newDS 0 bs) w):=by
 have HP:=hid hp
 have HJ:=hid hj
 have HS:Hid (SrcAt w fb A nn c used∧nn=bs.length∧BRow w B0 A bs∧B0≤w.heap.size∧nn≤c∧c≤maxLen∧used+nn=un∧B0≤fb∧¬ M0 fb):=hid ⟨hs,hn,hr,hB0,hc,hcm,hu,hfb0,hfb⟩
 have hfl:=Pts.lt hs
 have HFL:=hid hfl
 obtain ⟨E,hE⟩:∃ E,evGo S most (bs.length+1) newDS 0 bs=E:=⟨_,rfl⟩
 rw [hE]
 have HE:=hid hE
 clear hp hj hfb hfb0 hs hn hr hB0 hc hcm hu hE hfl
 have hst0:chE 16777216 0 S=0:=(ch_ok (B:=16777216) (n:=0) 0 (k:=(S:Int)) (by omega) (by omega)).1
 have hbud:bud 16777216=16777216:=by decide
 refine (callsIn_wide (n:=6)).1 ?_
 refine callsIn_of_wp_marks Tryz.func63 rfl trivial ?_ rfl
 simp only [Tryz.ntmps63,List.size_toArray,List.length_cons,List.length_nil,Nat.reduceAdd,Nat.reduceSub,Array.replicate_succ,Array.replicate_zero,List.push_toArray,List.append_toArray,List.nil_append,List.cons_append]
 refine wpIn_wide.2 ?_
 go_wp2
 go_step3
 go_wp2_with fail
 obtain ⟨W0,hW0⟩:∃ W,(w.alloc (.cells #[.func (.func fput) #[] lb] 53)).alloc (.cells #[.int .i64 0] 32)=W:=⟨_,rfl⟩
 have hs0:W0.heap.size=w.heap.size+1+1:=by rw [← hW0];simp only [World.size_alloc]
 have HP0:Hid (Pts W0 w.heap.size #[.func (.func fput) #[] lb] 53∧Pts W0 (w.heap.size+1) #[.int .i64 0] 32∧Below w.heap.size w W0):=by
  refine hid ⟨?_,?_,?_⟩
  ·rw [← hW0];exact (Pts.new w _ _).alloc _
  ·rw [← hW0];have:=Pts.new (w.alloc (.cells #[.func (.func fput) #[] lb] 53)) #[.int .i64 0] 32;rwa [World.size_alloc] at this
  rw [← hW0];exact ((Below.refl _ w).alloc (Nat.le_refl _) _).alloc (by simp only [World.size_alloc];omega) _
 rw [hW0]
 clear hW0
 refine (new_led 16777216 _).mono ?_;rintro e w1 ⟨rfl,hl1,hb1⟩
 rw [hbud] at hl1
 rw [hs0] at hl1 hb1
 have HL1:=hid hl1
 have HB1:=hid hb1
 have HZ1:Hid (w.heap.size+1+1+1≤w1.heap.size):=hid (Pts.lt hl1)
 rw [hs0]
 clear hl1 hb1 hbud
 go_wp2_with fail
 refine (new_win _ S 16777216 0 0 w1 HL1.out (by omega) (by omega) (by omega) hS1 hS hst0).mono ?_;rintro e w2 ⟨wb,rfl,hw2,hwb2,hl2,hf2⟩
 have HW2:=hid hw2
 have HF2:=hid hf2
 have HWB:=hid hwb2
 have p2:Pts w2 w.heap.size #[.func (.func fput) #[] lb] 53:=(HP0.out.1.below HB1.out (by omega)).frm hf2 (by omega)
 have e2:Pts w2 (w.heap.size+1) #[.int .i64 0] 32:=(HP0.out.2.1.below HB1.out (by omega)).frm hf2 (by omega)
 have B2:Hid (Below w.heap.size w w2):=hid ((HP0.out.2.2.trans (HB1.out.mono (by omega))).trans (hf2.below (by have:=HZ1.out;omega) (by intro q hq;omega)))
 have ce:w2.cell? ⟨w.heap.size+1,0,none⟩=some (.int .i64 0):=by rw [e2.cell];rfl
 have ze:=e2.frozen 0
 have e3:=e2.set 0 (.int .i64 0)
 have p3:Pts (w2.setCell ⟨w.heap.size+1,0,none⟩ (.int .i64 0)) w.heap.size #[.func (.func fput) #[] lb] 53:=p2.other (p:=⟨w.heap.size+1,0,none⟩) (by simp) _
 have B3:Hid (Below w.heap.size w (w2.setCell ⟨w.heap.size+1,0,none⟩ (.int .i64 0))):=hid (B2.out.trans (((Frm.refl (fun q=>q=w.heap.size+1) w2).setCell (p:=⟨w.heap.size+1,0,none⟩) rfl _).below B2.out.size (by intro q hq;omega)))
 have W3:Hid (WinC (w2.setCell ⟨w.heap.size+1,0,none⟩ (.int .i64 0)) w1.heap.size wb (w.heap.size+1+1) S [] (.slice none 0 0)):=hid ((show WinC w2 w1.heap.size wb (w.heap.size+1+1) S [] (.slice none 0 0) from ⟨[],0,hw2,rfl⟩).frm ((Frm.refl (fun q=>q=w.heap.size+1) w2).setCell (p:=⟨w.heap.size+1,0,none⟩) rfl _) (by have:=HZ1.out;omega) (by intro q hq;cases hq))
 have E3:=hid e3
 have P3:=hid p3
 have hz3:w1.heap.size≤(w2.setCell ⟨w.heap.size+1,0,none⟩ (.int .i64 0)).heap.size:=by simpa [World.setCell] using hf2.size
 have Z3:=hid hz3
 clear hw2 hf2 hl2 hst0 hwb2 p2 e2 e3 p3 B2 hz3
 go_wp2_with fail
 obtain ⟨w3,hw3⟩:∃ W,w2.setCell ⟨w.heap.size+1,0,none⟩ (.int .i64 0)=W:=⟨_,rfl⟩
 rw [hw3] at B3 W3 E3 P3 Z3
 rw [hw3]
 clear hw3 ce ze HW2 HF2 HL1 HP0
 refine (lnew_st w3).mono ?_;rintro e w4 ⟨sb,lb2,rfl,h1,h2,hst,hb4⟩
 have B4:=hid (B3.out.trans (hb4.mono B3.out.size))
 have W4:=hid (W3.out.later hb4)
 have E4:Hid (Pts w4 (w.heap.size+1) #[.int .i64 0] 32):=hid (E3.out.below hb4 E3.out.lt)
 have P4:=hid (P3.out.below hb4 P3.out.lt)
 have Z4:=hid (Nat.le_trans Z3.out hb4.size)
 have S4:=hid hst
 have H4:=hid (And.intro h1 h2)
 have ZW:=hid (Nat.le_trans B3.out.size h1)
 have Z3w:=hid Z3.out
 clear hst hb4 h1 h2 W3 E3 P3 Z3
 go_wp2_with fail
 go_step3
 go_wp2
 obtain ⟨W5,hW5⟩:∃ W,w4.alloc (.cells #[.pointer (some ⟨wb,0,none⟩),.pointer (some ⟨sb,0,none⟩),.pointer (some ⟨fb,0,none⟩),.int .i64 0,.int .i64 most,.bool false,.bool false] 182)=W:=⟨_,rfl⟩
 have hbA:Below w4.heap.size w4 W5:=by rw [← hW5];exact below_alloc _ _
 have hs5:W5.heap.size=w4.heap.size+1:=by rw [← hW5];simp only [World.size_alloc]
 have hR5:RdS W5 w4.heap.size fb wb (w.heap.size+1+1) w1.heap.size S (newK sb lb2) newDS (.slice none 0 0) A nn c used (most:Int):=by
  refine ⟨?_,S4.out.later hbA,⟨rfl,rfl,rfl⟩,newK_ok _ _,⟨(by decide:(0:Nat)<12),fun _=>(by decide:(0:Nat)<4294967296)⟩,W4.out.later hbA,by have:=Z4.out;omega,Pts.below (Pts.below HS.out.1 B4.out HFL.out) hbA (Nat.lt_of_lt_of_le HFL.out B4.out.size)⟩
  rw [← hW5]
  exact Pts.new w4 _ _
 have hB5:Below w.heap.size w W5:=B4.out.trans (hbA.mono B4.out.size)
 have hE5:Pts W5 (w.heap.size+1) #[.int .i64 0] 32:=E4.out.below hbA E4.out.lt
 have hP5:Pts W5 w.heap.size #[.func (.func fput) #[] lb] 53:=P4.out.below hbA P4.out.lt
 have hE4l:=E4.out.lt
 have hwbl:wb<w4.heap.size:=W4.out.pts.choose_spec.lt
 have hsbl:=S4.out.m.lt
 have hlbl:=S4.out.l.lt
 have hN5:∀ q,RdB w4.heap.size fb wb (newK sb lb2) (.slice none 0 0) q→q<W5.heap.size∧q≠w.heap.size+1∧q≠w.heap.size∧(q=fb∨w.heap.size≤q)∧B0≤q:=by
  have h1:=HZ1.out
  have h2:=HWB.out
  have h3:=Z3w.out
  have h4:=H4.out
  have h5:=HFL.out
  have h6:=HS.out.2.2.2.1
  have h7:=HS.out.2.2.2.2.2.2.2.1
  have hk1:(newK sb lb2).sb=sb:=rfl
  have hk2:(newK sb lb2).lb=lb2:=rfl
  rw [hk1] at hsbl
  rw [hk2] at hlbl
  rintro q (e | e | e | e | e | e)
  ·omega
  ·omega
  ·omega
  ·rw [hk1] at e;omega
  ·rw [hk2] at e;omega
  cases e
 have hI5:RunI w fb (w.heap.size+1) w.heap.size (.func (.func fput) #[] lb) M0 J (RdB w4.heap.size fb wb (newK sb lb2) (.slice none 0 0)) [] W5:=by
  refine ⟨⟨M0,HP.out.keep M0 _ w W5 HJ.out (Frm.of_below hB5),fun q hq=>?_⟩,fun q hq=>⟨(hN5 q hq).1,(hN5 q hq).2.1,(hN5 q hq).2.2.1,(hN5 q hq).2.2.2.1⟩,hE5,hP5,Frm.of_below hB5,fun _ h=>by cases h⟩
  have hlt:=HP.out.lt HJ.out q hq
  refine ⟨fun hn=>?_,by omega,by omega,.inl hq⟩
  rcases (hN5 q hn).2.2.2.1 with e | e
  ·exact HS.out.2.2.2.2.2.2.2.2 (e▸hq)
  omega
 have hB0:B0≤W5.heap.size:=Nat.le_trans HS.out.2.2.2.1 hB5.size
 have hseq:=chunks_seq 5 w4.heap.size fb wb (w.heap.size+1+1) w1.heap.size S B0 (newK sb lb2) newDS (.slice none 0 0) A nn c used most un bs W5 (by omega) hR5 (fun q hq=>(hN5 q hq).2.2.2.2) hB0 hS HS.out.2.1 (HS.out.2.2.1.below ((hB5.mono HS.out.2.2.2.1))) HS.out.2.2.2.2.1 HS.out.2.2.2.2.2.1 HS.out.2.2.2.2.2.2.1 hub (by show 0+most≤_;omega)
 rw [HE.out] at hseq
 have hW5w:w.heap.size≤W5.heap.size:=hB5.size
 rw [hW5]
 refine (wpIn_wide (n:=6)).1 ?_
 refine wpIn_rangeFunc_ownW (n:=6) rfl (by omega) (gf:=83) (bd:=#[.pointer (some ⟨w4.heap.size,0,none⟩)]) rfl trivial (enters_of Tryz.func83 (by kernel_rfl) rfl) hseq
  (fun q hq=>(hN5 q hq).1) hB0 (fun _=>rfl) (RunI w fb (w.heap.size+1) w.heap.size (.func (.func fput) #[] lb) M0 J) (fun cd N pre W=>cd=.exit 0∧RunX w fb (w.heap.size+1) un M0 J pre W) (AbN_runI HP.out) (SC_put hB0)
  (fun N pre W l o o' hl ho hc h=>h.put HP.out (Nat.le_trans hW5w hl) ho hc) (fun cd N pre W l o o' hl ho hc h=>⟨h.1,h.2.put HP.out (Nat.le_trans hW5w hl) ho hc⟩) ((hI5.alloc HP.out _).alloc HP.out _)
  (fun x=>{ tmps:=#[.pointer (some ⟨fb,0,none⟩),.int .i64 S,.int .i64 most,.func (.func fput) #[] lb,undef,undef,undef,.pointer (some ⟨w.heap.size,0,none⟩),.pointer (some ⟨w.heap.size+1,0,none⟩),.pointer (some ⟨wb,0,none⟩),.pointer (some ⟨w4.heap.size,0,none⟩),x.val,.int .i64 (x.e:Int),
    .tuple #[.pointer (some ⟨wb,0,none⟩),.int .i64 0],.int .i64 S,.pointer (some ⟨w.heap.size+1+1,0,none⟩),.tuple #[.pointer (some ⟨wb,0,none⟩),.int .i64 0],.pointer (some ⟨wb,0,none⟩),.int .i64 0,.int .i64 0,.bool false,.pointer (some ⟨wb,0,none⟩),.pointer (some ⟨sb,0,none⟩),.pointer (some ⟨fb,0,none⟩),.int .i64 most,
    .agg #[.pointer (some ⟨wb,0,none⟩),.pointer (some ⟨sb,0,none⟩),.pointer (some ⟨fb,0,none⟩),.int .i64 0,.int .i64 most,.bool false,.bool false],.pointer (some ⟨w4.heap.size,0,none⟩),.pointer (some ⟨w4.heap.size,0,none⟩),.func (.func 83) #[.pointer (some ⟨w4.heap.size,0,none⟩)] #[],x.val,.int .i64 (x.e:Int),
    undef,undef,undef,undef,undef,undef,undef,undef,undef,undef],defers:=[] }) (fun pre x W l o o' _ ho hc h=>PxC_put ho hc h) ?assign ?body ?done ?stop
 case assign =>
  intro l x W K hK
  unfold ckEnc
  gi_wp2
  exact hK
 case body =>
  rintro l N pre ⟨xv,xb,xe⟩ W hI ⟨hsrc,Ab,cb,hxv,hxr,hxc,hxm,hxt,hxn⟩ hn1 hn2 hd1 ⟨rl,hd2⟩
  simp only at hxv hxr hxc hxm hxt hxn
  have HI:=hid hI
  have pc:W.cell? ⟨w.heap.size,0,none⟩=some (.func (.func fput) #[] lb):=by rw [hI.p.cell];rfl
  have ec:W.cell? ⟨w.heap.size+1,0,none⟩=some (.int .i64 0):=by rw [hI.e.cell];rfl
  have ez:=hI.e.frozen 0
  have HD:=hid (And.intro hd1 hd2)
  have HSR:=hid hsrc
  have HXR:=hid hxr
  have HXC:Hid (xb.length≤cb∧cb≤maxLen∧sumC pre+xb.length≤most):=hid ⟨hxc,hxm,hxt⟩
  clear hI hseq hI5 hN5 hR5 hE5 hP5 hbA hW5 hd1 hd2 hsrc hxr hxc hxm hxt
  by_cases hx:xe=0
  ·subst hx
   subst hxv
   clear hxn
   gi_wp2
   refine ⟨trivial,?_⟩
   rw [HP.out.ent,Oper.uponIn_enter]
   refine ⟨fun _=>by decide,?_⟩
   obtain ⟨M,hj,hM⟩:=HI.out.j
   refine (CallsIn.inRound l (callsIn_wide.2 (HP.out.call M _ xb Ab cb W hj HXR.out HXC.out.1 HXC.out.2.1 (by rw [catC_len];exact HXC.out.2.2)))).mono ?_
   rintro e W' ⟨rfl,M',hj',hf',hM'⟩
   have hown:=HP.out.own M _ W hj
   have hK1:W'.heap[W5.heap.size]?=W.heap[W5.heap.size]?:=hf'.block _ (Array.getElem?_eq_some_iff.1 HD.out.1).1 (fun hm=>by
    obtain ⟨_,c,t,f,hcc⟩:=hown _ hm
    rw [HD.out.1] at hcc
    cases hcc)
   have hK2:W'.heap[W5.heap.size+1]?=W.heap[W5.heap.size+1]?:=hf'.block _ (Array.getElem?_eq_some_iff.1 HD.out.2).1 (fun hm=>by
    obtain ⟨_,c,t,f,hcc⟩:=hown _ hm
    rw [HD.out.2] at hcc
    cases hcc)
   have hT:=HI.out.told HP.out (x:=⟨.slice Ab xb.length cb,xb,0⟩) hM rfl hj' hf' hM'
   have hFB:Frm (fun q=>¬ N q∧B0≤q) W W':=hf'.mono fun q _ hq=>⟨(hM q hq).1,(hown q hq).1⟩
   have HT:=hid (And.intro (And.intro hK1 hK2) (And.intro hFB hT))
   clear hK1 hK2 hT hFB hown hj hj' hf' hM' hM
   gi_wp2
   exact HT.out
  have q0:((xe:Int) != 0)=true:=bne_iff_ne.2 (by omega)
  have hxv2:=hxn hx
  have hxb:xb=[]:=by
   rw [hxv] at hxv2
   injection hxv2 with _ h2 _
   exact List.eq_nil_of_length_eq_zero h2
  clear hxn hxv hxv2
  gi_wp2
  obtain ⟨M,hj,hM⟩:=HI.out.j
  have hne:∀ q,q=W5.heap.size∨q=W5.heap.size+1→q≠w.heap.size+1:=by
   rintro q (e | e) e2
   ·have h1:=HI.out.e
    rw [← e2,e] at h1
    exact absurd (HD.out.1.symm.trans h1) (by simp)
   have h1:=HI.out.e
   rw [← e2,e] at h1
   exact absurd (HD.out.2.symm.trans h1) (by simp)
  have hset:∀ q,q≠w.heap.size+1→(W.setCell ⟨w.heap.size+1,0,none⟩ (.int .i64 (xe:Int))).heap[q]?=W.heap[q]?:=fun q hq=>Below.heap_setCell _ _ _ _ hq
  refine ⟨⟨hset _ (hne _ (.inl rfl)),hset _ (hne _ (.inr rfl))⟩,rfl,⟨M,?_,fun q hq=>⟨(hM q hq).2.1,(hM q hq).2.2.2⟩⟩,⟨pre,_,rfl,hx,HI.out.e.set 0 _⟩,?_,?_⟩
  ·rw [catC_snoc]
   simp only
   rw [hxb,List.append_nil]
   exact HP.out.keep M _ W _ hj ((Frm.refl _ W).setCell (p:=⟨w.heap.size+1,0,none⟩) (fun hm=>(hM _ hm).2.1 rfl) _)
  ·obtain ⟨A1,n1,c1,u1,hs1,hu1⟩:=HSR.out
   exact ⟨A1,n1,c1,u1,Pts.other hs1 (p:=⟨w.heap.size+1,0,none⟩) (hs1.ne_of HI.out.e (by decide)) _,hu1⟩
  exact HI.out.f.transW ((Frm.refl (fun q=>q=w.heap.size+1) W).setCell (p:=⟨w.heap.size+1,0,none⟩) rfl _) (fun q hq hlt=>by omega)
 case done =>
  rintro N xs W hSx hIx hd
  have ec:W.cell? ⟨w.heap.size+1,0,none⟩=some (.int .i64 0):=by rw [hIx.e.cell];rfl
  have ez:=hIx.e.frozen 0
  have HSX:=hid hSx
  have HI:=hid hIx
  have HD:=hid hd
  clear hSx hIx hd hseq hI5 hN5 hR5 hE5 hP5 hbA hW5
  go_wp2
  have hse:∀ q,q≠w.heap.size+1→(W.setCell ⟨w.heap.size+1,0,none⟩ (.int .i64 0)).heap[q]?=W.heap[q]?:=fun q hq=>Below.heap_setCell _ _ _ _ hq
  have hne:W5.heap.size≠w.heap.size+1:=by omega
  have hd2:(W.setCell ⟨w.heap.size+1,0,none⟩ (.int .i64 0)).heap[W5.heap.size]?=some (.deferred (some [])):=(hse _ hne).trans HD.out
  refine ⟨by simp,.inl ⟨_,_,rfl,run_takeDeferred hd2,?_⟩⟩
  have he2:Pts ((W.setCell ⟨w.heap.size+1,0,none⟩ (.int .i64 0)).putObj W5.heap.size (.deferred none)) (w.heap.size+1) #[.int .i64 0] 32:=(World.putObj_heap_other hne.symm).trans (HI.out.e.set 0 (.int .i64 0))
  have hce:((W.setCell ⟨w.heap.size+1,0,none⟩ (.int .i64 0)).putObj W5.heap.size (.deferred none)).cell? ⟨w.heap.size+1,0,none⟩=some (.int .i64 0):=by rw [he2.cell];rfl
  refine ⟨.int .i64 0,?_,?_⟩
  ·simp [results,Tryz.f63,go_sem,hce]
  have hfin:Frm (fun q=>q=w.heap.size+1∨q=W5.heap.size) W ((W.setCell ⟨w.heap.size+1,0,none⟩ (.int .i64 0)).putObj W5.heap.size (.deferred none)):=((Frm.refl _ W).setCell (p:=⟨w.heap.size+1,0,none⟩) (.inl rfl) _).putObj (.inr rfl) _
  obtain ⟨hx1,hx2⟩:=HSX.out
  have hz:=HI.out.z
  have hall:∀ q∈E.1,q.2=0:=by
   intro q hq
   rw [← hx1] at hq
   obtain ⟨y,hy,rfl⟩:=List.mem_map.1 hq
   exact hz y hy
  obtain ⟨M,hj,hM⟩:=HI.out.j
  have hMD:¬ M W5.heap.size:=fun hm=>by
   obtain ⟨_,c,t,f,hcc⟩:=HP.out.own M _ W hj _ hm
   rw [HD.out] at hcc
   cases hcc
  obtain ⟨r,hr⟩:=ev_none (S:=S) (most:=most) (f:=bs.length+1) (told:=0) (x:=newDS) (src:=bs) (by rw [HE.out];exact hall)
  rw [HE.out] at hr
  refine ⟨by rw [evErr_zero hall];rfl,⟨M,?_,fun q hq=>(hM q hq).2.2.2⟩,HI.out.f.transW hfin (fun q hq hlt=>by omega),?_⟩
  ·rw [← hx1,catC_out]
   refine HP.out.keep M _ W _ hj (hfin.mono ?_)
   rintro q _ (e | e) hm
   ·exact (hM q hm).2.1 e
   exact hMD (e▸hm)
  rw [hr]
  obtain ⟨A1,n1,c1,u1,hs1,h2,h3,h4,h5,h6⟩:=hx2 r hr
  have hB0w:=HS.out.2.2.2.1
  refine ⟨A1,n1,c1,u1,Pts.frm hs1 hfin ?_,h2,row_kept h3 hfin (Nat.le_trans hB0w HI.out.f.size) (fun q hq=>by omega),h4,h5,h6⟩
  rintro (e | e)
  ·exact hs1.ne_of HI.out.e (by decide) e
  exact cells_ne hs1 HD.out rfl e
 rintro cd N pre W hSp ⟨rfl,hIx⟩ hd
 obtain ⟨M,hj,hM⟩:=hIx.j
 obtain ⟨l,y,hpre,hy,hye⟩:=hIx.x
 have ec:W.cell? ⟨w.heap.size+1,0,none⟩=some (.int .i64 (y.e:Int)):=by rw [hye.cell];rfl
 have ez:=hye.frozen 0
 have HI:=hid hIx
 have HD:=hid hd
 have HYE:=hid hye
 have HJM:=hid (And.intro hj hM)
 have HY:=hid hy
 have HSP:=hid hSp
 have HPR:=hid hpre
 clear hSp hIx hd hye hj hM hy hpre hseq hI5 hN5 hR5 hE5 hP5 hbA hW5
 refine wpIn_wide.2 ?_
 go_wp2
 have hse:∀ q,q≠w.heap.size+1→(W.setCell ⟨w.heap.size+1,0,none⟩ (.int .i64 (y.e:Int))).heap[q]?=W.heap[q]?:=fun q hq=>Below.heap_setCell _ _ _ _ hq
 have hne:W5.heap.size≠w.heap.size+1:=by omega
 have hd2:(W.setCell ⟨w.heap.size+1,0,none⟩ (.int .i64 (y.e:Int))).heap[W5.heap.size]?=some (.deferred (some [])):=(hse _ hne).trans HD.out
 refine ⟨by simp,.inl ⟨_,_,rfl,run_takeDeferred hd2,?_⟩⟩
 have he2:Pts ((W.setCell ⟨w.heap.size+1,0,none⟩ (.int .i64 (y.e:Int))).putObj W5.heap.size (.deferred none)) (w.heap.size+1) #[.int .i64 (y.e:Int)] 32:=(World.putObj_heap_other hne.symm).trans (HYE.out.set 0 (.int .i64 (y.e:Int)))
 have hce:((W.setCell ⟨w.heap.size+1,0,none⟩ (.int .i64 (y.e:Int))).putObj W5.heap.size (.deferred none)).cell? ⟨w.heap.size+1,0,none⟩=some (.int .i64 (y.e:Int)):=by rw [he2.cell];rfl
 refine ⟨.int .i64 (y.e:Int),?_,?_⟩
 ·simp [results,Tryz.f63,go_sem,hce]
 have hfin:Frm (fun q=>q=w.heap.size+1∨q=W5.heap.size) W ((W.setCell ⟨w.heap.size+1,0,none⟩ (.int .i64 (y.e:Int))).putObj W5.heap.size (.deferred none)):=((Frm.refl _ W).setCell (p:=⟨w.heap.size+1,0,none⟩) (.inl rfl) _).putObj (.inr rfl) _
 have hMD:¬ M W5.heap.size:=fun hm=>by
  obtain ⟨_,c,t,f,hcc⟩:=HP.out.own M _ W HJM.out.1 _ hm
  rw [HD.out] at hcc
  cases hcc
 have hsp:=HSP.out
 unfold SpC at hsp
 rw [HPR.out,List.map_append,← HE.out] at hsp
 obtain ⟨k1,k2,k3⟩:=ev_stop (l:=l.map ckP) (p:=ckP y) hsp HY.out
 rw [HE.out] at k1 k2
 refine ⟨by rw [k1,evErr_snoc k3 HY.out];rfl,⟨M,?_,fun q hq=>(HJM.out.2 q hq).2⟩,HI.out.f.transW hfin (fun q hq hlt=>by omega),?_⟩
 ·rw [k1,← List.map_singleton (f:=ckP),← List.map_append,catC_out,← HPR.out]
  refine HP.out.keep M _ W _ HJM.out.1 (hfin.mono ?_)
  rintro q _ (e | e) hm
  ·exact (HJM.out.2 q hm).1 e
  exact hMD (e▸hm)
 rw [k2]
 obtain ⟨A1,n1,c1,u1,hs1,hu1⟩:=HI.out.s
 refine ⟨A1,n1,c1,u1,Pts.frm hs1 hfin ?_,hu1⟩
 rintro (e | e)
 ·exact hs1.ne_of HYE.out (by decide) e
 exact cells_ne hs1 HD.out rfl e
open Go.RowKit Rng Win Lz
def OutX (ob base:Nat) (M:Nat→Prop) (T:List UInt8) (W:World):Prop :=
 ∃ v,Pts W ob #[v] 27∧OwnB W 5 base v T∧(∀ q,M q↔q=ob∨v.ownBlock=some q)∧base≤W.heap.size
set_option maxRecDepth 100000 in
set_option maxHeartbeats 1000000 in
theorem outx_p (ob base:Nat) (v:Value) (T b:List UInt8) (Ab:Option Addr) (cb:Nat) (W:World) (hp:Pts W ob #[v] 27) (ho:OwnB W 5 base v T) (hb:base≤W.heap.size) (hr:BRow W W.heap.size Ab b) (hl:T.length+b.length≤16777216) :
 Calls Tryz.prog 23 #[.slice Ab b.length cb,.pointer (some ⟨ob,0,none⟩)] W fun e W'=>e=.returned (.bool true)∧∃ v',Pts W' ob #[v'] 27∧OwnB W' 5 base v' (T++b)∧Frm (fun q=>q=ob∨v.ownBlock=some q) W W'∧(v'.ownBlock=v.ownBlock∨v'.ownBlock=some W.heap.size):=by
 obtain ⟨A0,k0,rfl,-,-,-⟩:=ho.slice
 obtain ⟨v,hv⟩:∃ v,Value.slice A0 T.length k0=v:=⟨_,rfl⟩
 have c0:W.cell? ⟨ob,0,none⟩=some (.slice A0 T.length k0):=by rw [hp.cell];rfl
 rw [hv] at hp ho
 rw [hv]
 have HV:=hid hv
 clear hv
 have z0:=hp.frozen 0
 have HP:=hid hp
 have HO:=hid ho
 have HR:=hid hr
 have HL:=hid hl
 have HB:=hid hb
 clear hp ho hr hl hb
 go_enter Tryz.func23,Tryz.ntmps23
 go_wp2_with (at_builtin;refine wpList_append_bytes _ rfl (.tmp 4) (.tmp 5) 27 rfl 5 base Tryz.underlying27 Tryz.info_u8 (.slice A0 T.length k0) T rfl ?own2 Ab b.length cb W.heap.size b rfl rfl ?row2 ?len2 ?base2 ?next2)
 case own2=>rw [HV.out];exact HO.out
 case row2=>exact HR.out
 case len2=>have:=HL.out;omega
 case base2=>exact HB.out
 intro v3 w3 hown3 hfrm3 hnew3
 rw [HV.out] at hfrm3 hnew3
 obtain ⟨A3,k3,hv3,-,-,-⟩:=hown3.slice
 have hne:v.ownBlock≠some ob:=fun e=>by
  rcases HO.out.form with ⟨rfl,_⟩ | ⟨g,cap,cur,rfl,_,hh,_⟩
  ·cases e
  injection e with e
  subst e
  exact hh.ne_of HP.out (by decide) rfl
 have hp3:=HP.out.frm hfrm3 hne
 have hne3:v3.ownBlock≠some ob:=by
  have:=HP.out.lt
  rcases hnew3 with e | e
  ·rw [e];exact hne
  rw [e];intro h;injection h with h;omega
 have c3:w3.cell? ⟨ob,0,none⟩=some (.slice A0 T.length k0):=by rw [hp3.cell,HV.out];rfl
 have z3:=hp3.frozen 0
 have HP3:=hid (hp3.set 0 v3)
 have HO3:=hid (hown3.other (p:=⟨ob,0,none⟩) hne3 v3)
 have HF3:=hid (Frm.setCell (p:=⟨ob,0,none⟩) (hfrm3.mono (S':=fun q=>q=ob∨v.ownBlock=some q) fun q _ e=>.inr e) (.inl rfl) v3)
 have HN3:=hid hnew3
 clear hown3 hfrm3 hnew3 hne hp3 hne3
 obtain ⟨L3,hL3⟩:∃ L,(T++b).length=L:=⟨_,rfl⟩
 rw [hL3] at hv3
 subst hv3
 clear hL3
 go_wp2
 go_ret
 exact ⟨rfl,_,HP3.out,HO3.out,HF3.out,HN3.out⟩
theorem outx_ok (ob base B0 most:Nat) (h1:B0≤ob) (h2:B0≤base) (hm:most≤16777216):PutOk Tryz.prog 23 #[.pointer (some ⟨ob,0,none⟩)] B0 most (OutX ob base) where
 ent:=enters_of Tryz.func23 (by kernel_rfl) rfl
 keep:=by
  rintro M T W W' ⟨v,hp,ho,hM,hb⟩ hf
  exact ⟨v,hp.frm hf (fun h=>h ((hM ob).2 (.inl rfl))),ho.frm hf (fun k hk h=>h ((hM k).2 (.inr hk))),hM,Nat.le_trans hb hf.size⟩
 own:=by
  rintro M T W ⟨v,hp,ho,hM,hb⟩ q hq
  rcases (hM q).1 hq with e | e
  ·subst e;exact ⟨h1,_,_,_,hp⟩
  refine ⟨Nat.le_trans h2 (ho.lt e).1,?_⟩
  rcases ho.form with ⟨rfl,_⟩ | ⟨g,cap,cur,rfl,_,hh,_⟩
  ·cases e
  injection e with e
  subst e
  exact ⟨_,_,_,hh⟩
 call:=by
  rintro M T b Ab cb W ⟨v,hp,ho,hM,hb⟩ hr hbc hcm hl
  refine (outx_p ob base v T b Ab cb W hp ho hb hr (by omega)).mono ?_
  rintro e W' ⟨rfl,v',hp',ho',hf,hn⟩
  refine ⟨rfl,fun q=>q=ob∨v'.ownBlock=some q,⟨v',hp',ho',fun q=>Iff.rfl,Nat.le_trans hb hf.size⟩,hf.mono fun q _ e=>(hM q).2 e,?_⟩
  rintro q (e | e)
  ·exact .inl ((hM q).2 (.inl e))
  rcases hn with h | h
  ·exact .inl ((hM q).2 (.inr (h▸e)))
  have h3:=(ho'.lt e).2
  rw [h] at e
  injection e with e
  exact .inr ⟨by omega,h3⟩
theorem hold_p (n:Int) (w:World):Calls Tryz.prog 24 #[.int .i64 n] w fun e w'=>e=.returned (.tuple #[])∧w=w':=by
 go_enter Tryz.func24,Tryz.ntmps24
 go_wp2
 go_end0
 exact ⟨rfl,rfl⟩
end Go.Proofs.YtablgjhnpphodaaGreat
namespace Go.Proofs.YtablgjhnpphodaaGreat.Crc
open Go.Proofs.YtablgjhnpphodaaGreat.Num
def bit (P x:Nat):Nat:=if x % 2=1 then (x / 2) ^^^ P else x / 2
def bitsN (P:Nat):Nat→Nat→Nat
 | 0,x=>x
 | n+1,x=>bit P (bitsN P n x)
def byByte (P n:Nat) (b:UInt8):Nat:=(n / 256) ^^^ bitsN P 8 ((n % 256) ^^^ b.toNat)
def byBits (P n:Nat) (b:UInt8):Nat:=bitsN P 8 (n ^^^ b.toNat)
theorem half_lt {x:Nat} (h:x<M64):x / 2<M64:=by omega
theorem bit_lt {P x:Nat} (hP:P<M64) (hx:x<M64):bit P x<M64:=by
 unfold bit
 split
 ·exact xor_lt64 (half_lt hx) hP
 exact half_lt hx
theorem bitsN_lt {P x:Nat} (hP:P<M64) (hx:x<M64):∀ n,bitsN P n x<M64
 | 0=>hx
 | n+1=>bit_lt hP (bitsN_lt hP hx n)
theorem bit_lt32 {P x:Nat} (hP:P<M32) (hx:x<M32):bit P x<M32:=by
 unfold bit
 split
 ·exact xor_lt32 (by omega) hP
 omega
theorem bitsN_lt32 {P x:Nat} (hP:P<M32) (hx:x<M32):∀ n,bitsN P n x<M32
 | 0=>hx
 | n+1=>bit_lt32 hP (bitsN_lt32 hP hx n)
theorem half_xor (a b:Nat):(a ^^^ b) / 2=(a / 2) ^^^ (b / 2):=by
 have:=Nat.shiftRight_xor_distrib (a:=a) (b:=b) (i:=1)
 simpa [Nat.shiftRight_succ] using this
theorem mod_xor (a b:Nat):(a ^^^ b) % 2=(a % 2+b % 2) % 2:=by
 have h:=Nat.xor_mod_two_pow (a:=a) (b:=b) (n:=1)
 rw [show (2:Nat) ^ 1=2 from rfl] at h
 rw [h]
 rcases Nat.mod_two_eq_zero_or_one a with ha | ha <;> rcases Nat.mod_two_eq_zero_or_one b with hb | hb <;> rw [ha,hb] <;> rfl
theorem bit_xor (P a b:Nat):bit P (a ^^^ b)=bit P a ^^^ bit P b:=by
 unfold bit
 rw [mod_xor,half_xor]
 rcases Nat.mod_two_eq_zero_or_one a with ha | ha <;> rcases Nat.mod_two_eq_zero_or_one b with hb | hb <;> simp [ha,hb]
 ·rw [Nat.xor_assoc]
 ·rw [Nat.xor_assoc,Nat.xor_assoc,Nat.xor_comm P]
 rw [Nat.xor_assoc,Nat.xor_comm P (b / 2 ^^^ P),Nat.xor_assoc (b / 2),Nat.xor_self,Nat.xor_zero]
theorem bitsN_xor (P a b:Nat):∀ n,bitsN P n (a ^^^ b)=bitsN P n a ^^^ bitsN P n b
 | 0=>rfl
 | n+1=>by unfold bitsN;rw [bitsN_xor P a b n,bit_xor]
theorem bit_even (P x:Nat) (h:x % 2=0):bit P x=x / 2:=by unfold bit;rw [if_neg (by omega)]
theorem bitsN_high (P k:Nat):∀ n m,bitsN P n (k*2 ^ (m+n))=k*2 ^ m
 | 0,m=>by simp [bitsN]
 | n+1,m=>by
  unfold bitsN
  rw [show m+(n+1)=(m+1)+n by omega,bitsN_high P k n (m+1),bit_even]
  ·rw [Nat.pow_succ,← Nat.mul_assoc,Nat.mul_div_cancel _ (by omega)]
  rw [Nat.pow_succ,← Nat.mul_assoc,Nat.mul_mod_left]
theorem split_xor (n:Nat):n=(n / 256*256) ^^^ (n % 256):=by
 have h:(n / 256)*2 ^ 8 ^^^ (n % 256)=(n / 256)*2 ^ 8+n % 256:=by
  rw [← Nat.shiftLeft_eq]
  have h1:=Nat.shiftLeft_add_eq_or_of_lt (a:=n / 256) (b:=n % 256) (i:=8) (Nat.mod_lt _ (by omega))
  rw [h1]
  apply Nat.eq_of_testBit_eq
  intro i
  rw [Nat.testBit_xor,Nat.testBit_or,Nat.testBit_shiftLeft]
  by_cases hi:i<8
  ·simp [show ¬ (i≥8) by omega]
  have h2:(n % 256).testBit i=false:=by
   apply Nat.testBit_lt_two_pow
   have:2 ^ 8≤2 ^ i:=Nat.pow_le_pow_right (by omega) (by omega)
   have:=Nat.mod_lt n (show 256 > 0 by omega)
   omega
  simp [h2]
 rw [show (256:Nat)=2 ^ 8 from rfl] at *
 rw [h]
 exact (Nat.div_add_mod' n (2 ^ 8)).symm
theorem byByte_eq (P n:Nat) (b:UInt8):byByte P n b=byBits P n b:=by
 unfold byByte byBits
 have h:n ^^^ b.toNat=(n / 256*2 ^ 8) ^^^ ((n % 256) ^^^ b.toNat):=by
  rw [← Nat.xor_assoc]
  exact congrArg (· ^^^ b.toNat) (split_xor n)
 have h2:=bitsN_high P (n / 256) 8 0
 rw [Nat.zero_add,Nat.pow_zero,Nat.mul_one] at h2
 rw [h,bitsN_xor P (n / 256*2 ^ 8),h2]
def add (P n:Nat) (bs:List UInt8):Nat:=bs.foldl (byByte P) n
theorem add_append (P n:Nat) (a b:List UInt8):add P n (a++b)=add P (add P n a) b:=List.foldl_append
theorem byByte_lt {P n:Nat} (hP:P<M64) (hn:n<M64) (b:UInt8):byByte P n b<M64:=by
 have:=b.toNat_lt
 exact xor_lt64 (by omega) (bitsN_lt hP (Nat.lt_of_lt_of_le (xor_lt8 (Nat.mod_lt _ (by omega)) (by omega)) (by unfold M64;omega)) 8)
theorem add_lt {P:Nat} (hP:P<M64) (bs:List UInt8):∀ n,n<M64→add P n bs<M64:=by
 induction bs with
 | nil=>intro n h;exact h
 | cons b bs ih=>intro n h;exact ih _ (byByte_lt hP h b)
theorem byBits_lt32 {P n:Nat} (hP:P<M32) (hn:n<M32) (b:UInt8):byBits P n b<M32:=by
 have:=b.toNat_lt
 exact bitsN_lt32 hP (xor_lt32 hn (Nat.lt_of_lt_of_le this (by unfold M32;omega))) 8
theorem add_lt32 {P:Nat} (hP:P<M32) (bs:List UInt8):∀ n,n<M32→add P n bs<M32:=by
 induction bs with
 | nil=>intro n h;exact h
 | cons b bs ih=>intro n h;refine ih _ ?_;rw [byByte_eq];exact byBits_lt32 hP h b
end Go.Proofs.YtablgjhnpphodaaGreat.Crc
namespace Go.Proofs.YtablgjhnpphodaaGreat
open Lib (hid)
open Go.RowKit
def crcCells (n all:Int) (tab:Nat→Int):Array Value:=(Value.int .u64 n::Value.int .u64 all::(List.range 256).map fun i=>Value.int .u64 (tab i)).toArray
theorem crcCells_0 (n all:Int) (tab:Nat→Int):(crcCells n all tab)[0]?=some (.int .u64 n):=by simp [crcCells]
theorem crcCells_1 (n all:Int) (tab:Nat→Int):(crcCells n all tab)[1]?=some (.int .u64 all):=by simp [crcCells]
theorem crcCells_2 (n all:Int) (tab:Nat→Int) (i:Nat) (hi:i<256):(crcCells n all tab)[2+i]?=some (.int .u64 (tab i)):=by
 simp [crcCells,Nat.add_comm 2 i,hi]
theorem crcCells_set0 (n m all:Int) (tab:Nat→Int):(crcCells n all tab).setIfInBounds 0 (.int .u64 m)=crcCells m all tab:=by simp [crcCells]
theorem crcCells_set2 (n all v:Int) (tab:Nat→Int) (i:Nat) (_hi:i<256):(crcCells n all tab).setIfInBounds (2+i) (.int .u64 v)=crcCells n all (fun j=>if j=i then v else tab j):=by
 apply Array.ext_getElem?
 intro k
 rw [Array.getElem?_setIfInBounds]
 have hsz:∀ t,(crcCells n all t).size=258:=fun t=>by simp [crcCells]
 rcases Nat.lt_or_ge k 258 with hk | hk
 ·match k with
  | 0=>rw [if_neg (by omega),crcCells_0,crcCells_0]
  | 1=>rw [if_neg (by omega),crcCells_1,crcCells_1]
  | k+2 =>
   rw [show k+2=2+k by omega,crcCells_2 _ _ _ k (by omega),crcCells_2 _ _ _ k (by omega),hsz]
   by_cases h:k=i
   ·subst h;simp;omega
   rw [if_neg (by omega),if_neg h]
 rw [Array.getElem?_eq_none (by rw [hsz];omega),Array.getElem?_eq_none (by rw [hsz];omega)]
 split
 ·split
  ·rename_i h1 h2;rw [hsz] at h2;omega
  rfl
 rfl
theorem Tryz.build_crc (a b:Int) (w:World):(Instr.build 104 #[(0,.int .u64 a),(1,.int .u64 b)]).run Tryz.prog w=.ok (.agg (crcCells a b fun _=>0)) w:=by kernel_rfl
theorem bit_raw1 {P x:Nat} (hx:x<Num.M64) (hP:P<Num.M64) (h:(bits .and .u64 (x:Int) 1==1)=true):bits .xor .u64 ((x:Int) / 2) (P:Int)=((Crc.bit P x:Nat):Int):=by
 rw [Num.and64_1 hx] at h
 have h1:x % 2=1:=by simp at h;omega
 rw [show (x:Int) / 2=((x / 2:Nat):Int) by omega,Num.xor64 (by omega) hP]
 simp [Crc.bit,h1]
theorem bit_raw0 {P x:Nat} (hx:x<Num.M64) (h:(bits .and .u64 (x:Int) 1==1)=false):(x:Int) / 2=((Crc.bit P x:Nat):Int):=by
 rw [Num.and64_1 hx] at h
 have h1:¬ x % 2=1:=by simp at h;omega
 simp [Crc.bit,h1]
def tabOf (P:Nat) (i:Nat):Int:=((Crc.bitsN P 8 i:Nat):Int)
def CrcAt (w:World) (b P n:Nat) (all:Int):Prop:=Pts w b (crcCells n all (tabOf P)) 104
theorem crcCells_congr {n all:Int} {t t':Nat→Int} (h:∀ i,i<256→t i=t' i):crcCells n all t=crcCells n all t':=by
 unfold crcCells
 congr 3
 apply List.map_congr_left
 intro i hi
 rw [h i (by simpa using hi)]
set_option maxRecDepth 1000000 in
theorem newCRC_any (poly all:Int) (P:Nat) (hpoly:poly=P) (hP:P<Num.M64) (w:World) :
 Calls Tryz.prog 35 #[.int .u64 poly,.int .u64 all] w fun e w'=>e=.returned (.pointer (some ⟨w.heap.size,0,none⟩))∧Pts w' w.heap.size (crcCells all all (tabOf P)) 104∧Below w.heap.size w w':=by
 subst hpoly
 have HPL:=hid hP
 clear hP
 go_enter Tryz.func35,Tryz.ntmps35
 go_wp2_with (refine wpList_build 104 _ rfl rfl (.agg (crcCells all all fun _=>0)) #[(0,.int .u64 all),(1,.int .u64 all)] (by simp [Act.eval]) (Tryz.build_crc all all _) ?_)
 go_loopw [13] (fun i wr=>∃ (k:Nat) (tab:Nat→Int),k≤256∧i=.int .i64 k∧(∀ j,j<k→tab j=tabOf P j)∧Pts wr w.heap.size (crcCells all all tab) 104∧Below w.heap.size w wr) (fun i _=>256-(intOf i).toNat)
 case atStart=>exact ⟨0,fun _=>0,by omega,rfl,fun j hj=>absurd hj (by omega),Pts.new _ _ _,(Below.refl _ _).alloc (Nat.le_refl _) _⟩
 obtain ⟨k,tab,hk,rfl,htab,hp,hb⟩:=hrel
 have HT:=hid htab
 have HP:=hid hp
 have HB:=hid hb
 clear htab hp hb
 by_cases hlt:k<256
 ·have f2:=Pts.frozen HP.out (2+k)
  have c2:=HP.out.cell (2+k)
  rw [crcCells_2 _ _ _ k hlt] at c2
  go_wp2
  obtain ⟨wo,rfl⟩:∃ wo:World,wo=wr:=⟨_,rfl⟩
  go_loop [18,7] (fun j x=>∃ n:Nat,n≤8∧j=.int .i64 n∧x=.int .u64 ((Crc.bitsN P n k:Nat):Int)) (fun j _=>8-(intOf j).toNat)
  case atStart=>exact ⟨0,by omega,rfl,rfl⟩
  obtain ⟨n,hn,rfl,rfl⟩:=hrel
  have hs:Crc.bitsN P (n+1) k=Crc.bit P (Crc.bitsN P n k):=rfl
  have HS:=hid hs
  have HX:=hid (Crc.bitsN_lt HPL.out (Nat.lt_of_lt_of_le hlt (by unfold Num.M64;omega)) n)
  clear hs
  by_cases hnt:n<8
  ·generalize Crc.bitsN P n k=x at *
   go_wp2
   ·have h:(bits .and .u64 (x:Int) 1==1)=true:=by assumption
    exact ⟨⟨n+1,by omega,by go_num,by rw [HS.out,bit_raw1 HX.out HPL.out h]⟩,by simp [intOf];omega⟩
   have h:(bits .and .u64 (x:Int) 1==1)=false:=by assumption
   exact ⟨⟨n+1,by omega,by go_num,by rw [HS.out,bit_raw0 HX.out h]⟩,by simp [intOf];omega⟩
  have hn8:n=8:=by omega
  subst hn8
  go_wp2
  refine ⟨⟨k+1,fun j=>if j=k then tabOf P k else tab j,by omega,by go_num,fun j hj=>?_,?_,HB.out.setCell (Nat.le_refl _) _⟩,by simp [intOf];omega⟩
  ·by_cases hjk:j=k
   ·simp [hjk]
   simp only [hjk,if_false];exact HT.out j (by omega)
  rw [← crcCells_set2 all all (tabOf P k) tab k hlt]
  exact Pts.set HP.out (2+k) _
 have hk256:k=256:=by omega
 subst hk256
 go_wp2
 go_ret
 exact ⟨rfl,by rw [← crcCells_congr (HT.out)];exact HP.out,HB.out⟩
theorem crcValue_any (b P n all:Nat) (w:World) (h:CrcAt w b P n all) (hn:n<Num.M64) (ha:all<Num.M64) :
 Calls Tryz.prog 149 #[.pointer (some ⟨b,0,none⟩)] w fun e w'=>e=.returned (.int .u64 ((n ^^^ all:Nat):Int))∧∃ d,w'=w.drewN d:=by
 have h0:w.cell? ⟨b,0,none⟩=some (.int .u64 n):=by rw [Pts.cell h,crcCells_0]
 have h1:w.cell? ⟨b,1,none⟩=some (.int .u64 all):=by rw [Pts.cell h,crcCells_1]
 have hx:=hid (Num.xor64 hn ha)
 clear h hn ha
 go_enter Tryz.func149,Tryz.ntmps149
 go_wp2
 go_quiet (fail)
 go_wp2
 go_ret
 exact ⟨ret_int hx.out,_,rfl⟩
set_option maxRecDepth 100000 in
set_option maxHeartbeats 1000000 in
theorem crcAdd_off (b P n c B:Nat) (all:Int) (A:Option Addr) (bs:List UInt8) (w:World) (h:CrcAt w b P n all) (hP:P<Num.M64) (hn:n<Num.M64) (hr:BRow w B A bs) (hoff:BOff (· = b) A bs) (hlen:bs.length≤140737488355328) :
 Calls Tryz.prog 148 #[.pointer (some ⟨b,0,none⟩),.slice A bs.length c] w fun e w'=>e=.returned (.tuple #[])∧CrcAt w' b P (Crc.add P n bs) all∧Frm (· = b) w w':=by
 have HPL:=hid hP
 have HN:=hid hn
 have HR:=hid hr
 have HOFF:=hid hoff
 have HC:=hid h
 clear hP hn hr h hoff
 go_enter Tryz.func148,Tryz.ntmps148
 go_wp2
 go_loopw [8] (fun i wr=>∃ k:Nat,k≤bs.length∧i=.int .i64 k∧CrcAt wr b P (Crc.add P n (bs.take k)) all∧Frm (· = b) w wr) (fun i _=>bs.length-(intOf i).toNat)
 case atStart=>exact ⟨0,by omega,rfl,by simpa [Crc.add] using HC.out,Frm.refl _ _⟩
 obtain ⟨k,hk,rfl,hc,hf⟩:=hrel
 by_cases hlt:k<bs.length
 ·obtain ⟨ab,aoff,hA,_,hcell⟩:=HR.out (by omega)
  have hab:ab≠b:=HOFF.out (by omega) _ hA
  subst hA
  have hx:wr.cell? ⟨ab,aoff+k,none⟩=some (byteV (bs.getD k 0)):=by
   rw [World.cell?_of_block (hf.block ab (World.block_lt_of_cell? w ⟨ab,aoff+k,none⟩ (hcell k hlt)) (by show ¬ _=_;omega))]
   exact hcell k hlt
  unfold byteV at hx
  have hstep:Crc.add P n (bs.take (k+1))=Crc.byByte P (Crc.add P n (bs.take k)) (bs.getD k 0):=by
   unfold Crc.add
   rw [List.take_succ_eq_append_getElem hlt,List.foldl_append]
   simp [List.getD,hlt]
  have HS:=hid hstep
  have HM:=hid (Crc.add_lt HPL.out (bs.take k) n HN.out)
  clear hstep hcell
  generalize Crc.add P n (bs.take k)=m at *
  generalize bs.getD k 0=u at *
  have hu:=u.toNat_lt
  have hj:=Num.xor8 (Nat.mod_lt m (show 256 > 0 by omega)) hu
  have hjl:=Num.xor_lt8 (Nat.mod_lt m (show 256 > 0 by omega)) hu
  have hw8:IntKind.u8.wrap (m:Int)=(m:Int) % 256:=by rw [Num.wrap8];omega
  rw [show ((m % 256:Nat):Int)=(m:Int) % 256 by omega] at hj
  obtain ⟨j,hjj⟩:∃ j,m % 256 ^^^ u.toNat=j:=⟨_,rfl⟩
  rw [hjj] at hj hjl
  have c0:wr.cell? ⟨b,0,none⟩=some (.int .u64 m):=by rw [Pts.cell hc,crcCells_0]
  have c2:wr.cell? ⟨b,2+j,none⟩=some (.int .u64 ((Crc.bitsN P 8 j:Nat):Int)):=by rw [Pts.cell hc,crcCells_2 _ _ _ j hjl];rfl
  have f0:=Pts.frozen hc 0
  have ht:=Crc.bitsN_lt HPL.out (Nat.lt_of_lt_of_le hjl (by unfold Num.M64;omega):j<Num.M64) 8
  have hxx:=Num.xor64 (a:=m / 256) (b:=Crc.bitsN P 8 j) (by have:=HM.out;omega) ht
  rw [show ((m / 256:Nat):Int)=(m:Int) / 256 by omega,show (m / 256) ^^^ Crc.bitsN P 8 j=Crc.byByte P m u by unfold Crc.byByte;rw [hjj]] at hxx
  generalize hvv:Crc.byByte P m u=v at *
  have HCC:=hid hc
  have HF:=hid hf
  clear hc hf ht hjj hvv
  generalize Crc.bitsN P 8 j=t at *
  go_wp2
  have hji:(j:Int)<256:=by omega
  have hji0:0≤(j:Int):=by omega
  go_still_tail 21,(by kernel_rfl)
  change wpList _ _ _ _ _ wr.drew
  go_wp2
  refine ⟨⟨k+1,by omega,by go_num,?_,HF.out.drew.setCell (by rfl) _⟩,by simp [intOf];omega⟩
  rw [HS.out]
  have h:=Pts.set (Pts.drew HCC.out) 0 (.int .u64 (v:Int))
  rw [crcCells_set0] at h
  exact h
 have hkk:k=bs.length:=by omega
 subst hkk
 go_wp2
 go_end0
 exact ⟨rfl,by simpa using hc,hf⟩
end Go.Proofs.YtablgjhnpphodaaGreat
namespace Go.Proofs.YtablgjhnpphodaaGreat.Xxh
open Go.Proofs.YtablgjhnpphodaaGreat.Num
def xr (a b:Int):Int:=bits .xor .u64 a b
def mulU (a b:Int):Int:=IntKind.u64.wrap (a*b)
def addU (a b:Int):Int:=IntKind.u64.wrap (a+b)
def turn (x n:Int):Int:=bits .or .u64 (IntKind.u64.wrap (x*2 ^ n.toNat)) (x / 2 ^ (64-n).toNat)
def round (a x:Int):Int:=mulU (turn (addU a (mulU x 14029467366897019727)) 31) 11400714785074694791
def le:List UInt8→Nat
 | []=>0
 | b::bs=>b.toNat+256*le bs
structure L4 where
 a:Int
 b:Int
 c:Int
 d:Int
def L4.get (L:L4):Nat→Int
 | 0=>L.a
 | 1=>L.b
 | 2=>L.c
 | _=>L.d
def L4.set (L:L4):Nat→Int→L4
 | 0,v=>{ L with a:=v }
 | 1,v=>{ L with b:=v }
 | 2,v=>{ L with c:=v }
 | _,v=>{ L with d:=v }
def upd (l:List UInt8):Nat→L4→L4
 | 0,L=>L
 | k+1,L=>let M:=upd l k L;M.set k (round (M.get k) (le ((l.drop (8*k)).take 8)))
def eat:Nat→List UInt8→L4→L4
 | 0,_,L=>L
 | n+1,l,L=>eat n (l.drop 32) (upd l 4 L)
def start:L4:=⟨addU 11400714785074694791 14029467366897019727,14029467366897019727,0,IntKind.u64.wrap (-11400714785074694791)⟩
def lanes (l:List UInt8):L4:=eat (l.length / 32) l start
def rest (l:List UInt8):List UInt8:=l.drop (32*(l.length / 32))
def eights:Nat→Int→List UInt8→Int
 | 0,x,_=>x
 | n+1,x,l=>eights n (addU (mulU (turn (xr x (round 0 (le (l.take 8)))) 27) 11400714785074694791) 9650029242287828579) (l.drop 8)
def four (x:Int) (l:List UInt8):Int:=addU (mulU (turn (xr x (mulU (le (l.take 4)) 11400714785074694791)) 23) 14029467366897019727) 1609587929392839161
def one (x:Int) (c:UInt8):Int:=mulU (turn (xr x (mulU c.toNat 2870177450012600261)) 11) 11400714785074694791
def ones (x:Int) (l:List UInt8):Int:=l.foldl one x
def last1 (x:Int):Int:=mulU (xr x (x / 8589934592)) 14029467366897019727
def last2 (x:Int):Int:=mulU (xr x (x / 536870912)) 1609587929392839161
def last3 (x:Int):Int:=xr x (x / 4294967296)
def tail (x:Int) (l:List UInt8):Int :=
 let y:=eights (l.length / 8) x l
 let m:=l.drop (8*(l.length / 8))
 last3 (last2 (last1 (if 4≤m.length then ones (four y m) (m.drop 4) else ones y m)))
def join1 (L:L4):Int:=addU (addU (addU (turn L.a 1) (turn L.b 7)) (turn L.c 12)) (turn L.d 18)
def join2 (x a:Int):Int:=addU (mulU (xr x (round 0 a)) 11400714785074694791) 9650029242287828579
def head (l:List UInt8):Int:=if 32≤l.length then join2 (join2 (join2 (join2 (join1 (lanes l)) (lanes l).a) (lanes l).b) (lanes l).c) (lanes l).d else 2870177450012600261
def xxh64 (l:List UInt8):Int:=tail (addU (head l) l.length) (rest l)
end Go.Proofs.YtablgjhnpphodaaGreat.Xxh
namespace Go.Proofs.YtablgjhnpphodaaGreat
open Lib (hid)
open Go.RowKit
open Go.RowKit
def xxhCells (L:Xxh.L4) (v:Value) (n:Int):Array Value:=#[.int .u64 L.a,.int .u64 L.b,.int .u64 L.c,.int .u64 L.d,v,.int .u64 n]
def XxhAt (w:World) (b:Nat) (v:Value) (all:List UInt8):Prop :=
 Pts w b (xxhCells (Xxh.lanes all) v all.length) 107∧OwnB w 5 (b+1) v (Xxh.rest all)
theorem newXXH_any (w:World) :
 Calls Tryz.prog 36 #[] w fun e w'=>e=.returned (.pointer (some ⟨w.heap.size,0,none⟩))∧XxhAt w' w.heap.size (.slice none 0 0) []∧Below w.heap.size w w':=by
 go_enter Tryz.func36,Tryz.ntmps36
 go_wp2
 go_ret
 exact ⟨rfl,⟨Pts.new _ _ _,OwnB.nil _ _ _⟩,(Below.refl _ _).alloc (Nat.le_refl _) _⟩
open Go.RowKit
open Go.RowKit
open Go.RowKit
open Go.RowKit
def P32:Nat:=3988292384
def P64:Nat:=14514072000185962306
def crc32 (bs:List UInt8):Nat:=Crc.add P32 (Num.M32-1) bs ^^^ (Num.M32-1)
def crc64 (bs:List UInt8):Nat:=Crc.add P64 (Num.M64-1) bs ^^^ (Num.M64-1)
def sumOf (kind:Int) (bs:List UInt8):Int:=if kind=1 then (crc32 bs:Int) else if kind=2 then (crc64 bs:Int) else if kind=3 then Xxh.xxh64 bs else 0
theorem sumOf_1 (bs:List UInt8):sumOf 1 bs=((Crc.add P32 (Num.M32-1) bs ^^^ (Num.M32-1):Nat):Int):=by unfold sumOf;rw [if_pos rfl];unfold crc32;exact Eq.refl _
theorem sumOf_2 (bs:List UInt8):sumOf 2 bs=((Crc.add P64 (Num.M64-1) bs ^^^ (Num.M64-1):Nat):Int):=by unfold sumOf;rw [if_neg (by decide),if_pos rfl];unfold crc64;exact Eq.refl _
def sumCells (T:TypeId) (c:Nat):Array Value:=#[.iface T (.pointer (some ⟨c,0,none⟩))]
inductive SumAt (w:World) (s:Nat) (own:Nat→Prop) (kind:Int) (all:List UInt8):Prop
 | crc32 (c:Nat) (hk:kind=1) (hs:Pts w s (sumCells 63 c) 68) (hc:CrcAt w c P32 (Crc.add P32 (Num.M32-1) all) ((Num.M32-1:Nat):Int)) (ho:∀ k,own k↔(k=s∨k=c)) (hne:s≠c)
 | crc64 (c:Nat) (hk:kind=2) (hs:Pts w s (sumCells 63 c) 68) (hc:CrcAt w c P64 (Crc.add P64 (Num.M64-1) all) ((Num.M64-1:Nat):Int)) (ho:∀ k,own k↔(k=s∨k=c)) (hne:s≠c)
 | xxh64 (c:Nat) (v:Value) (hk:kind=3) (hs:Pts w s (sumCells 69 c) 68) (hc:XxhAt w c v all) (ho:∀ k,own k↔(k=s∨k=c∨v.ownBlock=some k)) (hne:s≠c∧v.ownBlock≠some s)
 | none (hk:kind≠1∧kind≠2∧kind≠3) (hs:Pts w s #[.nilIface] 68) (ho:∀ k,own k↔k=s)
theorem meth_cv (a : Addr) (w : World) : (method 371 63 (.pointer (some a)) "baler/sums.value").run Tryz.prog w = .ok (149, .pointer (some a)) w := by kernel_rfl
theorem meth_ca (a : Addr) (w : World) : (method 371 63 (.pointer (some a)) "baler/sums.add").run Tryz.prog w = .ok (148, .pointer (some a)) w := by kernel_rfl
theorem eql_c (x:Value) (w:World):(binOp .eql 66 (.iface 63 x) .nilIface).run Tryz.prog w=.ok (.bool false) w:=by kernel_rfl
theorem eql_n (w:World):(binOp .eql 66 .nilIface .nilIface).run Tryz.prog w=.ok (.bool true) w:=by kernel_rfl
theorem neq_c (x:Value) (w:World):(binOp .neq 66 (.iface 63 x) .nilIface).run Tryz.prog w=.ok (.bool true) w:=by kernel_rfl
theorem neq_n (w:World):(binOp .neq 66 .nilIface .nilIface).run Tryz.prog w=.ok (.bool false) w:=by kernel_rfl
theorem P32_lt:P32<Num.M64:=by decide
theorem P32_lt32:P32<Num.M32:=by decide
theorem P64_lt:P64<Num.M64:=by decide
theorem c32_lt (bs:List UInt8):Crc.add P32 (Num.M32-1) bs<Num.M64:=Nat.lt_of_lt_of_le (Crc.add_lt32 P32_lt32 bs _ (by decide)) (by decide)
theorem c64_lt (bs:List UInt8):Crc.add P64 (Num.M64-1) bs<Num.M64:=Crc.add_lt P64_lt bs _ (by decide)
open Go.RowKit
theorem value_crc (s:Nat) (own:Nat→Prop) (kind:Int) (all:List UInt8) (w:World) (h:SumAt w s own kind all) (hk3:kind≠3) (hlen:all.length≤140737488355328) :
 Calls Tryz.prog 28 #[.pointer (some ⟨s,0,none⟩)] w fun e w'=>e=.returned (.int .u64 (sumOf kind all))∧∃ d,w'=w.drewN d:=by
 have q1:=eql_c
 have q3:=eql_n
 clear hlen
 cases h with
 | crc32 c hk hs hc ho hne =>
  have h0:w.cell? ⟨s,0,none⟩=some (.iface 63 (.pointer (some ⟨c,0,none⟩))):=by rw [hs.cell];rfl
  have hm:=meth_cv
  have HC:=hid hc
  have HK:=hid hk
  clear hk hk3 hs hc ho hne
  go_enter Tryz.func28,Tryz.ntmps28
  go_wp2_with (go_at_call 149;refine (crcValue_any _ _ _ _ _ HC.out (c32_lt all) (by decide)).mono ?_;rintro e w' ⟨rfl,d,rfl⟩)
  go_ret
  exact ⟨ret_int (by rw [HK.out,sumOf_1]),_,rfl⟩
 | crc64 c hk hs hc ho hne =>
  have h0:w.cell? ⟨s,0,none⟩=some (.iface 63 (.pointer (some ⟨c,0,none⟩))):=by rw [hs.cell];rfl
  have hm:=meth_cv
  have HC:=hid hc
  have HK:=hid hk
  clear hk hk3 hs hc ho hne
  go_enter Tryz.func28,Tryz.ntmps28
  go_wp2_with (go_at_call 149;refine (crcValue_any _ _ _ _ _ HC.out (c64_lt all) (by decide)).mono ?_;rintro e w' ⟨rfl,d,rfl⟩)
  go_ret
  exact ⟨ret_int (by rw [HK.out,sumOf_2]),_,rfl⟩
 | xxh64 c v hk hs hc ho hne =>
  exact absurd hk hk3
 | none hk hs ho =>
  have h0:w.cell? ⟨s,0,none⟩=some .nilIface:=by rw [hs.cell];rfl
  have HK:=hid hk
  clear hk hk3 hs ho
  go_enter Tryz.func28,Tryz.ntmps28
  go_wp2
  go_ret
  exact ⟨ret_int (by obtain ⟨a,b,c⟩:=HK.out;unfold sumOf;rw [if_neg a,if_neg b,if_neg c]),0,rfl⟩
theorem add_crc (s:Nat) (own:Nat→Prop) (kind:Int) (all:List UInt8) (A:Option Addr) (bs:List UInt8) (n c B:Nat) (w:World) (h:SumAt w s own kind all) (hk3:kind≠3) (hn:n=bs.length) (hr:BRow w B A bs) (hoff:BOff own A bs) (hlen:all.length+bs.length≤140737488355328) :
 Calls Tryz.prog 20 #[.pointer (some ⟨s,0,none⟩),.slice A n c] w fun e w'=>e=.returned (.tuple #[])∧∃ own',SumAt w' s own' kind (all++bs)∧(∀ k,own' k→own k∨w.heap.size≤k)∧Frm own w w':=by
 subst hn
 have q1:=neq_c
 have q3:=neq_n
 have HB:=hid hoff
 have HR:=hid hr
 clear hoff hr
 cases h with
 | crc32 b hk hs hc ho hne =>
  have h0:w.cell? ⟨s,0,none⟩=some (.iface 63 (.pointer (some ⟨b,0,none⟩))):=by rw [hs.cell];rfl
  have hm:=meth_ca
  have HC:=hid hc
  have HK:=hid hk
  have HO:=hid ho
  have HS:=hid hs
  have HN:=hid hne
  clear hk hk3 hs hc ho hne
  go_enter Tryz.func20,Tryz.ntmps20
  go_wp2_with (go_at_call 148;refine (crcAdd_off _ _ _ _ B _ _ bs _ HC.out P32_lt (c32_lt all) HR.out (fun h0 ad e e2=>HB.out h0 ad e ((HO.out _).2 (.inr e2))) (by omega)).mono ?_;rintro e w' ⟨rfl,h1,h2⟩)
  go_end0
  refine ⟨rfl,own,.crc32 b HK.out (Pts.frm HS.out h2 HN.out) (by rw [Crc.add_append];exact h1) HO.out HN.out,fun k hk=>.inl hk,h2.mono fun k _ hk=>(HO.out k).2 (.inr hk)⟩
 | crc64 b hk hs hc ho hne =>
  have h0:w.cell? ⟨s,0,none⟩=some (.iface 63 (.pointer (some ⟨b,0,none⟩))):=by rw [hs.cell];rfl
  have hm:=meth_ca
  have HC:=hid hc
  have HK:=hid hk
  have HO:=hid ho
  have HS:=hid hs
  have HN:=hid hne
  clear hk hk3 hs hc ho hne
  go_enter Tryz.func20,Tryz.ntmps20
  go_wp2_with (go_at_call 148;refine (crcAdd_off _ _ _ _ B _ _ bs _ HC.out P64_lt (c64_lt all) HR.out (fun h0 ad e e2=>HB.out h0 ad e ((HO.out _).2 (.inr e2))) (by omega)).mono ?_;rintro e w' ⟨rfl,h1,h2⟩)
  go_end0
  refine ⟨rfl,own,.crc64 b HK.out (Pts.frm HS.out h2 HN.out) (by rw [Crc.add_append];exact h1) HO.out HN.out,fun k hk=>.inl hk,h2.mono fun k _ hk=>(HO.out k).2 (.inr hk)⟩
 | xxh64 b v hk hs hc ho hne =>
  exact absurd hk hk3
 | none hk hs ho =>
  have h0:w.cell? ⟨s,0,none⟩=some .nilIface:=by rw [hs.cell];rfl
  have HK:=hid hk
  have HO:=hid ho
  have HS:=hid hs
  clear hk hk3 hs ho
  go_enter Tryz.func20,Tryz.ntmps20
  go_wp2
  go_end0
  exact ⟨rfl,own,.none HK.out HS.out HO.out,fun k hk=>.inl hk,Frm.refl _ _⟩
open Go.RowKit
theorem new_any (kind:Int) (w:World) :
 Calls Tryz.prog 18 #[.int .i64 kind] w fun e w'=>∃ s own,e=.returned (.pointer (some ⟨s,0,none⟩))∧SumAt w' s own kind []∧(∀ k,own k→w.heap.size≤k)∧Below w.heap.size w w':=by
 by_cases h1:kind=1
 ·subst h1
  go_enter Tryz.func18,Tryz.ntmps18
  go_wp2_with (go_at_call 35;refine (newCRC_any _ _ P32 (by rfl) P32_lt _).mono ?_;rintro e w1 ⟨rfl,h1,h2⟩)
  go_ret
  have hc:w.heap.size<w1.heap.size:=h1.lt
  refine ⟨w1.heap.size,fun k=>k=w1.heap.size∨k=w.heap.size,rfl,.crc32 w.heap.size rfl (Pts.new _ _ _) (Pts.alloc h1 _) (fun _=>Iff.rfl) (by omega),?_,h2.alloc h2.size _⟩
  rintro k (rfl | rfl)
  ·omega
  omega
 by_cases h2:kind=2
 ·subst h2
  go_enter Tryz.func18,Tryz.ntmps18
  go_wp2_with (go_at_call 35;refine (newCRC_any _ _ P64 (by rfl) P64_lt _).mono ?_;rintro e w1 ⟨rfl,h1,h2⟩)
  go_ret
  have hc:w.heap.size<w1.heap.size:=h1.lt
  refine ⟨w1.heap.size,fun k=>k=w1.heap.size∨k=w.heap.size,rfl,.crc64 w.heap.size rfl (Pts.new _ _ _) (Pts.alloc h1 _) (fun _=>Iff.rfl) (by omega),?_,h2.alloc h2.size _⟩
  rintro k (rfl | rfl)
  ·omega
  omega
 by_cases h3:kind=3
 ·subst h3
  go_enter Tryz.func18,Tryz.ntmps18
  go_wp2_with (go_at_call 36;refine (newXXH_any _).mono ?_;rintro e w1 ⟨rfl,h1,h2⟩)
  go_ret
  have hc:w.heap.size<w1.heap.size:=h1.1.lt
  refine ⟨w1.heap.size,fun k=>k=w1.heap.size∨k=w.heap.size∨(Value.slice none 0 0).ownBlock=some k,rfl,.xxh64 w.heap.size (.slice none 0 0) rfl (Pts.new _ _ _) ⟨Pts.alloc h1.1 _,OwnB.nil _ _ _⟩ (fun _=>Iff.rfl) ⟨by omega,by simp [Value.ownBlock]⟩,?_,h2.alloc h2.size _⟩
  rintro k (rfl | rfl | h)
  ·omega
  ·omega
  simp [Value.ownBlock] at h
 have e1:(kind==1)=false:=by simpa using h1
 have e2:(kind==2)=false:=by simpa using h2
 have e3:(kind==3)=false:=by simpa using h3
 have HK:=hid (show kind≠1∧kind≠2∧kind≠3 from ⟨h1,h2,h3⟩)
 clear h1 h2 h3
 go_enter Tryz.func18,Tryz.ntmps18
 go_wp2
 go_ret
 exact ⟨w.heap.size,fun k=>k=w.heap.size,rfl,.none HK.out (Pts.new _ _ _) (fun _=>Iff.rfl),fun k hk=>by omega,(Below.refl _ _).alloc (Nat.le_refl _) _⟩
theorem of_crc (kind:Int) (hk3:kind≠3) (A:Option Addr) (bs:List UInt8) (n c:Nat) (w:World) (hn:n=bs.length) (hr:BRow w w.heap.size A bs) (hlen:bs.length≤140737488355328) :
 Calls Tryz.prog 68 #[.int .i64 kind,.slice A n c] w fun e w'=>e=.returned (.int .u64 (sumOf kind bs))∧Below w.heap.size w w':=by
 subst hn
 have HR:=hid hr
 have HK3:=hid hk3
 clear hr hk3
 go_enter Tryz.func68,Tryz.ntmps68
 go_wp2_with fail
 refine (new_any _ _).mono ?_;rintro e w1 ⟨s,own,rfl,h1,h2,h3⟩
 go_wp2_with fail
 refine (add_crc s own kind [] A bs bs.length c w.heap.size _ h1 HK3.out rfl (HR.out.below h3) (BOff.of_row (HR.out.below h3) h2) (by simpa using hlen)).mono ?_;rintro e w2 ⟨rfl,own',h4,h5,h6⟩
 have h7:=h6.below (B:=w.heap.size) h3.size h2
 go_wp2_with fail
 refine (value_crc s own' kind ([]++bs) _ h4 HK3.out (by simpa using hlen)).mono ?_;rintro e w3 ⟨rfl,d,rfl⟩
 go_wp2
 go_ret
 exact ⟨rfl,below_drewN (h3.trans h7) d⟩
theorem c32_lt32 (bs:List UInt8):crc32 bs<Num.M32:=Num.xor_lt32 (Crc.add_lt32 P32_lt32 bs _ (by decide)) (by decide)
theorem c64_lt64 (bs:List UInt8):crc64 bs<Num.M64:=Num.xor_lt64 (c64_lt bs) (by decide)
theorem crc32_any (A:Option Addr) (bs:List UInt8) (n c:Nat) (w:World) (hn:n=bs.length) (hr:BRow w w.heap.size A bs) (hlen:bs.length≤140737488355328) :
 Calls Tryz.prog 50 #[.slice A n c] w fun e w'=>e=.returned (.int .u32 (crc32 bs:Int))∧Below w.heap.size w w':=by
 have h32:IntKind.u32.wrap (sumOf 1 bs)=(crc32 bs:Int):=by
  rw [show sumOf 1 bs=(crc32 bs:Int) from sumOf_1 bs,Num.wrap32,Nat.mod_eq_of_lt (c32_lt32 bs)]
 have H32:=hid h32
 subst hn
 have HR:=hid hr
 clear hr h32
 go_enter Tryz.func50,Tryz.ntmps50
 go_wp2_with fail
 refine (of_crc _ (by decide) A bs bs.length c _ rfl HR.out hlen).mono ?_;rintro e w2 ⟨rfl,h4⟩
 go_wp2
 go_ret
 exact ⟨ret_int H32.out,h4⟩
open Go.RowKit
def RxAt (w:World) (rb fb bud:Nat) (put hold:Value) (kind:Int) (told:Nat) (lv:Value):Prop :=
 Pts w rb #[.pointer (some ⟨fb,0,none⟩),.int .i64 bud,put,hold,.int .i64 kind,.int .i64 told,lv] 79
theorem RxAt.cells {w:World} {rb fb bud:Nat} {put hold:Value} {kind:Int} {told:Nat} {lv:Value} (h:RxAt w rb fb bud put hold kind told lv) :
 w.cell? ⟨rb,0,none⟩=some (.pointer (some ⟨fb,0,none⟩))∧w.cell? ⟨rb,1,none⟩=some (.int .i64 bud)∧w.cell? ⟨rb,2,none⟩=some put∧w.cell? ⟨rb,3,none⟩=some hold∧w.cell? ⟨rb,4,none⟩=some (.int .i64 kind)∧w.cell? ⟨rb,5,none⟩=some (.int .i64 told)∧w.cell? ⟨rb,6,none⟩=some lv :=
 ⟨by rw [Pts.cell h];rfl,by rw [Pts.cell h];rfl,by rw [Pts.cell h];rfl,by rw [Pts.cell h];rfl,by rw [Pts.cell h];rfl,by rw [Pts.cell h];rfl,by rw [Pts.cell h];rfl⟩
set_option maxHeartbeats 1000000 in
theorem rtake_p (rb fb bud:Nat) (put hold:Value) (kind:Int) (told:Nat) (lv:Value) (A:Option Addr) (n c used m:Nat) (w:World) (hr:RxAt w rb fb bud put hold kind told lv) (h:SrcAt w fb A n c used) (hc:n≤c) (hm:m≤n) (hu:used+m≤9223372036854775807) :
 Calls Tryz.prog 40 #[.pointer (some ⟨rb,0,none⟩),.int .i64 m] w fun e w'=>e=.returned (.tuple #[.slice A m m,.int .i64 0])∧SrcAt w' fb (takeA A c m) (n-m) (c-m) (used+m)∧Frm (· = fb) w w':=by
 have HT:=hid (take_p fb A n c used m w h hc hm hu)
 have c0:=hr.cells.1
 clear hr h hc hm hu
 go_enter Tryz.func40,Tryz.ntmps40
 go_wp2_with fail
 refine HT.out.mono ?_;rintro e w1 ⟨rfl,h1,h2⟩
 have H1:=hid (And.intro h1 h2)
 clear HT h1 h2
 go_wp2
 go_ret2
 exact ⟨rfl,H1.out.1,H1.out.2⟩
set_option maxHeartbeats 1000000 in
theorem rtake_no (rb fb bud:Nat) (put hold:Value) (kind:Int) (told:Nat) (lv:Value) (A:Option Addr) (n c used m:Nat) (w:World) (hr:RxAt w rb fb bud put hold kind told lv) (h:SrcAt w fb A n c used) (hm:n<m) :
 Calls Tryz.prog 40 #[.pointer (some ⟨rb,0,none⟩),.int .i64 m] w fun e w'=>e=.returned (.tuple #[.slice none 0 0,.int .i64 10])∧w=w':=by
 have HT:=hid (take_no fb A n c used m w h hm)
 have c0:=hr.cells.1
 clear hr h hm
 go_enter Tryz.func40,Tryz.ntmps40
 go_wp2_with fail
 refine HT.out.mono ?_;rintro e w1 ⟨rfl,h1⟩
 subst h1
 clear HT
 go_wp2
 go_ret2
 exact ⟨rfl,rfl⟩
def chkK (k:Int):Int:=if k=1 then 1 else if k=4 then 2 else 0
def chkN (k:Int):Nat:=if k=1 then 4 else if k=4 then 8 else 0
set_option maxHeartbeats 1000000 in
theorem check_p (kind:Int) (w:World) :
 Calls Tryz.prog 62 #[.int .i64 kind] w fun e w'=>∃ s own,e=.returned (.tuple #[.iface 42 (.pointer (some ⟨s,0,none⟩)),.int .i64 (chkN kind)])∧SumAt w' s own (chkK kind) []∧(∀ k,own k→w.heap.size≤k)∧Below w.heap.size w w':=by
 by_cases h1:kind=1
 ·subst h1
  have HN:=hid (new_any 1 w)
  go_enter Tryz.func62,Tryz.ntmps62
  go_wp2_with fail
  refine HN.out.mono ?_;rintro e w1 ⟨s,own,rfl,h1,h2,h3⟩
  have H1:=hid (And.intro h1 (And.intro h2 h3))
  clear HN h1 h2 h3
  go_wp2
  go_ret2
  exact ⟨s,own,rfl,H1.out.1,H1.out.2.1,H1.out.2.2⟩
 by_cases h4:kind=4
 ·subst h4
  have HN:=hid (new_any 2 w)
  go_enter Tryz.func62,Tryz.ntmps62
  go_wp2_with fail
  refine HN.out.mono ?_;rintro e w1 ⟨s,own,rfl,h1,h2,h3⟩
  have H1:=hid (And.intro h1 (And.intro h2 h3))
  clear HN h1 h2 h3
  go_wp2
  go_ret2
  exact ⟨s,own,rfl,H1.out.1,H1.out.2.1,H1.out.2.2⟩
 have e1:(kind==1)=false:=by simpa using h1
 have e4:(kind==4)=false:=by simpa using h4
 have k1:chkK kind=0:=by unfold chkK;rw [if_neg h1,if_neg h4]
 have k2:chkN kind=0:=by unfold chkN;rw [if_neg h1,if_neg h4]
 rw [k1,k2]
 have HN:=hid (new_any 0 w)
 clear h1 h4 k1 k2
 go_enter Tryz.func62,Tryz.ntmps62
 go_wp2_with fail
 refine HN.out.mono ?_;rintro e w1 ⟨s,own,rfl,h1,h2,h3⟩
 have H1:=hid (And.intro h1 (And.intro h2 h3))
 clear HN h1 h2 h3
 go_wp2
 go_ret2
 exact ⟨s,own,rfl,H1.out.1,H1.out.2.1,H1.out.2.2⟩
open Go.RowKit
theorem must_ok (c:Value) (e:Int) (w:World):Calls Tryz.prog 53 #[c,.bool true,.int .i64 e] w fun r w'=>r=.returned (.tuple #[])∧w=w':=by
 go_enter Tryz.func53,Tryz.ntmps53
 go_wp2
 go_end0
 exact ⟨rfl,rfl⟩
theorem must_bad (c:Value) (e:Int) (w:World):Calls Tryz.prog 53 #[c,.bool false,.int .i64 e] w fun r w'=>r=.panicked [{ v:=.iface 128 (.agg #[.int .i64 e]),recovered:=false }]∧w=w':=by
 go_enter Tryz.func53,Tryz.ntmps53
 go_wp2
 exact ⟨rfl,rfl,rfl⟩
theorem assert_wrong (V:Value) (w:World):(Instr.typeAssert (.iface 128 V) 20 128 true).run Tryz.prog w=.ok (.tuple #[V,.bool true]) w:=by kernel_rfl
theorem catch_panicking (b:Nat) (x x0:Int) (older:List PanicEntry) (w:World) (hp:Pts w b #[.int .i64 x0] 32) :
 CallsD Tryz.prog 51 #[.pointer (some ⟨b,0,none⟩)] (.panicking ({ v:=.iface 128 (.agg #[.int .i64 x]),recovered:=false }::older)) w fun e u' w' =>
  e=.returned (.tuple #[])∧u'=.panicking ({ v:=.iface 128 (.agg #[.int .i64 x]),recovered:=true }::older)∧Pts w' b #[.int .i64 x] 32∧Frm (· = b) w w':=by
 refine callsD_of_wpS Tryz.func51 rfl fun c₀ cs hu=>?_
 apply wpS_seq
 apply wpS_region
 simp [wpOpsS,go_sem,recoverD,hu,Tryz.ntmps51,Exit.thenS]
 refine wpS_of_wp ?_
 show Code.wp _ _ _ { tmps:=#[.pointer (some ⟨b,0,none⟩),undef,undef,undef,undef,.iface 128 (.agg #[.int .i64 x]),undef,undef,undef,undef,undef,undef,undef,undef,undef],defers:=[] } w
 have hta:=assert_wrong (.agg #[.int .i64 x])
 have hc:=(hp.alloc (.cells #[.int .i64 x] 128)).cell 0
 have hz:=(hp.alloc (.cells #[.int .i64 x] 128)).frozen 0
 have hr:=(hp.alloc (.cells #[.int .i64 x] 128)).set 0 (.int .i64 x)
 have hf:Frm (· = b) w ((w.alloc (.cells #[.int .i64 x] 128)).setCell ⟨b,0,none⟩ (.int .i64 x)):=((Frm.refl _ w).alloc _).setCell (by rfl) _
 have HR:=hid hr
 have HF:=hid hf
 clear hr hf hp
 go_wp2
 refine ⟨rfl,_,rfl,_,results_none rfl _ _ _,rfl,rfl,HR.out,HF.out⟩
theorem catch_idle (v:Value) (w:World):CallsD Tryz.prog 51 #[v] .returning w fun e u' w'=>e=.returned (.tuple #[])∧u'=.returning∧w'=w:=by
 refine callsD_of_wpS Tryz.func51 rfl fun c₀ cs hu=>?_
 apply wpS_seq
 apply wpS_region
 simp [wpOpsS,go_sem,recoverD,hu,Tryz.ntmps51,Exit.thenS]
 refine wpS_of_wp ?_
 show Code.wp _ _ _ { tmps:=#[v,undef,undef,undef,undef,.nilIface,undef,undef,undef,undef,undef,undef,undef,undef,undef],defers:=[] } w
 go_wp2
 refine ⟨rfl,.returning,by cases c₀;simp at hu;subst hu;rfl,_,results_none rfl _ _ _,rfl,rfl,rfl⟩
theorem slice_fromX (A:Option Addr) (n c f:Nat) (hf:f≤n) (hn:n≤c) (w:World) :
 (Instr.sliceAt 27 (.slice A n c) (some (.int .i64 (f:Int))) none none).run Tryz.prog w=.ok (.slice (if c=f then A else A.map (·.add f)) (n-f) (c-f)) w:=by
 by_cases hcf:c=f
 ·simp [go_sem,hcf]
  intro h;omega
 simp [go_sem,hcf]
 intro h;omega
theorem slice_toX (A:Option Addr) (n c m:Nat) (hf:m≤n) (hn:n≤c) (w:World) :
 (Instr.sliceAt 27 (.slice A n c) none (some (.int .i64 (m:Int))) none).run Tryz.prog w=.ok (.slice A m c) w:=by
 by_cases hcf:c=0
 ·simp [go_sem,hcf]
  intro h;omega
 simp [go_sem,hcf]
 intro h;omega
def CurAt (w:World) (cb B:Nat) (bs:List UInt8) (u:Nat):Prop :=
 ∃ A c,Pts w cb #[.slice A bs.length c,.int .i64 (u:Int)] 96∧BRow w B A bs∧bs.length≤c∧c≤maxLen∧B≤cb
theorem BRow.frm {S:Nat→Prop} {w w':World} {B:Nat} {A:Option Addr} {bs:List UInt8} (h:BRow w B A bs) (hf:Frm S w w') (hB:B≤w.heap.size) (hS:∀ k,S k→B≤k):BRow w' B A bs:=h.below (hf.below hB hS)
theorem CurAt.lt {w:World} {cb B u:Nat} {bs:List UInt8} (h:CurAt w cb B bs u):cb<w.heap.size∧B≤cb:=by
 obtain ⟨A,c,hp,_,_,_,h2⟩:=h
 exact ⟨hp.lt,h2⟩
theorem CurAt.frm {S:Nat→Prop} {w w':World} {cb B u:Nat} {bs:List UInt8} (h:CurAt w cb B bs u) (hf:Frm S w w') (h1:¬ S cb) (hS:∀ k,S k→B≤k):CurAt w' cb B bs u:=by
 have hl:=h.lt
 obtain ⟨A,c,hp,hr,h3,h4,h5⟩:=h
 exact ⟨A,c,hp.frm hf h1,hr.frm hf (by omega) hS,h3,h4,h5⟩
set_option maxRecDepth 100000 in
theorem take_ok (cb B n u:Nat) (e:Int) (bs:List UInt8) (w:World) (h:CurAt w cb B bs u) (hn:n≤bs.length) (hu:u+n<4611686018427387904) :
 Calls Tryz.prog 52 #[.pointer (some ⟨cb,0,none⟩),.int .i64 (n:Int),.int .i64 e] w fun r w'=>∃ A c,r=.returned (.slice A n c)∧BRow w' B A (bs.take n)∧n≤c∧c≤maxLen∧CurAt w' cb B (bs.drop n) (u+n)∧Frm (· = cb) w w':=by
 have hl:=h.lt
 obtain ⟨A,c,hp,hr,hc,hm,hB⟩:=h
 have hnc:n≤c:=Nat.le_trans hn hc
 have hs1:=fun w=>slice_toX A bs.length c n hn hc w
 have hs2:=fun w=>slice_fromX A bs.length c n hn hc w
 obtain ⟨A',hA'⟩:∃ A',(if c=n then A else A.map (·.add n))=A':=⟨_,rfl⟩
 have hrd:=hr.drop (k:=n) (cap:=c) hc
 rw [hA'] at hrd
 simp only [hA'] at hs2
 have hrt:=hr.take n
 have hcm:c-n≤maxLen:=by omega
 have c0:w.cell? ⟨cb,0,none⟩=some (.slice A bs.length c):=hp.cell 0
 have z0:=hp.frozen 0
 have c1:w.cell? ⟨cb,1,none⟩=some (.int .i64 (u:Int)):=hp.cell 1
 have z1:=hp.frozen 1
 have hp2:=(hp.set 0 (.slice A' (bs.length-n) (c-n))).set 1 (.int .i64 ((u:Int)+(n:Int)))
 have hf2:Frm (· = cb) w ((w.setCell ⟨cb,0,none⟩ (.slice A' (bs.length-n) (c-n))).setCell ⟨cb,1,none⟩ (.int .i64 ((u:Int)+(n:Int)))):=((Frm.refl _ w).setCell (by rfl) _).setCell (by rfl) _
 have HF2:=hid hf2
 have HP2:=hid hp2
 have HRD:=hid hrd
 have HRT:=hid hrt
 have hbn:(decide ((n:Int)≤(bs.length:Int)))=true:=by simp;omega
 have hcn:bs.length-n≤c-n:=by omega
 have HM:=hid hm
 have HCM:=hid hcm
 clear hf2 hp2 hrd hrt hp hr hA' hm hcm
 go_enter Tryz.func52,Tryz.ntmps52
 go_wp2_with fail
 refine (must_ok _ _ _).mono ?_;rintro r w1 ⟨rfl,rfl⟩
 go_wp2
 go_ret
 refine ⟨A,c,rfl,HRT.out.frm HF2.out (by omega) (fun k hk=>by omega),hnc,HM.out,⟨A',c-n,?_,HRD.out.frm HF2.out (by omega) (fun k hk=>by omega),by rw [List.length_drop];omega,HCM.out,hB⟩,HF2.out⟩
 rw [List.length_drop]
 exact HP2.out
theorem take_bad (cb B n u:Nat) (e:Int) (bs:List UInt8) (w:World) (h:CurAt w cb B bs u) (hn:bs.length<n) :
 Calls Tryz.prog 52 #[.pointer (some ⟨cb,0,none⟩),.int .i64 (n:Int),.int .i64 e] w fun r w'=>r=.panicked [{ v:=.iface 128 (.agg #[.int .i64 e]),recovered:=false }]∧w=w':=by
 obtain ⟨A,c,hp,hr,hc,hm,hB⟩:=h
 have c0:w.cell? ⟨cb,0,none⟩=some (.slice A bs.length c):=hp.cell 0
 have hbn:decide (n≤bs.length)=false:=by simp;omega
 clear hp hr hm
 go_enter Tryz.func52,Tryz.ntmps52
 go_wp2_with fail
 refine (must_bad _ _ _).mono ?_;rintro r w1 ⟨rfl,rfl⟩
 go_wp2
 exact ⟨rfl,rfl,rfl⟩
end Go.Proofs.YtablgjhnpphodaaGreat
