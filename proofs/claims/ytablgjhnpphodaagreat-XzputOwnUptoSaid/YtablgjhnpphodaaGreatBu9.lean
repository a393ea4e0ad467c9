import Derived.Test.YtablgjhnpphodaaGreatRows
import Derived.Deep.Matrix
import Derived.Test.YtablgjhnpphodaaGreatBu1
import Derived.Test.YtablgjhnpphodaaGreatBu3
import Derived.Test.YtablgjhnpphodaaGreatBu6
import Derived.Test.YtablgjhnpphodaaGreatBu7
import Derived.Test.YtablgjhnpphodaaGreatBu8
set_option linter.unusedVariables false
set_option linter.unusedSimpArgs false
namespace Go.Proofs.YtablgjhnpphodaaGreat
open Lib (hid)
open Go.RowKit Rng Win Lz Box
attribute [local go_sem] Oper.semAt_some
def XRunEnd (fb un:Nat) (M0:Nat→Prop) (J:(Nat→Prop)→List UInt8→World→Prop) (R:List UInt8×(Nat ⊕ List UInt8)) (w:World) (e:Ending) (w':World):Prop :=
 (∃ M',J M' R.1 w'∧∀ q,M' q→M0 q∨w.heap.size≤q)∧Frm (fun q=>M0 q∨q=fb) w w'∧match R.2 with
   | .inl z=>z≠0∧e=.returned (.int .i64 (z:Int))
   | .inr r=>e=.returned (.int .i64 0)∧∃ A n c used,SrcAt w' fb A n c used∧used+n=un∧n=r.length
theorem xrun_fin {fb un z B0 fput most D:Nat} {lb:Array Value} {M0 M:Nat→Prop} {J:(Nat→Prop)→List UInt8→World→Prop} {R:List UInt8×(Nat ⊕ List UInt8)} {out:List UInt8} {w W:World} {o o':Obj} (hp:PutOk Tryz.prog fput lb B0 most J) (hR:R=(out,.inl z)) (hz:z≠0) (hj:J M out W) (hM:∀ q,M q→M0 q∨w.heap.size≤q) (hf:Frm (fun q=>M0 q∨q=fb) w W) (ho:W.heap[D]?=some o) (hc:o.isCells=false) (hD:w.heap.size≤D) :
 XRunEnd fb un M0 J R w (.returned (.int .i64 (z:Int))) (W.putObj D o'):=by
 subst hR
 obtain ⟨k1,k2⟩:=frm_put (w:=w) (o':=o') ho hc hD
 exact ⟨⟨M,hp.keep M _ W _ hj (k1.mono fun q _ hq hm=>by obtain ⟨_,c,t,f,hcc⟩:=hp.own M _ W hj q hm;exact (k2 q hq).2 _ _ _ hcc),hM⟩,hf.transW k1 (fun q hq hlt=>by have:=(k2 q hq).1;omega),hz,rfl⟩
theorem put_cell {W:World} {eb D:Nat} {v:Value} {T:TypeId} {o o':Obj} (he:Pts W eb #[v] T) (ho:W.heap[D]?=some o) (hc:o.isCells=false):(W.putObj D o').cell? ⟨eb,0,none⟩=some v:=by
 have h:Pts (W.putObj D o') eb #[v] T:=(World.putObj_heap_other (cells_ne he ho hc)).trans he
 rw [h.cell]
 rfl
structure RnT (w:World) (rb fb eb cb bud D:Nat) (put hold:Value) (kind:Int) (told:Nat) (lv:Value) (M0 M:Nat→Prop) (J:(Nat→Prop)→List UInt8→World→Prop) (out:List UInt8) (W:World):Prop where
 e:Pts W eb #[.int .i64 0] 32
 c:Pts W cb #[.pointer (some ⟨rb,0,none⟩)] 76
 r:RxAt W rb fb bud put hold kind told lv
 j:J M out W
 m:∀ q,M q→(M0 q∨w.heap.size≤q)∧q≠fb∧q≠eb
 f:Frm (fun q=>M0 q∨q=fb) w W
 d:W.heap[D]?=some (.deferred (some []))
section
variable {w W W' : World} {rb fb eb cb bud D un B0 fput most told : Nat} {lb : Array Value} {put hold lv : Value} {kind : Int} {M0 M : Nat → Prop} {J : (Nat → Prop) → List UInt8 → World → Prop} {out : List UInt8}
theorem RnT.cells (h:RnT w rb fb eb cb bud D put hold kind told lv M0 M J out W):W.cell? ⟨eb,0,none⟩=some (.int .i64 0)∧W.frozen? ⟨eb,0,none⟩=false∧W.cell? ⟨cb,0,none⟩=some (.pointer (some ⟨rb,0,none⟩))∧W.cell? ⟨rb,4,none⟩=some (.int .i64 kind) :=
 ⟨by rw [h.e.cell];rfl,h.e.frozen 0,by rw [h.c.cell];rfl,h.r.cells.2.2.2.2.1⟩
theorem RnT.takes (hp:PutOk Tryz.prog fput lb B0 most J) (h:RnT w rb fb eb cb bud D put hold kind told lv M0 M J out W) {A:Option Addr} {n c used:Nat} (hs:SrcAt W fb A n c used) (hf:Frm (· = fb) W W'):RnT w rb fb eb cb bud D put hold kind told lv M0 M J out W' :=
 ⟨h.e.frm hf (h.e.ne_of hs (by decide)),h.c.frm hf (h.c.ne_of hs (by decide)),Pts.frm h.r hf (Pts.ne_of h.r hs (by decide)),hp.keep M _ W W' h.j (hf.mono fun q _ e hm=>(h.m q hm).2.1 e),h.m,h.f.trans (hf.mono fun q _ e=>.inr e),
  (hf.block _ (Array.getElem?_eq_some_iff.1 h.d).1 (fun e=>by have h2:=hs;rw [← e] at h2;exact absurd (h.d.symm.trans h2) (by simp))).trans h.d⟩
theorem RnT.still (hp:PutOk Tryz.prog fput lb B0 most J) (h:RnT w rb fb eb cb bud D put hold kind told lv M0 M J out W) (hb:Below W.heap.size W W'):RnT w rb fb eb cb bud D put hold kind told lv M0 M J out W' :=
 ⟨h.e.below hb h.e.lt,h.c.below hb h.c.lt,Pts.below h.r hb (Pts.lt h.r),hp.keep M _ W W' h.j (Frm.of_below hb),h.m,h.f.trans (Frm.of_below hb),(hb.block _ (Array.getElem?_eq_some_iff.1 h.d).1).trans h.d⟩
theorem RnT.fin (hp:PutOk Tryz.prog fput lb B0 most J) (h:RnT w rb fb eb cb bud D put hold kind told lv M0 M J out W) {R:List UInt8×(Nat ⊕ List UInt8)} {z:Nat} (hR:R=(out,.inl z)) (hz:z≠0) (heb:w.heap.size≤eb) (hD:w.heap.size≤D) :
 (W.setCell ⟨eb,0,none⟩ (.int .i64 (z:Int))).heap[D]?=some (.deferred (some []))∧((W.setCell ⟨eb,0,none⟩ (.int .i64 (z:Int))).putObj D (.deferred none)).cell? ⟨eb,0,none⟩=some (.int .i64 (z:Int))∧XRunEnd fb un M0 J R w (.returned (.int .i64 (z:Int))) ((W.setCell ⟨eb,0,none⟩ (.int .i64 (z:Int))).putObj D (.deferred none)):=by
 have hne:D≠eb:=fun e=>by
  have h2:=h.e
  rw [← e] at h2
  exact absurd (h.d.symm.trans h2) (by simp)
 have hd:(W.setCell ⟨eb,0,none⟩ (.int .i64 (z:Int))).heap[D]?=some (.deferred (some [])):=(Below.heap_setCell _ _ _ _ hne).trans h.d
 exact ⟨hd,put_cell (h.e.set 0 (.int .i64 (z:Int))) hd rfl,xrun_fin hp hR hz (hp.keep M _ W _ h.j ((Frm.refl _ W).setCell (p:=⟨eb,0,none⟩) (fun hm=>(h.m _ hm).2.2 rfl) _)) (fun q hq=>(h.m q hq).1) (h.f.transW ((Frm.refl (fun q=>q=eb) W).setCell (p:=⟨eb,0,none⟩) rfl _) (fun q hq hlt=>by omega)) hd rfl hD⟩
theorem RnT.ok (hp:PutOk Tryz.prog fput lb B0 most J) (h:RnT w rb fb eb cb bud D put hold kind told lv M0 M J out W) {R:List UInt8×(Nat ⊕ List UInt8)} {s:List UInt8} {A:Option Addr} {n c used:Nat} (hR:R=(out,.inr s)) (hs:SrcAt W fb A n c used) (hun:used+n=un) (hn:n=s.length) (heb:w.heap.size≤eb) (hD:w.heap.size≤D) :
 (W.setCell ⟨eb,0,none⟩ (.int .i64 0)).heap[D]?=some (.deferred (some []))∧((W.setCell ⟨eb,0,none⟩ (.int .i64 0)).putObj D (.deferred none)).cell? ⟨eb,0,none⟩=some (.int .i64 0)∧XRunEnd fb un M0 J R w (.returned (.int .i64 0)) ((W.setCell ⟨eb,0,none⟩ (.int .i64 0)).putObj D (.deferred none)):=by
 have hne:D≠eb:=fun e=>by
  have h2:=h.e
  rw [← e] at h2
  exact absurd (h.d.symm.trans h2) (by simp)
 have hd:(W.setCell ⟨eb,0,none⟩ (.int .i64 0)).heap[D]?=some (.deferred (some [])):=(Below.heap_setCell _ _ _ _ hne).trans h.d
 have hfin:Frm (fun q=>q=eb∨q=D) W ((W.setCell ⟨eb,0,none⟩ (.int .i64 0)).putObj D (.deferred none)):=((Frm.refl (fun q=>q=eb∨q=D) W).setCell (p:=⟨eb,0,none⟩) (.inl rfl) _).putObj (.inr rfl) _
 subst hR
 refine ⟨hd,put_cell (h.e.set 0 (.int .i64 0)) hd rfl,⟨M,hp.keep M _ W _ h.j (hfin.mono fun q _ hq hm=>?_),fun q hq=>(h.m q hq).1⟩,h.f.transW hfin (fun q hq hlt=>by omega),rfl,A,n,c,used,Pts.frm hs hfin ?_,hun,hn⟩
 ·rcases hq with e | e
  ·exact (h.m q hm).2.2 e
  obtain ⟨_,c,t,f,hcc⟩:=hp.own M _ W h.j q hm
  rw [e,h.d] at hcc
  cases hcc
 rintro (e | e)
 ·exact hs.ne_of h.e (by decide) e
 have h2:=hs
 rw [e] at h2
 exact absurd (h.d.symm.trans h2) (by simp)
end
def xFin (X:List UInt8×(Nat ⊕ List UInt8)):List UInt8×(Nat ⊕ List UInt8) :=
 match X with
 | (out,.inl e)=>(out,.inl e)
 | (out,.inr r)=>(out,.inr (dropPad r.length r))
def xMid (kind:Int) (X:List UInt8×(Nat ⊕ (List (Nat×Nat)×List UInt8))):List UInt8×(Nat ⊕ List UInt8) :=
 match X with
 | (out,.inl e)=>(out,.inl e)
 | (out,.inr (recs,s))=>xEnd kind out recs s
theorem xMem_mid {bud:Nat} {bs:List UInt8} (h:¬ bs.length<12):xMem bud bs=if (headOf (bs.take 12)).2≠0 then ([],.inl (headOf (bs.take 12)).2.toNat) else xMid (headOf (bs.take 12)).1 (xBlocks bud (headOf (bs.take 12)).1 (bs.length+1) [] [] (bs.drop 12)):=by
 unfold xMem
 rw [if_neg h]
 rfl
def budOf (b:Int):Nat:=(min (max b 0) 16777216).toNat
theorem xrun_err {fb un z eb B0 fput most:Nat} {lb:Array Value} {M0 M:Nat→Prop} {J:(Nat→Prop)→List UInt8→World→Prop} {R:List UInt8×(Nat ⊕ List UInt8)} {out:List UInt8} {w W:World} {v:Value} {S:Nat→Prop} (hp:PutOk Tryz.prog fput lb B0 most J) (hR:R=(out,.inl z)) (hz:z≠0) (hj:J M out W) (hM:∀ q,M q→(M0 q∨w.heap.size≤q)∧q≠eb) (hf:Frm S w W) (hS:∀ q,S q→q<w.heap.size→M0 q∨q=fb) (heb:w.heap.size≤eb) :
 XRunEnd fb un M0 J R w (.returned (.int .i64 (z:Int))) (W.setCell ⟨eb,0,none⟩ v):=by
 subst hR
 exact ⟨⟨M,hp.keep M _ W _ hj ((Frm.refl _ W).setCell (p:=⟨eb,0,none⟩) (fun hm=>(hM _ hm).2 rfl) v),fun q hq=>(hM q hq).1⟩,(hf.mono fun q hlt hq=>hS q hq hlt).transW ((Frm.refl (fun q=>q=eb) W).setCell (p:=⟨eb,0,none⟩) rfl v) (fun q hq hlt=>by omega),hz,rfl⟩
set_option maxRecDepth 8000 in
set_option maxHeartbeats 8000000 in
theorem xrun_p (fb B0 fput:Nat) (lb:Array Value) (J:(Nat→Prop)→List UInt8→World→Prop) (M0:Nat→Prop) (budget:Int) (A:Option Addr) (n c used un:Nat) (bs:List UInt8) (w:World)
 (hp:PutOk Tryz.prog fput lb B0 16777216 J) (hj:J M0 [] w) (hfb:¬ M0 fb) (hfb0:B0≤fb) (hs:SrcAt w fb A n c used) (hn:n=bs.length) (hr:BRow w B0 A bs) (hB0:B0≤w.heap.size) (hc:n≤c) (hcm:c≤maxLen) (hu:used+n=un) (hub:un≤4611686018427387904) (hl:n≤100000000) :
 Calls Tryz.prog 22 #[.pointer (some ⟨fb,0,none⟩),.int .i64 budget,.func (.func fput) #[] lb,.func (.func 24) #[] #[]] w (XRunEnd fb un M0 J (xP (budOf budget) bs) w):=by
 obtain ⟨PUT,hPUT⟩:∃ P,Value.func (.func fput) #[] lb=P:=⟨_,rfl⟩
 have HPUT:=hid hPUT
 have HP:=hid hp
 have HJ:=hid (And.intro hj (And.intro (hp.lt hj) hfb))
 have HS:Hid (SrcAt w fb A n c used∧n=bs.length∧BRow w B0 A bs∧B0≤w.heap.size∧n≤c∧c≤maxLen∧used+n=un∧B0≤fb∧un≤4611686018427387904∧n≤100000000∧fb<w.heap.size):=hid ⟨hs,hn,hr,hB0,hc,hcm,hu,hfb0,hub,hl,Pts.lt hs⟩
 obtain ⟨R,hR⟩:∃ R,xP (budOf budget) bs=R:=⟨_,rfl⟩
 rw [hR]
 have HR:=hid hR
 obtain ⟨bud,hbud⟩:∃ bud,budOf budget=bud:=⟨_,rfl⟩
 have HBU:=hid hbud
 have hbi:min (max budget 0) 16777216=(bud:Int):=by rw [← hbud];unfold budOf;omega
 have hbb:bud≤16777216:=by rw [← hbud];unfold budOf;omega
 obtain ⟨mx,hmx⟩:∃ mx,max budget 0=mx:=⟨_,rfl⟩
 rw [hmx] at hbi
 have f1:=fun w=>Fnd.max2_int (P:=Tryz.prog) #[3,3] 3 _ _ _ hmx w
 have f2:=fun w=>Fnd.min2_int (P:=Tryz.prog) #[3,3] 3 _ _ _ hbi w
 clear hp hj hfb hs hn hr hB0 hc hcm hu hfb0 hub hl hR hPUT hbud hmx hbi
 obtain ⟨W1,hW1⟩:∃ W,((w.alloc (.cells #[.int .i64 0] 32)).alloc (.cells #[.pointer (some ⟨fb,0,none⟩),.int .i64 (bud:Int),.func (.func fput) #[] lb,.func (.func 24) #[] #[],.int .i64 0,.int .i64 0,.slice none 0 0] 79)).alloc (.cells #[.pointer (some ⟨w.heap.size+1,0,none⟩)] 76)=W:=⟨_,rfl⟩
 have hs1:W1.heap.size=w.heap.size+1+1+1:=by rw [← hW1];simp only [World.size_alloc]
 have hB1:Below w.heap.size w W1:=by rw [← hW1];exact (((Below.refl _ w).alloc (Nat.le_refl _) _).alloc (by simp only [World.size_alloc];omega) _).alloc (by simp only [World.size_alloc];omega) _
 have pe1:Pts W1 w.heap.size #[.int .i64 0] 32:=by rw [← hW1];exact ((Pts.new w _ _).alloc _).alloc _
 have pr1:RxAt W1 (w.heap.size+1) fb bud PUT (.func (.func 24) #[] #[]) 0 0 (.slice none 0 0):=by
  rw [← hW1,← HPUT.out]
  have h:=(Pts.new (w.alloc (.cells #[.int .i64 0] 32)) #[.pointer (some ⟨fb,0,none⟩),.int .i64 (bud:Int),.func (.func fput) #[] lb,.func (.func 24) #[] #[],.int .i64 0,.int .i64 0,.slice none 0 0] 79).alloc (.cells #[.pointer (some ⟨w.heap.size+1,0,none⟩)] 76)
  rw [World.size_alloc] at h
  exact h
 have pc1:Pts W1 (w.heap.size+1+1) #[.pointer (some ⟨w.heap.size+1,0,none⟩)] 76:=by
  rw [← hW1]
  have h:=Pts.new ((w.alloc (.cells #[.int .i64 0] 32)).alloc (.cells #[.pointer (some ⟨fb,0,none⟩),.int .i64 (bud:Int),.func (.func fput) #[] lb,.func (.func 24) #[] #[],.int .i64 0,.int .i64 0,.slice none 0 0] 79)) #[.pointer (some ⟨w.heap.size+1,0,none⟩)] 76
  rw [World.size_alloc,World.size_alloc] at h
  exact h
 have hsrc1:SrcAt W1 fb A n c used:=Pts.below HS.out.1 hB1 HS.out.2.2.2.2.2.2.2.2.2.2
 have hj1:=HP.out.keep M0 _ w W1 HJ.out.1 (Frm.of_below hB1)
 have hr1:=HS.out.2.2.1.below (hB1.mono HS.out.2.2.2.1)
 have cc1:W1.cell? ⟨w.heap.size+1+1,0,none⟩=some (.pointer (some ⟨w.heap.size+1,0,none⟩)):=by rw [pc1.cell];rfl
 have ce1:W1.cell? ⟨w.heap.size,0,none⟩=some (.int .i64 0):=by rw [pe1.cell];rfl
 have ze1:=pe1.frozen 0
 have H1:Hid (W1.heap.size=w.heap.size+1+1+1∧Below w.heap.size w W1∧Pts W1 w.heap.size #[.int .i64 0] 32∧RxAt W1 (w.heap.size+1) fb bud PUT (.func (.func 24) #[] #[]) 0 0 (.slice none 0 0)∧Pts W1 (w.heap.size+1+1) #[.pointer (some ⟨w.heap.size+1,0,none⟩)] 76∧SrcAt W1 fb A n c used∧J M0 [] W1∧BRow W1 B0 A bs):=hid ⟨hs1,hB1,pe1,pr1,pc1,hsrc1,hj1,hr1⟩
 clear hs1 hB1 pe1 pr1 pc1 hsrc1 hj1 hr1
 have hXP:R=xFin (xMem bud bs):=by rw [← HR.out,HBU.out];rfl
 have HXP:=hid hXP
 clear hXP HR
 refine (callsIn_wide (n:=6)).1 ?_
 refine callsIn_of_wp_marks Tryz.func22 rfl trivial ?_ rfl
 simp only [Tryz.ntmps22,List.size_toArray,List.length_cons,List.length_nil,Nat.reduceAdd,Nat.reduceSub,Array.replicate_succ,Array.replicate_zero,List.push_toArray,List.append_toArray,List.nil_append,List.cons_append]
 refine wpIn_wide.2 ?_
 by_cases hsh:n<12
 ·have HT:=hid (rtake_no (w.heap.size+1) fb bud PUT _ 0 0 _ A n c used 12 W1 H1.out.2.2.2.1 H1.out.2.2.2.2.2.1 hsh)
  have HRE:Hid (R=([],.inl 10)):=hid (by rw [HXP.out];unfold xMem;rw [if_pos (by have:=HS.out.2.1;omega)];rfl)
  clear hsh
  go_wp2
  go_step3
  go_wp2_with fail
  refine HT.out.mono ?_;rintro e w2 ⟨rfl,rfl⟩
  go_wp2
  have hce:(W1.setCell ⟨w.heap.size,0,none⟩ (.int .i64 10)).cell? ⟨w.heap.size,0,none⟩=some (.int .i64 10):=by rw [(H1.out.2.2.1.set 0 (.int .i64 10)).cell];rfl
  rw [Exit.noGoto_ret]
  refine ⟨.int .i64 10,by simp [results,Tryz.results22,go_sem,hce],?_⟩
  exact xrun_err HP.out HRE.out (by decide) H1.out.2.2.2.2.2.2.1 (fun q hq=>⟨.inl hq,by have:=HJ.out.2.1 q hq;omega⟩) (Frm.of_below (S:=fun _=>False) H1.out.2.1) (fun _ h=>h.elim) (Nat.le_refl _)
 have HT:=hid (rtake_p (w.heap.size+1) fb bud PUT _ 0 0 _ A n c used 12 W1 H1.out.2.2.2.1 H1.out.2.2.2.2.2.1 HS.out.2.2.2.2.1 (by omega) (by have:=HS.out.2.2.2.2.2.2.1;have:=HS.out.2.2.2.2.2.2.2.2.1;omega))
 have hXQ:=HXP.out
 rw [xMem_mid (by have:=HS.out.2.1;omega)] at hXQ
 obtain ⟨kind,he,hk,hhd⟩:∃ (kind he:Nat),(he≠0∨kind=kind)∧headOf (bs.take 12)=((kind:Int),(he:Int)):=by
  unfold headOf
  repeat' split
  ·exact ⟨0,10,.inr rfl,rfl⟩
  ·exact ⟨0,11,.inr rfl,rfl⟩
  ·exact ⟨0,12,.inr rfl,rfl⟩
  exact ⟨_,0,.inr rfl,rfl⟩
 rw [hhd] at hXQ
 have hl12:(bs.take 12).length=12:=by rw [List.length_take];have:=HS.out.2.1;omega
 obtain ⟨hd,hhd2⟩:∃ hd,bs.take 12=hd:=⟨_,rfl⟩
 obtain ⟨sr,hsr⟩:∃ sr,bs.drop 12=sr:=⟨_,rfl⟩
 have hsl:sr.length+12=bs.length:=by rw [← hsr,List.length_drop];have:=HS.out.2.1;omega
 rw [hhd2] at hl12 hhd
 rw [hsr] at hXQ
 have HXQ:=hid hXQ
 have HHD:=hid (And.intro hhd2 (And.intro hsr (And.intro hsl (And.intro hl12 hhd))))
 have HSH:=hid hsh
 clear hXQ hk hhd2 hsr hsl hl12 hhd hsh HXP
 go_wp2
 go_step3
 go_wp2_with fail
 rw [HPUT.out]
 refine HT.out.mono ?_;rintro e w2 ⟨rfl,hs2,hf2⟩
 have hebn:w.heap.size≠fb:=by have:=HS.out.2.2.2.2.2.2.2.2.2.2;omega
 have hcbn:w.heap.size+1+1≠fb:=by have:=HS.out.2.2.2.2.2.2.2.2.2.2;omega
 have pe2:=H1.out.2.2.1.frm hf2 hebn
 have pc2:=H1.out.2.2.2.2.1.frm hf2 hcbn
 have pr2:RxAt w2 (w.heap.size+1) fb bud PUT (.func (.func 24) #[] #[]) 0 0 (.slice none 0 0):=Pts.frm H1.out.2.2.2.1 hf2 (by have:=HS.out.2.2.2.2.2.2.2.2.2.2;omega)
 have hj2:=HP.out.keep M0 _ W1 w2 H1.out.2.2.2.2.2.2.1 (hf2.mono fun q _ e hm=>HJ.out.2.2 (e▸hm))
 have hz2:w.heap.size+3≤w2.heap.size:=by have:=hf2.size;have:=H1.out.1;omega
 have hb2:Below B0 W1 w2:=hf2.below (by have:=HS.out.2.2.2.1;have:=H1.out.1;omega) (fun q hq=>by have:=HS.out.2.2.2.2.2.2.2.1;omega)
 have hr2:BRow w2 B0 A bs:=H1.out.2.2.2.2.2.2.2.below hb2
 have hrd:BRow w2 B0 (takeA A c 12) sr:=by
  have h:=hr2.drop (k:=12) (cap:=c) (by have:=HS.out.2.1;have:=HS.out.2.2.2.2.1;omega)
  rw [HHD.out.2.1] at h
  exact h
 have hrt:BRow w2 B0 A hd:=by rw [← HHD.out.1];exact hr2.take 12
 have hFw:Frm (fun q=>M0 q∨q=fb) w w2:=(Frm.of_below H1.out.2.1).trans (hf2.mono fun q _ e=>.inr e)
 have hBw:Below B0 w w2:=(H1.out.2.1.mono HS.out.2.2.2.1).trans hb2
 have hHD:=fun W3 (hb:Below w2.heap.size w2 W3)=>head_p A hd 12 12 W3 HHD.out.2.2.2.1.symm (Nat.le_refl _) (by have:=HS.out.2.2.2.2.1;have:=HS.out.2.2.2.2.2.1;have:=HSH.out;omega) ((hrt.below (hb.mono (by have:=HS.out.2.2.2.1;omega))).more (by have:=hb.size;have:=HS.out.2.2.2.1;omega)) (by rw [HHD.out.2.2.2.1];decide)
 rw [HHD.out.2.2.2.2] at hHD
 unfold checkV at hHD
 have cc2:w2.cell? ⟨w.heap.size+1+1,0,none⟩=some (.pointer (some ⟨w.heap.size+1,0,none⟩)):=by rw [pc2.cell];rfl
 have H2:Hid (Pts w2 w.heap.size #[.int .i64 0] 32∧Pts w2 (w.heap.size+1+1) #[.pointer (some ⟨w.heap.size+1,0,none⟩)] 76∧RxAt w2 (w.heap.size+1) fb bud PUT (.func (.func 24) #[] #[]) 0 0 (.slice none 0 0)∧J M0 [] w2∧w.heap.size+3≤w2.heap.size∧BRow w2 B0 (takeA A c 12) sr∧Frm (fun q=>M0 q∨q=fb) w w2∧Below B0 w w2∧SrcAt w2 fb (takeA A c 12) (n-12) (c-12) (used+12)):=hid ⟨pe2,pc2,pr2,hj2,hz2,hrd,hFw,hBw,hs2⟩
 have HHE:=hid hHD
 clear hs2 hf2 pe2 pc2 pr2 hj2 hz2 hb2 hr2 hrd hrt hFw hBw hHD cc1 ce1 ze1 HT
 go_wp2
 go_region_held3 (fun w'=>w'.cell? ⟨w.heap.size+1+1,0,none⟩=some (.pointer (some ⟨w.heap.size+1,0,none⟩))) (first | assumption | exact cc2 | exact cc3s _)
  (first
  | (go_at_call 33;refine (HHE.out w2.drew ((Below.refl _ w2).drew)).mono ?_;rintro e w3 ⟨rfl,hb3⟩;replace hb3:Below w2.heap.size w2 w3:=⟨hb3.os,hb3.tape,hb3.output,hb3.size,hb3.block⟩;have cc3:w3.cell? ⟨w.heap.size+1+1,0,none⟩=some (.pointer (some ⟨w.heap.size+1,0,none⟩)):=(hb3.cell (p:=⟨w.heap.size+1+1,0,none⟩) (show w.heap.size+1+1<w2.heap.size by have:=H2.out.2.2.2.2.1;omega)).trans cc2;have z43:=Pts.frozen (Pts.below H2.out.2.2.1 hb3 (Pts.lt H2.out.2.2.1)) 4;have c43:w3.cell? ⟨w.heap.size+1,4,none⟩=some (.int .i64 0):=(show RxAt w3 _ _ _ _ _ _ _ _ from Pts.below H2.out.2.2.1 hb3 (Pts.lt H2.out.2.2.1)).cells.2.2.2.2.1;have cc3s:∀ v,(w3.setCell ⟨w.heap.size+1,4,none⟩ v).cell? ⟨w.heap.size+1+1,0,none⟩=some (.pointer (some ⟨w.heap.size+1,0,none⟩)):=fun v=>by { rw [((Pts.below H2.out.2.1 hb3 (Pts.lt H2.out.2.1)).other (p:=⟨w.heap.size+1,4,none⟩) (by show w.heap.size+1+1≠w.heap.size+1;omega) v).cell];rfl };have HB3:=hid hb3;clear hb3))
 obtain ⟨W3,hW3⟩:∃ W,w3.setCell ⟨w.heap.size+1,4,none⟩ (.int .i64 (kind:Int))=W:=⟨_,rfl⟩
 rw [hW3]
 have hf3:Frm (fun q=>q=w.heap.size+1) w2 W3:=by rw [← hW3];exact (Frm.of_below (S:=fun q=>q=w.heap.size+1) HB3.out).setCell (p:=⟨w.heap.size+1,4,none⟩) rfl _
 have hB03:Below B0 w2 W3:=hf3.below (by have:=H2.out.2.2.2.2.1;have:=HS.out.2.2.2.1;omega) (fun q hq=>by have:=HS.out.2.2.2.1;omega)
 have hI3:∀ XE,(XE=xBlocks bud (kind:Int) (bs.length+1) [] [] sr)→RnI w (w.heap.size+1) fb w.heap.size (w.heap.size+1+1) bud un B0 bs.length PUT (.func (.func 24) #[] #[]) (kind:Int) M0 J XE [] [] sr (.slice none 0 0) M0 W3:=fun XE hXE=>by
  have hfl:=HS.out.2.2.2.2.2.2.2.2.2.2
  have hsl:=HHD.out.2.2.1
  refine ⟨?_,OwnPr.nil _ _ _,fun q hq=>(by cases hq),⟨_,_,_,_,Pts.frm H2.out.2.2.2.2.2.2.2.2 hf3 (by omega),by have:=HS.out.2.2.2.2.2.2.1;have:=HSH.out;omega,H2.out.2.2.2.2.2.1.below hB03,by have:=HS.out.2.1;omega,by have:=HS.out.2.2.2.2.1;omega,by have:=HS.out.2.2.2.2.2.1;omega⟩,
   HP.out.keep M0 _ w2 W3 H2.out.2.2.2.1 (hf3.mono fun q _ e hm=>by have:=HJ.out.2.1 q hm;omega),fun q hq=>⟨.inl hq,by have:=HJ.out.2.1 q hq;omega,fun e=>HJ.out.2.2 (e▸hq),by have:=HJ.out.2.1 q hq;omega,by have:=HJ.out.2.1 q hq;omega⟩,
   H2.out.1.frm hf3 (by omega),H2.out.2.1.frm hf3 (by omega),H2.out.2.2.2.2.2.2.1.transW hf3 (fun q hq hlt=>by omega),⟨bs.length+1,by omega,hXE⟩,⟨by simp,by simp;omega⟩,H2.out.2.2.2.2.2.2.2.1.trans hB03⟩
  rw [← hW3]
  exact Pts.set (Pts.below H2.out.2.2.1 HB3.out (Pts.lt H2.out.2.2.1)) 4 _
 have hII:=hI3 _ rfl
 have HI3:=hid hII
 have ce3:W3.cell? ⟨w.heap.size,0,none⟩=some (.int .i64 0):=by rw [hII.e.cell];rfl
 have ze3:=hII.e.frozen 0
 have cc3':W3.cell? ⟨w.heap.size+1+1,0,none⟩=some (.pointer (some ⟨w.heap.size+1,0,none⟩)):=by rw [hII.c.cell];rfl
 clear hf3 hB03 hI3 hII hW3 cc3 cc3s z43 c43 cc2
 by_cases he0:he=0
 ·subst he0
  have HXE:Hid (R=xFin (xMid (kind:Int) (xBlocks bud (kind:Int) (bs.length+1) [] [] sr))):=hid (by rw [HXQ.out,if_neg (by simp)])
  rw [show ((0:Nat):Int)=0 from rfl]
  go_wp2
  go_step3
  go_wp2
  obtain ⟨XE,hXE⟩:∃ XE,xBlocks bud (kind:Int) (bs.length+1) [] [] sr=XE:=⟨_,rfl⟩
  rw [hXE] at HI3 HXE
  have hw3:w.heap.size≤W3.heap.size:=HI3.out.f.size
  have hw3':w.heap.size+1≤W3.heap.size:=by have:=HI3.out.c.lt;omega
  have hB0:=HS.out.2.2.2.1
  have hL0:RnL w (w.heap.size+1) fb w.heap.size (w.heap.size+1+1) bud un B0 bs.length PUT (.func (.func 24) #[] #[]) (kind:Int) M0 J XE [] W3:=⟨[],[],sr,_,M0,HI3.out,by simp;have:=HS.out.2.2.2.2.2.2.1;have:=HS.out.2.1;have:=HHD.out.2.2.1;omega,fun x hx=>by cases hx⟩
  refine (wpIn_wide (n:=6)).1 ?_
  refine wpIn_rangeFunc_ownK (n:=6) rfl (by omega) (gf:=41) (bd:=#[.pointer (some ⟨w.heap.size+1,0,none⟩)]) rfl trivial (enters_of Tryz.func41 (by kernel_rfl) rfl) (first_seq 5 (w.heap.size+1) fb B0 un w (by omega)) (fun _=>rfl)
   (RnL w (w.heap.size+1) fb w.heap.size (w.heap.size+1+1) bud un B0 bs.length PUT (.func (.func 24) #[] #[]) (kind:Int) M0 J XE) (fun cd pre W=>RnX w (w.heap.size+1) fb w.heap.size (w.heap.size+1+1) bud un B0 bs.length PUT (.func (.func 24) #[] #[]) (kind:Int) M0 J XE cd pre W)
   (fun pre W l o o' _ _ _ h=>h) (fun pre W l o o' hl ho hc h=>h.upd HP.out (Nat.le_trans hw3 hl) ho hc hB0) (fun c pre W l o o' hl ho hc h=>h.upd HP.out (Nat.le_trans hw3 hl) ho hc hB0) (fun pre W h=>h.k) ((hL0.alloc HP.out _ hB0).alloc HP.out _ hB0)
   (fun x=>{ tmps:=#[.pointer (some ⟨fb,0,none⟩),.int .i64 budget,PUT,.func (.func 24) #[] #[],undef,undef,undef,undef,.pointer (some ⟨w.heap.size,0,none⟩),.pointer (some ⟨w.heap.size+1+1,0,none⟩),.slice A 12 12,.int .i64 0,.int .u8 (x.b:Int),.int .i64 (x.e:Int),undef,undef,undef,undef,undef,undef,.pointer (some ⟨fb,0,none⟩),.int .i64 budget,.int .i64 mx,.int .i64 (bud:Int),PUT,.func (.func 24) #[] #[],.agg #[.pointer (some ⟨fb,0,none⟩),.int .i64 (bud:Int),PUT,.func (.func 24) #[] #[],.int .i64 0,.int .i64 0,.slice none 0 0],.pointer (some ⟨w.heap.size+1,0,none⟩),.tuple #[.slice A 12 12,.int .i64 0],.pointer (some ⟨w.heap.size+1,0,none⟩),.tuple #[.slice A 12 12,.int .i64 0],.slice A 12 12,.int .i64 0,.int .i64 0,.bool false,undef,.tuple #[.int .i64 (kind:Int),.int .i64 0],.pointer (some ⟨w.heap.size+1,0,none⟩),.slice A 12 12,.tuple #[.int .i64 (kind:Int),.int .i64 0],.int .i64 (kind:Int),.int .i64 0,.pointer (some ⟨w.heap.size+1,0,none⟩),.pointer (some ⟨w.heap.size+1,4,none⟩),.int .i64 0,.bool false,undef,.pointer (some ⟨w.heap.size+1,0,none⟩),.func (.func 41) #[.pointer (some ⟨w.heap.size+1,0,none⟩)] #[],.int .u8 (x.b:Int),.int .i64 (x.e:Int),undef,undef,undef,undef,undef,undef,undef,undef,undef,undef,undef,undef,undef,undef,undef,undef,undef,undef,undef,undef,undef,undef,undef,undef,undef,undef,undef,undef,undef,undef,undef,undef,undef,undef,undef,undef,undef,undef,undef,undef,undef,undef,undef,undef,undef,undef,undef,undef,undef,undef,undef,undef,undef,undef,undef,undef,undef,undef,undef,undef,undef,undef,undef,undef,undef,undef,undef,undef,undef,undef],defers:=[] })
   (fun pre x W l o o' hl ho hc h=>by
     obtain ⟨A,n,c,used,bs,h1,h2,h3⟩:=h
     exact ⟨A,n,c,used,bs,(World.putObj_heap_other (cells_ne h1 ho hc)).trans h1,h2.putO ho hc o',h3⟩) ?assign ?body ?done ?stop
  case assign =>
   intro l x W K hK
   unfold fbEnc
   gi_wp2
   exact hK
  case body =>
   rintro l pre ⟨xb,xe⟩ W hI hPx hd1 ⟨rl,hd2⟩
   obtain ⟨recs,out,src,lv,M,h1,h2,h3⟩:=hI
   obtain ⟨A',n',c',used',bs',s1,s2,s3,s4⟩:=hPx
   obtain ⟨A1,n1,c1,used1,hs1,k1,k2,k3,k4,k5⟩:=h1.s
   have hcase:(xe=0∧1≤src.length∧xb=(src.getD 0 0).toNat)∨(xe=10∧src.length=0):=by
    have h10:=s1.symm.trans hs1
    simp only [Option.some.injEq,Obj.cells.injEq,Array.mk.injEq,List.cons.injEq,Value.slice.injEq,Value.int.injEq,and_true,true_and] at h10
    obtain ⟨⟨rfl,rfl,rfl⟩,h11⟩:=h10
    rcases s4 with ⟨e1,e2,e3⟩ | ⟨e1,e2⟩
    ·refine .inl ⟨e1,by omega,?_⟩
     obtain ⟨b1,o1,hA1,_,hc1⟩:=s2 (by omega)
     obtain ⟨b2,o2,hA2,_,hc2⟩:=k2 (by omega)
     rw [hA1] at hA2
     injection hA2 with hA2
     injection hA2 with hA2 hA3
     subst hA2;subst hA3
     have h12:=(hc1 0 (by omega)).symm.trans (hc2 0 (by omega))
     simp only [Option.some.injEq,byteV,Value.int.injEq,true_and] at h12
     have e3:xb=(bs'.getD 0 0).toNat:=e3
     omega
    exact .inr ⟨e1,by omega⟩
   have ec:W.cell? ⟨w.heap.size,0,none⟩=some (.int .i64 0):=by rw [h1.e.cell];rfl
   have ez:=h1.e.frozen 0
   have ecb:W.cell? ⟨w.heap.size+1+1,0,none⟩=some (.pointer (some ⟨w.heap.size+1,0,none⟩)):=by rw [h1.c.cell];rfl
   have H:=hid h1
   have HD:=hid (And.intro hd1 hd2)
   have HSR:Hid (SrcAt W fb A1 n1 c1 used1∧used1+n1=un∧BRow W B0 A1 src∧n1=src.length∧n1≤c1∧c1≤maxLen):=hid ⟨hs1,k1,k2,k3,k4,k5⟩
   have HP3:=hid (And.intro h2 h3)
   have hn1:∀ q,(∃ o:Obj,W.heap[q]?=some o∧o.isCells=false)→q≠w.heap.size:=fun q ⟨o,ho,hc⟩ e=>by
    subst e
    have h9:=h1.e
    unfold Pts at h9
    rw [ho] at h9
    injection h9 with h9
    rw [h9] at hc
    cases hc
   have hD1:=hn1 W3.heap.size ⟨_,hd1,rfl⟩
   have hD2:=hn1 (W3.heap.size+1) ⟨_,hd2,rfl⟩
   have hset:∀ (v:Value) q,q≠w.heap.size→(W.setCell ⟨w.heap.size,0,none⟩ v).heap[q]?=W.heap[q]?:=fun v q hq=>Below.heap_setCell _ _ _ _ hq
   clear h1 hd1 hd2 hs1 k1 k2 k3 k4 k5 h2 h3 s1 s2 s3 s4 hn1
   rcases hcase with ⟨rfl,hsl,hxb⟩ | ⟨rfl,hsl⟩
   ·have hxb256:xb<256:=by rw [hxb];exact (src.getD 0 0).toNat_lt
    by_cases hz:xb=0
    ·have HSZ:Hid (1≤src.length∧src.getD 0 0=0):=hid ⟨hsl,by rw [← UInt8.ofNat_toNat (x:=src.getD 0 0),← hxb,hz];rfl⟩
     subst hz
     clear hsl hxb hxb256
     gi_wp2
     exact ⟨⟨rfl,rfl⟩,.inr ⟨rfl,recs,out,src,lv,M,H.out,HSZ.out⟩⟩
    have qz:((xb:Int)==0)=false:=beq_eq_false_iff_ne.2 (by omega)
    have hne0:src.getD 0 0≠0:=fun e=>hz (by rw [hxb,e];rfl)
    have hblk:=xblock_p (w.heap.size+1) fb bud un fput B0 lb (kind:Int) lv recs J M out src A1 n1 c1 used1 xb W HP.out (by rw [HPUT.out];exact H.out.r) HSR.out.1 HSR.out.2.2.2.1 HSR.out.2.2.1 (Nat.le_trans HS.out.2.2.2.1 H.out.f.size) (by have:=HS.out.2.2.2.1;omega) HS.out.2.2.2.2.2.2.2.1 HSR.out.2.2.2.2.1 HSR.out.2.2.2.2.2 HSR.out.2.1 HS.out.2.2.2.2.2.2.2.2.1 (by have:=H.out.l.2;have:=HS.out.2.1;have:=HS.out.2.2.2.2.2.2.2.2.2.1;have:=HSR.out.2.2.2.1;omega) (by have:=HSR.out.2.2.2.1;omega) hxb H.out.o (by have:=H.out.l.2;have:=HS.out.2.1;have:=HS.out.2.2.2.2.2.2.2.2.2.1;omega) H.out.j (fun q hq=>⟨(H.out.m q hq).2.1,(H.out.m q hq).2.2.1,fun e=>(H.out.v q e).1 hq⟩) H.out.l.1 hbb
    rw [HPUT.out] at hblk
    have HBLK:=hid hblk
    have HNE:=hid (And.intro hne0 hsl)
    clear hblk hne0 hz hxb hsl
    gi_wp2_with fail
    refine ⟨trivial,?_⟩
    refine (CallsIn.inRound l (callsIn_wide.2 HBLK.out)).mono ?_
    rintro e W' hB
    obtain ⟨hkeep,hnx⟩:=H.out.next HP.out hB HNE.out.1 HNE.out.2 HS.out.2.2.2.1 (by omega) HS.out.2.2.2.2.2.2.2.1
    have hk1:W'.heap[W3.heap.size]?=W.heap[W3.heap.size]?:=hkeep _ (Array.getElem?_eq_some_iff.1 HD.out.1).1 (fun c t f h=>by rw [HD.out.1] at h;cases h)
    have hk2:W'.heap[W3.heap.size+1]?=W.heap[W3.heap.size+1]?:=hkeep _ (Array.getElem?_eq_some_iff.1 HD.out.2).1 (fun c t f h=>by rw [HD.out.2] at h;cases h)
    have hset2:∀ (v:Value) q,q≠w.heap.size→(W'.setCell ⟨w.heap.size,0,none⟩ v).heap[q]?=W'.heap[q]?:=fun v q hq=>Below.heap_setCell _ _ _ _ hq
    have HK:=hid (And.intro hk1 hk2)
    clear hkeep hk1 hk2 hB hset
    rcases hnx with ⟨z,hz0,rfl,he',out',M',hXE',hj',hM',hf'⟩ | ⟨rfl,recs',out',src',lv',M',hI',hlen'⟩
    ·have ec':W'.cell? ⟨w.heap.size,0,none⟩=some (.int .i64 0):=by rw [he'.cell];rfl
     have ez':=he'.frozen 0
     have qz2:((z:Int) != 0)=true:=bne_iff_ne.2 (by omega)
     have HX:=hid (And.intro hz0 (And.intro he' (And.intro hXE' (And.intro hj' (And.intro hM' hf')))))
     clear hz0 he' hXE' hj' hM' hf'
     gi_wp2
     refine ⟨⟨(hset2 _ _ hD1).trans HK.out.1,(hset2 _ _ hD2).trans HK.out.2⟩,.inl ⟨rfl,out',M',z,HX.out.1,HX.out.2.2.1,?_,HX.out.2.2.2.2.1,HX.out.2.1.set 0 _,?_⟩⟩
     ·exact HP.out.keep M' _ W' _ HX.out.2.2.2.1 ((Frm.refl _ W').setCell (p:=⟨w.heap.size,0,none⟩) (fun hm=>(HX.out.2.2.2.2.1 _ hm).2 rfl) _)
     exact HX.out.2.2.2.2.2.transW ((Frm.refl (fun q=>q=w.heap.size) W').setCell (p:=⟨w.heap.size,0,none⟩) rfl _) (fun q hq hlt=>by omega)
    have HX:=hid (And.intro hI' hlen')
    clear hI' hlen'
    gi_wp2
    refine ⟨HK.out,recs',out',src',lv',M',HX.out.1,?_,fun x hx=>?_⟩
    ·rw [List.length_append]
     have:=HX.out.2
     have:=HP3.out.1
     simp only [List.length_cons,List.length_nil]
     omega
    rcases List.mem_append.1 hx with h | h
    ·exact HP3.out.2 x h
    rw [List.mem_singleton.1 h]
    exact ⟨rfl,fun e=>by have e:xb=0:=e;rw [e] at qz;cases qz⟩
   have HSL:=hid hsl
   clear hsl
   gi_wp2
   obtain ⟨f,hlf,hXE2⟩:=H.out.x
   refine ⟨⟨hset _ _ hD1,hset _ _ hD2⟩,.inl ⟨rfl,out,M,10,by decide,?_,?_,fun q hq=>⟨(H.out.m q hq).1,(H.out.m q hq).2.2.2.1⟩,H.out.e.set 0 _,?_⟩⟩
   ·rw [hXE2]
    obtain ⟨f',rfl⟩:∃ f',f=f'+1:=⟨f-1,by omega⟩
    unfold xBlocks
    rw [if_pos (by have:=HSL.out;omega)]
   ·exact HP.out.keep M _ W _ H.out.j ((Frm.refl _ W).setCell (p:=⟨w.heap.size,0,none⟩) (fun hm=>(H.out.m _ hm).2.2.2.1 rfl) _)
   exact H.out.f.transW ((Frm.refl (fun q=>q=w.heap.size) W).setCell (p:=⟨w.heap.size,0,none⟩) rfl _) (fun q hq hlt=>by omega)
  case done =>
   rintro xs W ⟨pre,x,rfl,hx⟩ hI hd
   obtain ⟨recs,out,src,lv,M,h1,h2,h3⟩:=hI
   have h4:=h3 x (by simp)
   rcases hx with e | e
   ·exact absurd h4.1 e
   exact absurd e h4.2
  intro cd pre W hX hd
  have HDD:=hid hd
  clear hd hXE hL0
  rcases hX with ⟨rfl,out,M,z,hz,hxe,hj,hM,he,hf⟩ | ⟨rfl,recs,out,src,lv,M,hI,hs1,hs0⟩
  ·have HX:=hid (And.intro hz (And.intro hxe (And.intro hj (And.intro hM (And.intro he hf)))))
   have hce:W.cell? ⟨w.heap.size,0,none⟩=some (.int .i64 (z:Int)):=by rw [he.cell];rfl
   clear hz hxe hj hM he hf
   refine wpIn_wide.2 ?_
   go_wp2
   rw [Exit.noGoto_ret]
   refine ⟨by simp,.inl ⟨_,_,rfl,run_takeDeferred HDD.out,?_⟩⟩
   have hce2:=put_cell (o':=.deferred none) HX.out.2.2.2.2.1 HDD.out rfl
   refine ⟨.int .i64 (z:Int),by simp [results,Tryz.results22,go_sem,hce2],?_⟩
   exact xrun_fin HP.out (by rw [HXE.out,HX.out.2.1];rfl) HX.out.1 HX.out.2.2.1 (fun q hq=>(HX.out.2.2.2.1 q hq).1) HX.out.2.2.2.2.2 HDD.out rfl hw3
  have hXR:R=xFin (xEnd (kind:Int) out recs src):=by
   obtain ⟨f,hlf,hXE2⟩:=hI.x
   obtain ⟨f',rfl⟩:∃ f',f=f'+1:=⟨f-1,by omega⟩
   rw [HXE.out,hXE2]
   unfold xBlocks
   rw [if_neg (by omega),if_pos hs0]
   rfl
  obtain ⟨A1,n1,c1,used1,hsr,k1,k2,k3,k4,k5⟩:=hI.s
  have HI:=hid hI
  have HXR:=hid hXR
  have HSR:Hid (SrcAt W fb A1 n1 c1 used1∧used1+n1=un∧BRow W B0 A1 src∧n1=src.length∧n1≤c1∧c1≤maxLen):=hid ⟨hsr,k1,k2,k3,k4,k5⟩
  have hl8:recs.length+src.length≤100000000:=by have:=hI.l.2;have:=HS.out.2.1;have:=HS.out.2.2.2.2.2.2.2.2.2.1;omega
  have hIX:=xindex_p (w.heap.size+1) fb bud un B0 B0 PUT _ (kind:Int) out.length lv recs A1 n1 c1 used1 src W hI.r (by have:=HS.out.2.2.2.2.2.2.2.2.2.2;omega) hsr k3 k2 ⟨Nat.le_trans hB0 hI.f.size,HS.out.2.2.2.2.2.2.2.1⟩ k4 k5 k1 HS.out.2.2.2.2.2.2.2.2.1 (by omega) (by omega) hI.o (by omega)
  have HIX:=hid hIX
  have cc:W.cell? ⟨w.heap.size+1+1,0,none⟩=some (.pointer (some ⟨w.heap.size+1,0,none⟩)):=by rw [hI.c.cell];rfl
  have ce:W.cell? ⟨w.heap.size,0,none⟩=some (.int .i64 0):=by rw [hI.e.cell];rfl
  have ze:=hI.e.frozen 0
  have HL8:=hid hl8
  clear hI hXR hsr k1 k2 k3 k4 k5 hs1 hs0 hIX hl8
  refine wpIn_wide.2 ?_
  go_wp2_with fail
  refine HIX.out.mono ?_;rintro e w4 ⟨hf4,hix⟩
  obtain ⟨E,hE⟩:∃ E,xIndex recs src=E:=⟨_,rfl⟩
  rw [hE] at hix
  cases E with
  | inl z =>
   obtain rfl:=hix
   have hz:=xIndex_z hE
   have qz:((z:Int) != 0)=true:=bne_iff_ne.2 (by omega)
   have he4:=HI.out.e.frm hf4 hebn
   have ce4:w4.cell? ⟨w.heap.size,0,none⟩=some (.int .i64 0):=by rw [he4.cell];rfl
   have ze4:=he4.frozen 0
   have hj4:=HP.out.keep M _ W w4 HI.out.j (hf4.mono fun q _ e hm=>(HI.out.m q hm).2.2.1 e)
   have hF4:Frm (fun q=>M0 q∨q=fb) w w4:=HI.out.f.trans (hf4.mono fun q _ e=>.inr e)
   have hd4:w4.heap[W3.heap.size]?=some (.deferred (some [])):=(hf4.block _ (Array.getElem?_eq_some_iff.1 HDD.out).1 (fun e=>by have:=HSR.out.1;rw [← e] at this;exact absurd (HDD.out.symm.trans this) (by simp))).trans HDD.out
   have HRE:Hid (R=(out,.inl z)):=hid (by rw [HXR.out];unfold xEnd;rw [hE];rfl)
   have H4:=hid (And.intro hz (And.intro he4 (And.intro hj4 (And.intro hF4 hd4))))
   clear hz he4 hj4 hF4 hd4 hE hf4 cc ce ze
   go_wp2
   rw [Exit.noGoto_ret]
   have hd5:(w4.setCell ⟨w.heap.size,0,none⟩ (.int .i64 (z:Int))).heap[W3.heap.size]?=some (.deferred (some [])):=(Below.heap_setCell _ _ _ _ (show W3.heap.size≠w.heap.size by omega)).trans H4.out.2.2.2.2
   refine ⟨by simp,.inl ⟨_,_,rfl,run_takeDeferred hd5,?_⟩⟩
   have hce2:=put_cell (o':=.deferred none) (H4.out.2.1.set 0 (.int .i64 (z:Int))) hd5 rfl
   refine ⟨.int .i64 (z:Int),by simp [results,Tryz.results22,go_sem,hce2],?_⟩
   exact xrun_fin HP.out HRE.out H4.out.1 (HP.out.keep M _ w4 _ H4.out.2.2.1 ((Frm.refl _ w4).setCell (p:=⟨w.heap.size,0,none⟩) (fun hm=>(HI.out.m _ hm).2.2.2.1 rfl) _)) (fun q hq=>(HI.out.m q hq).1) (H4.out.2.2.2.1.transW ((Frm.refl (fun q=>q=w.heap.size) w4).setCell (p:=⟨w.heap.size,0,none⟩) rfl _) (fun q hq hlt=>by omega)) hd5 rfl hw3
  | inr p =>
   obtain ⟨size,r⟩:=p
   obtain ⟨rfl,A5,n5,c5,used5,hs5,g1,g2,g3,g4,g5⟩:=hix
   have hT4:RnT w (w.heap.size+1) fb w.heap.size (w.heap.size+1+1) bud W3.heap.size PUT (.func (.func 24) #[] #[]) (kind:Int) out.length lv M0 M J out w4 :=
    RnT.takes HP.out ⟨HI.out.e,HI.out.c,HI.out.r,HI.out.j,fun q hq=>⟨(HI.out.m q hq).1,(HI.out.m q hq).2.2.1,(HI.out.m q hq).2.2.2.1⟩,HI.out.f,HDD.out⟩ HSR.out.1 hf4
   have hXS:xEnd (kind:Int) out recs src=if r.length<12 then (out,.inl 10) else if (footOf (r.take 12)).2.2≠0 then (out,.inl (footOf (r.take 12)).2.2.toNat) else if (footOf (r.take 12)).1≠(kind:Int)∨(footOf (r.take 12)).2.1≠size then (out,.inl 11) else (out,.inr (r.drop 12)):=by
    unfold xEnd
    rw [hE]
   rw [hXS] at HXR
   obtain ⟨d1,d2,d3,d4⟩:=hT4.cells
   have HT4:=hid hT4
   have HS5:Hid (SrcAt w4 fb A5 n5 c5 used5∧used5+n5=un∧BRow w4 B0 A5 r∧n5=r.length∧n5≤c5∧c5≤maxLen):=hid ⟨hs5,g1,g2,g3,g4,g5⟩
   have hszb:=xIndex_size hE
   have hszw:IntKind.u64.wrap (size:Int)=(size:Int):=Go.IntWalk.u64_in _ (by have:=HL8.out;omega)
   clear hT4 hXS hs5 g1 g2 g3 g4 g5 hf4 hE cc ce ze hszb
   by_cases hsh:n5<12
   ·have HTN:=hid (rtake_no (w.heap.size+1) fb bud PUT _ (kind:Int) out.length lv A5 n5 c5 used5 12 w4 HT4.out.r HS5.out.1 hsh)
    have HRE:Hid (R=(out,.inl 10)):=hid (by rw [HXR.out,if_pos (by have:=HS5.out.2.2.2.1;omega)];rfl)
    clear hsh
    go_wp2_with fail
    refine HTN.out.mono ?_;rintro e w5 ⟨rfl,rfl⟩
    go_wp2
    rw [Exit.noGoto_ret]
    have hfin:=RnT.fin (un:=un) HP.out HT4.out HRE.out (by decide) (Nat.le_refl _) hw3
    refine ⟨by simp,.inl ⟨_,_,rfl,run_takeDeferred hfin.1,?_⟩⟩
    have hce2:=hfin.2.1
    rw [show ((10:Nat):Int)=10 from rfl] at hce2
    refine ⟨.int .i64 10,by simp [results,Tryz.results22,go_sem,hce2],?_⟩
    exact hfin.2.2
   have HTP:=hid (rtake_p (w.heap.size+1) fb bud PUT _ (kind:Int) out.length lv A5 n5 c5 used5 12 w4 HT4.out.r HS5.out.1 HS5.out.2.2.2.2.1 (by omega) (by have:=HS5.out.2.1;have:=HS.out.2.2.2.2.2.2.2.2.1;omega))
   obtain ⟨fk,fnn,fe,hft⟩:=footOf_nat (r.take 12)
   rw [if_neg (by have:=HS5.out.2.2.2.1;omega),hft] at HXR
   have hl12:(r.take 12).length=12:=by rw [List.length_take];have:=HS5.out.2.2.2.1;omega
   obtain ⟨ft,hft2⟩:∃ ft,r.take 12=ft:=⟨_,rfl⟩
   rw [hft2] at hl12 hft
   have HFT:=hid (And.intro hft2 (And.intro hl12 hft))
   have HSH2:=hid hsh
   clear hsh hft2 hl12 hft
   go_wp2_with fail
   refine HTP.out.mono ?_;rintro e w5 ⟨rfl,hs5,hf5⟩
   have hT5:=HT4.out.takes HP.out HS5.out.1 hf5
   have hb05:Below B0 w4 w5:=hf5.below (by have:=HT4.out.f.size;omega) (fun q hq=>by have:=HS.out.2.2.2.2.2.2.2.1;omega)
   have hr5:BRow w5 B0 A5 r:=HS5.out.2.2.1.below hb05
   have hrt:BRow w5 B0 A5 ft:=by rw [← HFT.out.1];exact hr5.take 12
   have hrd:BRow w5 B0 (takeA A5 c5 12) (r.drop 12):=hr5.drop (by have:=HS5.out.2.2.2.1;have:=HS5.out.2.2.2.2.1;omega)
   have hFF:=foot_p A5 ft 12 12 w5 HFT.out.2.1.symm (Nat.le_refl _) (by have:=HS5.out.2.2.2.2.1;have:=HS5.out.2.2.2.2.2;have:=HSH2.out;omega) (hrt.more (by have:=hT5.f.size;omega)) (by rw [HFT.out.2.1];decide)
   rw [HFT.out.2.2] at hFF
   unfold footV at hFF
   have HFF:=hid hFF
   have HT5:=hid hT5
   have HS6:Hid (SrcAt w5 fb (takeA A5 c5 12) (n5-12) (c5-12) (used5+12)∧BRow w5 B0 (takeA A5 c5 12) (r.drop 12)):=hid ⟨hs5,hrd⟩
   clear hs5 hf5 hT5 hb05 hr5 hrt hrd hFF HTP d1 d2 d3 d4
   go_wp2_with fail
   refine HFF.out.mono ?_;rintro e w6 ⟨rfl,hb6⟩
   have hT6:=HT5.out.still HP.out hb6
   have hs6:=Pts.below HS6.out.1 hb6 (Pts.lt HS6.out.1)
   have hr6:=HS6.out.2.below (hb6.mono (by have:=HT5.out.f.size;omega))
   obtain ⟨d1,d2,d3,d4⟩:=hT6.cells
   have HT6:=hid hT6
   have HS7:Hid (SrcAt w6 fb (takeA A5 c5 12) (n5-12) (c5-12) (used5+12)∧BRow w6 B0 (takeA A5 c5 12) (r.drop 12)):=hid ⟨hs6,hr6⟩
   clear hT6 hs6 hr6 hb6 HFF
   by_cases hfe:fe=0
   ·subst hfe
    rw [if_neg (by simp)] at HXR
    have hz0:((0:Nat):Int)=0:=rfl
    rw [hz0]
    by_cases hk1:fk=kind
    ·have q1:((fk:Int) != (kind:Int))=false:=by rw [hk1];simp
     by_cases hk2:fnn=size
     ·have q2:((fnn:Int) != (size:Int))=false:=by rw [hk2];simp
      have HRE:Hid (R=(out,.inr (dropPad (r.drop 12).length (r.drop 12)))):=hid (by
       rw [HXR.out,if_neg]
       ·rfl
       rintro (h | h)
       ·exact h (by rw [hk1])
       exact h hk2)
      clear hk1 hk2 hz0
      obtain ⟨A6,hA6⟩:∃ A6,takeA A5 c5 12=A6:=⟨_,rfl⟩
      obtain ⟨n6,hn6⟩:∃ n6,n5-12=n6:=⟨_,rfl⟩
      obtain ⟨c6,hc6⟩:∃ c6,c5-12=c6:=⟨_,rfl⟩
      obtain ⟨u6,hu6⟩:∃ u6,used5+12=u6:=⟨_,rfl⟩
      obtain ⟨s0,hs0⟩:∃ s0,r.drop 12=s0:=⟨_,rfl⟩
      obtain ⟨FIN,hFIN⟩:∃ FIN,dropPad s0.length s0=FIN:=⟨_,rfl⟩
      rw [hA6,hn6,hc6,hu6,hs0] at HS7
      rw [hs0,hFIN] at HRE
      have hnl:n6=s0.length:=by rw [← hs0,List.length_drop];have:=HS5.out.2.2.2.1;omega
      have HS8:Hid (u6+n6=un∧n6=s0.length∧n6≤c6∧c6≤maxLen):=hid ⟨by have:=HS5.out.2.1;have:=HSH2.out;omega,hnl,by have:=HS5.out.2.2.2.2.1;omega,by have:=HS5.out.2.2.2.2.2;omega⟩
      have HFIN:=hid hFIN
      have HPK:=hid (peek_p fb A6 n6 c6 u6 4 w6 HS7.out.1 HS8.out.2.2.1)
      clear hA6 hn6 hc6 hu6 hs0 hFIN hnl
      have hPB:∃ bv:Value,∃ ok:Bool,(if 4≤n6 then Value.tuple #[.slice A6 4 4,.bool true] else Value.tuple #[.slice none 0 0,.bool false])=.tuple #[bv,.bool ok]∧((ok=true∧4≤n6∧bv=.slice A6 4 4)∨(ok=false∧n6<4)):=by
       by_cases h4:4≤n6
       ·exact ⟨_,true,if_pos h4,.inl ⟨rfl,h4,rfl⟩⟩
       exact ⟨_,false,if_neg h4,.inr ⟨rfl,by omega⟩⟩
      obtain ⟨bv0,ok0,hpb,hok0⟩:=hPB
      rw [hpb] at HPK
      have HOK0:=hid hok0
      clear hpb hok0
      go_wp2_with fail
      refine HPK.out.mono ?_;rintro e w7 ⟨rfl,rfl⟩
      go_wp2
      go_loopg [18,19] (s0.length+1) (fun f bv okv wr=>∃ (s:List UInt8) (A:Option Addr) (n c used g:Nat) (ok:Bool),okv=.bool ok∧SrcAt wr fb A n c used∧used+n=un∧BRow wr B0 A s∧n=s.length∧n≤c∧c≤maxLen∧RnT w (w.heap.size+1) fb w.heap.size (w.heap.size+1+1) bud W3.heap.size PUT (.func (.func 24) #[] #[]) (kind:Int) out.length lv M0 M J out wr∧s.length≤g∧dropPad g s=FIN∧s.length<f∧((ok=true∧4≤n∧bv=.slice A 4 4)∨(ok=false∧n<4)))
      case atStart=>exact ⟨s0,A6,n6,c6,u6,s0.length,ok0,rfl,HS7.out.1,HS8.out.1,HS7.out.2,HS8.out.2.1,HS8.out.2.2.1,HS8.out.2.2.2,HT6.out,Nat.le_refl _,HFIN.out,by omega,HOK0.out⟩
      obtain ⟨s,A8,n8,c8,u8,g,ok,rfl,hs8,hun8,hr8,hn8,hc8,hcm8,hT8,hg8,hfin8,hlf8,hok8⟩:=hrel
      clear HPK HOK0 HS7 HS8 HT6 HFIN d1 d2 d3 d4
      obtain ⟨d1,d2,d3,d4⟩:=hT8.cells
      have HT8:=hid hT8
      have HS8:Hid (SrcAt wr fb A8 n8 c8 u8∧u8+n8=un∧BRow wr B0 A8 s∧n8=s.length∧n8≤c8∧c8≤maxLen∧s.length≤g∧dropPad g s=FIN∧s.length<gk):=hid ⟨hs8,hun8,hr8,hn8,hc8,hcm8,hg8,hfin8,hlf8⟩
      clear hT8 hs8 hun8 hr8 hn8 hc8 hcm8 hg8 hfin8 hlf8
      have hstop:(n8<4∨s.take 4≠[0,0,0,0])→FIN=s:=fun h=>by
       rw [← HS8.out.2.2.2.2.2.2.2.1]
       cases g with
       | zero=>rfl
       | succ g =>
        unfold dropPad
        rw [if_neg]
        rintro ⟨h1,h2⟩
        rcases h with h | h
        ·have:=HS8.out.2.2.2.1;omega
        exact h h2
      rcases hok8 with ⟨rfl,h4,rfl⟩ | ⟨rfl,h4⟩
      ·obtain ⟨Wz,hWz⟩:∃ W,wr.alloc (.cells (madeCells #[.int .u8 0] 4) 5)=W:=⟨_,rfl⟩
       have hbz:Below wr.heap.size wr Wz:=by rw [← hWz];exact (Below.refl _ wr).alloc (Nat.le_refl _) _
       have hzr:BRow Wz Wz.heap.size (some ⟨wr.heap.size,0,none⟩) (List.replicate 4 0):=by rw [← hWz];exact noughts_row 4 wr
       have hmk:∀ w,(Instr.makeSlice 27 (.int .i64 4) (.int .i64 4)).run Tryz.prog w=.ok (.slice (some ⟨w.heap.size,0,none⟩) 4 4) (w.alloc (.cells (madeCells #[.int .u8 0] 4) 5)):=made_bytes 4 (by decide)
       have hBr:B0≤wr.heap.size:=by have:=HT8.out.f.size;omega
       have hl4:(s.take 4).length=4:=by rw [List.length_take];have:=HS8.out.2.2.2.1;omega
       have hrz:BRow Wz B0 A8 s:=HS8.out.2.2.1.below (hbz.mono hBr)
       have hEQ:=equal_p A8 (some ⟨wr.heap.size,0,none⟩) (s.take 4) (List.replicate 4 0) 4 4 4 4 Wz.heap.size Wz hl4.symm ((hrz.take 4).more (Nat.le_trans hBr hbz.size)) (by simp) hzr
       obtain ⟨b1,hb1⟩:∃ b,(s.take 4==List.replicate 4 0)=b:=⟨_,rfl⟩
       rw [hb1] at hEQ
       have HEQ:=hid hEQ
       have HB1:=hid hb1
       have HTZ:=hid (HT8.out.still HP.out hbz)
       have HSZ:Hid (SrcAt Wz fb A8 n8 c8 u8∧BRow Wz B0 A8 s∧B0≤Wz.heap.size):=hid ⟨Pts.below HS8.out.1 hbz (Pts.lt HS8.out.1),hrz,Nat.le_trans hBr hbz.size⟩
       obtain ⟨y1,y2,y3,y4⟩:=HTZ.out.cells
       clear hbz hzr hBr hl4 hrz hEQ hb1
       cases b1 with
       | false =>
        have HRF:Hid (R=(out,.inr s)):=hid (by rw [HRE.out,hstop (.inr (fun e=>by have:=HB1.out;rw [e] at this;exact absurd this (by decide)))])
        clear hstop h4
        go_wp2_with (go_at_call 46;refine HEQ.out.mono ?_;rintro e w9 ⟨rfl,rfl⟩)
        rw [Exit.noGoto_ret]
        have hfin:=RnT.ok (un:=un) HP.out HTZ.out HRF.out HSZ.out.1 HS8.out.2.1 HS8.out.2.2.2.1 (Nat.le_refl _) hw3
        refine ⟨by simp,.inl ⟨_,_,rfl,run_takeDeferred hfin.1,?_⟩⟩
        have hce2:=hfin.2.1
        refine ⟨.int .i64 0,by simp [results,Tryz.results22,go_sem,hce2],?_⟩
        exact hfin.2.2
       | true =>
        have hz4:s.take 4=[0,0,0,0]:=by have:=HB1.out;rw [beq_iff_eq] at this;exact this
        have hsl4:4≤s.length:=by have:=HS8.out.2.2.2.1;omega
        obtain ⟨g',rfl⟩:∃ g',g=g'+1:=⟨g-1,by have:=HS8.out.2.2.2.2.2.2.1;omega⟩
        have hdp:dropPad g' (s.drop 4)=FIN:=by
         rw [← HS8.out.2.2.2.2.2.2.2.1]
         conv=>rhs;unfold dropPad
         rw [if_pos ⟨hsl4,hz4⟩]
        have HTK:=hid (take_p fb A8 n8 c8 u8 4 Wz HSZ.out.1 HS8.out.2.2.2.2.1 h4 (by have:=HS8.out.2.1;have:=HS.out.2.2.2.2.2.2.2.2.1;omega))
        obtain ⟨A9,hA9⟩:∃ A9,takeA A8 c8 4=A9:=⟨_,rfl⟩
        obtain ⟨n9,hn9⟩:∃ n9,n8-4=n9:=⟨_,rfl⟩
        obtain ⟨c9,hc9⟩:∃ c9,c8-4=c9:=⟨_,rfl⟩
        obtain ⟨u9,hu9⟩:∃ u9,u8+4=u9:=⟨_,rfl⟩
        have hrd9:=HSZ.out.2.1.drop (k:=4) (cap:=c8) (by have:=HS8.out.2.2.2.1;have:=HS8.out.2.2.2.2.1;omega)
        replace hrd9:BRow Wz B0 (takeA A8 c8 4) (s.drop 4):=hrd9
        rw [hA9] at hrd9
        rw [hA9,hn9,hc9,hu9] at HTK
        have H9:Hid (BRow Wz B0 A9 (s.drop 4)∧u9+n9=un∧n9=(s.drop 4).length∧n9≤c9∧c9≤maxLen∧dropPad g' (s.drop 4)=FIN∧(s.drop 4).length≤g'∧(s.drop 4).length+1<gk):=hid (by
         have k1:=HS8.out.2.1;have k2:=HS8.out.2.2.2.1;have k3:=HS8.out.2.2.2.2.1;have k4:=HS8.out.2.2.2.2.2.1;have k5:=HS8.out.2.2.2.2.2.2.1;have k6:=HS8.out.2.2.2.2.2.2.2.2
         have k7:(s.drop 4).length=s.length-4:=List.length_drop
         exact ⟨hrd9,by omega,by omega,by omega,by omega,hdp,by omega,by omega⟩)
        have hPB:∃ bv:Value,∃ ok:Bool,(if 4≤n9 then Value.tuple #[.slice A9 4 4,.bool true] else Value.tuple #[.slice none 0 0,.bool false])=.tuple #[bv,.bool ok]∧((ok=true∧4≤n9∧bv=.slice A9 4 4)∨(ok=false∧n9<4)):=by
         by_cases h4:4≤n9
         ·exact ⟨_,true,if_pos h4,.inl ⟨rfl,h4,rfl⟩⟩
         exact ⟨_,false,if_neg h4,.inr ⟨rfl,by omega⟩⟩
        obtain ⟨bv0,ok0,hpb,hok0⟩:=hPB
        have HOK9:=hid hok0
        have HPB:=hid hpb
        clear hA9 hn9 hc9 hu9 hrd9 hdp hz4 hsl4 hstop h4 hpb hok0
        go_wp2_with (first | (go_at_call 46;refine HEQ.out.mono ?_;rintro e w9 ⟨rfl,rfl⟩) | (go_at_call 47;refine HTK.out.mono ?_;rintro e w10 ⟨rfl,hs10,hf10⟩;have HT10:=hid (HTZ.out.takes HP.out HSZ.out.1 hf10);have HS10:Hid (SrcAt w10 fb A9 n9 c9 u9∧BRow w10 B0 A9 (s.drop 4)):=hid ⟨hs10,H9.out.1.below (hf10.below HSZ.out.2.2 (fun q hq=>by have:=HS.out.2.2.2.2.2.2.2.1;omega))⟩;have hpk:=peek_p fb A9 n9 c9 u9 4 w10 hs10 H9.out.2.2.2.1;rw [HPB.out] at hpk;have HPK9:=hid hpk;clear hs10 hf10 hpk) | (go_at_call 45;refine HPK9.out.mono ?_;rintro e w11 ⟨rfl,rfl⟩))
        obtain ⟨gk',rfl⟩:∃ gk',gk=gk'+1:=⟨gk-1,by have:=H9.out.2.2.2.2.2.2.2;omega⟩
        go_roundg gk'
        case rel=>exact ⟨s.drop 4,A9,n9,c9,u9,g',ok0,rfl,HS10.out.1,H9.out.2.1,HS10.out.2,H9.out.2.2.1,H9.out.2.2.2.1,H9.out.2.2.2.2.1,HT10.out,H9.out.2.2.2.2.2.2.1,H9.out.2.2.2.2.2.1,by have:=H9.out.2.2.2.2.2.2.2;omega,HOK9.out⟩
        case measure=>omega
      have HRF:Hid (R=(out,.inr s)):=hid (by rw [HRE.out,hstop (.inl h4)])
      clear hstop h4
      go_wp2
      rw [Exit.noGoto_ret]
      have hfin:=RnT.ok (un:=un) HP.out HT8.out HRF.out HS8.out.1 HS8.out.2.1 HS8.out.2.2.2.1 (Nat.le_refl _) hw3
      refine ⟨by simp,.inl ⟨_,_,rfl,run_takeDeferred hfin.1,?_⟩⟩
      have hce2:=hfin.2.1
      refine ⟨.int .i64 0,by simp [results,Tryz.results22,go_sem,hce2],?_⟩
      exact hfin.2.2
     have q2:((fnn:Int) != (size:Int))=true:=bne_iff_ne.2 (by omega)
     have HRE:Hid (R=(out,.inl 11)):=hid (by rw [HXR.out,if_pos (.inr hk2)];rfl)
     clear hk1 hk2 hz0
     go_wp2
     rw [Exit.noGoto_ret]
     have hfin:=RnT.fin (un:=un) HP.out HT6.out HRE.out (by decide) (Nat.le_refl _) hw3
     refine ⟨by simp,.inl ⟨_,_,rfl,run_takeDeferred hfin.1,?_⟩⟩
     have hce2:=hfin.2.1
     rw [show ((11:Nat):Int)=11 from rfl] at hce2
     refine ⟨.int .i64 11,by simp [results,Tryz.results22,go_sem,hce2],?_⟩
     exact hfin.2.2
    have q1:((fk:Int) != (kind:Int))=true:=bne_iff_ne.2 (by omega)
    have HRE:Hid (R=(out,.inl 11)):=hid (by rw [HXR.out,if_pos (.inl (show ((fk:Nat):Int)≠(kind:Int) by omega))];rfl)
    clear hk1 hz0
    go_wp2
    rw [Exit.noGoto_ret]
    have hfin:=RnT.fin (un:=un) HP.out HT6.out HRE.out (by decide) (Nat.le_refl _) hw3
    refine ⟨by simp,.inl ⟨_,_,rfl,run_takeDeferred hfin.1,?_⟩⟩
    have hce2:=hfin.2.1
    rw [show ((11:Nat):Int)=11 from rfl] at hce2
    refine ⟨.int .i64 11,by simp [results,Tryz.results22,go_sem,hce2],?_⟩
    exact hfin.2.2
   have qz:((fe:Int) != 0)=true:=bne_iff_ne.2 (by omega)
   have HRE:Hid (R=(out,.inl fe)):=hid (by rw [HXR.out,if_pos (show ((fe:Nat):Int)≠0 by omega)];show (out,(Sum.inl ((fe:Int).toNat):Nat ⊕ List UInt8))=_;rw [Int.toNat_natCast])
   have HZ:=hid hfe
   clear hfe
   go_wp2
   rw [Exit.noGoto_ret]
   have hfin:=RnT.fin (un:=un) HP.out HT6.out HRE.out HZ.out (Nat.le_refl _) hw3
   refine ⟨by simp,.inl ⟨_,_,rfl,run_takeDeferred hfin.1,?_⟩⟩
   have hce2:=hfin.2.1
   refine ⟨.int .i64 (fe:Int),by simp [results,Tryz.results22,go_sem,hce2],?_⟩
   exact hfin.2.2
 have qz:((he:Int) != 0)=true:=bne_iff_ne.2 (by omega)
 have HRE:Hid (R=([],.inl he)):=hid (by rw [HXQ.out,if_pos (show ((he:Nat):Int)≠0 by omega)];show (([]:List UInt8),(Sum.inl ((he:Int).toNat):Nat ⊕ List UInt8))=_;rw [Int.toNat_natCast])
 have HZ:=hid he0
 clear he0
 go_wp2
 have hce:(W3.setCell ⟨w.heap.size,0,none⟩ (.int .i64 (he:Int))).cell? ⟨w.heap.size,0,none⟩=some (.int .i64 (he:Int)):=by rw [(HI3.out.e.set 0 (.int .i64 (he:Int))).cell];rfl
 rw [Exit.noGoto_ret]
 refine ⟨.int .i64 (he:Int),by simp [results,Tryz.results22,go_sem,hce],?_⟩
 exact xrun_err HP.out HRE.out HZ.out HI3.out.j (fun q hq=>⟨(HI3.out.m q hq).1,(HI3.out.m q hq).2.2.2.1⟩) HI3.out.f (fun _ h _=>h) (Nat.le_refl _)
open Go.RowKit Rng Win Lz Box
def MemEnd (bud:Nat) (bs:List UInt8) (w:World) (e:Ending) (w':World):Prop :=
 ∃ v,OwnB w' 5 w.heap.size v (xP bud bs).1∧Below w.heap.size w w' ∧
  (match (xP bud bs).2 with
  | .inl z=>z≠0∧e=.returned (.tuple #[v,.int .i64 0,.int .i64 ((z:Nat):Int)])
  | .inr r=>r.length≤bs.length∧e=.returned (.tuple #[v,.int .i64 ((bs.length-r.length:Nat):Int),.int .i64 0]))
set_option maxHeartbeats 2000000 in
theorem member_p (A:Option Addr) (bs:List UInt8) (n c:Nat) (budget:Int) (w:World) (hn:n=bs.length) (hr:BRow w w.heap.size A bs) (hc:n≤c) (hcm:c≤maxLen) (hub:n≤100000000) :
 Calls Tryz.prog 13 #[.slice A n c,.int .i64 budget] w (MemEnd (budOf budget) bs w):=by
 have HR:=hid hr
 have HN:=hid hn
 have HH:Hid (n≤c∧c≤maxLen∧n≤100000000):=hid ⟨hc,hcm,hub⟩
 obtain ⟨R,hRR⟩:∃ R,xP (budOf budget) bs=R:=⟨_,rfl⟩
 have HRR:=hid hRR
 clear hr hn hc hcm hub hRR
 go_enter Tryz.func13,Tryz.ntmps13
 go_wp2_with fail
 obtain ⟨W0,hW0⟩:∃ W,w.alloc (.cells #[.slice none 0 0] 27)=W:=⟨_,rfl⟩
 have hs0:W0.heap.size=w.heap.size+1:=by rw [← hW0];simp only [World.size_alloc]
 have hP0:Pts W0 w.heap.size #[.slice none 0 0] 27:=by rw [← hW0];exact Pts.new w _ _
 have hB0:Below w.heap.size w W0:=by rw [← hW0];exact below_alloc _ _
 rw [hW0]
 clear hW0
 refine (whole_p A n c W0).mono ?_;rintro e w1 ⟨rfl,hs1,hb1⟩
 have hP1:=hP0.below hb1 hP0.lt
 have B1:=hid (hB0.trans (hb1.mono hB0.size))
 have hz1:=Pts.lt hs1
 rw [hs0] at hs1 hz1
 have HRun:=xrun_p (w.heap.size+1) w.heap.size 23 #[.pointer (some ⟨w.heap.size,0,none⟩)] (OutX w.heap.size w.heap.size) (fun q=>q=w.heap.size) budget A n c 0 n bs w1 (outx_ok w.heap.size w.heap.size w.heap.size 16777216 (Nat.le_refl _) (Nat.le_refl _) (Nat.le_refl _))
  ⟨.slice none 0 0,hP1,OwnB.nil _ _ _,fun q=>⟨fun h=>.inl h,fun h=>h.elim id (fun h=>by cases h)⟩,B1.out.size⟩ (by omega) (by omega) hs1 HN.out (HR.out.below B1.out) B1.out.size HH.out.1 HH.out.2.1 (by omega) (by have:=HH.out.2.2;omega) HH.out.2.2
 rw [HRR.out] at HRun
 have HRU:=hid HRun
 rw [hs0]
 clear hP0 hB0 hb1 hP1 hs1 hs0 HRun
 go_wp2_with fail
 refine HRU.out.mono ?_;rintro e w2 ⟨⟨M,⟨v,hv,ho,hMv,hbb⟩,hM⟩,hf,hend⟩
 have hBF:Below w.heap.size w w2:=B1.out.trans (hf.below B1.out.size (by rintro q (e | e) <;> omega))
 obtain ⟨T,RR⟩:=R
 have hv:Pts w2 w.heap.size #[v] 27:=hv
 have ho:OwnB w2 5 w.heap.size v T:=ho
 obtain ⟨Av,kv,hve,-,-,-⟩:=ho.slice
 obtain ⟨Lv,hLv⟩:∃ L,T.length=L:=⟨_,rfl⟩
 rw [hLv] at hve
 subst hve
 have cv:w2.cell? ⟨w.heap.size,0,none⟩=some (.slice Av Lv kv):=by rw [hv.cell];rfl
 have zv:=hv.frozen 0
 have hso:(Value.slice Av Lv kv).ownBlock≠some w.heap.size:=fun e=>by
  rcases ho.form with ⟨h1,_⟩ | ⟨g,cap,cur,h1,_,hh,_⟩
  ·rw [h1] at e;cases e
  rw [h1] at e
  injection e with e
  subst e
  exact hh.ne_of hv (by decide) rfl
 have HO:Hid (OwnB (w2.setCell ⟨w.heap.size,0,none⟩ (.slice Av Lv kv)) 5 w.heap.size (.slice Av Lv kv) T∧Below w.heap.size w (w2.setCell ⟨w.heap.size,0,none⟩ (.slice Av Lv kv))) :=
  hid ⟨ho.other (p:=⟨w.heap.size,0,none⟩) hso (.slice Av Lv kv),hBF.trans ((Frm.setCell (p:=⟨w.heap.size,0,none⟩) (Frm.refl (fun q=>q=w.heap.size) w2) rfl (.slice Av Lv kv)).below hBF.size (by intro q hq;omega))⟩
 have HVP:=hid hv
 clear hBF ho hv hM hMv hbb hf hso HRU hLv
 cases RR with
 | inl z =>
  obtain ⟨hz,rfl⟩:=hend
  have qz:((z:Int) != 0)=true:=bne_iff_ne.2 (by omega)
  have HZ:=hid hz
  clear hz
  go_wp2
  have hcv:(w2.setCell ⟨w.heap.size,0,none⟩ (.slice Av Lv kv)).cell? ⟨w.heap.size,0,none⟩=some (.slice Av Lv kv):=World.cell?_setCell_same' _ _ _ (by rw [cv];rfl)
  refine bodyPost_ret (v:=.tuple #[.slice Av Lv kv,.int .i64 0,.int .i64 (z:Int)]) (by simp [results,Tryz.f13,go_sem,hcv]) rfl ?_
  unfold MemEnd
  rw [HRR.out]
  exact ⟨_,HO.out.1,HO.out.2,HZ.out,rfl⟩
 | inr r =>
  obtain ⟨rfl,A2,n2,c2,used,hs2,hu,hn2⟩:=hend
  have HS2:=hid hs2
  have HU:=hid (And.intro hu hn2)
  clear hs2 hu hn2
  have hne:w.heap.size+1≠w.heap.size:=by omega
  have SA:Hid (SrcAt w2.drew (w.heap.size+1) A2 n2 c2 used):=hid HS2.out
  have SB:Hid (SrcAt (w2.drew.setCell ⟨w.heap.size,0,none⟩ (.slice Av Lv kv)) (w.heap.size+1) A2 n2 c2 used):=hid (Pts.other SA.out (p:=⟨w.heap.size,0,none⟩) hne _)
  go_upto_region 5 with fail
  go_region_with (go_at_call 25;(first | refine (used_p _ A2 n2 c2 used _ SA.out).mono ?_ | refine (used_p _ A2 n2 c2 used _ SB.out).mono ?_);rintro e w3 ⟨rfl,rfl⟩)
  all_goals
   have hcv:(w2.setCell ⟨w.heap.size,0,none⟩ (.slice Av Lv kv)).cell? ⟨w.heap.size,0,none⟩=some (.slice Av Lv kv):=World.cell?_setCell_same' _ _ _ (by rw [cv];rfl)
   have hO2:OwnB (w2.setCell ⟨w.heap.size,0,none⟩ (.slice Av Lv kv)).drew 5 w.heap.size (.slice Av Lv kv) T:=HO.out.1
   have hB2:Below w.heap.size w (w2.setCell ⟨w.heap.size,0,none⟩ (.slice Av Lv kv)).drew:=⟨HO.out.2.os,HO.out.2.tape,HO.out.2.output,HO.out.2.size,HO.out.2.block⟩
   have O2:=hid (And.intro hO2 hB2)
   clear hO2 hB2
   go_wp2
   refine bodyPost_ret (v:=.tuple #[.slice Av Lv kv,.int .i64 (used:Int),.int .i64 0]) (by simp [results,Tryz.f13,go_sem,hcv]) rfl ?_
   unfold MemEnd
   rw [HRR.out]
   have h1:=HU.out.1
   have h2:=HU.out.2
   have h3:=HN.out
   refine ⟨_,O2.out.1,O2.out.2,by omega,?_⟩
   rw [show bs.length-r.length=used by omega]
def winX (bs:List UInt8):Int×Int :=
 if (headOf bs).2≠0 then (0,(headOf bs).2) else if bs.length=12 then (0,10) else if bs.getD 12 0=0 then (0,0) else ((blockOf (bs.drop 12)).1,(blockOf (bs.drop 12)).2.2.2.2)
theorem headOf_ok {bs:List UInt8} (h:¬ (headOf bs).2≠0):12≤bs.length:=by
 unfold headOf at h
 by_cases h1:bs.length<12
 ·rw [if_pos h1] at h;exact absurd (by decide) h
 omega
theorem headOf_nat (bs:List UInt8):∃ k e:Nat,headOf bs=((k:Int),(e:Int)):=by
 unfold headOf
 repeat' split
 ·exact ⟨0,10,rfl⟩
 ·exact ⟨0,11,rfl⟩
 ·exact ⟨0,12,rfl⟩
 exact ⟨_,0,rfl⟩
set_option maxHeartbeats 1000000 in
theorem window_x (A:Option Addr) (bs:List UInt8) (n c:Nat) (w:World) (hn:n=bs.length) (hr:BRow w w.heap.size A bs) (hc:n≤c) (hcm:c≤maxLen) :
 Calls Tryz.prog 17 #[.slice A n c] w fun e w'=>e=.returned (.tuple #[.int .i64 (winX bs).1,.int .i64 (winX bs).2])∧Below w.heap.size w w':=by
 have hHD:=head_p A bs n c w hn hc hcm hr (by omega)
 obtain ⟨k,he,hhd⟩:=headOf_nat bs
 rw [hhd] at hHD
 unfold checkV at hHD
 obtain ⟨R,hR⟩:∃ R,winX bs=R:=⟨_,rfl⟩
 rw [hR]
 have hRU:=hR
 unfold winX at hRU
 rw [hhd] at hRU
 have HH:=hid hHD
 have HRU:=hid hRU
 have HR:=hid hr
 have HC:Hid (n=bs.length∧n≤c∧c≤maxLen):=hid ⟨hn,hc,hcm⟩
 have hok:=fun h=>headOf_ok (bs:=bs) h
 rw [hhd] at hok
 have HOK:=hid hok
 clear hHD hRU hr hn hc hcm hhd hR hok
 by_cases he0:he=0
 ·subst he0
  have h12:=HOK.out (by simp)
  have hR1:=HRU.out
  rw [if_neg (by simp)] at hR1
  rw [show ((0:Nat):Int)=0 from rfl] at HH
  by_cases hl:bs.length=12
  ·rw [if_pos hl] at hR1
   subst hR1
   have q1:((n:Int)==12)=true:=beq_iff_eq.2 (by have:=HC.out.1;omega)
   clear hl h12
   go_enter Tryz.func17,Tryz.ntmps17
   go_wp2_with fail
   refine HH.out.mono ?_;rintro e w1 ⟨rfl,hb1⟩
   have HB1:=hid hb1
   clear hb1
   go_wp2
   go_ret2
   exact ⟨rfl,HB1.out⟩
  rw [if_neg hl] at hR1
  have q1:((n:Int)==12)=false:=beq_eq_false_iff_ne.2 (by have:=HC.out.1;omega)
  obtain ⟨ab,ao,rfl,hab,hcell⟩:=HR.out (by omega)
  obtain ⟨b0,hb0⟩:∃ b,(bs.getD 12 0).toNat=b:=⟨_,rfl⟩
  have c12:w.cell? ⟨ab,ao+12,none⟩=some (.int .u8 (b0:Int)):=by rw [← hb0];exact hcell 12 (by omega)
  have h12n:(12:Int)<(n:Int):=by have:=HC.out.1;omega
  by_cases hz:bs.getD 12 0=0
  ·rw [if_pos hz] at hR1
   subst hR1
   have hbz:b0=0:=by rw [← hb0,hz];rfl
   subst hbz
   clear hl h12 hz hb0 hcell
   go_enter Tryz.func17,Tryz.ntmps17
   go_wp2_with fail
   refine HH.out.mono ?_;rintro e w1 ⟨rfl,hb1⟩
   have HB1:=hid hb1
   have c13:w1.cell? ⟨ab,ao+12,none⟩=some (.int .u8 0):=(hb1.cell (p:=⟨ab,ao+12,none⟩) hab).trans c12
   clear hb1
   go_wp2
   go_ret2
   exact ⟨rfl,HB1.out⟩
  rw [if_neg hz] at hR1
  obtain ⟨s,n',p,q,er,hblk⟩:=blockOf_in (bs.drop 12)
  rw [hblk] at hR1
  subst hR1
  have hbz:((b0:Int)==0)=false:=beq_eq_false_iff_ne.2 (by
   intro e
   have e2:b0=0:=by omega
   rw [e2] at hb0
   exact hz (by rw [← UInt8.ofNat_toNat (x:=bs.getD 12 0),hb0];rfl))
  have hsl:=fun w=>slice_fromX (some ⟨ab,ao,none⟩) n c 12 (by have:=HC.out.1;omega) HC.out.2.1 w
  rw [if_neg (by have:=HC.out.1;have:=HC.out.2.1;omega)] at hsl
  obtain ⟨A2,hA2⟩:∃ A2,(some (⟨ab,ao,none⟩:Addr)).map (·.add 12)=A2:=⟨_,rfl⟩
  rw [hA2] at hsl
  have hrd:=HR.out.drop (k:=12) (cap:=c) (by have:=HC.out.1;have:=HC.out.2.1;omega)
  rw [if_neg (by have:=HC.out.1;have:=HC.out.2.1;omega),hA2] at hrd
  have HRD:=hid hrd
  have HBL:=hid hblk
  obtain ⟨n2,hn2⟩:∃ n2,n-12=n2:=⟨_,rfl⟩
  obtain ⟨c2,hc2⟩:∃ c2,c-12=c2:=⟨_,rfl⟩
  rw [hn2,hc2] at hsl
  replace hsl:∀ w,(Instr.sliceAt 27 (.slice (some ⟨ab,ao,none⟩) n c) (some (.int .i64 12)) none none).run Tryz.prog w=.ok (.slice A2 n2 c2) w:=hsl
  have HN2:Hid (n2=(bs.drop 12).length∧n2≤c2∧c2≤maxLen):=hid ⟨by rw [List.length_drop];have:=HC.out.1;omega,by have:=HC.out.2.1;omega,by have:=HC.out.2.2;omega⟩
  clear hl h12 hz hb0 hcell hA2 hrd hblk hn2 hc2
  go_enter Tryz.func17,Tryz.ntmps17
  go_wp2_with fail
  refine HH.out.mono ?_;rintro e w1 ⟨rfl,hb1⟩
  have HB1:=hid hb1
  have c13:w1.cell? ⟨ab,ao+12,none⟩=some (.int .u8 (b0:Int)):=(hb1.cell (p:=⟨ab,ao+12,none⟩) hab).trans c12
  have hbk:=block_p A2 (bs.drop 12) n2 c2 w1 HN2.out.1 HN2.out.2.1 HN2.out.2.2 ((HRD.out.below hb1).more hb1.size)
  rw [HBL.out] at hbk
  have HBK:=hid hbk
  clear hb1 hbk
  go_wp2_with fail
  refine HBK.out.mono ?_;rintro e w2 ⟨rfl,hb2⟩
  have HB2:=hid (HB1.out.trans (hb2.mono HB1.out.size))
  unfold blkV
  simp only
  clear hb2
  go_wp2
  go_ret2
  exact ⟨rfl,HB2.out⟩
 have qz:((he:Int) != 0)=true:=bne_iff_ne.2 (by omega)
 have hR1:=HRU.out
 rw [if_pos (show ((he:Nat):Int)≠0 by omega)] at hR1
 subst hR1
 clear he0
 go_enter Tryz.func17,Tryz.ntmps17
 go_wp2_with fail
 refine HH.out.mono ?_;rintro e w1 ⟨rfl,hb1⟩
 have HB1:=hid hb1
 clear hb1
 go_wp2
 go_ret2
 exact ⟨rfl,HB1.out⟩
open Go.RowKit Rng Win Lz Box
open Go.RowKit Rng Win Lz Box
open Go.RowKit Rng Win Lz Box
open Go.RowKit Rng Win Lz Box
theorem two_numX {m:Nat} (h:m<65536):(UInt8.ofNat (m / 256)).toNat*256+(UInt8.ofNat m).toNat=m:=by
 rw [UInt8.toNat_ofNat',UInt8.toNat_ofNat']
 omega
def bodyB (b:List UInt8):List UInt8:=if b.length=0 then [0] else 1::UInt8.ofNat ((b.length-1) / 256)::UInt8.ofNat (b.length-1)::(b++[0])
set_option maxRecDepth 8000 in
theorem bodyB_read (S most:Nat) (b r:List UInt8) (hb:b.length≤65536) (hm:b.length≤most):d2P S most (bodyB b++r)=(b,.inr r):=by
 unfold bodyB
 by_cases h0:b.length=0
 ·rw [if_pos h0]
  have:b=[]:=List.eq_nil_of_length_eq_zero h0
  subst this
  have e:one S newDS ([0]++r)=.fin r:=by
   unfold one
   rw [if_neg (by simp)]
   rfl
  unfold d2P d2Go
  rw [e]
 rw [if_neg h0]
 have hl:b.length-1<65536:=by omega
 have htw:=two_numX hl
 have e1:∃ y,one S newDS (1::UInt8.ofNat ((b.length-1) / 256)::UInt8.ofNat (b.length-1)::(b++[0])++r)=.told b y ([0]++r):=by
  have e0:(1::UInt8.ofNat ((b.length-1) / 256)::UInt8.ofNat (b.length-1)::(b++[0])++r).getD 0 0=1:=rfl
  have hh:headN (1:UInt8).toNat=3:=by decide
  have hbad:¬ badHead newDS (1:UInt8).toNat:=by
   unfold badHead
   rintro (e | e)
   ·exact e.2.1 rfl
   exact absurd e.1 (by decide)
  have e2:twoB ((1::UInt8.ofNat ((b.length-1) / 256)::UInt8.ofNat (b.length-1)::(b++[0])++r).take 3) 1+1=b.length:=by
   show (UInt8.ofNat ((b.length-1) / 256)).toNat*256+(UInt8.ofNat (b.length-1)).toNat+1=_
   omega
  have e3:(1::UInt8.ofNat ((b.length-1) / 256)::UInt8.ofNat (b.length-1)::(b++[0])++r).drop 3=b++([0]++r):=by
   show (b++[0])++r=_
   rw [List.append_assoc]
  apply Exists.intro
  unfold one
  rw [e0,hh,if_neg (by simp),if_neg (by omega),if_neg (by simp),if_neg (by omega),if_neg hbad]
  unfold oneBody
  rw [if_pos (by decide),e2,e3,if_neg (by rw [List.length_append];omega),List.take_append_of_le_length (Nat.le_refl _),List.take_length,List.drop_append_of_le_length (Nat.le_refl _),List.drop_length,List.nil_append]
 obtain ⟨y,hy⟩:=e1
 have e4:∀ x:DS,one S x ([0]++r)=.fin r:=by
  intro x
  unfold one
  rw [if_neg (by simp)]
  rfl
 unfold d2P d2Go
 rw [hy]
 simp only
 rw [if_neg (by simp only [List.length_nil];omega)]
 cases hf:(1::UInt8.ofNat ((b.length-1) / 256)::UInt8.ofNat (b.length-1)::(b++[0])++r).length with
 | zero=>simp at hf
 | succ f =>
  unfold d2Go
  rw [e4]
  rfl
def hdRaw (numbers:Bool) (b:List UInt8) (code:UInt8):List UInt8:=(if numbers then 192::(put (bodyB b).length++put b.length) else [0])++[33,1,code]
def zs (n:Nat):List UInt8:=List.replicate (padOf n) 0
def hdPad (numbers:Bool) (b:List UInt8) (code:UInt8):List UInt8:=hdRaw numbers b code++zs (1+(hdRaw numbers b code).length)
def hdB (numbers:Bool) (b:List UInt8) (code:UInt8):List UInt8:=sealOn (UInt8.ofNat ((1+(hdPad numbers b code).length) / 4)::hdPad numbers b code)
theorem padOf_lt (n:Nat):padOf n<4:=by unfold padOf;omega
theorem padOf_mod (n:Nat):(n+padOf n) % 4=0:=by unfold padOf;omega
theorem zs_len (n:Nat):(zs n).length=padOf n:=by unfold zs;simp
theorem hdRaw_len (numbers:Bool) (b:List UInt8) (code:UInt8):(hdRaw numbers b code).length≤22:=by
 have h1:=(put_len (bodyB b).length).2
 have h2:=(put_len b.length).2
 unfold hdRaw
 cases numbers
 ·simp
 simp only [if_true,List.length_append,List.length_cons,List.length_nil]
 omega
theorem hdPad_len (numbers:Bool) (b:List UInt8) (code:UInt8):(1+(hdPad numbers b code).length) % 4=0∧(hdPad numbers b code).length≤25∧3≤(hdPad numbers b code).length:=by
 have h1:=hdRaw_len numbers b code
 have h2:=padOf_mod (1+(hdRaw numbers b code).length)
 have h3:=padOf_lt (1+(hdRaw numbers b code).length)
 have h4:4≤(hdRaw numbers b code).length:=by unfold hdRaw;simp only [List.length_append,List.length_cons,List.length_nil];split <;> simp
 unfold hdPad
 rw [List.length_append,zs_len]
 omega
theorem hdB_len (numbers:Bool) (b:List UInt8) (code:UInt8):(hdB numbers b code).length=(hdPad numbers b code).length+5:=by
 unfold hdB sealOn
 rw [List.length_append,sealB_len,List.length_cons]
theorem hdLen_hdB (numbers:Bool) (b r:List UInt8) (code:UInt8):hdLen (hdB numbers b code++r)=(hdB numbers b code).length:=by
 have h:=hdPad_len numbers b code
 rw [hdB_len]
 unfold hdLen
 have e:(hdB numbers b code++r).getD 0 0=UInt8.ofNat ((1+(hdPad numbers b code).length) / 4):=rfl
 rw [e,UInt8.toNat_ofNat']
 omega
theorem bkFilter_code {code:UInt8} (h:code.toNat≤40) (z p w:Nat):bkFilter (code::List.replicate z 0) p w=.ok (winOf code.toNat,p,w):=by
 unfold bkFilter
 simp only
 rw [if_neg (by omega),if_neg (by omega),if_neg (by intro h2;exact h2 (fun x hx=>(List.mem_replicate.1 hx).2))]
theorem number_one (r:List UInt8):number (1::r)=(1,1,0):=number_put (n:=1) (by decide) r
theorem number_33 (r:List UInt8):number (33::r)=(33,1,0):=number_put (n:=33) (by decide) r
theorem bkKind_code {code:UInt8} (h:code.toNat≤40) (z p w:Nat):bkKind ([33,1,code]++List.replicate z 0) p w=.ok (winOf code.toNat,p,w):=by
 unfold bkKind
 rw [show ([33,1,code]++List.replicate z 0:List UInt8)=33::1::code::List.replicate z 0 from rfl,number_33]
 rw [if_neg (by simp),if_neg (by simp)]
 unfold bkSet
 rw [show (33::1::code::List.replicate z 0:List UInt8).drop 1=1::code::List.replicate z 0 from rfl,number_one]
 rw [if_neg (by simp),if_neg (by simp)]
 exact bkFilter_code h z p w
theorem bkBody_hd (numbers:Bool) (b:List UInt8) {code:UInt8} (h:code.toNat≤40) (hb:b.length≤65536) :
 bkBody (hdPad numbers b code)=.ok (winOf code.toNat,if numbers then (bodyB b).length else M64',if numbers then b.length else M64'):=by
 have hbl:1≤(bodyB b).length∧(bodyB b).length≤65540:=by
  unfold bodyB
  split
  ·simp
  simp only [List.length_cons,List.length_append,List.length_nil];omega
 unfold hdPad zs
 generalize padOf (1+(hdRaw numbers b code).length)=z
 unfold hdRaw
 cases numbers with
 | false =>
  show bkBody (0::([33,1,code]++List.replicate z 0))=_
  unfold bkBody
  simp only
  rw [if_neg (by simp)]
  unfold bkPacked
  rw [if_neg (by simp)]
  unfold bkWhole
  rw [if_neg (by simp)]
  exact bkKind_code h z _ _
 | true =>
  have e:((if true=true then 192::(put (bodyB b).length++put b.length) else [0])++[33,1,code])++List.replicate z 0=192::(put (bodyB b).length++(put b.length++([33,1,code]++List.replicate z 0))):=by
   simp
  rw [e]
  have n1:=number_put (n:=(bodyB b).length) (by omega) (put b.length++([33,1,code]++List.replicate z 0))
  have n2:=number_put (n:=b.length) (by omega) ([33,1,code]++List.replicate z 0)
  unfold bkBody
  simp only
  rw [if_neg (by decide)]
  unfold bkPacked
  rw [if_pos (by decide),n1]
  rw [if_neg (by simp),if_neg (by simp only;omega)]
  unfold bkWhole
  simp only
  rw [List.drop_append_of_le_length (Nat.le_refl _),List.drop_length,List.nil_append,if_pos (by decide),n2,if_neg (by simp)]
  simp only
  rw [List.drop_append_of_le_length (Nat.le_refl _),List.drop_length,List.nil_append]
  exact bkKind_code h z _ _
theorem blockOf_hd (numbers:Bool) (b:List UInt8) {code:UInt8} (h:code.toNat≤40) (hb:b.length≤65536) :
 blockOf (hdB numbers b code)=(winOf code.toNat,(hdB numbers b code).length,if numbers then (bodyB b).length else M64',if numbers then b.length else M64',0):=by
 have hp:=hdPad_len numbers b code
 have hl:=hdB_len numbers b code
 obtain ⟨L,hL⟩:∃ L,UInt8.ofNat ((1+(hdPad numbers b code).length) / 4)=L:=⟨_,rfl⟩
 have hLn:(L.toNat+1)*4=(hdB numbers b code).length:=by
  rw [← hL,UInt8.toNat_ofNat',hl]
  omega
 have hc:hdB numbers b code=L::(hdPad numbers b code++sealB (L::hdPad numbers b code)):=by
  unfold hdB sealOn
  rw [hL]
  rfl
 have hlen:(L::(hdPad numbers b code++sealB (L::hdPad numbers b code))).length=(hdB numbers b code).length:=by rw [← hc]
 have hs:=sealed_seal (L::hdPad numbers b code)
 have hs2:sealedB (hdB numbers b code)=true:=by unfold hdB;rw [hL];exact hs
 rw [hc] at hs2
 conv=>lhs;rw [hc]
 unfold blockOf
 simp only
 rw [hlen,hLn,if_neg (by omega)]
 have hL0:¬ L=0:=by
  intro e
  rw [e] at hLn
  have:(0:UInt8).toNat=0:=rfl
  omega
 have ht:(L::(hdPad numbers b code++sealB (L::hdPad numbers b code))).take (hdB numbers b code).length=L::(hdPad numbers b code++sealB (L::hdPad numbers b code)):=List.take_of_length_le (by omega)
 rw [if_neg hL0,ht,if_neg (by rw [hs2];simp)]
 have hd:((L::(hdPad numbers b code++sealB (L::hdPad numbers b code))).drop 1).take ((hdB numbers b code).length-5)=hdPad numbers b code:=by
  show (hdPad numbers b code++sealB (L::hdPad numbers b code)).take _=_
  rw [hl,Nat.add_sub_cancel,List.take_append_of_le_length (Nat.le_refl _),List.take_length]
 rw [hd,bkBody_hd numbers b h hb]
 rfl
open Go.RowKit Rng Win Lz Box
def blockB (kind:Int) (numbers:Bool) (b:List UInt8) (code:UInt8):List UInt8:=hdB numbers b code++(bodyB b++(zs ((hdB numbers b code).length+(bodyB b).length)++chkB kind b))
def recB (kind:Int) (numbers:Bool) (b:List UInt8) (code:UInt8):Nat×Nat:=((hdB numbers b code).length+(bodyB b).length+chkLen kind,b.length)
theorem bodyB_len {b:List UInt8} (hb:b.length≤65536):1≤(bodyB b).length∧(bodyB b).length≤65540:=by
 unfold bodyB
 split
 ·simp
 simp only [List.length_cons,List.length_append,List.length_nil];omega
theorem zs_take (n:Nat) (r:List UInt8):(zs n++r).take (padOf n)=List.replicate (padOf n) 0:=by
 rw [List.take_append_of_le_length (by rw [zs_len];omega)]
 exact List.take_of_length_le (by rw [zs_len];omega)
theorem zs_drop (n:Nat) (r:List UInt8):(zs n++r).drop (padOf n)=r:=by
 have h:(zs n).drop (padOf n)=[]:=List.drop_of_length_le (by rw [zs_len];omega)
 rw [List.drop_append_of_le_length (by rw [zs_len];omega),h,List.nil_append]
theorem xTail_made (kind:Int) (numbers:Bool) {code:UInt8} (h:code.toNat≤40) {b:List UInt8} (hb:b.length≤65536) (r:List UInt8) :
 xTail (blockOf (hdB numbers b code)) kind (hdB numbers b code).length (bodyB b).length b (zs ((hdB numbers b code).length+(bodyB b).length)++(chkB kind b++r))=.ok b (recB kind numbers b code) r:=by
 rw [blockOf_hd numbers b h hb]
 have hl:=bodyB_len hb
 have hc:=chkB_len kind b
 unfold xTail
 rw [if_neg (by
  simp only
  cases numbers <;> simp [M64'])]
 unfold recB
 generalize (hdB numbers b code).length=H
 generalize hn:H+(bodyB b).length=n
 rw [if_neg (by rw [List.length_append,List.length_append,zs_len];omega),zs_take,zs_drop,List.take_append_of_le_length (by omega),List.take_of_length_le (by omega),if_neg (by simp)]
 have e:(zs n++(chkB kind b++r)).drop (padOf n+chkLen kind)=r:=by
  rw [← List.drop_drop,zs_drop,List.drop_append_of_le_length (by omega),List.drop_of_length_le (by omega),List.nil_append]
 rw [e]
theorem xBlock_made (budget:Nat) (kind:Int) (told:Nat) (numbers:Bool) {code:UInt8} (h:code.toNat≤40) {b:List UInt8} (hb:b.length≤65536) (hw:winOf code.toNat≤budget) (ht:told+b.length≤16777216) (r:List UInt8) :
 xBlock budget kind told (blockB kind numbers b code++r)=.ok b (recB kind numbers b code) r:=by
 have hc:blockB kind numbers b code++r=hdB numbers b code++(bodyB b++(zs ((hdB numbers b code).length+(bodyB b).length)++(chkB kind b++r))):=by
  unfold blockB
  simp only [List.append_assoc]
 rw [hc]
 unfold xBlock
 rw [hdLen_hdB,if_neg (by rw [List.length_append];omega),List.take_append_of_le_length (Nat.le_refl _),List.take_length,List.drop_append_of_le_length (Nat.le_refl _),List.drop_length,List.nil_append]
 have hm:=xTail_made kind numbers h hb r
 have hbo:=blockOf_hd numbers b h hb
 unfold xBody
 rw [show (blockOf (hdB numbers b code)).2.2.2.2=0 by rw [hbo],show (blockOf (hdB numbers b code)).1=winOf code.toNat by rw [hbo],if_neg (by simp),if_neg (by omega),bodyB_read _ _ b _ hb (by omega)]
 simp only
 rw [show (bodyB b++(zs ((hdB numbers b code).length+(bodyB b).length)++(chkB kind b++r))).length-(zs ((hdB numbers b code).length+(bodyB b).length)++(chkB kind b++r)).length=(bodyB b).length by rw [List.length_append];omega]
 exact hm
def blocksB (kind:Int) (numbers:Bool) (code:UInt8) (l:List (List UInt8)):List UInt8:=l.flatMap fun b=>blockB kind numbers b code
def recsX (kind:Int) (numbers:Bool) (code:UInt8) (l:List (List UInt8)):List (Nat×Nat):=l.map fun b=>recB kind numbers b code
theorem blockB_head (kind:Int) (numbers:Bool) (b r:List UInt8) (code:UInt8):(blockB kind numbers b code++r).getD 0 0≠0∧1≤(blockB kind numbers b code).length:=by
 have hp:=hdPad_len numbers b code
 have e:(blockB kind numbers b code++r).getD 0 0=UInt8.ofNat ((1+(hdPad numbers b code).length) / 4):=rfl
 refine ⟨?_,?_⟩
 ·rw [e]
  intro h
  have:=congrArg UInt8.toNat h
  rw [UInt8.toNat_ofNat'] at this
  have h0:(0:UInt8).toNat=0:=rfl
  omega
 unfold blockB
 rw [List.length_append,hdB_len]
 omega
theorem xBlocks_made (budget:Nat) (kind:Int) (numbers:Bool) {code:UInt8} (h:code.toNat≤40) (hw:winOf code.toNat≤budget) (s:List UInt8) (hs:1≤s.length) (hs0:s.getD 0 0=0):∀ (l:List (List UInt8)) (f:Nat) (recs:List (Nat×Nat)) (out:List UInt8),(∀ b∈l,b.length≤65536)→out.length+l.flatten.length≤16777216→(blocksB kind numbers code l++s).length<f →
 xBlocks budget kind f recs out (blocksB kind numbers code l++s)=(out++l.flatten,.inr (recs++recsX kind numbers code l,s))
 | [],0,_,_,_,_,hf=>absurd hf (by omega)
 | [],f+1,recs,out,_,_,hf=>by
  show xBlocks budget kind (f+1) recs out s=_
  unfold xBlocks
  rw [if_neg (by omega),if_pos hs0]
  simp [recsX]
 | b::l,0,_,_,_,_,hf=>absurd hf (by omega)
 | b::l,f+1,recs,out,hl,ho,hf=>by
  have hb:=hl b (by simp)
  have hc:blocksB kind numbers code (b::l)++s=blockB kind numbers b code++(blocksB kind numbers code l++s):=by
   unfold blocksB
   rw [List.flatMap_cons,List.append_assoc]
  rw [hc] at hf ⊢
  obtain ⟨h1,h2⟩:=blockB_head kind numbers b (blocksB kind numbers code l++s) code
  rw [List.flatten_cons,List.length_append] at ho
  unfold xBlocks
  rw [if_neg (by rw [List.length_append];omega),if_neg h1,xBlock_made budget kind out.length numbers h hb hw (by omega)]
  simp only
  rw [xBlocks_made budget kind numbers h hw s hs hs0 l f _ _ (fun c hc=>hl c (List.mem_cons_of_mem _ hc)) (by rw [List.length_append];omega) (by rw [List.length_append] at hf;omega)]
  simp [recsX]
open Go.RowKit Rng Win Lz Box
def fits63 (l:List (Nat×Nat)):Prop:=∀ p∈l,p.1<9223372036854775808∧p.2<9223372036854775808
theorem xNum_put {n:Nat} (h:n<9223372036854775808) (r:List UInt8):xNum n (put n++r)=.inr r:=by
 unfold xNum
 rw [number_put h r,if_neg (by simp),if_neg (by simp),List.drop_append_of_le_length (Nat.le_refl _),List.drop_length,List.nil_append]
theorem xNums_recs (r:List UInt8):∀ (l:List (Nat×Nat)),fits63 l→xNums (l.flatMap fun p=>[p.1,p.2]) (recsB l++r)=.inr r
 | [],_=>rfl
 | p::l,h=>by
  have hp:=h p (by simp)
  have e1:(p::l).flatMap (fun p=>[p.1,p.2])=p.1::p.2::l.flatMap (fun p=>[p.1,p.2]):=rfl
  have e2:recsB (p::l)++r=put p.1++(put p.2++(recsB l++r)):=by
   unfold recsB
   rw [List.flatMap_cons]
   simp only [List.append_assoc]
  rw [e1,e2]
  unfold xNums
  rw [xNum_put hp.1]
  simp only
  unfold xNums
  rw [xNum_put hp.2]
  exact xNums_recs r l (fun q hq=>h q (List.mem_cons_of_mem _ hq))
def idxRaw (recs:List (Nat×Nat)):List UInt8:=headB recs++recsB recs
def idxPad (recs:List (Nat×Nat)):List UInt8:=idxRaw recs++zs (idxRaw recs).length
def idxB (recs:List (Nat×Nat)):List UInt8:=sealOn (idxPad recs)
theorem idxRaw_len (recs:List (Nat×Nat)):2≤(idxRaw recs).length∧(idxRaw recs).length≤10+18*recs.length:=by
 have h1:=put_len recs.length
 have h2:=recsB_len recs
 unfold idxRaw headB
 rw [List.length_append,List.length_cons]
 omega
theorem idxB_len (recs:List (Nat×Nat)):(idxB recs).length=(idxRaw recs).length+padOf (idxRaw recs).length+4∧(idxB recs).length % 4=0:=by
 have h:=padOf_mod (idxRaw recs).length
 unfold idxB sealOn idxPad
 rw [List.length_append,List.length_append,zs_len,sealB_len]
 omega
theorem xIndex_made (recs:List (Nat×Nat)) (hn:recs.length<9223372036854775808) (hf:fits63 recs) (r:List UInt8):xIndex recs (idxB recs++r)=.inr ((idxB recs).length,r):=by
 have hl:=idxRaw_len recs
 have hb:=idxB_len recs
 have hc:idxB recs++r=0::(put recs.length++(recsB recs++(zs (idxRaw recs).length++(sealB (idxPad recs)++r)))):=by
  have hi:idxPad recs=0::(put recs.length++(recsB recs++zs (idxRaw recs).length)):=by
   show (0::put recs.length)++recsB recs++zs (idxRaw recs).length=_
   simp only [List.append_assoc,List.cons_append]
  have h2:idxB recs++r=idxPad recs++(sealB (idxPad recs)++r):=by
   show (idxPad recs++sealB (idxPad recs))++r=_
   rw [List.append_assoc]
  refine h2.trans ((congrArg (· ++ (sealB (idxPad recs)++r)) hi).trans ?_)
  simp only [List.append_assoc,List.cons_append]
 have hlen:(idxB recs++r).length-(zs (idxRaw recs).length++(sealB (idxPad recs)++r)).length=(idxRaw recs).length:=by
  rw [List.length_append,List.length_append,List.length_append,zs_len,sealB_len]
  omega
 have htake:(idxB recs++r).take ((idxRaw recs).length+padOf (idxRaw recs).length)=idxPad recs:=by
  have hpl:(idxPad recs).length=(idxRaw recs).length+padOf (idxRaw recs).length:=by unfold idxPad;rw [List.length_append,zs_len]
  unfold idxB sealOn
  rw [List.append_assoc,List.take_append_of_le_length (by omega)]
  exact List.take_of_length_le (by omega)
 unfold xIndex recN
 have hd:(idxB recs++r).drop 1=put recs.length++(recsB recs++(zs (idxRaw recs).length++(sealB (idxPad recs)++r))):=by rw [hc];rfl
 rw [hd]
 unfold xNums
 rw [xNum_put hn]
 simp only
 rw [xNums_recs _ recs hf]
 simp only
 rw [hlen,if_neg (by rw [List.length_append,List.length_append,zs_len,sealB_len];omega),zs_take,zs_drop,htake,List.take_append_of_le_length (by rw [sealB_len];omega),List.take_of_length_le (by rw [sealB_len];omega),if_neg (by simp)]
 have e:(zs (idxRaw recs).length++(sealB (idxPad recs)++r)).drop (padOf (idxRaw recs).length+4)=r:=by
  rw [← List.drop_drop,zs_drop,List.drop_append_of_le_length (by rw [sealB_len];omega),List.drop_of_length_le (by rw [sealB_len];omega),List.nil_append]
 rw [e,hb.1]
def headM (kc:UInt8):List UInt8:=magic++sealOn [0,kc]
theorem headM_ok {kc:UInt8} (h:kc=0∨kc=1∨kc=4):headOf (headM kc)=((kc.toNat:Int),0)∧(headM kc).length=12:=by
 have hl:(headM kc).length=12:=rfl
 refine ⟨?_,hl⟩
 have hs:=sealed_seal [0,kc]
 unfold headOf
 rw [if_neg (by omega)]
 have e1:(headM kc).take 6=magic:=rfl
 have e2:((headM kc).take 12).drop 6=sealOn [0,kc]:=rfl
 have e3:(headM kc).getD 6 0=0:=rfl
 have e4:(headM kc).getD 7 0=kc:=rfl
 rw [e1,e2,e3,e4,if_neg (by rw [hs];simp),if_neg (by unfold flagsOk;simp [h])]
def footM (k:Nat) (kc:UInt8):List UInt8:=sealB (four k++[0,kc])++(four k++[0,kc])++[89,90]
theorem footM_ok {kc:UInt8} (h:kc=0∨kc=1∨kc=4) {k:Nat} (hk:k<4294967296):footOf (footM k kc)=((kc.toNat:Int),(k+1)*4,0)∧(footM k kc).length=12:=by
 have hl:(footM k kc).length=12:=rfl
 refine ⟨?_,hl⟩
 unfold footOf
 rw [if_neg (by omega)]
 have e1:((footM k kc).drop 4).take 6=four k++[0,kc]:=rfl
 have e2:(footM k kc).take 4=sealB (four k++[0,kc]):=rfl
 have e3:((footM k kc).take 12).drop 10=[89,90]:=rfl
 have e4:(footM k kc).getD 8 0=0:=rfl
 have e5:(footM k kc).getD 9 0=kc:=rfl
 have e6:hiNum (footM k kc) 4=((((0*256+(UInt8.ofNat (k / 16777216)).toNat)*256+(UInt8.ofNat (k / 65536)).toNat)*256+(UInt8.ofNat (k / 256)).toNat)*256+(UInt8.ofNat k).toNat):=rfl
 have e7:hiNum (footM k kc) 4=k:=by
  rw [e6,UInt8.toNat_ofNat',UInt8.toNat_ofNat',UInt8.toNat_ofNat',UInt8.toNat_ofNat']
  omega
 rw [e1,e2,e3,e4,e5,e7,if_neg (by simp),if_neg (by unfold flagsOk;simp [h])]
def madeX (kc:UInt8) (numbers:Bool) (code:UInt8) (l:List (List UInt8)):List UInt8 :=
 headM kc++(blocksB (kc.toNat:Int) numbers code l++(idxB (recsX (kc.toNat:Int) numbers code l)++footM ((idxB (recsX (kc.toNat:Int) numbers code l)).length / 4-1) kc))
theorem recsX_fits (kind:Int) (numbers:Bool) (code:UInt8) (l:List (List UInt8)) (hl:∀ b∈l,b.length≤65536):fits63 (recsX kind numbers code l):=by
 intro p hp
 obtain ⟨b,hb,rfl⟩:=List.mem_map.1 hp
 have h1:=hl b hb
 have h2:=hdB_len numbers b code
 have h3:=hdPad_len numbers b code
 have h4:=bodyB_len h1
 have h5:chkLen kind≤8:=by
  unfold chkLen
  split
  ·omega
  split <;> omega
 unfold recB
 simp only
 omega
theorem idxB_head (recs:List (Nat×Nat)) (r:List UInt8):(idxB recs++r).getD 0 0=0:=rfl
theorem madeX_read {kc:UInt8} (hk:kc=0∨kc=1∨kc=4) (numbers:Bool) {code:UInt8} (h:code.toNat≤40) {budget:Nat} {l:List (List UInt8)} (hw:l=[]∨winOf code.toNat≤budget) (hl:∀ b∈l,b.length≤65536) (ht:l.flatten.length≤16777216) (hn:l.length≤1000) (r:List UInt8) :
 xMem budget (madeX kc numbers code l++r)=(l.flatten,.inr r):=by
 obtain ⟨h1,h2⟩:=headM_ok hk
 obtain ⟨R,hR⟩:∃ R,recsX (kc.toNat:Int) numbers code l=R:=⟨_,rfl⟩
 have hRl:R.length=l.length:=by rw [← hR];unfold recsX;rw [List.length_map]
 have hRf:fits63 R:=by rw [← hR];exact recsX_fits _ _ _ _ hl
 have hi1:=idxB_len R
 have hi2:=idxRaw_len R
 obtain ⟨s,hs⟩:∃ s,idxB R++(footM ((idxB R).length / 4-1) kc++r)=s:=⟨_,rfl⟩
 have hs1:1≤s.length:=by rw [← hs,List.length_append];omega
 have hs0:s.getD 0 0=0:=by rw [← hs];exact idxB_head R _
 have hc:madeX kc numbers code l++r=headM kc++(blocksB (kc.toNat:Int) numbers code l++s):=by
  unfold madeX
  rw [hR,← hs]
  simp only [List.append_assoc]
 rw [hc]
 unfold xMem
 rw [if_neg (by rw [List.length_append];omega),List.take_append_of_le_length (by omega),List.take_of_length_le (by omega),h1,if_neg (by simp),List.drop_append_of_le_length (by omega),List.drop_of_length_le (by omega),List.nil_append]
 have hx:xBlocks budget (kc.toNat:Int) ((headM kc++(blocksB (kc.toNat:Int) numbers code l++s)).length+1) [] [] (blocksB (kc.toNat:Int) numbers code l++s)=(l.flatten,.inr (R,s)):=by
  rcases hw with rfl | hw
  ·have hR0:R=[]:=by rw [← hR];rfl
   subst hR0
   show xBlocks budget (kc.toNat:Int) _ [] [] s=_
   unfold xBlocks
   rw [if_neg (by omega),if_pos hs0]
   rfl
  rw [xBlocks_made budget (kc.toNat:Int) numbers h hw s hs1 hs0 l _ [] [] hl (by simpa using ht) (by rw [@List.length_append _ (headM kc)];omega),hR]
  rfl
 rw [hx]
 simp only
 unfold xEnd
 rw [← hs,xIndex_made R (by omega) hRf]
 simp only
 obtain ⟨k,hk2⟩:∃ k,(idxB R).length / 4-1=k:=⟨_,rfl⟩
 rw [hk2]
 have hpl:=padOf_lt (idxRaw R).length
 obtain ⟨f1,f2⟩:=footM_ok hk (k:=k) (by omega)
 rw [if_neg (by rw [List.length_append];omega),List.take_append_of_le_length (by omega),List.take_of_length_le (by omega),f1,if_neg (by simp),if_neg (by simp only;omega),List.drop_append_of_le_length (by omega),List.drop_of_length_le (by omega),List.nil_append]
open Go.RowKit Rng Win Lz Box
theorem row_cellsX (w:World) (T:TypeId) (bs:List UInt8) (cs:Array Value) (h:cs=(bs.map byteV).toArray):BRow (w.alloc (.cells cs T)) (w.heap.size+1) (some ⟨w.heap.size,0,none⟩) bs:=by
 intro _
 subst h
 refine ⟨w.heap.size,0,rfl,Nat.lt_succ_self _,fun j hj=>?_⟩
 have hp:=Pts.new w (bs.map byteV).toArray T
 rw [hp.cell,Nat.zero_add,List.getElem?_toArray,List.getElem?_map,List.getElem?_eq_getElem hj,List.getD_eq_getElem?_getD,List.getElem?_eq_getElem hj]
 rfl
open Go.ChangeShapes Go.WideShapes Go.Deep Go.RowKit
structure ByteRow where
 A:Option Addr
 bs:List UInt8
 cap:Nat
instance:Inhabited ByteRow:=⟨⟨none,[],0⟩⟩
def ByteRow.v (r:ByteRow):Value:=.slice r.A r.bs.length r.cap
theorem bulk_one_le {H:Type} (d:DataW H):1≤Rows.uptoBulk d:=by
 cases d with
 | lit l=>cases l <;> simp [Rows.uptoBulk]
 | nil=>simp [Rows.uptoBulk]
 | ptr d=>simp [Rows.uptoBulk]
 | slice elems spare=>simp [Rows.uptoBulk]
 | agg parts=>simp [Rows.uptoBulk]
 | iface t d=>simp [Rows.uptoBulk]
 | map entries=>simp [Rows.uptoBulk]
 | held h=>simp [Rows.uptoBulk]
theorem bulk_part_le {H:Type} {d:DataW H} {l:List (DataW H)} (h:d∈l):Rows.uptoBulk d≤Rows.uptoBulkAll l:=by
 induction l with
 | nil=>cases h
 | cons x r ih =>
  simp only [Rows.uptoBulkAll]
  cases List.mem_cons.1 h with
  | inl e=>subst e;omega
  | inr e=>have:=ih e;omega
theorem bulk_length_le {H:Type} (l:List (DataW H)):l.length≤Rows.uptoBulkAll l:=by
 induction l with
 | nil=>simp [Rows.uptoBulkAll]
 | cons x r ih=>have:=bulk_one_le x;simp only [Rows.uptoBulkAll,List.length_cons];omega
theorem bulk_small {H:Type} {l:List (DataW H)} (hk:Rows.uptoSmall H l=true):Rows.uptoBulkAll l≤1048576:=of_decide_eq_true hk
section
variable {H : Type} {enc : TypeId × Value → H} {P : Program} {w : World}
theorem open_byte_rows {t e q:TypeId} {A:Option Addr} {len cap:Nat} {d:DataW H} {p:List MemPlace} (ht:P.underlying t=some (.slice e)) (he:P.underlying e=some (.slice q)) (hq:P.underlying q=some (.int .u8))
 (ce:P.cellsOf e=1) (cq:P.cellsOf q=1) (h:DataW.Trod enc P w 0 (fun _=>true) true t (.slice A len cap) d p) :
 len≤cap∧cap≤maxLen∧∃ R:Nat→ByteRow,Opn.RowAt w w.heap.size A len (fun i=>(R i).v) ∧
  (∀ i,i<len→(R i).bs.length≤(R i).cap∧(R i).cap≤maxLen∧BRow w w.heap.size (R i).A (R i).bs)∧len≤Rows.uptoBulk d∧∀ i,i<len→(R i).bs.length≤Rows.uptoBulk d:=by
 obtain ⟨fuel,hf⟩:=h
 rcases open_int_rows ht he hq ce cq hf with ⟨hcs,_⟩ | ⟨x,l,c,AA,L,C,Z,hcs,_,hl,hm,hx,hr⟩
 ·simp [Value.cells] at hcs
  obtain ⟨rfl,rfl,rfl⟩:=hcs
  exact ⟨Nat.le_refl _,Nat.zero_le _,fun _=>default,fun h=>absurd h (by omega),fun i h=>absurd h (by omega),Nat.zero_le _,fun i h=>absurd h (by omega)⟩
 simp [Value.cells] at hcs
 obtain ⟨rfl,rfl,rfl⟩:=hcs
 simp only [Prod.mk.injEq] at hx
 obtain ⟨hd,_⟩:=hx
 have key:∀ i,i<len→∃ r:ByteRow,r.A=AA i∧r.bs.length=L i∧r.cap=C i∧BRow w w.heap.size r.A r.bs:=by
  intro i hi
  obtain ⟨_,hLC,_,hZ,hwz,_,hcell⟩:=hr i (by omega)
  have hrow:Opn.RowAt w w.heap.size (AA i) (L i) (fun k=>.int .u8 ((Z i).getD k 0)):=by
   intro h0
   cases hA:AA i with
   | none =>
    obtain ⟨_,_,_,_,_,hn,_⟩:=hr i (by omega)
    have:=hn hA
    omega
   | some a' =>
    have hc:=(hcell a' hA).2
    have h1:=hc 0 (by omega)
    have hx:=Opn.add_plain h1
    refine ⟨a'.block,a'.off,by rw [← hx],Opn.lt_of_cell (a:=a') (by simpa [Addr.add] using h1),fun k hk=>?_⟩
    have:=hc k (by omega)
    rw [hx,Opn.add_at] at this
    exact this
  obtain ⟨bs,hbl,hb⟩:=BRow.of_row hrow (fun k hk=>bounds_u8 (hwz _ (by
   have:k<(Z i).length:=by omega
   simp [List.getD,List.getElem?_eq_getElem this])))
  exact ⟨⟨AA i,bs,C i⟩,rfl,hbl,rfl,hb⟩
 obtain ⟨R,hR⟩:=Opn.pick key
 refine ⟨hl,hm,R,fun h0=>?_,fun i hi=>?_,?_,fun i hi=>?_⟩
 ·have h1:=(hr 0 (by omega)).1
  have hx:=Opn.add_plain h1
  refine ⟨x.block,x.off,by rw [← hx],Opn.lt_of_cell (a:=x) (by simpa [Addr.add] using h1),fun k hk=>?_⟩
  have:=(hr k (by omega)).1
  rw [hx,Opn.add_at] at this
  obtain ⟨e1,e2,e3,_⟩:=hR k hk
  show w.cell? _=some (.slice (R k).A (R k).bs.length (R k).cap)
  rw [e1,e2,e3]
  exact this
 ·obtain ⟨e1,e2,e3,hb⟩:=hR i hi
  obtain ⟨_,hLC,hC,_⟩:=hr i (by omega)
  exact ⟨by omega,by omega,hb⟩
 ·rw [hd]
  simp only [Rows.uptoBulk]
  have:=bulk_length_le ((List.range len).map fun r=>intRow (H:=H) IntKind.u8 (AA r) (L r) (Z r))
  simp only [List.length_map,List.length_range] at this
  omega
 rw [hd]
 simp only [Rows.uptoBulk]
 have h1:=bulk_part_le (List.mem_map.2 ⟨i,List.mem_range.2 hi,rfl⟩:intRow (H:=H) IntKind.u8 (AA i) (L i) (Z i)∈(List.range len).map fun r=>intRow (H:=H) IntKind.u8 (AA r) (L r) (Z r))
 obtain ⟨e1,e2,e3,hb⟩:=hR i hi
 obtain ⟨_,hLC,_,hZ,_,hn,_⟩:=hr i (by omega)
 have h2:L i≤Rows.uptoBulk (intRow (H:=H) IntKind.u8 (AA i) (L i) (Z i)):=by
  cases hA:AA i with
  | none=>have:=hn hA;omega
  | some a' =>
   simp only [intRow,Rows.uptoBulk]
   have:=bulk_length_le (lits (H:=H) IntKind.u8 ((Z i).take (L i)))
   have h3:(lits (H:=H) IntKind.u8 ((Z i).take (L i))).length=L i:=by simp [lits];omega
   omega
 omega
end
open Go.RowKit Rng Win Lz Box
theorem OwnB.rowZ {w:World} {T base:Nat} {A:Option Addr} {n c:Nat} {bs:List UInt8} (h:OwnB w T base (.slice A n c) bs):BRow w w.heap.size A bs:=by
 obtain ⟨A',c',e,_,_,hr⟩:=h.slice
 injection e with e1 e2 e3
 subst e1
 exact hr
theorem OwnB.lowZ {w:World} {T base base':Nat} {v:Value} {bs:List UInt8} (h:OwnB w T base v bs) (hb:base'≤base):OwnB w T base' v bs:=by
 refine ⟨h.1,?_⟩
 rcases h.2 with h2 | ⟨g,cap,cur,rfl,hb2,r⟩
 ·exact .inl h2
 exact .inr ⟨g,cap,cur,rfl,by omega,r⟩
theorem OwnB.keepZ {w w':World} {T base:Nat} {v:Value} {bs:List UInt8} (h:OwnB w T base v bs) (hb:Below w.heap.size w w'):OwnB w' T base v bs :=
 h.frm (S:=fun _=>False) (Frm.of_below hb) (fun _ _ h=>h)
def rowsL (R:Nat→ByteRow):Nat→List (List UInt8)
 | 0=>[]
 | k+1=>rowsL R k++[(R k).bs]
open Go.RowKit Rng Win Lz Box
theorem rowsL_flatC (R:Nat→ByteRow) (k:Nat):(rowsL R (k+1)).flatten=(rowsL R k).flatten++(R k).bs:=by
 rw [rowsL,List.flatten_append]
 simp
theorem rowsL_flat_lenC (R:Nat→ByteRow) (M:Nat):∀ k,(∀ i,i<k→(R i).bs.length≤M)→(rowsL R k).flatten.length≤M*k
 | 0,_=>by simp [rowsL]
 | k+1,h=>by
  have h1:=rowsL_flat_lenC R M k (fun i hi=>h i (by omega))
  have h2:=h k (by omega)
  rw [rowsL_flatC,List.length_append,Nat.mul_succ]
  omega
set_option maxHeartbeats 1000000 in
theorem grow_p (m:Nat) (w:World) (hm:m≤100000000):Calls Tryz.prog 67 #[.slice none 0 0,.int .i64 (m:Int)] w fun e w'=>∃ A c,e=.returned (.slice A 0 c)∧OwnB w' 5 w.heap.size (.slice A 0 c) []∧Below w.heap.size w w':=by
 have hm0:(0:Int)≤(m:Int):=by omega
 have hmw:IntKind.i64.wrap (m:Int)=(m:Int):=Go.IntWalk.i64_in _ (by omega)
 have HM:=hid hm
 by_cases h0:m=0
 ·subst h0
  go_enter Tryz.func67,Tryz.ntmps67
  go_wp2
  go_ret
  exact ⟨none,0,rfl,OwnB.nil _ _ _,Below.refl _ _⟩
 have q0:(0:Int)<(m:Int):=by omega
 have hsl:=fun w=>slice_toX none 0 0 0 (Nat.le_refl _) (Nat.le_refl _) w
 clear h0 hm
 go_enter Tryz.func67,Tryz.ntmps67
 go_wp2_with (at_builtin;refine wpList_append_zeros w rfl (.tmp 20) (.tmp 21) 27 3 rfl 5 w.heap.size Tryz.underlying27 Tryz.underlying3 Tryz.info_u8 (.slice none 0 0) [] rfl ?own m rfl ?len (Nat.le_refl _) ?next)
 case own=>exact OwnB.nil _ _ _
 case len=>have:=HM.out;simp;omega
 intro v1 w1 hown1 hfrm1 hnew1
 have hb1:Below w.heap.size w w1:=hfrm1.below (Nat.le_refl _) (fun q hq=>by cases hq)
 obtain ⟨A1,k1,e1,hk1,-,-⟩:=hown1.slice
 have el:(List.replicate m (0:UInt8)).length=m:=by simp
 rw [el] at e1 hk1
 subst e1
 have ho:=hown1.cut (k:=0) (Nat.zero_le _)
 rw [List.take_zero] at ho
 have HO:=hid (And.intro ho hb1)
 have hs2:=fun w=>slice_toX A1 m k1 0 (Nat.zero_le _) hk1 w
 clear hown1 hfrm1 hnew1 hb1 ho el
 go_wp2
 go_ret
 exact ⟨_,_,rfl,HO.out.1,HO.out.2⟩
set_option maxRecDepth 8000 in
set_option maxHeartbeats 4000000 in
theorem concat_p (A:Option Addr) (n c:Nat) (R:Nat→ByteRow) (B:Nat) (w:World) (hr:Opn.RowAt w B A n fun i=>(R i).v) (hB:B≤w.heap.size) (hn:n≤8) (hb:∀ i,i<n→BRow w B (R i).A (R i).bs∧(R i).bs.length≤1000000) :
 Calls Tryz.prog 48 #[.slice A n c] w fun e w'=>∃ v,e=.returned v∧OwnB w' 5 w.heap.size v (rowsL R n).flatten∧Below w.heap.size w w':=by
 have HR:=hid hr
 have HB:=hid hb
 have HBB:=hid (And.intro hB hn)
 clear hr hb hB hn
 go_enter Tryz.func48,Tryz.ntmps48
 go_wp2
 go_loopw [3,11] (fun sv iv wr=>wr=w∧∃ i:Nat,iv=.int .i64 (i:Int)∧i≤n∧sv=.int .i64 ((rowsL R i).flatten.length:Int)) (fun _ iv _=>n-(intOf iv).toNat)
 case atStart=>exact ⟨rfl,0,rfl,Nat.zero_le _,rfl⟩
 obtain ⟨hwr,i,rfl,hi,rfl⟩:=hrel
 subst hwr
 obtain ⟨X,hX⟩:∃ X,(rowsL R i).flatten.length=X:=⟨_,rfl⟩
 have HX:=hid (And.intro hX (show X≤1000000*8 by rw [← hX];have:=rowsL_flat_lenC R 1000000 i (fun k hk=>(HB.out k (by omega)).2);have:=HBB.out;omega))
 rw [hX]
 clear hX
 by_cases hlt:i<n
 ·obtain ⟨b,off,rfl,hbB,hcl⟩:=HR.out (by omega)
  have hcc:wr.cell? ⟨b,off+i,none⟩=some (.slice (R i).A (R i).bs.length (R i).cap):=hcl i hlt
  have g5:=(HB.out i hlt).2
  have hnext:(rowsL R (i+1)).flatten.length=X+(R i).bs.length:=by rw [rowsL_flatC,List.length_append,HX.out.1]
  obtain ⟨lb,hlb⟩:∃ lb,(R i).bs.length=lb:=⟨_,rfl⟩
  rw [hlb] at hcc hnext g5
  obtain ⟨Y,hY⟩:∃ Y,X+lb=Y:=⟨_,rfl⟩
  rw [hY] at hnext
  have i1:(X:Int)+(lb:Int)=(Y:Int):=by omega
  have i2:IntKind.i64.wrap (Y:Int)=(Y:Int):=Go.IntWalk.i64_in _ (by have:=HX.out.2;omega)
  have i3:(0:Int)≤(Y:Int):=by omega
  have i4:(i:Int)<8:=by have:=HBB.out;omega
  have HNX:=hid hnext
  clear hcl hbB hnext hY g5 hlb
  go_wp2
  exact ⟨⟨trivial,i+1,rfl,by omega,by rw [HNX.out]⟩,by simp only [intOf];omega⟩
 obtain rfl:i=n:=by omega
 have HG:=hid (grow_p X wr (by have:=HX.out.2;omega))
 clear hlt hi
 go_wp2_with fail
 refine HG.out.mono ?_;rintro e w1 ⟨A1,c1,rfl,ho1,hb1⟩
 have O1:=hid ho1
 have B1:=hid hb1
 clear ho1 hb1 HG
 obtain ⟨wo,rfl⟩:∃ wo,wo=wr:=⟨_,rfl⟩
 go_wp2
 go_loopw [6,27] (fun v iv wr=>∃ j:Nat,iv=.int .i64 (j:Int)∧j≤i∧OwnB wr 5 wo.heap.size v (rowsL R j).flatten∧Below wo.heap.size wo wr) (fun _ iv _=>i-(intOf iv).toNat)
 case atStart=>exact ⟨0,rfl,Nat.zero_le _,O1.out,B1.out⟩
 obtain ⟨j,rfl,hj,ho,hb⟩:=hrel
 obtain ⟨Av,kv,e,-,-,-⟩:=ho.slice
 obtain ⟨L,hL⟩:∃ L,(rowsL R j).flatten.length=L:=⟨_,rfl⟩
 rw [hL] at e
 subst e
 have O:=hid ho
 have BL:=hid hb
 have HLL:=hid hL
 clear ho hb hL O1 B1
 by_cases hlt:j<i
 ·obtain ⟨b,off,rfl,hbB,hcl⟩:=HR.out (by omega)
  have hcc:wr.cell? ⟨b,off+j,none⟩=some (.slice (R j).A (R j).bs.length (R j).cap):=(World.cell?_of_block (BL.out.block b (Nat.lt_of_lt_of_le hbB HBB.out.1))).trans (hcl j hlt)
  obtain ⟨g3,g5⟩:=HB.out j hlt
  have g4:=g3.below (BL.out.mono HBB.out.1)
  have hnext:(rowsL R (j+1)).flatten=(rowsL R j).flatten++(R j).bs:=rowsL_flatC R j
  have hX8:L≤1000000*8:=by rw [← HLL.out];have:=rowsL_flat_lenC R 1000000 j (fun k hk=>(HB.out k (by omega)).2);have:=HBB.out;omega
  obtain ⟨bs,hbs⟩:∃ bs,(R j).bs=bs:=⟨_,rfl⟩
  obtain ⟨rA,hrA⟩:∃ rA,(R j).A=rA:=⟨_,rfl⟩
  obtain ⟨rk,hrk⟩:∃ rk,(R j).cap=rk:=⟨_,rfl⟩
  rw [hbs] at hcc hnext g5 g4
  rw [hrA] at hcc g4
  rw [hrk] at hcc
  obtain ⟨lb,hlb⟩:∃ lb,bs.length=lb:=⟨_,rfl⟩
  rw [hlb] at hcc g5
  have HNX:=hid hnext
  have HG:=hid (And.intro g4 (And.intro hlb (And.intro g5 hX8)))
  have i4:(j:Int)<8:=by have:=HBB.out;omega
  clear hcl hbB hnext g3 g5 g4 hlb hbs hrA hrk hX8
  go_wp2_with (at_builtin;refine wpList_append_bytes _ rfl (.tmp 31) (.tmp 32) 27 rfl 5 wo.heap.size Tryz.underlying27 Tryz.info_u8 (.slice Av L kv) (rowsL R j).flatten rfl ?own rA lb rk B bs rfl HG.out.2.1.symm ?row ?len ?base ?next)
  case own=>exact O.out
  case row=>exact HG.out.1
  case len=>rw [HLL.out,HG.out.2.1];have:=HG.out.2.2;omega
  case base=>exact BL.out.size
  intro v4 w4 hown4 hfrm4 hnew4
  have H4:Hid (OwnB w4 5 wo.heap.size v4 (rowsL R (j+1)).flatten∧Below wo.heap.size wo w4):=hid ⟨by rw [HNX.out];exact hown4,BL.out.trans (hfrm4.below BL.out.size (fun q hq=>(O.out.lt hq).1))⟩
  clear hown4 hfrm4 hnew4
  go_wp2
  exact ⟨⟨j+1,rfl,by omega,H4.out.1,H4.out.2⟩,by simp only [intOf];omega⟩
 obtain rfl:j=i:=by omega
 clear hlt hj
 go_wp2
 go_ret
 exact ⟨_,rfl,O.out,BL.out⟩
end Go.Proofs.YtablgjhnpphodaaGreat
