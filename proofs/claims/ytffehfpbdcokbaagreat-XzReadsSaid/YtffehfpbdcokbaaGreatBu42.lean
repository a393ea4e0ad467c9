import Derived.Test.YtffehfpbdcokbaaGreatBu40
set_option linter.unusedVariables false
set_option linter.unusedSimpArgs false
namespace Go.Proofs.YtffehfpbdcokbaaGreat
open Lib (hid)
open Go.RowKit Rng Win Lz Box
attribute [local go_sem] Oper.semAt_some
def XRunEnd (fb un:Nat) (M0:Nat→Prop) (J:(Nat→Prop)→List UInt8→World→Prop) (R:List UInt8×(Nat ⊕ List UInt8)) (w:World) (e:Ending) (w':World):Prop :=
 (∃ M',J M' R.1 w'∧∀ q,M' q→M0 q∨w.heap.size≤q)∧Frm (fun q=>M0 q∨q=fb) w w'∧match R.2 with
   | .inl z=>z≠0∧e=.returned (.int .i64 (z:Int))
   | .inr r=>e=.returned (.int .i64 0)∧∃ A n c used,SrcAt w' fb A n c used∧used+n=un∧n=r.length
theorem xrun_fin {fb un z B0 fput most D:Nat} {lb:Array Value} {M0 M:Nat→Prop} {J:(Nat→Prop)→List UInt8→World→Prop} {R:List UInt8×(Nat ⊕ List UInt8)} {out:List UInt8} {w W:World} {o o':Obj} (hp:PutOk Tryz.prog fput lb B0 most J) (hR:R=(out,.inl z)) (hz:z≠0) (hj:J M out W) (hM:∀ q,M q→M0 q∨w.heap.size≤q) (hf:Frm (fun q=>M0 q∨q=fb) w W) (ho:W.heap[D]?=some o) (hc:o.isCells=false) (hD:w.heap.size≤D) :
 XRunEnd fb un M0 J R w (.returned (.int .i64 (z:Int))) (W.putObj D o'):=by
 subst hR
 obtain ⟨k1,k2⟩:=frm_put (w:=w) (o':=o') ho hc hD
 exact ⟨⟨M,hp.keep M _ W _ hj (k1.mono fun q _ hq hm=>by obtain ⟨_,c,t,f,hcc⟩:=hp.own M _ W hj q hm;exact (k2 q hq).2 _ _ _ hcc),hM⟩,hf.transW k1 (fun q hq hlt=>by have:=(k2 q hq).1;omega),hz,rfl⟩
theorem put_cell {W:World} {eb D:Nat} {v:Value} {T:TypeId} {o o':Obj} (he:Pts W eb #[v] T) (ho:W.heap[D]?=some o) (hc:o.isCells=false):(W.putObj D o').cell? ⟨eb,0,none⟩=some v:=by
 have h:Pts (W.putObj D o') eb #[v] T:=(World.putObj_heap_other (cells_ne he ho hc)).trans he
 rw [h.cell]
 rfl
structure RnT (w:World) (rb fb eb cb bud D:Nat) (put hold:Value) (kind:Int) (told:Nat) (lv:Value) (M0 M:Nat→Prop) (J:(Nat→Prop)→List UInt8→World→Prop) (out:List UInt8) (W:World):Prop where
 e:Pts W eb #[.int .i64 0] 25
 c:Pts W cb #[.pointer (some ⟨rb,0,none⟩)] 89
 r:RxAt W rb fb bud put hold kind told lv
 j:J M out W
 m:∀ q,M q→(M0 q∨w.heap.size≤q)∧q≠fb∧q≠eb
 f:Frm (fun q=>M0 q∨q=fb) w W
 d:W.heap[D]?=some (.deferred (some []))
section
variable {w W W' : World} {rb fb eb cb bud D un B0 fput most told : Nat} {lb : Array Value} {put hold lv : Value} {kind : Int} {M0 M : Nat → Prop} {J : (Nat → Prop) → List UInt8 → World → Prop} {out : List UInt8}
theorem RnT.cells (h:RnT w rb fb eb cb bud D put hold kind told lv M0 M J out W):W.cell? ⟨eb,0,none⟩=some (.int .i64 0)∧W.frozen? ⟨eb,0,none⟩=false∧W.cell? ⟨cb,0,none⟩=some (.pointer (some ⟨rb,0,none⟩))∧W.cell? ⟨rb,4,none⟩=some (.int .i64 kind) :=
 ⟨by rw [h.e.cell];rfl,h.e.frozen 0,by rw [h.c.cell];rfl,h.r.cells.2.2.2.2.1⟩
theorem RnT.takes (hp:PutOk Tryz.prog fput lb B0 most J) (h:RnT w rb fb eb cb bud D put hold kind told lv M0 M J out W) {A:Option Addr} {n c used:Nat} (hs:SrcAt W fb A n c used) (hf:Frm (· = fb) W W'):RnT w rb fb eb cb bud D put hold kind told lv M0 M J out W' :=
 ⟨h.e.frm hf (h.e.ne_of hs (by decide)),h.c.frm hf (h.c.ne_of hs (by decide)),Pts.frm h.r hf (Pts.ne_of h.r hs (by decide)),hp.keep M _ W W' h.j (hf.mono fun q _ e hm=>(h.m q hm).2.1 e),h.m,h.f.trans (hf.mono fun q _ e=>.inr e),
  (hf.block _ (Array.getElem?_eq_some_iff.1 h.d).1 (fun e=>by have h2:=hs;rw [← e] at h2;exact absurd (h.d.symm.trans h2) (by simp))).trans h.d⟩
theorem RnT.still (hp:PutOk Tryz.prog fput lb B0 most J) (h:RnT w rb fb eb cb bud D put hold kind told lv M0 M J out W) (hb:Below W.heap.size W W'):RnT w rb fb eb cb bud D put hold kind told lv M0 M J out W' :=
 ⟨h.e.below hb h.e.lt,h.c.below hb h.c.lt,Pts.below h.r hb (Pts.lt h.r),hp.keep M _ W W' h.j (Frm.of_below hb),h.m,h.f.trans (Frm.of_below hb),(hb.block _ (Array.getElem?_eq_some_iff.1 h.d).1).trans h.d⟩
theorem RnT.fin (hp:PutOk Tryz.prog fput lb B0 most J) (h:RnT w rb fb eb cb bud D put hold kind told lv M0 M J out W) {R:List UInt8×(Nat ⊕ List UInt8)} {z:Nat} (hR:R=(out,.inl z)) (hz:z≠0) (heb:w.heap.size≤eb) (hD:w.heap.size≤D) :
 (W.setCell ⟨eb,0,none⟩ (.int .i64 (z:Int))).heap[D]?=some (.deferred (some []))∧((W.setCell ⟨eb,0,none⟩ (.int .i64 (z:Int))).putObj D (.deferred none)).cell? ⟨eb,0,none⟩=some (.int .i64 (z:Int))∧XRunEnd fb un M0 J R w (.returned (.int .i64 (z:Int))) ((W.setCell ⟨eb,0,none⟩ (.int .i64 (z:Int))).putObj D (.deferred none)):=by
 have hne:D≠eb:=fun e=>by
  have h2:=h.e
  rw [← e] at h2
  exact absurd (h.d.symm.trans h2) (by simp)
 have hd:(W.setCell ⟨eb,0,none⟩ (.int .i64 (z:Int))).heap[D]?=some (.deferred (some [])):=(Below.heap_setCell _ _ _ _ hne).trans h.d
 exact ⟨hd,put_cell (h.e.set 0 (.int .i64 (z:Int))) hd rfl,xrun_fin hp hR hz (hp.keep M _ W _ h.j ((Frm.refl _ W).setCell (p:=⟨eb,0,none⟩) (fun hm=>(h.m _ hm).2.2 rfl) _)) (fun q hq=>(h.m q hq).1) (h.f.transW ((Frm.refl (fun q=>q=eb) W).setCell (p:=⟨eb,0,none⟩) rfl _) (fun q hq hlt=>by omega)) hd rfl hD⟩
theorem RnT.ok (hp:PutOk Tryz.prog fput lb B0 most J) (h:RnT w rb fb eb cb bud D put hold kind told lv M0 M J out W) {R:List UInt8×(Nat ⊕ List UInt8)} {s:List UInt8} {A:Option Addr} {n c used:Nat} (hR:R=(out,.inr s)) (hs:SrcAt W fb A n c used) (hun:used+n=un) (hn:n=s.length) (heb:w.heap.size≤eb) (hD:w.heap.size≤D) :
 (W.setCell ⟨eb,0,none⟩ (.int .i64 0)).heap[D]?=some (.deferred (some []))∧((W.setCell ⟨eb,0,none⟩ (.int .i64 0)).putObj D (.deferred none)).cell? ⟨eb,0,none⟩=some (.int .i64 0)∧XRunEnd fb un M0 J R w (.returned (.int .i64 0)) ((W.setCell ⟨eb,0,none⟩ (.int .i64 0)).putObj D (.deferred none)):=by
 have hne:D≠eb:=fun e=>by
  have h2:=h.e
  rw [← e] at h2
  exact absurd (h.d.symm.trans h2) (by simp)
 have hd:(W.setCell ⟨eb,0,none⟩ (.int .i64 0)).heap[D]?=some (.deferred (some [])):=(Below.heap_setCell _ _ _ _ hne).trans h.d
 have hfin:Frm (fun q=>q=eb∨q=D) W ((W.setCell ⟨eb,0,none⟩ (.int .i64 0)).putObj D (.deferred none)):=((Frm.refl (fun q=>q=eb∨q=D) W).setCell (p:=⟨eb,0,none⟩) (.inl rfl) _).putObj (.inr rfl) _
 subst hR
 refine ⟨hd,put_cell (h.e.set 0 (.int .i64 0)) hd rfl,⟨M,hp.keep M _ W _ h.j (hfin.mono fun q _ hq hm=>?_),fun q hq=>(h.m q hq).1⟩,h.f.transW hfin (fun q hq hlt=>by omega),rfl,A,n,c,used,Pts.frm hs hfin ?_,hun,hn⟩
 ·rcases hq with e | e
  ·exact (h.m q hm).2.2 e
  obtain ⟨_,c,t,f,hcc⟩:=hp.own M _ W h.j q hm
  rw [e,h.d] at hcc
  cases hcc
 rintro (e | e)
 ·exact hs.ne_of h.e (by decide) e
 have h2:=hs
 rw [e] at h2
 exact absurd (h.d.symm.trans h2) (by simp)
end
def xFin (X:List UInt8×(Nat ⊕ List UInt8)):List UInt8×(Nat ⊕ List UInt8) :=
 match X with
 | (out,.inl e)=>(out,.inl e)
 | (out,.inr r)=>(out,.inr (dropPad r.length r))
def xMid (kind:Int) (X:List UInt8×(Nat ⊕ (List (Nat×Nat)×List UInt8))):List UInt8×(Nat ⊕ List UInt8) :=
 match X with
 | (out,.inl e)=>(out,.inl e)
 | (out,.inr (recs,s))=>xEnd kind out recs s
theorem xMem_mid {bud:Nat} {bs:List UInt8} (h:¬ bs.length<12):xMem bud bs=if (headOf (bs.take 12)).2≠0 then ([],.inl (headOf (bs.take 12)).2.toNat) else xMid (headOf (bs.take 12)).1 (xBlocks bud (headOf (bs.take 12)).1 (bs.length+1) [] [] (bs.drop 12)):=by
 unfold xMem
 rw [if_neg h]
 rfl
def budOf (b:Int):Nat:=(min (max b 0) 16777216).toNat
theorem xrun_err {fb un z eb B0 fput most:Nat} {lb:Array Value} {M0 M:Nat→Prop} {J:(Nat→Prop)→List UInt8→World→Prop} {R:List UInt8×(Nat ⊕ List UInt8)} {out:List UInt8} {w W:World} {v:Value} {S:Nat→Prop} (hp:PutOk Tryz.prog fput lb B0 most J) (hR:R=(out,.inl z)) (hz:z≠0) (hj:J M out W) (hM:∀ q,M q→(M0 q∨w.heap.size≤q)∧q≠eb) (hf:Frm S w W) (hS:∀ q,S q→q<w.heap.size→M0 q∨q=fb) (heb:w.heap.size≤eb) :
 XRunEnd fb un M0 J R w (.returned (.int .i64 (z:Int))) (W.setCell ⟨eb,0,none⟩ v):=by
 subst hR
 exact ⟨⟨M,hp.keep M _ W _ hj ((Frm.refl _ W).setCell (p:=⟨eb,0,none⟩) (fun hm=>(hM _ hm).2 rfl) v),fun q hq=>(hM q hq).1⟩,(hf.mono fun q hlt hq=>hS q hq hlt).transW ((Frm.refl (fun q=>q=eb) W).setCell (p:=⟨eb,0,none⟩) rfl v) (fun q hq hlt=>by omega),hz,rfl⟩
set_option maxRecDepth 8000 in
set_option maxHeartbeats 8000000 in
theorem xrun_p (fb B0 fput:Nat) (lb:Array Value) (J:(Nat→Prop)→List UInt8→World→Prop) (M0:Nat→Prop) (budget:Int) (A:Option Addr) (n c used un:Nat) (bs:List UInt8) (w:World)
 (hp:PutOk Tryz.prog fput lb B0 16777216 J) (hj:J M0 [] w) (hfb:¬ M0 fb) (hfb0:B0≤fb) (hs:SrcAt w fb A n c used) (hn:n=bs.length) (hr:BRow w B0 A bs) (hB0:B0≤w.heap.size) (hc:n≤c) (hcm:c≤maxLen) (hu:used+n=un) (hub:un≤4611686018427387904) (hl:n≤100000000) :
 Calls Tryz.prog 22 #[.pointer (some ⟨fb,0,none⟩),.int .i64 budget,.func (.func fput) #[] lb,.func (.func 24) #[] #[]] w (XRunEnd fb un M0 J (xP (budOf budget) bs) w):=by
 obtain ⟨PUT,hPUT⟩:∃ P,Value.func (.func fput) #[] lb=P:=⟨_,rfl⟩
 have HPUT:=hid hPUT
 have HP:=hid hp
 have HJ:=hid (And.intro hj (And.intro (hp.lt hj) hfb))
 have HS:Hid (SrcAt w fb A n c used∧n=bs.length∧BRow w B0 A bs∧B0≤w.heap.size∧n≤c∧c≤maxLen∧used+n=un∧B0≤fb∧un≤4611686018427387904∧n≤100000000∧fb<w.heap.size):=hid ⟨hs,hn,hr,hB0,hc,hcm,hu,hfb0,hub,hl,Pts.lt hs⟩
 obtain ⟨R,hR⟩:∃ R,xP (budOf budget) bs=R:=⟨_,rfl⟩
 rw [hR]
 have HR:=hid hR
 obtain ⟨bud,hbud⟩:∃ bud,budOf budget=bud:=⟨_,rfl⟩
 have HBU:=hid hbud
 have hbi:min (max budget 0) 16777216=(bud:Int):=by rw [← hbud];unfold budOf;omega
 have hbb:bud≤16777216:=by rw [← hbud];unfold budOf;omega
 obtain ⟨mx,hmx⟩:∃ mx,max budget 0=mx:=⟨_,rfl⟩
 rw [hmx] at hbi
 have f1:=fun w=>Fnd.max2_int (P:=Tryz.prog) #[3,3] 3 _ _ _ hmx w
 have f2:=fun w=>Fnd.min2_int (P:=Tryz.prog) #[3,3] 3 _ _ _ hbi w
 clear hp hj hfb hs hn hr hB0 hc hcm hu hfb0 hub hl hR hPUT hbud hmx hbi
 obtain ⟨W1,hW1⟩:∃ W,((w.alloc (.cells #[.int .i64 0] 25)).alloc (.cells #[.pointer (some ⟨fb,0,none⟩),.int .i64 (bud:Int),.func (.func fput) #[] lb,.func (.func 24) #[] #[],.int .i64 0,.int .i64 0,.slice none 0 0] 91)).alloc (.cells #[.pointer (some ⟨w.heap.size+1,0,none⟩)] 89)=W:=⟨_,rfl⟩
 have hs1:W1.heap.size=w.heap.size+1+1+1:=by rw [← hW1];simp only [World.size_alloc]
 have hB1:Below w.heap.size w W1:=by rw [← hW1];exact (((Below.refl _ w).alloc (Nat.le_refl _) _).alloc (by simp only [World.size_alloc];omega) _).alloc (by simp only [World.size_alloc];omega) _
 have pe1:Pts W1 w.heap.size #[.int .i64 0] 25:=by rw [← hW1];exact ((Pts.new w _ _).alloc _).alloc _
 have pr1:RxAt W1 (w.heap.size+1) fb bud PUT (.func (.func 24) #[] #[]) 0 0 (.slice none 0 0):=by
  rw [← hW1,← HPUT.out]
  have h:=(Pts.new (w.alloc (.cells #[.int .i64 0] 25)) #[.pointer (some ⟨fb,0,none⟩),.int .i64 (bud:Int),.func (.func fput) #[] lb,.func (.func 24) #[] #[],.int .i64 0,.int .i64 0,.slice none 0 0] 91).alloc (.cells #[.pointer (some ⟨w.heap.size+1,0,none⟩)] 89)
  rw [World.size_alloc] at h
  exact h
 have pc1:Pts W1 (w.heap.size+1+1) #[.pointer (some ⟨w.heap.size+1,0,none⟩)] 89:=by
  rw [← hW1]
  have h:=Pts.new ((w.alloc (.cells #[.int .i64 0] 25)).alloc (.cells #[.pointer (some ⟨fb,0,none⟩),.int .i64 (bud:Int),.func (.func fput) #[] lb,.func (.func 24) #[] #[],.int .i64 0,.int .i64 0,.slice none 0 0] 91)) #[.pointer (some ⟨w.heap.size+1,0,none⟩)] 89
  rw [World.size_alloc,World.size_alloc] at h
  exact h
 have hsrc1:SrcAt W1 fb A n c used:=Pts.below HS.out.1 hB1 HS.out.2.2.2.2.2.2.2.2.2.2
 have hj1:=HP.out.keep M0 _ w W1 HJ.out.1 (Frm.of_below hB1)
 have hr1:=HS.out.2.2.1.below (hB1.mono HS.out.2.2.2.1)
 have cc1:W1.cell? ⟨w.heap.size+1+1,0,none⟩=some (.pointer (some ⟨w.heap.size+1,0,none⟩)):=by rw [pc1.cell];rfl
 have ce1:W1.cell? ⟨w.heap.size,0,none⟩=some (.int .i64 0):=by rw [pe1.cell];rfl
 have ze1:=pe1.frozen 0
 have H1:Hid (W1.heap.size=w.heap.size+1+1+1∧Below w.heap.size w W1∧Pts W1 w.heap.size #[.int .i64 0] 25∧RxAt W1 (w.heap.size+1) fb bud PUT (.func (.func 24) #[] #[]) 0 0 (.slice none 0 0)∧Pts W1 (w.heap.size+1+1) #[.pointer (some ⟨w.heap.size+1,0,none⟩)] 89∧SrcAt W1 fb A n c used∧J M0 [] W1∧BRow W1 B0 A bs):=hid ⟨hs1,hB1,pe1,pr1,pc1,hsrc1,hj1,hr1⟩
 clear hs1 hB1 pe1 pr1 pc1 hsrc1 hj1 hr1
 have hXP:R=xFin (xMem bud bs):=by rw [← HR.out,HBU.out];rfl
 have HXP:=hid hXP
 clear hXP HR
 refine (callsIn_wide (n:=6)).1 ?_
 refine callsIn_of_wp_marks Tryz.func22 rfl trivial ?_ rfl
 simp only [Tryz.ntmps22,List.size_toArray,List.length_cons,List.length_nil,Nat.reduceAdd,Nat.reduceSub,Array.replicate_succ,Array.replicate_zero,List.push_toArray,List.append_toArray,List.nil_append,List.cons_append]
 refine wpIn_wide.2 ?_
 by_cases hsh:n<12
 ·have HT:=hid (rtake_no (w.heap.size+1) fb bud PUT _ 0 0 _ A n c used 12 W1 H1.out.2.2.2.1 H1.out.2.2.2.2.2.1 hsh)
  have HRE:Hid (R=([],.inl 10)):=hid (by rw [HXP.out];unfold xMem;rw [if_pos (by have:=HS.out.2.1;omega)];rfl)
  clear hsh
  go_wp2
  go_step3
  go_wp2_with fail
  refine HT.out.mono ?_;rintro e w2 ⟨rfl,rfl⟩
  go_wp2
  have hce:(W1.setCell ⟨w.heap.size,0,none⟩ (.int .i64 10)).cell? ⟨w.heap.size,0,none⟩=some (.int .i64 10):=by rw [(H1.out.2.2.1.set 0 (.int .i64 10)).cell];rfl
  rw [Exit.noGoto_ret]
  refine ⟨.int .i64 10,by simp [results,Tryz.results22,go_sem,hce],?_⟩
  exact xrun_err HP.out HRE.out (by decide) H1.out.2.2.2.2.2.2.1 (fun q hq=>⟨.inl hq,by have:=HJ.out.2.1 q hq;omega⟩) (Frm.of_below (S:=fun _=>False) H1.out.2.1) (fun _ h=>h.elim) (Nat.le_refl _)
 have HT:=hid (rtake_p (w.heap.size+1) fb bud PUT _ 0 0 _ A n c used 12 W1 H1.out.2.2.2.1 H1.out.2.2.2.2.2.1 HS.out.2.2.2.2.1 (by omega) (by have:=HS.out.2.2.2.2.2.2.1;have:=HS.out.2.2.2.2.2.2.2.2.1;omega))
 have hXQ:=HXP.out
 rw [xMem_mid (by have:=HS.out.2.1;omega)] at hXQ
 obtain ⟨kind,he,hk,hhd⟩:∃ (kind he:Nat),(he≠0∨kind=kind)∧headOf (bs.take 12)=((kind:Int),(he:Int)):=by
  unfold headOf
  repeat' split
  ·exact ⟨0,10,.inr rfl,rfl⟩
  ·exact ⟨0,11,.inr rfl,rfl⟩
  ·exact ⟨0,12,.inr rfl,rfl⟩
  exact ⟨_,0,.inr rfl,rfl⟩
 rw [hhd] at hXQ
 have hl12:(bs.take 12).length=12:=by rw [List.length_take];have:=HS.out.2.1;omega
 obtain ⟨hd,hhd2⟩:∃ hd,bs.take 12=hd:=⟨_,rfl⟩
 obtain ⟨sr,hsr⟩:∃ sr,bs.drop 12=sr:=⟨_,rfl⟩
 have hsl:sr.length+12=bs.length:=by rw [← hsr,List.length_drop];have:=HS.out.2.1;omega
 rw [hhd2] at hl12 hhd
 rw [hsr] at hXQ
 have HXQ:=hid hXQ
 have HHD:=hid (And.intro hhd2 (And.intro hsr (And.intro hsl (And.intro hl12 hhd))))
 have HSH:=hid hsh
 clear hXQ hk hhd2 hsr hsl hl12 hhd hsh HXP
 go_wp2
 go_step3
 go_wp2_with fail
 rw [HPUT.out]
 refine HT.out.mono ?_;rintro e w2 ⟨rfl,hs2,hf2⟩
 have hebn:w.heap.size≠fb:=by have:=HS.out.2.2.2.2.2.2.2.2.2.2;omega
 have hcbn:w.heap.size+1+1≠fb:=by have:=HS.out.2.2.2.2.2.2.2.2.2.2;omega
 have pe2:=H1.out.2.2.1.frm hf2 hebn
 have pc2:=H1.out.2.2.2.2.1.frm hf2 hcbn
 have pr2:RxAt w2 (w.heap.size+1) fb bud PUT (.func (.func 24) #[] #[]) 0 0 (.slice none 0 0):=Pts.frm H1.out.2.2.2.1 hf2 (by have:=HS.out.2.2.2.2.2.2.2.2.2.2;omega)
 have hj2:=HP.out.keep M0 _ W1 w2 H1.out.2.2.2.2.2.2.1 (hf2.mono fun q _ e hm=>HJ.out.2.2 (e▸hm))
 have hz2:w.heap.size+3≤w2.heap.size:=by have:=hf2.size;have:=H1.out.1;omega
 have hb2:Below B0 W1 w2:=hf2.below (by have:=HS.out.2.2.2.1;have:=H1.out.1;omega) (fun q hq=>by have:=HS.out.2.2.2.2.2.2.2.1;omega)
 have hr2:BRow w2 B0 A bs:=H1.out.2.2.2.2.2.2.2.below hb2
 have hrd:BRow w2 B0 (takeA A c 12) sr:=by
  have h:=hr2.drop (k:=12) (cap:=c) (by have:=HS.out.2.1;have:=HS.out.2.2.2.2.1;omega)
  rw [HHD.out.2.1] at h
  exact h
 have hrt:BRow w2 B0 A hd:=by rw [← HHD.out.1];exact hr2.take 12
 have hFw:Frm (fun q=>M0 q∨q=fb) w w2:=(Frm.of_below H1.out.2.1).trans (hf2.mono fun q _ e=>.inr e)
 have hBw:Below B0 w w2:=(H1.out.2.1.mono HS.out.2.2.2.1).trans hb2
 have hHD:=fun W3 (hb:Below w2.heap.size w2 W3)=>head_p A hd 12 12 W3 HHD.out.2.2.2.1.symm (Nat.le_refl _) (by have:=HS.out.2.2.2.2.1;have:=HS.out.2.2.2.2.2.1;have:=HSH.out;omega) ((hrt.below (hb.mono (by have:=HS.out.2.2.2.1;omega))).more (by have:=hb.size;have:=HS.out.2.2.2.1;omega)) (by rw [HHD.out.2.2.2.1];decide)
 rw [HHD.out.2.2.2.2] at hHD
 unfold checkV at hHD
 have cc2:w2.cell? ⟨w.heap.size+1+1,0,none⟩=some (.pointer (some ⟨w.heap.size+1,0,none⟩)):=by rw [pc2.cell];rfl
 have H2:Hid (Pts w2 w.heap.size #[.int .i64 0] 25∧Pts w2 (w.heap.size+1+1) #[.pointer (some ⟨w.heap.size+1,0,none⟩)] 89∧RxAt w2 (w.heap.size+1) fb bud PUT (.func (.func 24) #[] #[]) 0 0 (.slice none 0 0)∧J M0 [] w2∧w.heap.size+3≤w2.heap.size∧BRow w2 B0 (takeA A c 12) sr∧Frm (fun q=>M0 q∨q=fb) w w2∧Below B0 w w2∧SrcAt w2 fb (takeA A c 12) (n-12) (c-12) (used+12)):=hid ⟨pe2,pc2,pr2,hj2,hz2,hrd,hFw,hBw,hs2⟩
 have HHE:=hid hHD
 clear hs2 hf2 pe2 pc2 pr2 hj2 hz2 hb2 hr2 hrd hrt hFw hBw hHD cc1 ce1 ze1 HT
 go_wp2
 go_region_held3 (fun w'=>w'.cell? ⟨w.heap.size+1+1,0,none⟩=some (.pointer (some ⟨w.heap.size+1,0,none⟩))) (first | assumption | exact cc2 | exact cc3s _)
  (first
  | (go_at_call 26;refine (HHE.out w2.drew ((Below.refl _ w2).drew)).mono ?_;rintro e w3 ⟨rfl,hb3⟩;replace hb3:Below w2.heap.size w2 w3:=⟨hb3.os,hb3.tape,hb3.output,hb3.size,hb3.block⟩;have cc3:w3.cell? ⟨w.heap.size+1+1,0,none⟩=some (.pointer (some ⟨w.heap.size+1,0,none⟩)):=(hb3.cell (p:=⟨w.heap.size+1+1,0,none⟩) (show w.heap.size+1+1<w2.heap.size by have:=H2.out.2.2.2.2.1;omega)).trans cc2;have z43:=Pts.frozen (Pts.below H2.out.2.2.1 hb3 (Pts.lt H2.out.2.2.1)) 4;have c43:w3.cell? ⟨w.heap.size+1,4,none⟩=some (.int .i64 0):=(show RxAt w3 _ _ _ _ _ _ _ _ from Pts.below H2.out.2.2.1 hb3 (Pts.lt H2.out.2.2.1)).cells.2.2.2.2.1;have cc3s:∀ v,(w3.setCell ⟨w.heap.size+1,4,none⟩ v).cell? ⟨w.heap.size+1+1,0,none⟩=some (.pointer (some ⟨w.heap.size+1,0,none⟩)):=fun v=>by { rw [((Pts.below H2.out.2.1 hb3 (Pts.lt H2.out.2.1)).other (p:=⟨w.heap.size+1,4,none⟩) (by show w.heap.size+1+1≠w.heap.size+1;omega) v).cell];rfl };have HB3:=hid hb3;clear hb3))
 obtain ⟨W3,hW3⟩:∃ W,w3.setCell ⟨w.heap.size+1,4,none⟩ (.int .i64 (kind:Int))=W:=⟨_,rfl⟩
 rw [hW3]
 have hf3:Frm (fun q=>q=w.heap.size+1) w2 W3:=by rw [← hW3];exact (Frm.of_below (S:=fun q=>q=w.heap.size+1) HB3.out).setCell (p:=⟨w.heap.size+1,4,none⟩) rfl _
 have hB03:Below B0 w2 W3:=hf3.below (by have:=H2.out.2.2.2.2.1;have:=HS.out.2.2.2.1;omega) (fun q hq=>by have:=HS.out.2.2.2.1;omega)
 have hI3:∀ XE,(XE=xBlocks bud (kind:Int) (bs.length+1) [] [] sr)→RnI w (w.heap.size+1) fb w.heap.size (w.heap.size+1+1) bud un B0 bs.length PUT (.func (.func 24) #[] #[]) (kind:Int) M0 J XE [] [] sr (.slice none 0 0) M0 W3:=fun XE hXE=>by
  have hfl:=HS.out.2.2.2.2.2.2.2.2.2.2
  have hsl:=HHD.out.2.2.1
  refine ⟨?_,OwnPr.nil _ _ _,fun q hq=>(by cases hq),⟨_,_,_,_,Pts.frm H2.out.2.2.2.2.2.2.2.2 hf3 (by omega),by have:=HS.out.2.2.2.2.2.2.1;have:=HSH.out;omega,H2.out.2.2.2.2.2.1.below hB03,by have:=HS.out.2.1;omega,by have:=HS.out.2.2.2.2.1;omega,by have:=HS.out.2.2.2.2.2.1;omega⟩,
   HP.out.keep M0 _ w2 W3 H2.out.2.2.2.1 (hf3.mono fun q _ e hm=>by have:=HJ.out.2.1 q hm;omega),fun q hq=>⟨.inl hq,by have:=HJ.out.2.1 q hq;omega,fun e=>HJ.out.2.2 (e▸hq),by have:=HJ.out.2.1 q hq;omega,by have:=HJ.out.2.1 q hq;omega⟩,
   H2.out.1.frm hf3 (by omega),H2.out.2.1.frm hf3 (by omega),H2.out.2.2.2.2.2.2.1.transW hf3 (fun q hq hlt=>by omega),⟨bs.length+1,by omega,hXE⟩,⟨by simp,by simp;omega⟩,H2.out.2.2.2.2.2.2.2.1.trans hB03⟩
  rw [← hW3]
  exact Pts.set (Pts.below H2.out.2.2.1 HB3.out (Pts.lt H2.out.2.2.1)) 4 _
 have hII:=hI3 _ rfl
 have HI3:=hid hII
 have ce3:W3.cell? ⟨w.heap.size,0,none⟩=some (.int .i64 0):=by rw [hII.e.cell];rfl
 have ze3:=hII.e.frozen 0
 have cc3':W3.cell? ⟨w.heap.size+1+1,0,none⟩=some (.pointer (some ⟨w.heap.size+1,0,none⟩)):=by rw [hII.c.cell];rfl
 clear hf3 hB03 hI3 hII hW3 cc3 cc3s z43 c43 cc2
 by_cases he0:he=0
 ·subst he0
  have HXE:Hid (R=xFin (xMid (kind:Int) (xBlocks bud (kind:Int) (bs.length+1) [] [] sr))):=hid (by rw [HXQ.out,if_neg (by simp)])
  rw [show ((0:Nat):Int)=0 from rfl]
  go_wp2
  go_step3
  go_wp2
  obtain ⟨XE,hXE⟩:∃ XE,xBlocks bud (kind:Int) (bs.length+1) [] [] sr=XE:=⟨_,rfl⟩
  rw [hXE] at HI3 HXE
  have hw3:w.heap.size≤W3.heap.size:=HI3.out.f.size
  have hw3':w.heap.size+1≤W3.heap.size:=by have:=HI3.out.c.lt;omega
  have hB0:=HS.out.2.2.2.1
  have hL0:RnL w (w.heap.size+1) fb w.heap.size (w.heap.size+1+1) bud un B0 bs.length PUT (.func (.func 24) #[] #[]) (kind:Int) M0 J XE [] W3:=⟨[],[],sr,_,M0,HI3.out,by simp;have:=HS.out.2.2.2.2.2.2.1;have:=HS.out.2.1;have:=HHD.out.2.2.1;omega,fun x hx=>by cases hx⟩
  refine (wpIn_wide (n:=6)).1 ?_
  refine wpIn_rangeFunc_ownK (n:=6) rfl (by omega) (gf:=47) (bd:=#[.pointer (some ⟨w.heap.size+1,0,none⟩)]) rfl trivial (enters_of Tryz.func47 (by kernel_rfl) rfl) (first_seq 5 (w.heap.size+1) fb B0 un w (by omega)) (fun _=>rfl)
   (RnL w (w.heap.size+1) fb w.heap.size (w.heap.size+1+1) bud un B0 bs.length PUT (.func (.func 24) #[] #[]) (kind:Int) M0 J XE) (fun cd pre W=>RnX w (w.heap.size+1) fb w.heap.size (w.heap.size+1+1) bud un B0 bs.length PUT (.func (.func 24) #[] #[]) (kind:Int) M0 J XE cd pre W)
   (fun pre W l o o' _ _ _ h=>h) (fun pre W l o o' hl ho hc h=>h.upd HP.out (Nat.le_trans hw3 hl) ho hc hB0) (fun c pre W l o o' hl ho hc h=>h.upd HP.out (Nat.le_trans hw3 hl) ho hc hB0) (fun pre W h=>h.k) ((hL0.alloc HP.out _ hB0).alloc HP.out _ hB0)
   (fun x=>{ tmps:=#[.pointer (some ⟨fb,0,none⟩),.int .i64 budget,PUT,.func (.func 24) #[] #[],undef,undef,undef,undef,.pointer (some ⟨w.heap.size,0,none⟩),.pointer (some ⟨w.heap.size+1+1,0,none⟩),.slice A 12 12,.int .i64 0,.int .u8 (x.b:Int),.int .i64 (x.e:Int),undef,undef,undef,undef,undef,undef,.pointer (some ⟨fb,0,none⟩),.int .i64 budget,.int .i64 mx,.int .i64 (bud:Int),PUT,.func (.func 24) #[] #[],.agg #[.pointer (some ⟨fb,0,none⟩),.int .i64 (bud:Int),PUT,.func (.func 24) #[] #[],.int .i64 0,.int .i64 0,.slice none 0 0],.pointer (some ⟨w.heap.size+1,0,none⟩),.tuple #[.slice A 12 12,.int .i64 0],.pointer (some ⟨w.heap.size+1,0,none⟩),.tuple #[.slice A 12 12,.int .i64 0],.slice A 12 12,.int .i64 0,.int .i64 0,.bool false,undef,.tuple #[.int .i64 (kind:Int),.int .i64 0],.pointer (some ⟨w.heap.size+1,0,none⟩),.slice A 12 12,.tuple #[.int .i64 (kind:Int),.int .i64 0],.int .i64 (kind:Int),.int .i64 0,.pointer (some ⟨w.heap.size+1,0,none⟩),.pointer (some ⟨w.heap.size+1,4,none⟩),.int .i64 0,.bool false,undef,.pointer (some ⟨w.heap.size+1,0,none⟩),.func (.func 47) #[.pointer (some ⟨w.heap.size+1,0,none⟩)] #[],.int .u8 (x.b:Int),.int .i64 (x.e:Int),undef,undef,undef,undef,undef,undef,undef,undef,undef,undef,undef,undef,undef,undef,undef,undef,undef,undef,undef,undef,undef,undef,undef,undef,undef,undef,undef,undef,undef,undef,undef,undef,undef,undef,undef,undef,undef,undef,undef,undef,undef,undef,undef,undef,undef,undef,undef,undef,undef,undef,undef,undef,undef,undef,undef,undef,undef,undef,undef,undef,undef,undef,undef,undef,undef,undef,undef,undef,undef,undef],defers:=[] })
   (fun pre x W l o o' hl ho hc h=>by
     obtain ⟨A,n,c,used,bs,h1,h2,h3⟩:=h
     exact ⟨A,n,c,used,bs,(World.putObj_heap_other (cells_ne h1 ho hc)).trans h1,h2.putO ho hc o',h3⟩) ?assign ?body ?done ?stop
  case assign =>
   intro l x W K hK
   unfold fbEnc
   gi_wp2
   exact hK
  case body =>
   rintro l pre ⟨xb,xe⟩ W hI hPx hd1 ⟨rl,hd2⟩
   obtain ⟨recs,out,src,lv,M,h1,h2,h3⟩:=hI
   obtain ⟨A',n',c',used',bs',s1,s2,s3,s4⟩:=hPx
   obtain ⟨A1,n1,c1,used1,hs1,k1,k2,k3,k4,k5⟩:=h1.s
   have hcase:(xe=0∧1≤src.length∧xb=(src.getD 0 0).toNat)∨(xe=10∧src.length=0):=by
    have h10:=s1.symm.trans hs1
    simp only [Option.some.injEq,Obj.cells.injEq,Array.mk.injEq,List.cons.injEq,Value.slice.injEq,Value.int.injEq,and_true,true_and] at h10
    obtain ⟨⟨rfl,rfl,rfl⟩,h11⟩:=h10
    rcases s4 with ⟨e1,e2,e3⟩ | ⟨e1,e2⟩
    ·refine .inl ⟨e1,by omega,?_⟩
     obtain ⟨b1,o1,hA1,_,hc1⟩:=s2 (by omega)
     obtain ⟨b2,o2,hA2,_,hc2⟩:=k2 (by omega)
     rw [hA1] at hA2
     injection hA2 with hA2
     injection hA2 with hA2 hA3
     subst hA2;subst hA3
     have h12:=(hc1 0 (by omega)).symm.trans (hc2 0 (by omega))
     simp only [Option.some.injEq,byteV,Value.int.injEq,true_and] at h12
     have e3:xb=(bs'.getD 0 0).toNat:=e3
     omega
    exact .inr ⟨e1,by omega⟩
   have ec:W.cell? ⟨w.heap.size,0,none⟩=some (.int .i64 0):=by rw [h1.e.cell];rfl
   have ez:=h1.e.frozen 0
   have ecb:W.cell? ⟨w.heap.size+1+1,0,none⟩=some (.pointer (some ⟨w.heap.size+1,0,none⟩)):=by rw [h1.c.cell];rfl
   have H:=hid h1
   have HD:=hid (And.intro hd1 hd2)
   have HSR:Hid (SrcAt W fb A1 n1 c1 used1∧used1+n1=un∧BRow W B0 A1 src∧n1=src.length∧n1≤c1∧c1≤maxLen):=hid ⟨hs1,k1,k2,k3,k4,k5⟩
   have HP3:=hid (And.intro h2 h3)
   have hn1:∀ q,(∃ o:Obj,W.heap[q]?=some o∧o.isCells=false)→q≠w.heap.size:=fun q ⟨o,ho,hc⟩ e=>by
    subst e
    have h9:=h1.e
    unfold Pts at h9
    rw [ho] at h9
    injection h9 with h9
    rw [h9] at hc
    cases hc
   have hD1:=hn1 W3.heap.size ⟨_,hd1,rfl⟩
   have hD2:=hn1 (W3.heap.size+1) ⟨_,hd2,rfl⟩
   have hset:∀ (v:Value) q,q≠w.heap.size→(W.setCell ⟨w.heap.size,0,none⟩ v).heap[q]?=W.heap[q]?:=fun v q hq=>Below.heap_setCell _ _ _ _ hq
   clear h1 hd1 hd2 hs1 k1 k2 k3 k4 k5 h2 h3 s1 s2 s3 s4 hn1
   rcases hcase with ⟨rfl,hsl,hxb⟩ | ⟨rfl,hsl⟩
   ·have hxb256:xb<256:=by rw [hxb];exact (src.getD 0 0).toNat_lt
    by_cases hz:xb=0
    ·have HSZ:Hid (1≤src.length∧src.getD 0 0=0):=hid ⟨hsl,by rw [← UInt8.ofNat_toNat (x:=src.getD 0 0),← hxb,hz];rfl⟩
     subst hz
     clear hsl hxb hxb256
     gi_wp2
     exact ⟨⟨rfl,rfl⟩,.inr ⟨rfl,recs,out,src,lv,M,H.out,HSZ.out⟩⟩
    have qz:((xb:Int)==0)=false:=beq_eq_false_iff_ne.2 (by omega)
    have hne0:src.getD 0 0≠0:=fun e=>hz (by rw [hxb,e];rfl)
    have hblk:=xblock_p (w.heap.size+1) fb bud un fput B0 lb (kind:Int) lv recs J M out src A1 n1 c1 used1 xb W HP.out (by rw [HPUT.out];exact H.out.r) HSR.out.1 HSR.out.2.2.2.1 HSR.out.2.2.1 (Nat.le_trans HS.out.2.2.2.1 H.out.f.size) (by have:=HS.out.2.2.2.1;omega) HS.out.2.2.2.2.2.2.2.1 HSR.out.2.2.2.2.1 HSR.out.2.2.2.2.2 HSR.out.2.1 HS.out.2.2.2.2.2.2.2.2.1 (by have:=H.out.l.2;have:=HS.out.2.1;have:=HS.out.2.2.2.2.2.2.2.2.2.1;have:=HSR.out.2.2.2.1;omega) (by have:=HSR.out.2.2.2.1;omega) hxb H.out.o (by have:=H.out.l.2;have:=HS.out.2.1;have:=HS.out.2.2.2.2.2.2.2.2.2.1;omega) H.out.j (fun q hq=>⟨(H.out.m q hq).2.1,(H.out.m q hq).2.2.1,fun e=>(H.out.v q e).1 hq⟩) H.out.l.1 hbb
    rw [HPUT.out] at hblk
    have HBLK:=hid hblk
    have HNE:=hid (And.intro hne0 hsl)
    clear hblk hne0 hz hxb hsl
    gi_wp2_with fail
    refine ⟨trivial,?_⟩
    refine (CallsIn.inRound l (callsIn_wide.2 HBLK.out)).mono ?_
    rintro e W' hB
    obtain ⟨hkeep,hnx⟩:=H.out.next HP.out hB HNE.out.1 HNE.out.2 HS.out.2.2.2.1 (by omega) HS.out.2.2.2.2.2.2.2.1
    have hk1:W'.heap[W3.heap.size]?=W.heap[W3.heap.size]?:=hkeep _ (Array.getElem?_eq_some_iff.1 HD.out.1).1 (fun c t f h=>by rw [HD.out.1] at h;cases h)
    have hk2:W'.heap[W3.heap.size+1]?=W.heap[W3.heap.size+1]?:=hkeep _ (Array.getElem?_eq_some_iff.1 HD.out.2).1 (fun c t f h=>by rw [HD.out.2] at h;cases h)
    have hset2:∀ (v:Value) q,q≠w.heap.size→(W'.setCell ⟨w.heap.size,0,none⟩ v).heap[q]?=W'.heap[q]?:=fun v q hq=>Below.heap_setCell _ _ _ _ hq
    have HK:=hid (And.intro hk1 hk2)
    clear hkeep hk1 hk2 hB hset
    rcases hnx with ⟨z,hz0,rfl,he',out',M',hXE',hj',hM',hf'⟩ | ⟨rfl,recs',out',src',lv',M',hI',hlen'⟩
    ·have ec':W'.cell? ⟨w.heap.size,0,none⟩=some (.int .i64 0):=by rw [he'.cell];rfl
     have ez':=he'.frozen 0
     have qz2:((z:Int) != 0)=true:=bne_iff_ne.2 (by omega)
     have HX:=hid (And.intro hz0 (And.intro he' (And.intro hXE' (And.intro hj' (And.intro hM' hf')))))
     clear hz0 he' hXE' hj' hM' hf'
     gi_wp2
     refine ⟨⟨(hset2 _ _ hD1).trans HK.out.1,(hset2 _ _ hD2).trans HK.out.2⟩,.inl ⟨rfl,out',M',z,HX.out.1,HX.out.2.2.1,?_,HX.out.2.2.2.2.1,HX.out.2.1.set 0 _,?_⟩⟩
     ·exact HP.out.keep M' _ W' _ HX.out.2.2.2.1 ((Frm.refl _ W').setCell (p:=⟨w.heap.size,0,none⟩) (fun hm=>(HX.out.2.2.2.2.1 _ hm).2 rfl) _)
     exact HX.out.2.2.2.2.2.transW ((Frm.refl (fun q=>q=w.heap.size) W').setCell (p:=⟨w.heap.size,0,none⟩) rfl _) (fun q hq hlt=>by omega)
    have HX:=hid (And.intro hI' hlen')
    clear hI' hlen'
    gi_wp2
    refine ⟨HK.out,recs',out',src',lv',M',HX.out.1,?_,fun x hx=>?_⟩
    ·rw [List.length_append]
     have:=HX.out.2
     have:=HP3.out.1
     simp only [List.length_cons,List.length_nil]
     omega
    rcases List.mem_append.1 hx with h | h
    ·exact HP3.out.2 x h
    rw [List.mem_singleton.1 h]
    exact ⟨rfl,fun e=>by have e:xb=0:=e;rw [e] at qz;cases qz⟩
   have HSL:=hid hsl
   clear hsl
   gi_wp2
   obtain ⟨f,hlf,hXE2⟩:=H.out.x
   refine ⟨⟨hset _ _ hD1,hset _ _ hD2⟩,.inl ⟨rfl,out,M,10,by decide,?_,?_,fun q hq=>⟨(H.out.m q hq).1,(H.out.m q hq).2.2.2.1⟩,H.out.e.set 0 _,?_⟩⟩
   ·rw [hXE2]
    obtain ⟨f',rfl⟩:∃ f',f=f'+1:=⟨f-1,by omega⟩
    unfold xBlocks
    rw [if_pos (by have:=HSL.out;omega)]
   ·exact HP.out.keep M _ W _ H.out.j ((Frm.refl _ W).setCell (p:=⟨w.heap.size,0,none⟩) (fun hm=>(H.out.m _ hm).2.2.2.1 rfl) _)
   exact H.out.f.transW ((Frm.refl (fun q=>q=w.heap.size) W).setCell (p:=⟨w.heap.size,0,none⟩) rfl _) (fun q hq hlt=>by omega)
  case done =>
   rintro xs W ⟨pre,x,rfl,hx⟩ hI hd
   obtain ⟨recs,out,src,lv,M,h1,h2,h3⟩:=hI
   have h4:=h3 x (by simp)
   rcases hx with e | e
   ·exact absurd h4.1 e
   exact absurd e h4.2
  case stop =>
  intro cd pre W hX hd
  have HDD:=hid hd
  clear hd hXE hL0
  rcases hX with ⟨rfl,out,M,z,hz,hxe,hj,hM,he,hf⟩ | ⟨rfl,recs,out,src,lv,M,hI,hs1,hs0⟩
  ·have HX:=hid (And.intro hz (And.intro hxe (And.intro hj (And.intro hM (And.intro he hf)))))
   have hce:W.cell? ⟨w.heap.size,0,none⟩=some (.int .i64 (z:Int)):=by rw [he.cell];rfl
   clear hz hxe hj hM he hf
   refine wpIn_wide.2 ?_
   go_wp2
   rw [Exit.noGoto_ret]
   refine ⟨by simp,.inl ⟨_,_,rfl,run_takeDeferred HDD.out,?_⟩⟩
   have hce2:=put_cell (o':=.deferred none) HX.out.2.2.2.2.1 HDD.out rfl
   refine ⟨.int .i64 (z:Int),by simp [results,Tryz.results22,go_sem,hce2],?_⟩
   exact xrun_fin HP.out (by rw [HXE.out,HX.out.2.1];rfl) HX.out.1 HX.out.2.2.1 (fun q hq=>(HX.out.2.2.2.1 q hq).1) HX.out.2.2.2.2.2 HDD.out rfl hw3
  have hXR:R=xFin (xEnd (kind:Int) out recs src):=by
   obtain ⟨f,hlf,hXE2⟩:=hI.x
   obtain ⟨f',rfl⟩:∃ f',f=f'+1:=⟨f-1,by omega⟩
   rw [HXE.out,hXE2]
   unfold xBlocks
   rw [if_neg (by omega),if_pos hs0]
   rfl
  obtain ⟨A1,n1,c1,used1,hsr,k1,k2,k3,k4,k5⟩:=hI.s
  have HI:=hid hI
  have HXR:=hid hXR
  have HSR:Hid (SrcAt W fb A1 n1 c1 used1∧used1+n1=un∧BRow W B0 A1 src∧n1=src.length∧n1≤c1∧c1≤maxLen):=hid ⟨hsr,k1,k2,k3,k4,k5⟩
  have hl8:recs.length+src.length≤100000000:=by have:=hI.l.2;have:=HS.out.2.1;have:=HS.out.2.2.2.2.2.2.2.2.2.1;omega
  have hIX:=xindex_p (w.heap.size+1) fb bud un B0 B0 PUT _ (kind:Int) out.length lv recs A1 n1 c1 used1 src W hI.r (by have:=HS.out.2.2.2.2.2.2.2.2.2.2;omega) hsr k3 k2 ⟨Nat.le_trans hB0 hI.f.size,HS.out.2.2.2.2.2.2.2.1⟩ k4 k5 k1 HS.out.2.2.2.2.2.2.2.2.1 (by omega) (by omega) hI.o (by omega)
  have HIX:=hid hIX
  have cc:W.cell? ⟨w.heap.size+1+1,0,none⟩=some (.pointer (some ⟨w.heap.size+1,0,none⟩)):=by rw [hI.c.cell];rfl
  have ce:W.cell? ⟨w.heap.size,0,none⟩=some (.int .i64 0):=by rw [hI.e.cell];rfl
  have ze:=hI.e.frozen 0
  have HL8:=hid hl8
  clear hI hXR hsr k1 k2 k3 k4 k5 hs1 hs0 hIX hl8
  refine wpIn_wide.2 ?_
  go_wp2_with fail
  refine HIX.out.mono ?_;rintro e w4 ⟨hf4,hix⟩
  obtain ⟨E,hE⟩:∃ E,xIndex recs src=E:=⟨_,rfl⟩
  rw [hE] at hix
  cases E with
  | inl z =>
   obtain rfl:=hix
   have hz:=xIndex_z hE
   have qz:((z:Int) != 0)=true:=bne_iff_ne.2 (by omega)
   have he4:=HI.out.e.frm hf4 hebn
   have ce4:w4.cell? ⟨w.heap.size,0,none⟩=some (.int .i64 0):=by rw [he4.cell];rfl
   have ze4:=he4.frozen 0
   have hj4:=HP.out.keep M _ W w4 HI.out.j (hf4.mono fun q _ e hm=>(HI.out.m q hm).2.2.1 e)
   have hF4:Frm (fun q=>M0 q∨q=fb) w w4:=HI.out.f.trans (hf4.mono fun q _ e=>.inr e)
   have hd4:w4.heap[W3.heap.size]?=some (.deferred (some [])):=(hf4.block _ (Array.getElem?_eq_some_iff.1 HDD.out).1 (fun e=>by have:=HSR.out.1;rw [← e] at this;exact absurd (HDD.out.symm.trans this) (by simp))).trans HDD.out
   have HRE:Hid (R=(out,.inl z)):=hid (by rw [HXR.out];unfold xEnd;rw [hE];rfl)
   have H4:=hid (And.intro hz (And.intro he4 (And.intro hj4 (And.intro hF4 hd4))))
   clear hz he4 hj4 hF4 hd4 hE hf4 cc ce ze
   go_wp2
   rw [Exit.noGoto_ret]
   have hd5:(w4.setCell ⟨w.heap.size,0,none⟩ (.int .i64 (z:Int))).heap[W3.heap.size]?=some (.deferred (some [])):=(Below.heap_setCell _ _ _ _ (show W3.heap.size≠w.heap.size by omega)).trans H4.out.2.2.2.2
   refine ⟨by simp,.inl ⟨_,_,rfl,run_takeDeferred hd5,?_⟩⟩
   have hce2:=put_cell (o':=.deferred none) (H4.out.2.1.set 0 (.int .i64 (z:Int))) hd5 rfl
   refine ⟨.int .i64 (z:Int),by simp [results,Tryz.results22,go_sem,hce2],?_⟩
   exact xrun_fin HP.out HRE.out H4.out.1 (HP.out.keep M _ w4 _ H4.out.2.2.1 ((Frm.refl _ w4).setCell (p:=⟨w.heap.size,0,none⟩) (fun hm=>(HI.out.m _ hm).2.2.2.1 rfl) _)) (fun q hq=>(HI.out.m q hq).1) (H4.out.2.2.2.1.transW ((Frm.refl (fun q=>q=w.heap.size) w4).setCell (p:=⟨w.heap.size,0,none⟩) rfl _) (fun q hq hlt=>by omega)) hd5 rfl hw3
  | inr p =>
   obtain ⟨size,r⟩:=p
   obtain ⟨rfl,A5,n5,c5,used5,hs5,g1,g2,g3,g4,g5⟩:=hix
   have hT4:RnT w (w.heap.size+1) fb w.heap.size (w.heap.size+1+1) bud W3.heap.size PUT (.func (.func 24) #[] #[]) (kind:Int) out.length lv M0 M J out w4 :=
    RnT.takes HP.out ⟨HI.out.e,HI.out.c,HI.out.r,HI.out.j,fun q hq=>⟨(HI.out.m q hq).1,(HI.out.m q hq).2.2.1,(HI.out.m q hq).2.2.2.1⟩,HI.out.f,HDD.out⟩ HSR.out.1 hf4
   have hXS:xEnd (kind:Int) out recs src=if r.length<12 then (out,.inl 10) else if (footOf (r.take 12)).2.2≠0 then (out,.inl (footOf (r.take 12)).2.2.toNat) else if (footOf (r.take 12)).1≠(kind:Int)∨(footOf (r.take 12)).2.1≠size then (out,.inl 11) else (out,.inr (r.drop 12)):=by
    unfold xEnd
    rw [hE]
   rw [hXS] at HXR
   obtain ⟨d1,d2,d3,d4⟩:=hT4.cells
   have HT4:=hid hT4
   have HS5:Hid (SrcAt w4 fb A5 n5 c5 used5∧used5+n5=un∧BRow w4 B0 A5 r∧n5=r.length∧n5≤c5∧c5≤maxLen):=hid ⟨hs5,g1,g2,g3,g4,g5⟩
   have hszb:=xIndex_size hE
   have hszw:IntKind.u64.wrap (size:Int)=(size:Int):=Go.IntWalk.u64_in _ (by have:=HL8.out;omega)
   clear hT4 hXS hs5 g1 g2 g3 g4 g5 hf4 hE cc ce ze hszb
   by_cases hsh:n5<12
   ·have HTN:=hid (rtake_no (w.heap.size+1) fb bud PUT _ (kind:Int) out.length lv A5 n5 c5 used5 12 w4 HT4.out.r HS5.out.1 hsh)
    have HRE:Hid (R=(out,.inl 10)):=hid (by rw [HXR.out,if_pos (by have:=HS5.out.2.2.2.1;omega)];rfl)
    clear hsh
    go_wp2_with fail
    refine HTN.out.mono ?_;rintro e w5 ⟨rfl,rfl⟩
    go_wp2
    rw [Exit.noGoto_ret]
    have hfin:=RnT.fin (un:=un) HP.out HT4.out HRE.out (by decide) (Nat.le_refl _) hw3
    refine ⟨by simp,.inl ⟨_,_,rfl,run_takeDeferred hfin.1,?_⟩⟩
    have hce2:=hfin.2.1
    rw [show ((10:Nat):Int)=10 from rfl] at hce2
    refine ⟨.int .i64 10,by simp [results,Tryz.results22,go_sem,hce2],?_⟩
    exact hfin.2.2
   have HTP:=hid (rtake_p (w.heap.size+1) fb bud PUT _ (kind:Int) out.length lv A5 n5 c5 used5 12 w4 HT4.out.r HS5.out.1 HS5.out.2.2.2.2.1 (by omega) (by have:=HS5.out.2.1;have:=HS.out.2.2.2.2.2.2.2.2.1;omega))
   obtain ⟨fk,fnn,fe,hft⟩:=footOf_nat (r.take 12)
   rw [if_neg (by have:=HS5.out.2.2.2.1;omega),hft] at HXR
   have hl12:(r.take 12).length=12:=by rw [List.length_take];have:=HS5.out.2.2.2.1;omega
   obtain ⟨ft,hft2⟩:∃ ft,r.take 12=ft:=⟨_,rfl⟩
   rw [hft2] at hl12 hft
   have HFT:=hid (And.intro hft2 (And.intro hl12 hft))
   have HSH2:=hid hsh
   clear hsh hft2 hl12 hft
   go_wp2_with fail
   refine HTP.out.mono ?_;rintro e w5 ⟨rfl,hs5,hf5⟩
   have hT5:=HT4.out.takes HP.out HS5.out.1 hf5
   have hb05:Below B0 w4 w5:=hf5.below (by have:=HT4.out.f.size;omega) (fun q hq=>by have:=HS.out.2.2.2.2.2.2.2.1;omega)
   have hr5:BRow w5 B0 A5 r:=HS5.out.2.2.1.below hb05
   have hrt:BRow w5 B0 A5 ft:=by rw [← HFT.out.1];exact hr5.take 12
   have hrd:BRow w5 B0 (takeA A5 c5 12) (r.drop 12):=hr5.drop (by have:=HS5.out.2.2.2.1;have:=HS5.out.2.2.2.2.1;omega)
   have hFF:=foot_p A5 ft 12 12 w5 HFT.out.2.1.symm (Nat.le_refl _) (by have:=HS5.out.2.2.2.2.1;have:=HS5.out.2.2.2.2.2;have:=HSH2.out;omega) (hrt.more (by have:=hT5.f.size;omega)) (by rw [HFT.out.2.1];decide)
   rw [HFT.out.2.2] at hFF
   unfold footV at hFF
   have HFF:=hid hFF
   have HT5:=hid hT5
   have HS6:Hid (SrcAt w5 fb (takeA A5 c5 12) (n5-12) (c5-12) (used5+12)∧BRow w5 B0 (takeA A5 c5 12) (r.drop 12)):=hid ⟨hs5,hrd⟩
   clear hs5 hf5 hT5 hb05 hr5 hrt hrd hFF HTP d1 d2 d3 d4
   go_wp2_with fail
   refine HFF.out.mono ?_;rintro e w6 ⟨rfl,hb6⟩
   have hT6:=HT5.out.still HP.out hb6
   have hs6:=Pts.below HS6.out.1 hb6 (Pts.lt HS6.out.1)
   have hr6:=HS6.out.2.below (hb6.mono (by have:=HT5.out.f.size;omega))
   obtain ⟨d1,d2,d3,d4⟩:=hT6.cells
   have HT6:=hid hT6
   have HS7:Hid (SrcAt w6 fb (takeA A5 c5 12) (n5-12) (c5-12) (used5+12)∧BRow w6 B0 (takeA A5 c5 12) (r.drop 12)):=hid ⟨hs6,hr6⟩
   clear hT6 hs6 hr6 hb6 HFF
   by_cases hfe:fe=0
   ·subst hfe
    rw [if_neg (by simp)] at HXR
    have hz0:((0:Nat):Int)=0:=rfl
    rw [hz0]
    by_cases hk1:fk=kind
    ·have q1:((fk:Int) != (kind:Int))=false:=by rw [hk1];simp
     by_cases hk2:fnn=size
     ·have q2:((fnn:Int) != (size:Int))=false:=by rw [hk2];simp
      have HRE:Hid (R=(out,.inr (dropPad (r.drop 12).length (r.drop 12)))):=hid (by
       rw [HXR.out,if_neg]
       ·rfl
       rintro (h | h)
       ·exact h (by rw [hk1])
       exact h hk2)
      clear hk1 hk2 hz0
      obtain ⟨A6,hA6⟩:∃ A6,takeA A5 c5 12=A6:=⟨_,rfl⟩
      obtain ⟨n6,hn6⟩:∃ n6,n5-12=n6:=⟨_,rfl⟩
      obtain ⟨c6,hc6⟩:∃ c6,c5-12=c6:=⟨_,rfl⟩
      obtain ⟨u6,hu6⟩:∃ u6,used5+12=u6:=⟨_,rfl⟩
      obtain ⟨s0,hs0⟩:∃ s0,r.drop 12=s0:=⟨_,rfl⟩
      obtain ⟨FIN,hFIN⟩:∃ FIN,dropPad s0.length s0=FIN:=⟨_,rfl⟩
      rw [hA6,hn6,hc6,hu6,hs0] at HS7
      rw [hs0,hFIN] at HRE
      have hnl:n6=s0.length:=by rw [← hs0,List.length_drop];have:=HS5.out.2.2.2.1;omega
      have HS8:Hid (u6+n6=un∧n6=s0.length∧n6≤c6∧c6≤maxLen):=hid ⟨by have:=HS5.out.2.1;have:=HSH2.out;omega,hnl,by have:=HS5.out.2.2.2.2.1;omega,by have:=HS5.out.2.2.2.2.2;omega⟩
      have HFIN:=hid hFIN
      have HPK:=hid (peek_p fb A6 n6 c6 u6 4 w6 HS7.out.1 HS8.out.2.2.1)
      clear hA6 hn6 hc6 hu6 hs0 hFIN hnl
      have hPB:∃ bv:Value,∃ ok:Bool,(if 4≤n6 then Value.tuple #[.slice A6 4 4,.bool true] else Value.tuple #[.slice none 0 0,.bool false])=.tuple #[bv,.bool ok]∧((ok=true∧4≤n6∧bv=.slice A6 4 4)∨(ok=false∧n6<4)):=by
       by_cases h4:4≤n6
       ·exact ⟨_,true,if_pos h4,.inl ⟨rfl,h4,rfl⟩⟩
       exact ⟨_,false,if_neg h4,.inr ⟨rfl,by omega⟩⟩
      obtain ⟨bv0,ok0,hpb,hok0⟩:=hPB
      rw [hpb] at HPK
      have HOK0:=hid hok0
      clear hpb hok0
      go_wp2_with fail
      refine HPK.out.mono ?_;rintro e w7 ⟨rfl,rfl⟩
      go_wp2
      go_loopg [18,19] (s0.length+1) (fun f bv okv wr=>∃ (s:List UInt8) (A:Option Addr) (n c used g:Nat) (ok:Bool),okv=.bool ok∧SrcAt wr fb A n c used∧used+n=un∧BRow wr B0 A s∧n=s.length∧n≤c∧c≤maxLen∧RnT w (w.heap.size+1) fb w.heap.size (w.heap.size+1+1) bud W3.heap.size PUT (.func (.func 24) #[] #[]) (kind:Int) out.length lv M0 M J out wr∧s.length≤g∧dropPad g s=FIN∧s.length<f∧((ok=true∧4≤n∧bv=.slice A 4 4)∨(ok=false∧n<4)))
      case atStart=>exact ⟨s0,A6,n6,c6,u6,s0.length,ok0,rfl,HS7.out.1,HS8.out.1,HS7.out.2,HS8.out.2.1,HS8.out.2.2.1,HS8.out.2.2.2,HT6.out,Nat.le_refl _,HFIN.out,by omega,HOK0.out⟩
      case round =>
      obtain ⟨s,A8,n8,c8,u8,g,ok,rfl,hs8,hun8,hr8,hn8,hc8,hcm8,hT8,hg8,hfin8,hlf8,hok8⟩:=hrel
      clear HPK HOK0 HS7 HS8 HT6 HFIN d1 d2 d3 d4
      obtain ⟨d1,d2,d3,d4⟩:=hT8.cells
      have HT8:=hid hT8
      have HS8:Hid (SrcAt wr fb A8 n8 c8 u8∧u8+n8=un∧BRow wr B0 A8 s∧n8=s.length∧n8≤c8∧c8≤maxLen∧s.length≤g∧dropPad g s=FIN∧s.length<gk):=hid ⟨hs8,hun8,hr8,hn8,hc8,hcm8,hg8,hfin8,hlf8⟩
      clear hT8 hs8 hun8 hr8 hn8 hc8 hcm8 hg8 hfin8 hlf8
      have hstop:(n8<4∨s.take 4≠[0,0,0,0])→FIN=s:=fun h=>by
       rw [← HS8.out.2.2.2.2.2.2.2.1]
       cases g with
       | zero=>rfl
       | succ g =>
        unfold dropPad
        rw [if_neg]
        rintro ⟨h1,h2⟩
        rcases h with h | h
        ·have:=HS8.out.2.2.2.1;omega
        exact h h2
      rcases hok8 with ⟨rfl,h4,rfl⟩ | ⟨rfl,h4⟩
      ·obtain ⟨Wz,hWz⟩:∃ W,wr.alloc (.cells (madeCells #[.int .u8 0] 4) 5)=W:=⟨_,rfl⟩
       have hbz:Below wr.heap.size wr Wz:=by rw [← hWz];exact (Below.refl _ wr).alloc (Nat.le_refl _) _
       have hzr:BRow Wz Wz.heap.size (some ⟨wr.heap.size,0,none⟩) (List.replicate 4 0):=by rw [← hWz];exact noughts_row 4 wr
       have hmk:∀ w,(Instr.makeSlice 22 (.int .i64 4) (.int .i64 4)).run Tryz.prog w=.ok (.slice (some ⟨w.heap.size,0,none⟩) 4 4) (w.alloc (.cells (madeCells #[.int .u8 0] 4) 5)):=made_bytes 4 (by decide)
       have hBr:B0≤wr.heap.size:=by have:=HT8.out.f.size;omega
       have hl4:(s.take 4).length=4:=by rw [List.length_take];have:=HS8.out.2.2.2.1;omega
       have hrz:BRow Wz B0 A8 s:=HS8.out.2.2.1.below (hbz.mono hBr)
       have hEQ:=equal_p A8 (some ⟨wr.heap.size,0,none⟩) (s.take 4) (List.replicate 4 0) 4 4 4 4 Wz.heap.size Wz hl4.symm ((hrz.take 4).more (Nat.le_trans hBr hbz.size)) (by simp) hzr
       obtain ⟨b1,hb1⟩:∃ b,(s.take 4==List.replicate 4 0)=b:=⟨_,rfl⟩
       rw [hb1] at hEQ
       have HEQ:=hid hEQ
       have HB1:=hid hb1
       have HTZ:=hid (HT8.out.still HP.out hbz)
       have HSZ:Hid (SrcAt Wz fb A8 n8 c8 u8∧BRow Wz B0 A8 s∧B0≤Wz.heap.size):=hid ⟨Pts.below HS8.out.1 hbz (Pts.lt HS8.out.1),hrz,Nat.le_trans hBr hbz.size⟩
       obtain ⟨y1,y2,y3,y4⟩:=HTZ.out.cells
       clear hbz hzr hBr hl4 hrz hEQ hb1
       cases b1 with
       | false =>
        have HRF:Hid (R=(out,.inr s)):=hid (by rw [HRE.out,hstop (.inr (fun e=>by have:=HB1.out;rw [e] at this;exact absurd this (by decide)))])
        clear hstop h4
        go_wp2_with (go_at_call 52;refine HEQ.out.mono ?_;rintro e w9 ⟨rfl,rfl⟩)
        rw [Exit.noGoto_ret]
        have hfin:=RnT.ok (un:=un) HP.out HTZ.out HRF.out HSZ.out.1 HS8.out.2.1 HS8.out.2.2.2.1 (Nat.le_refl _) hw3
        refine ⟨by simp,.inl ⟨_,_,rfl,run_takeDeferred hfin.1,?_⟩⟩
        have hce2:=hfin.2.1
        refine ⟨.int .i64 0,by simp [results,Tryz.results22,go_sem,hce2],?_⟩
        exact hfin.2.2
       | true =>
        have hz4:s.take 4=[0,0,0,0]:=by have:=HB1.out;rw [beq_iff_eq] at this;exact this
        have hsl4:4≤s.length:=by have:=HS8.out.2.2.2.1;omega
        obtain ⟨g',rfl⟩:∃ g',g=g'+1:=⟨g-1,by have:=HS8.out.2.2.2.2.2.2.1;omega⟩
        have hdp:dropPad g' (s.drop 4)=FIN:=by
         rw [← HS8.out.2.2.2.2.2.2.2.1]
         conv=>rhs;unfold dropPad
         rw [if_pos ⟨hsl4,hz4⟩]
        have HTK:=hid (take_p fb A8 n8 c8 u8 4 Wz HSZ.out.1 HS8.out.2.2.2.2.1 h4 (by have:=HS8.out.2.1;have:=HS.out.2.2.2.2.2.2.2.2.1;omega))
        obtain ⟨A9,hA9⟩:∃ A9,takeA A8 c8 4=A9:=⟨_,rfl⟩
        obtain ⟨n9,hn9⟩:∃ n9,n8-4=n9:=⟨_,rfl⟩
        obtain ⟨c9,hc9⟩:∃ c9,c8-4=c9:=⟨_,rfl⟩
        obtain ⟨u9,hu9⟩:∃ u9,u8+4=u9:=⟨_,rfl⟩
        have hrd9:=HSZ.out.2.1.drop (k:=4) (cap:=c8) (by have:=HS8.out.2.2.2.1;have:=HS8.out.2.2.2.2.1;omega)
        replace hrd9:BRow Wz B0 (takeA A8 c8 4) (s.drop 4):=hrd9
        rw [hA9] at hrd9
        rw [hA9,hn9,hc9,hu9] at HTK
        have H9:Hid (BRow Wz B0 A9 (s.drop 4)∧u9+n9=un∧n9=(s.drop 4).length∧n9≤c9∧c9≤maxLen∧dropPad g' (s.drop 4)=FIN∧(s.drop 4).length≤g'∧(s.drop 4).length+1<gk):=hid (by
         have k1:=HS8.out.2.1;have k2:=HS8.out.2.2.2.1;have k3:=HS8.out.2.2.2.2.1;have k4:=HS8.out.2.2.2.2.2.1;have k5:=HS8.out.2.2.2.2.2.2.1;have k6:=HS8.out.2.2.2.2.2.2.2.2
         have k7:(s.drop 4).length=s.length-4:=List.length_drop
         exact ⟨hrd9,by omega,by omega,by omega,by omega,hdp,by omega,by omega⟩)
        have hPB:∃ bv:Value,∃ ok:Bool,(if 4≤n9 then Value.tuple #[.slice A9 4 4,.bool true] else Value.tuple #[.slice none 0 0,.bool false])=.tuple #[bv,.bool ok]∧((ok=true∧4≤n9∧bv=.slice A9 4 4)∨(ok=false∧n9<4)):=by
         by_cases h4:4≤n9
         ·exact ⟨_,true,if_pos h4,.inl ⟨rfl,h4,rfl⟩⟩
         exact ⟨_,false,if_neg h4,.inr ⟨rfl,by omega⟩⟩
        obtain ⟨bv0,ok0,hpb,hok0⟩:=hPB
        have HOK9:=hid hok0
        have HPB:=hid hpb
        clear hA9 hn9 hc9 hu9 hrd9 hdp hz4 hsl4 hstop h4 hpb hok0
        go_wp2_with (first | (go_at_call 52;refine HEQ.out.mono ?_;rintro e w9 ⟨rfl,rfl⟩) | (go_at_call 53;refine HTK.out.mono ?_;rintro e w10 ⟨rfl,hs10,hf10⟩;have HT10:=hid (HTZ.out.takes HP.out HSZ.out.1 hf10);have HS10:Hid (SrcAt w10 fb A9 n9 c9 u9∧BRow w10 B0 A9 (s.drop 4)):=hid ⟨hs10,H9.out.1.below (hf10.below HSZ.out.2.2 (fun q hq=>by have:=HS.out.2.2.2.2.2.2.2.1;omega))⟩;have hpk:=peek_p fb A9 n9 c9 u9 4 w10 hs10 H9.out.2.2.2.1;rw [HPB.out] at hpk;have HPK9:=hid hpk;clear hs10 hf10 hpk) | (go_at_call 51;refine HPK9.out.mono ?_;rintro e w11 ⟨rfl,rfl⟩))
        obtain ⟨gk',rfl⟩:∃ gk',gk=gk'+1:=⟨gk-1,by have:=H9.out.2.2.2.2.2.2.2;omega⟩
        go_roundg gk'
        case rel=>exact ⟨s.drop 4,A9,n9,c9,u9,g',ok0,rfl,HS10.out.1,H9.out.2.1,HS10.out.2,H9.out.2.2.1,H9.out.2.2.2.1,H9.out.2.2.2.2.1,HT10.out,H9.out.2.2.2.2.2.2.1,H9.out.2.2.2.2.2.1,by have:=H9.out.2.2.2.2.2.2.2;omega,HOK9.out⟩
        case measure=>omega
      have HRF:Hid (R=(out,.inr s)):=hid (by rw [HRE.out,hstop (.inl h4)])
      clear hstop h4
      go_wp2
      rw [Exit.noGoto_ret]
      have hfin:=RnT.ok (un:=un) HP.out HT8.out HRF.out HS8.out.1 HS8.out.2.1 HS8.out.2.2.2.1 (Nat.le_refl _) hw3
      refine ⟨by simp,.inl ⟨_,_,rfl,run_takeDeferred hfin.1,?_⟩⟩
      have hce2:=hfin.2.1
      refine ⟨.int .i64 0,by simp [results,Tryz.results22,go_sem,hce2],?_⟩
      exact hfin.2.2
     have q2:((fnn:Int) != (size:Int))=true:=bne_iff_ne.2 (by omega)
     have HRE:Hid (R=(out,.inl 11)):=hid (by rw [HXR.out,if_pos (.inr hk2)];rfl)
     clear hk1 hk2 hz0
     go_wp2
     rw [Exit.noGoto_ret]
     have hfin:=RnT.fin (un:=un) HP.out HT6.out HRE.out (by decide) (Nat.le_refl _) hw3
     refine ⟨by simp,.inl ⟨_,_,rfl,run_takeDeferred hfin.1,?_⟩⟩
     have hce2:=hfin.2.1
     rw [show ((11:Nat):Int)=11 from rfl] at hce2
     refine ⟨.int .i64 11,by simp [results,Tryz.results22,go_sem,hce2],?_⟩
     exact hfin.2.2
    have q1:((fk:Int) != (kind:Int))=true:=bne_iff_ne.2 (by omega)
    have HRE:Hid (R=(out,.inl 11)):=hid (by rw [HXR.out,if_pos (.inl (show ((fk:Nat):Int)≠(kind:Int) by omega))];rfl)
    clear hk1 hz0
    go_wp2
    rw [Exit.noGoto_ret]
    have hfin:=RnT.fin (un:=un) HP.out HT6.out HRE.out (by decide) (Nat.le_refl _) hw3
    refine ⟨by simp,.inl ⟨_,_,rfl,run_takeDeferred hfin.1,?_⟩⟩
    have hce2:=hfin.2.1
    rw [show ((11:Nat):Int)=11 from rfl] at hce2
    refine ⟨.int .i64 11,by simp [results,Tryz.results22,go_sem,hce2],?_⟩
    exact hfin.2.2
   have qz:((fe:Int) != 0)=true:=bne_iff_ne.2 (by omega)
   have HRE:Hid (R=(out,.inl fe)):=hid (by rw [HXR.out,if_pos (show ((fe:Nat):Int)≠0 by omega)];show (out,(Sum.inl ((fe:Int).toNat):Nat ⊕ List UInt8))=_;rw [Int.toNat_natCast])
   have HZ:=hid hfe
   clear hfe
   go_wp2
   rw [Exit.noGoto_ret]
   have hfin:=RnT.fin (un:=un) HP.out HT6.out HRE.out HZ.out (Nat.le_refl _) hw3
   refine ⟨by simp,.inl ⟨_,_,rfl,run_takeDeferred hfin.1,?_⟩⟩
   have hce2:=hfin.2.1
   refine ⟨.int .i64 (fe:Int),by simp [results,Tryz.results22,go_sem,hce2],?_⟩
   exact hfin.2.2
 have qz:((he:Int) != 0)=true:=bne_iff_ne.2 (by omega)
 have HRE:Hid (R=([],.inl he)):=hid (by rw [HXQ.out,if_pos (show ((he:Nat):Int)≠0 by omega)];show (([]:List UInt8),(Sum.inl ((he:Int).toNat):Nat ⊕ List UInt8))=_;rw [Int.toNat_natCast])
 have HZ:=hid he0
 clear he0
 go_wp2
 have hce:(W3.setCell ⟨w.heap.size,0,none⟩ (.int .i64 (he:Int))).cell? ⟨w.heap.size,0,none⟩=some (.int .i64 (he:Int)):=by rw [(HI3.out.e.set 0 (.int .i64 (he:Int))).cell];rfl
 rw [Exit.noGoto_ret]
 refine ⟨.int .i64 (he:Int),by simp [results,Tryz.results22,go_sem,hce],?_⟩
 exact xrun_err HP.out HRE.out HZ.out HI3.out.j (fun q hq=>⟨(HI3.out.m q hq).1,(HI3.out.m q hq).2.2.2.1⟩) HI3.out.f (fun _ h _=>h) (Nat.le_refl _)
end Go.Proofs.YtffehfpbdcokbaaGreat
