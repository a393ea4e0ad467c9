import Derived.OrdersHeld
import Derived.Deep.RegionHeld3
import Derived.RangeFuncNested
import Derived.Test.YtablgjhnpphodaaGreatFrm
import Derived.Test.YtablgjhnpphodaaGreatBu4
import Derived.Test.YtablgjhnpphodaaGreatBu7
set_option linter.unusedVariables false
set_option linter.unusedSimpArgs false
namespace Go.Proofs.YtablgjhnpphodaaGreat
open Lib (hid)
open Go
section
variable {P : Program} {ops : Array Oper} {md : Region.Mode} {S : World → Prop}
def tailH (P:Program) (ops:Array Oper) (Q:Exit→Act→World→Prop) (l:List Oper):Exit→Act→World→Prop
 | .normal,a,w=>wpList P ops Q l a w
 | e,a,w=>Q e a w
theorem wp_of_tailH {Q:Exit→Act→World→Prop} {o:Oper} {a:Act} {w:World} {K:Act→World→Prop} {l:List Oper} (h:o.wp P a w K (tailH P ops Q l)):o.wp P a w K Q:=by
 unfold Oper.wp at *
 generalize (execOp a.eval o).run P w=r at *
 cases r with
 | ok n w' =>
  cases n <;> simp only [Oper.upon] at h ⊢
  case enter f args=>exact Calls.mono h (fun e w'' he=>by cases e <;> exact he)
  all_goals exact h
 | halt x w'=>cases x <;> simp only [Oper.upon] at h ⊢ <;> exact h
theorem wpOp_tailH {Q:Exit→Act→World→Prop} {i:Nat} {a:Act} {w:World} {K:Act→World→Prop} {l:List Oper} (h:wpOp P ops (tailH P ops Q l) i K a w):wpOp P ops Q i K a w:=by
 unfold wpOp at *
 cases ho:ops[i]? with
 | none=>simp only [ho] at h ⊢;exact h
 | some o =>
  simp only [ho] at h ⊢
  split
  ·rename_i hw
   simp only [hw,if_true] at h
   exact h.imp wp_of_tailH (fun h2=>⟨h2.1,h2.2⟩)
  rename_i hw
  simp only [hw] at h
  exact h
theorem head_anyH {n g:Nat} {Q:Exit→Act→World→Prop} {l:List Oper} (hf:fwdB md ops=true) (hs:Region.sinkB md ops n=true) (hc:Region.chainB md ops n=true) (hn:n<ops.size)
 (hE:∀ a w,wpList P ops Q l a w→wpAny P md ops Q g (firstN ops.size n) a w) :
 ∀ (f:Nat) (listed l1:Array Bool) (a:Act) (w:World),HeadInv md ops n listed→l1.size=ops.size→(∀ j d,j<n→l1.getD j d=listed.getD j d)→(∀ j,n≤j→l1.getD j true=true) →
  wpAnyH P md ops (tailH P ops Q l) S f l1 a w→wpAny P md ops Q (f+g) listed a w:=by
 have same:∀ (listed l1:Array Bool),HeadInv md ops n listed→(∀ j d,j<n→l1.getD j d=listed.getD j d)→(∀ j,n≤j→l1.getD j true=true) →
  ∀ i,(i<n∧i∈Region.ready md ops listed↔i∈Region.ready md ops l1):=by
  intro listed l1 inv h1 h2 i
  constructor
  ·rintro ⟨hi,hm⟩
   obtain ⟨hu,o,ho,hall⟩:=mem_ready.1 hm
   exact mem_ready.2 ⟨(h1 i true hi).trans hu,o,ho,fun e he hb=>(h1 e.on false (by have:=fwdB_spec hf ho he hb;omega)).trans (hall e he hb)⟩
  intro hm
  obtain ⟨hu,o,ho,hall⟩:=mem_ready.1 hm
  have hi:i<n:=by
   rcases Nat.lt_or_ge i n with h | h
   ·exact h
   rw [h2 i h] at hu;cases hu
  exact ⟨hi,mem_ready.2 ⟨(h1 i true hi).symm.trans hu,o,ho,fun e he hb=>(h1 e.on false (by have:=fwdB_spec hf ho he hb;omega)).symm.trans (hall e he hb)⟩⟩
 have done:∀ (listed l1:Array Bool),HeadInv md ops n listed→(∀ j d,j<n→l1.getD j d=listed.getD j d)→(∀ j,n≤j→l1.getD j true=true) →
  Region.ready md ops l1=[]→listed=firstN ops.size n:=by
  intro listed l1 inv h1 h2 he
  have all:∀ d i,i=d→i<n→listed.getD i false=true:=by
   intro d
   induction d using Nat.strongRecOn with
   | _ d ih =>
    intro i hd hi
    cases hl:listed.getD i true with
    | true =>
     have hlt:i<listed.size:=by rw [inv.size];omega
     simp [hlt] at hl ⊢
     exact hl
    | false =>
     exfalso
     have hlt:i<ops.size:=by omega
     have hm:=mem_ready.2 ⟨(h1 i true hi).trans hl,ops[i],Array.getElem?_eq_getElem hlt,fun e he hb=>by
      have hlt2:=fwdB_spec hf (Array.getElem?_eq_getElem hlt) he hb
      exact (h1 e.on false (by omega)).trans (ih e.on (by omega) e.on rfl (by omega))⟩
     rw [he] at hm
     cases hm
  apply Array.ext
  ·simp [firstN,inv.size]
  intro i hi1 hi2
  simp only [firstN,Array.getElem_ofFn]
  rcases Nat.lt_or_ge i n with h | h
  ·have:=all i i rfl h
   simp [hi1] at this
   simp [this,h]
  have:=inv.tail i h (by rw [← inv.size];exact hi1)
  simp [hi1] at this
  rw [this]
  simp only [Bool.false_eq,decide_eq_false_iff_not]
  omega
 intro f
 induction f with
 | zero =>
  intro listed l1 a w inv hsz h1 h2 h
  rw [done listed l1 inv h1 h2 h.1,Nat.zero_add]
  exact hE a w h.2
 | succ f ih =>
  intro listed l1 a w inv hsz h1 h2 h
  cases hrl:Region.ready md ops l1 with
  | nil =>
   rw [done listed l1 inv h1 h2 hrl]
   exact wpAny_plus (hE a w (h.1 hrl)) _
  | cons x xs =>
   have hx:x∈Region.ready md ops l1:=by rw [hrl];exact List.mem_cons_self
   have hx2:=(same listed l1 inv h1 h2 x).2 hx
   have hxu:=(mem_ready.1 hx2.2).1
   rw [show f+1+g=(f+g)+1 by omega]
   refine ⟨fun h0=>by rw [h0] at hx2;exact absurd hx2.2 (by simp),fun i hi=>?_⟩
   have hin:i<n:=by
    rcases Nat.lt_or_ge i n with h3 | h3
    ·exact h3
    exact absurd hi (tail_waits hs hc hn inv _ x rfl hx2.1 hxu i h3)
   have hil:=(same listed l1 inv h1 h2 i).1 ⟨hin,hi⟩
   refine wpOp_mono (fun a' w' h'=>ih (listed.setIfInBounds i true) (l1.setIfInBounds i true) a' w' (inv.set hi hin) (by simp [hsz]) ?_ ?_ h'.2) (wpOp_tailH (h.2 i hil))
   ·intro j d hj
    by_cases hij:i=j
    ·subst hij
     have e1:i<l1.size:=by omega
     have e2:i<listed.size:=by rw [inv.size];omega
     simp [e1,e2]
    rw [getD_set_ne d hij,getD_set_ne d hij];exact h1 j d hj
   intro j hj
   rw [getD_set_ne true (by omega)]
   exact h2 j hj
def headTB (md:Region.Mode) (ops:Array Oper) (n:Nat):Bool :=
 decide (n<ops.size) && fwdB md ops && Region.sinkB md ops n && Region.chainB md ops n && Region.seqB md ops (ops.size-n) n (firstN ops.size n)
theorem wp_region_headH {id:Nat} {Q:Exit→Act→World→Prop} {a:Act} {w:World} {l:List Oper} (n:Nat) (S:World→Prop) (hm:P.follows .mixedOrders=true) (hB:headTB .any l.toArray n=true)
 (h:wpAnyH P .any l.toArray (tailH P l.toArray Q (l.drop n)) S n (lastN' l.toArray.size n) a w.drew):(Code.region id l.toArray true).wp P Q a w:=by
 simp only [headTB,Bool.and_eq_true,decide_eq_true_eq] at hB
 obtain ⟨⟨⟨⟨hn,hf⟩,hs⟩,hc⟩,hseq⟩:=hB
 have hn':n<l.length:=by simpa using hn
 have hdl:(l.drop n).length=l.toArray.size-n:=by simp
 refine wp_region_any hm ?_
 have inv0:HeadInv .any l.toArray n (Array.replicate l.toArray.size false) :=
  ⟨by simp,fun j oj _ hl=>(by rw [getD_replicate_false] at hl;cases hl),fun t _ ht=>getD_in (by simpa using ht) (getD_replicate_false _ _)⟩
 have G:=head_anyH (P:=P) (Q:=Q) (S:=S) (l:=l.drop n) (g:=l.toArray.size-n) hf hs hc hn (fun a' w' h'=>by
  have:=wpAny_of_seq (md:=.any) (Q':=Q) (l.drop n) n (firstN l.toArray.size n) a' w' (fun j=>by simp [List.getElem?_drop]) (by rw [hdl];exact hseq) h'
  rwa [hdl] at this) n (Array.replicate l.toArray.size false) (lastN' l.toArray.size n) a w.drew inv0 (by simp [lastN']) ?_ ?_ h
 ·rw [show n+(l.toArray.size-n)=l.toArray.size by omega] at G
  exact G
 ·intro j d hj
  have h1:j<l.length:=by omega
  simp [lastN',h1]
  omega
 intro j hj
 by_cases h1:j<l.length
 ·simp [lastN',h1]
  omega
 simp [lastN',h1]
end
open Go.RowKit Rng Win Lz Box
set_option maxRecDepth 100000 in
set_option maxHeartbeats 8000000 in
theorem xblock_p (rb fb bud un fput B0:Nat) (lb:Array Value) (kind:Int) (lv:Value) (recs:List (Nat×Nat)) (J:(Nat→Prop)→List UInt8→World→Prop) (M:Nat→Prop) (out bs:List UInt8) (A:Option Addr) (n c used b0:Nat) (w:World)
 (hp:PutOk Tryz.prog fput lb B0 16777216 J) (hr:RxAt w rb fb bud (.func (.func fput) #[] lb) (.func (.func 24) #[] #[]) kind out.length lv) (hs:SrcAt w fb A n c used) (hn:n=bs.length) (hb:BRow w B0 A bs) (hB0:B0≤w.heap.size) (hBr:B0≤rb) (hBf:B0≤fb)
 (hc:n≤c) (hcm:c≤maxLen) (hu:used+n=un) (hub:un≤4611686018427387904) (hl:n≤1000000000) (h1:1≤n) (hb0:b0=(bs.getD 0 0).toNat) (ho:OwnPr w 121 B0 lv recs) (hrl:recs.length≤100000000)
 (hj:J M out w) (hM:∀ q,M q→q≠rb∧q≠fb∧lv.ownBlock≠some q) (hol:out.length≤16777216) (hbud:bud≤16777216) :
 Calls Tryz.prog 42 #[.pointer (some ⟨rb,0,none⟩),.int .u8 (b0:Int)] w (BlkXEnd rb fb un B0 bud (.func (.func fput) #[] lb) (.func (.func 24) #[] #[]) kind J M lv recs out (xBlock bud kind out.length bs) w):=by
 obtain ⟨PUT,hPUT⟩:∃ P,Value.func (.func fput) #[] lb=P:=⟨_,rfl⟩
 rw [hPUT] at hr ⊢
 have HPUT:=hid hPUT
 obtain ⟨E,hE⟩:∃ E,xBlock bud kind out.length bs=E:=⟨_,rfl⟩
 rw [hE]
 obtain ⟨W0,hW0⟩:∃ W,w.alloc (.cells #[.pointer (some ⟨rb,0,none⟩)] 76)=W:=⟨_,rfl⟩
 have hb00:Below w.heap.size w W0:=by rw [← hW0];exact (Below.refl _ w).alloc (Nat.le_refl _) _
 have hs00:W0.heap.size=w.heap.size+1:=by rw [← hW0];simp only [World.size_alloc]
 have hX0:XB rb fb w.heap.size bud B0 PUT (.func (.func 24) #[] #[]) kind lv recs J M out w A n c used bs W0:=by
  refine ⟨by rw [← hW0];exact Pts.new _ _ _,Pts.below hr hb00 (Pts.lt hr),Pts.below hs hb00 (Pts.lt hs),hb.below (hb00.mono hB0),ho.frm (S:=fun _=>False) (Frm.of_below hb00) (fun _ _ h=>h),hp.keep M _ w W0 hj (Frm.of_below hb00),Frm.of_below hb00⟩
 have HP:=hid hp
 have HX0:=hid hX0
 have HE:=hid hE
 have HM:=hid hM
 have HLT:Hid ((∀ q,M q→q<w.heap.size)∧rb<w.heap.size∧fb<w.heap.size∧∀ q,lv.ownBlock=some q→q<w.heap.size):=hid ⟨hp.lt hj,Pts.lt hr,Pts.lt hs,fun q hq=>(ho.lt hq).2⟩
 have HH:Hid ((n=bs.length∧n≤c∧c≤maxLen∧used+n=un∧un≤4611686018427387904∧n≤1000000000∧1≤n)∧(B0≤w.heap.size∧B0≤rb∧B0≤fb)∧recs.length≤100000000∧out.length≤16777216∧bud≤16777216∧b0=(bs.getD 0 0).toNat):=hid ⟨⟨hn,hc,hcm,hu,hub,hl,h1⟩,⟨hB0,hBr,hBf⟩,hrl,hol,hbud,hb0⟩
 obtain ⟨cx,c0,c1,c3,c4,c5,c6⟩:=hX0.cells
 have HU0:=hid (used_p fb A n c used W0 hX0.s)
 obtain ⟨hl0,hhl0⟩:∃ h,(b0+1)*4=h:=⟨_,rfl⟩
 have hb256:b0<256:=by rw [hb0];exact (bs.getD 0 0).toNat_lt
 have i1:((b0:Int)+1)*4=(hl0:Int):=by omega
 have hhd:hdLen bs=hl0:=by unfold hdLen;rw [← hb0,hhl0]
 have HHD:=hid hhd
 have hhl4:4≤hl0∧hl0≤1024:=by omega
 clear hp hr hs hn hb hB0 hBr hBf hc hcm hu hub hl h1 hb0 ho hrl hj hM hol hbud hE hb00 hX0 hhl0 hhd hPUT
 by_cases hsh:n<hl0
 ·have HEE:Hid (E=.err 10 []):=hid (by rw [← HE.out];unfold xBlock;rw [HHD.out,if_pos (by have:=HH.out.1.1;omega)])
  have HT:=hid (rtake_no rb fb bud PUT _ kind out.length lv A n c used hl0 W0 HX0.out.r HX0.out.s hsh)
  clear hsh
  go_enter_defers Tryz.func42,Tryz.ntmps42
  go_wp2_with fail
  refine HU0.out.mono ?_;rintro e w1 ⟨rfl,rfl⟩
  go_wp2_with fail
  refine HT.out.mono ?_;rintro e w1 ⟨rfl,rfl⟩
  go_wp2
  refine ⟨.int .i64 10,by simp [results,Tryz.results42,go_sem],?_⟩
  exact xblock_err HEE.out (by decide) HX0.out.f HX0.out.j
 have HT:=hid (rtake_p rb fb bud PUT _ kind out.length lv A n c used hl0 W0 HX0.out.r HX0.out.s HH.out.1.2.1 (by omega) (by have:=HH.out.1.2.2.2.1;have:=HH.out.1.2.2.2.2.1;omega))
 have hln:(bs.take hl0).length=hl0:=by rw [List.length_take];have:=HH.out.1.1;omega
 have hld:(bs.drop hl0).length=n-hl0:=by rw [List.length_drop];have:=HH.out.1.1;omega
 have hEE:xBody bud kind out.length (blockOf (bs.take hl0)) hl0 (bs.drop hl0)=E:=by
  rw [← HE.out]
  unfold xBlock
  rw [HHD.out,if_neg (by have:=HH.out.1.1;omega)]
 obtain ⟨hd,hhd⟩:∃ hd,bs.take hl0=hd:=⟨_,rfl⟩
 obtain ⟨sr,hsr⟩:∃ sr,bs.drop hl0=sr:=⟨_,rfl⟩
 obtain ⟨win,n',pk,wl,er,hR⟩:=blockOf_in (bs.take hl0)
 rw [hhd] at hR hln hEE
 rw [hsr] at hld hEE
 rw [hR] at hEE
 have hbd:sr.length+hl0=bs.length:=by rw [hld];have:=HH.out.1.1;omega
 have HHS:=hid (And.intro hhd (And.intro hsr (And.intro hln (And.intro hld hbd))))
 have HEE:=hid hEE
 have HRR:=hid hR
 have HSH:=hid hsh
 clear hhd hsr hln hld hEE hR hbd hsh HE
 go_enter_defers Tryz.func42,Tryz.ntmps42
 go_wp2_with fail
 refine HU0.out.mono ?_;rintro e w1 ⟨rfl,rfl⟩
 go_wp2_with fail
 refine HT.out.mono ?_;rintro e w1 ⟨rfl,hs1,hf1⟩
 have hr1:BRow w1 B0 A bs:=HX0.out.b.below (hf1.below (by have:=HH.out.2.1.1;omega) (fun q hq=>by have:=HH.out.2.1.2.2;omega))
 have hrd:BRow w1 B0 (takeA A c hl0) sr:=by
  have h:=hr1.drop (k:=hl0) (cap:=c) (by have:=HH.out.1.1;have:=HH.out.1.2.1;omega)
  rw [HHS.out.2.1] at h
  exact h
 have hrt:BRow w1 B0 A hd:=by rw [← HHS.out.1];exact hr1.take hl0
 have hX1:XB rb fb w.heap.size bud B0 PUT (.func (.func 24) #[] #[]) kind lv recs J M out w (takeA A c hl0) (n-hl0) (c-hl0) (used+hl0) sr w1:=HX0.out.takes HP.out (fun h=>(HM.out _ h).2.1 rfl) hs1 hf1 hrd
 have hBK:=block_p A hd hl0 hl0 w1 HHS.out.2.2.1.symm (Nat.le_refl _) (by have:=HH.out.1.2.1;have:=HH.out.1.2.2.1;have:=HSH.out;omega) (hrt.more (by have:=hX1.f.size;have:=HH.out.2.1.1;omega))
 rw [HRR.out] at hBK
 obtain ⟨A1,hA1⟩:∃ A1,takeA A c hl0=A1:=⟨_,rfl⟩
 obtain ⟨n1,hn1⟩:∃ n1,n-hl0=n1:=⟨_,rfl⟩
 obtain ⟨k1,hk1⟩:∃ k1,c-hl0=k1:=⟨_,rfl⟩
 obtain ⟨u1,hu1⟩:∃ u1,used+hl0=u1:=⟨_,rfl⟩
 rw [hA1,hn1,hk1,hu1] at hX1
 have H1:Hid (n1=sr.length∧n1≤k1∧k1≤maxLen∧u1+n1=un∧used+hl0=u1):=hid (by
  have h1:=HH.out.1.2.1;have h2:=HH.out.1.2.2.1;have h3:=HH.out.1.2.2.2.1;have h4:=HSH.out;have h5:=HHS.out.2.2.2.1
  exact ⟨by omega,by omega,by omega,by omega,hu1⟩)
 have HX1:=hid hX1
 have HBK:=hid hBK
 clear hs1 hf1 hr1 hrd hrt hX1 hBK hA1 hn1 hk1 hu1 cx c0 c1 c3 c4 c5 c6 HU0 HT
 go_wp2_with fail
 refine HBK.out.mono ?_;rintro e w2 ⟨rfl,hb2⟩
 unfold blkV
 simp only
 have hX2:=HX1.out.still HP.out hb2 HH.out.2.1.1
 obtain ⟨cx,c0,c1,c3,c4,c5,c6⟩:=hX2.cells
 have HX2:=hid hX2
 clear hX2 hb2
 by_cases he:er=0
 ·subst he
  by_cases hw:bud<win
  ·have qw:decide (bud<win)=true:=decide_eq_true hw
   have HEF:Hid (E=.err 40 []):=hid (by
    rw [← HEE.out]
    unfold xBody
    rw [if_neg (by simp),if_pos (by simp only;omega)])
   clear hw
   go_wp2
   refine ⟨.int .i64 40,by simp [results,Tryz.results42,go_sem],?_⟩
   exact xblock_err HEF.out (by decide) HX2.out.f HX2.out.j
  have qw:decide (bud<win)=false:=decide_eq_false hw
  have HEG:Hid (E=match d2P (max win 4096) (16777216-out.length) sr with | (o,.inl e)=>BlkE.err e o | (o,.inr rest)=>xTail ((win:Int),n',pk,wl,((0:Nat):Int)) kind hl0 (sr.length-rest.length) o rest):=hid (by
   rw [← HEE.out]
   unfold xBody
   rw [if_neg (by simp),if_neg (by simp only;omega)]
   rfl)
  have hwb:win≤16777216:=by have:=HH.out.2.2.2.2.1;omega
  clear hw HEE
  go_wp2_with fail
  refine (hold_p _ w2).mono ?_;rintro e w3 ⟨rfl,rfl⟩
  go_wp2_with fail
  refine (check_p kind w2).mono ?_;rintro e w3 ⟨sb,own,rfl,hu3,ho3,hb3⟩
  have hX3:=HX2.out.still HP.out hb3 HH.out.2.1.1
  obtain ⟨W4,hW4⟩:∃ W,w3.alloc (.cells #[.iface 42 (.pointer (some ⟨sb,0,none⟩))] 116)=W:=⟨_,rfl⟩
  have hb4:Below w3.heap.size w3 W4:=by rw [← hW4];exact (Below.refl _ w3).alloc (Nat.le_refl _) _
  have hs4:W4.heap.size=w3.heap.size+1:=by rw [← hW4];simp only [World.size_alloc]
  have hp4:Pts W4 w3.heap.size #[.iface 42 (.pointer (some ⟨sb,0,none⟩))] 116:=by rw [← hW4];exact Pts.new _ _ _
  have hX4:=hX3.still HP.out hb4 HH.out.2.1.1
  have hu4:SumAt W4 sb own (chkK kind) []:=hu3.frmX (S:=fun _=>False) (Frm.of_below hb4) (fun _ _ h=>h)
  have hO4:∀ q,own q→w.heap.size+1≤q∧q<w3.heap.size:=fun q hq=>⟨by have:=ho3 q hq;have:=HX2.out.x.lt;omega,lt_of_cells (hu3.cellsX q hq)⟩
  obtain ⟨cx4,d0,d1,d3,d4,d5,d6⟩:=hX4.cells
  have HX4:=hid hX4
  have H4:Hid (Pts W4 w3.heap.size #[.iface 42 (.pointer (some ⟨sb,0,none⟩))] 116∧SumAt W4 sb own (chkK kind) []∧(∀ q,own q→w.heap.size+1≤q∧q<w3.heap.size)∧w.heap.size+1≤w3.heap.size):=hid ⟨hp4,hu4,hO4,by have:=hX3.x.lt;omega⟩
  clear hX3 hb3 hu3 ho3 hb4 hX4 hu4 hO4 hp4 cx c0 c1 c3 c4 c5 c6
  go_wp2_with fail
  have HU4:=hid (used_p fb A1 n1 k1 u1 W4 HX4.out.s)
  refine HU4.out.mono ?_;rintro e w5 ⟨rfl,rfl⟩
  obtain ⟨W5,hW5⟩:∃ W,W4.alloc (.cells #[.int .i64 0] 3)=W:=⟨_,rfl⟩
  have hb5:Below W4.heap.size W4 W5:=by rw [← hW5];exact (Below.refl _ W4).alloc (Nat.le_refl _) _
  have hs5:W5.heap.size=W4.heap.size+1:=by rw [← hW5];simp only [World.size_alloc]
  have hp5:Pts W5 W4.heap.size #[.int .i64 0] 3:=by rw [← hW5];exact Pts.new _ _ _
  have hX5:=HX4.out.still HP.out hb5 HH.out.2.1.1
  obtain ⟨cx5,e0,e1,e3,e4,e5,e6⟩:=hX5.cells
  obtain ⟨S,hS⟩:∃ S,max win 4096=S:=⟨_,rfl⟩
  have hS2:1≤S∧S≤16777216:=by omega
  have hSi:max (win:Int) 4096=(S:Int):=by omega
  have f1:=fun w=>Fnd.max2_int (P:=Tryz.prog) #[3,3] 3 _ _ _ hSi w
  obtain ⟨mo,hmo⟩:∃ mo,16777216-out.length=mo:=⟨_,rfl⟩
  have hmo2:out.length+mo=16777216:=by have:=HH.out.2.2.2.1;omega
  have hmi:(16777216:Int)-(out.length:Int)=(mo:Int):=by omega
  have hmw:IntKind.i64.wrap (mo:Int)=(mo:Int):=Go.IntWalk.i64_in _ (by omega)
  rw [hS,hmo] at HEG
  have hJ5:JB W4.heap.size w3.heap.size w.heap.size rb fb bud PUT (.func (.func 24) #[] #[]) kind out.length lv out w.heap.size J (fun q=>q=W4.heap.size∨q=w3.heap.size∨q=w.heap.size∨q=rb∨own q∨M q) [] W5.drew:=by
   have h45:=H4.out.2.2.2
   refine ⟨M,own,sb,⟨hp5,(show Pts W5 _ _ _ from H4.out.1.below hb5 H4.out.1.lt),hX5.x,hX5.r,(H4.out.2.1.frmX (S:=fun _=>False) (Frm.of_below hb5) (fun _ _ h=>h)).frmX ((Frm.refl (fun _=>False) W5).drew) (fun _ _ h=>h),by rw [List.append_nil];exact HP.out.keep M _ W5 _ hX5.j ((Frm.refl (fun q=>¬ M q) W5).drew),fun q hq=>?_,fun q hq=>?_⟩,fun q=>Iff.rfl⟩
   ·have h1:=H4.out.2.2.1 q hq
    have hMw:¬ M q:=fun hm=>by have:=HLT.out.1 q hm;omega
    have:=HLT.out.2.1
    exact ⟨by omega,hMw,by omega,by omega,by omega,by omega⟩
   have h1:=HLT.out.1 q hq
   exact ⟨by omega,by omega,by omega,(HM.out q hq).1⟩
  have HX5:=hid hX5
  have HRun:=run_p fb B0 S mo 64 #[.pointer (some ⟨W4.heap.size,0,none⟩),.pointer (some ⟨w3.heap.size,0,none⟩),.pointer (some ⟨w.heap.size,0,none⟩)] _ _ A1 n1 k1 u1 un sr W5.drew (blk1_ok W4.heap.size w3.heap.size w.heap.size rb fb bud fput B0 w.heap.size 16777216 mo lb _ kind out.length lv out J HP.out (by omega) (by omega) HH.out.2.1.1 HX4.out.f.size (by have:=H4.out.2.2.2;have:=HH.out.2.1.1;omega) HH.out.2.1.1 HH.out.2.1.2.1)
   (by rw [HPUT.out];exact hJ5) (by
     have h1:=HLT.out.2.2.1
     have h2:=H4.out.2.2.2
     rintro (e | e | e | e | e | e)
     ·omega
     ·omega
     ·omega
     ·exact Pts.ne_of HX5.out.s HX5.out.r (by decide) e
     ·have:=H4.out.2.2.1 _ e;omega
     exact (HM.out _ e).2.1 rfl) HH.out.2.1.2.2 HX5.out.s H1.out.1 HX5.out.b (by have:=HX5.out.f.size;have:=HH.out.2.1.1;show B0≤W5.heap.size;omega) H1.out.2.1 H1.out.2.2.1 H1.out.2.2.2.1 HH.out.1.2.2.2.2.1 hS2.1 hS2.2 (by clear hmw;omega)
  obtain ⟨D,hD⟩:∃ D,evGo S mo (sr.length+1) newDS 0 sr=D:=⟨_,rfl⟩
  rw [hD] at HRun
  have hdp:=d2E_d2P S mo sr
  rw [show d2E S mo sr=D from hD] at hdp
  have hok:=evGo_ok S mo (sr.length+1) newDS 0 sr
  rw [hD] at hok
  have hTl:(evOut D.1).length≤mo:=by
   have:=d2P_len S mo sr
   rw [hdp] at this
   exact this
  have HRR2:=hid HRun
  have HW5:=hid hW5
  have HDP:=hid (And.intro hdp (And.intro hok hTl))
  have H5:Hid (out.length+mo=16777216∧W5.heap.size=W4.heap.size+1∧W4.heap.size=w3.heap.size+1):=hid ⟨hmo2,hs5,hs4⟩
  clear HRun hdp hok hTl hD hJ5 hX5 hb5 hp5 hS hmo hmo2 HRR HU4 hS2 hs4 hs5 hW5 d0 d1 d3 d4 d5 d6 cx4 i1
  go_wp2
  rw [HW5.out]
  go_still_tail 12,(by kernel_rfl)
  change wpList _ _ _ _ _ W5.drew
  go_wp2_with fail
  refine HRR2.out.mono ?_;rintro e w6 ⟨rfl,⟨M6,hJ6,hM6⟩,hf6,hsrc6⟩
  obtain ⟨Mi,own6,sb6,hJX,hMiff⟩:=hJ6
  obtain ⟨T,hT⟩:∃ T,evOut D.1=T:=⟨_,rfl⟩
  obtain ⟨z,hz⟩:∃ z,evErr D.1=z:=⟨_,rfl⟩
  rw [hT] at hJX HDP
  rw [hz] at HDP
  rw [hz]
  have hf56:Frm (fun q=>M q∨q=fb∨q=rb) w w6:=HX5.out.f.mono (fun q _ e=>.inr (.inl e)) |>.drew.transW hf6 (fun q hq hlt=>by
   have h2:=H4.out.2.2.2
   rcases hq with (e | e | e | e | e | e) | e
   ·have:=H5.out.2;omega
   ·omega
   ·omega
   ·exact .inr (.inr e)
   ·have:=H4.out.2.2.1 _ e;omega
   ·exact .inl e
   exact .inr (.inl e))
  have ho6:OwnPr w6 121 B0 lv recs:=by
   refine OwnPr.frm (S:=_) (w:=W5.drew) HX5.out.o hf6 (fun q hq hn=>?_)
   have h1:=HLT.out.2.2.2 q hq
   have h2:=H4.out.2.2.2
   have hty:∀ {c:Array Value} {T':TypeId},Pts W5 q c T'→(121:Nat)=T':=fun {c T'} hpp=>by
    rcases HX5.out.o.2 with ⟨h3,_⟩ | ⟨g,cap,cur,h3,_,hh,_⟩
    ·rw [h3] at hq;cases hq
    rw [h3] at hq
    injection hq with hq
    subst hq
    have h9:W5.heap[g]?=some (.cells cur 121 (0,0)):=hh
    unfold Pts at hpp
    rw [h9] at hpp
    injection hpp with hpp
    injection hpp
   rcases hn with (e | e | e | e | e | e) | e
   ·have:=H5.out.2;omega
   ·omega
   ·omega
   ·subst e;exact absurd (hty HX5.out.r) (by decide)
   ·have:=H4.out.2.2.1 _ e;omega
   ·exact (HM.out q e).2.2 hq
   subst e;exact absurd (hty HX5.out.s) (by decide)
  have hMi6:∀ q,Mi q→(M q∨w.heap.size≤q)∧q≠rb∧q≠fb∧lv.ownBlock≠some q:=fun q hq=>by
   have h1:=hM6 q ((hMiff q).2 (.inr (.inr (.inr (.inr (.inr hq))))))
   have h3:=hJX.m q hq
   have h4:M q∨w.heap.size≤q:=by
    have h2:=H4.out.2.2.2
    rcases h1 with (e | e | e | e | e | e) | e
    ·have:=H5.out.2;omega
    ·omega
    ·omega
    ·exact absurd e h3.2.2.2
    ·have:=H4.out.2.2.1 _ e;omega
    ·exact .inl e
    have h9:W5.heap.size≤q:=e
    have:=HX5.out.f.size;omega
   refine ⟨h4,h3.2.2.2,?_,?_⟩
   ·rcases h4 with e | e
    ·exact (HM.out q e).2.1
    have:=HLT.out.2.2.1;omega
   rcases h4 with e | e
   ·exact (HM.out q e).2.2
   intro h5;have:=HLT.out.2.2.2 q h5;omega
  have hown6:∀ q,own6 q→w.heap.size≤q:=fun q hq=>(hJX.o q hq).1
  have cx6:w6.cell? ⟨w.heap.size,0,none⟩=some (.pointer (some ⟨rb,0,none⟩)):=by rw [hJX.x.cell];rfl
  have c56:w6.cell? ⟨rb,5,none⟩=some (.int .i64 (out.length:Int)):=hJX.r.cells.2.2.2.2.2.1
  have cn6:w6.cell? ⟨W4.heap.size,0,none⟩=some (.int .i64 (T.length:Int)):=by rw [hJX.n.cell];rfl
  have z56:=Pts.frozen hJX.r 5
  have hTo:((out.length:Int)+(T.length:Int))=(((out++T).length:Nat):Int):=by rw [List.length_append];omega
  have hTb:(out++T).length≤16777216:=by rw [List.length_append];have:=HDP.out.2.2;have:=H5.out.1;omega
  have hTw:IntKind.i64.wrap (((out++T).length:Nat):Int)=(((out++T).length:Nat):Int):=Go.IntWalk.i64_in _ (by omega)
  obtain ⟨OT,hOT⟩:∃ OT,(out++T).length=OT:=⟨_,rfl⟩
  rw [hOT] at hTo hTw hTb
  have H6:Hid (JBx W4.heap.size w3.heap.size w.heap.size rb fb bud (.func (.func fput) #[] lb) (.func (.func 24) #[] #[]) kind out.length lv out w.heap.size J Mi own6 sb6 T w6∧Frm (fun q=>M q∨q=fb∨q=rb) w w6∧OwnPr w6 121 B0 lv recs∧(∀ q,Mi q→(M q∨w.heap.size≤q)∧q≠rb∧q≠fb∧lv.ownBlock≠some q)∧(∀ q,own6 q→w.heap.size≤q)):=hid ⟨hJX,hf56,ho6,hMi6,hown6⟩
  have HS6:=hid hsrc6
  have HT6:=hid (And.intro hT (And.intro hz hOT))
  clear hJX hf56 ho6 hMi6 hown6 hsrc6 hf6 hM6 hMiff hT hz hOT HRR2 HW5 cx5 e0 e1 e3 e4 e5 e6
  go_wp2
  refine QTail.wp_region_qtail_lit 8 (by kernel_rfl) (by kernel_rfl) ?_
  simp only [List.take_succ_cons,List.take_zero,List.drop_succ_cons,List.drop_zero]
  repeat (go_big_quiet_step (fail))
  refine wpQuiet_nil ?_
  rintro w' ⟨nq,rfl⟩
  obtain ⟨W7,hW7⟩:∃ W,(w6.drewN nq).setCell ⟨rb,5,none⟩ (.int .i64 (OT:Int))=W:=⟨_,rfl⟩
  have hf67:Frm (fun q=>q=rb) w6 W7:=by rw [← hW7];exact ((Frm.refl (fun q=>q=rb) w6).drewN nq).setCell (p:=⟨rb,5,none⟩) rfl _
  have hX7:XC rb fb w.heap.size bud B0 W4.heap.size w3.heap.size PUT (.func (.func 24) #[] #[]) kind lv recs J M out w Mi own6 sb6 T W7:=by
   obtain ⟨hJX,hf56,ho6,hMi6,hown6⟩:=H6.out
   obtain ⟨k1,k2,k3,k4,k5,k6⟩:=hJX.ne
   refine ⟨hJX.n.frm hf67 k3,hJX.s.frm hf67 k5,hJX.x.frm hf67 k6,?_,hJX.u.frmX hf67 (fun q hq e=>(hJX.o q hq).2.2.2.2.2 e),ho6.frm hf67 (fun q hq e=>?_),HP.out.keep Mi _ w6 W7 hJX.j (hf67.mono fun q _ e hm=>(hMi6 q hm).2.1 e),hf56.trans (hf67.mono fun q _ e=>.inr (.inr e)),hMi6,hown6⟩
   ·rw [← hW7,HT6.out.2.2,← HPUT.out]
    exact Pts.set (Pts.drewN hJX.r nq) 5 (.int .i64 (OT:Int))
   rcases ho6.2 with ⟨h3,_⟩ | ⟨g,cap,cur,h3,_,hh,_⟩
   ·rw [h3] at hq;cases hq
   rw [h3] at hq
   injection hq with hq
   exact Pts.ne_of (show Pts w6 g cur _ from hh) hJX.r (by decide) (hq.trans e)
  have hsrc7:∃ A n c used,SrcAt W7 fb A n c used∧used≤un:=by
   have h6:=HS6.out
   have hfr:∀ A n c used,SrcAt w6 fb A n c used→SrcAt W7 fb A n c used:=fun A n c used h=>Pts.frm h hf67 (fun e=>Pts.ne_of h H6.out.1.r (by decide) e)
   cases hD2:D.2 with
   | none=>rw [hD2] at h6;obtain ⟨A,n,c,used,h,hu⟩:=h6;exact ⟨A,n,c,used,hfr _ _ _ _ h,hu⟩
   | some r=>rw [hD2] at h6;obtain ⟨A,n,c,used,h,hu,_⟩:=h6;exact ⟨A,n,c,used,hfr _ _ _ _ h,by omega⟩
  obtain ⟨A7,n7,k7,u7,hs7,hu7⟩:=hsrc7
  have hD7:∀ r,D.2=some r→u7+n7=un∧BRow W7 B0 A7 r∧n7=r.length∧n7≤k7∧k7≤maxLen:=fun r hr=>by
   have h6:=HS6.out
   rw [hr] at h6
   obtain ⟨A,n,c,used,h,h1,h2,h3,h4,h5⟩:=h6
   have h9:SrcAt W7 fb A n c used:=Pts.frm h hf67 (fun e=>Pts.ne_of h H6.out.1.r (by decide) e)
   have h10:=h9.symm.trans hs7
   simp only [Option.some.injEq,Obj.cells.injEq,Array.mk.injEq,List.cons.injEq,Value.slice.injEq,Value.int.injEq,and_true,true_and] at h10
   obtain ⟨⟨rfl,rfl,rfl⟩,h11⟩:=h10
   obtain rfl:used=u7:=by omega
   exact ⟨h1,h2.below (hf67.below (by have:=H6.out.2.1.size;have:=HH.out.2.1.1;omega) (fun q hq=>by have:=HH.out.2.1.2.1;omega)),h3,h4,h5⟩
  obtain ⟨cn7,csc7,cx7,c07,c57,c67,z67⟩:=hX7.cells
  have hU7:=hid (used_p fb A7 n7 k7 u7 W7 hs7)
  have H7:=hid (And.intro hX7 (And.intro hs7 (And.intro hu7 hD7)))
  have hu1:u1≤4611686018427387904:=by have:=H1.out.2.2.2.1;have:=HH.out.1.2.2.2.2.1;omega
  have hu7b:u7≤4611686018427387904:=by have:=HH.out.1.2.2.2.2.1;omega
  have hdw:IntKind.i64.wrap ((u7:Int)-(u1:Int))=(u7:Int)-(u1:Int):=Go.IntWalk.i64_in _ (by omega)
  clear hf67 hX7 hs7 hu7 hD7 HS6 H6
  go_wp2_with fail
  refine hU7.out.mono ?_;rintro e w8 ⟨rfl,rfl⟩
  clear hW7 hU7 cx6 c56 cn6 z56
  by_cases hz:z=0
  ·subst hz
   obtain ⟨r,hr⟩:∃ r,D.2=some r:=by
    rcases HDP.out.2.1 with ⟨l,b,e,h1,h2,h3,h4,h5⟩ | ⟨⟨r,h1⟩,h2⟩
    ·have h6:=HT6.out.2.1
     rw [h1,h3] at h6
     exact absurd ((evErr_snoc h5 h2).symm.trans h6) h2
    exact ⟨r,h1⟩
   have hdr:=HDP.out.1
   rw [hr] at hdr
   obtain ⟨pf,hpf,hp1,-⟩:=d2P_front hdr
   have hrl:r.length+pf.length=sr.length:=by rw [hpf,List.length_append];omega
   obtain ⟨h71,h72,h73,h74,h75⟩:=H7.out.2.2.2 r hr
   obtain ⟨uu,huu⟩:∃ uu,sr.length-r.length=uu:=⟨_,rfl⟩
   have hdu:(u7:Int)-(u1:Int)=(uu:Int):=by have:=H1.out.1;have:=H1.out.2.2.2.1;omega
   have huw:IntKind.i64.wrap (uu:Int)=(uu:Int):=Go.IntWalk.i64_in _ (by omega)
   have huu2:uu≤1000000000:=by have:=HHS.out.2.2.2.2;have:=HH.out.1.1;have:=HH.out.1.2.2.2.2.2.1;omega
   have huw2:IntKind.u64.wrap (uu:Int)=(uu:Int):=Go.IntWalk.u64_in _ (by omega)
   have htw2:IntKind.u64.wrap (T.length:Int)=(T.length:Int):=Go.IntWalk.u64_in _ (by omega)
   have HEH:Hid (E=xTail ((win:Int),n',pk,wl,((0:Nat):Int)) kind hl0 uu T r):=hid (by rw [HEG.out,hdr,← huu])
   have H8:Hid (u7+n7=un∧BRow W7 B0 A7 r∧n7=r.length∧n7≤k7∧k7≤maxLen∧uu≤1000000000∧r.length≤1000000000):=hid ⟨h71,h72,h73,h74,h75,huu2,by have:=HHS.out.2.2.2.2;have:=HH.out.1.1;have:=HH.out.1.2.2.2.2.2.1;omega⟩
   clear hr hdr hpf hp1 hrl h71 h72 h73 h74 h75 huu hdw HDP HEG
   obtain ⟨tl,htl⟩:∃ tl,T.length=tl:=⟨_,rfl⟩
   have HTL:=hid htl
   rw [htl] at cn7 htw2 hTo
   rw [show ((0:Nat):Int)=0 from rfl,htl]
   clear htl
   dsimp only
   iterate 60 (first | (with_reducible show Code.wp _ (Code.block 1 _) _ _ _) | go_values | go_guarded | go_step | go_upon | go_at_K | skip)
   go_cut [] from 109 to 130 (fun wx=>wx=W7∧((pk=18446744073709551615∨pk=uu)∧(wl=18446744073709551615∨wl=tl)))
   case first =>
    have hbad:∀ (hb:(pk≠M64'∧pk≠uu)∨(wl≠M64'∧wl≠T.length)),E=.err 11 T:=fun hb=>by
     rw [HEH.out]
     unfold xTail
     rw [if_pos hb]
    have HBAD:=hid hbad
    clear hbad
    by_cases hp1:pk=18446744073709551615
    ·have p1:((pk:Int) != 18446744073709551615)=false:=by rw [hp1];rfl
     have HP1:=hid hp1
     clear hp1
     by_cases hw1:wl=18446744073709551615
     ·have p2:((wl:Int) != 18446744073709551615)=false:=by rw [hw1];rfl
      have HW1:=hid hw1
      clear hw1
      go_wp2
      go_meet
      case rel=>exact ⟨rfl,.inl HP1.out,.inl HW1.out⟩
     have p2:((wl:Int) != 18446744073709551615)=true:=bne_iff_ne.2 (by omega)
     by_cases hw2:wl=tl
     ·have p3:((wl:Int) != (tl:Int))=false:=by rw [hw2];simp
      have HW2:=hid hw2
      clear hw1 hw2
      go_wp2
      go_meet
      case rel=>exact ⟨rfl,.inl HP1.out,.inr HW2.out⟩
     have p3:((wl:Int) != (tl:Int))=true:=bne_iff_ne.2 (by omega)
     have HEF:=hid (HBAD.out (.inr ⟨hw1,by rw [HTL.out];exact hw2⟩))
     clear hw1 hw2
     go_wp2
     refine hold_leave (v:=.int .i64 11) (by simp [results,Tryz.results42,go_sem]) ?_
     exact xblock_err2 HEF.out (by decide) H7.out.1
    have p1:((pk:Int) != 18446744073709551615)=true:=bne_iff_ne.2 (by omega)
    by_cases hp2:pk=uu
    ·have p4:((pk:Int) != (uu:Int))=false:=by rw [hp2];simp
     have HP1:=hid hp2
     clear hp1 hp2
     by_cases hw1:wl=18446744073709551615
     ·have p2:((wl:Int) != 18446744073709551615)=false:=by rw [hw1];rfl
      have HW1:=hid hw1
      clear hw1
      go_wp2
      go_meet
      case rel=>exact ⟨rfl,.inr HP1.out,.inl HW1.out⟩
     have p2:((wl:Int) != 18446744073709551615)=true:=bne_iff_ne.2 (by omega)
     by_cases hw2:wl=tl
     ·have p3:((wl:Int) != (tl:Int))=false:=by rw [hw2];simp
      have HW2:=hid hw2
      clear hw1 hw2
      go_wp2
      go_meet
      case rel=>exact ⟨rfl,.inr HP1.out,.inr HW2.out⟩
     have p3:((wl:Int) != (tl:Int))=true:=bne_iff_ne.2 (by omega)
     have HEF:=hid (HBAD.out (.inr ⟨hw1,by rw [HTL.out];exact hw2⟩))
     clear hw1 hw2
     go_wp2
     refine hold_leave (v:=.int .i64 11) (by simp [results,Tryz.results42,go_sem]) ?_
     exact xblock_err2 HEF.out (by decide) H7.out.1
    have p4:((pk:Int) != (uu:Int))=true:=bne_iff_ne.2 (by omega)
    have HEF:=hid (HBAD.out (.inl ⟨hp1,hp2⟩))
    clear hp1 hp2
    go_wp2
    refine hold_leave (v:=.int .i64 11) (by simp [results,Tryz.results42,go_sem]) ?_
    exact xblock_err2 HEF.out (by decide) H7.out.1
   obtain ⟨rfl,hpk,hwl⟩:=hcut
   obtain ⟨pad,hpad⟩:∃ pad,padOf (hl0+uu)=pad:=⟨_,rfl⟩
   obtain ⟨sz,hsz⟩:∃ sz,chkN kind=sz:=⟨_,rfl⟩
   have hszl:chkLen kind=sz:=by rw [← chkN_len];exact hsz
   have hsz8:sz≤8:=by rw [← hszl];exact chkLen_le kind
   have hpad4:pad<4:=by rw [← hpad];unfold padOf;omega
   have hEI:E=if r.length<pad+sz then .err 10 T else if r.take pad≠List.replicate pad 0∨(r.drop pad).take sz≠chkB kind T then .err 11 T else .ok T (hl0+uu+sz,T.length) (r.drop (pad+sz)):=by
    rw [HEH.out]
    unfold xTail
    rw [if_neg,hpad,hszl]
    simp only
    have h9:=HTL.out
    rintro (⟨e1,e2⟩ | ⟨e1,e2⟩)
    ·rcases hpk with e | e
     ·exact e1 e
     exact e2 e
    rcases hwl with e | e
    ·exact e1 e
    exact e2 (by omega)
   have hHU:(hl0:Int)+(uu:Int)=((hl0+uu:Nat):Int):=by omega
   obtain ⟨HU,hHU2⟩:∃ HU,hl0+uu=HU:=⟨_,rfl⟩
   rw [hHU2] at hHU hpad
   have hHUb:HU≤1000002000:=by have:=H8.out.2.2.2.2.2.1;omega
   have hw1:IntKind.i64.wrap (HU:Int)=(HU:Int):=Go.IntWalk.i64_in _ (by omega)
   have hw2:IntKind.i64.wrap (-(HU:Int)) = -(HU:Int):=Go.IntWalk.i64_in _ (by omega)
   have hw3:bits .and .i64 (-(HU:Int)) 3=(pad:Int):=by rw [i64_and3,← hpad];unfold padOf;omega
   obtain ⟨q,hq⟩:∃ q,pad+sz=q:=⟨_,rfl⟩
   have hq2:(pad:Int)+(sz:Int)=(q:Int):=by omega
   have hqw:IntKind.i64.wrap (q:Int)=(q:Int):=Go.IntWalk.i64_in _ (by omega)
   rw [hq] at hEI
   have HEI:=hid hEI
   have HQ:=hid (And.intro hq (And.intro hsz (And.intro hszl (And.intro hpad hHU2))))
   rw [hsz]
   have hn7r:=H8.out.2.2.1
   clear hEI hpk hwl HEH hq hszl hpad hHU2 hsz
   by_cases hsh:n7<q
   ·have HEF:Hid (E=.err 10 T):=hid (by rw [HEI.out,if_pos (by omega)])
    have HTN:=hid (rtake_no rb fb bud PUT _ kind _ lv A7 n7 k7 u7 q _ H7.out.1.r H7.out.2.1 hsh)
    clear hsh hn7r
    go_wp2_with fail
    refine HTN.out.mono ?_;rintro e w9 ⟨rfl,rfl⟩
    go_wp2
    refine hold_leave (v:=.int .i64 10) (by simp [results,Tryz.results42,go_sem]) ?_
    exact xblock_err2 HEF.out (by decide) H7.out.1
   have HEJ:Hid (E=if r.take pad≠List.replicate pad 0∨(r.drop pad).take sz≠chkB kind T then .err 11 T else .ok T (hl0+uu+sz,T.length) (r.drop q)):=hid (by rw [HEI.out,if_neg (by omega)])
   have HTP:=hid (rtake_p rb fb bud PUT _ kind _ lv A7 n7 k7 u7 q _ H7.out.1.r H7.out.2.1 H8.out.2.2.2.1 (by omega) (by have:=H8.out.1;have:=HH.out.1.2.2.2.2.1;omega))
   have HQN:=hid (show q≤n7 by omega)
   clear hsh hn7r HEI
   go_wp2_with fail
   refine HTP.out.mono ?_;rintro e w9 ⟨rfl,hs9,hf9⟩
   have hX9:=H7.out.1.takes HP.out H7.out.2.1 HLT.out.2.2.1 hf9
   have hB9:B0≤w9.heap.size:=Nat.le_trans HH.out.2.1.1 hX9.f.size
   have hr9:BRow w9 B0 A7 r:=H8.out.2.1.below (hf9.below (Nat.le_trans HH.out.2.1.1 H7.out.1.f.size) (fun q hq=>by have:=HH.out.2.1.2.2;omega))
   have hrt:BRow w9 B0 A7 (r.take pad):=hr9.take pad
   have hrd:BRow w9 B0 (takeA A7 k7 q) (r.drop q):=hr9.drop (by have:=H8.out.2.2.1;have:=H8.out.2.2.2.1;omega)
   have hpq:pad+sz=q:=HQ.out.1
   have hrlen:q≤r.length:=by have:=HQN.out;have:=H8.out.2.2.1;omega
   have hr8:BRow w9 B0 (takeA A7 q pad) ((r.drop pad).take sz):=by
    have h8:=(hr9.take q).drop (k:=pad) (cap:=q) (by rw [List.length_take];omega)
    rw [List.drop_take,show q-pad=sz by omega] at h8
    exact h8
   obtain ⟨A8,hA8⟩:∃ A8,takeA A7 q pad=A8:=⟨_,rfl⟩
   rw [hA8] at hr8
   have hsl1:∀ w,(Instr.sliceAt 27 (.slice A7 q q) none (some (.int .i64 (pad:Int))) none).run Tryz.prog w=.ok (.slice A7 pad q) w:=fun w=>slice_toX A7 q q pad (by omega) (Nat.le_refl _) w
   have hsl2:∀ w,(Instr.sliceAt 27 (.slice A7 q q) (some (.int .i64 (pad:Int))) none none).run Tryz.prog w=.ok (.slice A8 sz sz) w:=fun w=>by
    have h8:=slice_fromX A7 q q pad (by omega) (Nat.le_refl _) w
    rw [show q-pad=sz by omega] at h8
    rw [← hA8]
    exact h8
   obtain ⟨P1,hP1⟩:∃ P1,r.take pad=P1:=⟨_,rfl⟩
   obtain ⟨P2,hP2⟩:∃ P2,(r.drop pad).take sz=P2:=⟨_,rfl⟩
   have hl1:P1.length=pad:=by rw [← hP1,List.length_take];omega
   have hl2:P2.length=sz:=by rw [← hP2,List.length_take,List.length_drop];omega
   obtain ⟨X,hX,hXb,hXc⟩:=chk_sum kind T
   rw [HQ.out.2.2.1] at hXc
   rw [hP1,hP2,hXc] at HEJ
   rw [hP1] at hrt
   rw [hP2] at hr8
   obtain ⟨W10,hW10⟩:∃ W,w9.alloc (.cells #[.int .u8 0,.int .u8 0,.int .u8 0,.int .u8 0,.int .u8 0,.int .u8 0,.int .u8 0,.int .u8 0] 120)=W:=⟨_,rfl⟩
   have hb10:Below w9.heap.size w9 W10:=by rw [← hW10];exact (Below.refl _ w9).alloc (Nat.le_refl _) _
   have hp10:Pts W10 w9.heap.size (wcells []) 120:=by rw [← hW10,wcells_nil];exact Pts.new _ _ _
   have hX10:=hX9.still HP.out hb10
   have hV:=value_crc sb6 own6 (chkK kind) T W10 hX10.u (by unfold chkK;split <;> (try split) <;> decide) (by have:=HTL.out;have:=hTb;omega)
   rw [hX] at hV
   have HV:=hid hV
   have hs10:SrcAt W10 fb (takeA A7 k7 q) (n7-q) (k7-q) (u7+q):=Pts.below hs9 hb10 (Pts.lt hs9)
   have hwz:w.heap.size≤w9.heap.size:=hX9.f.size
   have H10:Hid (XC rb fb w.heap.size bud B0 W4.heap.size w3.heap.size PUT (.func (.func 24) #[] #[]) kind lv recs J M out w Mi own6 sb6 T W10∧Pts W10 w9.heap.size (wcells []) 120∧SrcAt W10 fb (takeA A7 k7 q) (n7-q) (k7-q) (u7+q)∧BRow W10 B0 A7 P1∧BRow W10 B0 A8 P2∧BRow W10 B0 (takeA A7 k7 q) (r.drop q)):=hid ⟨hX10,hp10,hs10,hrt.below (hb10.mono hB9),hr8.below (hb10.mono hB9),hrd.below (hb10.mono hB9)⟩
   have HL:=hid (And.intro hl1 (And.intro hl2 (And.intro hXb (And.intro hrlen (And.intro hB9 hwz)))))
   have H9:Hid (XC rb fb w.heap.size bud B0 W4.heap.size w3.heap.size PUT (.func (.func 24) #[] #[]) kind lv recs J M out w Mi own6 sb6 T w9∧SrcAt w9 fb (takeA A7 k7 q) (n7-q) (k7-q) (u7+q)∧BRow w9 B0 A7 P1∧BRow w9 B0 A8 P2∧BRow w9 B0 (takeA A7 k7 q) (r.drop q)∧Below w9.heap.size w9 W10):=hid ⟨hX9,hs9,hrt,hr8,hrd,hb10⟩
   obtain ⟨cn10,csc10,cx10,c010,c510,c610,z610⟩:=hX10.cells
   have mV:=meth_sV
   clear hs9 hf9 hX9 hB9 hr9 hrt hrd hrlen hr8 hA8 hP1 hP2 hl1 hl2 hX hXb hXc hb10 hp10 hX10 hV hs10 hwz HTP cn7 csc7 cx7 c07 c57 c67 z67
   go_wp2_with fail
   refine HV.out.mono ?_;rintro e w11 ⟨rfl,d,rfl⟩
   go_wp2
   go_loopw [20,21] (fun iv xv wr=>∃ i Y:Nat,iv=.int .i64 (i:Int)∧xv=.int .u64 (Y:Int)∧i≤sz∧Y=X / 256 ^ i∧Pts wr w9.heap.size (wcells (leB X i)) 120∧Frm (· = w9.heap.size) W10 wr) (fun iv _ _=>sz-(intOf iv).toNat)
   case atStart=>exact ⟨0,X,rfl,rfl,Nat.zero_le _,by simp,H10.out.2.1.drewN d,(Frm.refl _ W10).drewN d⟩
   obtain ⟨i,Y,rfl,rfl,hi,hY,hpw,hfw⟩:=hrel
   have HPW:=hid hpw
   have HFW:=hid hfw
   have HY:=hid hY
   have hYb:Y<18446744073709551616:=by rw [hY];exact Nat.lt_of_le_of_lt (Nat.div_le_self _ _) HL.out.2.2.1
   clear hpw hfw hY HV cn10 csc10 cx10 c010 c510 c610 z610
   by_cases his:i<sz
   ·have hll:(leB X i).length=i:=leB_len i X
    have hcl:=HPW.out.cell i
    have hzl:=HPW.out.frozen i
    have hci:∃ v,(wcells (leB X i))[i]?=some v:=by
     have hsz:(wcells (leB X i)).size=8:=by simp [wcells,hll];omega
     exact ⟨_,Array.getElem?_eq_getElem (by rw [hsz];omega)⟩
    obtain ⟨v0,hv0⟩:=hci
    rw [hv0] at hcl
    obtain ⟨y,hy⟩:∃ y,UInt8.ofNat Y=y:=⟨_,rfl⟩
    have hw8:=u8_wrap_nat Y
    rw [hy] at hw8
    obtain ⟨yn,hyn⟩:∃ yn,y.toNat=yn:=⟨_,rfl⟩
    have hnew:Pts (wr.setCell ⟨w9.heap.size,i,none⟩ (.int .u8 (yn:Int))) w9.heap.size (wcells (leB X (i+1))) 120∧Frm (· = w9.heap.size) W10 (wr.setCell ⟨w9.heap.size,i,none⟩ (.int .u8 (yn:Int))):=by
     refine ⟨?_,HFW.out.setCell (p:=⟨w9.heap.size,i,none⟩) rfl _⟩
     have h1:=wcells_set (leB X i) y (by omega)
     rw [hll] at h1
     rw [leB_snoc,← HY.out,hy,← h1,← hyn]
     exact HPW.out.set i _
    rw [hyn] at hw8
    have HNEW:=hid hnew
    have hYd:((Y:Int) / 256)=((Y / 256:Nat):Int):=by omega
    have hYn:Y / 256=X / 256 ^ (i+1):=by rw [HY.out,Nat.div_div_eq_div_mul,Nat.pow_succ]
    have HYN:=hid hYn
    obtain ⟨Y2,hY2⟩:∃ Y2,Y / 256=Y2:=⟨_,rfl⟩
    rw [hY2] at hYd HYN
    have his8:(i:Int)<8:=by omega
    clear hnew hll hv0 hy hyn hYn hY2
    go_wp2
    exact ⟨⟨i+1,Y2,by go_num,rfl,by omega,HYN.out,HNEW.out⟩,by simp [intOf];omega⟩
   obtain rfl:i=sz:=by omega
   clear his hi hYb
   have hbw:Below w9.heap.size w9 wr:=H9.out.2.2.2.2.2.trans (HFW.out.below H9.out.2.2.2.2.2.size (fun k hk=>by omega))
   have hXr:=H9.out.1.still HP.out hbw
   have hsr:=Pts.below H9.out.2.1 hbw (Pts.lt H9.out.2.1)
   have hBr:B0≤wr.heap.size:=Nat.le_trans HL.out.2.2.2.2.1 hbw.size
   have hrw:BRow wr wr.heap.size (some ⟨w9.heap.size,0,none⟩) (leB X i):=wcells_row HPW.out (by rw [leB_len];exact hsz8)
   obtain ⟨Wa,hWa⟩:∃ W,wr.drew.alloc (.cells (madeCells #[.int .u8 0] pad) 5)=W:=⟨_,rfl⟩
   have hba:Below wr.heap.size wr Wa:=by rw [← hWa];exact ((Below.refl _ wr).drew).alloc (Nat.le_refl _) _
   have hza:BRow Wa Wa.heap.size (some ⟨wr.heap.size,0,none⟩) (List.replicate pad 0):=by rw [← hWa];exact noughts_row pad wr.drew
   have hmk:=made_bytes pad (by omega)
   have hEQ:=equal_p A7 (some ⟨wr.heap.size,0,none⟩) P1 (List.replicate pad 0) pad q pad pad Wa.heap.size Wa HL.out.1.symm (((H9.out.2.2.1.below (hbw.mono HL.out.2.2.2.2.1)).below (hba.mono hBr)).more (Nat.le_trans hBr hba.size)) (by simp) hza
   have hE2:=equal_p A8 (some ⟨w9.heap.size,0,none⟩) P2 (leB X i) i i i 8 Wa.heap.size Wa HL.out.2.1.symm (((H9.out.2.2.2.1.below (hbw.mono HL.out.2.2.2.2.1)).below (hba.mono hBr)).more (Nat.le_trans hBr hba.size)) (leB_len _ _).symm ((hrw.below hba).more hba.size)
   have hsl3:∀ w,(Instr.sliceAt 120 (.pointer (some ⟨w9.heap.size,0,none⟩)) none (some (.int .i64 (i:Int))) none).run Tryz.prog w=.ok (.slice (some ⟨w9.heap.size,0,none⟩) i 8) w:=fun w=>slice_arr8 w9.heap.size i hsz8 w
   obtain ⟨b1,hb1⟩:∃ b,(P1==List.replicate pad 0)=b:=⟨_,rfl⟩
   obtain ⟨b2,hb2⟩:∃ b,(P2==leB X i)=b:=⟨_,rfl⟩
   rw [hb1] at hEQ
   rw [hb2] at hE2
   have HEQ:=hid hEQ
   have HE2:=hid hE2
   have HB1:=hid (And.intro hb1 hb2)
   have HWR:=hid (And.intro hXr (And.intro hsr (And.intro hBr (And.intro hbw hba))))
   clear hbw hXr hsr hBr hrw hba hza hEQ hE2 hb1 hb2 HPW HFW HY
   have hii:(0:Int)≤(i:Int)∧(i:Int)≤8:=by omega
   cases b1 with
   | false =>
    have HEF:Hid (E=.err 11 T):=hid (by rw [HEJ.out,if_pos (.inl (by simpa using HB1.out.1))])
    go_wp2
    refine wp_region_noPanic ?_
    refine wp_region_any (by kernel_rfl) ?_
    change wpAny _ _ _ _ _ _ _ (World.drew _)
    refine wpAny_take (i:=0) rfl (by kernel_rfl) (by kernel_rfl) (by kernel_rfl) (fun _ _ _ h=>h) (Or.inl ⟨by rfl,by (intro w;go_simp;try with_reducible rfl)⟩) ?_
    try go_simp
    refine wpAny_take (i:=1) rfl (by kernel_rfl) (by kernel_rfl) (by kernel_rfl) (fun _ _ _ h=>h) (Or.inl ⟨by rfl,by (intro w;go_simp;try with_reducible rfl)⟩) ?_
    go_simp
    refine wpAny_take (i:=2) rfl (by kernel_rfl) (by kernel_rfl) (by kernel_rfl) (fun _ _ _ h=>h) (Or.inl ⟨by rfl,by (intro w;go_simp;try with_reducible rfl)⟩) ?_
    try go_simp
    refine wpAny_take (i:=3) rfl (by kernel_rfl) (by kernel_rfl) (by kernel_rfl) (fun _ _ _ h=>h) (Or.inl ⟨by rfl,by (intro w;go_simp;try with_reducible rfl)⟩) ?_
    go_simp
    refine wpAny_ready (rs:=[4]) (by kernel_rfl) (by simp) ?_
    refine AllReady.cons rfl (fun K hK=>?_) AllReady.nil
    go_simp
    refine hK _ _ ?_;clear hK K
    refine wpAny_ready (rs:=[5]) (by kernel_rfl) (by simp) ?_
    refine AllReady.cons rfl (fun K hK=>?_) AllReady.nil
    go_simp
    go_wp2_with (go_at_call 46;refine HEQ.out.mono ?_;rintro e w11 ⟨rfl,rfl⟩)
    refine wpAny_take (i:=6) rfl (by kernel_rfl) (by kernel_rfl) (by kernel_rfl) (fun _ _ _ h=>h) (Or.inl ⟨by rfl,by (intro w;go_simp;try with_reducible rfl)⟩) ?_
    try go_simp
    refine wpAny_take (i:=7) rfl (by kernel_rfl) (by kernel_rfl) (by kernel_rfl) (fun _ _ _ h=>h) (Or.inl ⟨by rfl,by (intro w;go_simp;try with_reducible rfl)⟩) ?_
    go_simp
    refine wpAny_take (i:=8) rfl (by kernel_rfl) (by kernel_rfl) (by kernel_rfl) (fun _ _ _ h=>h) (Or.inr ⟨by rfl,rfl⟩) ?_
    try go_simp
    refine wpAny_take (i:=9) rfl (by kernel_rfl) (by kernel_rfl) (by kernel_rfl) (fun _ _ _ h=>h) (Or.inr ⟨by rfl,rfl⟩) ?_
    go_simp
    refine wpAny_take (i:=10) rfl (by kernel_rfl) (by kernel_rfl) (by kernel_rfl) (fun _ _ _ h=>h) (Or.inr ⟨by rfl,rfl⟩) ?_
    try go_simp
    refine wpAny_take (i:=11) rfl (by kernel_rfl) (by kernel_rfl) (by kernel_rfl) (fun _ _ _ h=>h) (Or.inr ⟨by rfl,rfl⟩) ?_
    go_simp
    refine wpAny_take (i:=12) rfl (by kernel_rfl) (by kernel_rfl) (by kernel_rfl) (fun _ _ _ h=>h) (Or.inr ⟨by rfl,rfl⟩) ?_
    try go_simp
    refine wpAny_take (i:=13) rfl (by kernel_rfl) (by kernel_rfl) (by kernel_rfl) (fun _ _ _ h=>h) (Or.inr ⟨by rfl,rfl⟩) ?_
    go_simp
    refine wpAny_take (i:=14) rfl (by kernel_rfl) (by kernel_rfl) (by kernel_rfl) (fun _ _ _ h=>h) (Or.inr ⟨by rfl,rfl⟩) ?_
    try go_simp
    refine wpAny_take (i:=15) rfl (by kernel_rfl) (by kernel_rfl) (by kernel_rfl) (fun _ _ _ h=>h) (Or.inl ⟨by rfl,by (intro w;go_simp;try with_reducible rfl)⟩) ?_
    go_simp
    refine wpAny_done (by kernel_rfl) ?_ _
    refine NoPanic.normal ?_
    go_wp2
    refine hold_leave (v:=.int .i64 11) (by simp [results,Tryz.results42,go_sem]) ?_
    exact xblock_err2 HEF.out (by decide) (HWR.out.1.still HP.out HWR.out.2.2.2.2)
   | true =>
    go_wp2
    refine wp_region_noPanic ?_
    refine wp_region_any (by kernel_rfl) ?_
    change wpAny _ _ _ _ _ _ _ (World.drew _)
    refine wpAny_take (i:=0) rfl (by kernel_rfl) (by kernel_rfl) (by kernel_rfl) (fun _ _ _ h=>h) (Or.inl ⟨by rfl,by (intro w;go_simp;try with_reducible rfl)⟩) ?_
    try go_simp
    refine wpAny_take (i:=1) rfl (by kernel_rfl) (by kernel_rfl) (by kernel_rfl) (fun _ _ _ h=>h) (Or.inl ⟨by rfl,by (intro w;go_simp;try with_reducible rfl)⟩) ?_
    go_simp
    refine wpAny_take (i:=2) rfl (by kernel_rfl) (by kernel_rfl) (by kernel_rfl) (fun _ _ _ h=>h) (Or.inl ⟨by rfl,by (intro w;go_simp;try with_reducible rfl)⟩) ?_
    try go_simp
    refine wpAny_take (i:=3) rfl (by kernel_rfl) (by kernel_rfl) (by kernel_rfl) (fun _ _ _ h=>h) (Or.inl ⟨by rfl,by (intro w;go_simp;try with_reducible rfl)⟩) ?_
    go_simp
    refine wpAny_ready (rs:=[4]) (by kernel_rfl) (by simp) ?_
    refine AllReady.cons rfl (fun K hK=>?_) AllReady.nil
    go_simp
    refine hK _ _ ?_;clear hK K
    refine wpAny_ready (rs:=[5]) (by kernel_rfl) (by simp) ?_
    refine AllReady.cons rfl (fun K hK=>?_) AllReady.nil
    go_simp
    go_wp2_with (go_at_call 46;refine HEQ.out.mono ?_;rintro e w11 ⟨rfl,rfl⟩)
    refine wpAny_take (i:=6) rfl (by kernel_rfl) (by kernel_rfl) (by kernel_rfl) (fun _ _ _ h=>h) (Or.inl ⟨by rfl,by (intro w;go_simp;try with_reducible rfl)⟩) ?_
    try go_simp
    refine wpAny_take (i:=7) rfl (by kernel_rfl) (by kernel_rfl) (by kernel_rfl) (fun _ _ _ h=>h) (Or.inl ⟨by rfl,by (intro w;go_simp;try with_reducible rfl)⟩) ?_
    go_simp
    refine wpAny_take (i:=8) rfl (by kernel_rfl) (by kernel_rfl) (by kernel_rfl) (fun _ _ _ h=>h) (Or.inl ⟨by rfl,by (intro w;go_simp;try with_reducible rfl)⟩) ?_
    try go_simp
    refine wpAny_take (i:=9) rfl (by kernel_rfl) (by kernel_rfl) (by kernel_rfl) (fun _ _ _ h=>h) (Or.inl ⟨by rfl,by (intro w;go_simp;try with_reducible rfl)⟩) ?_
    go_simp
    refine wpAny_take (i:=10) rfl (by kernel_rfl) (by kernel_rfl) (by kernel_rfl) (fun _ _ _ h=>h) (Or.inl ⟨by rfl,by (intro w;go_simp;try with_reducible rfl)⟩) ?_
    try go_simp
    refine wpAny_take (i:=11) rfl (by kernel_rfl) (by kernel_rfl) (by kernel_rfl) (fun _ _ _ h=>h) (Or.inl ⟨by rfl,by (intro w;go_simp;try with_reducible rfl)⟩) ?_
    go_simp
    refine wpAny_take (i:=12) rfl (by kernel_rfl) (by kernel_rfl) (by kernel_rfl) (fun _ _ _ h=>h) (Or.inl ⟨by rfl,by (intro w;go_simp;try with_reducible rfl)⟩) ?_
    try go_simp
    refine wpAny_ready (rs:=[13]) (by kernel_rfl) (by simp) ?_
    refine AllReady.cons rfl (fun K hK=>?_) AllReady.nil
    go_simp
    go_wp2_with (go_at_call 46;refine HE2.out.mono ?_;rintro e w13 ⟨rfl,rfl⟩)
    refine wpAny_take (i:=14) rfl (by kernel_rfl) (by kernel_rfl) (by kernel_rfl) (fun _ _ _ h=>h) (Or.inl ⟨by rfl,by (intro w;go_simp;try with_reducible rfl)⟩) ?_
    try go_simp
    refine wpAny_take (i:=15) rfl (by kernel_rfl) (by kernel_rfl) (by kernel_rfl) (fun _ _ _ h=>h) (Or.inl ⟨by rfl,by (intro w;go_simp;try with_reducible rfl)⟩) ?_
    go_simp
    refine wpAny_done (by kernel_rfl) ?_ _
    refine NoPanic.normal ?_
    have hXa:=HWR.out.1.still HP.out HWR.out.2.2.2.2
    have HXA:=hid hXa
    cases b2 with
    | false =>
     have HEF:Hid (E=.err 11 T):=hid (by rw [HEJ.out,if_pos (.inr (by simpa using HB1.out.2))])
     clear hXa
     go_wp2
     refine hold_leave (v:=.int .i64 11) (by simp [results,Tryz.results42,go_sem]) ?_
     exact xblock_err2 HEF.out (by decide) HXA.out
    | true =>
     have hEK:E=.ok T (hl0+uu+i,T.length) (r.drop q):=by
      rw [HEJ.out,if_neg]
      rintro (h | h)
      ·exact h (by simpa using HB1.out.1)
      exact h (by simpa using HB1.out.2)
     have HEK:=hid hEK
     obtain ⟨Al,kl,hlv,-,-,-⟩:=hXa.o.slice
     subst hlv
     have hu7q:(((u7+q:Nat)):Int)-(used:Int)=((HU+q:Nat):Int):=by
      have h1:=H1.out.2.2.2.2
      have h2:=HQ.out.2.2.2.2
      omega
     obtain ⟨UQ,hUQ⟩:∃ UQ,u7+q=UQ:=⟨_,rfl⟩
     obtain ⟨DQ,hDQ⟩:∃ DQ,HU+q=DQ:=⟨_,rfl⟩
     obtain ⟨RR,hRR⟩:∃ RR,HU+i=RR:=⟨_,rfl⟩
     have hdq2:(DQ:Int)-(pad:Int)=(RR:Int):=by have:=HQ.out.1;omega
     have hqb:q≤11:=by have:=HQ.out.1;omega
     have hdw1:IntKind.i64.wrap (DQ:Int)=(DQ:Int):=Go.IntWalk.i64_in _ (by omega)
     have hdw2:IntKind.i64.wrap (RR:Int)=(RR:Int):=Go.IntWalk.i64_in _ (by omega)
     have hdw3:IntKind.u64.wrap (RR:Int)=(RR:Int):=Go.IntWalk.u64_in _ (by omega)
     have hdw4:IntKind.u64.wrap (T.length:Int)=(T.length:Int):=Go.IntWalk.u64_in _ (by have:=HTL.out;omega)
     rw [hUQ,hDQ] at hu7q
     have hsa:SrcAt Wa fb (takeA A7 k7 q) (n7-q) (k7-q) UQ:=by rw [← hUQ];exact Pts.below HWR.out.2.1 HWR.out.2.2.2.2 (Pts.lt HWR.out.2.1)
     have hRR2:hl0+uu+i=RR:=by rw [HQ.out.2.2.2.2];exact hRR
     have HS9:=hid (And.intro hsa (And.intro hRR2 hUQ))
     obtain ⟨a3,asc,a0,a1,a5,a2,az⟩:=hXa.cells
     have hS0:LoB w.heap.size rb fb W4.heap.size T.length Wa:=⟨a0,a1,a3⟩
     have a2a:∀ o,(Wa.alloc o).cell? ⟨rb,6,none⟩=some (.slice Al recs.length kl):=fun o=>cell_alloc o a2
     clear hXa hEK hsa hUQ hDQ hRR hRR2 asc a5
     go_wp2
     have hS4:=And.intro hS0.1 (And.intro hS0.2.1 (And.intro hS0.2.2 a2))
     refine wp_region_noPanic ?_
     refine wp_region_headH 20 (fun w'=>w'.cell? ⟨w.heap.size,0,none⟩=some (.pointer (some ⟨rb,0,none⟩))∧w'.cell? ⟨rb,0,none⟩=some (.pointer (some ⟨fb,0,none⟩))∧w'.cell? ⟨W4.heap.size,0,none⟩=some (.int .i64 (T.length:Int))∧w'.cell? ⟨rb,6,none⟩=some (.slice Al recs.length kl)) (by kernel_rfl) (by kernel_rfl) ?_
     simp only [List.drop_succ_cons,List.drop_zero]
     refine wpAnyH_take (i:=0) rfl (by kernel_rfl) (by kernel_rfl) (by kernel_rfl) (fun _ _ _ h=>h) (Or.inl ⟨by rfl,by (intro w hSw;(try dsimp only at hSw);go_simp;try with_reducible rfl)⟩) hS4 ?_
     try simp only [Act.put,List.setIfInBounds_toArray,List.set_cons_zero,List.set_cons_succ]
     refine wpAnyH_take (i:=1) rfl (by kernel_rfl) (by kernel_rfl) (by kernel_rfl) (fun _ _ _ h=>h) (Or.inl ⟨by rfl,by (intro w hSw;(try dsimp only at hSw);go_simp;try with_reducible rfl)⟩) hS4 ?_
     try simp only [Act.put,List.setIfInBounds_toArray,List.set_cons_zero,List.set_cons_succ]
     refine wpAnyH_take (i:=2) rfl (by kernel_rfl) (by kernel_rfl) (by kernel_rfl) (fun _ _ _ h=>h) (Or.inl ⟨by rfl,by (intro w hSw;(try dsimp only at hSw);go_simp;try with_reducible rfl)⟩) hS4 ?_
     try simp only [Act.put,List.setIfInBounds_toArray,List.set_cons_zero,List.set_cons_succ]
     refine wpAnyH_take (i:=3) rfl (by kernel_rfl) (by kernel_rfl) (by kernel_rfl) (fun _ _ _ h=>h) (Or.inl ⟨by rfl,by (intro w hSw;(try dsimp only at hSw);go_simp;try with_reducible rfl)⟩) hS4 ?_
     try simp only [Act.put,List.setIfInBounds_toArray,List.set_cons_zero,List.set_cons_succ]
     refine wpAnyH_take (i:=4) rfl (by kernel_rfl) (by kernel_rfl) (by kernel_rfl) (fun _ _ _ h=>h) (Or.inl ⟨by rfl,by (intro w hSw;(try dsimp only at hSw);go_simp;try with_reducible rfl)⟩) hS4 ?_
     try simp only [Act.put,List.setIfInBounds_toArray,List.set_cons_zero,List.set_cons_succ]
     refine wpAnyH_take (i:=5) rfl (by kernel_rfl) (by kernel_rfl) (by kernel_rfl) (fun _ _ _ h=>h) (Or.inl ⟨by rfl,by (intro w hSw;(try dsimp only at hSw);go_simp;try with_reducible rfl)⟩) hS4 ?_
     try simp only [Act.put,List.setIfInBounds_toArray,List.set_cons_zero,List.set_cons_succ]
     refine wpAnyH_take (i:=6) rfl (by kernel_rfl) (by kernel_rfl) (by kernel_rfl) (fun _ _ _ h=>h) (Or.inl ⟨by rfl,by (intro w hSw;(try dsimp only at hSw);go_simp;try with_reducible rfl)⟩) hS4 ?_
     try simp only [Act.put,List.setIfInBounds_toArray,List.set_cons_zero,List.set_cons_succ]
     refine wpAnyH_take (i:=7) rfl (by kernel_rfl) (by kernel_rfl) (by kernel_rfl) (fun _ _ _ h=>h) (Or.inl ⟨by rfl,by (intro w hSw;(try dsimp only at hSw);go_simp;try with_reducible rfl)⟩) hS4 ?_
     try simp only [Act.put,List.setIfInBounds_toArray,List.set_cons_zero,List.set_cons_succ]
     refine wpAnyH_take (i:=8) rfl (by kernel_rfl) (by kernel_rfl) (by kernel_rfl) (fun _ _ _ h=>h) (Or.inl ⟨by rfl,by (intro w hSw;(try dsimp only at hSw);go_simp;try with_reducible rfl)⟩) hS4 ?_
     try simp only [Act.put,List.setIfInBounds_toArray,List.set_cons_zero,List.set_cons_succ]
     refine wpAnyH_take (i:=10) rfl (by kernel_rfl) (by kernel_rfl) (by kernel_rfl) (fun _ _ _ h=>h) (Or.inl ⟨by rfl,by (intro w hSw;(try dsimp only at hSw);go_simp;try with_reducible rfl)⟩) hS4 ?_
     try simp only [Act.put,List.setIfInBounds_toArray,List.set_cons_zero,List.set_cons_succ]
     refine wpAnyH_take (i:=12) rfl (by kernel_rfl) (by kernel_rfl) (by kernel_rfl) (fun _ _ _ h=>h) (Or.inl ⟨by rfl,by (intro w hSw;(try dsimp only at hSw);go_simp;try with_reducible rfl)⟩) hS4 ?_
     try simp only [Act.put,List.setIfInBounds_toArray,List.set_cons_zero,List.set_cons_succ]
     refine wpAnyH_take (i:=15) rfl (by kernel_rfl) (by kernel_rfl) (by kernel_rfl) (fun _ _ _ h=>h) (Or.inl ⟨by rfl,by (intro w hSw;(try dsimp only at hSw);go_simp;try with_reducible rfl)⟩) hS4 ?_
     try simp only [Act.put,List.setIfInBounds_toArray,List.set_cons_zero,List.set_cons_succ]
     refine wpAnyH_take (i:=16) rfl (by kernel_rfl) (by kernel_rfl) (by kernel_rfl) (fun _ _ _ h=>h) (Or.inl ⟨by rfl,by (intro w hSw;(try dsimp only at hSw);go_simp;try with_reducible rfl)⟩) hS4 ?_
     try simp only [Act.put,List.setIfInBounds_toArray,List.set_cons_zero,List.set_cons_succ]
     refine wpAnyH_ready (rs:=[9]) (by kernel_rfl) (by simp) ?_
     refine AllReadyH.cons rfl (fun K9 hK9=>?_) AllReadyH.nil
     go_simp
     refine (used_p fb _ _ _ UQ _ (show SrcAt Wa.drew fb _ _ _ _ from HS9.out.1)).mono ?_;rintro e w' ⟨rfl,rfl⟩
     refine hK9.out _ _ hS4 (fun _=>?_)
     clear hK9 K9
     try simp only [Act.put,List.setIfInBounds_toArray,List.set_cons_zero,List.set_cons_succ]
     refine wpAnyH_take (i:=11) rfl (by kernel_rfl) (by kernel_rfl) (by kernel_rfl) (fun _ _ _ h=>h) (Or.inl ⟨by rfl,by (intro w hSw;(try dsimp only at hSw);go_simp;try with_reducible rfl)⟩) hS4 ?_
     try simp only [Act.put,List.setIfInBounds_toArray,List.set_cons_zero,List.set_cons_succ]
     refine wpAnyH_take (i:=13) rfl (by kernel_rfl) (by kernel_rfl) (by kernel_rfl) (fun _ _ _ h=>h) (Or.inl ⟨by rfl,by (intro w hSw;(try dsimp only at hSw);go_simp;try with_reducible rfl)⟩) hS4 ?_
     try simp only [Act.put,List.setIfInBounds_toArray,List.set_cons_zero,List.set_cons_succ]
     refine wpAnyH_take (i:=14) rfl (by kernel_rfl) (by kernel_rfl) (by kernel_rfl) (fun _ _ _ h=>h) (Or.inl ⟨by rfl,by (intro w hSw;(try dsimp only at hSw);go_simp;try with_reducible rfl)⟩) hS4 ?_
     try simp only [Act.put,List.setIfInBounds_toArray,List.set_cons_zero,List.set_cons_succ]
     refine wpAnyH_take (i:=17) rfl (by kernel_rfl) (by kernel_rfl) (by kernel_rfl) (fun _ _ _ h=>h) (Or.inl ⟨by rfl,by (intro w hSw;(try dsimp only at hSw);go_simp;try with_reducible rfl)⟩) hS4 ?_
     try simp only [Act.put,List.setIfInBounds_toArray,List.set_cons_zero,List.set_cons_succ]
     refine wpAnyH_ready (rs:=[18]) (by kernel_rfl) (by simp) ?_
     refine AllReadyH.cons rfl (fun K18 hK18=>?_) AllReadyH.nil
     go_simp
     refine hK18.out _ _ (And.intro (cell_alloc _ hS0.1) (And.intro (cell_alloc _ hS0.2.1) (And.intro (cell_alloc _ hS0.2.2) (cell_alloc _ a2)))) (fun _=>?_)
     clear hK18 K18
     try simp only [Act.put,List.setIfInBounds_toArray,List.set_cons_zero,List.set_cons_succ]
     refine wpAnyH_ready (rs:=[19]) (by kernel_rfl) (by simp) ?_
     refine AllReadyH.cons rfl (fun K19 hK19=>?_) AllReadyH.nil
     refine stepR_append_pr _ rfl (.tmp 180) (.tmp 194) 77 rfl 121 B0 Tryz.underlying77 Tryz.info_pair (.slice Al recs.length kl) recs rfl ?_ Wa.heap.size 1 (RR,T.length) rfl ?_ ?_ ?_ ?_;exact HXA.out.o.alloc _;exact Pts.new _ _ _;(have:=HH.out.2.2.1;omega);(show B0≤(Wa.heap.push _).size;rw [Array.size_push];have:=HXA.out.f.size;have:=HH.out.2.1.1;omega)
     intro v12 w12 hown12 hfrm12 hnew12
     obtain ⟨A12,k12,rfl,-,-,-⟩:=hown12.slice
     obtain ⟨hS1,hS2,c12,z12,hend⟩:=xblock_ok (E:=E) (rest:=r.drop q) (rc:=(RR,T.length)) (un:=un) (A:=takeA A7 k7 q) (n:=n7-q) (c:=k7-q) (used:=UQ) HP.out HXA.out hown12 hfrm12.undrew hnew12 HS9.out.1 (by have:=H8.out.1;have:=HQN.out;have:=HS9.out.2.2;omega) (H9.out.2.2.2.2.1.below (HWR.out.2.2.2.1.mono HL.out.2.2.2.2.1) |>.below (HWR.out.2.2.2.2.mono HWR.out.2.2.1)) (by rw [List.length_drop,H8.out.2.2.1]) (by have:=H8.out.2.2.2.1;omega) (by have:=H8.out.2.2.2.2.1;omega) (by rw [HEK.out,HS9.out.2.1]) HH.out.2.1.1 hS0 HH.out.2.1.2.1
     obtain ⟨L12,hL12⟩:∃ L,(recs++[(RR,T.length)]).length=L:=⟨_,rfl⟩
     rw [hL12] at hend hS2
     rw [hL12]
     have HEND:=hid hend
     refine hK19.out _ _ (And.intro hS1.1 (And.intro hS1.2.1 (And.intro hS1.2.2 c12))) (fun _=>?_)
     clear hK19 K19
     clear hown12 hfrm12 hnew12 hL12 hend
     try simp only [Act.put,List.setIfInBounds_toArray,List.set_cons_zero,List.set_cons_succ]
     refine wpAnyH_done (by kernel_rfl) ?_ _
     change wpList _ _ _ _ _ _
     go_wp2
     refine NoPanic.normal ?_
     all_goals
      go_wp2
      refine hold_leave (v:=.int .i64 0) (by simp [results,Tryz.results42,go_sem]) ?_
      exact HEND.out
  have qz:((z:Int) != 0)=true:=bne_iff_ne.2 (by omega)
  have HEF:Hid (E=.err z T):=hid (by
   rcases HDP.out.2.1 with ⟨l,b,e,h1,h2,h3,h4,h5⟩ | ⟨⟨r,h1⟩,h2⟩
   ·rw [HEG.out,HDP.out.1,h4]
   exact absurd (HT6.out.2.1.symm.trans (evErr_zero h2)) hz)
  have HZ:=hid hz
  clear hz
  go_wp2
  refine hold_leave (v:=.int .i64 (z:Int)) (by simp [results,Tryz.results42,go_sem]) ?_
  exact xblock_err2 HEF.out HZ.out H7.out.1
 have qz:((er:Int) != 0)=true:=bne_iff_ne.2 (by omega)
 have HEF:Hid (E=.err er []):=hid (by
  rw [← HEE.out]
  unfold xBody
  rw [if_pos (by simp only;omega)]
  simp)
 have HZ:=hid he
 clear he
 go_wp2
 refine ⟨.int .i64 (er:Int),by simp [results,Tryz.results42,go_sem],?_⟩
 exact xblock_err HEF.out HZ.out HX2.out.f HX2.out.j
open Go.RowKit
def AbM {α:Type} (D:Nat) (J:List α→World→Prop):Prop:=∀ pre W l o o',D≤l→W.heap[l]?=some o→o.isCells=false→J pre W→J pre (W.putObj l o')
def SeqK {α:Type} (F:Fence) (n:Nat) (P:Program) (g:Nat) (bd:Array Value) (encs:α→Array Value) (Px:List α→α→World→Prop) (S:List α→World→Prop) (K:List α→World→Prop):Prop :=
 ∀ (l:Nat) (J Jx:List α→World→Prop) (W:World),(∀ pre W1,J pre W1→K pre W1) →
  (∀ pre x W1,J pre W1→Px pre x W1→YieldAt F (n-1) P l (encs x) W1 fun e W' =>
    (e=.returned (.bool true)∧J (pre++[x]) W')∨(e=.returned (.bool false)∧Jx (pre++[x]) W')) →
  J [] W →
  CallsIn F n P g (bd++#[.func (.yield l) #[] #[]]) W fun e W'=>(∃ v,e=.returned v)∧((∃ xs,S xs W'∧J xs W')∨(∃ pre,Jx pre W'))
def ownPostK {α:Type} (D:Nat) (I:List α→World→Prop) (Ix:Code→List α→World→Prop) (xs:List α) (W:World):Exit→Act→World→Prop
 | .normal,_,W'=>(W'.heap[D]?=W.heap[D]?∧W'.heap[D+1]?=W.heap[D+1]?)∧I xs W'
 | .ret,_,W'=>(W'.heap[D]?=W.heap[D]?∧W'.heap[D+1]?=W.heap[D+1]?)∧Ix .ret xs W'
 | .exit id,_,W'=>(W'.heap[D]?=W.heap[D]?∧W'.heap[D+1]?=W.heap[D+1]?)∧Ix (.exit id) xs W'
 | .goto t,_,W'=>(W'.heap[D]?=W.heap[D]?∧W'.heap[D+1]?=W.heap[D+1]?)∧Ix (.goto t) xs W'
 | .panic _,_,_=>False
 | .outgrown,_,_=>False
variable {F : Fence} {n : Nat} {P : Program}
theorem wpIn_rangeFunc_ownK {α:Type} {g:Operand} {ps:Array Tmp} {assign body:Code} {Q:Exit→Act→World→Prop} {a:Act} {w:World}
 (hro:F.round=none) (h1:1≤n) {gf:Nat} {bd:Array Value} (hg:a.eval g=.func (.func gf) bd #[]) (hFg:F.fn gf) (eg:∀ args w,(callFunc gf args).run P w=.ok (.enter gf args) w)
 {encs:α→Array Value} {Px:List α→α→World→Prop} {S:List α→World→Prop} {K:List α→World→Prop} (hseq:SeqK F (n-1) P gf bd encs Px S K)
 (hps:∀ x,(encs x).size=ps.size)
 (I:List α→World→Prop) (Ix:Code→List α→World→Prop) (hS:AbM w.heap.size S) (hIl:AbM w.heap.size I) (hIxl:∀ c,AbM w.heap.size (Ix c)) (hIK:∀ pre W,I pre W→K pre W) (h0:I [] ((w.alloc (.deferred (some []))).alloc (.loop default))) (a₁:α→Act)
 (hPx:∀ pre x W l o o',w.heap.size≤l→W.heap[l]?=some o→o.isCells=false→Px pre x W→Px pre x (W.putObj l o'))
 (hassign:∀ (l:Nat) (x:α) (W:World) (K:Act→World→Prop),K (a₁ x) W →
   assign.wpIn (F.inRound l) (n-1-1) P (Exit.then K (fun _ _ _=>False)) { tmps:=(ps.zip (encs x)).foldl (fun t (p,v)=>t.setIfInBounds p v) a.tmps,defers:=[] } W)
 (hbody:∀ (l:Nat) (pre:List α) (x:α) (W:World),I pre W→Px pre x W→W.heap[w.heap.size]?=some (.deferred (some []))→(∃ r,W.heap[w.heap.size+1]?=some (.loop r))→body.wpIn (F.inRound l) (n-1-1) P (ownPostK w.heap.size I Ix (pre++[x]) W) (a₁ x) W)
 (hdone:∀ (xs:List α) (W:World),S xs W→I xs W→W.heap[w.heap.size]?=some (.deferred (some []))→Q .normal { a with defers:={ target:=.collected w.heap.size,args:=#[] }::a.defers } W)
 (hstop:∀ (c:Code) (pre:List α) (W:World),Ix c pre W→W.heap[w.heap.size]?=some (.deferred (some []))→c.wpIn F n P Q { a with defers:={ target:=.collected w.heap.size,args:=#[] }::a.defers } W) :
 (Code.rangeFunc g ps assign body).wpIn F n P Q a w:=by
 refine wpIn_rangeFunc ?_
 intro fn hfn
 rw [hro]
 obtain ⟨rec,hrec⟩:∃ rec:LoopState→Option Code→Loop,rec=fun st pe=>{ state:=st,pending:=pe,fn,tmps:=a.tmps,params:=ps,assign,body,defers:=w.heap.size }:=⟨_,rfl⟩
 obtain ⟨W1,hW1⟩:∃ W1,(w.alloc (.deferred (some []))).alloc (.loop (rec .ready none))=W1:=⟨_,rfl⟩
 have hL1:W1.heap[w.heap.size+1]?=some (.loop (rec .ready none)):=by
  rw [← hW1];have:=World.alloc_heap_new (w.alloc (.deferred (some []))) (.loop (rec .ready none));rwa [World.size_alloc] at this
 have hK1:W1.heap[w.heap.size]?=some (.deferred (some [])):=by
  rw [← hW1];exact (Below.heap_alloc _ _ _ (by simp)).trans (World.alloc_heap_new w _)
 have hI1:I [] W1:=by
  have hL0:((w.alloc (.deferred (some []))).alloc (.loop default)).heap[w.heap.size+1]?=some (.loop default):=by
   have:=World.alloc_heap_new (w.alloc (.deferred (some []))) (.loop default);rwa [World.size_alloc] at this
  have h:=hIl [] _ (w.heap.size+1) _ (.loop (rec .ready none)) (by omega) hL0 rfl h0
  have e:((w.alloc (.deferred (some []))).alloc (.loop default)).putObj (w.heap.size+1) (.loop (rec .ready none))=W1:=by
   rw [← hW1]
   simp only [World.putObj,World.alloc]
   congr 1
   apply Array.ext_getElem?
   intro i
   simp only [Array.getElem?_setIfInBounds,Array.getElem?_push,Array.size_push]
   repeat' split
   all_goals first | rfl | omega | simp_all
  rw [e] at h
  exact h
 refine ⟨w.heap.size+1,[{ target:=.collected w.heap.size,args:=#[] }],W1,{ target:=.fn (.func gf) #[],args:=bd++#[.func (.yield (w.heap.size+1)) #[] #[]] },W1,gf,
  bd++#[.func (.yield (w.heap.size+1)) #[] #[]],W1,?_,?_,?_,?_,fun _=>h1,?_⟩
 ·rw [← hW1,hrec];exact run_enterLoop_outer _ _ _ _ _
 ·simp only [resolve,hg]
  simp [go_sem]
 ·intro f' hf';simp [Target.leads] at hf';subst hf';exact hFg
 ·simp [invoke,go_sem,eg]
 refine (hseq (w.heap.size+1)
  (fun pre W=>I pre W∧W.heap[w.heap.size+1]?=some (.loop (rec .ready none))∧W.heap[w.heap.size]?=some (.deferred (some [])))
  (fun pre W=>∃ c,Ix c pre W∧W.heap[w.heap.size+1]?=some (.loop (rec .done (some c)))∧W.heap[w.heap.size]?=some (.deferred (some [])))
  W1 (fun pre W1 h=>hIK pre W1 h.1) ?_ ⟨hI1,hL1,hK1⟩).mono ?_
 ·rintro pre x W ⟨hi,hl,hk⟩ hpx
  have hlt:w.heap.size+1<W.heap.size:=(Array.getElem?_eq_some_iff.1 hl).1
  have hy:=run_yield (P:=P) (args:=encs x) hl (by rw [hrec];exact hps x)
  rw [hrec] at hy
  refine ⟨fn,_,assign,body,hy,roundIn_of_wpIn hfn (hassign _ x W _ ⟨_,run_beginRound hl (by rw [hrec]),?_⟩)⟩
  obtain ⟨W2,hW2⟩:∃ W2,W.putObj (w.heap.size+1) (.loop { rec .ready none with state:=.busy })=W2:=⟨_,rfl⟩
  have hl2:W2.heap[w.heap.size+1]?=some (.loop { rec .ready none with state:=.busy }):=by rw [← hW2];exact World.putObj_heap_same hlt
  have hk2:W2.heap[w.heap.size]?=some (.deferred (some [])):=by rw [← hW2];exact (World.putObj_heap_other (by omega)).trans hk
  have hi2:I pre W2:=by rw [← hW2];exact hIl pre W _ _ _ (by omega) hl rfl hi
  have hp2:Px pre x W2:=by rw [← hW2];exact hPx pre x W _ _ _ (by omega) hl rfl hpx
  have hlt2:w.heap.size+1<W2.heap.size:=(Array.getElem?_eq_some_iff.1 hl2).1
  rw [hW2]
  refine wpIn_mono (hbody _ pre x _ hi2 hp2 hk2 ⟨_,hl2⟩) ?_
  have fin:∀ (jump:Option Code) (W3:World),(W3.heap[w.heap.size]?=W2.heap[w.heap.size]?∧W3.heap[w.heap.size+1]?=W2.heap[w.heap.size+1]?) →
   (Instr.endRound (w.heap.size+1) jump).run P W3=.ok (.bool jump.isNone) (W3.putObj (w.heap.size+1) (.loop (rec (if jump.isNone then .ready else .done) jump))) ∧
   W3.heap[w.heap.size+1]?=some (.loop { rec .ready none with state:=.busy }) ∧
   (W3.putObj (w.heap.size+1) (.loop (rec (if jump.isNone then .ready else .done) jump))).heap[w.heap.size+1]?=some (.loop (rec (if jump.isNone then .ready else .done) jump)) ∧
   (W3.putObj (w.heap.size+1) (.loop (rec (if jump.isNone then .ready else .done) jump))).heap[w.heap.size]?=some (.deferred (some [])):=fun jump W3 hk3=>by
   have hl3:=hk3.2.trans hl2
   have:=run_endRound (P:=P) jump hl3
   rw [hrec] at this ⊢
   exact ⟨this,by rw [hrec] at hl3;exact hl3,World.putObj_heap_same (Array.getElem?_eq_some_iff.1 hl3).1,(World.putObj_heap_other (by omega)).trans (hk3.1.trans hk2)⟩
  rintro e a3 W3 hp
  cases e with
  | normal =>
   obtain ⟨hk3,hi3⟩:=hp
   obtain ⟨hr,hl3,hl4,hk4⟩:=fin none W3 hk3
   exact ⟨_,_,hr,.inl ⟨rfl,hIl _ _ _ _ _ (by omega) hl3 rfl hi3,hl4,hk4⟩⟩
  | ret =>
   obtain ⟨hk3,hi3⟩:=hp
   obtain ⟨hr,hl3,hl4,hk4⟩:=fin (some .ret) W3 hk3
   exact ⟨_,_,hr,.inr ⟨rfl,.ret,hIxl _ _ _ _ _ _ (by omega) hl3 rfl hi3,hl4,hk4⟩⟩
  | exit id =>
   obtain ⟨hk3,hi3⟩:=hp
   obtain ⟨hr,hl3,hl4,hk4⟩:=fin (some (.exit id)) W3 hk3
   exact ⟨_,_,hr,.inr ⟨rfl,.exit id,hIxl _ _ _ _ _ _ (by omega) hl3 rfl hi3,hl4,hk4⟩⟩
  | goto t =>
   obtain ⟨hk3,hi3⟩:=hp
   obtain ⟨hr,hl3,hl4,hk4⟩:=fin (some (.goto t)) W3 hk3
   exact ⟨_,_,hr,.inr ⟨rfl,.goto t,hIxl _ _ _ _ _ _ (by omega) hl3 rfl hi3,hl4,hk4⟩⟩
  | panic ch=>exact hp.elim
  | outgrown=>exact hp.elim
 rintro e W2 ⟨⟨v,rfl⟩,(⟨xs,hSx,hi,hl,hk⟩ | ⟨pre,c,hi,hl,hk⟩)⟩
 ·exact ⟨none,_,by have:=run_endLoop (P:=P) hl (by rw [hrec];simp);rw [hrec] at this;exact this,hdone xs _ (hS _ _ _ _ _ (by omega) hl rfl hSx) (hIl _ _ _ _ _ (by omega) hl rfl hi) ((World.putObj_heap_other (by omega)).trans hk)⟩
 exact ⟨some c,_,by have:=run_endLoop (P:=P) hl (by rw [hrec];simp);rw [hrec] at this;exact this,hstop c pre _ (hIxl _ _ _ _ _ _ (by omega) hl rfl hi) ((World.putObj_heap_other (by omega)).trans hk)⟩
open Go.RowKit Rng Win Lz Box
attribute [local go_sem] Oper.semAt_some
structure Fb where
 b:Nat
 e:Nat
def fbEnc (x:Fb):Array Value:=#[.int .u8 (x.b:Int),.int .i64 (x.e:Int)]
def FbK (w0:World) (rb fb B0 un:Nat) (pre:List Fb) (W:World):Prop :=
 W.cell? ⟨rb,0,none⟩=some (.pointer (some ⟨fb,0,none⟩))∧(∃ A n c used bs,SrcAt W fb A n c used∧n≤c∧BRow W B0 A bs∧n=bs.length∧n+pre.length≤un)∧Below B0 w0 W
def FbP (fb B0:Nat) (pre:List Fb) (x:Fb) (W:World):Prop :=
 ∃ A n c used bs,SrcAt W fb A n c used∧BRow W B0 A bs∧n=bs.length∧((x.e=0∧1≤n∧x.b=(bs.getD 0 0).toNat)∨(x.e=10∧n=0))
def FbS (xs:List Fb) (W:World):Prop:=∃ pre x,xs=pre++[x]∧(x.e≠0∨x.b=0)
set_option maxRecDepth 8000 in
set_option maxHeartbeats 2000000 in
theorem first_seq (n rb fb B0 un:Nat) (w0:World) (hn1:2≤n):SeqK Fence.wide n Tryz.prog 41 #[.pointer (some ⟨rb,0,none⟩)] fbEnc (FbP fb B0) FbS (FbK w0 rb fb B0 un):=by
 intro l J Jx W hK hY h0
 have HK:=hid hK
 have HY:=hid hY
 have H0:=hid h0
 clear hK hY h0
 refine callsIn_of_wp Tryz.func41 rfl trivial ?_ rfl
 simp only [Tryz.ntmps41,List.size_toArray,List.length_cons,List.length_nil,Nat.reduceAdd,Nat.reduceSub,Array.replicate_succ,Array.replicate_zero,List.push_toArray,List.append_toArray,List.nil_append,List.cons_append]
 gi_wp2
 gi_loopg [4] (un+1) (fun gf tv wr=>∃ pre:List Fb,J pre wr∧pre.length+gf=un+1)
 case atStart=>exact ⟨[],H0.out,by simp⟩
 obtain ⟨pre,hj,hlen⟩:=hrel
 obtain ⟨hc0,⟨A,m,c,used,bs,hs,hmc,hr,hm,hmp⟩,hbe⟩:=HK.out pre wr hj
 obtain ⟨g,rfl⟩:∃ g,gk=g+1:=⟨gk-1,by omega⟩
 have HP:=hid (peek_p fb A m c used 1 wr hs hmc)
 have HJ:=hid hj
 have HH:=hid (And.intro hs (And.intro hr (And.intro hbe (And.intro hm hlen))))
 have h1n:1≤n:=by omega
 clear hj hs hr hbe hlen
 by_cases h0:m=0
 ·obtain ⟨fn,tmps,assign,body,hy,hR⟩:=HY.out pre ⟨0,10⟩ wr HJ.out ⟨A,m,c,used,bs,HH.out.1,HH.out.2.1,HH.out.2.2.2.1,.inr ⟨rfl,h0⟩⟩
  replace hy:(Instr.yield l #[.int .u8 0,.int .i64 10]).run Tryz.prog wr=.ok (.round l fn tmps assign body) wr:=hy
  rw [if_neg (by omega)] at HP
  clear hm hmp hmc h0
  gi_wp2_with (refine ⟨trivial,?_⟩;gi_at_call 45;refine (callsIn_wide.2 HP.out).mono ?_;rintro e w2 ⟨rfl,hw⟩;subst hw)
  refine hR.mono ?_
  rintro e W' (⟨rfl,hJ'⟩ | ⟨rfl,hJx'⟩)
  ·gi_wp2
   refine bodyPost_ret (results_none rfl _ _ _) rfl ?_
   exact ⟨⟨_,rfl⟩,.inl ⟨_,⟨pre,_,rfl,.inl (by decide)⟩,hJ'⟩⟩
  gi_wp2
  refine bodyPost_ret (results_none rfl _ _ _) rfl ?_
  exact ⟨⟨_,rfl⟩,.inr ⟨_,hJx'⟩⟩
 obtain ⟨ab,ao,rfl,hab,hcell⟩:=HH.out.2.1 (by omega)
 obtain ⟨c0,hc0'⟩:∃ c,(bs.getD 0 0).toNat=c:=⟨_,rfl⟩
 have b0:wr.cell? ⟨ab,ao,none⟩=some (.int .u8 (c0:Int)):=by rw [← hc0'];exact hcell 0 (by omega)
 obtain ⟨fn,tmps,assign,body,hy,hR⟩:=HY.out pre ⟨c0,0⟩ wr HJ.out ⟨_,m,c,used,bs,HH.out.1,HH.out.2.1,HH.out.2.2.2.1,.inl ⟨rfl,by omega,hc0'.symm⟩⟩
 replace hy:(Instr.yield l #[.int .u8 (c0:Int),.int .i64 0]).run Tryz.prog wr=.ok (.round l fn tmps assign body) wr:=hy
 rw [if_pos (by omega)] at HP
 clear hm hmp hmc h0 hc0' hcell
 gi_wp2_with (refine ⟨trivial,?_⟩;gi_at_call 45;refine (callsIn_wide.2 HP.out).mono ?_;rintro e w2 ⟨rfl,hw⟩;subst hw)
 refine hR.mono ?_
 rintro e W' (⟨rfl,hJ'⟩ | ⟨rfl,hJx'⟩)
 ·have hK':=HK.out _ W' hJ'
  have b1:W'.cell? ⟨ab,ao,none⟩=some (.int .u8 (c0:Int)):=((hK'.2.2.cell (p:=⟨ab,ao,none⟩) hab).trans (HH.out.2.2.1.cell (p:=⟨ab,ao,none⟩) hab).symm).trans b0
  have HJ':=hid hJ'
  clear hJ' hK' b0
  by_cases hz:c0=0
  ·subst hz
   gi_wp2
   refine bodyPost_ret (results_none rfl _ _ _) rfl ?_
   exact ⟨⟨_,rfl⟩,.inl ⟨_,⟨pre,_,rfl,.inr rfl⟩,HJ'.out⟩⟩
  have qz:((c0:Int)==0)=false:=beq_eq_false_iff_ne.2 (by omega)
  clear hz
  gi_wp2
  gi_roundg g
  case rel=>exact ⟨_,HJ'.out,by rw [List.length_append];have:=HH.out.2.2.2.2;simp;omega⟩
  case measure=>omega
 gi_wp2
 refine bodyPost_ret (results_none rfl _ _ _) rfl ?_
 exact ⟨⟨_,rfl⟩,.inr ⟨_,hJx'⟩⟩
open Go.RowKit Rng Win Lz Box
attribute [local go_sem] Oper.semAt_some
theorem xBlock_len {bud:Nat} {kind:Int} {told:Nat} {src o rest:List UInt8} {r:Nat×Nat} (h:xBlock bud kind told src=.ok o r rest):told+o.length≤16777216∨o=[]:=by
 unfold xBlock at h
 by_cases h0:src.length<hdLen src
 ·rw [if_pos h0] at h;cases h
 rw [if_neg h0] at h
 unfold xBody at h
 split at h
 ·cases h
 split at h
 ·cases h
 obtain ⟨S,hS⟩:∃ S,max (blockOf (src.take (hdLen src))).1.toNat 4096=S:=⟨_,rfl⟩
 rw [hS] at h
 have hl:=d2P_len S (16777216-told) (src.drop (hdLen src))
 cases hd:d2P S (16777216-told) (src.drop (hdLen src)) with
 | mk T R =>
  rw [hd] at h hl
  cases R with
  | inl e=>cases h
  | inr rr =>
   have hx:=xTail_front h
   rw [hx.1]
   have hl:T.length≤16777216-told:=hl
   by_cases ht:told≤16777216
   ·left;omega
   right;exact List.eq_nil_of_length_eq_zero (by omega)
theorem xNums_z {e:Nat}:∀ (l:List Nat) {s:List UInt8},xNums l s=.inl e→e≠0
 | [],s,h=>by cases h
 | n::l,s,h=>by
  rw [xNums_cons] at h
  cases hx:xNum n s with
  | inl z=>rw [hx] at h;injection h with h;exact h▸xNum_z hx
  | inr r=>rw [hx] at h;exact xNums_z l h
theorem xIndex_z {recs:List (Nat×Nat)} {s:List UInt8} {e:Nat} (h:xIndex recs s=.inl e):e≠0:=by
 unfold xIndex at h
 cases hx:xNums (recN recs) (s.drop 1) with
 | inl z=>rw [hx] at h;injection h with h;exact h▸xNums_z _ hx
 | inr r =>
  rw [hx] at h
  simp only at h
  split at h
  ·injection h with h;omega
  split at h
  ·injection h with h;omega
  cases h
theorem xIndex_size {recs:List (Nat×Nat)} {s r:List UInt8} {size:Nat} (h:xIndex recs s=.inr (size,r)):size≤s.length+8:=by
 unfold xIndex at h
 cases hx:xNums (recN recs) (s.drop 1) with
 | inl z=>rw [hx] at h;cases h
 | inr r =>
  rw [hx] at h
  simp only at h
  split at h
  ·cases h
  split at h
  ·cases h
  injection h with h
  injection h with h1 h2
  have:padOf (s.length-r.length)<4:=by unfold padOf;omega
  omega
theorem footOf_nat (bs:List UInt8):∃ k n e:Nat,footOf bs=((k:Int),n,(e:Int)):=by
 unfold footOf
 repeat' split
 ·exact ⟨0,0,10,rfl⟩
 ·exact ⟨0,0,11,rfl⟩
 ·exact ⟨0,0,12,rfl⟩
 exact ⟨_,_,0,rfl⟩
section
variable (w : World) (rb fb eb cb bud un B0 N0 : Nat) (put hold : Value) (kind : Int) (M0 : Nat → Prop) (J : (Nat → Prop) → List UInt8 → World → Prop) (XE : List UInt8 × (Nat ⊕ (List (Nat × Nat) × List UInt8)))
structure RnI (recs:List (Nat×Nat)) (out src:List UInt8) (lv:Value) (M:Nat→Prop) (W:World):Prop where
 r:RxAt W rb fb bud put hold kind out.length lv
 o:OwnPr W 121 B0 lv recs
 v:∀ q,lv.ownBlock=some q→¬ M q∧w.heap.size≤q
 s:∃ A n c used,SrcAt W fb A n c used∧used+n=un∧BRow W B0 A src∧n=src.length∧n≤c∧c≤maxLen
 j:J M out W
 m:∀ q,M q→(M0 q∨w.heap.size≤q)∧q≠rb∧q≠fb∧q≠eb∧q≠cb
 e:Pts W eb #[.int .i64 0] 32
 c:Pts W cb #[.pointer (some ⟨rb,0,none⟩)] 76
 f:Frm (fun q=>M0 q∨q=fb) w W
 x:∃ f,src.length<f∧XE=xBlocks bud kind f recs out src
 l:out.length≤16777216∧recs.length+src.length≤N0
 b:Below B0 w W
def RnL (pre:List Fb) (W:World):Prop :=
 ∃ recs out src lv M,RnI w rb fb eb cb bud un B0 N0 put hold kind M0 J XE recs out src lv M W∧src.length+pre.length≤un∧∀ x∈pre,x.e=0∧x.b≠0
def RnX (cd:Code) (pre:List Fb) (W:World):Prop :=
 (cd=.ret∧∃ out M z,z≠0∧XE=(out,.inl z)∧J M out W∧(∀ q,M q→(M0 q∨w.heap.size≤q)∧q≠eb)∧Pts W eb #[.int .i64 (z:Int)] 32∧Frm (fun q=>M0 q∨q=fb) w W) ∨
 (cd=.exit 0∧∃ recs out src lv M,RnI w rb fb eb cb bud un B0 N0 put hold kind M0 J XE recs out src lv M W∧1≤src.length∧src.getD 0 0=0)
end
section
variable {w W W' : World} {rb fb eb cb bud un B0 N0 fput most : Nat} {lb : Array Value} {put hold : Value} {kind : Int} {M0 M : Nat → Prop} {J : (Nat → Prop) → List UInt8 → World → Prop} {XE : List UInt8 × (Nat ⊕ (List (Nat × Nat) × List UInt8))} {recs : List (Nat × Nat)} {out src : List UInt8} {lv : Value} {pre : List Fb}
theorem OwnPr.cellsX {T base:Nat} {v:Value} {l:List (Nat×Nat)} (h:OwnPr W T base v l) {q:Nat} (hq:v.ownBlock=some q):∃ c t f,W.heap[q]?=some (.cells c t f):=by
 rcases h.2 with ⟨h3,_⟩ | ⟨g,cap,cur,h3,_,hh,_⟩
 ·rw [h3] at hq;cases hq
 rw [h3] at hq
 injection hq with hq
 subst hq
 exact ⟨_,_,_,hh⟩
theorem RnI.keepF {S:Nat→Prop} (hp:PutOk Tryz.prog fput lb B0 most J) (h:RnI w rb fb eb cb bud un B0 N0 put hold kind M0 J XE recs out src lv M W) (hf:Frm S W W') (hS:∀ q,S q→w.heap.size≤q∧∀ c t f,W.heap[q]?≠some (.cells c t f)) (hB0:B0≤w.heap.size):RnI w rb fb eb cb bud un B0 N0 put hold kind M0 J XE recs out src lv M W':=by
 have hn:∀ {q:Nat} {c:Array Value} {t:TypeId},Pts W q c t→¬ S q:=fun hq hs=>(hS _ hs).2 _ _ _ hq
 obtain ⟨A,n,c,used,hs,h1,h2,h3⟩:=h.s
 have hBW:Below B0 W W':=hf.below (Nat.le_trans hB0 h.f.size) (fun q hq=>Nat.le_trans hB0 (hS q hq).1)
 exact ⟨Pts.frm h.r hf (hn h.r),h.o.frm hf (fun q hq hs=>by obtain ⟨c,t,f,hc⟩:=h.o.cellsX hq;exact (hS q hs).2 _ _ _ hc),h.v,⟨A,n,c,used,Pts.frm hs hf (hn hs),h1,h2.below hBW,h3⟩,
  hp.keep M _ W W' h.j (hf.mono fun q _ hq hm=>by obtain ⟨_,c,t,f,hc⟩:=hp.own M _ W h.j q hm;exact (hS q hq).2 _ _ _ hc),h.m,h.e.frm hf (hn h.e),h.c.frm hf (hn h.c),h.f.transW hf (fun q hq hlt=>by have:=(hS q hq).1;omega),h.x,h.l,h.b.trans hBW⟩
theorem frm_put {l:Nat} {o o':Obj} (ho:W.heap[l]?=some o) (hc:o.isCells=false) (hl:w.heap.size≤l):Frm (fun q=>q=l) W (W.putObj l o')∧∀ q,q=l→w.heap.size≤q∧∀ c t f,W.heap[q]?≠some (.cells c t f):=by
 refine ⟨(Frm.refl _ W).putObj (S:=fun q=>q=l) rfl o',fun q hq=>⟨by omega,fun c t f h=>?_⟩⟩
 subst hq
 rw [ho] at h
 injection h with h
 rw [h] at hc
 cases hc
theorem RnL.upd (hp:PutOk Tryz.prog fput lb B0 most J) (h:RnL w rb fb eb cb bud un B0 N0 put hold kind M0 J XE pre W) {l:Nat} {o o':Obj} (hl:w.heap.size≤l) (ho:W.heap[l]?=some o) (hc:o.isCells=false) (hB0:B0≤w.heap.size):RnL w rb fb eb cb bud un B0 N0 put hold kind M0 J XE pre (W.putObj l o'):=by
 obtain ⟨recs,out,src,lv,M,h1,h2,h3⟩:=h
 obtain ⟨k1,k2⟩:=frm_put (w:=w) (o':=o') ho hc hl
 exact ⟨recs,out,src,lv,M,h1.keepF hp k1 k2 hB0,h2,h3⟩
theorem RnL.alloc (hp:PutOk Tryz.prog fput lb B0 most J) (h:RnL w rb fb eb cb bud un B0 N0 put hold kind M0 J XE pre W) (o:Obj) (hB0:B0≤w.heap.size):RnL w rb fb eb cb bud un B0 N0 put hold kind M0 J XE pre (W.alloc o):=by
 obtain ⟨recs,out,src,lv,M,h1,h2,h3⟩:=h
 exact ⟨recs,out,src,lv,M,h1.keepF (S:=fun _=>False) hp ((Frm.refl _ W).alloc o) (fun _ h=>h.elim) hB0,h2,h3⟩
theorem RnX.upd (hp:PutOk Tryz.prog fput lb B0 most J) {cd:Code} (h:RnX w rb fb eb cb bud un B0 N0 put hold kind M0 J XE cd pre W) {l:Nat} {o o':Obj} (hl:w.heap.size≤l) (ho:W.heap[l]?=some o) (hc:o.isCells=false) (hB0:B0≤w.heap.size):RnX w rb fb eb cb bud un B0 N0 put hold kind M0 J XE cd pre (W.putObj l o'):=by
 obtain ⟨k1,k2⟩:=frm_put (w:=w) (o':=o') ho hc hl
 rcases h with ⟨e,out,M,z,h1,h2,h3,h4,h5,h6⟩ | ⟨e,recs,out,src,lv,M,h1,h2⟩
 ·refine .inl ⟨e,out,M,z,h1,h2,hp.keep M _ W _ h3 (k1.mono fun q _ hq hm=>?_),h4,h5.frm k1 (fun e=>(k2 _ e).2 _ _ _ h5),h6.transW k1 (fun q hq hlt=>by have:=(k2 q hq).1;omega)⟩
  obtain ⟨_,c,t,f,hcc⟩:=hp.own M _ W h3 q hm
  exact (k2 q hq).2 _ _ _ hcc
 exact .inr ⟨e,recs,out,src,lv,M,h1.keepF hp k1 k2 hB0,h2⟩
theorem RnL.k (h:RnL w rb fb eb cb bud un B0 N0 put hold kind M0 J XE pre W):FbK w rb fb B0 un pre W:=by
 obtain ⟨recs,out,src,lv,M,h1,h2,h3⟩:=h
 obtain ⟨A,n,c,used,hs,k1,k2,k3,k4,k5⟩:=h1.s
 exact ⟨h1.r.cells.1,⟨A,n,c,used,src,hs,k4,k2,k3,by omega⟩,h1.b⟩
theorem RnI.next (hp:PutOk Tryz.prog fput lb B0 most J) (h:RnI w rb fb eb cb bud un B0 N0 put hold kind M0 J XE recs out src lv M W) {e:Ending} (hB:BlkXEnd rb fb un B0 bud put hold kind J M lv recs out (xBlock bud kind out.length src) W e W') (hb:src.getD 0 0≠0) (h1:1≤src.length) (hB0:B0≤w.heap.size) (hrb:w.heap.size≤rb) (hfbB:B0≤fb) :
 (∀ q,q<W.heap.size→(∀ c t f,W.heap[q]?≠some (.cells c t f))→W'.heap[q]?=W.heap[q]?) ∧
 ((∃ z:Nat,z≠0∧e=.returned (.int .i64 (z:Int))∧Pts W' eb #[.int .i64 0] 32∧∃ out' M',XE=(out',.inl z)∧J M' out' W'∧(∀ q,M' q→(M0 q∨w.heap.size≤q)∧q≠eb)∧Frm (fun q=>M0 q∨q=fb) w W') ∨
  (e=.returned (.int .i64 0)∧∃ recs' out' src' lv' M',RnI w rb fb eb cb bud un B0 N0 put hold kind M0 J XE recs' out' src' lv' M' W'∧src'.length+1≤src.length)):=by
 obtain ⟨hf,M',hM',hE⟩:=hB
 obtain ⟨A,n,c,used,hs,k1,k2,k3,k4,k5⟩:=h.s
 have hcells:∀ q,(M q∨q=fb∨q=rb∨lv.ownBlock=some q)→∃ c t f,W.heap[q]?=some (.cells c t f):=fun q hq=>by
  rcases hq with e | e | e | e
  ·exact (hp.own M _ W h.j q e).2
  ·subst e;exact ⟨_,_,_,hs⟩
  ·subst e;exact ⟨_,_,_,h.r⟩
  exact h.o.cellsX e
 have hty:∀ {q:Nat} {c:Array Value} {T':TypeId},lv.ownBlock=some q→Pts W q c T'→(121:Nat)=T':=fun {q c T'} hq hpp=>by
  rcases h.o.2 with ⟨h3,_⟩ | ⟨g,cap,cur,h3,_,hh,_⟩
  ·rw [h3] at hq;cases hq
  rw [h3] at hq
  injection hq with hq
  subst hq
  have h9:W.heap[g]?=some (.cells cur 121 (0,0)):=hh
  unfold Pts at hpp
  rw [h9] at hpp
  injection hpp with hpp
  injection hpp
 have hne:¬ (M eb∨eb=fb∨eb=rb∨lv.ownBlock=some eb):=by
  rintro (e | e | e | e)
  ·exact (h.m _ e).2.2.2.1 rfl
  ·exact h.e.ne_of hs (by decide) e
  ·exact h.e.ne_of h.r (by decide) e
  exact absurd (hty e h.e) (by decide)
 have hnc:¬ (M cb∨cb=fb∨cb=rb∨lv.ownBlock=some cb):=by
  rintro (e | e | e | e)
  ·exact (h.m _ e).2.2.2.2 rfl
  ·exact h.c.ne_of hs (by decide) e
  ·exact h.c.ne_of h.r (by decide) e
  exact absurd (hty e h.c) (by decide)
 have he':=h.e.frm hf hne
 have hc':=h.c.frm hf hnc
 have hel:=h.e.lt
 have hcl:=h.c.lt
 have hrl:=Pts.lt h.r
 have hfl:=Pts.lt hs
 have hw:=h.f.size
 have hM2:∀ q,M' q→(M0 q∨w.heap.size≤q)∧q≠rb∧q≠fb∧q≠eb∧q≠cb:=fun q hq=>by
  rcases hM' q hq with e | e
  ·exact h.m q e
  exact ⟨.inr (by omega),by omega,by omega,by omega,by omega⟩
 have hfw:Frm (fun q=>M0 q∨q=fb) w W':=h.f.transW hf (fun q hq hlt=>by
  rcases hq with e | e | e | e
  ·rcases (h.m q e).1 with e2 | e2
   ·exact .inl e2
   omega
  ·exact .inr e
  ·omega
  have:=(h.v q e).2;omega)
 have hBW:Below B0 W W':=hf.below (Nat.le_trans hB0 hw) (fun q hq=>by
  rcases hq with e | e | e | e
  ·exact (hp.own M _ W h.j q e).1
  ·omega
  ·omega
  exact (h.o.lt e).1)
 refine ⟨fun q hq hnq=>hf.block q hq (fun hS=>by obtain ⟨c,t,f,hc⟩:=hcells q hS;exact hnq _ _ _ hc),?_⟩
 obtain ⟨f,hlf,hXE⟩:=h.x
 obtain ⟨f',rfl⟩:∃ f',f=f'+1:=⟨f-1,by omega⟩
 have hXE2:XE=match xBlock bud kind out.length src with
  | .err e o=>(out++o,.inl e)
  | .ok o r rest=>xBlocks bud kind f' (recs++[r]) (out++o) rest:=by
  rw [hXE]
  conv=>lhs;unfold xBlocks
  rw [if_neg (by omega),if_neg hb]
  cases xBlock bud kind out.length src <;> rfl
 cases hx:xBlock bud kind out.length src with
 | err z o =>
  rw [hx] at hE hXE2
  obtain ⟨hz,rfl,hj⟩:=hE
  exact .inl ⟨z,hz,rfl,he',out++o,M',hXE2,hj,fun q hq=>⟨(hM2 q hq).1,(hM2 q hq).2.2.2.1⟩,hfw⟩
 | ok o r rest =>
  rw [hx] at hE hXE2
  obtain ⟨rfl,hj,lv',hr',ho',hv',A',n',c',used',hs',g1,g2,g3,g4,g5⟩:=hE
  obtain ⟨m,hm1,hm2,hrest,_⟩:=xBlock_front hx
  have hrl2:rest.length=src.length-m:=by rw [hrest,List.length_drop]
  have hol:=xBlock_len hx
  refine .inr ⟨rfl,recs++[r],out++o,rest,lv',M',⟨hr',ho',fun q hq=>⟨(hv' q hq).1,?_⟩,⟨A',n',c',used',hs',g1,g2,g3,g4,g5⟩,hj,hM2,he',hc',hfw,⟨f',by omega,hXE2⟩,⟨?_,?_⟩,h.b.trans hBW⟩,by omega⟩
  ·rcases (hv' q hq).2 with e | e
   ·exact (h.v q e).2
   omega
  ·have:=h.l.1
   rw [List.length_append]
   rcases hol with e | e
   ·exact e
   rw [e];simp;omega
  have:=h.l.2
  rw [List.length_append]
  simp only [List.length_cons,List.length_nil]
  omega
end
end Go.Proofs.YtablgjhnpphodaaGreat
