import Derived.Test.YtffehfpbdcokbaaGreatBu27
import Derived.Test.YtffehfpbdcokbaaGreatBu28
import Derived.Test.YtffehfpbdcokbaaGreatBu31
import Derived.Test.YtffehfpbdcokbaaGreatBu33
import Derived.Test.YtffehfpbdcokbaaGreatBu34
set_option linter.unusedVariables false
set_option linter.unusedSimpArgs false
namespace Go.Proofs.YtffehfpbdcokbaaGreat
open Lib (hid)
open Go.RowKit Rng Win Lz
theorem SumAt.frmX {w w':World} {s:Nat} {own:Nat→Prop} {kind:Int} {all:List UInt8} {S:Nat→Prop} (h:SumAt w s own kind all) (hf:Frm S w w') (hn:∀ k,own k→¬ S k):SumAt w' s own kind all:=by
 cases h with
 | crc32 c hk hs hc ho hne=>exact .crc32 c hk (hs.frm hf (hn _ ((ho _).2 (.inl rfl)))) (Pts.frm hc hf (hn _ ((ho _).2 (.inr rfl)))) ho hne
 | crc64 c hk hs hc ho hne=>exact .crc64 c hk (hs.frm hf (hn _ ((ho _).2 (.inl rfl)))) (Pts.frm hc hf (hn _ ((ho _).2 (.inr rfl)))) ho hne
 | xxh64 c v hk hs hc ho hne =>
  exact .xxh64 c v hk (hs.frm hf (hn _ ((ho _).2 (.inl rfl)))) ⟨hc.1.frm hf (hn _ ((ho _).2 (.inr (.inl rfl)))),hc.2.frm hf fun k hk=>hn _ ((ho _).2 (.inr (.inr hk)))⟩ ho hne
 | none hk hs ho=>exact .none hk (hs.frm hf (hn _ ((ho _).2 rfl))) ho
theorem SumAt.cellsX {w:World} {s:Nat} {own:Nat→Prop} {kind:Int} {all:List UInt8} (h:SumAt w s own kind all):∀ k,own k→∃ c t f,w.heap[k]?=some (.cells c t f):=by
 intro k hk
 cases h with
 | crc32 c _ hs hc ho hne=>rcases (ho k).1 hk with rfl | rfl;exact ⟨_,_,_,hs⟩;exact ⟨_,_,_,hc⟩
 | crc64 c _ hs hc ho hne=>rcases (ho k).1 hk with rfl | rfl;exact ⟨_,_,_,hs⟩;exact ⟨_,_,_,hc⟩
 | xxh64 c v _ hs hc ho hne =>
  rcases (ho k).1 hk with rfl | rfl | h1
  ·exact ⟨_,_,_,hs⟩
  ·exact ⟨_,_,_,hc.1⟩
  ·rcases hc.2.form with ⟨h2,_⟩ | ⟨g,cap,cur,h2,_,hh,_⟩
   ·rw [h2] at h1;cases h1
   ·rw [h2] at h1
    injection h1 with h1
    subst h1
    exact ⟨_,_,_,hh⟩
 | none _ hs ho=>rw [(ho k).1 hk];exact ⟨_,_,_,hs⟩
theorem lt_of_cells {w:World} {q:Nat} (h:∃ c t f,w.heap[q]?=some (.cells c t f)):q<w.heap.size:=by
 obtain ⟨_,_,_,h⟩:=h
 exact (Array.getElem?_eq_some_iff.1 h).1
theorem chkK_cases (k:Int):chkK k=1∨chkK k=2∨chkK k=0:=by
 unfold chkK
 repeat' split
 ·exact .inl rfl
 ·exact .inr (.inl rfl)
 exact .inr (.inr rfl)
section
variable (nb sc bx rb fb bud : Nat) (put hold : Value) (kind : Int) (told : Nat) (lv : Value) (out : List UInt8) (B0 : Nat) (J : (Nat → Prop) → List UInt8 → World → Prop)
structure JBx (Mi own:Nat→Prop) (sb:Nat) (T:List UInt8) (W:World):Prop where
 n:Pts W nb #[.int .i64 (T.length:Int)] 3
 s:Pts W sc #[.iface 223 (.pointer (some ⟨sb,0,none⟩))] 187
 x:Pts W bx #[.pointer (some ⟨rb,0,none⟩)] 89
 r:RxAt W rb fb bud put hold kind told lv
 u:SumAt W sb own (chkK kind) T
 j:J Mi (out++T) W
 o:∀ q,own q→B0≤q∧¬ Mi q∧q≠nb∧q≠sc∧q≠bx∧q≠rb
 m:∀ q,Mi q→q≠nb∧q≠sc∧q≠bx∧q≠rb
def JB (M:Nat→Prop) (T:List UInt8) (W:World):Prop :=
 ∃ Mi own sb,JBx nb sc bx rb fb bud put hold kind told lv out B0 J Mi own sb T W∧∀ q,M q↔(q=nb∨q=sc∨q=bx∨q=rb∨own q∨Mi q)
end
section
variable {nb sc bx rb fb bud : Nat} {put hold : Value} {kind : Int} {told : Nat} {lv : Value} {out : List UInt8} {B0 : Nat} {J : (Nat → Prop) → List UInt8 → World → Prop} {Mi own : Nat → Prop} {sb : Nat} {T : List UInt8} {W : World}
theorem JBx.ne (h:JBx nb sc bx rb fb bud put hold kind told lv out B0 J Mi own sb T W):nb≠sc∧nb≠bx∧nb≠rb∧sc≠bx∧sc≠rb∧bx≠rb :=
 ⟨h.n.ne_of h.s (by decide),h.n.ne_of h.x (by decide),h.n.ne_of h.r (by decide),h.s.ne_of h.x (by decide),h.s.ne_of h.r (by decide),h.x.ne_of h.r (by decide)⟩
end
theorem meth_sA (a : Addr) (w : World) : (method 409 223 (.pointer (some a)) "Add").run Tryz.prog w = .ok (168, .pointer (some a)) w := by kernel_rfl
theorem meth_sV (a : Addr) (w : World) : (method 409 223 (.pointer (some a)) "Value").run Tryz.prog w = .ok (169, .pointer (some a)) w := by kernel_rfl
theorem BRow.below' {w w':World} {B:Nat} {A:Option Addr} {bs:List UInt8} {N:Nat→Prop} (h:BRow w B A bs) (hf:Frm N w w') (hN:BOff N A bs):BRow w' B A bs:=by
 intro hn
 obtain ⟨c,off,rfl,hlt,hcell⟩:=h hn
 exact ⟨c,off,rfl,hlt,fun k hk=>(World.cell?_of_block (w:=w) (hf.block c (World.block_lt_of_cell? w ⟨c,off+k,none⟩ (hcell k hk)) (hN hn _ rfl))).trans (hcell k hk)⟩
theorem row_off {W:World} {B q:Nat} {Ab:Option Addr} {b:List UInt8} {c:Array Value} {t:TypeId} {f:Nat×Nat} (hr:BRow W B Ab b) (hq:W.heap[q]?=some (.cells c t f)) (hc:∀ (k:Nat) (z:Int),c[k]?≠some (Value.int .u8 z)):0<b.length→∀ ad,Ab=some ad→ad.block≠q:=by
 intro h0 ad hA e
 obtain ⟨bl,off,rfl,hlt,hcell⟩:=hr h0
 injection hA with hA
 subst hA
 have e:bl=q:=e
 subst e
 have h1:=hcell 0 h0
 unfold World.cell? at h1
 simp only [hq] at h1
 exact hc _ _ (by simpa [byteV] using h1)
theorem crcCells_u64 (n all:Int) (tab:Nat→Int):∀ (k:Nat) (z:Int),(crcCells n all tab)[k]?≠some (Value.int .u8 z):=by
 intro k z
 rcases Nat.lt_or_ge k 2 with h2 | h2
 ·have hk:k=0∨k=1:=by omega
  rcases hk with rfl | rfl
  ·rw [crcCells_0];simp
  rw [crcCells_1];simp
 obtain ⟨j,rfl⟩:∃ j,k=2+j:=⟨k-2,by omega⟩
 by_cases hk:j<256
 ·rw [crcCells_2 _ _ _ _ hk];simp
 intro h
 have:=(Array.getElem?_eq_some_iff.1 h).1
 simp [crcCells] at this
 omega
theorem one_no8 (v:Value) (hv:∀ z,v≠Value.int .u8 z):∀ (k:Nat) (z:Int),(#[v]:Array Value)[k]?≠some (Value.int .u8 z):=by
 intro k z h
 rcases Nat.eq_zero_or_pos k with rfl | hk
 ·injection h with h;exact hv z h
 have:=(Array.getElem?_eq_some_iff.1 h).1
 simp at this
 omega
theorem sum_off {W:World} {B s:Nat} {own:Nat→Prop} {kind:Int} {all b:List UInt8} {Ab:Option Addr} (hk:kind=1∨kind=2∨kind=0) (h:SumAt W s own kind all) (hr:BRow W B Ab b):BOff own Ab b:=by
 intro h0 ad hA hq
 cases h with
 | crc32 c hk hs hc ho hne =>
  rcases (ho _).1 hq with e | e
  ·exact row_off hr hs (one_no8 _ (fun z h=>by cases h)) h0 ad hA e
  ·exact row_off hr hc (crcCells_u64 _ _ _) h0 ad hA e
 | crc64 c hk hs hc ho hne =>
  rcases (ho _).1 hq with e | e
  ·exact row_off hr hs (one_no8 _ (fun z h=>by cases h)) h0 ad hA e
  ·exact row_off hr hc (crcCells_u64 _ _ _) h0 ad hA e
 | xxh64 c v hk2 hs hc ho hne=>omega
 | none hk hs ho=>exact row_off hr hs (one_no8 _ (fun z h=>by cases h)) h0 ad hA ((ho _).1 hq)
set_option maxRecDepth 100000 in
set_option maxHeartbeats 2000000 in
theorem blk1_p (nb sc bx rb fb bud fput B0 BO most:Nat) (lb:Array Value) (hold:Value) (kind:Int) (told:Nat) (lv:Value) (out T b:List UInt8) (J:(Nat→Prop)→List UInt8→World→Prop) (Mi own:Nat→Prop) (sb:Nat) (Ab:Option Addr) (cb:Nat) (W:World)
 (hp:PutOk Tryz.prog fput lb B0 most J) (h:JBx nb sc bx rb fb bud (.func (.func fput) #[] lb) hold kind told lv out BO J Mi own sb T W) (hr:BRow W W.heap.size Ab b) (hbc:b.length≤cb) (hcm:cb≤maxLen) (hl:out.length+(T.length+b.length)≤most) (hm:most≤16777216) (hB0:BO≤W.heap.size) :
 Calls Tryz.prog 91 #[.slice Ab b.length cb,.pointer (some ⟨nb,0,none⟩),.pointer (some ⟨sc,0,none⟩),.pointer (some ⟨bx,0,none⟩)] W fun e W'=>e=.returned (.bool true)∧∃ Mi' own',JBx nb sc bx rb fb bud (.func (.func fput) #[] lb) hold kind told lv out BO J Mi' own' sb (T++b) W' ∧
  Frm (fun q=>q=nb∨own q∨Mi q) W W'∧(∀ q,Mi' q→Mi q∨(W.heap.size≤q∧q<W'.heap.size))∧(∀ q,own' q→own q∨(W.heap.size≤q∧q<W'.heap.size)):=by
 have H:=hid h
 have HP:=hid hp
 have hoff1:BOff (fun q=>q=nb) Ab b:=fun h0 ad hA e=>row_off hr h.n (one_no8 _ (fun z h=>by cases h)) h0 ad hA e
 have hoff2:=sum_off (chkK_cases kind) h.u hr
 have HR:Hid (BRow W W.heap.size Ab b∧BOff (fun q=>q=nb) Ab b∧BOff own Ab b):=hid ⟨hr,hoff1,hoff2⟩
 have HH:Hid (b.length≤cb∧cb≤maxLen∧out.length+(T.length+b.length)≤most∧most≤16777216∧BO≤W.heap.size):=hid ⟨hbc,hcm,hl,hm,hB0⟩
 have cn:W.cell? ⟨nb,0,none⟩=some (.int .i64 (T.length:Int)):=by rw [h.n.cell];rfl
 have zn:=h.n.frozen 0
 obtain ⟨n1,n2,n3,n4,n5,n6⟩:=h.ne
 obtain ⟨W1,hW1⟩:∃ W1,W.setCell ⟨nb,0,none⟩ (.int .i64 ((T.length+b.length:Nat):Int))=W1:=⟨_,rfl⟩
 have hf1:Frm (fun q=>q=nb) W W1:=by rw [← hW1];exact (Frm.refl (fun q=>q=nb) W).setCell (p:=⟨nb,0,none⟩) rfl _
 have hz1:W1.heap.size=W.heap.size:=by rw [← hW1];simp [World.setCell]
 have hn1:Pts W1 nb #[.int .i64 ((T.length+b.length:Nat):Int)] 3:=by rw [← hW1];exact h.n.set 0 _
 have hs1:=h.s.frm hf1 (fun e=>n1 e.symm)
 have hx1:=h.x.frm hf1 (fun e=>n2 e.symm)
 have hr1:RxAt W1 rb fb bud (.func (.func fput) #[] lb) hold kind told lv:=Pts.frm h.r hf1 (fun e=>n3 e.symm)
 have hu1:=h.u.frmX hf1 (fun q hq e=>(h.o q hq).2.2.1 e)
 have hj1:=hp.keep Mi _ W W1 h.j (hf1.mono fun q _ e hm=>(h.m q hm).1 e)
 have hb1:BRow W1 W.heap.size Ab b:=hr.off hoff1 hf1
 have hs1c:W1.cell? ⟨sc,0,none⟩=some (.iface 223 (.pointer (some ⟨sb,0,none⟩))):=by rw [hs1.cell];rfl
 have HA:=hid (add_crc sb own (chkK kind) T Ab b b.length cb W.heap.size W1 hu1 (by unfold chkK;split <;> (try split) <;> decide) rfl hb1 hoff2 (by omega))
 have H1:Hid (Frm (fun q=>q=nb) W W1∧W1.heap.size=W.heap.size∧Pts W1 nb #[.int .i64 ((T.length+b.length:Nat):Int)] 3∧Pts W1 sc #[.iface 223 (.pointer (some ⟨sb,0,none⟩))] 187∧Pts W1 bx #[.pointer (some ⟨rb,0,none⟩)] 89∧RxAt W1 rb fb bud (.func (.func fput) #[] lb) hold kind told lv∧J Mi (out++T) W1∧BRow W1 W.heap.size Ab b):=hid ⟨hf1,hz1,hn1,hs1,hx1,hr1,hj1,hb1⟩
 have hi:IntKind.i64.wrap ((T.length:Int)+(b.length:Int))=((T.length+b.length:Nat):Int):=by rw [Go.IntWalk.i64_in _ (by omega)];omega
 obtain ⟨L,hL⟩:∃ L,T.length+b.length=L:=⟨_,rfl⟩
 have HL:=hid hL
 obtain ⟨tl,htl⟩:∃ tl,T.length=tl:=⟨_,rfl⟩
 rw [hL] at hi H1 hW1
 rw [htl] at hi cn
 have mA:=meth_sA
 obtain ⟨bl,hbl⟩:∃ bl,b.length=bl:=⟨_,rfl⟩
 have HBL:=hid (And.intro htl hbl)
 rw [hbl] at HA hi
 rw [hbl]
 clear h hp hr hoff1 hoff2 hbc hcm hl hm hB0 n1 n2 n3 n4 n5 n6 hf1 hz1 hn1 hs1 hx1 hr1 hu1 hj1 hb1 hL htl hbl
 go_enter Tryz.func91,Tryz.ntmps91
 go_wp2_with fail
 refine HA.out.mono ?_;rintro e w2 ⟨rfl,own',hu2,ho2,hf2⟩
 have hn2:=H1.out.2.2.1.frm hf2 (fun hq=>(H.out.o _ hq).2.2.1 rfl)
 have hs2:=H1.out.2.2.2.1.frm hf2 (fun hq=>(H.out.o _ hq).2.2.2.1 rfl)
 have hx2:=H1.out.2.2.2.2.1.frm hf2 (fun hq=>(H.out.o _ hq).2.2.2.2.1 rfl)
 have hr2:RxAt w2 rb fb bud (.func (.func fput) #[] lb) hold kind told lv:=Pts.frm H1.out.2.2.2.2.2.1 hf2 (fun hq=>(H.out.o _ hq).2.2.2.2.2 rfl)
 have hj2:=HP.out.keep Mi _ W1 w2 H1.out.2.2.2.2.2.2.1 (hf2.mono fun q _ hq hm=>(H.out.o q hq).2.1 hm)
 have hb2:BRow w2 w2.heap.size Ab b:=(H1.out.2.2.2.2.2.2.2.below' hf2 HR.out.2.2).more (by have:=hf2.size;have:=H1.out.2.1;omega)
 have hxc:w2.cell? ⟨bx,0,none⟩=some (.pointer (some ⟨rb,0,none⟩)):=by rw [hx2.cell];rfl
 have hrc:w2.cell? ⟨rb,2,none⟩=some (.func (.func fput) #[] lb):=hr2.cells.2.2.1
 have H2:Hid (Pts w2 nb #[.int .i64 (L:Int)] 3∧Pts w2 sc #[.iface 223 (.pointer (some ⟨sb,0,none⟩))] 187∧Pts w2 bx #[.pointer (some ⟨rb,0,none⟩)] 89∧RxAt w2 rb fb bud (.func (.func fput) #[] lb) hold kind told lv∧SumAt w2 sb own' (chkK kind) (T++b)∧(∀ k,own' k→own k∨W1.heap.size≤k)∧Frm own W1 w2):=hid ⟨hn2,hs2,hx2,hr2,hu2,ho2,hf2⟩
 have HC:=HP.out.call Mi (out++T) b Ab cb w2 hj2 hb2 HH.out.1 HH.out.2.1 (by rw [List.length_append];have:=HH.out.2.2.1;omega)
 rw [HBL.out.2] at HC
 have HCC:=hid HC
 have hent:=HP.out.ent
 clear hn2 hs2 hx2 hr2 hj2 hb2 hu2 ho2 hf2 HC HA
 go_wp2
 refine HCC.out.mono ?_;rintro e w3 ⟨rfl,Mi',hj3,hf3,hm3⟩
 have hm2:∀ q,Mi q→q<W1.heap.size:=HP.out.lt H1.out.2.2.2.2.2.2.1
 have ho1:∀ q,own q→q<W.heap.size:=fun q hq=>lt_of_cells (H.out.u.cellsX q hq)
 have ho2:∀ q,own' q→q<w2.heap.size:=fun q hq=>lt_of_cells (H2.out.2.2.2.2.1.cellsX q hq)
 have hz12:=H2.out.2.2.2.2.2.2.size
 have hz1:=H1.out.2.1
 have hz23:=hf3.size
 have hnl:=H.out.n.lt
 have hsl:=H.out.s.lt
 have hxl:=H.out.x.lt
 have hrl:=Pts.lt H.out.r
 have hoM:∀ q,own' q→¬ Mi q:=fun q hq hm=>by
  rcases H2.out.2.2.2.2.2.1 q hq with h1 | h1
  ·exact (H.out.o q h1).2.1 hm
  have:=hm2 q hm;omega
 have hJ3:JBx nb sc bx rb fb bud (.func (.func fput) #[] lb) hold kind told lv out BO J Mi' own' sb (T++b) w3:=by
  refine ⟨?_,H2.out.2.1.frm hf3 (fun hm=>(H.out.m _ hm).2.1 rfl),H2.out.2.2.1.frm hf3 (fun hm=>(H.out.m _ hm).2.2.1 rfl),Pts.frm H2.out.2.2.2.1 hf3 (fun hm=>(H.out.m _ hm).2.2.2 rfl),H2.out.2.2.2.2.1.frmX hf3 hoM,by rw [← List.append_assoc];exact hj3,fun q hq=>?_,fun q hq=>?_⟩
  ·have h3:=H2.out.1.frm hf3 (fun hm=>(H.out.m _ hm).1 rfl)
   rw [← HL.out,← List.length_append] at h3
   exact h3
  ·refine ⟨?_,fun hm=>?_,?_⟩
   ·rcases H2.out.2.2.2.2.2.1 q hq with h1 | h1
    ·exact (H.out.o q h1).1
    have:=HH.out.2.2.2.2;omega
   ·rcases hm3 q hm with h1 | h1
    ·exact hoM q hq h1
    have:=ho2 q hq;omega
   rcases H2.out.2.2.2.2.2.1 q hq with h1 | h1
   ·exact (H.out.o q h1).2.2
   exact ⟨by omega,by omega,by omega,by omega⟩
  rcases hm3 q hq with h1 | h1
  ·exact H.out.m q h1
  exact ⟨by omega,by omega,by omega,by omega⟩
 have hF3:Frm (fun q=>q=nb∨own q∨Mi q) W w3 :=
  ((H1.out.1.mono (S':=fun q=>q=nb∨own q∨Mi q) fun q _ h=>.inl h).trans (H2.out.2.2.2.2.2.2.mono fun q _ h=>.inr (.inl h))).trans (hf3.mono fun q _ h=>.inr (.inr h))
 have hM3:∀ q,Mi' q→Mi q∨(W.heap.size≤q∧q<w3.heap.size):=fun q hq=>(hm3 q hq).imp id (fun h=>⟨by omega,h.2⟩)
 have hO3:∀ q,own' q→own q∨(W.heap.size≤q∧q<w3.heap.size):=fun q hq=>(H2.out.2.2.2.2.2.1 q hq).imp id (fun h=>⟨by omega,by have:=ho2 q hq;omega⟩)
 have FIN:=hid (And.intro hJ3 (And.intro hF3 (And.intro hM3 hO3)))
 clear hJ3 hF3 hM3 hO3 hoM ho1 ho2 hm2 hm3 hf3 hj3 hent hxc hrc
 go_wp2
 go_ret
 exact ⟨rfl,Mi',own',FIN.out.1,FIN.out.2.1,FIN.out.2.2.1,FIN.out.2.2.2⟩
theorem blk1_ok (nb sc bx rb fb bud fput B0 BO most most':Nat) (lb:Array Value) (hold:Value) (kind:Int) (told:Nat) (lv:Value) (out:List UInt8) (J:(Nat→Prop)→List UInt8→World→Prop)
 (hp:PutOk Tryz.prog fput lb B0 most J) (hl:out.length+most'≤most) (hm:most≤16777216) (h0:B0≤BO) (h1:BO≤nb) (h2:B0≤sc) (h3:B0≤bx) (h4:B0≤rb) :
 PutOk Tryz.prog 91 #[.pointer (some ⟨nb,0,none⟩),.pointer (some ⟨sc,0,none⟩),.pointer (some ⟨bx,0,none⟩)] B0 most' (JB nb sc bx rb fb bud (.func (.func fput) #[] lb) hold kind told lv out BO J) where
 ent:=enters_of Tryz.func91 (by kernel_rfl) rfl
 keep:=by
  rintro M T W W' ⟨Mi,own,sb,h,hM⟩ hf
  have hk:∀ q,(q=nb∨q=sc∨q=bx∨q=rb∨own q∨Mi q)→¬ ¬ M q:=fun q hq hn=>hn ((hM q).2 hq)
  refine ⟨Mi,own,sb,⟨h.n.frm hf (hk _ (.inl rfl)),h.s.frm hf (hk _ (.inr (.inl rfl))),h.x.frm hf (hk _ (.inr (.inr (.inl rfl)))),Pts.frm h.r hf (hk _ (.inr (.inr (.inr (.inl rfl))))),h.u.frmX hf (fun q hq=>hk q (.inr (.inr (.inr (.inr (.inl hq)))))),hp.keep Mi _ W W' h.j (hf.mono fun q _ hn hm=>hn ((hM q).2 (.inr (.inr (.inr (.inr (.inr hm))))))),h.o,h.m⟩,hM⟩
 own:=by
  rintro M T W ⟨Mi,own,sb,h,hM⟩ q hq
  rcases (hM q).1 hq with e | e | e | e | e | e
  ·subst e;exact ⟨Nat.le_trans h0 h1,_,_,_,h.n⟩
  ·subst e;exact ⟨h2,_,_,_,h.s⟩
  ·subst e;exact ⟨h3,_,_,_,h.x⟩
  ·subst e;exact ⟨h4,_,_,_,h.r⟩
  ·exact ⟨Nat.le_trans h0 (h.o q e).1,h.u.cellsX q e⟩
  exact hp.own Mi _ W h.j q e
 call:=by
  rintro M T b Ab cb W ⟨Mi,own,sb,h,hM⟩ hr hbc hcm hl2
  refine (blk1_p nb sc bx rb fb bud fput B0 BO most lb hold kind told lv out T b J Mi own sb Ab cb W hp h hr hbc hcm (by omega) hm (by have:=h.n.lt;omega)).mono ?_
  rintro e W' ⟨rfl,Mi',own',h',hf,hm',ho'⟩
  refine ⟨rfl,fun q=>q=nb∨q=sc∨q=bx∨q=rb∨own' q∨Mi' q,⟨Mi',own',sb,h',fun q=>Iff.rfl⟩,hf.mono fun q _ hq=>(hM q).2 ?_,?_⟩
  ·rcases hq with e | e | e
   ·exact .inl e
   ·exact .inr (.inr (.inr (.inr (.inl e))))
   exact .inr (.inr (.inr (.inr (.inr e))))
  rintro q (e | e | e | e | e | e)
  ·exact .inl ((hM q).2 (.inl e))
  ·exact .inl ((hM q).2 (.inr (.inl e)))
  ·exact .inl ((hM q).2 (.inr (.inr (.inl e))))
  ·exact .inl ((hM q).2 (.inr (.inr (.inr (.inl e)))))
  ·exact (ho' q e).imp (fun h=>(hM q).2 (.inr (.inr (.inr (.inr (.inl h)))))) id
  exact (hm' q e).imp (fun h=>(hM q).2 (.inr (.inr (.inr (.inr (.inr h)))))) id
open Go.RowKit Box
section
variable {w0 w : World} {s : Int} {n p q : Nat}
theorem BkAt.drew (S:BkAt w0 w s n p q):BkAt w0 w.drew s n p q:=⟨S.ps.drew,S.pn.drew,S.pp.drew,S.pq.drew,S.pe.drew,S.be.drew⟩
theorem BkAt.put0 (S:BkAt w0 w s n p q):BkAt w0 (w.setCell ⟨w0.heap.size,0,none⟩ (.int .i64 s)) s n p q :=
 ⟨S.ps.set 0 _,S.pn.other (p:=⟨w0.heap.size,0,none⟩) (by show w0.heap.size+1≠w0.heap.size;omega) _,S.pp.other (p:=⟨w0.heap.size,0,none⟩) (by show w0.heap.size+2≠w0.heap.size;omega) _,S.pq.other (p:=⟨w0.heap.size,0,none⟩) (by show w0.heap.size+3≠w0.heap.size;omega) _,S.pe.other (p:=⟨w0.heap.size,0,none⟩) (by show w0.heap.size+4≠w0.heap.size;omega) _,S.be.setCell (p:=⟨w0.heap.size,0,none⟩) (show w0.heap.size≤w0.heap.size by omega) _⟩
theorem BkAt.put1 (S:BkAt w0 w s n p q):BkAt w0 (w.setCell ⟨w0.heap.size+1,0,none⟩ (.int .i64 (n:Int))) s n p q :=
 ⟨S.ps.other (p:=⟨w0.heap.size+1,0,none⟩) (by show w0.heap.size≠w0.heap.size+1;omega) _,S.pn.set 0 _,S.pp.other (p:=⟨w0.heap.size+1,0,none⟩) (by show w0.heap.size+2≠w0.heap.size+1;omega) _,S.pq.other (p:=⟨w0.heap.size+1,0,none⟩) (by show w0.heap.size+3≠w0.heap.size+1;omega) _,S.pe.other (p:=⟨w0.heap.size+1,0,none⟩) (by show w0.heap.size+4≠w0.heap.size+1;omega) _,S.be.setCell (p:=⟨w0.heap.size+1,0,none⟩) (show w0.heap.size≤w0.heap.size+1 by omega) _⟩
theorem BkAt.put2 (S:BkAt w0 w s n p q):BkAt w0 (w.setCell ⟨w0.heap.size+2,0,none⟩ (.int .u64 (p:Int))) s n p q :=
 ⟨S.ps.other (p:=⟨w0.heap.size+2,0,none⟩) (by show w0.heap.size≠w0.heap.size+2;omega) _,S.pn.other (p:=⟨w0.heap.size+2,0,none⟩) (by show w0.heap.size+1≠w0.heap.size+2;omega) _,S.pp.set 0 _,S.pq.other (p:=⟨w0.heap.size+2,0,none⟩) (by show w0.heap.size+3≠w0.heap.size+2;omega) _,S.pe.other (p:=⟨w0.heap.size+2,0,none⟩) (by show w0.heap.size+4≠w0.heap.size+2;omega) _,S.be.setCell (p:=⟨w0.heap.size+2,0,none⟩) (show w0.heap.size≤w0.heap.size+2 by omega) _⟩
theorem BkAt.put3 (S:BkAt w0 w s n p q):BkAt w0 (w.setCell ⟨w0.heap.size+3,0,none⟩ (.int .u64 (q:Int))) s n p q :=
 ⟨S.ps.other (p:=⟨w0.heap.size+3,0,none⟩) (by show w0.heap.size≠w0.heap.size+3;omega) _,S.pn.other (p:=⟨w0.heap.size+3,0,none⟩) (by show w0.heap.size+1≠w0.heap.size+3;omega) _,S.pp.other (p:=⟨w0.heap.size+3,0,none⟩) (by show w0.heap.size+2≠w0.heap.size+3;omega) _,S.pq.set 0 _,S.pe.other (p:=⟨w0.heap.size+3,0,none⟩) (by show w0.heap.size+4≠w0.heap.size+3;omega) _,S.be.setCell (p:=⟨w0.heap.size+3,0,none⟩) (show w0.heap.size≤w0.heap.size+3 by omega) _⟩
theorem BkAt.put4 (S:BkAt w0 w s n p q):BkAt w0 (w.setCell ⟨w0.heap.size+4,0,none⟩ (.int .i64 0)) s n p q :=
 ⟨S.ps.other (p:=⟨w0.heap.size+4,0,none⟩) (by show w0.heap.size≠w0.heap.size+4;omega) _,S.pn.other (p:=⟨w0.heap.size+4,0,none⟩) (by show w0.heap.size+1≠w0.heap.size+4;omega) _,S.pp.other (p:=⟨w0.heap.size+4,0,none⟩) (by show w0.heap.size+2≠w0.heap.size+4;omega) _,S.pq.other (p:=⟨w0.heap.size+4,0,none⟩) (by show w0.heap.size+3≠w0.heap.size+4;omega) _,S.pe.set 0 _,S.be.setCell (p:=⟨w0.heap.size+4,0,none⟩) (show w0.heap.size≤w0.heap.size+4 by omega) _⟩
end
set_option maxRecDepth 100000 in
set_option maxHeartbeats 600000 in
theorem block_p (A:Option Addr) (bs:List UInt8) (n c:Nat) (w:World) (hn:n=bs.length) (hc:n≤c) (hcm:c≤maxLen) (hr:BRow w w.heap.size A bs) :
 Calls Tryz.prog 27 #[.slice A n c] w (BlkPost (blockOf bs) w):=by
 subst hn
 have hmf:∀ (fn:Fn) (first cap:Array Value) (w:World),(Instr.makeFunc fn first cap).run Tryz.prog w=.ok (.func fn first cap) w:=fun _ _ _ _=>rfl
 have s1:∃ w1,(((((w.alloc (.cells #[.int .i64 0] 3)).alloc (.cells #[.int .i64 0] 3)).alloc (.cells #[.int .u64 0] 50)).alloc (.cells #[.int .u64 0] 50)).alloc (.cells #[.int .i64 0] 25)).alloc (.cells #[.slice A bs.length c,.int .i64 0] 105)=w1∧BkAt w w1 0 0 0 0∧CurAt w1 (w.heap.size+5) w.heap.size bs 0:=by
  have sz1:(w.alloc (.cells #[.int .i64 0] 3)).heap.size=w.heap.size+1:=by show (w.heap.push _).size=_;rw [Array.size_push]
  have q1:=Pts.new w #[.int .i64 0] 3
  have b1:Below w.heap.size w _:=(Below.refl _ w).alloc (Nat.le_refl _) (.cells #[.int .i64 0] 3)
  generalize w.alloc (.cells #[.int .i64 0] 3)=x1 at *
  have sz2:(x1.alloc (.cells #[.int .i64 0] 3)).heap.size=w.heap.size+2:=by show (x1.heap.push _).size=_;rw [Array.size_push,sz1]
  have q2:=Pts.new x1 #[.int .i64 0] 3
  have q1:=q1.alloc (.cells #[.int .i64 0] 3)
  have b2:=b1.alloc b1.size (.cells #[.int .i64 0] 3)
  rw [sz1] at q2
  generalize x1.alloc (.cells #[.int .i64 0] 3)=x2 at *
  have sz3:(x2.alloc (.cells #[.int .u64 0] 50)).heap.size=w.heap.size+3:=by show (x2.heap.push _).size=_;rw [Array.size_push,sz2]
  have q3:=Pts.new x2 #[.int .u64 0] 50
  have q1:=q1.alloc (.cells #[.int .u64 0] 50)
  have q2:=q2.alloc (.cells #[.int .u64 0] 50)
  have b3:=b2.alloc b2.size (.cells #[.int .u64 0] 50)
  rw [sz2] at q3
  generalize x2.alloc (.cells #[.int .u64 0] 50)=x3 at *
  have sz4:(x3.alloc (.cells #[.int .u64 0] 50)).heap.size=w.heap.size+4:=by show (x3.heap.push _).size=_;rw [Array.size_push,sz3]
  have q4:=Pts.new x3 #[.int .u64 0] 50
  have q1:=q1.alloc (.cells #[.int .u64 0] 50)
  have q2:=q2.alloc (.cells #[.int .u64 0] 50)
  have q3:=q3.alloc (.cells #[.int .u64 0] 50)
  have b4:=b3.alloc b3.size (.cells #[.int .u64 0] 50)
  rw [sz3] at q4
  generalize x3.alloc (.cells #[.int .u64 0] 50)=x4 at *
  have sz5:(x4.alloc (.cells #[.int .i64 0] 25)).heap.size=w.heap.size+5:=by show (x4.heap.push _).size=_;rw [Array.size_push,sz4]
  have q5:=Pts.new x4 #[.int .i64 0] 25
  have q1:=q1.alloc (.cells #[.int .i64 0] 25)
  have q2:=q2.alloc (.cells #[.int .i64 0] 25)
  have q3:=q3.alloc (.cells #[.int .i64 0] 25)
  have q4:=q4.alloc (.cells #[.int .i64 0] 25)
  have b5:=b4.alloc b4.size (.cells #[.int .i64 0] 25)
  rw [sz4] at q5
  generalize x4.alloc (.cells #[.int .i64 0] 25)=x5 at *
  have q6:=CurAt.fresh (w:=x5) w hc hcm hr b5 b5.size
  rw [sz5] at q6
  exact ⟨_,rfl,⟨q1.alloc _,q2.alloc _,q3.alloc _,q4.alloc _,q5.alloc _,b5.alloc b5.size _⟩,q6⟩
 obtain ⟨w1,hw1,s1,c1⟩:=s1
 have S1:=hid s1
 have C1:=hid c1
 have CAP:=hid hc
 have ROW:=hid hr
 clear s1 c1 hr
 obtain ⟨R,hR⟩:∃ R,blockOf bs=R:=⟨_,rfl⟩
 rw [hR]
 cases bs with
 | nil =>
  have hR:(0,0,0,0,10)=R:=hR
  subst hR
  simp only [List.length_nil] at hw1
  clear hc
  go_enter_defers Tryz.func27,Tryz.ntmps27
  go_wp2_with fail
  refine (must_bad _ _ _).mono ?_;rintro r w2 ⟨rfl,rfl⟩
  go_wp2
  exact bk_door _ (by decide) _ _ _ _ w w1 S1.out _ rfl rfl rfl rfl rfl
 | cons b r0 =>
  have hRb:=hR
  unfold blockOf at hRb
  simp only at hRb
  obtain ⟨bs,hbs⟩:∃ bs,b::r0=bs:=⟨_,rfl⟩
  have hb0:bs.getD 0 0=b:=by rw [← hbs];rfl
  have hl1:1≤bs.length:=by rw [← hbs];simp
  rw [hbs] at hRb hw1 CAP ROW hc C1 ⊢
  obtain ⟨b0,off,rfl,hbl,hcell⟩:=ROW.out (by omega)
  have k0:w1.cell? ⟨b0,off,none⟩=some (.int .u8 (b.toNat:Int)):=by
   have:=hcell 0 (by omega)
   rw [hb0] at this
   exact (S1.out.be.cell (p:=⟨b0,off+0,none⟩) hbl).trans this
  have hbn:=b.toNat_lt
  obtain ⟨N,hN⟩:∃ N,(b.toNat+1)*4=N:=⟨_,rfl⟩
  rw [hN] at hRb
  have hbz:b=0↔b.toNat=0:=⟨fun e=>by rw [e];rfl,fun e=>by rw [← UInt8.ofNat_toNat (x:=b),e];rfl⟩
  obtain ⟨bn,hbb⟩:∃ bn,b.toNat=bn:=⟨_,rfl⟩
  rw [hbb] at k0 hbn hN hbz
  have hNi:((bn:Int)+1)*4=(N:Int):=by omega
  have hNb:4≤N∧N≤1024:=by omega
  have HRB:=hid hRb
  have HBZ:=hid hbz
  have HN4:=hid hN
  have hl1i:decide (0<bs.length)=true:=decide_eq_true (by omega)
  clear hR hRb hbz hcell hbs hb0 hbb hc hN
  by_cases hsh:bs.length<N
  ·have hR:=HRB.out
   rw [if_pos hsh] at hR
   subst hR
   have HSH:=hid hsh
   clear HRB hsh
   go_enter_defers Tryz.func27,Tryz.ntmps27
   go_wp2_with fail
   refine (must_ok _ _ _).mono ?_;rintro r w2 ⟨rfl,rfl⟩
   go_wp2_with fail
   refine (take_bad (w.heap.size+5) w.heap.size N 0 10 bs w1 C1.out HSH.out).mono ?_;rintro r w2 ⟨rfl,rfl⟩
   go_wp2
   exact bk_door _ (by decide) _ _ _ _ w w1 S1.out _ rfl rfl rfl rfl rfl
  have hR:=HRB.out
  rw [if_neg hsh] at hR
  have HSH:=hid hsh
  have HT:=hid (take_ok (w.heap.size+5) w.heap.size N 0 10 bs w1 C1.out (by omega) (by omega))
  clear HRB hsh
  have lH:(bs.take N).length=N:=by rw [List.length_take];have:=HSH.out;omega
  obtain ⟨H,hH⟩:∃ H,bs.take N=H:=⟨_,rfl⟩
  rw [hH] at hR lH HT
  have LH:=hid lH
  clear hH lH
  by_cases hz:b=0
  ·rw [if_pos hz] at hR
   subst hR
   have hbn0:bn=0:=HBZ.out.1 hz
   have hbq:((bn:Int) != 0)=false:=by rw [hbn0];rfl
   clear hz hbn0
   go_enter_defers Tryz.func27,Tryz.ntmps27
   go_wp2_with fail
   refine (must_ok _ _ _).mono ?_;rintro r w2 ⟨rfl,rfl⟩
   go_wp2_with fail
   refine HT.out.mono ?_;rintro r w2 ⟨A2,c2,rfl,hr2,hc2,hm2,hcu2,hf2⟩
   have S2:=hid (S1.out.frm hf2 (fun k hk=>by omega))
   have k2:w2.cell? ⟨b0,off,none⟩=some (.int .u8 (bn:Int)):=(World.cell?_of_block (w:=w1) (hf2.block b0 (by have:=S1.out.be.size;omega) (by show ¬ _=_;omega))).trans k0
   have C2:=hid hcu2
   have R2:=hid hr2
   have HC2:=hid hc2
   have HM2:=hid hm2
   clear hr2 hc2 hm2 hcu2 hf2
   go_wp2_with fail
   refine (must_bad _ _ _).mono ?_;rintro r w3 ⟨rfl,rfl⟩
   go_wp2
   exact bk_door _ (by decide) _ _ _ _ w w2 S2.out _ rfl rfl rfl rfl rfl
  rw [if_neg hz] at hR
  have hbn0:¬ bn=0:=fun e=>hz (HBZ.out.2 e)
  have hbq:((bn:Int) != 0)=true:=by simp;omega
  have hN8:8≤N:=by have:=HN4.out;omega
  clear hz hbn0
  have HRR:=hid hR
  clear hR
  go_enter_defers Tryz.func27,Tryz.ntmps27
  go_wp2_with fail
  refine (must_ok _ _ _).mono ?_;rintro r w2 ⟨rfl,rfl⟩
  go_wp2_with fail
  refine HT.out.mono ?_;rintro r w2 ⟨A2,c2,rfl,hr2,hc2,hm2,hcu2,hf2⟩
  have S2:=hid (S1.out.frm hf2 (fun k hk=>by omega))
  have k2:w2.cell? ⟨b0,off,none⟩=some (.int .u8 (bn:Int)):=(World.cell?_of_block (w:=w1) (hf2.block b0 (by have:=S1.out.be.size;omega) (by show ¬ _=_;omega))).trans k0
  have C2:=hid hcu2
  have R2:=hid hr2
  have HC2:=hid hc2
  have HM2:=hid hm2
  clear hr2 hc2 hm2 hcu2 hf2
  go_wp2_with fail
  refine (sealed_p A2 H N c2 w2 LH.out.symm (by omega) HC2.out ((R2.out).more S2.out.be.size) (by rw [LH.out];omega)).mono ?_;rintro r w3 ⟨rfl,hb3⟩
  have S3:=hid (S2.out.still hb3)
  have C3:=hid (C2.out.frm (S:=fun _=>False) (Frm.of_below hb3) (fun h=>h) (fun k h=>h.elim))
  have R3:=hid (R2.out.below (hb3.mono S2.out.be.size))
  have hR:=HRR.out
  clear hb3 HRR
  by_cases hse:sealedB H=true
  ·rw [if_neg (fun h=>h hse)] at hR
   rw [hse]
   clear hse
   go_wp2_with fail
   refine (must_ok _ _ _).mono ?_;rintro r w4 ⟨rfl,rfl⟩
   have hs9:∀ w,(Instr.sliceAt 22 (.slice A2 N c2) (some (.int .i64 1)) (some (.int .i64 ((N-4:Nat):Int))) none).run Tryz.prog w=.ok (.slice (A2.map (·.add 1)) (N-4-1) (c2-1)) w:=fun w=>slice_midX A2 N c2 1 (N-4) (by omega) (by omega) HC2.out (by have:=HC2.out;omega) w
   have hrm:=R3.out.mid (f:=1) (t:=N-5) (c:=c2) (by rw [LH.out];exact HC2.out) (by have:=HC2.out;omega)
   obtain ⟨A9,hA9⟩:∃ A9,A2.map (·.add 1)=A9:=⟨_,rfl⟩
   rw [hA9] at hs9 hrm
   obtain ⟨N4,hN4⟩:∃ N4,N-4=N4:=⟨_,rfl⟩
   have hN4i:(N:Int)-4=(N4:Int):=by omega
   obtain ⟨N5,hN5⟩:∃ N5,N4-1=N5:=⟨_,rfl⟩
   rw [hN4,hN5] at hs9
   have hN55:N-5=N5:=by omega
   rw [hN55] at hrm hR
   have hwN4:IntKind.i64.wrap (N4:Int)=(N4:Int):=Go.IntWalk.i64_in _ (by omega)
   obtain ⟨B5,hB5⟩:∃ B5,(H.drop 1).take N5=B5:=⟨_,rfl⟩
   have lB5:N5=B5.length:=by rw [← hB5,List.length_take,List.length_drop,LH.out];omega
   rw [hB5] at hrm hR
   obtain ⟨c9,hc9⟩:∃ c9,c2-1=c9:=⟨_,rfl⟩
   rw [hc9] at hs9
   have hc9b:N5≤c9∧c9≤maxLen:=by have:=HC2.out;have:=HM2.out;omega
   obtain ⟨Ax,cx,hpx,_,_,_,_⟩:=C3.out
   have cx0:w3.cell? ⟨w.heap.size+5,0,none⟩=some (.slice Ax (bs.drop N).length cx):=hpx.cell 0
   have zx0:=hpx.frozen 0
   have hp4:=hpx.set 0 (.slice A9 N5 c9)
   have hf4:Frm (· = w.heap.size+5) w3 (w3.setCell ⟨w.heap.size+5,0,none⟩ (.slice A9 N5 c9)):=(Frm.refl _ w3).setCell (by rfl) _
   have hc4:CurAt (w3.setCell ⟨w.heap.size+5,0,none⟩ (.slice A9 N5 c9)) (w.heap.size+5) w.heap.size B5 (0+N):=by
    rw [lB5] at hp4 hf4 ⊢
    exact ⟨A9,c9,hp4,hrm.frm hf4 S3.out.be.size (fun k hk=>by omega),by omega,hc9b.2,by omega⟩
   have S4:=hid (S3.out.frm hf4 (fun k hk=>by omega))
   have C4:=hid hc4
   have LB:=hid (show 0+N+B5.length≤1000000 by omega)
   have HR9:=hid hR
   generalize hw4:w3.setCell ⟨w.heap.size+5,0,none⟩ (.slice A9 N5 c9)=w4 at *
   have n4:w4.cell? ⟨w.heap.size+1,0,none⟩=some (.int .i64 0):=S4.out.pn.cell 0
   have zn4:=S4.out.pn.frozen 0
   have S5:=hid (show BkAt w (w4.setCell ⟨w.heap.size+1,0,none⟩ (.int .i64 (N:Int))) 0 N 0 0 from
    ⟨S4.out.ps.other (p:=⟨w.heap.size+1,0,none⟩) (by show w.heap.size≠w.heap.size+1;omega) _,S4.out.pn.set 0 _,S4.out.pp.other (p:=⟨w.heap.size+1,0,none⟩) (by show w.heap.size+2≠w.heap.size+1;omega) _,S4.out.pq.other (p:=⟨w.heap.size+1,0,none⟩) (by show w.heap.size+3≠w.heap.size+1;omega) _,S4.out.pe.other (p:=⟨w.heap.size+1,0,none⟩) (by show w.heap.size+4≠w.heap.size+1;omega) _,S4.out.be.setCell (p:=⟨w.heap.size+1,0,none⟩) (show w.heap.size≤w.heap.size+1 by omega) _⟩)
   have hc5:CurAt (w4.setCell ⟨w.heap.size+1,0,none⟩ (.int .i64 (N:Int))) (w.heap.size+5) w.heap.size B5 (0+N):=by
    obtain ⟨A',c',hp',hr',h1',h2',h3'⟩:=C4.out
    have hb':Below w.heap.size w4 (w4.setCell ⟨w.heap.size+1,0,none⟩ (.int .i64 (N:Int))):=(Below.refl _ w4).setCell (p:=⟨w.heap.size+1,0,none⟩) (show w.heap.size≤w.heap.size+1 by omega) _
    exact ⟨A',c',hp'.other (p:=⟨w.heap.size+1,0,none⟩) (by show w.heap.size+5≠w.heap.size+1;omega) _,hr'.below hb',h1',h2',h3'⟩
   have C5:=hid hc5
   clear hR hB5 hA9 hN4 hN5 hN55 hrm hc9 hc4 hc5 hp4 hf4 hpx lB5 hc9b
   generalize hw5:w4.setCell ⟨w.heap.size+1,0,none⟩ (.int .i64 (N:Int))=w5 at *
   go_wp2_with fail
   refine (cblock_p (w.heap.size+5) w.heap.size (0+N) B5 w5 C5.out LB.out).mono ?_;rintro r w6 ⟨hbk,hf6⟩
   have S6:=hid (S5.out.frm hf6 (fun k hk=>by omega))
   clear hf6
   obtain ⟨Q,hQ⟩:∃ Q,bkBody B5=Q:=⟨_,rfl⟩
   rw [hQ] at hbk
   have hR:=HR9.out
   rw [hQ] at hR
   clear HR9 hQ
   match Q,hbk,hR with
   | .error x,hbk,hR =>
    obtain ⟨hx0,rfl⟩:=hbk
    have hR:(0,0,0,0,x)=R:=hR
    subst hR
    have HX0:=hid hx0
    clear hx0
    go_wp2
    exact bk_door _ HX0.out _ _ _ _ w w6 S6.out _ rfl rfl rfl rfl rfl
   | .ok (s,p,q),hbk,hR =>
    have hbk:r=.returned (.tuple #[.int .i64 s,.int .u64 (p:Int),.int .u64 (q:Int)]):=hbk
    subst hbk
    have hR:(s,N,p,q,0)=R:=hR
    subst hR
    have m0:w6.cell? ⟨w.heap.size,0,none⟩=some (.int .i64 0):=S6.out.ps.cell 0
    have zm0:=S6.out.ps.frozen 0
    have m2:w6.cell? ⟨w.heap.size+2,0,none⟩=some (.int .u64 0):=S6.out.pp.cell 0
    have zm2:=S6.out.pp.frozen 0
    have m3:w6.cell? ⟨w.heap.size+3,0,none⟩=some (.int .u64 0):=S6.out.pq.cell 0
    have zm3:=S6.out.pq.frozen 0
    have S7:=hid (show BkAt w (((w6.setCell ⟨w.heap.size,0,none⟩ (.int .i64 s)).setCell ⟨w.heap.size+2,0,none⟩ (.int .u64 (p:Int))).setCell ⟨w.heap.size+3,0,none⟩ (.int .u64 (q:Int))) s N p q from
     ⟨((S6.out.ps.set 0 _).other (p:=⟨w.heap.size+2,0,none⟩) (by show w.heap.size≠w.heap.size+2;omega) _).other (p:=⟨w.heap.size+3,0,none⟩) (by show w.heap.size≠w.heap.size+3;omega) _,
      ((S6.out.pn.other (p:=⟨w.heap.size,0,none⟩) (by show w.heap.size+1≠w.heap.size;omega) _).other (p:=⟨w.heap.size+2,0,none⟩) (by show w.heap.size+1≠w.heap.size+2;omega) _).other (p:=⟨w.heap.size+3,0,none⟩) (by show w.heap.size+1≠w.heap.size+3;omega) _,
      ((S6.out.pp.other (p:=⟨w.heap.size,0,none⟩) (by show w.heap.size+2≠w.heap.size;omega) _).set 0 _).other (p:=⟨w.heap.size+3,0,none⟩) (by show w.heap.size+2≠w.heap.size+3;omega) _,
      ((S6.out.pq.other (p:=⟨w.heap.size,0,none⟩) (by show w.heap.size+3≠w.heap.size;omega) _).other (p:=⟨w.heap.size+2,0,none⟩) (by show w.heap.size+3≠w.heap.size+2;omega) _).set 0 _,
      ((S6.out.pe.other (p:=⟨w.heap.size,0,none⟩) (by show w.heap.size+4≠w.heap.size;omega) _).other (p:=⟨w.heap.size+2,0,none⟩) (by show w.heap.size+4≠w.heap.size+2;omega) _).other (p:=⟨w.heap.size+3,0,none⟩) (by show w.heap.size+4≠w.heap.size+3;omega) _,
      ((S6.out.be.setCell (p:=⟨w.heap.size,0,none⟩) (Nat.le_refl _) _).setCell (p:=⟨w.heap.size+2,0,none⟩) (show w.heap.size≤w.heap.size+2 by omega) _).setCell (p:=⟨w.heap.size+3,0,none⟩) (show w.heap.size≤w.heap.size+3 by omega) _⟩)
    generalize hw7:((w6.setCell ⟨w.heap.size,0,none⟩ (.int .i64 s)).setCell ⟨w.heap.size+2,0,none⟩ (.int .u64 (p:Int))).setCell ⟨w.heap.size+3,0,none⟩ (.int .u64 (q:Int))=w7 at *
    go_wp2
    have d0:w7.cell? ⟨w.heap.size,0,none⟩=some (.int .i64 s):=S7.out.ps.cell 0
    have y0:=S7.out.ps.frozen 0
    have d1:w7.cell? ⟨w.heap.size+1,0,none⟩=some (.int .i64 (N:Int)):=S7.out.pn.cell 0
    have y1:=S7.out.pn.frozen 0
    have d2:w7.cell? ⟨w.heap.size+2,0,none⟩=some (.int .u64 (p:Int)):=S7.out.pp.cell 0
    have y2:=S7.out.pp.frozen 0
    have d3:w7.cell? ⟨w.heap.size+3,0,none⟩=some (.int .u64 (q:Int)):=S7.out.pq.cell 0
    have y3:=S7.out.pq.frozen 0
    have d4:w7.cell? ⟨w.heap.size+4,0,none⟩=some (.int .i64 0):=S7.out.pe.cell 0
    have y4:=S7.out.pe.frozen 0
    have A4:=S7.out.put0
    have A5:=A4.put1
    have A6:=A5.put2
    have A7:=A6.put3
    have A8:=A7.put4
    have E8:RowKit.Hid (BkAt w (((((w7.setCell ⟨w.heap.size,0,none⟩ (.int .i64 s)).setCell ⟨w.heap.size+1,0,none⟩ (.int .i64 (N:Int))).setCell ⟨w.heap.size+1+1,0,none⟩ (.int .u64 (p:Int))).setCell ⟨w.heap.size+1+1+1,0,none⟩ (.int .u64 (q:Int))).setCell ⟨w.heap.size+1+1+1+1,0,none⟩ (.int .i64 0)).drew s N p q):=hid A8.drew
    have e4:(w7.setCell ⟨w.heap.size,0,none⟩ (.int .i64 s)).cell? ⟨w.heap.size,0,none⟩=some (.int .i64 s):=A4.ps.cell 0
    have e5:((w7.setCell ⟨w.heap.size,0,none⟩ (.int .i64 s)).setCell ⟨w.heap.size+1,0,none⟩ (.int .i64 (N:Int))).cell? ⟨w.heap.size+1,0,none⟩=some (.int .i64 (N:Int)):=A5.pn.cell 0
    have e6:(((w7.setCell ⟨w.heap.size,0,none⟩ (.int .i64 s)).setCell ⟨w.heap.size+1,0,none⟩ (.int .i64 (N:Int))).setCell ⟨w.heap.size+1+1,0,none⟩ (.int .u64 (p:Int))).cell? ⟨w.heap.size+1+1,0,none⟩=some (.int .u64 (p:Int)):=A6.pp.cell 0
    have e7:((((w7.setCell ⟨w.heap.size,0,none⟩ (.int .i64 s)).setCell ⟨w.heap.size+1,0,none⟩ (.int .i64 (N:Int))).setCell ⟨w.heap.size+1+1,0,none⟩ (.int .u64 (p:Int))).setCell ⟨w.heap.size+1+1+1,0,none⟩ (.int .u64 (q:Int))).cell? ⟨w.heap.size+1+1+1,0,none⟩=some (.int .u64 (q:Int)):=A7.pq.cell 0
    have n2:¬ (w.heap.size=w.heap.size+1+1):=by omega
    have n3:¬ (w.heap.size=w.heap.size+1+1+1):=by omega
    have n4:¬ (w.heap.size=w.heap.size+1+1+1+1):=by omega
    have n2':¬ (w.heap.size+1+1=w.heap.size):=by omega
    have n3':¬ (w.heap.size+1+1+1=w.heap.size):=by omega
    have n4':¬ (w.heap.size+1+1+1+1=w.heap.size):=by omega
    clear A4 A5 A6 A7 A8
    go_region_held3 (fun w'=>w'.cell? ⟨w.heap.size,0,none⟩=some (.int .i64 s)∧w'.cell? ⟨w.heap.size+1,0,none⟩=some (.int .i64 (N:Int))∧w'.cell? ⟨w.heap.size+2,0,none⟩=some (.int .u64 (p:Int))∧w'.cell? ⟨w.heap.size+3,0,none⟩=some (.int .u64 (q:Int))) (first | with_reducible exact ⟨d0,d1,d2,d3⟩ | go_keep) (first | (go_at_call 57))
    all_goals
     go_wp2
     exact bk_end _ _ _ _ w _ E8.out _ rfl rfl rfl rfl rfl
  rw [if_pos hse] at hR
  subst hR
  have hse:sealedB H=false:=by simpa using hse
  rw [hse]
  clear hse
  go_wp2_with fail
  refine (must_bad _ _ _).mono ?_;rintro r w4 ⟨rfl,rfl⟩
  go_wp2
  exact bk_door _ (by decide) _ _ _ _ w w3 S3.out _ rfl rfl rfl rfl rfl
end Go.Proofs.YtffehfpbdcokbaaGreat
