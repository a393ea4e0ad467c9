import Derived.Deep.RegionLaw
import Derived.Deep.CutBlock
import Derived.Test.YtffehfpbdcokbaaGreatBu8
import Derived.Test.YtffehfpbdcokbaaGreatBu10
import Derived.Test.YtffehfpbdcokbaaGreatBu11
set_option linter.unusedVariables false
set_option linter.unusedSimpArgs false
namespace Go.Proofs.YtffehfpbdcokbaaGreat
open Lib (hid)
open Go.RowKit Rng Lz Win
structure RS where
 st:Nat
 rep:Nat→Nat
 s:CP Dec
 C:List UInt8
structure RS.Ok (x:RS):Prop where
 st:x.st<12
 rep:∀ j,x.rep j<4294967296
def stepOf (k:LK) (S total room:Nat) (x:RS):Option (List UInt8×RS) :=
 let a:=bitAt outC (8+x.st*16+total % 2 ^ k.pb) 0 x.s
 if a.1=0 then
  let l:=litOf outC k x.st total x.rep x.C a.2
  some ([UInt8.ofNat l.1],⟨behS x.st 0,x.rep,l.2,lastN S (x.C++[UInt8.ofNat l.1])⟩)
 else
  let o:=opOf outC x.st (total % 2 ^ k.pb) x.rep a.2
  if o.1≤room∧o.2.2.1 0+1≤x.C.length then some (cyc x.C (o.2.2.1 0+1) o.1,⟨o.2.1,o.2.2.1,o.2.2.2,lastN S (x.C++cyc x.C (o.2.2.1 0+1) o.1)⟩)
  else none
def chunkGo (k:LK) (S total n:Nat):Nat→List UInt8→RS→Option (List UInt8×RS)
 | 0,_,_=>none
 | f+1,told,x =>
  if n≤told.length then some (told,x)
  else match stepOf k S (total+told.length) (n-told.length) x with
   | none=>none
   | some (b,y)=>chunkGo k S total n f (told++b) y
def totOf (total:Nat):Nat:=if 1099511627776<total then 1099511627776+total % 16 else total
theorem totOf_lt (total:Nat):totOf total<1099511627792:=by unfold totOf;split <;> omega
def chunkOf (k:LK) (S total n st:Nat) (rep:Nat→Nat) (pr:Pr) (C bs:List UInt8):Option (List UInt8×RS) :=
 if newErr bs≠0 then none
 else match chunkGo k S (totOf total) n (n+1) [] ⟨st,rep,⟨newDec bs,pr⟩,C⟩ with
  | none=>none
  | some (told,y)=>if y.s.d.fin=(0,0) then some (told,y) else none
theorem distAt_lt {σ:Type} (co:Cod σ) (d size:Nat) (s:CP σ):(distAt co d size s).1<4294967296:=by
 unfold distAt
 simp only
 split
 ·rename_i h;simp only;omega
 split
 ·rename_i h1 h2
  generalize treeAt co (440+(min size 5-2)*64) 6 (slotOf d) s=t at *
  have hu:=backAt_lt co (696+(2+t.1 % 2)*2 ^ (t.1 / 2-1)-t.1) (t.1 / 2-1) (d-(2+t.1 % 2)*2 ^ (t.1 / 2-1)) t.2
  have hk:2 ^ (t.1 / 2-1)≤2 ^ 5:=Nat.pow_le_pow_right (by omega) (by omega)
  have hm:(2+t.1 % 2)*2 ^ (t.1 / 2-1)≤3*2 ^ (t.1 / 2-1):=Nat.mul_le_mul_right _ (by omega)
  simp only
  omega
 simp only;omega
theorem takeS_lt {rep:Nat→Nat} (h:∀ j,rep j<4294967296) (n:Nat):∀ j,takeS rep n j<4294967296:=by
 intro j
 unfold takeS
 repeat' split
 all_goals first | exact h _ | (unfold shiftN;split <;> exact h _)
theorem shiftN_lt {rep:Nat→Nat} (h:∀ j,rep j<4294967296) (n:Nat):∀ j,shiftN rep n j<4294967296:=by
 intro j
 unfold shiftN
 split <;> exact h _
theorem repOf_inv {σ:Type} (co:Cod σ) {st:Nat} (p:Nat) {rep:Nat→Nat} (s:CP σ) (hst:st<12) (h:∀ j,rep j<4294967296) :
 1≤(repOf co st p rep s).1∧(repOf co st p rep s).1≤300∧(repOf co st p rep s).2.1<12∧∀ j,(repOf co st p rep s).2.2.1 j<4294967296:=by
 unfold repOf
 simp only
 split
 ·split
  ·exact ⟨by simp,by simp,show behS st 3<12 from behS_lt hst,h⟩
  have hl:=lenAt_lt co 1354 2 p (bitAt co (248+st*16+p) 0 (bitAt co (212+st) 0 s).2).2
  exact ⟨by simp only;omega,hl.2,show behS st 2<12 from behS_lt hst,h⟩
 split
 ·exact ⟨Nat.le_trans (by decide) (lenAt_lt co 1354 2 p _).1,(lenAt_lt co 1354 2 p _).2,show behS st 2<12 from behS_lt hst,takeS_lt h _⟩
 exact ⟨Nat.le_trans (by decide) (lenAt_lt co 1354 2 p _).1,(lenAt_lt co 1354 2 p _).2,show behS st 2<12 from behS_lt hst,takeS_lt h _⟩
theorem opOf_inv {σ:Type} (co:Cod σ) {st:Nat} (p:Nat) {rep:Nat→Nat} (s:CP σ) (hst:st<12) (h:∀ j,rep j<4294967296) :
 1≤(opOf co st p rep s).1∧(opOf co st p rep s).1≤300∧(opOf co st p rep s).2.1<12∧∀ j,(opOf co st p rep s).2.2.1 j<4294967296:=by
 unfold opOf
 simp only
 split
 ·exact repOf_inv co p _ hst h
 refine ⟨Nat.le_trans (by decide) (lenAt_lt co 840 2 p _).1,(lenAt_lt co 840 2 p _).2,show behS st 1<12 from behS_lt hst,fun j=>?_⟩
 simp only
 split
 ·exact distAt_lt co 0 _ _
 exact shiftN_lt h 3 j
theorem stepOf_inv {k:LK} {S total room:Nat} {x y:RS} {b:List UInt8} (hx:x.Ok) (hr:1≤room) (h:stepOf k S total room x=some (b,y)):y.Ok∧1≤b.length∧b.length≤room:=by
 unfold stepOf at h
 simp only at h
 split at h
 ·injection h with h
  injection h with h1 h2
  subst h1;subst h2
  exact ⟨⟨show behS x.st 0<12 from behS_lt hx.st,hx.rep⟩,by simp,by simpa using hr⟩
 split at h
 ·rename_i hg
  injection h with h
  injection h with h1 h2
  subst h1;subst h2
  have hi:=opOf_inv outC (total % 2 ^ k.pb) (rep:=x.rep) (bitAt outC (8+x.st*16+total % 2 ^ k.pb) 0 x.s).2 hx.st hx.rep
  rw [cyc_length]
  exact ⟨⟨hi.2.2.1,hi.2.2.2⟩,hi.1,hg.1⟩
 cases h
theorem chunkGo_inv {k:LK} {S total n:Nat}:∀ (f:Nat) {told t':List UInt8} {x y:RS},x.Ok→told.length≤n→chunkGo k S total n f told x=some (t',y)→y.Ok∧t'.length=n∧∃ b,t'=told++b
 | 0,_,_,_,_,_,_,h=>by cases h
 | f+1,told,t',x,y,hx,hl,h=>by
  unfold chunkGo at h
  split at h
  ·injection h with h
   injection h with h1 h2
   subst h1;subst h2
   exact ⟨hx,by omega,[],by simp⟩
  cases hs:stepOf k S (total+told.length) (n-told.length) x with
  | none=>rw [hs] at h;cases h
  | some p =>
   obtain ⟨b,z⟩:=p
   rw [hs] at h
   simp only at h
   have hi:=stepOf_inv hx (by omega) hs
   have hr:=chunkGo_inv f hi.1 (by rw [List.length_append];omega) h
   obtain ⟨h1,h2,b2,h3⟩:=hr
   exact ⟨h1,h2,b++b2,by rw [h3,List.append_assoc]⟩
open Go.RowKit Rng Win Lz
structure DB where
 db:Nat
 rb:Nat
 wb:Nat
 kb:Nat
 S:Nat
 bw:Nat
 R:Obj
structure DzAt (Z:Nat→Prop) (w0 w:World) (k:LK) (g:DB) (st:Nat) (rep:Nat→Nat) (s:CP Dec) (all:List UInt8) (wv:Value):Prop where
 lz:LzAt (DCr g.db g.rb g.R) (DO g.db g.rb) 180 w k st rep s
 win:RWin w g.bw g.wb g.kb g.S true wv all
 nr:g.rb≠g.wb∧wv.ownBlock≠some g.rb
 bs:g.bw≤w.heap.size
 z:∀ q,(q=g.db∨q=k.sb∨q=k.lb∨q=g.wb∨wv.ownBlock=some q)→q<w0.heap.size→Z q
 f:Frm Z w0 w
section
variable {Z : Nat → Prop} {w0 w w' : World} {k : LK} {g : DB} {st : Nat} {rep : Nat → Nat} {s : CP Dec} {all : List UInt8} {wv : Value}
theorem DzAt.lzStep {st':Nat} {rep':Nat→Nat} {s':CP Dec} (h:DzAt Z w0 w k g st rep s all wv) (hl:LzAt (DCr g.db g.rb g.R) (DO g.db g.rb) 180 w' k st' rep' s') (hf:Frm (Wr (DO g.db g.rb) k) w w'):DzAt Z w0 w' k g st' rep' s' all wv:=by
 obtain ⟨cd,hd⟩:=DCr.pts h.lz.c
 have hw:=h.win.p
 have hwo:=h.win.o
 have hb1:¬ Wr (DO g.db g.rb) k g.wb:=by
  rintro ((e | e) | e | e)
  ·exact hw.ne_of hd (by decide) e
  ·exact h.nr.1 e.symm
  ·exact hw.ne_of h.lz.m (by decide) e
  exact hw.ne_of h.lz.l (by decide) e
 have hb2:∀ q,wv.ownBlock=some q→¬ Wr (DO g.db g.rb) k q:=by
  intro q hq
  rintro ((e | e) | e | e)
  ·subst e;exact own_ne hwo hd (by decide) hq
  ·subst e;exact h.nr.2 hq
  ·subst e;exact own_ne hwo h.lz.m (by decide) hq
  subst e;exact own_ne hwo h.lz.l (by decide) hq
 have hf2:Frm (fun q=>q=g.db∨q=k.sb∨q=k.lb) w w':=⟨hf.os,hf.tape,hf.output,hf.size,fun q hq hn=>by
  by_cases e:q=g.rb
  ·subst e
   rw [hl.c.2,h.lz.c.2]
  exact hf.block q hq (by
   rintro ((e2 | e2) | e2 | e2)
   ·exact hn (.inl e2)
   ·exact e e2
   ·exact hn (.inr (.inl e2))
   exact hn (.inr (.inr e2)))⟩
 refine ⟨hl,⟨hw.frm hf hb1,hwo.frm hf hb2⟩,h.nr,Nat.le_trans h.bs hf.size,h.z,h.f.transW hf2 ?_⟩
 rintro q (e | e | e) hq
 ·exact h.z q (.inl e) hq
 ·exact h.z q (.inr (.inl e)) hq
 exact h.z q (.inr (.inr (.inl e))) hq
theorem DzAt.winStep {all':List UInt8} {wv':Value} (h:DzAt Z w0 w k g st rep s all wv) (hw':RWin w' g.bw g.wb g.kb g.S true wv' all') (hf:Frm (fun x=>x=g.wb∨wv.ownBlock=some x) w w') (hm:Mvd w wv wv'):DzAt Z w0 w' k g st rep s all' wv':=by
 obtain ⟨cd,hd⟩:=DCr.pts h.lz.c
 have hw:=h.win.p
 have hwo:=h.win.o
 have hrb:=heap_lt h.lz.c.2
 refine ⟨h.lz.frm (DCr.keep _ _ _) hf ?_,hw',⟨h.nr.1,?_⟩,Nat.le_trans h.bs hf.size,?_,h.f.transW hf ?_⟩
 ·rintro q ((e | e) | e | e) (e2 | e2)
  ·exact hd.ne_of hw (by decide) (e.symm.trans e2)
  ·subst e;exact own_ne hwo hd (by decide) e2
  ·exact h.nr.1 (e.symm.trans e2)
  ·subst e;exact h.nr.2 e2
  ·exact h.lz.m.ne_of hw (by decide) (e.symm.trans e2)
  ·subst e;exact own_ne hwo h.lz.m (by decide) e2
  ·exact h.lz.l.ne_of hw (by decide) (e.symm.trans e2)
  subst e;exact own_ne hwo h.lz.l (by decide) e2
 ·intro e
  rcases hm with e2 | ⟨u,e2,e3⟩
  ·exact h.nr.2 (e2▸e)
  rw [e2] at e
  have:=Option.some.inj e
  omega
 ·intro q hq hlt
  rcases hq with e | e | e | e | e
  ·exact h.z q (.inl e) hlt
  ·exact h.z q (.inr (.inl e)) hlt
  ·exact h.z q (.inr (.inr (.inl e))) hlt
  ·exact h.z q (.inr (.inr (.inr (.inl e)))) hlt
  rcases hm with e2 | ⟨u,e2,e3⟩
  ·exact h.z q (.inr (.inr (.inr (.inr (e2▸e))))) hlt
  rw [e2] at e
  have:=Option.some.inj e
  have:=h.f.size
  omega
 rintro q (e | e) hlt
 ·exact h.z q (.inr (.inr (.inr (.inl e)))) hlt
 exact h.z q (.inr (.inr (.inr (.inr e)))) hlt
theorem DzAt.frmOut {N:Nat→Prop} (h:DzAt Z w0 w k g st rep s all wv) (hf:Frm N w w') (hN:∀ q,N q→w.heap.size≤q):DzAt Z w0 w' k g st rep s all wv:=by
 have hf':Frm (fun _=>False) w w':=⟨hf.os,hf.tape,hf.output,hf.size,fun q hq _=>hf.block q hq (fun hn=>by have:=hN q hn;omega)⟩
 exact ⟨h.lz.later (DCr.keep _ _ _) hf',⟨h.win.p.frm hf' id,h.win.o.frm hf' (fun _ _ h=>h)⟩,h.nr,Nat.le_trans h.bs hf.size,h.z,h.f.transW hf' (fun _ h=>h.elim)⟩
theorem DzAt.drewN (h:DzAt Z w0 w k g st rep s all wv) (n:Nat):DzAt Z w0 (w.drewN n) k g st rep s all wv:=h.frmOut ((Frm.refl (fun _=>False) w).drewN n) (fun _ h=>h.elim)
theorem DzAt.drew (h:DzAt Z w0 w k g st rep s all wv):DzAt Z w0 w.drew k g st rep s all wv:=h.drewN 1
theorem DzAt.alloc (h:DzAt Z w0 w k g st rep s all wv) (X:Obj):DzAt Z w0 (w.alloc X) k g st rep s all wv:=h.frmOut ((Frm.refl (fun _=>False) w).alloc X) (fun _ h=>h.elim)
theorem DzAt.below (h:DzAt Z w0 w k g st rep s all wv) (hb:Below w.heap.size w w'):DzAt Z w0 w' k g st rep s all wv:=h.frmOut (Frm.of_below (S:=fun _=>False) hb) (fun _ h=>h.elim)
theorem DzAt.hd (h:DzAt Z w0 w k g st rep s all wv) {i:Nat} (hi:i<8):w.cell? ⟨k.sb,i,none⟩=some (mcell k st rep s.pr i)∧w.frozen? ⟨k.sb,i,none⟩=false:=h.lz.hdr hi
theorem DzAt.st3 (h:DzAt Z w0 w k g st rep s all wv):w.cell? ⟨k.sb,3,none⟩=some (.int .i64 st)∧w.frozen? ⟨k.sb,3,none⟩=false:=h.hd (by omega)
theorem DzAt.rp (h:DzAt Z w0 w k g st rep s all wv) (i:Nat) (hi:i<4):w.cell? ⟨k.sb,4+i,none⟩=some (.int .u32 (rep i:Int))∧w.frozen? ⟨k.sb,4+i,none⟩=false:=by
 refine ⟨?_,(h.hd (i:=4+i) (by omega)).2⟩
 rw [(h.hd (i:=4+i) (by omega)).1]
 unfold mcell
 rw [if_neg (by omega),if_neg (by omega),if_neg (by omega),if_neg (by omega),if_pos (by omega),show 4+i-4=i by omega]
theorem DzAt.putSt (st':Nat) (h:DzAt Z w0 w k g st rep s all wv):DzAt Z w0 (w.setCell ⟨k.sb,3,none⟩ (.int .i64 (st':Int))) k g st' rep s all wv:=by
 obtain ⟨a,b⟩:=h.lz.putSt st' (DCr.keep _ _ _)
 exact h.lzStep a b
theorem DzAt.putRep (i v:Nat) (hi:i<4) (h:DzAt Z w0 w k g st rep s all wv):DzAt Z w0 (w.setCell ⟨k.sb,4+i,none⟩ (.int .u32 (v:Int))) k g st (fun j=>if j=i then v else rep j) s all wv:=by
 obtain ⟨a,b⟩:=h.lz.putRep i v hi (DCr.keep _ _ _)
 exact h.lzStep a b
end
def DStep (Z:Nat→Prop) (w0:World) (k:LK) (g:DB) (all:List UInt8) (R:Option (List UInt8×RS)) (e:Ending) (w':World):Prop :=
 (R=none∧(∃ A n c,e=.returned (.tuple #[.slice A n c,.bool false]))∧Frm Z w0 w') ∨
 (∃ b y A c wv',R=some (b,y)∧e=.returned (.tuple #[.slice A b.length c,.bool true])∧BRow w' w'.heap.size A b∧DzAt Z w0 w' k g y.st y.rep y.s (all++b) wv'∧y.C=lastN g.S (all++b))
open Go.RowKit Win
set_option maxRecDepth 100000 in
set_option maxHeartbeats 1000000 in
theorem rcopy_big (base b k S back n:Nat) (v:Value) (all:List UInt8) (w:World) (hw:RWin w base b k S true v all) (hbase:base≤w.heap.size) (hl:all.length+n≤100000000) (hn2:n≤1000000) (h1:1≤back) (h2:back≤S) (h3:back≤all.length) :
 Calls Tryz.prog 166 #[.pointer (some ⟨b,0,none⟩),.int .i64 back,.int .i64 n] w fun e w'=>∃ (A:Option Addr) (c:Nat) (v':Value),e=.returned (.tuple #[.slice A n c,.int .i64 0])∧BRow w' w'.heap.size A (cyc all back n) ∧
  RWin w' base b k S true v' (all++cyc all back n)∧Frm (fun x=>x=b∨v.ownBlock=some x) w w'∧Mvd w v v':=by
 have c2:w.cell? ⟨b,2,none⟩=some (.bool false):=by rw [hw.p.cell];rfl
 have HA:=hid (rat_yes base b k S back v all w hw h1 h2 h3 (by omega))
 obtain ⟨cy,hcy⟩:∃ cy,cyc all back n=cy:=⟨_,rfl⟩
 rw [hcy]
 have hcl:cy.length=n:=by rw [← hcy,cyc_length]
 have HST:Hid (∀ i,i<n→(all++cy.take i).getD (all.length+i-back) 0=cy.getD i 0):=hid (fun i hi=>by rw [← hcy];exact copy_step h1 h3 hi)
 have HW:=hid hw
 have HBS:=hid hbase
 have hcell0:w.cell? ⟨b,0,none⟩=some v:=by rw [hw.p.cell];rfl
 obtain ⟨A0,k0,rfl,hc0,hm0,hr0⟩:=hw.o.slice
 have hbk:=hw.p.lt
 clear hw hcy hr0 hc0 hm0 hbase
 go_enter Tryz.func166,Tryz.ntmps166
 have hqn:decide (16777216<n)=false:=decide_eq_false (by omega)
 go_wp2_with fail
 refine HA.out.mono ?_;rintro e w2 ⟨rfl,dd,rfl⟩
 have e0:(w.drewN dd).cell? ⟨b,0,none⟩=some (.slice A0 all.length k0):=hcell0
 have W2:Hid (RWin (w.drewN dd) base b k S true (.slice A0 all.length k0) all):=hid ⟨HW.out.p.drewN dd,HW.out.o.drewN dd⟩
 have F2:Hid (Frm (fun x=>x=b∨(Value.slice A0 all.length k0).ownBlock=some x) w (w.drewN dd)):=hid ((Frm.refl _ w).drewN dd)
 generalize w.drewN dd=wd at *
 clear HA c2
 go_wp2
 go_loopw [11] (fun iv wr=>∃ (i:Nat) (cv:Value),iv=.int .i64 i∧i≤n∧RWin wr base b k S true cv (all++cy.take i)∧Frm (fun x=>x=b∨(Value.slice A0 all.length k0).ownBlock=some x) w wr∧Mvd w (.slice A0 all.length k0) cv) (fun iv _=>n-(intOf iv).toNat)
 case atStart=>exact ⟨0,_,rfl,by omega,by rw [List.take_zero,List.append_nil];exact W2.out,F2.out,.inl rfl⟩
 case round =>
 obtain ⟨i,cv,rfl,hi,hrw,hfr,hmv⟩:=hrel
 clear W2 F2 e0 hcell0
 have e0:wr.cell? ⟨b,0,none⟩=some cv:=by rw [hrw.p.cell];rfl
 have f0:=hrw.p.frozen 0
 have hnb:=hrw.nb
 obtain ⟨cur,hcu⟩:∃ cur,all++cy.take i=cur:=⟨_,rfl⟩
 rw [hcu] at hrw
 have hcul:cur.length=all.length+i:=by rw [← hcu,List.length_append,List.length_take];omega
 have hwr:base≤wr.heap.size:=Nat.le_trans HBS.out hfr.size
 obtain ⟨A1,k1,rfl,hc1,hm1,hr1⟩:=hrw.o.slice
 have RW:=hid hrw
 have FR:=hid hfr
 have MV:=hid hmv
 have NB:=hid hnb
 have CU:=hid hcu
 have CUL:=hid hcul
 rw [hcul] at RW MV NB e0 hc1
 clear hrw hfr hmv hnb hcu
 by_cases hlt:i<n
 ·obtain ⟨g,off,rfl,hg,hc⟩:=hr1 (by omega)
  have e1:=hc (cur.length-back) (by omega)
  have hx:=HST.out i hlt
  rw [CU.out] at hx
  rw [hcul] at e1
  rw [hx] at e1
  obtain ⟨x,hxx⟩:∃ x,cy.getD i 0=x:=⟨_,rfl⟩
  rw [hxx] at e1
  unfold byteV at e1
  obtain ⟨q,hq⟩:∃ q,all.length+i-back=q:=⟨_,rfl⟩
  rw [hq] at e1
  obtain ⟨L,hL⟩:∃ L,all.length+i=L:=⟨_,rfl⟩
  rw [hL] at RW MV NB e0 hc1 hq CUL
  have hsub:(L:Int)-(back:Int)=(q:Int):=by omega
  have hwq:IntKind.i64.wrap (q:Int)=(q:Int):=Go.IntWalk.i64_in _ (by omega)
  have hlq:q<L:=by omega
  have HXX:=hid hxx
  have HL:=hid hL
  clear hx hxx hr1 hc hcul hL hq
  have PA:=RW.out.p.alloc (.cells #[.int .u8 (x.toNat:Int)] 5)
  have e0':(wr.alloc (.cells #[.int .u8 (x.toNat:Int)] 5)).cell? ⟨b,0,none⟩=some (.slice (some ⟨g,off,none⟩) L k1):=by rw [PA.cell];rfl
  have f0':=PA.frozen 0
  clear PA
  have hll:cur.length+[x].length≤140737488355328:=by have:=CUL.out;have:=HL.out;simp;omega
  have hb2:base≤(wr.alloc (.cells #[.int .u8 (x.toNat:Int)] 5)).heap.size:=by show base≤(wr.heap.push _).size;rw [Array.size_push];omega
  have O1:Hid (OwnB (wr.drew.alloc (.cells #[.int .u8 (x.toNat:Int)] 5)) 5 base (.slice (some ⟨g,off,none⟩) L k1) cur):=hid ((RW.out.o.drewN 1).alloc _)
  go_wp2
  go_region_law (refine step_append_bytes _ rfl (.tmp 44) (.tmp 58) 22 rfl 5 base Tryz.underlying22 Tryz.info_u8 (.slice (some ⟨g,off,none⟩) L k1) cur rfl O1.out (some ⟨wr.heap.size,0,none⟩) 1 1 (wr.heap.size+1) [x] rfl rfl (BRow.oneW (wr.drewN 1) _ x) hll hb2 ?_;intro v2 w2 hown2 hfrm2 hnew2;obtain ⟨A2,k2,rfl,hc2,hm2,hr2⟩:=hown2.slice;have hp2:=((RW.out.p.drewN 1).alloc _).frm hfrm2 (fun e=>NB.out e);have z4:w2.cell? ⟨b,0,none⟩=some (.slice (some ⟨g,off,none⟩) L k1):=(hp2.cell 0).trans rfl;have y4:=hp2.frozen 0)
  all_goals
   rw [show (cur++[x]).length=cur.length+1 by simp] at hown2 hnew2
   obtain ⟨L2,hL2⟩:∃ L2,cur.length+1=L2:=⟨_,rfl⟩
   rw [hL2] at hown2 hnew2 ⊢
   have hnb2:(Value.slice A2 L2 k2).ownBlock≠some b:=own_ne hown2 hp2 (by decide)
   have hmv2:Mvd w (.slice A0 all.length k0) (.slice A2 L2 k2):=by
    rcases hnew2 with h | h
    ·rcases MV.out with h' | ⟨g',h',hg'⟩
     ·exact .inl (h.trans h')
     exact .inr ⟨g',h.trans h',hg'⟩
    exact .inr ⟨_,h,by have h9:=FR.out.size;show _≤(wr.heap.push _).size;rw [Array.size_push];omega⟩
   have hf2:Frm (fun q=>q=b∨(Value.slice A0 all.length k0).ownBlock=some q) w w2:=by
    refine ((FR.out.drewN 1).alloc (.cells #[.int .u8 (x.toNat:Int)] 5)).trans' hbk hfrm2 (fun q hq hqw=>?_)
    rcases MV.out with h' | ⟨g',h',hg'⟩
    ·exact .inr (h'.symm.trans hq)
    rw [h'] at hq;injection hq with hq;omega
   have hp3:=hp2.set 0 (.slice A2 L2 k2)
   have ho3:=hown2.other (p:=⟨b,0,none⟩) hnb2 (.slice A2 L2 k2)
   have hf3:=hf2.setCell (p:=⟨b,0,none⟩) (.inl rfl) (.slice A2 L2 k2)
   have hcu3:cur++[x]=all++cy.take (i+1):=by rw [← CU.out,List.append_assoc,← HXX.out,take_snoc (by omega)]
   rw [hcu3] at ho3
   have P3:=hid hp3
   have O3:=hid ho3
   have F3:=hid hf3
   have M3:=hid hmv2
   clear hp2 hp3 ho3 hf2 hf3 hmv2 hnb2 hown2 hfrm2 hnew2 hL2 hcu3 hr2 hc2 hm2
   go_wp2
   exact ⟨⟨i+1,_,by go_num,by omega,⟨P3.out,O3.out⟩,F3.out,M3.out⟩,by simp [intOf];omega⟩
 obtain rfl:i=n:=by omega
 have hfin:cur=all++cy:=by rw [← CU.out,← hcl,List.take_length]
 have hsl:=fun w=>slice_from A1 (all.length+i) k1 all.length (by omega) hc1 w
 have hrow:BRow wr wr.heap.size (if k1=all.length then A1 else A1.map (·.add all.length)) cy:=by
  have h:=hr1.drop (k:=all.length) (cap:=k1) (by omega)
  rw [hfin,List.drop_left] at h
  exact h
 rw [show all.length+i-all.length=i by omega] at hsl
 rw [hfin] at RW
 have HRO:=hid hrow
 generalize (if k1=all.length then A1 else A1.map (·.add all.length))=A9 at *
 obtain ⟨L,hL⟩:∃ L,all.length+i=L:=⟨_,rfl⟩
 rw [hL] at RW MV NB e0 hc1 hsl
 clear hr1 hrow hL hcul
 go_wp2
 go_ret2
 exact ⟨A9,_,_,rfl,HRO.out,RW.out,FR.out,MV.out⟩
open Go.RowKit Rng Win Lz
theorem opOf_size {st p:Nat} {rep:Nat→Nat} {s:CP Dec}:1≤(opOf outC st p rep s).1∧(opOf outC st p rep s).1≤300∧(opOf outC st p rep s).2.1=(if (bitAt outC (200+st) 0 s).1=1 then behS st (if (opOf outC st p rep s).1=1 then 3 else 2) else behS st 1):=by
 unfold opOf
 simp only
 split
 ·unfold repOf
  simp only
  split
  ·split
   ·simp only
    exact ⟨by omega,by omega,by simp⟩
   have:=lenAt_lt outC 1354 2 p (bitAt outC (248+st*16+p) 0 (bitAt outC (212+st) 0 (bitAt outC (200+st) 0 s).2).2).2
   simp only
   exact ⟨by omega,by omega,by rw [if_neg (by omega)]⟩
  split
  ·have:=lenAt_lt outC 1354 2 p (bitAt outC (236+st) 0 (bitAt outC (224+st) 0 (bitAt outC (212+st) 0 (bitAt outC (200+st) 0 s).2).2).2).2
   simp only
   exact ⟨by omega,by omega,by rw [if_neg (by omega)]⟩
  have:=lenAt_lt outC 1354 2 p (bitAt outC (224+st) 0 (bitAt outC (212+st) 0 (bitAt outC (200+st) 0 s).2).2).2
  simp only
  exact ⟨by omega,by omega,by rw [if_neg (by omega)]⟩
 have:=lenAt_lt outC 840 2 p (bitAt outC (200+st) 0 s).2
 simp only
 exact ⟨by omega,by omega,trivial⟩
theorem shift3 (rep:Nat→Nat):(fun j=>if j=1 then rep 0 else if j=2 then rep 1 else if j=3 then rep 2 else rep j)=shiftN rep 3:=by
 funext j
 unfold shiftN
 by_cases h1:j=1
 ·subst h1;rfl
 by_cases h2:j=2
 ·subst h2;rfl
 by_cases h3:j=3
 ·subst h3;rfl
 rw [if_neg h1,if_neg h2,if_neg h3,if_neg (by omega)]
theorem row_keep {w w':World} {N:Nat→Prop} {q:Nat} {x:UInt8} (h:BRow w (q+1) (some ⟨q,0,none⟩) [x]) (hf:Frm N w w') (hn:¬ N q):BRow w' (q+1) (some ⟨q,0,none⟩) [x] :=
 h.offN (fun _ ad e hk=>by injection e with e;rw [← e] at hk;exact hn hk) hf
section
variable {Z : Nat → Prop} {w0 w w' : World} {k : LK} {g : DB} {st : Nat} {rep : Nat → Nat} {s : CP Dec} {all : List UInt8} {wv : Value}
set_option maxRecDepth 100000 in
set_option maxHeartbeats 600000 in
theorem dstep_p (h:DzAt Z w0 w k g st rep s all wv) (hk:k.Ok) (total room:Nat) (ht:total<4611686018427387904) (hst:st<12) (hrep:∀ j,rep j<4294967296) (hS:1≤g.S∧g.S≤16777216) (hroom:1≤room∧room≤4294967296) (hl:all.length≤60000000) :
 Calls Tryz.prog 147 #[.pointer (some ⟨k.sb,0,none⟩),.pointer (some ⟨g.db,0,none⟩),.pointer (some ⟨g.wb,0,none⟩),.int .i64 total,.int .i64 room] w (DStep Z w0 k g all (stepOf k g.S total room ⟨st,rep,s,lastN g.S all⟩)):=by
 obtain ⟨R,hR⟩:∃ R,stepOf k g.S total room ⟨st,rep,s,lastN g.S all⟩=R:=⟨_,rfl⟩
 rw [hR]
 unfold stepOf at hR
 dsimp only at hR
 have c2:w.cell? ⟨k.sb,2,none⟩=some (.int .i64 k.pb):=(h.hd (i:=2) (by omega)).1
 have hpb:=hk.b
 have HK:=hid hk
 have HST:=hid hst
 have HREP:=hid hrep
 have HS:=hid hS
 have HRM:=hid hroom
 have HL:=hid hl
 have HTT:=hid ht
 have HH:=hid h
 obtain ⟨ex,he⟩:∃ e,k.pb=e:=⟨_,rfl⟩
 rw [he] at c2 hpb hR
 have hP1:2 ^ ex≤2 ^ 4:=Nat.pow_le_pow_right (by omega) hpb
 obtain ⟨P,hP⟩:∃ P,2 ^ ex=P:=⟨_,rfl⟩
 have hPi:(2:Int) ^ ex=(P:Int):=by rw [← hP];simp
 have hm:=and_mask ht hP (by omega)
 rw [hP] at hP1 hR
 obtain ⟨p,hp⟩:∃ R,total % P=R:=⟨_,rfl⟩
 have hp16:p<16:=by rw [← hp];exact Nat.lt_of_lt_of_le (Nat.mod_lt _ (by rw [← hP];exact Nat.one_le_two_pow)) hP1
 rw [hp] at hm hR
 have hpi:(p:Int)<16:=by omega
 have hsti:(st:Int)<12:=by omega
 obtain ⟨d3,-⟩:=h.st3
 obtain ⟨⟨a,sa⟩,ha⟩:∃ x,bitAt outC (8+st*16+p) 0 s=x:=⟨_,rfl⟩
 have hal:a≤1:=by have:=bitAt_le outC (8+st*16+p) 0 s;rw [ha] at this;exact this
 rw [ha] at hR
 dsimp only at hR
 have HA:=hid ha
 have HR:=hid hR
 have P0:=hid (plm k (i:=8+st*16+p) (by omega) (by omega))
 have HD:=hid h.drew
 have hPb:P≤16:=hP1
 clear h hk hst hrep hS hroom hl ht he hP hp hR ha hP1
 go_enter Tryz.func147,Tryz.ntmps147
 go_upto_region 2 with fail
 clear hm hPi hpb c2 hPb
 go_still_tail 11,(by kernel_rfl)
 change wpList _ _ _ _ _ w.drew
 go_wp2_with fail
 refine (dz_bit HD.out.lz (8+st*16+p) k.sb (8+st*16+p) P0.out.1 P0.out.2).mono ?_;rintro e w2 ⟨rfl,h2,f2⟩
 rw [HA.out] at h2 ⊢
 dsimp only at h2 ⊢
 have H2:=hid (HD.out.lzStep h2 f2)
 clear h2 f2 HD d3
 by_cases ha0:a=0
 ·have hR:=HR.out
  rw [if_pos ha0] at hR
  have qa:((a:Int)==0)=true:=beq_iff_eq.2 (by omega)
  obtain ⟨⟨b,sl⟩,hb⟩:∃ x,litOf outC k st total rep (lastN g.S all) sa=x:=⟨_,rfl⟩
  have hbl:b<256:=by
   have:=litAt_lt outC k.lc k.lp st total (if 0<total then (atB (lastN g.S all) 1).toNat else 0) (if rep 0<16777216 then (atB (lastN g.S all) (rep 0+1)).toNat else 0) 0 sa
   have e:litOf outC k st total rep (lastN g.S all) sa=litAt outC k.lc k.lp st total (if 0<total then (atB (lastN g.S all) 1).toNat else 0) (if rep 0<16777216 then (atB (lastN g.S all) (rep 0+1)).toNat else 0) 0 sa:=rfl
   rw [← e,hb] at this
   exact this
  rw [hb] at hR
  dsimp only at hR
  obtain ⟨x,rfl⟩:∃ x:UInt8,x.toNat=b:=⟨UInt8.ofNat b,by rw [UInt8.toNat_ofNat'];omega⟩
  rw [UInt8.ofNat_toNat] at hR
  have HB:=hid hb
  have HR2:=hid hR
  obtain ⟨xn,hxn⟩:∃ n,x.toNat=n:=⟨_,rfl⟩
  have HXN:=hid hxn
  clear ha0 hR hb hal HR hbl
  go_wp2_with fail
  refine (dliteral_p g.db g.rb g.R 180 k g.bw g.wb g.kb g.S st total rep sa wv all _ H2.out.lz H2.out.win HK.out HTT.out (by have:=HL.out;omega)).mono ?_;rintro e w3 ⟨rfl,h3,f3⟩
  rw [HB.out] at h3 ⊢
  dsimp only at h3 ⊢
  have H3:=hid (H2.out.lzStep h3 f3)
  rw [hxn]
  clear h3 f3 hxn
  have hrow:BRow (w3.alloc (.cells #[.int .u8 (xn:Int)] 5)) (w3.heap.size+1) (some ⟨w3.heap.size,0,none⟩) [x]:=by
   have:=BRow.oneW w3 5 x
   rw [HXN.out] at this
   exact this
  have HRW:=hid hrow
  clear hrow
  go_wp2_with fail
  refine (rput_on g.bw g.wb g.kb g.S 1 (w3.heap.size+1) 1 wv all [x] (some ⟨w3.heap.size,0,none⟩) _ (H3.out.alloc _).win rfl HRW.out (by have:=HL.out;simp;omega) (by have:=H3.out.bs;simp;omega)).mono ?_;rintro e w4 ⟨wv4,rfl,h4,f4,m4⟩
  have H4:=hid ((H3.out.alloc _).winStep h4 f4 m4)
  have HRW4:=hid (row_keep HRW.out f4 (by
   rintro (e | e)
   ·have:=H3.out.win.p.lt;omega
   have:=(H3.out.win.o.lt e).2;omega))
  have Z4:=hid f4.size
  have d3:=H4.out.st3.1
  clear h4 f4 m4
  go_wp2_with fail
  refine (dbehind_p st 0 _ HST.out (by omega)).mono ?_;rintro e w5 ⟨rfl,hb5⟩
  have H5:=hid (H4.out.below hb5)
  have HRW5:=hid (row_keep HRW4.out (Frm.of_below (S:=fun _=>False) hb5) (fun h=>h))
  have Z5:=hid hb5.size
  obtain ⟨d5,e5⟩:=H5.out.st3
  have H6:=hid (H5.out.putSt (behS st 0))
  have HRW6:=hid (row_keep HRW5.out ((Frm.refl (· = k.sb) w5).setCell (p:=⟨k.sb,3,none⟩) rfl (.int .i64 (behS st 0:Nat))) (fun e=>by have:=H3.out.lz.m.lt;omega))
  clear hb5 d3
  go_wp2
  go_ret2
  refine .inr ⟨[x],_,_,_,wv4,HR2.out.symm,rfl,?_,H6.out,?_⟩
  ·refine HRW6.out.more ?_
   have z4:=Z4.out
   have z5:=Z5.out
   rw [World.size_alloc] at z4
   show _≤(w5.heap.modify _ _).size
   rw [Array.size_modify]
   omega
  exact lastN_lastN _ _ _
 have hR:=HR.out
 rw [if_neg ha0] at hR
 have qa:((a:Int)==0)=false:=beq_eq_false_iff_ne.2 (by omega)
 obtain ⟨OP,hOP⟩:∃ x,opOf outC st p rep sa=x:=⟨_,rfl⟩
 have hsz:=opOf_size (st:=st) (p:=p) (rep:=rep) (s:=sa)
 have hinv:=opOf_inv outC p sa HST.out HREP.out
 rw [hOP] at hR hsz hinv
 obtain ⟨⟨c,sc⟩,hc⟩:∃ x,bitAt outC (200+st) 0 sa=x:=⟨_,rfl⟩
 have hcl:c≤1:=by have:=bitAt_le outC (200+st) 0 sa;rw [hc] at this;exact this
 rw [hc] at hsz
 dsimp only at hsz
 unfold opOf at hOP
 rw [hc] at hOP
 dsimp only at hOP
 have HR2:=hid hR
 have HOP:=hid hOP
 have HSZ:=hid hsz
 have HINV:=hid hinv
 have HC:=hid hc
 have P1:=hid (plm k (i:=200+st) (by omega) (by omega))
 have HD:=hid H2.out.drew
 obtain ⟨d3,-⟩:=H2.out.st3
 clear ha0 hR hOP hsz hinv hc hal HR
 go_upto_region 8 with fail
 go_still_tail 9,(by kernel_rfl)
 change wpList _ _ _ _ _ w2.drew
 go_wp2_with fail
 refine (dz_bit HD.out.lz (200+st) k.sb (200+st) P1.out.1 P1.out.2).mono ?_;rintro e w3 ⟨rfl,h3,f3⟩
 rw [HC.out] at h3 ⊢
 dsimp only at h3 ⊢
 have H3:=hid (HD.out.lzStep h3 f3)
 clear h3 f3 HD d3
 go_upto_if 67 with fail
 go_cut [14] from 15 (fun v wx=>v=.int .i64 (OP.1:Int)∧DzAt Z w0 wx k g OP.2.1 OP.2.2.1 OP.2.2.2 all wv)
 case first =>
  by_cases hc0:c=0
  ·have qc:((c:Int)==0)=true:=beq_iff_eq.2 (by omega)
   go_upto_region 9 with fail
   have hOP:=HOP.out
   rw [if_neg (by omega)] at hOP
   obtain ⟨⟨ls,sl⟩,hls⟩:∃ x,lenAt outC 840 2 p sc=x:=⟨_,rfl⟩
   rw [hls] at hOP
   dsimp only at hOP
   obtain ⟨⟨ds,sd⟩,hds⟩:∃ x,distAt outC 0 ls sl=x:=⟨_,rfl⟩
   rw [hds] at hOP
   dsimp only at hOP
   have hlb:=lenAt_lt outC 840 2 p sc
   rw [hls] at hlb
   dsimp only at hlb
   have HLS:=hid hls
   have HDS:=hid hds
   have HO2:=hid hOP
   clear hc0 hOP hls hds HOP hcl
   -- the three moves
   have r2:w3.cell? ⟨k.sb,6,none⟩=some (.int .u32 (rep 2:Int)):=(H3.out.rp 2 (by omega)).1
   have r3c:w3.cell? ⟨k.sb,7,none⟩=some (.int .u32 (rep 3:Int)):=(H3.out.rp 3 (by omega)).1
   have r3f:w3.frozen? ⟨k.sb,7,none⟩=false:=(H3.out.rp 3 (by omega)).2
   go_still_tail 9,(by kernel_rfl)
   change wpList _ _ _ _ _ w3.drew
   go_upto_region 10 with fail
   obtain ⟨w4,hw4⟩:∃ W,(w3.setCell ⟨k.sb,7,none⟩ (.int .u32 (rep 2:Int))).drew=W:=⟨_,rfl⟩
   have H4:Hid (DzAt Z w0 w4 k g st (fun j=>if j=3 then rep 2 else rep j) sc all wv):=hid (by rw [← hw4];exact (H3.out.putRep 3 (rep 2) (by omega)).drew)
   rw [hw4]
   clear hw4 r2 r3c r3f
   have r1:w4.cell? ⟨k.sb,5,none⟩=some (.int .u32 (rep 1:Int)):=by have:=(H4.out.rp 1 (by omega)).1;simpa using this
   have r2c:w4.cell? ⟨k.sb,6,none⟩=some (.int .u32 (rep 2:Int)):=by have:=(H4.out.rp 2 (by omega)).1;simpa using this
   have r2f:w4.frozen? ⟨k.sb,6,none⟩=false:=(H4.out.rp 2 (by omega)).2
   go_still_tail 9,(by kernel_rfl)
   change wpList _ _ _ _ _ w4.drew
   go_upto_region 11 with fail
   obtain ⟨w5,hw5⟩:∃ W,(w4.setCell ⟨k.sb,6,none⟩ (.int .u32 (rep 1:Int))).drew=W:=⟨_,rfl⟩
   have H5:Hid (DzAt Z w0 w5 k g st (fun j=>if j=2 then rep 1 else if j=3 then rep 2 else rep j) sc all wv):=hid (by rw [← hw5];exact (H4.out.putRep 2 (rep 1) (by omega)).drew)
   rw [hw5]
   clear hw5 r1 r2c r2f
   have r0:w5.cell? ⟨k.sb,4,none⟩=some (.int .u32 (rep 0:Int)):=by have:=(H5.out.rp 0 (by omega)).1;simpa using this
   have r1c:w5.cell? ⟨k.sb,5,none⟩=some (.int .u32 (rep 1:Int)):=by have:=(H5.out.rp 1 (by omega)).1;simpa using this
   have r1f:w5.frozen? ⟨k.sb,5,none⟩=false:=(H5.out.rp 1 (by omega)).2
   go_still_tail 9,(by kernel_rfl)
   change wpList _ _ _ _ _ w5.drew
   go_upto_region 12 with fail
   obtain ⟨w6,hw6⟩:∃ W,(w5.setCell ⟨k.sb,5,none⟩ (.int .u32 (rep 0:Int))).drew=W:=⟨_,rfl⟩
   have H6:Hid (DzAt Z w0 w6 k g st (shiftN rep 3) sc all wv):=hid (by rw [← hw6,← shift3];exact (H5.out.putRep 1 (rep 0) (by omega)).drew)
   rw [hw6]
   clear hw6 r0 r1c r1f
   go_wp2_with fail
   refine (dlen_p g.db g.rb g.R 180 k st (shiftN rep 3) sc 840 p _ H6.out.lz (.inl rfl) (by omega)).mono ?_;rintro e w7 ⟨rfl,h7,f7⟩
   rw [HLS.out] at h7 ⊢
   dsimp only at h7 ⊢
   have H7:=hid (H6.out.lzStep h7 f7)
   have d3:=H7.out.st3.1
   clear h7 f7
   go_wp2_with fail
   refine (dbehind_p st 1 _ HST.out (by omega)).mono ?_;rintro e w8 ⟨rfl,hb8⟩
   have H8:=hid (H7.out.below hb8)
   obtain ⟨d8,e8⟩:=H8.out.st3
   clear hb8 d3
   go_upto_region 14 with fail
   obtain ⟨w9,hw9⟩:∃ W,w8.setCell ⟨k.sb,3,none⟩ (.int .i64 (behS st 1:Nat))=W:=⟨_,rfl⟩
   have H9:Hid (DzAt Z w0 w9 k g (behS st 1) (shiftN rep 3) sl all wv):=hid (by rw [← hw9];exact H8.out.putSt (behS st 1))
   rw [hw9]
   clear hw9 d8 e8
   have HD9:=hid H9.out.drew
   obtain ⟨hl1,hl2⟩:=hlb
   go_region_with (first
    | (go_at_call 164;refine (ddist_p g.db g.rb g.R 180 k (behS st 1) (shiftN rep 3) sl ls _ HD9.out.lz hl1 hl2).mono ?_;rintro e w10 ⟨rfl,h10,f10⟩;rw [HDS.out] at h10 ⊢;have hx10:=HD9.out.lzStep h10 f10;have r0c:w10.cell? ⟨k.sb,4,none⟩=some (.int .u32 (shiftN rep 3 0:Int)):=(hx10.rp 0 (by omega)).1;have r0f:w10.frozen? ⟨k.sb,4,none⟩=false:=(hx10.rp 0 (by omega)).2))
   all_goals
    have H10:=hid (hx10.putRep 0 ds (by omega))
    clear hx10 r0c r0f h10 f10
    go_wp2
    go_meet
    case rel=>rw [← HO2.out];exact ⟨rfl,H10.out⟩
  have qc:((c:Int)==0)=false:=beq_eq_false_iff_ne.2 (by omega)
  have hc1:c=1:=by omega
  have hOP:=HOP.out
  rw [if_pos hc1] at hOP
  have hsz:=HSZ.out
  rw [if_pos hc1] at hsz
  have HO2:=hid hOP
  have HZ2:=hid hsz
  clear hc0 hc1 hOP hsz HOP hcl
  go_wp2_with fail
  refine (dagain_p g.db g.rb g.R 180 k st p rep sc _ H3.out.lz HST.out hp16).mono ?_;rintro e w4 ⟨rfl,h4,f4⟩
  rw [HO2.out] at h4 ⊢
  have H4:=hid (H3.out.lzStep h4 f4)
  have d3:=H4.out.st3.1
  clear h4 f4
  by_cases h1:OP.1=1
  ·have q1:((OP.1:Int)==1)=true:=beq_iff_eq.2 (by omega)
   have e1:OP.2.1=behS st 3:=by have:=HZ2.out.2.2;rw [if_pos h1] at this;exact this
   have HE1:=hid e1
   clear h1 e1
   obtain ⟨sz,hsz⟩:∃ z,OP.1=z:=⟨_,rfl⟩
   rw [hsz] at q1 ⊢
   have HSZ2:=hid hsz
   clear hsz
   go_wp2_with fail
   refine (dbehind_p st 3 _ HST.out (by omega)).mono ?_;rintro e w8 ⟨rfl,hb8⟩
   have H8:=hid (H4.out.below hb8)
   obtain ⟨d8,e8⟩:=H8.out.st3
   have H9:=hid (H8.out.putSt (behS st 3))
   clear hb8 d3
   go_wp2
   go_meet
   case rel=>rw [HE1.out,HSZ2.out];exact ⟨rfl,H9.out⟩
  have q1:((OP.1:Int)==1)=false:=beq_eq_false_iff_ne.2 (by omega)
  have e1:OP.2.1=behS st 2:=by have:=HZ2.out.2.2;rw [if_neg h1] at this;exact this
  have HE1:=hid e1
  clear h1 e1
  obtain ⟨sz,hsz⟩:∃ z,OP.1=z:=⟨_,rfl⟩
  rw [hsz] at q1 ⊢
  have HSZ2:=hid hsz
  clear hsz
  go_wp2_with fail
  refine (dbehind_p st 2 _ HST.out (by omega)).mono ?_;rintro e w8 ⟨rfl,hb8⟩
  have H8:=hid (H4.out.below hb8)
  obtain ⟨d8,e8⟩:=H8.out.st3
  have H9:=hid (H8.out.putSt (behS st 2))
  clear hb8 d3
  go_wp2
  go_meet
  case rel=>rw [HE1.out,HSZ2.out];exact ⟨rfl,H9.out⟩
 case rest =>
 obtain ⟨rfl,h4⟩:=hcut
 have H4:=hid h4
 obtain ⟨⟨sz,sn,rn,cn⟩,rfl⟩:∃ x:Nat×Nat×(Nat→Nat)×CP Dec,x=OP:=⟨OP,rfl⟩
 dsimp only at h4 ⊢
 have hR:(if sz≤room∧rn 0+1≤(lastN g.S all).length then some (cyc (lastN g.S all) (rn 0+1) sz,(⟨sn,rn,cn,lastN g.S (lastN g.S all++cyc (lastN g.S all) (rn 0+1) sz)⟩:RS)) else none)=R:=HR2.out
 have hsz:=HSZ.out
 have hin:=HINV.out
 dsimp only at hsz hin
 obtain ⟨hs1,hs2,-⟩:=hsz
 obtain ⟨r0,hr0⟩:∃ r,rn 0=r:=⟨_,rfl⟩
 have hcr:=(h4.rp 0 (by omega)).1
 have r0c:wc.cell? ⟨k.sb,4,none⟩=some (.int .u32 (r0:Int)):=by rw [← hr0];exact hcr
 have hlen:=lastN_length g.S all
 rw [hr0] at hR
 have H4:=hid h4
 have HR3:=hid hR
 have HLN:=hid hlen
 have hr32:r0<4294967296:=by rw [← hr0];exact hin.2.2.2 0
 have HR32:=hid hr32
 clear h4 hcr hR hlen hin hr0 hr32 HR2 HSZ HINV HOP H2 H3
 by_cases hroom:room<sz
 ·have q1:(room:Int)<(sz:Int):=by omega
  have HN:Hid (none=R):=hid (by have:=HR3.out;rw [if_neg (by omega)] at this;exact this)
  clear hroom HR3
  go_wp2
  go_ret2
  exact .inl ⟨HN.out.symm,⟨_,_,_,rfl⟩,H4.out.f⟩
 have q1:¬ (room:Int)<(sz:Int):=by omega
 have HRM2:=hid hroom
 clear hroom
 go_upto_if 142 with fail
 by_cases hbig:16777216≤r0
 ·have hb1:decide ((16777216:Int)≤(r0:Int))=true:=decide_eq_true (by omega)
  have HN:Hid (none=R):=hid (by
   have:=HR3.out
   have hS:=HS.out
   have hL:=HLN.out
   rw [if_neg (by omega)] at this
   exact this)
  simp only [hb1]
  clear hbig HR3 hb1
  go_wp2
  go_ret2
  exact .inl ⟨HN.out.symm,⟨_,_,_,rfl⟩,H4.out.f⟩
 have hb1:decide ((16777216:Int)≤(r0:Int))=false:=decide_eq_false (by omega)
 simp only [hb1]
 obtain ⟨r1,hr1⟩:∃ r,r0+1=r:=⟨_,rfl⟩
 have hz:(r0:Int)+1=(r1:Int):=by omega
 have hw0:IntKind.i64.wrap (r0:Int)=(r0:Int):=Go.IntWalk.i64_in _ (by omega)
 have hw1:IntKind.i64.wrap (r1:Int)=(r1:Int):=Go.IntWalk.i64_in _ (by omega)
 have HR1:=hid (And.intro hr1 (show r0<16777216 by omega))
 clear hbig hb1 hr1
 by_cases hok:r1≤g.S∧r1≤all.length
 ·have HOK:=hid hok
  have HN:Hid (some (cyc all r1 sz,(⟨sn,rn,cn,lastN g.S (lastN g.S all++cyc all r1 sz)⟩:RS))=R):=hid (by
   have:=HR3.out
   have hL:=HLN.out
   have h1:=HR1.out.1
   have h2:=HRM2.out
   rw [if_pos (by omega),h1,cyc_last (by omega) hok.1 hok.2] at this
   exact this)
  clear hok HR3
  go_wp2_with fail
  refine (rcopy_big g.bw g.wb g.kb g.S r1 sz wv all _ H4.out.win H4.out.bs (by have:=HL.out;omega) (by omega) (by have:=HR1.out.1;omega) HOK.out.1 HOK.out.2).mono ?_;rintro e w5 ⟨A5,c5,v5,rfl,hr5,h5,f5,m5⟩
  have H5:=hid (H4.out.winStep h5 f5 m5)
  have HR5:=hid hr5
  clear hr5 h5 f5 m5
  go_wp2
  go_ret2
  refine .inr ⟨cyc all r1 sz,_,A5,c5,v5,HN.out.symm,by rw [cyc_length];rfl,HR5.out,H5.out,?_⟩
  exact lastN_lastN _ _ _
 have HN:Hid (none=R):=hid (by
  have:=HR3.out
  have hL:=HLN.out
  have h1:=HR1.out.1
  rw [if_neg (by omega)] at this
  exact this)
 have HOK:=hid hok
 clear hok HR3
 go_wp2_with fail
 refine (rcopy_bad g.bw g.wb g.kb g.S (r1:Int) (sz:Int) wv all _ H4.out.win (by omega) (by have:=HOK.out;have:=HR1.out.1;omega)).mono ?_;rintro e w5 ⟨rfl,rfl⟩
 go_wp2
 go_ret2
 exact .inl ⟨HN.out.symm,⟨_,_,_,rfl⟩,H4.out.f⟩
end
end Go.Proofs.YtffehfpbdcokbaaGreat
