import Derived.Test.YtffehfpbdcokbaaGreatBu4
import Derived.Test.YtffehfpbdcokbaaGreatBu13
set_option linter.unusedVariables false
set_option linter.unusedSimpArgs false
namespace Go.Proofs.YtffehfpbdcokbaaGreat
open Lib (hid)
open Go.RowKit Rng Win Lz
set_option maxRecDepth 100000 in
set_option maxHeartbeats 2000000 in
theorem dprops_p (p k0 lc lp pb st:Nat) (rep:Nat→Nat) (pr:Pr) (lv:Value) (T:TypeId) (w:World) (hp:Pts w k0 (qcells lc lp pb st rep pr lv) T) (hlv:∃ A n c,lv=.slice A n c) (hb:p≤255) :
 Calls Tryz.prog 126 #[.pointer (some ⟨k0,0,none⟩),.int .u8 p] w fun e w'=>e=.returned (.int .i64 (if 224<p∨4<p % 9+p / 9 % 5 then 11 else 0))∧Frm (· = k0) w w' ∧
  (¬ (224<p∨4<p % 9+p / 9 % 5)→∃ lb,w.heap.size≤lb∧Pts w' k0 (mcells ⟨k0,lb,p % 9,p / 9 % 5,p / 45⟩ 0 (fun _=>0) (fun _=>1024)) T∧Pts w' lb (lcells ⟨k0,lb,p % 9,p / 9 % 5,p / 45⟩ (fun _=>1024)) 117):=by
 have HP:=hid hp
 have HLV:=hid hlv
 have d0:w.cell? ⟨k0,0,none⟩=some (.int .i64 lc):=(hp.cell 0).trans (qcells_get lc lp pb st _ _ _ (i:=0) (by omega))
 have d1:w.cell? ⟨k0,1,none⟩=some (.int .i64 lp):=(hp.cell 1).trans (qcells_get lc lp pb st _ _ _ (i:=1) (by omega))
 have d2:w.cell? ⟨k0,2,none⟩=some (.int .i64 pb):=(hp.cell 2).trans (qcells_get lc lp pb st _ _ _ (i:=2) (by omega))
 have f0:=hp.frozen 0
 have f1:=hp.frozen 1
 have f2:=hp.frozen 2
 clear hp hlv
 obtain ⟨a,ha⟩:∃ a,p % 9=a:=⟨_,rfl⟩
 obtain ⟨b1,hb1⟩:∃ a,p / 9=a:=⟨_,rfl⟩
 obtain ⟨b,hbb⟩:∃ a,b1 % 5=a:=⟨_,rfl⟩
 obtain ⟨c,hc⟩:∃ a,p / 45=a:=⟨_,rfl⟩
 rw [ha,hb1,hbb,hc]
 have e1:(p:Int) % 9=(a:Int):=by omega
 have e2:(p:Int) / 9=(b1:Int):=by omega
 have e3:(b1:Int) % 5=(b:Int):=by omega
 have e4:(p:Int) / 45=(c:Int):=by omega
 have ab:a≤8:=by omega
 have bb:b≤4:=by omega
 have cb:c≤5:=by omega
 have cb4:p≤224→c≤4:=by omega
 have CB4:=hid cb4
 clear ha hb1 hbb hc cb4
 have h3:224<p∨(p≤224∧4<a+b)∨(p≤224∧a+b≤4):=by omega
 rcases h3 with h | ⟨h,h4⟩ | ⟨h,h4⟩
 ·have hi:(224:Int)<(p:Int):=by omega
  go_enter Tryz.func126,Tryz.ntmps126
  go_wp2
  go_ret
  first | exact ⟨rfl,Frm.refl _ _⟩ | exact ⟨ret_u32 (by rw [if_pos (.inl h)]),Frm.refl _ _,fun hn=>absurd (.inl h) hn⟩
 ·have hi:(p:Int)≤224:=by omega
  have hj:(4:Int)<(a:Int)+(b:Int):=by omega
  go_enter Tryz.func126,Tryz.ntmps126
  go_wp2
  go_ret
  first | exact ⟨rfl,Frm.refl _ _⟩ | exact ⟨ret_u32 (by rw [if_pos (.inr h4)]),Frm.refl _ _,fun hn=>absurd (.inr h4) hn⟩
 have hi:(p:Int)≤224:=by omega
 have hj:(a:Int)+(b:Int)≤4:=by omega
 go_enter Tryz.func126,Tryz.ntmps126
 go_wp2_with fail
 have hq:Pts (((w.setCell ⟨k0,0,none⟩ (.int .i64 a)).setCell ⟨k0,1,none⟩ (.int .i64 b)).setCell ⟨k0,2,none⟩ (.int .i64 c)) k0 (qcells a b c st rep pr lv) T:=by
  have h9:=((HP.out.set 0 (.int .i64 (a:Int))).set 1 (.int .i64 (b:Int))).set 2 (.int .i64 (c:Int))
  rw [qcells_hdr] at h9
  exact h9
 have hf:Frm (· = k0) w (((w.setCell ⟨k0,0,none⟩ (.int .i64 a)).setCell ⟨k0,1,none⟩ (.int .i64 b)).setCell ⟨k0,2,none⟩ (.int .i64 c)) :=
  (((Frm.refl (· = k0) w).setCell (p:=⟨k0,0,none⟩) rfl _).setCell (p:=⟨k0,1,none⟩) rfl _).setCell (p:=⟨k0,2,none⟩) rfl _
 generalize (((w.setCell ⟨k0,0,none⟩ (.int .i64 a)).setCell ⟨k0,1,none⟩ (.int .i64 b)).setCell ⟨k0,2,none⟩ (.int .i64 c))=wa at *
 refine (dreset_p k0 a b c st rep pr lv T wa hq h4 HLV.out (CB4.out h)).mono ?_;rintro e w1 ⟨rfl,lb,g1,g2,g3,g4⟩
 have G2:=hid g2
 have G3:=hid g3
 have G4:=hid (hf.trans g4)
 have hlb:=Nat.le_trans hf.size g1
 clear g2 g3 g4 hq hf g1
 go_wp2
 go_ret
 first | exact ⟨rfl,G4.out,lb,hlb,G2.out,G3.out⟩ | exact ⟨ret_u32 (by rw [if_neg (by omega)]),G4.out,fun _=>⟨lb,hlb,G2.out,G3.out⟩⟩
set_option maxRecDepth 8000 in
theorem head_d (c:Nat) (w:World) (hc:c<256):Calls Tryz.prog 84 #[.int .u8 (c:Int)] w fun e w'=>e=.returned (.int .i64 (headN c:Nat))∧w=w':=by
 unfold headN
 rcases (by omega:c=0∨(1≤c∧c≤2)∨(3≤c∧c<128)∨(128≤c∧c<192)∨192≤c) with rfl | ⟨h,h2⟩ | ⟨h,h2⟩ | ⟨h,h2⟩ | h
 ·go_enter Tryz.func84,Tryz.ntmps84
  go_wp2
  go_ret
  exact ⟨rfl,rfl⟩
 ·rw [if_neg (by omega),if_pos (by omega)]
  have q0:((c:Int)==0)=false:=beq_eq_false_iff_ne.2 (by omega)
  have q1:(c:Int)≤2:=by omega
  clear h h2 hc
  go_enter Tryz.func84,Tryz.ntmps84
  go_wp2
  go_ret
  exact ⟨rfl,rfl⟩
 ·rw [if_neg (by omega),if_neg (by omega),if_pos (by omega)]
  have q0:((c:Int)==0)=false:=beq_eq_false_iff_ne.2 (by omega)
  have q1:¬ (c:Int)≤2:=by omega
  have q2:(c:Int)<128:=by omega
  clear h h2 hc
  go_enter Tryz.func84,Tryz.ntmps84
  go_wp2
  go_ret
  exact ⟨rfl,rfl⟩
 ·rw [if_neg (by omega),if_neg (by omega),if_neg (by omega),if_pos (by omega)]
  have q0:((c:Int)==0)=false:=beq_eq_false_iff_ne.2 (by omega)
  have q1:¬ (c:Int)≤2:=by omega
  have q2:¬ (c:Int)<128:=by omega
  have q3:(c:Int)<192:=by omega
  clear h h2 hc
  go_enter Tryz.func84,Tryz.ntmps84
  go_wp2
  go_ret
  exact ⟨rfl,rfl⟩
 rw [if_neg (by omega),if_neg (by omega),if_neg (by omega),if_neg (by omega)]
 have q0:((c:Int)==0)=false:=beq_eq_false_iff_ne.2 (by omega)
 have q1:¬ (c:Int)≤2:=by omega
 have q2:¬ (c:Int)<128:=by omega
 have q3:¬ (c:Int)<192:=by omega
 clear h hc
 go_enter Tryz.func84,Tryz.ntmps84
 go_wp2
 go_ret
 exact ⟨rfl,rfl⟩
theorem or_lo8 {a b:Nat} (ha:a<256) (hb:b<256):bits .or .i64 ((a:Int)*256) (b:Int)=((a*256+b:Nat):Int):=by
 have e:((a:Int)*256)=((a*256:Nat):Int):=by omega
 rw [e,or_i64 (by omega) (by omega)]
 have h3:=Nat.shiftLeft_add_eq_or_of_lt (a:=a) (b:=b) (i:=8) (by omega)
 rw [Nat.shiftLeft_eq] at h3
 rw [← h3]
set_option maxRecDepth 8000 in
theorem two_d (b o:Nat) (n c:Nat) (x y:UInt8) (w:World) (h0:w.cell? ⟨b,o,none⟩=some (byteV x)) (h1:w.cell? ⟨b,o+1,none⟩=some (byteV y)) (hn:2≤n) :
 Calls Tryz.prog 123 #[.slice (some ⟨b,o,none⟩) n c] w fun e w'=>e=.returned (.int .i64 ((x.toNat*256+y.toNat:Nat):Int))∧∃ d,w'=w.drewN d:=by
 have hx:=x.toNat_lt
 have hy:=y.toNat_lt
 unfold byteV at h0 h1
 obtain ⟨xn,hxn⟩:∃ k,x.toNat=k:=⟨_,rfl⟩
 obtain ⟨yn,hyn⟩:∃ k,y.toNat=k:=⟨_,rfl⟩
 rw [hxn] at hx h0 ⊢
 rw [hyn] at hy h1 ⊢
 have hx2:xn<256:=hx
 have hy2:yn<256:=hy
 have hor:=or_lo8 hx2 hy2
 have hw1:IntKind.i64.wrap ((xn:Int)*256)=(xn:Int)*256:=Go.IntWalk.i64_in _ (by omega)
 have hn1:(1:Int)<(n:Int):=by omega
 have hn0:(0:Int)<(n:Int):=by omega
 clear hx hy hxn hyn
 go_enter Tryz.func123,Tryz.ntmps123
 go_wp2
 go_quiet (fail)
 go_wp2
 go_ret
 exact ⟨by first | rfl | (rw [hor];rfl),_,rfl⟩
open Go.RowKit Rng Win Lz
structure DmAt (w0 w:World) (K xb:Nat) (k:LK) (x:DS) (wb kb S:Nat) (A:Option Addr) (bs:List UInt8) (c most used:Nat) (all:List UInt8) (d:Nat) (wv ov:Value) (out:List UInt8):Prop where
 p:Pts w xb #[.pointer (some ⟨wb,0,none⟩),.pointer (some ⟨k.sb,0,none⟩),.slice A bs.length c,.int .i64 used,.int .i64 x.total,.int .i64 most,.bool x.begun,.bool x.props,ov] 82
 s:DStAt w k x.st x.rep x.pr
 ks:k.lc=x.lc∧k.lp=x.lp∧k.pb=x.pb
 ok:k.Ok
 st:x.st<12∧∀ j,x.rep j<4294967296
 win:RWin w K wb kb S true wv all
 hC:x.C=lastN S all
 ht:x.total+d=all.length
 o:OwnB w 5 K ov out
 ne:∀ q,ov.ownBlock=some q→wv.ownBlock≠some q
 ge:K≤xb∧K≤k.sb∧K≤k.lb∧K≤wb
 b:Below K w0 w
 kz:K≤w.heap.size
 om:out.length≤most∧most≤16777216
 al:all.length≤out.length+d
def DmOut (w0:World) (K xb:Nat) (out:List UInt8) (w':World):Prop:=∃ ov,w'.cell? ⟨xb,8,none⟩=some ov∧OwnB w' 5 K ov out∧Below K w0 w'∧K≤w'.heap.size
section
variable {w0 w w' : World} {K xb : Nat} {k : LK} {x : DS} {wb kb S : Nat} {A : Option Addr} {bs : List UInt8} {c most used : Nat} {all : List UInt8} {d : Nat} {wv ov : Value} {out : List UInt8}
theorem DmAt.outE (h:DmAt w0 w K xb k x wb kb S A bs c most used all d wv ov out):DmOut w0 K xb out w:=⟨ov,by rw [h.p.cell];rfl,h.o,h.b,h.kz⟩
theorem DmAt.drewN (h:DmAt w0 w K xb k x wb kb S A bs c most used all d wv ov out) (n:Nat):DmAt w0 (w.drewN n) K xb k x wb kb S A bs c most used all d wv ov out :=
 ⟨h.p.drewN n,h.s.frm ((Frm.refl (fun _=>False) w).drewN n) id id,h.ks,h.ok,h.st,⟨h.win.p.drewN n,h.win.o.drewN n⟩,h.hC,h.ht,h.o.drewN n,h.ne,h.ge,below_drewN h.b n,h.kz,h.om,h.al⟩
theorem DmAt.drew (h:DmAt w0 w K xb k x wb kb S A bs c most used all d wv ov out):DmAt w0 w.drew K xb k x wb kb S A bs c most used all d wv ov out:=h.drewN 1
theorem DmAt.cells (h:DmAt w0 w K xb k x wb kb S A bs c most used all d wv ov out):w.cell? ⟨xb,0,none⟩=some (.pointer (some ⟨wb,0,none⟩))∧w.cell? ⟨xb,1,none⟩=some (.pointer (some ⟨k.sb,0,none⟩))∧w.cell? ⟨xb,2,none⟩=some (.slice A bs.length c)∧w.cell? ⟨xb,3,none⟩=some (.int .i64 used) ∧
 w.cell? ⟨xb,4,none⟩=some (.int .i64 x.total)∧w.cell? ⟨xb,5,none⟩=some (.int .i64 most)∧w.cell? ⟨xb,6,none⟩=some (.bool x.begun)∧w.cell? ⟨xb,7,none⟩=some (.bool x.props)∧w.cell? ⟨xb,8,none⟩=some ov:=by
 have e:=fun o=>h.p.cell o
 exact ⟨e 0,e 1,e 2,e 3,e 4,e 5,e 6,e 7,e 8⟩
theorem DmAt.fz (h:DmAt w0 w K xb k x wb kb S A bs c most used all d wv ov out) (o:Nat):w.frozen? ⟨xb,o,none⟩=false:=h.p.frozen o
theorem DmAt.apart (h:DmAt w0 w K xb k x wb kb S A bs c most used all d wv ov out):k.sb≠xb∧k.lb≠xb∧wb≠xb∧wv.ownBlock≠some xb∧ov.ownBlock≠some xb∧wv.ownBlock≠some k.sb∧wv.ownBlock≠some k.lb∧ov.ownBlock≠some k.sb∧ov.ownBlock≠some k.lb∧ov.ownBlock≠some wb∧wb≠k.sb∧wb≠k.lb :=
 ⟨h.s.m.ne_of h.p (by decide),h.s.l.ne_of h.p (by decide),h.win.p.ne_of h.p (by decide),own_ne h.win.o h.p (by decide),own_ne h.o h.p (by decide),own_ne h.win.o h.s.m (by decide),own_ne h.win.o h.s.l (by decide),own_ne h.o h.s.m (by decide),own_ne h.o h.s.l (by decide),own_ne h.o h.win.p (by decide),h.win.p.ne_of h.s.m (by decide),h.win.p.ne_of h.s.l (by decide)⟩
theorem DmAt.turn {x':DS} {used' d':Nat} (h:DmAt w0 w K xb k x wb kb S A bs c most used all d wv ov out) (i:Nat) (v:Value)
 (he:(#[.pointer (some ⟨wb,0,none⟩),.pointer (some ⟨k.sb,0,none⟩),.slice A bs.length c,.int .i64 used,.int .i64 x.total,.int .i64 most,.bool x.begun,.bool x.props,ov]:Array Value).setIfInBounds i v=#[.pointer (some ⟨wb,0,none⟩),.pointer (some ⟨k.sb,0,none⟩),.slice A bs.length c,.int .i64 used',.int .i64 x'.total,.int .i64 most,.bool x'.begun,.bool x'.props,ov])
 (h1:x'.st=x.st) (h2:x'.rep=x.rep) (h3:x'.pr=x.pr) (h4:x'.lc=x.lc∧x'.lp=x.lp∧x'.pb=x.pb) (h5:x'.C=x.C) (h6:x'.total+d'=all.length) (h7:all.length≤out.length+d') :
 DmAt w0 (w.setCell ⟨xb,i,none⟩ v) K xb k x' wb kb S A bs c most used' all d' wv ov out:=by
 obtain ⟨a1,a2,a3,a4,a5,-⟩:=h.apart
 have hf:Frm (· = xb) w (w.setCell ⟨xb,i,none⟩ v):=(Frm.refl (· = xb) w).setCell (p:=⟨xb,i,none⟩) rfl _
 refine ⟨?_,?_,?_,h.ok,?_,⟨h.win.p.frm hf a3,h.win.o.frm hf (fun q hq e=>a4 (e▸hq))⟩,by rw [h5];exact h.hC,h6,h.o.frm hf (fun q hq e=>a5 (e▸hq)),h.ne,h.ge,h.b.trans (hf.below h.kz (fun q e=>by rw [e];exact h.ge.1)),Nat.le_trans h.kz hf.size,h.om,h7⟩
 ·have:=h.p.set i v
  rw [he] at this
  exact this
 ·rw [h1,h2,h3];exact h.s.frm hf a1 a2
 ·rw [h4.1,h4.2.1,h4.2.2];exact h.ks
 rw [h1,h2];exact h.st
end
section
variable {w0 w : World} {K xb : Nat} {k : LK} {x : DS} {wb kb S : Nat} {A : Option Addr} {bs : List UInt8} {c most used : Nat} {all : List UInt8} {wv ov : Value} {out : List UInt8}
set_option maxRecDepth 100000 in
set_option maxHeartbeats 1000000 in
theorem throw_d (h:DmAt w0 w K xb k x wb kb S A bs c most used all 0 wv ov out) :
 Calls Tryz.prog 124 #[.pointer (some ⟨xb,0,none⟩)] w fun e w'=>e=.returned (.tuple #[])∧DmAt w0 w' K xb k x.clear wb kb S A bs c most used [] 0 (.slice none 0 0) ov out:=by
 obtain ⟨c0,-,-,-,c4,-,c6,-,-⟩:=h.cells
 have HH:=hid h
 clear h
 go_enter Tryz.func124,Tryz.ntmps124
 go_wp2_with fail
 refine (rclear_any K wb kb S true wv all _ HH.out.win).mono ?_;rintro e w2 ⟨rfl,h2,f2⟩
 obtain ⟨a1,a2,a3,a4,a5,a6,a7,a8,a9,a10,a11,a12⟩:=HH.out.apart
 have hA:=HH.out
 have H2:Hid (DmAt w0 w2 K xb k { x with C:=lastN S [] } wb kb S A bs c most used [] 0 (.slice none 0 0) ov out∨True):=hid (.inr trivial)
 have hp2:Pts w2 xb #[.pointer (some ⟨wb,0,none⟩),.pointer (some ⟨k.sb,0,none⟩),.slice A bs.length c,.int .i64 used,.int .i64 x.total,.int .i64 most,.bool x.begun,.bool x.props,ov] 82:=hA.p.frm f2 (fun e=>a3 e.symm)
 have d4:w2.cell? ⟨xb,4,none⟩=some (.int .i64 x.total):=by rw [hp2.cell];rfl
 have d6:w2.cell? ⟨xb,6,none⟩=some (.bool x.begun):=by rw [hp2.cell];rfl
 have e4:=hp2.frozen 4
 have e6:=hp2.frozen 6
 have hf:Frm (· = xb) w2 ((w2.setCell ⟨xb,4,none⟩ (.int .i64 0)).setCell ⟨xb,6,none⟩ (.bool true)):=((Frm.refl (· = xb) w2).setCell (p:=⟨xb,4,none⟩) rfl _).setCell (p:=⟨xb,6,none⟩) rfl _
 have HE:Hid (DmAt w0 ((w2.setCell ⟨xb,4,none⟩ (.int .i64 0)).setCell ⟨xb,6,none⟩ (.bool true)) K xb k x.clear wb kb S A bs c most used [] 0 (.slice none 0 0) ov out):=hid (by
  refine ⟨(hp2.set 4 _).set 6 _,(hA.s.frm f2 (fun e=>a11 e.symm) (fun e=>a12 e.symm)).frm hf a1 a2,hA.ks,hA.ok,hA.st,⟨h2.p.frm hf a3,OwnB.nil _ _ _⟩,?_,rfl,(hA.o.frm f2 (fun q hq e=>a10 (e▸hq))).frm hf (fun q hq e=>a5 (e▸hq)),(fun q _ e=>by cases e),hA.ge,(hA.b.trans (f2.below hA.kz (fun q e=>by rw [e];exact hA.ge.2.2.2))).trans (hf.below (Nat.le_trans hA.kz f2.size) (fun q e=>by rw [e];exact hA.ge.1)),Nat.le_trans (Nat.le_trans hA.kz f2.size) hf.size,hA.om,Nat.zero_le _⟩
  show ([]:List UInt8)=lastN S []
  unfold lastN
  simp)
 clear hA hp2 hf h2 f2 a1 a2 a3 a4 a5 a6 a7 a8 a9 a10 a11 a12 c0 c4 c6 H2
 go_wp2
 go_end0
 exact ⟨rfl,HE.out⟩
end
open Go.RowKit Rng Win Lz
section
variable {w0 w : World} {K xb : Nat} {k : LK} {x : DS} {wb kb S : Nat} {A : Option Addr} {bs : List UInt8} {c most used : Nat} {all : List UInt8} {wv ov : Value} {out : List UInt8}
theorem DmAt.put {w':World} {wv':Value} {t:List UInt8} (h:DmAt w0 w K xb k x wb kb S A bs c most used all 0 wv ov out) (h2:RWin w' K wb kb S true wv' (all++t)) (f2:Frm (fun q=>q=wb∨wv.ownBlock=some q) w w') (hm:Mvd w wv wv') :
 DmAt w0 w' K xb k { x with C:=lastN S (x.C++t) } wb kb S A bs c most used (all++t) t.length wv' ov out:=by
 obtain ⟨a1,a2,a3,a4,a5,a6,a7,a8,a9,a10,a11,a12⟩:=h.apart
 refine ⟨h.p.frm f2 ?_,h.s.frm f2 ?_ ?_,h.ks,h.ok,h.st,h2,?_,?_,h.o.frm f2 ?_,?_,h.ge,h.b.trans (f2.below h.kz ?_),Nat.le_trans h.kz f2.size,h.om,?_⟩
 ·rintro (e | e)
  ·exact a3 e.symm
  exact a4 e
 ·rintro (e | e)
  ·exact a11 e.symm
  exact a6 e
 ·rintro (e | e)
  ·exact a12 e.symm
  exact a7 e
 ·show lastN S (x.C++t)=lastN S (all++t)
  rw [h.hC,lastN_lastN]
 ·have:=h.ht
  show x.total+t.length=(all++t).length
  rw [List.length_append]
  omega
 ·rintro q hq (e | e)
  ·subst e;exact a10 hq
  exact h.ne q hq e
 ·intro q hq e
  rcases hm with e2 | ⟨u,e2,e3⟩
  ·exact h.ne q hq (e2▸e)
  rw [e2] at e
  have:=Option.some.inj e
  have:=(h.o.lt hq).2
  omega
 ·rintro q (e | e)
  ·rw [e];exact h.ge.2.2.2
  exact (h.win.o.lt e).1
 have:=h.al
 rw [List.length_append]
 omega
theorem DmAt.grow {w':World} {ov':Value} {t:List UInt8} (h:DmAt w0 w K xb k x wb kb S A bs c most used all t.length wv ov out) (ho:OwnB w' 5 K ov' (out++t)) (hf:Frm (fun q=>ov.ownBlock=some q) w w') (hn:ov'.ownBlock=ov.ownBlock∨ov'.ownBlock=some w.heap.size) (hm:out.length+t.length≤most) :
 DmAt w0 ((w'.setCell ⟨xb,8,none⟩ ov').setCell ⟨xb,4,none⟩ (.int .i64 ((x.total+t.length:Nat):Int))) K xb k { x with total:=x.total+t.length } wb kb S A bs c most used all 0 wv ov' (out++t):=by
 obtain ⟨a1,a2,a3,a4,a5,a6,a7,a8,a9,a10,a11,a12⟩:=h.apart
 have g:Frm (· = xb) w' ((w'.setCell ⟨xb,8,none⟩ ov').setCell ⟨xb,4,none⟩ (.int .i64 ((x.total+t.length:Nat):Int))):=((Frm.refl (· = xb) w').setCell (p:=⟨xb,8,none⟩) rfl _).setCell (p:=⟨xb,4,none⟩) rfl _
 have hp:=h.p.frm hf a5
 have n1:ov'.ownBlock≠some xb:=by
  rcases hn with e | e
  ·rw [e];exact a5
  rw [e];intro e2;have:=Option.some.inj e2;have:=h.p.lt;omega
 refine ⟨(hp.set 8 _).set 4 _,(h.s.frm hf a8 a9).frm g a1 a2,h.ks,h.ok,h.st,⟨(h.win.p.frm hf a10).frm g a3,(h.win.o.frm hf (fun q hq e=>h.ne q e hq)).frm g (fun q hq e=>a4 (e▸hq))⟩,h.hC,?_,ho.frm g (fun q hq e=>n1 (e▸hq)),?_,h.ge,(h.b.trans (hf.below h.kz (fun q hq=>(h.o.lt hq).1))).trans (g.below (Nat.le_trans h.kz hf.size) (fun q e=>by rw [e];exact h.ge.1)),Nat.le_trans (Nat.le_trans h.kz hf.size) g.size,⟨by rw [List.length_append];exact hm,h.om.2⟩,?_⟩
 ·have:=h.ht
  show x.total+t.length+0=all.length
  omega
 ·intro q hq e
  rcases hn with e2 | e2
  ·exact h.ne q (e2▸hq) e
  rw [e2] at hq
  have:=Option.some.inj hq
  have:=(h.win.o.lt e).2
  omega
 have:=h.al
 rw [List.length_append]
 omega
def DmTold (w0:World) (K xb:Nat) (k:LK) (x:DS) (wb kb S:Nat) (A:Option Addr) (bs:List UInt8) (c most used:Nat) (all:List UInt8) (out t:List UInt8) (e:Ending) (w':World):Prop :=
 (most<out.length+t.length∧e=.returned (.int .i64 3)∧DmOut w0 K xb out w') ∨
 (¬ most<out.length+t.length∧e=.returned (.int .i64 0)∧∃ wv' ov',DmAt w0 w' K xb k { x with total:=x.total+t.length } wb kb S A bs c most used all 0 wv' ov' (out++t))
set_option maxRecDepth 100000 in
set_option maxHeartbeats 2000000 in
theorem told_no (t:List UInt8) (At:Option Addr) (n ct B:Nat) (h:DmAt w0 w K xb k x wb kb S A bs c most used all t.length wv ov out) (hn:n=t.length) (hr:BRow w B At t) (hm:n≤4000000) :
 Calls Tryz.prog 125 #[.pointer (some ⟨xb,0,none⟩),.slice At n ct,.bool false] w (DmTold w0 K xb k x wb kb S A bs c most used all out t):=by
 obtain ⟨Ao,co,hov,-,-,-⟩:=h.o.slice
 obtain ⟨Lo,hLo⟩:∃ L,out.length=L:=⟨_,rfl⟩
 rw [hLo] at hov
 subst hov
 obtain ⟨c0,-,-,-,c4,c5,-,-,c8⟩:=h.cells
 obtain ⟨SM,hSM⟩:∃ s,Lo+n=s:=⟨_,rfl⟩
 have q1:(Lo:Int)+(n:Int)=(SM:Int):=by omega
 have hb1:=h.om
 have qw:IntKind.i64.wrap (SM:Int)=(SM:Int):=Go.IntWalk.i64_in _ (by omega)
 have HH:=hid h
 have HR:=hid (And.intro hr (And.intro hn (And.intro hSM (And.intro hm hLo))))
 have hrow:∀ dd,BRow (w.drewN dd) B At t:=fun dd=>BRow.drewN hr dd
 have HRD:=hid hrow
 obtain ⟨TT,hTT⟩:∃ z,x.total+n=z:=⟨_,rfl⟩
 have qt:(x.total:Int)+(n:Int)=(TT:Int):=by omega
 have hxt:=h.ht
 have hal:=h.al
 have qtw:IntKind.i64.wrap (TT:Int)=(TT:Int):=Go.IntWalk.i64_in _ (by omega)
 have HTT:=hid hTT
 clear h hr hn hSM hm hrow hLo hb1 hxt hal hTT
 by_cases hbig:most<SM
 ·have qb:decide (most<SM)=true:=decide_eq_true hbig
  have HB:=hid hbig
  clear hbig
  go_enter Tryz.func125,Tryz.ntmps125
  go_upto_region 1 with fail
  go_quiet (fail)
  go_wp2
  go_ret
  exact .inl ⟨by have:=HR.out;have:=HB.out;omega,rfl,(HH.out.drewN _).outE⟩
 have qb:decide (most<SM)=false:=decide_eq_false hbig
 have HB:=hid hbig
 clear hbig
 go_enter Tryz.func125,Tryz.ntmps125
 go_upto_region 1 with fail
 go_quiet (fail)
 have H2:=hid (HH.out.drewN nq)
 have HRR:=hid (HRD.out nq)
 have hw2e:Hid (True):=hid trivial
 obtain ⟨w2,hw2⟩:∃ W,w.drewN nq=W:=⟨_,rfl⟩
 rw [hw2] at H2 HRR
 rw [hw2]
 clear c0 c4 c5 c8 hw2 HRD hw2e
 obtain ⟨c0,-,-,-,c4,c5,-,-,c8⟩:=H2.out.cells
 go_wp2_with (at_builtin;refine wpList_append_bytes _ rfl (.tmp 31) (.tmp 32) 22 rfl 5 K Tryz.underlying22 Tryz.info_u8 (.slice Ao Lo co) out rfl ?own1 At n ct B t rfl HR.out.2.1 ?row1 ?len1 ?base1 ?next1)
 case own1=>exact H2.out.o
 case row1=>exact HRR.out
 case len1=>have:=HR.out;have:=H2.out.om;omega
 case base1=>exact H2.out.kz
 case next1 =>
 intro v3 w3 hown3 hfrm3 hnew3
 obtain ⟨A3,c3,e3,-,-,-⟩:=hown3.slice
 obtain ⟨L3,hL3⟩:∃ L,(out++t).length=L:=⟨_,rfl⟩
 rw [hL3] at e3
 subst e3
 have hg:=H2.out.grow hown3 hfrm3 hnew3 (by have:=HR.out;have:=HB.out;omega)
 have hp3:=H2.out.p.frm hfrm3 H2.out.apart.2.2.2.2.1
 have z8:w3.cell? ⟨xb,8,none⟩=some (.slice Ao Lo co):=by rw [hp3.cell];rfl
 have y8:=hp3.frozen 8
 have z4:w3.cell? ⟨xb,4,none⟩=some (.int .i64 x.total):=by rw [hp3.cell];rfl
 have y4:=hp3.frozen 4
 rw [← HR.out.2.1,HTT.out] at hg
 have HG:Hid (DmAt w0 ((w3.setCell ⟨xb,8,none⟩ (.slice A3 L3 c3)).setCell ⟨xb,4,none⟩ (.int .i64 (TT:Int))) K xb k { x with total:=x.total+t.length } wb kb S A bs c most used all 0 wv (.slice A3 L3 c3) (out++t)):=hid (by
  rw [← HR.out.2.1,HTT.out]
  exact hg)
 clear hg hp3 hown3 hfrm3 hnew3 hL3 c0 c4 c5 c8
 go_wp2
 go_ret
 exact .inr ⟨by have:=HR.out;have:=HB.out;omega,rfl,_,_,HG.out⟩
set_option maxRecDepth 100000 in
set_option maxHeartbeats 2000000 in
theorem told_put (t:List UInt8) (At:Option Addr) (n ct:Nat) (h:DmAt w0 w K xb k x wb kb S A bs c most used all 0 wv ov out) (hn:n=t.length) (hr:BRow w K At t) (hm:n≤4000000) :
 Calls Tryz.prog 125 #[.pointer (some ⟨xb,0,none⟩),.slice At n ct,.bool true] w (DmTold w0 K xb k { x with C:=lastN S (x.C++t) } wb kb S A bs c most used (all++t) out t):=by
 obtain ⟨Ao,co,hov,-,-,-⟩:=h.o.slice
 obtain ⟨Lo,hLo⟩:∃ L,out.length=L:=⟨_,rfl⟩
 rw [hLo] at hov
 subst hov
 obtain ⟨c0,-,-,-,c4,c5,-,-,c8⟩:=h.cells
 obtain ⟨SM,hSM⟩:∃ s,Lo+n=s:=⟨_,rfl⟩
 have q1:(Lo:Int)+(n:Int)=(SM:Int):=by omega
 have hb1:=h.om
 have qw:IntKind.i64.wrap (SM:Int)=(SM:Int):=Go.IntWalk.i64_in _ (by omega)
 have HH:=hid h
 have HR:=hid (And.intro hr (And.intro hn (And.intro hSM (And.intro hm hLo))))
 have hrow:∀ dd,BRow (w.drewN dd) K At t:=fun dd=>BRow.drewN hr dd
 have HRD:=hid hrow
 obtain ⟨TT,hTT⟩:∃ z,x.total+n=z:=⟨_,rfl⟩
 have qt:(x.total:Int)+(n:Int)=(TT:Int):=by omega
 have hxt:=h.ht
 have hal:=h.al
 have qtw:IntKind.i64.wrap (TT:Int)=(TT:Int):=Go.IntWalk.i64_in _ (by omega)
 have HTT:=hid hTT
 clear h hr hn hSM hm hrow hLo hb1 hxt hal hTT
 by_cases hbig:most<SM
 ·have qb:decide (most<SM)=true:=decide_eq_true hbig
  have HB:=hid hbig
  clear hbig
  go_enter Tryz.func125,Tryz.ntmps125
  go_upto_region 1 with fail
  go_quiet (fail)
  go_wp2
  go_ret
  exact .inl ⟨by have:=HR.out;have:=HB.out;omega,rfl,(HH.out.drewN _).outE⟩
 have qb:decide (most<SM)=false:=decide_eq_false hbig
 have HB:=hid hbig
 clear hbig
 go_enter Tryz.func125,Tryz.ntmps125
 go_upto_region 1 with fail
 go_quiet (fail)
 have H2:=hid (HH.out.drewN nq)
 have HRR:=hid (HRD.out nq)
 have hw2e:Hid (True):=hid trivial
 obtain ⟨w2,hw2⟩:∃ W,w.drewN nq=W:=⟨_,rfl⟩
 rw [hw2] at H2 HRR
 rw [hw2]
 clear c0 c4 c5 c8 hw2 HRD hw2e
 obtain ⟨c0,-,-,-,c4,c5,-,-,c8⟩:=H2.out.cells
 go_wp2_with fail
 refine (rput_on K wb kb S ct K n wv all t At _ H2.out.win HR.out.2.1 HRR.out (by have:=HR.out;have:=H2.out.om;have:=H2.out.al;omega) H2.out.kz).mono ?_;rintro e w4 ⟨wv4,rfl,h4,f4,m4⟩
 have H4:=hid (H2.out.put h4 f4 m4)
 have HR4:=hid (HRR.out.offN (N:=fun q=>q=wb∨wv.ownBlock=some q) (BOff.of_row HRR.out (fun q hq=>by
  rcases hq with e | e
  ·rw [e];exact H2.out.ge.2.2.2
  exact (H2.out.win.o.lt e).1)) f4)
 clear h4 f4 m4 c0 c4 c5 c8
 obtain ⟨c0,-,-,-,c4,c5,-,-,c8⟩:=H4.out.cells
 go_wp2_with (at_builtin;refine wpList_append_bytes _ rfl (.tmp 31) (.tmp 32) 22 rfl 5 K Tryz.underlying22 Tryz.info_u8 (.slice Ao Lo co) out rfl ?own1 At n ct K t rfl HR.out.2.1 ?row1 ?len1 ?base1 ?next1)
 case own1=>exact H4.out.o
 case row1=>exact HR4.out
 case len1=>have:=HR.out;have:=H2.out.om;omega
 case base1=>exact H4.out.kz
 case next1 =>
 intro v3 w3 hown3 hfrm3 hnew3
 obtain ⟨A3,c3,e3,-,-,-⟩:=hown3.slice
 obtain ⟨L3,hL3⟩:∃ L,(out++t).length=L:=⟨_,rfl⟩
 rw [hL3] at e3
 subst e3
 have hg:=H4.out.grow hown3 hfrm3 hnew3 (by have:=HR.out;have:=HB.out;omega)
 have hp3:=H4.out.p.frm hfrm3 H4.out.apart.2.2.2.2.1
 have z8:w3.cell? ⟨xb,8,none⟩=some (.slice Ao Lo co):=by rw [hp3.cell];rfl
 have y8:=hp3.frozen 8
 have z4:w3.cell? ⟨xb,4,none⟩=some (.int .i64 x.total):=by rw [hp3.cell];rfl
 have y4:=hp3.frozen 4
 rw [← HR.out.2.1,HTT.out] at hg
 have HG:Hid (DmAt w0 ((w3.setCell ⟨xb,8,none⟩ (.slice A3 L3 c3)).setCell ⟨xb,4,none⟩ (.int .i64 (TT:Int))) K xb k { x with C:=lastN S (x.C++t),total:=x.total+t.length } wb kb S A bs c most used (all++t) 0 wv4 (.slice A3 L3 c3) (out++t)):=hid (by
  rw [← HR.out.2.1,HTT.out]
  exact hg)
 clear hg hp3 hown3 hfrm3 hnew3 hL3 c0 c4 c5 c8
 go_wp2
 go_ret
 exact .inr ⟨by have:=HR.out;have:=HB.out;omega,rfl,_,_,HG.out⟩
end
open Go.RowKit Rng Win Lz
theorem slice_cutD (A:Option Addr) (n c fr hi N:Nat) (h1:fr+N=hi) (h2:hi≤n) (hn:n≤c) (hN:1≤N) (w:World) :
 (Instr.sliceAt 22 (.slice A n c) (some (.int .i64 (fr:Int))) (some (.int .i64 (hi:Int))) none).run Tryz.prog w=.ok (.slice (A.map (·.add fr)) N (c-fr)) w:=by
 have h:¬ c=fr:=by omega
 have h3:hi-fr=N:=by omega
 have h4:hi≤c:=by omega
 have h5:fr≤hi:=by omega
 simp [go_sem,h,h3,h4,h5]
theorem slice_fromD (b o n c f m:Nat) (z:Int) (hz:z=(f:Int)) (h1:f+m=n) (hn:n≤c) (hm:1≤m) (w:World) :
 (Instr.sliceAt 22 (.slice (some ⟨b,o,none⟩) n c) (some (.int .i64 z)) none none).run Tryz.prog w=.ok (.slice (some ⟨b,o+f,none⟩) m (c-f)) w:=by
 subst hz
 have h:¬ c=f:=by omega
 have h3:n-f=m:=by omega
 have h4:f≤n:=by omega
 simp [go_sem,h,h3,h4]
def HdAt (w:World) (K hb ho:Nat) (hd:List UInt8):Prop:=hb<K∧∀ i,i<hd.length→w.cell? ⟨hb,ho+i,none⟩=some (byteV (hd.getD i 0))
theorem HdAt.below {w w':World} {K hb ho:Nat} {hd:List UInt8} (h:HdAt w K hb ho hd) (hb':Below K w w'):HdAt w' K hb ho hd:=⟨h.1,fun i hi=>(World.cell?_of_block (hb'.block hb h.1)).trans (h.2 i hi)⟩
theorem row_part {w:World} {B:Nat} {A:Option Addr} {bs:List UInt8} (h:BRow w B A bs) (fr N:Nat) (h1:fr+N≤bs.length) (hN:1≤N):BRow w B (A.map (·.add fr)) ((bs.drop fr).take N):=by
 have q:=(h.drop (k:=fr) (cap:=bs.length+fr+1) (by omega)).take N
 rw [if_neg (by omega)] at q
 exact q
def DmBody (w0:World) (K xb wb kb S:Nat) (A:Option Addr) (bs:List UInt8) (c most used:Nat) (out:List UInt8) (R:OneR) (e:Ending) (w':World):Prop :=
 (∃ z:Nat,R=.err z∧z≠0∧e=.returned (.int .i64 (z:Int))∧DmOut w0 K xb out w') ∨
 (∃ t y u',R=.told t y (bs.drop u')∧used≤u'∧u'≤bs.length∧((most<out.length+t.length∧e=.returned (.int .i64 3)∧DmOut w0 K xb out w') ∨
   (¬ most<out.length+t.length∧e=.returned (.int .i64 0)∧∃ k' all' wv' ov',DmAt w0 w' K xb k' { y with total:=y.total+t.length } wb kb S A bs c most u' all' 0 wv' ov' (out++t))))
section
variable {w0 w : World} {K xb : Nat} {k : LK} {x : DS} {wb kb S : Nat} {A : Option Addr} {bs : List UInt8} {c most used : Nat} {all : List UInt8} {wv ov : Value} {out : List UInt8}
set_option maxRecDepth 100000 in
set_option maxHeartbeats 4000000 in
theorem plain_d (h:DmAt w0 w K xb k x wb kb S A bs c most used all 0 wv ov out) (hrow:BRow w0 K A bs) (hcap:bs.length≤c∧bs.length≤100000000) (hus:used≤bs.length) (hb ho hc:Nat) (hd:List UInt8) (hh:HdAt w0 K hb ho hd) (hl:hd.length=3) (hhc:3≤hc) (hk3:(hd.getD 0 0).toNat=1∨(hd.getD 0 0).toNat=2) :
 Calls Tryz.prog 85 #[.pointer (some ⟨xb,0,none⟩),.slice (some ⟨hb,ho,none⟩) 3 hc] w (DmBody w0 K xb wb kb S A bs c most used out (oneBody S x (hd.getD 0 0).toNat hd (bs.drop used))):=by
 obtain ⟨R,hR⟩:∃ R,oneBody S x (hd.getD 0 0).toNat hd (bs.drop used)=R:=⟨_,rfl⟩
 rw [hR]
 unfold oneBody at hR
 rw [if_pos (by omega)] at hR
 obtain ⟨n,hn⟩:∃ n,twoB hd 1+1=n:=⟨_,rfl⟩
 rw [hn] at hR
 have hhw:=hh.below h.b
 have k0:=hhw.2 0 (by omega)
 have k1:=hhw.2 1 (by omega)
 have k2:=hhw.2 2 (by omega)
 have HTW:=hid (fun (cp:Nat)=>two_d hb (ho+1) 2 cp (hd.getD 1 0) (hd.getD 2 0) w k1 k2 (by omega))
 have htw:(hd.getD 1 0).toNat*256+(hd.getD 2 0).toNat+1=n:=hn
 obtain ⟨tw,htwe⟩:∃ z,(hd.getD 1 0).toNat*256+(hd.getD 2 0).toNat=z:=⟨_,rfl⟩
 rw [htwe] at htw HTW
 have htb:tw<65536:=by
  have h1:=(hd.getD 1 0).toNat_lt
  have h2:=(hd.getD 2 0).toNat_lt
  omega
 have q1:(tw:Int)+1=(n:Int):=by omega
 have qw1:IntKind.i64.wrap (n:Int)=(n:Int):=Go.IntWalk.i64_in _ (by omega)
 obtain ⟨hz,hhz⟩:∃ z,(hd.getD 0 0).toNat=z:=⟨_,rfl⟩
 unfold byteV at k0
 have k0':w.cell? ⟨hb,ho,none⟩=some (.int .u8 (hz:Int)):=by rw [← hhz];exact k0
 rw [hhz] at hk3 hR
 have HH:=hid h
 have HR:=hid hR
 have HROW:=hid hrow
 have HCAP:=hid (And.intro hcap hus)
 have HNB:=hid (And.intro htw htb)
 have HHD:=hid (show HdAt w K hb ho hd from hhw)
 have HC3:=hid hhc
 have hsl1:=fun w=>slice_fromD hb ho 3 hc 1 2 1 rfl (by omega) hhc (by omega) w
 clear h hR hrow hcap hus hhw hh hl hn htw htwe htb k0 k1 k2 hhz hhc
 go_enter Tryz.func85,Tryz.ntmps85
 go_wp2_with fail
 refine (HTW.out _).mono ?_;rintro e w1 ⟨rfl,dd,hw1⟩
 have H1:=hid (HH.out.drewN dd)
 have k1':w1.cell? ⟨hb,ho,none⟩=some (.int .u8 (hz:Int)):=by rw [hw1];exact k0'
 rw [← hw1] at H1
 clear hw1 k0' HTW hsl1 HH
 go_upto_if 14 with fail
 go_cut [] from 7 (fun wx=>∃ all' wv',DmAt w0 wx K xb k (x.dict hz) wb kb S A bs c most used all' 0 wv' ov out)
 case first =>
  rcases hk3 with rfl | rfl
  ·go_wp2_with fail
   refine (throw_d H1.out).mono ?_;rintro e w2 ⟨rfl,h2⟩
   have H2:=hid h2
   obtain ⟨-,-,-,-,-,-,-,c7,-⟩:=h2.cells
   have f7:=h2.fz 7
   have H3:Hid (DmAt w0 (w2.setCell ⟨xb,7,none⟩ (.bool false)) K xb k { x.clear with props:=false } wb kb S A bs c most used [] 0 (.slice none 0 0) ov out):=hid (h2.turn 7 (.bool false) rfl rfl rfl rfl ⟨rfl,rfl,rfl⟩ rfl h2.ht h2.al)
   clear h2
   go_wp2
   go_meet
   case rel=>exact ⟨_,_,H3.out⟩
  go_wp2
  go_meet
  case rel=>exact ⟨_,_,H1.out⟩
 case rest =>
 obtain ⟨all',wv',h2⟩:=hcut
 have H2:=hid h2
 obtain ⟨-,-,c2,c3,-,-,-,-,-⟩:=h2.cells
 obtain ⟨LB,hLB⟩:∃ L,bs.length=L:=⟨_,rfl⟩
 obtain ⟨rm,hrm⟩:∃ r,LB-used=r:=⟨_,rfl⟩
 have hcap:=HCAP.out
 rw [hLB] at c2 hcap
 obtain ⟨⟨hcp1,hcp2⟩,hcp3⟩:=hcap
 have q2:(LB:Int)-(used:Int)=(rm:Int):=by omega
 have qw2:IntKind.i64.wrap (rm:Int)=(rm:Int):=Go.IntWalk.i64_in _ (by omega)
 have hdl:(bs.drop used).length=rm:=by rw [List.length_drop,hLB];exact hrm
 have HD:=hid (And.intro hdl (And.intro hrm hLB))
 clear h2 H1 k1' hk3
 by_cases hsh:rm<n
 ·have qd:decide (rm<n)=true:=decide_eq_true hsh
  have HRR:Hid (OneR.err 10=R):=hid (by have:=HR.out;rw [if_pos (by rw [hdl];exact hsh)] at this;exact this)
  clear hdl hrm hLB hsh hcp1 hcp2 hcp3
  go_upto_region 5 with fail
  go_quiet (fail)
  go_wp2
  go_ret
  exact .inl ⟨10,HRR.out.symm,by decide,rfl,(H2.out.drewN _).outE⟩
 have qd:decide (rm<n)=false:=decide_eq_false hsh
 have HRR:Hid (OneR.told ((bs.drop used).take n) { x.dict hz with C:=lastN S ((x.dict hz).C++(bs.drop used).take n) } ((bs.drop used).drop n)=R):=hid (by have:=HR.out;rw [if_neg (by rw [hdl];exact hsh)] at this;exact this)
 obtain ⟨u2,hu2⟩:∃ u,used+n=u:=⟨_,rfl⟩
 have q3:(used:Int)+(n:Int)=(u2:Int):=by omega
 have qw3:IntKind.i64.wrap (u2:Int)=(u2:Int):=Go.IntWalk.i64_in _ (by omega)
 have hsl:=fun w=>slice_cutD A LB c used u2 n hu2 (by omega) hcp1 (by have:=HNB.out;omega) w
 have HPT:Hid (∀ w',Below K w0 w'→BRow w' K (A.map (·.add used)) ((bs.drop used).take n)):=hid (fun w' hb=>(row_part HROW.out used n (by omega) (by have:=HNB.out;omega)).below hb)
 have HTL:Hid (n=((bs.drop used).take n).length):=hid (by rw [List.length_take,hdl];omega)
 obtain ⟨A',hA'⟩:∃ a,A.map (·.add used)=a:=⟨_,rfl⟩
 obtain ⟨c',hc'⟩:∃ a,c-used=a:=⟨_,rfl⟩
 rw [hA'] at hsl HPT
 rw [hc'] at hsl
 obtain ⟨t,ht⟩:∃ t,(bs.drop used).take n=t:=⟨_,rfl⟩
 rw [ht] at HRR HPT HTL
 have HU2:Hid (used+n=u2∧u2≤LB∧bs.length=LB∧n≤65536):=hid ⟨hu2,by omega,hLB,by have:=HNB.out;omega⟩
 clear hdl hrm hLB hsh hcp1 hcp2 hcp3 hA' hc' ht hu2 HR
 go_upto_region 5 with fail
 go_quiet (fail)
 have H3:=hid (H2.out.drewN nq)
 obtain ⟨w3,hw3⟩:∃ W,wc.drewN nq=W:=⟨_,rfl⟩
 rw [hw3] at H3
 rw [hw3]
 clear c2 c3 hw3 H2
 obtain ⟨-,-,c2,c3,-,-,-,-,-⟩:=H3.out.cells
 rw [HU2.out.2.2.1] at c2
 go_upto_region 7 with fail
 go_quiet (fail)
 have H4:=hid (H3.out.drewN nq)
 obtain ⟨w4,hw4⟩:∃ W,w3.drewN nq=W:=⟨_,rfl⟩
 rw [hw4] at H4
 rw [hw4]
 clear c2 c3 hw4 H3 hsl
 obtain ⟨-,-,-,c3,-,-,-,-,-⟩:=H4.out.cells
 have f3:=H4.out.fz 3
 have H5:Hid (DmAt w0 (w4.setCell ⟨xb,3,none⟩ (.int .i64 (u2:Int))) K xb k (x.dict hz) wb kb S A bs c most u2 all' 0 wv' ov out):=hid (H4.out.turn 3 (.int .i64 (u2:Int)) rfl rfl rfl rfl ⟨rfl,rfl,rfl⟩ rfl H4.out.ht H4.out.al)
 go_wp2_with fail
 refine (told_put t A' n c' H5.out HTL.out (HPT.out _ H5.out.b) (by have:=HU2.out;omega)).mono ?_;rintro e w6 h6
 unfold DmTold at h6
 rcases h6 with ⟨g1,rfl,g3⟩ | ⟨g1,rfl,wv6,ov6,g3⟩
 ·have G:=hid (And.intro g1 g3)
  clear g1 g3
  go_wp2
  go_ret
  refine .inr ⟨t,{ x.dict hz with C:=lastN S ((x.dict hz).C++t) },u2,?_,by have:=HU2.out;omega,by have:=HU2.out;omega,.inl ⟨G.out.1,rfl,G.out.2⟩⟩
  rw [← HRR.out,List.drop_drop,HU2.out.1]
 have G:=hid (And.intro g1 g3)
 clear g1 g3
 go_wp2
 go_ret
 refine .inr ⟨t,{ x.dict hz with C:=lastN S ((x.dict hz).C++t) },u2,?_,by have:=HU2.out;omega,by have:=HU2.out;omega,.inr ⟨G.out.1,rfl,_,_,_,_,G.out.2⟩⟩
 rw [← HRR.out,List.drop_drop,HU2.out.1]
end
end Go.Proofs.YtffehfpbdcokbaaGreat
