import Derived.Deep.RegionLaw
import Derived.Defers
import Derived.Recover
import Derived.WalkSmall
import Derived.Laws.Pointers
import Derived.Deep.LoopGhost
import Derived.Deep.Onto
import Derived.Test.YtablgjhnpphodaaGreatBu1
import Derived.Test.YtablgjhnpphodaaGreatBu2
set_option linter.unusedVariables false
set_option linter.unusedSimpArgs false
namespace Go.Proofs.YtablgjhnpphodaaGreat
open Lib (hid)
open Go.RowKit Rng Lz Win
theorem farGo_lt {σ:Type} (co:Cod σ) (base x far:Nat):∀ (n m:Nat) (s:CP σ),(farGo co base x far n m s).1<2 ^ n*(m+1)
 | 0,m,s=>by show m<2 ^ 0*(m+1);omega
 | n+1,m,s=>by
  have hb:=bitAt_le co (base+(1+far / 2 ^ n % 2)*256+m) (x / 2 ^ n % 2) s
  have h1:=farGo_lt co base x far n (2*m+(bitAt co (base+(1+far / 2 ^ n % 2)*256+m) (x / 2 ^ n % 2) s).1) (bitAt co (base+(1+far / 2 ^ n % 2)*256+m) (x / 2 ^ n % 2) s).2
  have h2:=treeGo_lt co base x n (2*m+(bitAt co (base+(1+far / 2 ^ n % 2)*256+m) (x / 2 ^ n % 2) s).1) (bitAt co (base+(1+far / 2 ^ n % 2)*256+m) (x / 2 ^ n % 2) s).2
  have h3:2 ^ n*(2*m+(bitAt co (base+(1+far / 2 ^ n % 2)*256+m) (x / 2 ^ n % 2) s).1+1)≤2 ^ (n+1)*(m+1):=by
   rw [Nat.pow_succ,Nat.mul_assoc]
   exact Nat.mul_le_mul_left _ (by omega)
  unfold farGo
  simp only
  split
  ·exact Nat.lt_of_lt_of_le h1 h3
  exact Nat.lt_of_lt_of_le h2 h3
theorem litAt_lt {σ:Type} (co:Cod σ) (lc lp st total ahead far x:Nat) (s:CP σ):(litAt co lc lp st total ahead far x s).1<256:=by
 unfold litAt
 simp only
 split
 ·have:=farGo_lt co (4096+768*(total % 2 ^ lp*2 ^ lc+ahead / 2 ^ (8-lc))) x far 8 1 s;omega
 have:=treeGo_lt co (4096+768*(total % 2 ^ lp*2 ^ lc+ahead / 2 ^ (8-lc))) x 8 1 s;omega
def litOf {σ:Type} (co:Cod σ) (k:LK) (st total:Nat) (rep:Nat→Nat) (C:List UInt8) (s:CP σ):Nat×CP σ :=
 litAt co k.lc k.lp st total (if 0<total then (atB C 1).toNat else 0) (if rep 0<16777216 then (atB C (rep 0+1)).toNat else 0) 0 s
section
variable {Z : Nat → Prop} {w0 w w' : World} {k : LK} {g : RB} {total : Int} {st : Nat} {rep : Nat → Nat} {s : CP Dec} {C told : List UInt8} {wv tv : Value}
theorem RdAt.drew (h:RdAt Z w0 w k g total st rep s C told wv tv):RdAt Z w0 w.drew k g total st rep s C told wv tv:=h.frmOut ((Frm.refl (fun _=>False) w).drew) (fun _ h=>h.elim)
theorem RdAt.cells (h:RdAt Z w0 w k g total st rep s C told wv tv):w.cell? ⟨g.xb,0,none⟩=some (.pointer (some ⟨k.sb,0,none⟩))∧w.cell? ⟨g.xb,1,none⟩=some (.pointer (some ⟨g.wb,0,none⟩))∧w.cell? ⟨g.xb,2,none⟩=some (.pointer (some ⟨g.db,0,none⟩)) ∧
 w.cell? ⟨g.xb,3,none⟩=some (.int .i64 total)∧w.cell? ⟨g.xb,4,none⟩=some tv∧w.cell? ⟨k.sb,4,none⟩=some (.int .u32 (rep 0)):=by
 refine ⟨by rw [h.p.cell];rfl,by rw [h.p.cell];rfl,by rw [h.p.cell];rfl,by rw [h.p.cell];rfl,by rw [h.p.cell];rfl,?_⟩
 exact (h.lz.hdr (i:=4) (by omega)).1
end
set_option maxRecDepth 100000 in
set_option maxHeartbeats 2000000 in
theorem literal_p (Z:Nat→Prop) (w0 w:World) (k:LK) (g:RB) (total st:Nat) (rep:Nat→Nat) (s:CP Dec) (C told:List UInt8) (wv tv:Value) (h:RdAt Z w0 w k g (total:Int) st rep s C told wv tv)
 (hk:k.Ok) (ht:total<4611686018427387904) (hst:st<12) (hrep:rep 0<4294967296) (hS:g.S≤16777216) (hlen:told.length≤100000000) :
 Calls Tryz.prog 125 #[.pointer (some ⟨g.xb,0,none⟩)] w fun e w'=>e=.returned (.tuple #[])∧∃ wv' tv',RdAt Z w0 w' k g (total:Int) (behS st 0) rep (litOf outC k st total rep C s).2 (lastN g.S (C++[UInt8.ofNat (litOf outC k st total rep C s).1])) (told++[UInt8.ofNat (litOf outC k st total rep C s).1]) wv' tv':=by
 obtain ⟨AH,hAH⟩:∃ a,(if 0<total then (atB C 1).toNat else 0)=a:=⟨_,rfl⟩
 obtain ⟨FA,hFA⟩:∃ a,(if rep 0<16777216 then (atB C (rep 0+1)).toNat else 0)=a:=⟨_,rfl⟩
 obtain ⟨⟨b,s2⟩,hL⟩:∃ x,litOf outC k st total rep C s=x:=⟨_,rfl⟩
 have hbl:b<256:=by
  have:=litAt_lt outC k.lc k.lp st total (if 0<total then (atB C 1).toNat else 0) (if rep 0<16777216 then (atB C (rep 0+1)).toNat else 0) 0 s
  unfold litOf at hL
  rw [hL] at this
  exact this
 rw [hL]
 dsimp only
 obtain ⟨bb,hbb⟩:∃ x:UInt8,UInt8.ofNat b=x:=⟨_,rfl⟩
 have HBN:Hid (bb.toNat=b):=hid (by rw [← hbb,UInt8.toNat_ofNat'];omega)
 rw [hbb]
 clear hbb
 unfold litOf at hL
 rw [hAH,hFA] at hL
 have hah:AH<256:=by rw [← hAH];split;exact (atB C 1).toNat_lt;omega
 have hfa:FA<256:=by rw [← hFA];split;exact (atB C (rep 0+1)).toNat_lt;omega
 have HH:=hid h
 have HAH:=hid hAH
 have HFA:=hid hFA
 have HL:=hid hL
 have HK:=hid hk
 obtain ⟨d0,d1,d2,d3,d4,d5⟩:=h.cells
 obtain ⟨r0,hr0⟩:∃ r,rep 0=r:=⟨_,rfl⟩
 rw [hr0] at d5 hrep
 have HR0:=hid hr0
 clear h hAH hFA hL hk hr0
 go_enter Tryz.func125,Tryz.ntmps125
 go_upto_if 9 with fail
 go_cut [2] from 5 (fun v wx=>v=.int .u8 AH∧RdAt Z w0 wx k g (total:Int) st rep s C told wv tv)
 case first =>
  by_cases h0:0<total
  ·have h0i:(0:Int)<(total:Int):=by omega
   have hA:=HAH.out
   rw [if_pos h0] at hA
   go_wp2_with fail
   refine (at_c g.bw g.wb g.kb g.S 1 1 C wv w HH.out.win hS rfl).mono ?_;rintro e w1 ⟨⟨ok,rfl⟩,d,rfl⟩
   rw [hA]
   have H1:=hid (HH.out.drewN d)
   go_wp2
   go_meet
   case rel=>exact ⟨rfl,H1.out⟩
  have h0i:(total:Int)=0:=by omega
  have hA:=HAH.out
  rw [if_neg h0] at hA
  have h0d:decide (0<total)=false:=decide_eq_false h0
  subst hA
  go_wp2
  go_meet
  case rel=>exact ⟨rfl,HH.out⟩
 obtain ⟨rfl,h1⟩:=hcut
 have H1:=hid h1
 clear d0 d1 d2 d3 d4 d5
 obtain ⟨d0,d1,d2,d3,d4,d5⟩:=h1.cells
 rw [HR0.out] at d5
 clear h1 HH
 go_upto_if 27 with fail
 go_cut [3] from 5 (fun v wx=>v=.int .u8 FA∧RdAt Z w0 wx k g (total:Int) st rep s C told wv tv)
 case first =>
  by_cases h0:r0<16777216
  ·have h0i:(r0:Int)<16777216:=by omega
   have hA:=HFA.out
   rw [HR0.out,if_pos h0] at hA
   have hr1:(r0:Int)+1=((r0+1:Nat):Int):=by omega
   obtain ⟨r1,hr1e⟩:∃ r1,r0+1=r1:=⟨_,rfl⟩
   rw [hr1e] at hr1 hA
   have hr1w:IntKind.i64.wrap (r1:Int)=(r1:Int):=Go.IntWalk.i64_in _ (by omega)
   have hr0w:IntKind.i64.wrap (r0:Int)=(r0:Int):=Go.IntWalk.i64_in _ (by omega)
   have hr1b:r1≤16777216:=by omega
   have HD:=hid H1.out.drew
   have h0i2:decide ((r0:Int)<16777216)=true:=decide_eq_true h0i
   simp only [h0i2]
   clear hr1e h0i h0 h0i2
   go_wp2_with fail
   go_region_with (first
    | (go_at_call 130;refine (at_c g.bw g.wb g.kb g.S r1 r1 C wv _ HD.out.win hS rfl).mono ?_;rintro e w2 ⟨⟨ok,rfl⟩,d,rfl⟩;rw [hA]))
   all_goals
    have H2:=hid (H1.out.drewN (1+d))
    go_wp2
    go_meet
    case rel=>exact ⟨rfl,H2.out⟩
  have h0i:¬ ((r0:Int)<16777216):=by omega
  have hA:=HFA.out
  rw [HR0.out,if_neg h0] at hA
  subst hA
  have h0i2:decide ((r0:Int)<16777216)=false:=decide_eq_false h0i
  simp only [h0i2]
  clear h0i h0
  go_wp2
  go_meet
  case rel=>exact ⟨rfl,H1.out⟩
 obtain ⟨rfl,h2⟩:=hcut
 have H2:=hid h2
 clear d0 d1 d2 d3 d4 d5
 obtain ⟨d0,d1,d2,d3,d4,d5⟩:=h2.cells
 have HD:=hid h2.drew
 clear h2 H1
 go_upto_region 5 with fail
 go_cut [4] from 5 (fun v wx=>∃ nb:Nat,v=.slice (some ⟨nb,0,none⟩) 1 1∧RdAt Z w0 wx k g (total:Int) st rep s2 C told wv tv∧Pts wx nb #[.int .u8 (b:Int)] 5∧wv.ownBlock≠some nb∧tv.ownBlock≠some nb)
 case first =>
  go_region_with (first
   | (go_at_call 90;refine (lit_p g.db g.rb 211 k st total AH FA rep s _ HD.out.lz HK.out ht hah hfa).mono ?_;rintro e w2 ⟨rfl,h2,f2⟩;rw [HL.out] at h2 ⊢))
  all_goals
   have h3:=HD.out.lzStep h2 f2
   obtain ⟨lw,hwo⟩:=h3.win.own
   have hto:=h3.o
   have n1:wv.ownBlock≠some w2.heap.size:=fun e=>by have:=(hwo.lt e).2;omega
   have n2:tv.ownBlock≠some w2.heap.size:=fun e=>by have:=(hto.lt e).2;omega
   have H3:=hid h3
   clear h2 f2 h3 hwo hto
   go_wp2
   go_meet
   case rel=>exact ⟨w2.heap.size,rfl,H3.out.alloc _,Pts.new w2 _ _,n1,n2⟩
 obtain ⟨nb,rfl,h3,hnb,n1,n2⟩:=hcut
 have H3:=hid h3
 have NB:=hid hnb
 clear d0 d1 d2 d3 d4 d5 HD H2
 have hbn:=HBN.out
 have hrow:∀ w9:World,Pts w9 nb #[.int .u8 (b:Int)] 5→BRow w9 w9.heap.size (some ⟨nb,0,none⟩) [bb]:=fun w9 hp _=>⟨nb,0,rfl,hp.lt,fun j hj=>by
  obtain rfl:j=0:=by simpa using hj
  refine (hp.cell 0).trans ?_
  show some (Value.int .u8 (b:Int))=some (Value.int .u8 (bb.toNat:Int))
  rw [hbn]⟩
 obtain ⟨cw,hwp⟩:=h3.win.pts
 have nw:nb≠g.wb:=hnb.ne_of hwp (by decide)
 have nx:nb≠g.xb:=hnb.ne_of h3.p (by decide)
 have hoff:BOff (fun x=>x=g.wb∨wv.ownBlock=some x) (some ⟨nb,0,none⟩) [bb]:=by
  intro _ ad had
  injection had with had
  subst had
  rintro (e | e)
  ·exact nw e
  exact n1 e
 have OF:=hid hoff
 have HROW:=hid hrow
 have N12:=hid (And.intro n1 n2)
 obtain ⟨d0,d1,d2,d3,d4,d5⟩:=h3.cells
 clear h3 hnb hwp hoff hrow n1 n2 hbn d2 d3 d5
 go_wp2_with fail
 refine (put_c g.bw g.wb g.kb g.S 1 _ 1 C wv _ [bb] wc H3.out.win rfl (HROW.out _ NB.out) OF.out (by simp) (by unfold maxLen;omega) (by simp) H3.out.bs.1 hS (Nat.le_refl _)).mono ?_;rintro e w4 ⟨rfl,wv4,hw4,f4,m4⟩
 have H4:=hid (H3.out.winStep hw4 f4 m4)
 have NB4:=hid (NB.out.frm f4 (by rintro (e | e);exact nw e;exact N12.out.1 e))
 clear hw4 f4 m4 d0 d1 d4
 obtain ⟨d0,d1,d2,d3,d4,d5⟩:=H4.out.cells
 have hxz:=H4.out.p.frozen 4
 obtain ⟨A5,c5,htv,hc5,hm5,_⟩:=H4.out.o.slice
 subst htv
 clear d1 d2 d3 d5
 go_wp2_with (at_builtin;refine wpList_append_bytes _ rfl (.tmp 76) (.tmp 77) 27 rfl 5 g.bt Tryz.underlying27 Tryz.info_u8 (.slice A5 told.length c5) told rfl ?own5 (some ⟨nb,0,none⟩) 1 1 w4.heap.size [bb] rfl rfl ?row5 ?len5 ?base5 ?next5)
 case own5=>exact H4.out.o
 case row5=>exact HROW.out _ NB4.out
 case len5=>simp;omega
 case base5=>exact H4.out.bs.2
 intro v5 w5 hown5 hfrm5 hnew5
 obtain ⟨A6,c6,rfl,-,-,-⟩:=hown5.slice
 have h6:=H4.out.toldStep hown5 hfrm5 hnew5
 have hp5:=H4.out.p.frm hfrm5 (own_ne H4.out.o H4.out.p (by decide))
 have e4:w5.cell? ⟨g.xb,4,none⟩=some (.slice A5 told.length c5):=by rw [hp5.cell];rfl
 have z4:=hp5.frozen 4
 obtain ⟨L6,hL6⟩:∃ L,(told++[bb]).length=L:=⟨_,rfl⟩
 rw [hL6] at h6 ⊢
 have H6:=hid h6
 obtain ⟨q0,-,-,-,-,-⟩:=h6.cells
 clear hown5 hfrm5 hnew5 hp5 h6 hL6 d0 d4
 go_wp2_with fail
 refine (behind_any (DC.keep g.db g.rb) 211 k st 0 rep s2 _ H6.out.lz hst (by omega)).mono ?_;rintro e w7 ⟨rfl,h7,f7⟩
 have H7:=hid (H6.out.lzStep h7 f7)
 clear h7 f7
 go_wp2
 go_end0
 exact ⟨rfl,wv4,_,H7.out⟩
open Go.RowKit Rng Lz Win
def repOf {σ:Type} (co:Cod σ) (st p:Nat) (rep:Nat→Nat) (s:CP σ):Nat×Nat×(Nat→Nat)×CP σ :=
 let a:=bitAt co (212+st) 0 s
 if a.1=0 then
  let b:=bitAt co (248+st*16+p) 0 a.2
  if b.1=0 then (1,behS st 3,rep,b.2)
  else ((lenAt co 1354 2 p b.2).1,behS st 2,rep,(lenAt co 1354 2 p b.2).2)
 else
  let c:=bitAt co (224+st) 0 a.2
  if c.1=1 then
   let d:=bitAt co (236+st) 0 c.2
   ((lenAt co 1354 2 p d.2).1,behS st 2,takeS rep (2+d.1),(lenAt co 1354 2 p d.2).2)
  else ((lenAt co 1354 2 p c.2).1,behS st 2,takeS rep 1,(lenAt co 1354 2 p c.2).2)
theorem RdAt.st3 {Z:Nat→Prop} {w0 w:World} {k:LK} {g:RB} {total:Int} {st:Nat} {rep:Nat→Nat} {s:CP Dec} {C told:List UInt8} {wv tv:Value} (h:RdAt Z w0 w k g total st rep s C told wv tv):w.cell? ⟨k.sb,3,none⟩=some (.int .i64 st):=(h.lz.hdr (i:=3) (by omega)).1
set_option maxRecDepth 100000 in
set_option maxHeartbeats 2000000 in
theorem repeated_p (Z:Nat→Prop) (w0 w:World) (k:LK) (g:RB) (total:Int) (st p:Nat) (rep:Nat→Nat) (s:CP Dec) (C told:List UInt8) (wv tv:Value) (h:RdAt Z w0 w k g total st rep s C told wv tv)
 (hst:st<12) (hp:p<16) :
 Calls Tryz.prog 126 #[.pointer (some ⟨g.xb,0,none⟩),.int .i64 p] w fun e w'=>e=.returned (.int .i64 ((repOf outC st p rep s).1:Nat))∧RdAt Z w0 w' k g total (repOf outC st p rep s).2.1 (repOf outC st p rep s).2.2.1 (repOf outC st p rep s).2.2.2 C told wv tv:=by
 obtain ⟨R,hR⟩:∃ R,repOf outC st p rep s=R:=⟨_,rfl⟩
 rw [hR]
 unfold repOf at hR
 obtain ⟨⟨a,sa⟩,ha⟩:∃ x,bitAt outC (212+st) 0 s=x:=⟨_,rfl⟩
 rw [ha] at hR
 dsimp only at hR
 have HR:=hid hR
 have HA:=hid ha
 have HH:=hid h
 obtain ⟨d0,d1,d2,-,-,-⟩:=h.cells
 have d3:=h.st3
 have HD:=hid h.drew
 have P0:=hid (plm k (i:=212+st) (by omega) (by omega))
 have hsti:(st:Int)<12:=by omega
 have hpi:(p:Int)<16:=by omega
 clear h hR ha
 go_enter Tryz.func126,Tryz.ntmps126
 go_upto_region 2 with fail
 go_cut [27] from 7 (fun v wx=>∃ β:Bool,v=.bool β∧(β=true↔a=0)∧RdAt Z w0 wx k g total st rep sa C told wv tv)
 case first =>
  go_region_with (first
   | (go_at_call 124;refine (lz_bit (obit_any g.db g.rb) HD.out.lz (212+st) k.sb (212+st) 0 _ trivial P0.out.1 P0.out.2).mono ?_;rintro e w2 ⟨rfl,h2,f2⟩;rw [HA.out] at h2 ⊢))
  all_goals
   have H2:=hid (HD.out.lzStep h2 f2)
   clear h2 f2
   go_wp2
   go_meet
   case rel=>exact ⟨_,rfl,by simp,H2.out⟩
 obtain ⟨β,rfl,hβ,h2⟩:=hcut
 have H2:=hid h2
 clear d0 d1 d2 d3 HD HH
 obtain ⟨d0,d1,d2,-,-,-⟩:=h2.cells
 have d3:=h2.st3
 have HD:=hid h2.drew
 clear h2
 go_upto_if 27 with fail
 go_cut [6] from 7 (fun v wx=>∃ (rep':Nat→Nat) (s':CP Dec),((lenAt outC 1354 2 p s').1,behS st 2,rep',(lenAt outC 1354 2 p s').2)=R∧RdAt Z w0 wx k g total st rep' s' C told wv tv)
 case first =>
  by_cases ha0:a=0
  ·obtain rfl:β=true:=hβ.2 ha0
   have hR:=HR.out
   rw [if_pos ha0] at hR
   obtain ⟨⟨b,sb⟩,hb⟩:∃ x,bitAt outC (248+st*16+p) 0 sa=x:=⟨_,rfl⟩
   rw [hb] at hR
   dsimp only at hR
   have HB:=hid hb
   have HR2:=hid hR
   have P1:=hid (plm k (i:=248+st*16+p) (by omega) (by omega))
   clear hR hb hβ ha0 HR
   go_upto_region 3 with fail
   go_cut [43] from 7 (fun v wx=>∃ β:Bool,v=.bool β∧(β=true↔b=0)∧RdAt Z w0 wx k g total st rep sb C told wv tv)
   case first =>
    go_region_with (first
     | (go_at_call 124;refine (lz_bit (obit_any g.db g.rb) HD.out.lz (248+st*16+p) k.sb (248+st*16+p) 0 _ trivial P1.out.1 P1.out.2).mono ?_;rintro e w2 ⟨rfl,h2,f2⟩;rw [HB.out] at h2 ⊢))
    all_goals
     have H3:=hid (HD.out.lzStep h2 f2)
     clear h2 f2
     go_wp2
     go_meet
     case rel=>exact ⟨_,rfl,by simp,H3.out⟩
   obtain ⟨β,rfl,hβ,h3⟩:=hcut
   have H3:=hid h3
   clear d0 d1 d2 d3 HD H2 h3
   by_cases hb0:b=0
   ·obtain rfl:β=true:=hβ.2 hb0
    have hR:=HR2.out
    rw [if_pos hb0] at hR
    have HR3:=hid hR
    clear hR hβ hb0 HR2
    go_wp2_with fail
    refine (behind_any (DC.keep g.db g.rb) 211 k st 3 rep sb _ H3.out.lz hst (by omega)).mono ?_;rintro e w7 ⟨rfl,h7,f7⟩
    have H7:=hid (H3.out.lzStep h7 f7)
    clear h7 f7
    go_wp2
    go_ret
    rw [← HR3.out]
    exact ⟨rfl,H7.out⟩
   obtain rfl:β=false:=by cases β;rfl;exact absurd (hβ.1 rfl) hb0
   have hR:=HR2.out
   rw [if_neg hb0] at hR
   have HR3:=hid hR
   clear hR hβ hb0 HR2
   go_wp2
   go_meet
   case rel=>exact ⟨rep,sb,HR3.out,H3.out⟩
  obtain rfl:β=false:=by cases β;rfl;exact absurd (hβ.1 rfl) ha0
  have hR:=HR.out
  rw [if_neg ha0] at hR
  obtain ⟨⟨c,sc⟩,hc⟩:∃ x,bitAt outC (224+st) 0 sa=x:=⟨_,rfl⟩
  rw [hc] at hR
  dsimp only at hR
  have HC:=hid hc
  have HR2:=hid hR
  have P1:=hid (plm k (i:=224+st) (by omega) (by omega))
  clear hR hc hβ ha0 HR
  go_upto_region 7 with fail
  go_cut [60] from 7 (fun v wx=>∃ β:Bool,v=.bool β∧(β=true↔c=1)∧RdAt Z w0 wx k g total st rep sc C told wv tv)
  case first =>
   go_region_with (first
    | (go_at_call 124;refine (lz_bit (obit_any g.db g.rb) HD.out.lz (224+st) k.sb (224+st) 0 _ trivial P1.out.1 P1.out.2).mono ?_;rintro e w2 ⟨rfl,h2,f2⟩;rw [HC.out] at h2 ⊢))
   all_goals
    have H3:=hid (HD.out.lzStep h2 f2)
    clear h2 f2
    go_wp2
    go_meet
    case rel=>exact ⟨_,rfl,by simp;omega,H3.out⟩
  obtain ⟨β,rfl,hβ,h3⟩:=hcut
  have H3:=hid h3
  clear d0 d1 d2 d3 HD H2
  obtain ⟨d0,d1,d2,-,-,-⟩:=h3.cells
  have d3:=h3.st3
  have HD:=hid h3.drew
  clear h3
  go_upto_if 60 with fail
  go_cut [6] from 7 (fun v wx=>∃ (n:Nat) (s':CP Dec),v=.int .i64 n∧1≤n∧n≤3∧((lenAt outC 1354 2 p s').1,behS st 2,takeS rep n,(lenAt outC 1354 2 p s').2)=R∧RdAt Z w0 wx k g total st rep s' C told wv tv)
  case first =>
   by_cases hc1:c=1
   ·obtain rfl:β=true:=hβ.2 hc1
    have hR:=HR2.out
    rw [if_pos hc1] at hR
    obtain ⟨⟨d,sd⟩,hd⟩:∃ x,bitAt outC (236+st) 0 sc=x:=⟨_,rfl⟩
    rw [hd] at hR
    dsimp only at hR
    have hdl:d≤1:=by have:=bitAt_le outC (236+st) 0 sc;rw [hd] at this;exact this
    have hdw:IntKind.i64.wrap ((2:Int)+(d:Int))=(2:Int)+(d:Int):=Go.IntWalk.i64_in _ (by omega)
    have HDD:=hid hd
    have HR3:=hid hR
    have P2:=hid (plm k (i:=236+st) (by omega) (by omega))
    clear hR hd hβ hc1 HR2
    go_wp2_with fail
    go_region_with (first
     | (go_at_call 124;refine (lz_bit (obit_any g.db g.rb) HD.out.lz (236+st) k.sb (236+st) 0 _ trivial P2.out.1 P2.out.2).mono ?_;rintro e w2 ⟨rfl,h2,f2⟩;rw [HDD.out] at h2 ⊢))
    all_goals
     have H4:=hid (HD.out.lzStep h2 f2)
     clear h2 f2
     go_wp2
     go_meet
     case rel=>exact ⟨2+d,sd,by go_num,by omega,by omega,HR3.out,H4.out⟩
   obtain rfl:β=false:=by cases β;rfl;exact absurd (hβ.1 rfl) hc1
   have hR:=HR2.out
   rw [if_neg hc1] at hR
   have HR3:=hid hR
   clear hR hβ hc1 HR2
   go_wp2
   go_meet
   case rel=>exact ⟨1,sc,rfl,by omega,by omega,HR3.out,H3.out⟩
  obtain ⟨n,s4,rfl,n1,n3,hR,h4⟩:=hcut
  have H4:=hid h4
  have HR4:=hid hR
  clear d0 d1 d2 d3 HD H3 hR h4
  go_wp2_with fail
  refine (take_any (DC.keep g.db g.rb) 211 k st n rep s4 _ H4.out.lz ⟨n1,n3⟩).mono ?_;rintro e w5 ⟨rfl,h5,f5⟩
  have H5:=hid (H4.out.lzStep h5 f5)
  clear h5 f5
  go_wp2
  go_meet
  case rel=>exact ⟨_,s4,HR4.out,H5.out⟩
 obtain ⟨rep5,s5,hR,h5⟩:=hcut
 have HR5:=hid hR
 have H5:=hid h5
 clear d0 d1 d2 d3 HD H2 hβ HR hR
 obtain ⟨d0,d1,d2,-,-,-⟩:=h5.cells
 have HD:=hid h5.drew
 obtain ⟨⟨sz,s6⟩,hsz⟩:∃ x,lenAt outC 1354 2 p s5=x:=⟨_,rfl⟩
 have HSZ:=hid hsz
 clear h5 hsz
 go_upto_region 10 with fail
 go_cut [4] from 7 (fun v wx=>v=.int .i64 sz∧RdAt Z w0 wx k g total st rep5 s6 C told wv tv)
 case first =>
  go_region_with (first
   | (go_at_call 94;refine (lens_p g.db g.rb 211 k st rep5 s5 1354 p _ HD.out.lz (.inr rfl) hp).mono ?_;rintro e w2 ⟨rfl,h2,f2⟩;rw [HSZ.out] at h2 ⊢))
  all_goals
   have H6:=hid (HD.out.lzStep h2 f2)
   clear h2 f2
   go_wp2
   go_meet
   case rel=>exact ⟨rfl,H6.out⟩
 obtain ⟨rfl,h6⟩:=hcut
 have H6:=hid h6
 clear d0 d1 d2 HD H5 h6
 go_wp2_with fail
 refine (behind_any (DC.keep g.db g.rb) 211 k st 2 rep5 s6 _ H6.out.lz hst (by omega)).mono ?_;rintro e w7 ⟨rfl,h7,f7⟩
 have H7:=hid (H6.out.lzStep h7 f7)
 have hR:=HR5.out
 rw [HSZ.out] at hR
 clear h7 f7
 go_wp2
 go_ret
 rw [← hR]
 exact ⟨rfl,H7.out⟩
open Go.RowKit Rng Lz Win
def opOf {σ:Type} (co:Cod σ) (st p:Nat) (rep:Nat→Nat) (s:CP σ):Nat×Nat×(Nat→Nat)×CP σ :=
 let b:=bitAt co (200+st) 0 s
 if b.1=1 then repOf co st p rep b.2
 else
  let l:=lenAt co 840 2 p b.2
  let d:=distAt co 0 l.1 l.2
  (l.1,behS st 1,(fun j=>if j=0 then d.1 else shiftN rep 3 j),d.2)
theorem lenAt_lt {σ:Type} (co:Cod σ) (base n p:Nat) (s:CP σ):2≤(lenAt co base n p s).1∧(lenAt co base n p s).1≤300:=by
 unfold lenAt
 simp only
 split
 ·have:=treeAt_lt co (base+2+p*8) 3 (n-2) (bitAt co base (b2n (decide (10≤n))) s).2 (by omega)
  simp only;omega
 split
 ·have:=treeAt_lt co (base+130+p*8) 3 (n-10) (bitAt co (base+1) (b2n (decide (18≤n))) (bitAt co base (b2n (decide (10≤n))) s).2).2 (by omega)
  simp only;omega
 have:=treeAt_lt co (base+258) 8 (n-18) (bitAt co (base+1) (b2n (decide (18≤n))) (bitAt co base (b2n (decide (10≤n))) s).2).2 (by omega)
 simp only;omega
set_option maxRecDepth 100000 in
set_option maxHeartbeats 2000000 in
theorem step_lit (Z:Nat→Prop) (w0 w:World) (k:LK) (g:RB) (total st:Nat) (room:Int) (rep:Nat→Nat) (s sa:CP Dec) (C told:List UInt8) (wv tv:Value) (h:RdAt Z w0 w k g (total:Int) st rep s C told wv tv)
 (hk:k.Ok) (ht:total<4611686018427387904) (hst:st<12) (hrep:rep 0<4294967296) (hS:g.S≤16777216) (hlen:told.length≤100000000) (p:Nat) (hp:total % 2 ^ k.pb=p) (ha:bitAt outC (8+st*16+p) 0 s=(0,sa)) :
 Calls Tryz.prog 122 #[.pointer (some ⟨g.xb,0,none⟩),.int .i64 room] w fun e w'=>e=.returned (.tuple #[])∧∃ wv' tv',RdAt Z w0 w' k g (total:Int) (behS st 0) rep (litOf outC k st total rep C sa).2 (lastN g.S (C++[UInt8.ofNat (litOf outC k st total rep C sa).1])) (told++[UInt8.ofNat (litOf outC k st total rep C sa).1]) wv' tv':=by
 have hp16:p<16:=by
  have h1:2 ^ k.pb≤2 ^ 4:=Nat.pow_le_pow_right (by omega) hk.b
  have h2:total % 2 ^ k.pb<2 ^ k.pb:=Nat.mod_lt _ (Nat.lt_of_lt_of_le (by omega) (Nat.one_le_two_pow))
  omega
 have HA:=hid ha
 have HH:=hid h
 have HK:=hid hk
 have HPL:=hid (place_any 211 k st total rep s w h.lz hk ht)
 rw [hp] at HPL
 obtain ⟨d0,d1,d2,dt,-,-⟩:=h.cells
 have d3:=h.st3
 have HD:=hid h.drew
 have P0:=hid (plm k (i:=8+st*16+p) (by omega) (by omega))
 have hsti:(st:Int)<12:=by omega
 have hpi:(p:Int)<16:=by omega
 clear h ha hk hp
 go_enter Tryz.func122,Tryz.ntmps122
 go_wp2_with fail
 refine HPL.out.mono ?_;rintro e w1 ⟨rfl,rfl⟩
 go_upto_region 2 with fail
 go_cut [36] from 9 (fun v wx=>v=.bool true∧RdAt Z w0 wx k g (total:Int) st rep sa C told wv tv)
 case first =>
  go_region_with (first
   | (go_at_call 124;refine (lz_bit (obit_any g.db g.rb) HD.out.lz (8+st*16+p) k.sb (8+st*16+p) 0 _ trivial P0.out.1 P0.out.2).mono ?_;rintro e w2 ⟨rfl,h2,f2⟩;rw [HA.out] at h2 ⊢))
  all_goals
   have H2:=hid (HD.out.lzStep h2 f2)
   clear h2 f2
   go_wp2
   go_meet
   case rel=>exact ⟨by simp,H2.out⟩
 obtain ⟨rfl,h2⟩:=hcut
 have H2:=hid h2
 clear h2 d0 d1 d2 d3 dt HD HH
 go_wp2_with fail
 refine (literal_p Z w0 _ k g total st rep sa C told wv tv H2.out HK.out ht hst hrep hS hlen).mono ?_;rintro e w3 ⟨rfl,h3⟩
 have H3:=hid h3
 clear h3
 go_wp2
 first | go_end0 | (refine bodyPost_ret (results_none rfl _ _ _) rfl ?_)
 exact ⟨rfl,H3.out⟩
open Go.RowKit
theorem stepR_append_bytes {P:Program} (w:World) {ops:Array Oper} {o:Oper} {a:Act} {K:Act→World→Prop} {Q:Exit→Act→World→Prop} {E:Prop} (hg:o.guard=none) (s x:Operand) (t:TypeId)
 (ho:o.op=.call { callee:=.builtin .append,args:=#[s,x],argTypes:=#[t,t] })
 (T base:Nat) (ht:P.underlying t=some (.slice T)) (hinfo:(P.info? T).map (fun i=>(i.zero,i.size,i.bytes))=some (some (.int .u8 0),1,1))
 (v:Value) (bs:List UInt8) (hs:a.eval s=v) (hown:OwnB w T base v bs) (A:Option Addr) (m c B:Nat) (news:List UInt8) (hx:a.eval x=.slice A m c) (hm:m=news.length) (hnews:BRow w B A news)
 (hlen:bs.length+news.length≤140737488355328) (hbase:base≤w.heap.size)
 (h:∀ v' w',OwnB w' T base v' (bs++news)→Frm (fun k=>v.ownBlock=some k) w w'→(v'.ownBlock=v.ownBlock∨v'.ownBlock=some w.heap.size)→K (a.put o.dst v') w') :
 if Region.wanted o (yielded ops a.tmps)=true then Oper.wp P o a w K Q else E:=by
 have hw:Region.wanted o (yielded ops a.tmps)=true:=by simp [Region.wanted,hg]
 rw [if_pos hw]
 exact wp_append_bytes w s x t ho T base ht hinfo v bs hs hown A m c B news hx hm hnews hlen hbase h
open Go.RowKit Rng
theorem slice_fromR (A:Option Addr) (n c f:Nat) (hf:f≤n) (hn:n≤c) (w:World) :
 (Instr.sliceAt 27 (.slice A n c) (some (.int .i64 (f:Int))) none none).run Tryz.prog w=.ok (.slice (if c=f then A else A.map (·.add f)) (n-f) (c-f)) w:=by
 by_cases hcf:c=f
 ·simp [go_sem,hcf]
  intro h;omega
 simp [go_sem,hcf]
 intro h;omega
theorem or_at {x y:Nat} (i:Nat) (hx:x % 2 ^ i=0) (hy:y<2 ^ i) (h:x+y<4294967296):bits .or .u32 (x:Int) (y:Int)=((x+y:Nat):Int):=by
 have e1:x<Num.M32:=by show x<4294967296;omega
 have e2:y<Num.M32:=by show y<4294967296;omega
 have h1:=Num.or32 e1 e2
 have h3:=Nat.shiftLeft_add_eq_or_of_lt (a:=x / 2 ^ i) (b:=y) (i:=i) hy
 have e:(x / 2 ^ i) <<< i=x:=by rw [Nat.shiftLeft_eq];exact Nat.div_mul_cancel (Nat.dvd_of_mod_eq_zero hx)
 rw [e] at h3
 rw [← h3] at h1
 exact h1
def be4 (bs:List UInt8):Nat:=(((bs.getD 1 0).toNat*256+(bs.getD 2 0).toNat)*256+(bs.getD 3 0).toNat)*256+(bs.getD 4 0).toNat
def newDec (bs:List UInt8):Dec:=⟨bs.drop 5,4294967295,be4 bs,false⟩
theorem be4_lt (bs:List UInt8):be4 bs<4294967296:=by
 unfold be4
 have h1:=(bs.getD 1 0).toNat_lt
 have h2:=(bs.getD 2 0).toNat_lt
 have h3:=(bs.getD 3 0).toNat_lt
 have h4:=(bs.getD 4 0).toNat_lt
 omega
theorem newDec_fits (bs:List UInt8):(newDec bs).Fits:=⟨by show 4294967295<4294967296;omega,be4_lt bs⟩
def newErr (bs:List UInt8):Int:=if bs.length<5 then 10 else if bs.getD 0 0=0 then 0 else 11
theorem dnew_bad_p (A:Option Addr) (bs:List UInt8) (n c B:Nat) (w:World) (hn:n=bs.length) (hr:BRow w B A bs) (hc:bs.length≤c) (hcm:c≤maxLen) (h:newErr bs≠0) :
 Calls Tryz.prog 120 #[.slice A n c] w fun e w'=>e=.returned (.tuple #[.pointer none,.int .i64 (newErr bs)])∧w=w':=by
 subst hn
 by_cases h5:bs.length<5
 ·have e:newErr bs=10:=if_pos h5
  rw [e]
  clear h e
  go_enter Tryz.func120,Tryz.ntmps120
  go_wp2
  go_ret2
  exact ⟨rfl,rfl⟩
 by_cases h0:bs.getD 0 0=0
 ·exact absurd (by unfold newErr;rw [if_neg h5,if_pos h0]) h
 have e:newErr bs=11:=by unfold newErr;rw [if_neg h5,if_neg h0]
 rw [e]
 obtain ⟨ab,off,rfl,hab,hcell⟩:=hr (by omega)
 have x0:w.cell? ⟨ab,off,none⟩=some (.int .u8 ((bs.getD 0 0).toNat:Int)):=hcell 0 (by omega)
 have hne:(((bs.getD 0 0).toNat:Int)==0)=false:=by
  have h9:(bs.getD 0 0).toNat≠0:=fun e=>h0 (UInt8.toNat_inj.1 (by simpa using e))
  exact beq_eq_false_iff_ne.2 (by omega)
 generalize ((bs.getD 0 0).toNat:Int)=x at *
 have hlen:5≤bs.length:=by omega
 clear h e h0 hcell h5 hr
 go_enter Tryz.func120,Tryz.ntmps120
 go_wp2
 go_ret2
 exact ⟨rfl,rfl⟩
def beN (bs:List UInt8):Nat→Nat
 | 0=>0
 | j+1=>beN bs j*256+(bs.getD (j+1) 0).toNat
theorem beN_lt (bs:List UInt8):∀ j,beN bs j<256 ^ j
 | 0=>by simp [beN]
 | j+1=>by
  have h1:=beN_lt bs j
  have h2:=(bs.getD (j+1) 0).toNat_lt
  rw [beN,Nat.pow_succ]
  omega
theorem beN_4 (bs:List UInt8):beN bs 4=be4 bs:=by simp [beN,be4]
set_option maxRecDepth 100000 in
set_option maxHeartbeats 1000000 in
theorem dnew_p (A:Option Addr) (bs:List UInt8) (n c:Nat) (w:World) (hn:n=bs.length) (hr:BRow w w.heap.size A bs) (hc:bs.length≤c) (hcm:c≤maxLen) (hlen:bs.length≤140737488355328) (h:newErr bs=0) :
 Calls Tryz.prog 120 #[.slice A n c] w fun e w'=>∃ b rb,e=.returned (.tuple #[.pointer (some ⟨b,0,none⟩),.int .i64 0])∧DecAt w' 243 b rb (newDec bs)∧w.heap.size≤b∧w.heap.size≤rb∧Below w.heap.size w w':=by
 subst hn
 have h5:5≤bs.length:=by
  unfold newErr at h
  by_cases h5:bs.length<5
  ·rw [if_pos h5] at h;cases h
  omega
 have h0:bs.getD 0 0=0:=by
  unfold newErr at h
  rw [if_neg (by omega)] at h
  by_cases h0:bs.getD 0 0=0
  ·exact h0
  rw [if_neg h0] at h;cases h
 obtain ⟨ab,off,rfl,hab,hcell⟩:=hr (by omega)
 have x0:w.cell? ⟨ab,off,none⟩=some (.int .u8 0):=by have:=hcell 0 (by omega);rw [h0] at this;exact this
 have HR:=hid hr
 have HC:=hid hcell
 have hc1:¬ c=1:=by omega
 clear hr hcell h0 h
 go_enter Tryz.func120,Tryz.ntmps120
 go_wp2
 have P0:=Pts.new w #[.slice none 0 0,.int .u32 4294967295,.int .u32 0,.bool false] 243
 have B0:=(Below.refl w.heap.size w).alloc (Nat.le_refl _) (.cells #[.slice none 0 0,.int .u32 4294967295,.int .u32 0,.bool false] 243)
 generalize w.alloc (.cells #[.slice none 0 0,.int .u32 4294967295,.int .u32 0,.bool false] 243)=w0 at *
 have PP:=hid P0
 have BB:=hid B0
 clear P0 B0 x0
 go_loopw [21] (fun iv wr=>∃ j:Nat,iv=.int .i64 j∧j≤4∧Pts wr w.heap.size #[.slice none 0 0,.int .u32 4294967295,.int .u32 (beN bs j),.bool false] 243∧w.heap.size<wr.heap.size∧Below w.heap.size w wr) (fun iv _=>4-(intOf iv).toNat)
 case atStart=>exact ⟨0,rfl,by omega,PP.out,PP.out.lt,BB.out⟩
 obtain ⟨j,rfl,hj,hp,hsz,hb⟩:=hrel
 clear PP BB
 by_cases hj4:j<4
 ·have x1:wr.cell? ⟨ab,off+1+j,none⟩=some (.int .u8 ((bs.getD (j+1) 0).toNat:Int)):=by
   rw [hb.cell (p:=⟨ab,off+1+j,none⟩) hab,show off+1+j=off+(j+1) by omega];exact HC.out (j+1) (by omega)
  have y1:=(bs.getD (j+1) 0).toNat_lt
  have hl:=beN_lt bs j
  have hl3:beN bs j<256 ^ 3:=Nat.lt_of_lt_of_le hl (Nat.pow_le_pow_right (by omega) (by omega))
  have hst:beN bs (j+1)=beN bs j*256+(bs.getD (j+1) 0).toNat:=rfl
  generalize (bs.getD (j+1) 0).toNat=xn at *
  have d2:wr.cell? ⟨w.heap.size,2,none⟩=some (.int .u32 (beN bs j)):=by rw [hp.cell];rfl
  have g2:=hp.frozen 2
  have o1:bits .or .u32 ((beN bs j*256:Nat):Int) (xn:Int)=((beN bs (j+1):Nat):Int):=by
   rw [or_at (x:=beN bs j*256) (y:=xn) 8 (by omega) (by omega) (by omega),hst]
  have hwx:IntKind.u32.wrap (xn:Int)=(xn:Int):=by rw [Go.IntWalk.u32_in _ (by omega)]
  have hwz:IntKind.u32.wrap ((beN bs j:Int)*256)=((beN bs j*256:Nat):Int):=by rw [Go.IntWalk.u32_in _ (by omega)];omega
  obtain ⟨z,hz⟩:∃ z,beN bs j*256=z:=⟨_,rfl⟩
  rw [hz] at o1 hwz
  have HP:=hid hp
  have HB:=hid hb
  clear hl hl3 hst hz hp hb y1
  generalize beN bs j=m at *
  obtain ⟨m2,hm2⟩:∃ m2,beN bs (j+1)=m2:=⟨_,rfl⟩
  rw [hm2] at o1
  have HM2:=hid hm2
  clear hm2
  go_wp2
  exact ⟨⟨j+1,by go_num,by omega,by rw [HM2.out];exact HP.out.set 2 _,Nat.lt_of_lt_of_le hsz ((Frm.refl (fun _=>True) wr).setCell (p:=⟨w.heap.size,2,none⟩) trivial _).size,HB.out.setCell (p:=⟨w.heap.size,2,none⟩) (Nat.le_refl _) _⟩,by simp [intOf];omega⟩
 obtain rfl:j=4:=by omega
 have HP:=hid hp
 have HB:=hid hb
 have d0:wr.cell? ⟨w.heap.size,0,none⟩=some (.slice none 0 0):=by rw [hp.cell];rfl
 have f0:=hp.frozen 0
 clear hp hb
 go_wp2
 have hsf:∀ w,(Instr.sliceAt 27 (.slice (some ⟨ab,off,none⟩) bs.length c) (some (.int .i64 5)) none none).run Tryz.prog w=.ok (.slice (if c=5 then some (⟨ab,off,none⟩:Addr) else (some (⟨ab,off,none⟩:Addr)).map (·.add 5)) (bs.length-5) (c-5)) w:=fun w=>slice_fromR (some ⟨ab,off,none⟩) bs.length c 5 h5 hc w
 have hrow:=((HR.out.drop (k:=5) (cap:=c) hc).below HB.out)
 have hnl:bs.length-5=(bs.drop 5).length:=List.length_drop.symm
 have hfit:=hid (newDec_fits bs)
 have hnd:newDec bs=⟨bs.drop 5,4294967295,beN bs 4,false⟩:=by rw [beN_4];rfl
 rw [hnd] at hfit
 have HND:=hid hnd
 generalize (if c=5 then some (⟨ab,off,none⟩:Addr) else (some (⟨ab,off,none⟩:Addr)).map (·.add 5))=Ad at *
 obtain ⟨nw,hnw⟩:∃ nw,bs.drop 5=nw:=⟨_,rfl⟩
 rw [hnw] at hrow hnl hfit HND
 have ROW:=hid hrow
 have NL:=hid hnl
 have hll:([]:List UInt8).length+nw.length≤140737488355328:=by rw [← hnl];simp;omega
 have hbase:w.heap.size≤wr.heap.size:=by omega
 clear hrow hnl hnd hnw
 go_region_law (refine stepR_append_bytes _ rfl (.tmp 41) (.tmp 43) 27 rfl 5 w.heap.size Tryz.underlying27 Tryz.info_u8 (.slice none 0 0) [] rfl (OwnB.nil _ _ _) Ad (bs.length-5) (c-5) w.heap.size nw rfl NL.out (ROW.out.drewN 1) hll hbase ?_;intro v1 w1 hown1 hfrm1 hnew1;rw [List.nil_append] at hown1;obtain ⟨A1,c1,rfl,hc1,hm1,hr1⟩:=hown1.slice;have hp1:=HP.out.drew.frm hfrm1 (fun e=>by cases e);have z1:=hp1.frozen 0;have z0:w1.cell? ⟨w.heap.size,0,none⟩=some (.slice none 0 0):=(hp1.cell 0).trans rfl)
 all_goals
  have P4:=hid (hp1.set 0 (.slice A1 nw.length c1))
  have hbo:BOff (· ≠ wr.heap.size) A1 nw:=by
   intro h0 ad e hk
   rcases hnew1 with h9 | h9
   ·rw [e] at h9;cases h9
   rw [e] at h9;injection h9 with h9;exact hk h9
  have F4:=(Frm.refl (· = w.heap.size) w1).setCell (p:=⟨w.heap.size,0,none⟩) (by rfl) (.slice A1 nw.length c1)
  have R4:=hid ((hr1.off (hbo.of_ne (by omega)) F4).more F4.size)
  have HBO:=hid hbo
  have B4:=hid (((HB.out.drew.trans (hfrm1.below HB.out.drew.size (fun k hk=>by cases hk))).setCell (p:=⟨w.heap.size,0,none⟩) (Nat.le_refl _) (.slice A1 nw.length c1)))
  clear hr1 hp1 hown1 hfrm1 hnew1 z0 z1 hbo F4
  go_wp2
  go_ret2
  rw [HND.out]
  exact ⟨w.heap.size,wr.heap.size,rfl,⟨⟨A1,c1,P4.out,R4.out,HBO.out,hc1,hm1⟩,hfit.out,by omega⟩,Nat.le_refl _,hbase,B4.out⟩
open Go.RowKit Rng Lz Win
structure RS where
 st:Nat
 rep:Nat→Nat
 s:CP Dec
 C:List UInt8
structure RS.Ok (x:RS):Prop where
 st:x.st<12
 rep:∀ j,x.rep j<4294967296
def stepOf (k:LK) (S total room:Nat) (x:RS):Option (List UInt8×RS) :=
 let a:=bitAt outC (8+x.st*16+total % 2 ^ k.pb) 0 x.s
 if a.1=0 then
  let l:=litOf outC k x.st total x.rep x.C a.2
  some ([UInt8.ofNat l.1],⟨behS x.st 0,x.rep,l.2,lastN S (x.C++[UInt8.ofNat l.1])⟩)
 else
  let o:=opOf outC x.st (total % 2 ^ k.pb) x.rep a.2
  if o.1≤room∧o.2.2.1 0+1≤x.C.length then some (cyc x.C (o.2.2.1 0+1) o.1,⟨o.2.1,o.2.2.1,o.2.2.2,lastN S (x.C++cyc x.C (o.2.2.1 0+1) o.1)⟩)
  else none
def chunkGo (k:LK) (S total n:Nat):Nat→List UInt8→RS→Option (List UInt8×RS)
 | 0,_,_=>none
 | f+1,told,x =>
  if n≤told.length then some (told,x)
  else match stepOf k S (total+told.length) (n-told.length) x with
   | none=>none
   | some (b,y)=>chunkGo k S total n f (told++b) y
def totOf (total:Nat):Nat:=if 1099511627776<total then 1099511627776+total % 16 else total
theorem totOf_lt (total:Nat):totOf total<1099511627792:=by unfold totOf;split <;> omega
def chunkOf (k:LK) (S total n st:Nat) (rep:Nat→Nat) (pr:Pr) (C bs:List UInt8):Option (List UInt8×RS) :=
 if newErr bs≠0 then none
 else match chunkGo k S (totOf total) n (n+1) [] ⟨st,rep,⟨newDec bs,pr⟩,C⟩ with
  | none=>none
  | some (told,y)=>if y.s.d.fin=(0,0) then some (told,y) else none
theorem distAt_lt {σ:Type} (co:Cod σ) (d size:Nat) (s:CP σ):(distAt co d size s).1<4294967296:=by
 unfold distAt
 simp only
 split
 ·rename_i h;simp only;omega
 split
 ·rename_i h1 h2
  generalize treeAt co (440+(min size 5-2)*64) 6 (slotOf d) s=t at *
  have hu:=backAt_lt co (696+(2+t.1 % 2)*2 ^ (t.1 / 2-1)-t.1) (t.1 / 2-1) (d-(2+t.1 % 2)*2 ^ (t.1 / 2-1)) t.2
  have hk:2 ^ (t.1 / 2-1)≤2 ^ 5:=Nat.pow_le_pow_right (by omega) (by omega)
  have hm:(2+t.1 % 2)*2 ^ (t.1 / 2-1)≤3*2 ^ (t.1 / 2-1):=Nat.mul_le_mul_right _ (by omega)
  simp only
  omega
 simp only;omega
theorem takeS_lt {rep:Nat→Nat} (h:∀ j,rep j<4294967296) (n:Nat):∀ j,takeS rep n j<4294967296:=by
 intro j
 unfold takeS
 repeat' split
 all_goals first | exact h _ | (unfold shiftN;split <;> exact h _)
theorem shiftN_lt {rep:Nat→Nat} (h:∀ j,rep j<4294967296) (n:Nat):∀ j,shiftN rep n j<4294967296:=by
 intro j
 unfold shiftN
 split <;> exact h _
theorem repOf_inv {σ:Type} (co:Cod σ) {st:Nat} (p:Nat) {rep:Nat→Nat} (s:CP σ) (hst:st<12) (h:∀ j,rep j<4294967296) :
 1≤(repOf co st p rep s).1∧(repOf co st p rep s).1≤300∧(repOf co st p rep s).2.1<12∧∀ j,(repOf co st p rep s).2.2.1 j<4294967296:=by
 unfold repOf
 simp only
 split
 ·split
  ·exact ⟨by simp,by simp,show behS st 3<12 from behS_lt hst,h⟩
  have hl:=lenAt_lt co 1354 2 p (bitAt co (248+st*16+p) 0 (bitAt co (212+st) 0 s).2).2
  exact ⟨by simp only;omega,hl.2,show behS st 2<12 from behS_lt hst,h⟩
 split
 ·exact ⟨Nat.le_trans (by decide) (lenAt_lt co 1354 2 p _).1,(lenAt_lt co 1354 2 p _).2,show behS st 2<12 from behS_lt hst,takeS_lt h _⟩
 exact ⟨Nat.le_trans (by decide) (lenAt_lt co 1354 2 p _).1,(lenAt_lt co 1354 2 p _).2,show behS st 2<12 from behS_lt hst,takeS_lt h _⟩
theorem opOf_inv {σ:Type} (co:Cod σ) {st:Nat} (p:Nat) {rep:Nat→Nat} (s:CP σ) (hst:st<12) (h:∀ j,rep j<4294967296) :
 1≤(opOf co st p rep s).1∧(opOf co st p rep s).1≤300∧(opOf co st p rep s).2.1<12∧∀ j,(opOf co st p rep s).2.2.1 j<4294967296:=by
 unfold opOf
 simp only
 split
 ·exact repOf_inv co p _ hst h
 refine ⟨Nat.le_trans (by decide) (lenAt_lt co 840 2 p _).1,(lenAt_lt co 840 2 p _).2,show behS st 1<12 from behS_lt hst,fun j=>?_⟩
 simp only
 split
 ·exact distAt_lt co 0 _ _
 exact shiftN_lt h 3 j
theorem stepOf_inv {k:LK} {S total room:Nat} {x y:RS} {b:List UInt8} (hx:x.Ok) (hr:1≤room) (h:stepOf k S total room x=some (b,y)):y.Ok∧1≤b.length∧b.length≤room:=by
 unfold stepOf at h
 simp only at h
 split at h
 ·injection h with h
  injection h with h1 h2
  subst h1;subst h2
  exact ⟨⟨show behS x.st 0<12 from behS_lt hx.st,hx.rep⟩,by simp,by simpa using hr⟩
 split at h
 ·rename_i hg
  injection h with h
  injection h with h1 h2
  subst h1;subst h2
  have hi:=opOf_inv outC (total % 2 ^ k.pb) (rep:=x.rep) (bitAt outC (8+x.st*16+total % 2 ^ k.pb) 0 x.s).2 hx.st hx.rep
  rw [cyc_length]
  exact ⟨⟨hi.2.2.1,hi.2.2.2⟩,hi.1,hg.1⟩
 cases h
theorem chunkGo_inv {k:LK} {S total n:Nat}:∀ (f:Nat) {told t':List UInt8} {x y:RS},x.Ok→told.length≤n→chunkGo k S total n f told x=some (t',y)→y.Ok∧t'.length=n∧∃ b,t'=told++b
 | 0,_,_,_,_,_,_,h=>by cases h
 | f+1,told,t',x,y,hx,hl,h=>by
  unfold chunkGo at h
  split at h
  ·injection h with h
   injection h with h1 h2
   subst h1;subst h2
   exact ⟨hx,by omega,[],by simp⟩
  cases hs:stepOf k S (total+told.length) (n-told.length) x with
  | none=>rw [hs] at h;cases h
  | some p =>
   obtain ⟨b,z⟩:=p
   rw [hs] at h
   simp only at h
   have hi:=stepOf_inv hx (by omega) hs
   have hr:=chunkGo_inv f hi.1 (by rw [List.length_append];omega) h
   obtain ⟨h1,h2,b2,h3⟩:=hr
   exact ⟨h1,h2,b++b2,by rw [h3,List.append_assoc]⟩
open Go.RowKit Rng Win Lz
structure DS where
 C:List UInt8
 lc:Nat
 lp:Nat
 pb:Nat
 st:Nat
 rep:Nat→Nat
 pr:Pr
 total:Nat
 begun:Bool
 props:Bool
def headN (c:Nat):Nat:=if c=0 then 1 else if c<3 then 3 else if c<128 then 0 else if c<192 then 5 else 6
def DS.clear (x:DS):DS:={ x with C:=[],total:=0,begun:=true }
def DS.reset (x:DS):DS:={ x with st:=0,rep:=fun _=>0,pr:=fun _=>1024 }
inductive OneR
 | err (e:Nat)
 | fin (rest:List UInt8)
 | told (b:List UInt8) (x:DS) (rest:List UInt8)
def twoB (h:List UInt8) (i:Nat):Nat:=(h.getD i 0).toNat*256+(h.getD (i+1) 0).toNat
def DS.dict (x:DS) (c:Nat):DS:=if c=1 then { x.clear with props:=false } else if 224≤c then x.clear else x
def DS.set (x:DS) (c p:Nat):DS:=if 192≤c then { x.reset with lc:=p % 9,lp:=p / 9 % 5,pb:=p / 45,props:=true } else if 160≤c then x.reset else x
def badP (p:Nat):Prop:=224<p∨4<p % 9+p / 9 % 5
instance (p:Nat):Decidable (badP p):=by unfold badP;infer_instance
def oneLz (S:Nat) (x:DS) (n:Nat) (bs rest:List UInt8):OneR :=
 match chunkOf ⟨0,0,x.lc,x.lp,x.pb⟩ S x.total n x.st x.rep x.pr x.C bs with
 | none=>.err 11
 | some (t,y)=>.told t { x with st:=y.st,rep:=y.rep,pr:=y.s.pr,C:=y.C } rest
def oneBody (S:Nat) (x:DS) (c:Nat) (h r:List UInt8):OneR :=
 if c<3 then
  if r.length<twoB h 1+1 then .err 10
  else .told (r.take (twoB h 1+1)) { x.dict c with C:=lastN S ((x.dict c).C++r.take (twoB h 1+1)) } (r.drop (twoB h 1+1))
 else if r.length<twoB h 3+1 then .err 10
 else if 192≤c∧badP (h.getD 5 0).toNat then .err 11
 else oneLz S ((x.dict c).set c (h.getD 5 0).toNat) (twoB h 1+1+c % 32*65536) (r.take (twoB h 3+1)) (r.drop (twoB h 3+1))
def badHead (x:DS) (c:Nat):Prop:=(x.begun=false∧c≠1∧c<224)∨(headN c=5∧x.props=false)
instance (x:DS) (c:Nat):Decidable (badHead x c):=by unfold badHead;infer_instance
def one (S:Nat) (x:DS) (src:List UInt8):OneR :=
 if src.length<1 then .err 10
 else if headN (src.getD 0 0).toNat=0 then .err 11
 else if src.length<headN (src.getD 0 0).toNat then .err 10
 else if headN (src.getD 0 0).toNat=1 then .fin (src.drop 1)
 else if badHead x (src.getD 0 0).toNat then .err 11
 else oneBody S x (src.getD 0 0).toNat (src.take (headN (src.getD 0 0).toNat)) (src.drop (headN (src.getD 0 0).toNat))
def d2Go (S most:Nat):Nat→DS→List UInt8→List UInt8→List UInt8×(Nat ⊕ List UInt8)
 | 0,_,out,_=>(out,.inl 10)
 | f+1,x,out,src =>
  match one S x src with
  | .err e=>(out,.inl e)
  | .fin rest=>(out,.inr rest)
  | .told b y rest=>if most<out.length+b.length then (out,.inl 3) else d2Go S most f { y with total:=y.total+b.length } (out++b) rest
def newDS:DS:=⟨[],3,0,2,0,fun _=>0,fun _=>1024,0,false,false⟩
def d2P (S most:Nat) (src:List UInt8):List UInt8×(Nat ⊕ List UInt8):=d2Go S most (src.length+1) newDS [] src
theorem getD_app {p q:List UInt8} {i:Nat} (h:i<p.length):(p++q).getD i 0=p.getD i 0:=by
 rw [List.getD_eq_getElem?_getD,List.getD_eq_getElem?_getD,List.getElem?_append_left h]
theorem headN_le (c:Nat):headN c≤6:=by unfold headN;repeat' split
                                       all_goals omega
def OneR.more (R:OneR) (q:List UInt8):OneR :=
 match R with
 | .err e=>.err e
 | .fin r=>.fin (r++q)
 | .told b x r=>.told b x (r++q)
theorem body_more (S:Nat) (x:DS) (c:Nat) (h r q:List UInt8) (hne:oneBody S x c h r≠.err 10):oneBody S x c h (r++q)=(oneBody S x c h r).more q:=by
 unfold oneBody at hne ⊢
 by_cases h3:c<3
 ·rw [if_pos h3] at hne ⊢
  rw [if_pos h3]
  by_cases hl:r.length<twoB h 1+1
  ·rw [if_pos hl] at hne;exact absurd rfl hne
  rw [if_neg hl,if_neg (by rw [List.length_append];omega),List.take_append_of_le_length (by omega),List.drop_append_of_le_length (by omega)]
  rfl
 rw [if_neg h3] at hne ⊢
 rw [if_neg h3]
 by_cases hl:r.length<twoB h 3+1
 ·rw [if_pos hl] at hne;exact absurd rfl hne
 rw [if_neg hl,if_neg (by rw [List.length_append];omega),List.take_append_of_le_length (by omega),List.drop_append_of_le_length (by omega)]
 by_cases hp:192≤c∧badP (h.getD 5 0).toNat
 ·rw [if_pos hp,if_pos hp];rfl
 rw [if_neg hp,if_neg hp]
 unfold oneLz
 split <;> rfl
theorem one_more (S:Nat) (x:DS) (src q:List UInt8) (hne:one S x src≠.err 10):one S x (src++q)=(one S x src).more q:=by
 unfold one at hne ⊢
 by_cases h1:src.length<1
 ·rw [if_pos h1] at hne;exact absurd rfl hne
 rw [if_neg h1] at hne ⊢
 rw [if_neg (show ¬ (src++q).length<1 by rw [List.length_append];omega),getD_app (by omega)]
 by_cases h2:headN (src.getD 0 0).toNat=0
 ·rw [if_pos h2,if_pos h2];rfl
 rw [if_neg h2] at hne ⊢
 rw [if_neg h2]
 by_cases h3:src.length<headN (src.getD 0 0).toNat
 ·rw [if_pos h3] at hne;exact absurd rfl hne
 rw [if_neg h3] at hne ⊢
 rw [if_neg (show ¬ (src++q).length<headN (src.getD 0 0).toNat by rw [List.length_append];omega)]
 by_cases h4:headN (src.getD 0 0).toNat=1
 ·rw [if_pos h4,if_pos h4,List.drop_append_of_le_length (by omega)];rfl
 rw [if_neg h4] at hne ⊢
 rw [if_neg h4]
 by_cases h5:badHead x (src.getD 0 0).toNat
 ·rw [if_pos h5,if_pos h5];rfl
 rw [if_neg h5] at hne ⊢
 rw [if_neg h5,List.take_append_of_le_length (by omega),List.drop_append_of_le_length (by omega)]
 exact body_more S x _ _ _ q hne
theorem one_front (S:Nat) (x:DS) (src:List UInt8):(∀ b y r,one S x src=.told b y r→∃ m,1≤m∧m≤src.length∧r=src.drop m)∧(∀ r,one S x src=.fin r→1≤src.length∧r=src.drop 1):=by
 unfold one
 by_cases h1:src.length<1
 ·rw [if_pos h1]
  exact ⟨(fun _ _ _ h=>by cases h),(fun _ h=>by cases h)⟩
 rw [if_neg h1]
 by_cases h2:headN (src.getD 0 0).toNat=0
 ·rw [if_pos h2]
  exact ⟨(fun _ _ _ h=>by cases h),(fun _ h=>by cases h)⟩
 rw [if_neg h2]
 by_cases h3:src.length<headN (src.getD 0 0).toNat
 ·rw [if_pos h3]
  exact ⟨(fun _ _ _ h=>by cases h),(fun _ h=>by cases h)⟩
 rw [if_neg h3]
 by_cases h4:headN (src.getD 0 0).toNat=1
 ·rw [if_pos h4]
  exact ⟨(fun _ _ _ h=>by cases h),(fun _ h=>by injection h with h;exact ⟨by omega,h.symm⟩)⟩
 rw [if_neg h4]
 by_cases h5:badHead x (src.getD 0 0).toNat
 ·rw [if_pos h5]
  exact ⟨(fun _ _ _ h=>by cases h),(fun _ h=>by cases h)⟩
 rw [if_neg h5]
 have hdl:(src.drop (headN (src.getD 0 0).toNat)).length=src.length-headN (src.getD 0 0).toNat:=List.length_drop
 unfold oneBody
 by_cases hc:(src.getD 0 0).toNat<3
 ·rw [if_pos hc]
  by_cases hl:(src.drop (headN (src.getD 0 0).toNat)).length<twoB (src.take (headN (src.getD 0 0).toNat)) 1+1
  ·rw [if_pos hl]
   exact ⟨(fun _ _ _ h=>by cases h),(fun _ h=>by cases h)⟩
  rw [if_neg hl]
  exact ⟨(fun _ _ _ h=>by injection h with _ _ h;exact ⟨headN (src.getD 0 0).toNat+(twoB (src.take (headN (src.getD 0 0).toNat)) 1+1),by omega,by omega,by rw [← h,List.drop_drop]⟩),(fun _ h=>by cases h)⟩
 rw [if_neg hc]
 by_cases hl:(src.drop (headN (src.getD 0 0).toNat)).length<twoB (src.take (headN (src.getD 0 0).toNat)) 3+1
 ·rw [if_pos hl]
  exact ⟨(fun _ _ _ h=>by cases h),(fun _ h=>by cases h)⟩
 rw [if_neg hl]
 by_cases hp:192≤(src.getD 0 0).toNat∧badP ((src.take (headN (src.getD 0 0).toNat)).getD 5 0).toNat
 ·rw [if_pos hp]
  exact ⟨(fun _ _ _ h=>by cases h),(fun _ h=>by cases h)⟩
 rw [if_neg hp]
 unfold oneLz
 split
 ·exact ⟨(fun _ _ _ h=>by cases h),(fun _ h=>by cases h)⟩
 exact ⟨(fun _ _ _ h=>by injection h with _ _ h;exact ⟨headN (src.getD 0 0).toNat+(twoB (src.take (headN (src.getD 0 0).toNat)) 3+1),by omega,by omega,by rw [← h,List.drop_drop]⟩),(fun _ h=>by cases h)⟩
theorem go_more (S most:Nat) (q:List UInt8):∀ (f g:Nat) (x:DS) (out src:List UInt8) (T r:List UInt8),src.length<f→src.length<g→d2Go S most f x out src=(T,.inr r)→d2Go S most g x out (src++q)=(T,.inr (r++q))
 | 0,_,_,_,_,_,_,h,_,_=>absurd h (by omega)
 | _,0,_,_,_,_,_,_,h,_=>absurd h (by omega)
 | f+1,g+1,x,out,src,T,r,hf,hg,h=>by
  unfold d2Go at h ⊢
  have hm:=one_more S x src q
  cases ho:one S x src with
  | err e =>
   rw [ho] at h
   simp only [Prod.mk.injEq,reduceCtorEq,and_false] at h
  | fin rest =>
   rw [ho] at h hm
   rw [hm (by simp)]
   simp only [OneR.more,Prod.mk.injEq,Sum.inr.injEq] at h ⊢
   exact ⟨h.1,by rw [h.2]⟩
  | told b y rest =>
   obtain ⟨m,hm1,hm2,hr⟩:=(one_front S x src).1 b y rest ho
   rw [ho] at h hm
   rw [hm (by simp)]
   simp only [OneR.more] at h ⊢
   by_cases hl:most<out.length+b.length
   ·rw [if_pos hl] at h
    simp only [Prod.mk.injEq,reduceCtorEq,and_false] at h
   rw [if_neg hl] at h ⊢
   have hrl:rest.length=src.length-m:=by rw [hr,List.length_drop]
   exact go_more S most q f g _ _ rest T r (by omega) (by omega) h
theorem getD_takeU (l:List UInt8) {m i:Nat} (h:i<m):(l.take m).getD i 0=l.getD i 0:=by
 rw [List.getD_eq_getElem?_getD,List.getD_eq_getElem?_getD,List.getElem?_take,if_pos h]
theorem one_exact (S:Nat) (x:DS) (src:List UInt8) {b:List UInt8} {y:DS} {r:List UInt8} (h:one S x src=.told b y r):∃ p,src=p++r∧1≤p.length∧one S x p=.told b y []:=by
 obtain ⟨m,hm1,hm2,hr⟩:=(one_front S x src).1 b y r h
 subst hr
 refine ⟨src.take m,(List.take_append_drop m src).symm,by rw [List.length_take];omega,?_⟩
 have hne:one S x (src.take m)≠.err 10:=by
  intro he
  have hl:(src.drop m).length=src.length-m:=List.length_drop
  unfold one at h he
  have hmin:min m src.length=m:=by omega
  rw [List.length_take,hmin,getD_takeU src (by omega)] at he
  by_cases h1:src.length<1
  ·omega
  rw [if_neg h1] at h
  rw [if_neg (by omega)] at he
  by_cases h2:headN (src.getD 0 0).toNat=0
  ·rw [if_pos h2] at h;cases h
  rw [if_neg h2] at h he
  by_cases h3:src.length<headN (src.getD 0 0).toNat
  ·rw [if_pos h3] at h;cases h
  rw [if_neg h3] at h
  by_cases h4:headN (src.getD 0 0).toNat=1
  ·rw [if_pos h4] at h;cases h
  rw [if_neg h4] at h
  by_cases h5:badHead x (src.getD 0 0).toNat
  ·rw [if_pos h5] at h;cases h
  rw [if_neg h5] at h
  have hdl:(src.drop (headN (src.getD 0 0).toNat)).length=src.length-headN (src.getD 0 0).toNat:=List.length_drop
  generalize hc:(src.getD 0 0).toNat=c at *
  unfold oneBody at h
  by_cases hc3:c<3
  ·rw [if_pos hc3] at h
   by_cases hlt:(src.drop (headN c)).length<twoB (src.take (headN c)) 1+1
   ·rw [if_pos hlt] at h;cases h
   rw [if_neg hlt] at h
   injection h with _ _ h
   have hmm:m=headN c+(twoB (src.take (headN c)) 1+1):=by
    have:=congrArg List.length h
    rw [List.length_drop,List.length_drop,List.length_drop] at this
    omega
   rw [if_neg (by omega),if_neg h4,if_neg h5] at he
   unfold oneBody at he
   rw [if_pos hc3,List.take_take,show min (headN c) m=headN c by omega,List.length_drop,List.length_take,hmin,if_neg (by omega)] at he
   cases he
  rw [if_neg hc3] at h
  by_cases hlt:(src.drop (headN c)).length<twoB (src.take (headN c)) 3+1
  ·rw [if_pos hlt] at h;cases h
  rw [if_neg hlt] at h
  by_cases hp:192≤c∧badP ((src.take (headN c)).getD 5 0).toNat
  ·rw [if_pos hp] at h;cases h
  rw [if_neg hp] at h
  unfold oneLz at h
  split at h
  ·cases h
  injection h with _ _ h
  have hmm:m=headN c+(twoB (src.take (headN c)) 3+1):=by
   have:=congrArg List.length h
   rw [List.length_drop,List.length_drop,List.length_drop] at this
   omega
  rw [if_neg (by omega),if_neg h4,if_neg h5] at he
  unfold oneBody at he
  rw [if_neg hc3,List.take_take,show min (headN c) m=headN c by omega,List.length_drop,List.length_take,hmin,if_neg (by omega),if_neg hp] at he
  unfold oneLz at he
  split at he <;> cases he
 have hm:=one_more S x (src.take m) (src.drop m) hne
 rw [List.take_append_drop,h] at hm
 cases ho:one S x (src.take m) with
 | err e=>rw [ho] at hm;cases hm
 | fin r=>rw [ho] at hm;cases hm
 | told b' y' r' =>
  rw [ho] at hm
  injection hm with e1 e2 e3
  have:r'=[]:=by
   have h:=congrArg List.length e3
   rw [List.length_append] at h
   exact List.eq_nil_of_length_eq_zero (by omega)
  rw [this,← e1,← e2]
theorem go_exact (S most:Nat):∀ (f g:Nat) (x:DS) (out src:List UInt8) (T r:List UInt8),src.length<f→src.length<g→d2Go S most f x out src=(T,.inr r)→∃ p,src=p++r∧1≤p.length∧d2Go S most g x out p=(T,.inr [])
 | 0,_,_,_,_,_,_,h,_,_=>absurd h (by omega)
 | _,0,_,_,_,_,_,_,h,_=>absurd h (by omega)
 | f+1,g+1,x,out,src,T,r,hf,hg,h=>by
  unfold d2Go at h
  cases ho:one S x src with
  | err e=>rw [ho] at h;simp only [Prod.mk.injEq,reduceCtorEq,and_false] at h
  | fin rest =>
   obtain ⟨h1,h2⟩:=(one_front S x src).2 rest ho
   rw [ho] at h
   simp only [Prod.mk.injEq,Sum.inr.injEq] at h
   obtain ⟨e1,e2⟩:=h
   subst e1;subst e2
   refine ⟨src.take 1,by rw [h2,List.take_append_drop],by rw [List.length_take];omega,?_⟩
   have hh:headN (src.getD 0 0).toNat=1:=by
    unfold one at ho
    rw [if_neg (by omega)] at ho
    by_cases k2:headN (src.getD 0 0).toNat=0
    ·rw [if_pos k2] at ho;cases ho
    rw [if_neg k2] at ho
    by_cases k3:src.length<headN (src.getD 0 0).toNat
    ·rw [if_pos k3] at ho;cases ho
    rw [if_neg k3] at ho
    by_cases k4:headN (src.getD 0 0).toNat=1
    ·exact k4
    rw [if_neg k4] at ho
    by_cases k5:badHead x (src.getD 0 0).toNat
    ·rw [if_pos k5] at ho;cases ho
    rw [if_neg k5] at ho
    unfold oneBody at ho
    split at ho
    ·split at ho <;> cases ho
    split at ho
    ·cases ho
    split at ho
    ·cases ho
    unfold oneLz at ho
    split at ho <;> cases ho
   have hl:(src.take 1).length=1:=by rw [List.length_take];omega
   have e:one S x (src.take 1)=.fin []:=by
    unfold one
    rw [hl,getD_takeU src (by omega),hh,if_neg (by omega),if_neg (by omega),if_neg (by omega),if_pos rfl,List.drop_of_length_le (by omega)]
   unfold d2Go
   rw [e]
  | told b y rest =>
   obtain ⟨p,e1,e2,e3⟩:=one_exact S x src ho
   have hlen:=congrArg List.length e1
   rw [List.length_append] at hlen
   rw [ho] at h
   simp only at h
   by_cases hl:most<out.length+b.length
   ·rw [if_pos hl] at h;simp only [Prod.mk.injEq,reduceCtorEq,and_false] at h
   rw [if_neg hl] at h
   obtain ⟨p2,k1,k2,k3⟩:=go_exact S most f g _ _ rest T r (by omega) (by omega) h
   refine ⟨p++p2,by rw [e1,k1,List.append_assoc],by rw [List.length_append];omega,?_⟩
   unfold d2Go
   rw [one_more S x p p2 (by rw [e3];simp),e3]
   simp only [OneR.more,List.nil_append]
   rw [if_neg hl]
   exact k3
open Go.RowKit
set_option maxRecDepth 8000 in
theorem mhead_p (c:Nat) (w:World) (hc:c<256):Calls Tryz.prog 100 #[.int .u8 c] w fun e w'=>e=.returned (.int .i64 (headN c:Nat))∧w=w':=by
 have h:c=0∨(c≠0∧c<3)∨(3≤c∧c<128)∨(128≤c∧c<192)∨192≤c:=by omega
 rcases h with rfl | ⟨h1,h2⟩ | ⟨h1,h2⟩ | ⟨h1,h2⟩ | h1
 ·go_enter Tryz.func100,Tryz.ntmps100
  go_wp2
  go_ret
  exact ⟨rfl,rfl⟩
 ·have e:headN c=3:=by unfold headN;rw [if_neg h1,if_pos h2]
  rw [e]
  have q0:((c:Int)==0)=false:=beq_eq_false_iff_ne.2 (by omega)
  have q1:(c:Int)<3:=by omega
  clear h1 h2 e hc
  go_enter Tryz.func100,Tryz.ntmps100
  go_wp2
  go_ret
  exact ⟨rfl,rfl⟩
 ·have e:headN c=0:=by unfold headN;rw [if_neg (by omega),if_neg (by omega),if_pos h2]
  rw [e]
  have q0:((c:Int)==0)=false:=beq_eq_false_iff_ne.2 (by omega)
  have q1:(3:Int)≤(c:Int):=by omega
  have q2:(c:Int)<128:=by omega
  clear h1 h2 e hc
  go_enter Tryz.func100,Tryz.ntmps100
  go_wp2
  go_ret
  exact ⟨rfl,rfl⟩
 ·have e:headN c=5:=by unfold headN;rw [if_neg (by omega),if_neg (by omega),if_neg (by omega),if_pos h2]
  rw [e]
  have q0:((c:Int)==0)=false:=beq_eq_false_iff_ne.2 (by omega)
  have q1:(128:Int)≤(c:Int):=by omega
  have q2:(c:Int)<192:=by omega
  clear h1 h2 e hc
  go_enter Tryz.func100,Tryz.ntmps100
  go_wp2
  go_ret
  exact ⟨rfl,rfl⟩
 have e:headN c=6:=by unfold headN;rw [if_neg (by omega),if_neg (by omega),if_neg (by omega),if_neg (by omega)]
 rw [e]
 have q0:((c:Int)==0)=false:=beq_eq_false_iff_ne.2 (by omega)
 have q1:(192:Int)≤(c:Int):=by omega
 clear h1 e hc
 go_enter Tryz.func100,Tryz.ntmps100
 go_wp2
 go_ret
 exact ⟨rfl,rfl⟩
open Go.RowKit Win
theorem clear_win (base b k S a:Nat) (v:Value) (R:List UInt8) (w:World) (hw:WinAt w base b k S v R a) :
 Calls Tryz.prog 110 #[.pointer (some ⟨b,0,none⟩)] w fun e w'=>∃ v':Value,e=.returned (.tuple #[])∧WinAt w' base b k S v' [] 0∧Frm (fun x=>x=b) w w'∧v'.ownBlock=v.ownBlock:=by
 obtain ⟨A0,k0,rfl,hc0,hm0,hr0⟩:=hw.o.slice
 have c0:w.cell? ⟨b,0,none⟩=some (.slice A0 R.length k0):=by rw [hw.p.cell];rfl
 have c1:w.cell? ⟨b,1,none⟩=some (.int .i64 a):=by rw [hw.p.cell];rfl
 have f0:=hw.p.frozen 0
 have f1:=hw.p.frozen 1
 have HW:=hid hw
 have hsz:=fun w=>slice_zero A0 R.length k0 w
 clear hw hr0 hm0
 go_enter Tryz.func110,Tryz.ntmps110
 go_wp2
 go_end0
 have hcut:=HW.out.o.cut (k:=0) (Nat.zero_le _)
 rw [List.take_zero] at hcut
 have hoff:(Value.slice A0 0 k0).ownBlock≠some b:=fun e=>HW.out.off b (by rw [← e];cases A0 <;> rfl) rfl
 exact ⟨.slice A0 0 k0,rfl,⟨(HW.out.p.set 0 _).set 1 _,(hcut.other (p:=⟨b,0,none⟩) hoff _).other (p:=⟨b,1,none⟩) hoff _,Nat.zero_le _,by have:=HW.out.lt;omega,fun _=>rfl⟩,((Frm.refl _ w).setCell (by rfl) _).setCell (by rfl) _,by cases A0 <;> rfl⟩
open Go.RowKit Rng Lz Win
def wrongP (x:Int):List PanicEntry:=[{ v:=.iface 236 (.agg #[.int .i64 x]),recovered:=false }]
set_option maxRecDepth 100000 in
theorem assert_lzwrong (V:Value) (w:World):(Instr.typeAssert (.iface 236 V) 20 236 true).run Tryz.prog w=.ok (.tuple #[V,.bool true]) w:=rfl
set_option maxRecDepth 100000 in
theorem chunk_caught (b c:Nat) (x x0:Int) (tv:Value) (older:List PanicEntry) (w:World) (hb:Pts w b #[tv] 27) (hc:Pts w c #[.int .i64 x0] 32) :
 CallsD Tryz.prog 121 #[.pointer (some ⟨b,0,none⟩),.pointer (some ⟨c,0,none⟩)] (.panicking ({ v:=.iface 236 (.agg #[.int .i64 x]),recovered:=false }::older)) w fun e u' w' =>
  e=.returned (.tuple #[])∧u'=.panicking ({ v:=.iface 236 (.agg #[.int .i64 x]),recovered:=true }::older)∧Pts w' b #[.slice none 0 0] 27∧Pts w' c #[.int .i64 11] 32∧Frm (fun q=>q=b∨q=c) w w':=by
 refine callsD_of_wpS Tryz.func121 rfl fun c₀ cs hu=>?_
 apply wpS_seq
 apply wpS_region
 simp [wpOpsS,go_sem,recoverD,hu,Tryz.ntmps121,Exit.thenS]
 refine wpS_of_wp ?_
 show Code.wp _ _ _ { tmps:=#[.pointer (some ⟨b,0,none⟩),.pointer (some ⟨c,0,none⟩),undef,undef,undef,.iface 236 (.agg #[.int .i64 x]),undef,undef,undef,undef,undef],defers:=[] } w
 have hta:=assert_lzwrong (.agg #[.int .i64 x])
 have hne:c≠b:=hc.ne_of hb (by decide)
 have h1:=hb.alloc (.cells #[.int .i64 x] 236)
 have h2:=hc.alloc (.cells #[.int .i64 x] 236)
 have z1:=h1.frozen 0
 have c1:=h1.cell 0
 have h3:=h2.other (p:=⟨b,0,none⟩) hne (.slice none 0 0)
 have z3:=h3.frozen 0
 have c3:=h3.cell 0
 have hr1:=(h1.set 0 (.slice none 0 0)).other (p:=⟨c,0,none⟩) hne.symm (.int .i64 11)
 have hr2:=h3.set 0 (.int .i64 11)
 have hf:Frm (fun q=>q=b∨q=c) w (((w.alloc (.cells #[.int .i64 x] 236)).setCell ⟨b,0,none⟩ (.slice none 0 0)).setCell ⟨c,0,none⟩ (.int .i64 11)):=(((Frm.refl _ w).alloc _).setCell (.inl rfl) _).setCell (.inr rfl) _
 have HR1:=hid hr1
 have HR2:=hid hr2
 have HF:=hid hf
 clear h1 h2 h3 hr1 hr2 hf hb hc
 go_wp2
 refine ⟨rfl,_,rfl,_,results_none rfl _ _ _,rfl,rfl,HR1.out,HR2.out,HF.out⟩
set_option maxRecDepth 100000 in
theorem chunk_idle (b c:Nat) (w:World):CallsD Tryz.prog 121 #[.pointer (some ⟨b,0,none⟩),.pointer (some ⟨c,0,none⟩)] .returning w fun e u' w'=>e=.returned (.tuple #[])∧u'=.returning∧w'=w:=by
 refine callsD_of_wpS Tryz.func121 rfl fun c₀ cs hu=>?_
 apply wpS_seq
 apply wpS_region
 simp [wpOpsS,go_sem,recoverD,hu,Tryz.ntmps121,Exit.thenS]
 refine wpS_of_wp ?_
 show Code.wp _ _ _ { tmps:=#[.pointer (some ⟨b,0,none⟩),.pointer (some ⟨c,0,none⟩),undef,undef,undef,.nilIface,undef,undef,undef,undef,undef],defers:=[] } w
 go_wp2
 refine ⟨rfl,.returning,by cases c₀;simp at hu;subst hu;rfl,_,results_none rfl _ _ _,rfl,rfl,rfl⟩
open Go.RowKit Rng Lz Win
def StepEnd (Z:Nat→Prop) (w0:World) (k:LK) (g:RB) (total:Int) (good:Prop) (st':Nat) (rep':Nat→Nat) (s':CP Dec) (C' told':List UInt8) (e:Ending) (w':World):Prop :=
 (good∧e=.returned (.tuple #[])∧∃ wv' tv',RdAt Z w0 w' k g total st' rep' s' C' told' wv' tv') ∨
 (¬ good∧(∃ x,e=.panicked (wrongP x))∧∃ st rep s C told wv tv,RdAt Z w0 w' k g total st rep s C told wv tv)
set_option maxRecDepth 100000 in
set_option maxHeartbeats 2000000 in
theorem step_op (Z:Nat→Prop) (w0 w:World) (k:LK) (g:RB) (total st room:Nat) (rep:Nat→Nat) (s sa:CP Dec) (C told:List UInt8) (wv tv:Value) (h:RdAt Z w0 w k g (total:Int) st rep s C told wv tv)
 (hk:k.Ok) (ht:total<4611686018427387904) (hst:st<12) (hS:g.S≤16777216) (hlen:told.length≤100000000) (hroom:room≤2097152) (p:Nat) (hp:total % 2 ^ k.pb=p) (ha:bitAt outC (8+st*16+p) 0 s=(1,sa))
 (sz st':Nat) (rep':Nat→Nat) (s':CP Dec) (ho:opOf outC st p rep sa=(sz,st',rep',s')) :
 Calls Tryz.prog 122 #[.pointer (some ⟨g.xb,0,none⟩),.int .i64 room] w fun e w'=>StepEnd Z w0 k g (total:Int) (sz≤room∧rep' 0+1≤C.length) st' rep' s' (lastN g.S (C++cyc C (rep' 0+1) sz)) (told++cyc C (rep' 0+1) sz) e w':=by
 have hp16:p<16:=by
  have h1:2 ^ k.pb≤2 ^ 4:=Nat.pow_le_pow_right (by omega) hk.b
  have h2:total % 2 ^ k.pb<2 ^ k.pb:=Nat.mod_lt _ (Nat.lt_of_lt_of_le (by omega) (Nat.one_le_two_pow))
  omega
 have HA:=hid ha
 have HH:=hid h
 have HPL:=hid (place_any 211 k st total rep s w h.lz hk ht)
 rw [hp] at HPL
 obtain ⟨d0,d1,d2,dt,-,-⟩:=h.cells
 have d3:=h.st3
 have HD:=hid h.drew
 have P0:=hid (plm k (i:=8+st*16+p) (by omega) (by omega))
 have P1:=hid (plm k (i:=200+st) (by omega) (by omega))
 have hsti:(st:Int)<12:=by omega
 have hpi:(p:Int)<16:=by omega
 unfold opOf at ho
 obtain ⟨⟨b,sb⟩,hb⟩:∃ x,bitAt outC (200+st) 0 sa=x:=⟨_,rfl⟩
 rw [hb] at ho
 dsimp only at ho
 have HB:=hid hb
 have HO:=hid ho
 obtain ⟨r1,hr1⟩:∃ r1,rep' 0+1=r1:=⟨_,rfl⟩
 rw [hr1]
 obtain ⟨Y,hY⟩:∃ Y,cyc C r1 sz=Y:=⟨_,rfl⟩
 have hYl:Y.length=sz:=by rw [← hY];exact cyc_length _ _ _
 rw [hY]
 have HE:=hid hr1
 have HY:=hid hY
 have HYL:=hid hYl
 clear h ha hk hp hb ho hr1 hY hYl
 go_enter Tryz.func122,Tryz.ntmps122
 go_wp2_with fail
 refine HPL.out.mono ?_;rintro e w1 ⟨rfl,rfl⟩
 go_upto_region 2 with fail
 go_cut [36] from 9 (fun v wx=>v=.bool false∧RdAt Z w0 wx k g (total:Int) st rep sa C told wv tv)
 case first =>
  go_region_with (first
   | (go_at_call 124;refine (lz_bit (obit_any g.db g.rb) HD.out.lz (8+st*16+p) k.sb (8+st*16+p) 0 _ trivial P0.out.1 P0.out.2).mono ?_;rintro e w2 ⟨rfl,h2,f2⟩;rw [HA.out] at h2 ⊢))
  all_goals
   have H2:=hid (HD.out.lzStep h2 f2)
   clear h2 f2
   go_wp2
   go_meet
   case rel=>exact ⟨by simp,H2.out⟩
 obtain ⟨rfl,h2⟩:=hcut
 have H2:=hid h2
 clear d0 d1 d2 d3 dt HD HH
 obtain ⟨d0,d1,d2,-,-,-⟩:=h2.cells
 have d3:=h2.st3
 have HD:=hid h2.drew
 clear h2
 go_upto_region 5 with fail
 go_cut [52] from 9 (fun v wx=>∃ β:Bool,v=.bool β∧(β=true↔b=1)∧RdAt Z w0 wx k g (total:Int) st rep sb C told wv tv)
 case first =>
  go_region_with (first
   | (go_at_call 124;refine (lz_bit (obit_any g.db g.rb) HD.out.lz (200+st) k.sb (200+st) 0 _ trivial P1.out.1 P1.out.2).mono ?_;rintro e w2 ⟨rfl,h2,f2⟩;rw [HB.out] at h2 ⊢))
  all_goals
   have H3:=hid (HD.out.lzStep h2 f2)
   clear h2 f2
   go_wp2
   go_meet
   case rel=>exact ⟨_,rfl,by simp;omega,H3.out⟩
 obtain ⟨β,rfl,hβ,h3⟩:=hcut
 have H3:=hid h3
 clear d0 d1 d2 d3 HD H2
 obtain ⟨d0,d1,d2,-,-,-⟩:=h3.cells
 have d3:=h3.st3
 have HD:=hid h3.drew
 clear h3
 go_upto_if 52 with fail
 go_cut [6] from 9 (fun v wx=>v=.int .i64 sz∧RdAt Z w0 wx k g (total:Int) st' rep' s' C told wv tv)
 case first =>
  by_cases hb1:b=1
  ·obtain rfl:β=true:=hβ.2 hb1
   have hO:=HO.out
   rw [if_pos hb1] at hO
   have HO2:=hid hO
   clear hO hβ hb1 HO
   go_wp2_with fail
   refine (repeated_p Z w0 _ k g total st p rep sb C told wv tv H3.out hst hp16).mono ?_;rintro e w4 ⟨rfl,h4⟩
   rw [HO2.out] at h4 ⊢
   have H4:=hid h4
   clear h4
   go_wp2
   go_meet
   case rel=>exact ⟨rfl,H4.out⟩
  obtain rfl:β=false:=by cases β;rfl;exact absurd (hβ.1 rfl) hb1
  have hO:=HO.out
  rw [if_neg hb1] at hO
  obtain ⟨⟨l,sl⟩,hl⟩:∃ x,lenAt outC 840 2 p sb=x:=⟨_,rfl⟩
  have hll:=lenAt_lt outC 840 2 p sb
  rw [hl] at hO hll
  dsimp only at hO hll
  obtain ⟨⟨dd,sd⟩,hd⟩:∃ x,distAt outC 0 l sl=x:=⟨_,rfl⟩
  rw [hd] at hO
  dsimp only at hO
  simp only [Prod.mk.injEq] at hO
  obtain ⟨rfl,rfl,rfl,rfl⟩:=hO
  have HLL:=hid hl
  have HDD:=hid hd
  clear hβ hb1 HO hl hd
  go_wp2_with fail
  refine QTail.wp_region_qtail_lit 8 (by kernel_rfl) (by kernel_rfl) ?_
  simp only [List.take_succ_cons,List.take_zero,List.drop_succ_cons,List.drop_zero]
  repeat (go_big_quiet_step (fail))
  refine wpQuiet_nil ?_
  rintro w' ⟨nr,rfl⟩
  have h4:=H3.out.drewN nr
  obtain ⟨w5,hrun,h5,f5⟩:=rep_copy (DC.keep g.db g.rb) h4.lz 3 3 4 3 (by omega)
  have H5:=hid (h4.lzStep h5 f5)
  clear h4 h5 f5 d0 d1 d2 d3 HD
  obtain ⟨d0,d1,d2,-,-,-⟩:=H5.out.cells
  have HD:=hid H5.out.drew
  go_upto_region 8 with fail
  go_cut [6] from 9 (fun v wx=>v=.int .i64 l∧RdAt Z w0 wx k g (total:Int) st (shiftN rep 3) sl C told wv tv)
  case first =>
   go_region_with (first
    | (go_at_call 94;refine (lens_p g.db g.rb 211 k st (shiftN rep 3) sb 840 p _ HD.out.lz (.inl rfl) hp16).mono ?_;rintro e w6 ⟨rfl,h6,f6⟩;rw [HLL.out] at h6 ⊢))
   all_goals
    have H6:=hid (HD.out.lzStep h6 f6)
    clear h6 f6
    go_wp2
    go_meet
    case rel=>exact ⟨rfl,H6.out⟩
  obtain ⟨rfl,h6⟩:=hcut
  have H6:=hid h6
  clear d0 d1 d2 HD H5 h6
  go_wp2_with fail
  refine (behind_any (DC.keep g.db g.rb) 211 k st 1 (shiftN rep 3) sl _ H6.out.lz hst (by omega)).mono ?_;rintro e w7 ⟨rfl,h7,f7⟩
  have H7:=hid (H6.out.lzStep h7 f7)
  clear h7 f7
  obtain ⟨d0,d1,d2,-,-,-⟩:=H7.out.cells
  have HD:=hid H7.out.drew
  go_wp2_with fail
  go_region_with (first
   | (go_at_call 95;refine (dist_p g.db g.rb 211 k (behS st 1) (shiftN rep 3) sl l _ HD.out.lz hll.1 hll.2).mono ?_;rintro e w8 ⟨rfl,h8,f8⟩;rw [HDD.out] at h8 ⊢;have z8:=(h8.hdr (i:=4) (by omega)).1;have y8:=(h8.hdr (i:=4) (by omega)).2;simp only [mcell,Nat.reduceEqDiff,if_false,Nat.reduceLT,if_true,Nat.reduceSub] at z8))
  all_goals
   have h9:=h8.putRep 0 dd (by omega) (DC.keep g.db g.rb)
   have H9:=hid ((HD.out.lzStep h8 f8).lzStep h9.1 h9.2)
   clear h8 f8 h9
   go_wp2
   go_meet
   case rel=>exact ⟨rfl,H9.out⟩
 obtain ⟨rfl,h4⟩:=hcut
 have H4:=hid h4
 clear d0 d1 d2 d3 HD H3 hβ HO
 obtain ⟨d0,d1,d2,-,-,d5⟩:=h4.cells
 have HD:=hid h4.drew
 have hcl:=h4.win.len
 obtain ⟨r0,hr0⟩:∃ r,rep' 0=r:=⟨_,rfl⟩
 have hr1e:=HE.out
 rw [hr0] at d5 hr1e
 clear h4 hr0
 by_cases h1:sz≤room
 case neg =>
  have hq1:(room:Int)<(sz:Int):=by omega
  have hng:¬ (sz≤room∧r1≤C.length):=fun h=>h1 h.1
  clear h1 hr1e hcl
  have HNG:=hid hng
  clear hng
  go_wp2
  exact ⟨rfl,Or.inr ⟨HNG.out,⟨_,rfl⟩,_,_,_,_,_,_,_,H4.out⟩⟩
 have h1i:(sz:Int)≤(room:Int):=by omega
 have HQ1:Hid (decide (room<sz)=false):=hid (decide_eq_false (by omega))
 by_cases h2:r0<16777216
 case neg =>
  have hq2:decide ((16777216:Int)≤(r0:Int))=true:=decide_eq_true (by omega)
  have hng:¬ (sz≤room∧r1≤C.length):=fun h=>h2 (by omega)
  have HNG:=hid hng
  have HQ2:=hid hq2
  clear h1 hr1e hcl h2 hng hq2
  go_upto_if 99 with fail
  simp only [HQ2.out,HQ1.out,Bool.or_true,Bool.false_or]
  go_wp2
  exact ⟨rfl,Or.inr ⟨HNG.out,⟨_,rfl⟩,_,_,_,_,_,_,_,H4.out⟩⟩
 have hr1:(r0:Int)+1=(r1:Int):=by omega
 have hr1w:IntKind.i64.wrap (r1:Int)=(r1:Int):=Go.IntWalk.i64_in _ (by omega)
 have hr0w:IntKind.i64.wrap (r0:Int)=(r0:Int):=Go.IntWalk.i64_in _ (by omega)
 have hq2:decide ((16777216:Int)≤(r0:Int))=false:=decide_eq_false (by omega)
 have HQ2:=hid hq2
 have hr1p:1≤r1:=by omega
 clear hr1e hcl hq2
 go_upto_if 99 with fail
 simp only [HQ2.out,HQ1.out,Bool.or_false]
 by_cases h3:r1≤C.length
 case neg =>
  have hng:¬ (sz≤room∧r1≤C.length):=fun h=>h3 h.2
  have HNG:=hid hng
  have H3N:=hid h3
  clear hng h3 h2 h1
  go_upto_region 13 with fail
  go_cut [7,8] from 9 (fun v ev wx=>v=.slice none 0 0∧ev=.int .i64 11∧RdAt Z w0 wx k g (total:Int) st' rep' s' C told wv tv)
  case first =>
   go_region_with (first
    | (go_at_call 127;refine (copy_c g.bw g.wb g.kb g.S r1 sz r1 sz C wv _ HD.out.win HD.out.bs.1 hS (by omega) rfl rfl hr1p).mono ?_;rintro e w2 ⟨-,hno⟩;obtain ⟨rfl,rfl⟩:=hno H3N.out;clear hno))
   all_goals
    go_wp2
    go_meet
    case rel=>exact ⟨rfl,rfl,HD.out⟩
  obtain ⟨rfl,rfl,h5⟩:=hcut
  have H5:=hid h5
  clear h5
  go_wp2
  exact ⟨rfl,Or.inr ⟨HNG.out,⟨_,rfl⟩,_,_,_,_,_,_,_,H5.out⟩⟩
 have HGO:Hid (sz≤room∧r1≤C.length):=hid ⟨h1,h3⟩
 have HLE:=hid h3
 clear h3 h2 h1
 go_upto_region 13 with fail
 go_cut [7,8] from 9 (fun v ev wx=>∃ (Ao:Option Addr) (co:Nat) (wv':Value),v=.slice Ao sz co∧ev=.int .i64 0∧RdAt Z w0 wx k g (total:Int) st' rep' s' (lastN g.S (C++Y)) told wv' tv∧BRow wx wx.heap.size Ao Y)
 case first =>
  go_region_with (first
   | (go_at_call 127;refine (copy_c g.bw g.wb g.kb g.S r1 sz r1 sz C wv _ HD.out.win HD.out.bs.1 hS (by omega) rfl rfl hr1p).mono ?_;rintro e w2 ⟨hok,-⟩;obtain ⟨ov,wv2,rfl,hw2,ho2,f2,m2,-⟩:=hok HLE.out;rw [HY.out] at hw2 ho2;obtain ⟨Ao,co,hov,-,-,hro⟩:=ho2.slice;rw [HYL.out] at hov;subst hov;have H5:=hid (HD.out.winStep hw2 f2 m2);have RO:=hid hro;clear hok hw2 ho2 f2 m2 hro))
  all_goals
   go_wp2
   go_meet
   case rel=>exact ⟨Ao,co,wv2,rfl,rfl,H5.out,RO.out⟩
 obtain ⟨Ao,co,wv2,rfl,rfl,h5,hro⟩:=hcut
 have H5:=hid h5
 have RO:=hid hro
 clear d0 d1 d2 d5 HD H4 hro
 obtain ⟨d0,d1,d2,-,d4,-⟩:=h5.cells
 obtain ⟨A5,c5,htv,hc5,hm5,_⟩:=h5.o.slice
 subst htv
 clear h5
 have hxz:=H5.out.p.frozen 4
 have hroomi:=hroom
 have hyl:=HYL.out.symm
 have hszr:=HGO.out.1
 clear d0 d1 d2
 go_wp2_with (at_builtin;refine wpList_append_bytes _ rfl (.tmp 127) (.tmp 128) 27 rfl 5 g.bt Tryz.underlying27 Tryz.info_u8 (.slice A5 told.length c5) told rfl ?own5 Ao sz co wc.heap.size Y rfl hyl ?row5 ?len5 ?base5 ?next5)
 case own5=>exact H5.out.o
 case row5=>exact RO.out
 case len5=>omega
 case base5=>exact H5.out.bs.2
 intro v5 w5 hown5 hfrm5 hnew5
 obtain ⟨A6,c6,rfl,-,-,-⟩:=hown5.slice
 have h6:=H5.out.toldStep hown5 hfrm5 hnew5
 have hp5:=H5.out.p.frm hfrm5 (own_ne H5.out.o H5.out.p (by decide))
 have e4:w5.cell? ⟨g.xb,4,none⟩=some (.slice A5 told.length c5):=by rw [hp5.cell];rfl
 have z4:=hp5.frozen 4
 obtain ⟨L6,hL6⟩:∃ L,(told++Y).length=L:=⟨_,rfl⟩
 rw [hL6] at h6 ⊢
 have H6:=hid h6
 clear hown5 hfrm5 hnew5 hp5 h6 hL6 d4 hroomi hszr hyl
 go_wp2
 go_end0
 exact Or.inl ⟨HGO.out,rfl,wv2,_,H6.out⟩
open Go.RowKit Rng Lz Win
theorem two_new (w:World) (v x:Value) (T U:TypeId):Pts ((w.alloc (.cells #[v] T)).alloc (.cells #[x] U)) w.heap.size #[v] T∧Pts ((w.alloc (.cells #[v] T)).alloc (.cells #[x] U)) (w.heap.size+1) #[x] U∧Below w.heap.size w ((w.alloc (.cells #[v] T)).alloc (.cells #[x] U))∧((w.alloc (.cells #[v] T)).alloc (.cells #[x] U)).heap.size=w.heap.size+2:=by
 have hsz:(w.alloc (.cells #[v] T)).heap.size=w.heap.size+1:=by show (w.heap.push _).size=_;rw [Array.size_push]
 have P1:Pts ((w.alloc (.cells #[v] T)).alloc (.cells #[x] U)) (w.alloc (.cells #[v] T)).heap.size #[x] U:=Pts.new _ _ _
 rw [hsz] at P1
 have hs2:((w.alloc (.cells #[v] T)).alloc (.cells #[x] U)).heap.size=(w.alloc (.cells #[v] T)).heap.size+1:=by show ((w.alloc (.cells #[v] T)).heap.push _).size=_;rw [Array.size_push]
 exact ⟨(Pts.new w #[v] T).alloc _,P1,((Below.refl _ w).alloc (Nat.le_refl _) _).alloc (by rw [hsz];omega) _,by rw [hs2,hsz]⟩
set_option maxRecDepth 100000 in
set_option maxHeartbeats 1000000 in
theorem chunk_bad (w:World) (sp wp:Addr) (total n:Int) (A:Option Addr) (bs:List UInt8) (l c:Nat) (h1:1≤n) (h2:n≤2097152) (h3:0≤total) (hn:l=bs.length) (hr:BRow w w.heap.size A bs) (hc:bs.length≤c) (hcm:c≤maxLen) (h:newErr bs≠0) :
 Calls Tryz.prog 113 #[.pointer (some sp),.pointer (some wp),.int .i64 total,.slice A l c,.int .i64 n] w fun e w'=>e=.returned (.tuple #[.slice none 0 0,.int .i64 11])∧Below w.heap.size w w':=by
 subst hn
 have P:=hid (two_new w (.slice none 0 0) (.int .i64 11) 27 32)
 obtain ⟨p0,p1,hb,hs⟩:=two_new w (.slice none 0 0) (.int .i64 0) 27 32
 have HR:=hid ((hr.below hb).more (Nat.le_of_lt_succ (by omega):w.heap.size≤((w.alloc (.cells #[.slice none 0 0] 27)).alloc (.cells #[.int .i64 0] 32)).heap.size))
 have HB:=hid (dnew_bad_p A bs bs.length c _ _ rfl HR.out hc hcm h)
 obtain ⟨x,hx⟩:∃ x,newErr bs=x:=⟨_,rfl⟩
 rw [hx] at HB h
 clear hr hb hs hx p0 p1
 go_enter_defers Tryz.func113,Tryz.ntmps113
 go_wp2
 go_step3
 go_wp2_with fail
 refine Calls.mono HB.out ?_;rintro e w1 ⟨rfl,rfl⟩
 go_wp2
 simp only [Exit.noGoto_ret]
 go_wp2
 have c0:=P.out.1.cell 0
 have c1:=P.out.2.1.cell 0
 simp [bodyPostD,Leaves,settle,results,Tryz.results113,go_sem,c0,c1]
 exact P.out.2.2.1
open Go.RowKit Rng Lz Win
structure StAt (w:World) (k:LK) (st:Nat) (rep:Nat→Nat) (pr:Pr):Prop where
 m:Pts w k.sb (mcells k st rep pr) 211
 l:Pts w k.lb (lcells k pr) 131
 fit:∀ i,pr i<65536
 ne:k.sb≠k.lb
section
variable {Z : Nat → Prop} {w0 w w' : World} {k : LK} {g : RB} {total : Int} {st : Nat} {rep : Nat → Nat} {s : CP Dec} {C told : List UInt8} {wv tv : Value}
theorem StAt.frm {pr:Pr} {N:Nat→Prop} (h:StAt w k st rep pr) (hf:Frm N w w') (h1:¬ N k.sb) (h2:¬ N k.lb):StAt w' k st rep pr:=⟨h.m.frm hf h1,h.l.frm hf h2,h.fit,h.ne⟩
theorem RdAt.rested (h:RdAt Z w0 w k g total st rep s C told wv tv):StAt w k st rep s.pr:=⟨h.lz.m,h.lz.l,h.lz.fit,h.lz.ne.2.2⟩
theorem RdAt.setTotal (h:RdAt Z w0 w k g total st rep s C told wv tv) (t:Int):RdAt Z w0 (w.setCell ⟨g.xb,3,none⟩ (.int .i64 t)) k g t st rep s C told wv tv:=by
 obtain ⟨cd,hd⟩:=h.dpts
 obtain ⟨cw,hw⟩:=h.win.pts
 obtain ⟨lw,hwo⟩:=h.win.own
 have hf:Frm (fun x=>x=g.xb) w (w.setCell ⟨g.xb,3,none⟩ (.int .i64 t)):=Frm.setCell (S:=fun x=>x=g.xb) (Frm.refl _ w) (p:=⟨g.xb,3,none⟩) (by rfl) _
 refine ⟨h.lz.frm (DC.keep _ _) hf ?_,h.win.frm hf ?_ ?_,?_,h.o.frm hf ?_,h.ne,⟨h.nr.1,h.nr.2.1,h.nr.2.2.1,h.nr.2.2.2.1,Nat.lt_of_lt_of_le h.nr.2.2.2.2 hf.size⟩,⟨Nat.le_trans h.bs.1 hf.size,Nat.le_trans h.bs.2 hf.size⟩,h.z,h.f.transW hf ?_⟩
 ·rintro q ((e | e) | e | e) e2
  ·exact hd.ne_of h.p (by decide) (e.symm.trans e2)
  ·exact h.nr.2.1 (e.symm.trans e2)
  ·exact h.lz.m.ne_of h.p (by decide) (e.symm.trans e2)
  exact h.lz.l.ne_of h.p (by decide) (e.symm.trans e2)
 ·exact hw.ne_of h.p (by decide)
 ·intro q hq e
  subst e
  exact own_ne hwo h.p (by decide) hq
 ·exact h.p.set 3 (.int .i64 t)
 ·intro q hq e
  subst e
  exact own_ne h.o h.p (by decide) hq
 rintro q e hq
 exact h.z q (.inr (.inr (.inr (.inr (.inr (.inl e)))))) hq
end
def StepRes (Z:Nat→Prop) (w0:World) (k:LK) (g:RB) (total:Int) (told:List UInt8) (R:Option (List UInt8×RS)) (e:Ending) (w':World):Prop :=
 (∃ b y wv' tv',R=some (b,y)∧e=.returned (.tuple #[])∧RdAt Z w0 w' k g total y.st y.rep y.s y.C (told++b) wv' tv') ∨
 (R=none∧(∃ x,e=.panicked (wrongP x))∧∃ st rep s C told wv tv,RdAt Z w0 w' k g total st rep s C told wv tv)
set_option maxRecDepth 100000 in
theorem step_any (Z:Nat→Prop) (w0 w:World) (k:LK) (g:RB) (total room:Nat) (x:RS) (told:List UInt8) (wv tv:Value) (h:RdAt Z w0 w k g (total:Int) x.st x.rep x.s x.C told wv tv)
 (hk:k.Ok) (ht:total<4611686018427387904) (hx:x.Ok) (hS:g.S≤16777216) (hlen:told.length≤100000000) (hroom:room≤2097152) :
 Calls Tryz.prog 122 #[.pointer (some ⟨g.xb,0,none⟩),.int .i64 room] w fun e w'=>StepRes Z w0 k g (total:Int) told (stepOf k g.S total room x) e w':=by
 obtain ⟨⟨a,sa⟩,ha⟩:∃ y,bitAt outC (8+x.st*16+total % 2 ^ k.pb) 0 x.s=y:=⟨_,rfl⟩
 have hs:stepOf k g.S total room x=(if a=0 then some ([UInt8.ofNat (litOf outC k x.st total x.rep x.C sa).1],⟨behS x.st 0,x.rep,(litOf outC k x.st total x.rep x.C sa).2,lastN g.S (x.C++[UInt8.ofNat (litOf outC k x.st total x.rep x.C sa).1])⟩)
  else if (opOf outC x.st (total % 2 ^ k.pb) x.rep sa).1≤room∧(opOf outC x.st (total % 2 ^ k.pb) x.rep sa).2.2.1 0+1≤x.C.length then
   some (cyc x.C ((opOf outC x.st (total % 2 ^ k.pb) x.rep sa).2.2.1 0+1) (opOf outC x.st (total % 2 ^ k.pb) x.rep sa).1,⟨(opOf outC x.st (total % 2 ^ k.pb) x.rep sa).2.1,(opOf outC x.st (total % 2 ^ k.pb) x.rep sa).2.2.1,(opOf outC x.st (total % 2 ^ k.pb) x.rep sa).2.2.2,lastN g.S (x.C++cyc x.C ((opOf outC x.st (total % 2 ^ k.pb) x.rep sa).2.2.1 0+1) (opOf outC x.st (total % 2 ^ k.pb) x.rep sa).1)⟩)
  else none):=by
  unfold stepOf
  simp only [ha]
 rw [hs]
 have hl:=bitAt_le outC (8+x.st*16+total % 2 ^ k.pb) 0 x.s
 rw [ha] at hl
 by_cases h0:a=0
 ·subst h0
  rw [if_pos rfl]
  refine (step_lit Z w0 w k g total x.st room x.rep x.s sa x.C told wv tv h hk ht hx.st (hx.rep 0) hS hlen _ rfl ha).mono ?_
  rintro e w' ⟨rfl,wv',tv',h'⟩
  exact Or.inl ⟨_,_,wv',tv',rfl,rfl,h'⟩
 rw [if_neg h0]
 obtain rfl:a=1:=by simp only at hl;omega
 obtain ⟨⟨sz,st',rep',s'⟩,ho⟩:∃ y,opOf outC x.st (total % 2 ^ k.pb) x.rep sa=y:=⟨_,rfl⟩
 rw [ho]
 simp only
 refine (step_op Z w0 w k g total x.st room x.rep x.s sa x.C told wv tv h hk ht hx.st hS hlen hroom _ rfl ha sz st' rep' s' ho).mono ?_
 rintro e w' (⟨hg,rfl,wv',tv',h'⟩ | ⟨hg,h1,h2⟩)
 ·rw [if_pos hg]
  exact Or.inl ⟨_,_,wv',tv',rfl,rfl,h'⟩
 rw [if_neg hg]
 exact Or.inr ⟨rfl,h1,h2⟩
open Go.RowKit Rng Lz Win
theorem dend_c (db rb:Nat) (d:Dec) (w:World) (hd:DC db rb w d) :
 Calls Tryz.prog 123 #[.pointer (some ⟨db,0,none⟩)] w fun e w'=>e=.returned (.tuple #[.int .i64 d.fin.1,.int .i64 d.fin.2])∧DC db rb w' d.order∧Frm (DO db rb) w w':=by
 obtain ⟨r,hd',hback⟩:=hd.dec
 refine (dend_p db r d w hd').mono ?_
 rintro e w' ⟨rfl,h1,h2⟩
 exact ⟨rfl,hback _ _ Dec.order_nil h1,h2.mono fun q _ hq=>.inl hq⟩
def ChZ (k:LK) (wb db rb:Nat) (wv:Value) (q:Nat):Prop:=q=db∨q=rb∨q=k.sb∨q=k.lb∨q=wb∨wv.ownBlock=some q
theorem RdAt.start (w:World) (k:LK) (st:Nat) (rep:Nat→Nat) (pr:Pr) (base wb kb S bt N0:Nat) (C:List UInt8) (wv:Value) (db rb:Nat) (d:Dec) (tot:Int)
 (hs:StAt w k st rep pr) (hw:WinC w base wb kb S C wv) (hd:DecAt w 243 db rb d)
 (hk:k.sb<N0∧k.lb<N0) (hv:∀ q,wv.ownBlock=some q→q<N0) (hwb:wb<N0) (hdb:N0≤db) (hrb:N0≤rb) (hbt:bt≤w.heap.size) (hb:base≤w.heap.size) :
 ∃ rb',RdAt (ChZ k wb db rb' wv) w (w.alloc (.cells #[.pointer (some ⟨k.sb,0,none⟩),.pointer (some ⟨wb,0,none⟩),.pointer (some ⟨db,0,none⟩),.int .i64 tot,.slice none 0 0] 241)) k ⟨db,rb',wb,kb,w.heap.size,S,base,bt⟩ tot st rep ⟨d,pr⟩ C [] wv (.slice none 0 0)∧N0≤rb':=by
 have hdc:∃ rb',DC db rb' w d∧N0≤rb'∧rb'<w.heap.size∧(∀ (T:TypeId) c b,Pts w b c T→b=rb'→T=243∨N0≤b):=by
  by_cases h0:d.rest=[]
  ·exact ⟨db,.inr ⟨rfl,h0,rb,hd⟩,hdb,DC.pts (.inl hd) |>.elim fun c h=>h.lt,fun T c b hp e=>.inr (by omega)⟩
  refine ⟨rb,.inl hd,hrb,?_,fun T c b hp e=>.inr (by omega)⟩
  obtain ⟨⟨A,c,hp,hrow,ho,hc,hm⟩,hfit,hn⟩:=hd
  have h1:0<d.rest.length:=List.length_pos_iff.2 h0
  obtain ⟨ab,off,rfl,hab,-⟩:=hrow h1
  have:=ho h1 _ rfl
  have e:ab=rb:=Classical.byContradiction fun e=>this e
  omega
 obtain ⟨rb',hdc,hr1,hr2,-⟩:=hdc
 obtain ⟨cd,hdp⟩:=hdc.pts
 have hdl:=hdp.lt
 have F:Frm (fun _=>False) w (w.alloc (.cells #[.pointer (some ⟨k.sb,0,none⟩),.pointer (some ⟨wb,0,none⟩),.pointer (some ⟨db,0,none⟩),.int .i64 tot,.slice none 0 0] 241)):=(Frm.refl _ w).alloc _
 refine ⟨rb',⟨⟨DC.keep _ _ _ _ _ _ hdc F (fun _ _ h=>h),hs.m.frm F id,hs.l.frm F id,hs.fit,?_⟩,hw.frm F id (fun _ _ h=>h),Pts.new w _ _,OwnB.nil _ _ _,fun q _ h=>by simp [Value.ownBlock] at h,⟨?_,?_,?_,by simp [Value.ownBlock],Nat.lt_of_lt_of_le hr2 F.size⟩,⟨Nat.le_trans hb F.size,Nat.le_trans hbt F.size⟩,?_,F.mono fun _ _ h=>h.elim⟩,hr1⟩
 ·refine ⟨?_,?_,hs.ne⟩
  ·rintro (e | e) <;> simp only at e <;> omega
  rintro (e | e) <;> simp only at e <;> omega
 ·simp only;omega
 ·simp only;omega
 ·intro e
  have:=hv _ e
  simp only at this
  omega
 intro q hq hlt
 simp only at hq
 rcases hq with e | e | e | e | e | e | e | e
 ·exact .inl e
 ·exact .inr (.inl e)
 ·exact .inr (.inr (.inl e))
 ·exact .inr (.inr (.inr (.inl e)))
 ·exact .inr (.inr (.inr (.inr (.inl e))))
 ·omega
 ·exact .inr (.inr (.inr (.inr (.inr e))))
 simp [Value.ownBlock] at e
def ChunkEnd (k:LK) (base wb kb S:Nat) (wv:Value) (w:World) (R:Option (List UInt8×RS)) (e:Ending) (w':World):Prop :=
 Frm (fun q=>q=k.sb∨q=k.lb∨q=wb∨wv.ownBlock=some q) w w' ∧
 ((R=none∧e=.returned (.tuple #[.slice none 0 0,.int .i64 11])) ∨
  ∃ told y tv wv',R=some (told,y)∧e=.returned (.tuple #[tv,.int .i64 0])∧OwnB w' 5 w.heap.size tv told∧StAt w' k y.st y.rep y.s.pr∧WinC w' base wb kb S y.C wv'∧Mv w wv wv'∧∀ q,tv.ownBlock=some q→wv'.ownBlock≠some q)
theorem chunk_frm {k:LK} {wb db rb:Nat} {wv:Value} {w wc w6 w7:World} (hB:Below w.heap.size w wc) (h6:Frm (ChZ k wb db rb wv) wc w6) (hdb:w.heap.size+2≤db) (hrb:w.heap.size+2≤rb) (h7:Frm (fun q=>q=w.heap.size∨q=w.heap.size+1) w6 w7) :
 Frm (fun q=>q=k.sb∨q=k.lb∨q=wb∨wv.ownBlock=some q) w w7:=by
 have h0:Frm (fun _=>False) w wc:=Frm.of_below hB
 refine ((h0.mono fun _ _ h=>h.elim).transW h6 ?_).transW h7 ?_
 ·rintro q (e | e | e | e | e | e) hlt
  ·omega
  ·omega
  ·exact .inl e
  ·exact .inr (.inl e)
  ·exact .inr (.inr (.inl e))
  exact .inr (.inr (.inr e))
 rintro q (e | e) hlt
 ·omega
 omega
theorem chunk_none {k:LK} {base wb kb S db rb:Nat} {wv:Value} {w wc w6 w7:World} (hB:Below w.heap.size w wc) (h6:Frm (ChZ k wb db rb wv) wc w6) (hdb:w.heap.size+2≤db) (hrb:w.heap.size+2≤rb) (h7:Frm (fun q=>q=w.heap.size∨q=w.heap.size+1) w6 w7) :
 ChunkEnd k base wb kb S wv w none (.returned (.tuple #[.slice none 0 0,.int .i64 11])) w7:=⟨chunk_frm hB h6 hdb hrb h7,.inl ⟨rfl,rfl⟩⟩
theorem chunk_some {k:LK} {base wb kb S db rb xb:Nat} {wv tv1 wv1:Value} {w wc w6 w7:World} {tot:Int} {told:List UInt8} {x:RS} {d:Dec} {c0 c1:Value} (hB:Below w.heap.size w wc) (h6:RdAt (ChZ k wb db rb wv) wc w6 k ⟨db,rb,wb,kb,xb,S,base,w.heap.size+2⟩ tot x.st x.rep ⟨d,x.s.pr⟩ x.C told wv1 tv1)
 (hdb:w.heap.size+2≤db) (hrb:w.heap.size+2≤rb) (h7:Frm (fun q=>q=w.heap.size∨q=w.heap.size+1) w6 w7) (p0:Pts w6 w.heap.size #[c0] 27) (p1:Pts w6 (w.heap.size+1) #[c1] 32) :
 ChunkEnd k base wb kb S wv w (some (told,x)) (.returned (.tuple #[tv1,.int .i64 0])) w7:=by
 obtain ⟨cw,hw⟩:=h6.win.pts
 obtain ⟨lw,hwo⟩:=h6.win.own
 refine ⟨chunk_frm hB h6.f hdb hrb h7,.inr ⟨told,x,tv1,wv1,rfl,rfl,?_,h6.rested.frm h7 ?_ ?_,h6.win.frm h7 ?_ ?_,?_,fun q hq e=>h6.ne q e hq⟩⟩
 ·exact World.ownsRow.mono (h6.o.frm h7 (fun q hq=>by have h9:w.heap.size+2≤q:=(h6.o.lt hq).1;rintro (e | e) <;> omega)) (show w.heap.size≤w.heap.size+2 by omega)
 ·rintro (e | e)
  ·exact h6.lz.m.ne_of p0 (by decide) e
  exact h6.lz.m.ne_of p1 (by decide) e
 ·rintro (e | e)
  ·exact h6.lz.l.ne_of p0 (by decide) e
  exact h6.lz.l.ne_of p1 (by decide) e
 ·rintro (e | e)
  ·exact hw.ne_of p0 (by decide) e
  exact hw.ne_of p1 (by decide) e
 ·rintro q hq (e | e)
  ·subst e;exact own_ne hwo p0 (by decide) hq
  subst e;exact own_ne hwo p1 (by decide) hq
 intro q hq
 by_cases hlt:q<w.heap.size
 ·have hz:=h6.z q (.inr (.inr (.inr (.inr (.inr (.inr (.inl hq))))))) (Nat.lt_of_lt_of_le hlt hB.size)
  obtain ⟨cd,hd⟩:=h6.dpts
  rcases hz with e | e | e | e | e | e
  ·omega
  ·omega
  ·subst e;exact absurd hq (own_ne hwo h6.lz.m (by decide))
  ·subst e;exact absurd hq (own_ne hwo h6.lz.l (by decide))
  ·subst e;exact absurd hq (own_ne hwo hw (by decide))
  exact .inl e
 exact .inr (by omega)
open Go.RowKit Rng Lz Win
theorem and15 (t:Nat) (h:t<9223372036854775808):bits .and .i64 (t:Int) 15=((t % 16:Nat):Int):=by
 have e:(15:Int)=((15:Nat):Int):=rfl
 show IntKind.i64.wrap ((BitVec.ofInt 64 (t:Int) &&& BitVec.ofInt 64 15).toNat:Int)=_
 rw [BitVec.toNat_and,ofInt_u64 t (by omega),e,ofInt_u64 15 (by omega),show (15:Nat)=2 ^ 4-1 by rfl,Nat.and_two_pow_sub_one_eq_mod]
 exact Go.IntWalk.i64_in _ (by omega)
theorem LzAt.coder {σ:Type} {CA:World→σ→Prop} {own:Nat→Prop} {T:TypeId} {w w':World} {k:LK} {st:Nat} {rep:Nat→Nat} {s:CP σ} {d:σ} (h:LzAt CA own T w k st rep s) (hc:CA w' d) (hf:Frm own w w'):LzAt CA own T w' k st rep ⟨d,s.pr⟩∧Frm (Wr own k) w w' :=
 ⟨⟨hc,h.m.frm hf h.ne.1,h.l.frm hf h.ne.2.1,h.fit,h.ne⟩,hf.mono fun q _ e=>.inl e⟩
set_option maxRecDepth 100000 in
set_option maxHeartbeats 4000000 in
theorem chunk_main (k:LK) (st:Nat) (rep:Nat→Nat) (pr:Pr) (base wb kb S:Nat) (C bs:List UInt8) (wv:Value) (A:Option Addr) (n c l total:Nat) (w:World)
 (hs:StAt w k st rep pr) (hw:WinC w base wb kb S C wv) (hb:base≤w.heap.size) (hS:S≤16777216) (hk:k.Ok) (hst:st<12) (hrep:∀ j,rep j<4294967296)
 (hl:l=bs.length) (hr:BRow w w.heap.size A bs) (hc:bs.length≤c) (hcm:c≤maxLen) (hlen:bs.length≤140737488355328)
 (h1:1≤n) (h2:n≤2097152) (ht:total<9223372036854775808) (hnew:newErr bs=0) :
 Calls Tryz.prog 113 #[.pointer (some ⟨k.sb,0,none⟩),.pointer (some ⟨wb,0,none⟩),.int .i64 total,.slice A l c,.int .i64 n] w fun e w'=>ChunkEnd k base wb kb S wv w (chunkOf k S total n st rep pr C bs) e w':=by
 subst hl
 obtain ⟨R,hR⟩:∃ R,chunkOf k S total n st rep pr C bs=R:=⟨_,rfl⟩
 rw [hR]
 unfold chunkOf at hR
 rw [if_neg (fun h=>h hnew)] at hR
 obtain ⟨T,hT⟩:∃ T,totOf total=T:=⟨_,rfl⟩
 rw [hT] at hR
 have hTb:T<1099511627792:=by rw [← hT];exact totOf_lt total
 obtain ⟨GO,hGO⟩:∃ GO,chunkGo k S T n (n+1) [] ⟨st,rep,⟨newDec bs,pr⟩,C⟩=GO:=⟨_,rfl⟩
 rw [hGO] at hR
 obtain ⟨p0,p1,hbl,hsz⟩:=two_new w (.slice none 0 0) (.int .i64 0) 27 32
 have HND:=hid (dnew_p A bs bs.length c _ rfl ((hr.below hbl).more (Nat.le_of_lt (by rw [hsz];omega))) hc hcm hlen hnew)
 have P0:=hid p0
 have P1:=hid p1
 have BL:=hid hbl
 have SZ:=hid hsz
 have HR:=hid hR
 have HT:=hid hT
 have HG:=hid hGO
 have HS:=hid hs
 have HW:=hid hw
 have HK:=hid hk
 have HREP:=hid hrep
 have h1i:(1:Int)≤(n:Int):=by omega
 have h2i:(n:Int)≤2097152:=by omega
 clear hR hT hGO p0 p1 hbl hsz hs hw hk hr hrep hnew
 go_enter_defers Tryz.func113,Tryz.ntmps113
 go_wp2
 go_step3
 go_wp2_with fail
 refine Calls.mono HND.out ?_;rintro e w3 ⟨db,rb,rfl,hd3,hdb,hrb,hB3⟩
 rw [SZ.out] at hdb hrb hB3
 have q0:=P0.out.below hB3 (by omega)
 have q1:=P1.out.below hB3 (by omega)
 have b3:=BL.out.trans (hB3.mono (by omega))
 have Q0:=hid (q0.other (p:=⟨w.heap.size+1,0,none⟩) (by simp) (.int .i64 0))
 have Q1:=hid (q1.set 0 (.int .i64 0))
 have B4:=hid (b3.setCell (p:=⟨w.heap.size+1,0,none⟩) (by simp) (.int .i64 0))
 have f4:Frm (· = w.heap.size+1) w3 (w3.setCell ⟨w.heap.size+1,0,none⟩ (.int .i64 0)):=Frm.setCell (S:=fun x=>x=w.heap.size+1) (Frm.refl _ w3) (p:=⟨w.heap.size+1,0,none⟩) (by rfl) _
 have D4:=hid (DecAt.frm hd3 f4 (by omega) (by omega))
 have c11:=q1.cell 0
 have z11:=q1.frozen 0
 clear hd3 hB3 q0 q1 b3 f4
 go_upto_if 43 with fail
 obtain ⟨w4,hw4⟩:∃ w4,w3.setCell ⟨w.heap.size+1,0,none⟩ (.int .i64 0)=w4:=⟨_,rfl⟩
 rw [hw4] at Q0 Q1 B4 D4 ⊢
 have hkb:=HS.out.m.lt
 have hlb:=HS.out.l.lt
 obtain ⟨cw,hwp⟩:=HW.out.pts
 have hwl:=hwp.lt
 obtain ⟨lw,hwo⟩:=HW.out.own
 have S4:=hid (HS.out.frm (Frm.of_below (S:=fun _=>False) B4.out) id id)
 have W4:=hid (HW.out.frm (Frm.of_below (S:=fun _=>False) B4.out) id (fun _ _ h=>h))
 have HWL:=hid (fun q (h:wv.ownBlock=some q)=>(hwo.lt h).2)
 clear hw4 c11 z11 hwp hwo
 go_cut [2] from 13 (fun v wx=>v=.int .i64 T∧wx=w4)
 case first =>
  by_cases hbig:1099511627776<total
  ·have hi:(1099511627776:Int)<(total:Int):=by omega
   have ha:=and15 total ht
   obtain ⟨m,hm⟩:∃ m,total % 16=m:=⟨_,rfl⟩
   have hTe:=HT.out
   unfold totOf at hTe
   rw [if_pos hbig,hm] at hTe
   rw [hm] at ha
   have hmb:m<16:=by omega
   have hTi:(1099511627776:Int)+(m:Int)=(T:Int):=by omega
   have hTw:IntKind.i64.wrap (T:Int)=(T:Int):=Go.IntWalk.i64_in _ (by omega)
   clear hm hTe hbig hmb
   go_wp2
   go_meet
   case rel=>exact ⟨rfl,rfl⟩
  have hi:(total:Int)≤1099511627776:=by omega
  have hTe:=HT.out
  unfold totOf at hTe
  rw [if_neg hbig] at hTe
  subst hTe
  clear hbig
  go_wp2
  go_meet
  case rel=>exact ⟨rfl,rfl⟩
 obtain ⟨rfl,rfl⟩:=hcut
 have hwn:w.heap.size+2≤wc.heap.size:=by have:=Q1.out.lt;omega
 obtain ⟨rb',hrd,hrb'⟩:=RdAt.start wc k st rep pr base wb kb S (w.heap.size+2) (w.heap.size+2) C wv db rb (newDec bs) T S4.out W4.out D4.out ⟨by omega,by omega⟩ (fun q h=>by have:=HWL.out q h;omega) (by omega) hdb hrb hwn (by omega)
 have RD:=hid hrd
 clear hrd
 go_wp2
 go_step3
 go_wp2
 go_loopg [54] (n+1) (fun gn s54 wr=>∃ (told:List UInt8) (x:RS) (wv1 tv1:Value) (tot:Int),RdAt (ChZ k wb db rb' wv) wc wr k ⟨db,rb',wb,kb,wc.heap.size,S,base,w.heap.size+2⟩ tot x.st x.rep x.s x.C told wv1 tv1∧x.Ok∧told.length≤n∧n+1≤gn+told.length∧chunkGo k S T n gn told x=GO)
 case atStart=>exact ⟨[],⟨st,rep,⟨newDec bs,pr⟩,C⟩,wv,_,T,RD.out,⟨hst,HREP.out⟩,by simp,by simp,HG.out⟩
 obtain ⟨told,x,wv1,tv1,tot,hrd,hx,htl,hgk,hgo⟩:=hrel
 have HX:=hid hx
 have HGK:=hid hgk
 have HRD:=hid hrd
 obtain ⟨d0,d1,d2,d3,d4,-⟩:=hrd.cells
 obtain ⟨A5,c5,htv,hc5,hm5,-⟩:=hrd.o.slice
 subst htv
 clear RD HG hrd hx hgk
 have hnz:∀ b,w.heap.size≤b→b<w.heap.size+2→¬ ChZ k wb db rb' wv b:=by
  rintro b h1 h2 (e | e | e | e | e | e)
  ·omega
  ·omega
  ·omega
  ·omega
  ·omega
  have:=HWL.out b e;omega
 have HNZ:=hid hnz
 clear hnz
 by_cases hn:n≤told.length
 ·have hni:(n:Int)≤((told.length:Nat):Int):=by omega
  have hR:=HR.out
  obtain ⟨g,rfl⟩:∃ g,gk=g+1:=⟨gk-1,by have:=HGK.out;omega⟩
  unfold chunkGo at hgo
  rw [if_pos hn] at hgo
  rw [← hgo] at hR
  simp only at hR
  have HEND:=dend_c db rb' x.s.d wr HRD.out.lz.c
  obtain ⟨⟨f1,f2⟩,hf⟩:∃ p,x.s.d.fin=p:=⟨_,rfl⟩
  rw [hf] at hR HEND
  simp only at HEND
  have HE:=hid HEND
  have h3:(f2≠0)∨(f2=0∧f1≠0)∨(f2=0∧f1=0):=by omega
  clear HEND hf hgo hn
  rcases h3 with h3 | ⟨rfl,h3⟩ | ⟨rfl,rfl⟩
  ·have hR2:none=R:=by rw [if_neg (fun e=>h3 (by injection e))] at hR;exact hR
   subst hR2
   have hf2:((f2:Int)==0)=false:=by rw [beq_eq_false_iff_ne];omega
   have hf3:((f2:Int) != 0)=true:=by rw [bne_iff_ne];omega
   clear hR h3
   go_wp2_with fail
   refine HE.out.mono ?_;rintro e w6 ⟨rfl,hd6,f6⟩
   have h6:=HRD.out.lz.coder hd6 f6
   have H6:=hid (HRD.out.lzStep h6.1 h6.2)
   have e0:=Q0.out.frm H6.out.f (HNZ.out _ (Nat.le_refl _) (by omega))
   have e1:=Q1.out.frm H6.out.f (HNZ.out _ (by omega) (by omega))
   have E0:=hid e0
   have E1:=hid e1
   have c0:=e0.cell 0
   have z0:=e0.frozen 0
   have e2:=e1.other (p:=⟨w.heap.size,0,none⟩) (by simp) (.slice none 0 0)
   have c1:=e2.cell 0
   have z1:=e2.frozen 0
   have r0:=(e0.set 0 (.slice none 0 0)).other (p:=⟨w.heap.size+1,0,none⟩) (by simp) (.int .i64 11)
   have r1:=e2.set 0 (.int .i64 11)
   have FF:Hid (Frm (fun q=>q=w.heap.size∨q=w.heap.size+1) w6 ((w6.setCell ⟨w.heap.size,0,none⟩ (.slice none 0 0)).setCell ⟨w.heap.size+1,0,none⟩ (.int .i64 11))):=hid (((Frm.refl _ w6).setCell (p:=⟨w.heap.size,0,none⟩) (.inl rfl) _).setCell (p:=⟨w.heap.size+1,0,none⟩) (.inr rfl) _)
   have R0:=hid r0
   have R1:=hid r1
   clear e0 e1 e2 r0 r1 hd6 f6 h6 d0 d1 d2 d3 d4
   go_wp2
   simp only [Exit.noGoto_ret]
   go_wp2
   refine leaves_cons (f:=121) (args:=#[.pointer (some ⟨w.heap.size,0,none⟩),.pointer (some ⟨w.heap.size+1,0,none⟩)]) (by simp) (by simp [go_sem]) ?_
   refine (chunk_idle _ _ _).mono ?_
   rintro e u' w'' ⟨rfl,rfl,rfl⟩
   have k0:=R0.out.cell 0
   have k1:=R1.out.cell 0
   simp [Leaves,settle,results,Tryz.results113,go_sem,k0,k1]
   exact chunk_none B4.out H6.out.f hdb hrb' FF.out
  ·have hR2:none=R:=by rw [if_neg (fun e=>h3 (by injection e))] at hR;exact hR
   subst hR2
   have hf2:((f1:Int)==0)=false:=by rw [beq_eq_false_iff_ne];omega
   have hf3:((f1:Int) != 0)=true:=by rw [bne_iff_ne];omega
   clear hR h3
   go_wp2_with fail
   refine HE.out.mono ?_;rintro e w6 ⟨rfl,hd6,f6⟩
   have h6:=HRD.out.lz.coder hd6 f6
   have H6:=hid (HRD.out.lzStep h6.1 h6.2)
   have e0:=Q0.out.frm H6.out.f (HNZ.out _ (Nat.le_refl _) (by omega))
   have e1:=Q1.out.frm H6.out.f (HNZ.out _ (by omega) (by omega))
   have E0:=hid e0
   have E1:=hid e1
   have c0:=e0.cell 0
   have z0:=e0.frozen 0
   have e2:=e1.other (p:=⟨w.heap.size,0,none⟩) (by simp) (.slice none 0 0)
   have c1:=e2.cell 0
   have z1:=e2.frozen 0
   have r0:=(e0.set 0 (.slice none 0 0)).other (p:=⟨w.heap.size+1,0,none⟩) (by simp) (.int .i64 11)
   have r1:=e2.set 0 (.int .i64 11)
   have FF:Hid (Frm (fun q=>q=w.heap.size∨q=w.heap.size+1) w6 ((w6.setCell ⟨w.heap.size,0,none⟩ (.slice none 0 0)).setCell ⟨w.heap.size+1,0,none⟩ (.int .i64 11))):=hid (((Frm.refl _ w6).setCell (p:=⟨w.heap.size,0,none⟩) (.inl rfl) _).setCell (p:=⟨w.heap.size+1,0,none⟩) (.inr rfl) _)
   have R0:=hid r0
   have R1:=hid r1
   clear e0 e1 e2 r0 r1 hd6 f6 h6 d0 d1 d2 d3 d4
   go_wp2
   simp only [Exit.noGoto_ret]
   go_wp2
   refine leaves_cons (f:=121) (args:=#[.pointer (some ⟨w.heap.size,0,none⟩),.pointer (some ⟨w.heap.size+1,0,none⟩)]) (by simp) (by simp [go_sem]) ?_
   refine (chunk_idle _ _ _).mono ?_
   rintro e u' w'' ⟨rfl,rfl,rfl⟩
   have k0:=R0.out.cell 0
   have k1:=R1.out.cell 0
   simp [Leaves,settle,results,Tryz.results113,go_sem,k0,k1]
   exact chunk_none B4.out H6.out.f hdb hrb' FF.out
  have hR2:some (told,x)=R:=by rw [if_pos rfl] at hR;exact hR
  subst hR2
  clear hR
  go_wp2_with fail
  refine HE.out.mono ?_;rintro e w6 ⟨rfl,hd6,f6⟩
  have h6:=HRD.out.lz.coder hd6 f6
  have H6:=hid (HRD.out.lzStep h6.1 h6.2)
  have e0:=Q0.out.frm H6.out.f (HNZ.out _ (Nat.le_refl _) (by omega))
  have e1:=Q1.out.frm H6.out.f (HNZ.out _ (by omega) (by omega))
  have E0:=hid e0
  have E1:=hid e1
  have c0:=e0.cell 0
  have z0:=e0.frozen 0
  have e2:=e1.other (p:=⟨w.heap.size,0,none⟩) (by simp) (.slice A5 told.length c5)
  have c1:=e2.cell 0
  have z1:=e2.frozen 0
  have r0:=(e0.set 0 (.slice A5 told.length c5)).other (p:=⟨w.heap.size+1,0,none⟩) (by simp) (.int .i64 0)
  have r1:=e2.set 0 (.int .i64 0)
  have FF:Hid (Frm (fun q=>q=w.heap.size∨q=w.heap.size+1) w6 ((w6.setCell ⟨w.heap.size,0,none⟩ (.slice A5 told.length c5)).setCell ⟨w.heap.size+1,0,none⟩ (.int .i64 0))):=hid (((Frm.refl _ w6).setCell (p:=⟨w.heap.size,0,none⟩) (.inl rfl) _).setCell (p:=⟨w.heap.size+1,0,none⟩) (.inr rfl) _)
  have R0:=hid r0
  have R1:=hid r1
  obtain ⟨-,-,-,-,k4,-⟩:=H6.out.cells
  have k4z:=k4
  clear e0 e1 e2 r0 r1 hd6 f6 h6 d0 d1 d2 d3 d4
  go_wp2
  simp only [Exit.noGoto_ret]
  go_wp2
  refine leaves_cons (f:=121) (args:=#[.pointer (some ⟨w.heap.size,0,none⟩),.pointer (some ⟨w.heap.size+1,0,none⟩)]) (by simp) (by simp [go_sem]) ?_
  refine (chunk_idle _ _ _).mono ?_
  rintro e u' w'' ⟨rfl,rfl,rfl⟩
  have k0:=R0.out.cell 0
  have k1:=R1.out.cell 0
  simp [Leaves,settle,results,Tryz.results113,go_sem,k0,k1]
  exact chunk_some B4.out H6.out hdb hrb' FF.out E0.out E1.out
 have hni:((told.length:Nat):Int)<(n:Int):=by omega
 obtain ⟨g,rfl⟩:∃ g,gk=g+1:=⟨gk-1,by have:=HGK.out;omega⟩
 unfold chunkGo at hgo
 rw [if_neg hn] at hgo
 obtain ⟨L,hL⟩:∃ L,told.length=L:=⟨_,rfl⟩
 obtain ⟨tl,htl2⟩:∃ tl,T+L=tl:=⟨_,rfl⟩
 obtain ⟨rm,hrm⟩:∃ rm,n-L=rm:=⟨_,rfl⟩
 obtain ⟨SR,hSR⟩:∃ SR,stepOf k S tl rm x=SR:=⟨_,rfl⟩
 rw [hL] at hni hc5 d4 htl hgo hn
 rw [htl2,hrm,hSR] at hgo
 have htli:(T:Int)+(L:Int)=(tl:Int):=by omega
 have htlw:IntKind.i64.wrap (tl:Int)=(tl:Int):=Go.IntWalk.i64_in _ (by omega)
 have hrmi:(n:Int)-(L:Int)=(rm:Int):=by omega
 have hrmw:IntKind.i64.wrap (rm:Int)=(rm:Int):=Go.IntWalk.i64_in _ (by omega)
 have h7:=HRD.out.setTotal tl
 rw [hL] at h7
 have z3:=HRD.out.p.frozen 3
 obtain ⟨q0,q1,q2,q3,q4,-⟩:=h7.cells
 have HSTEP:=hid (step_any (ChZ k wb db rb' wv) wc _ k ⟨db,rb',wb,kb,wc.heap.size,S,base,w.heap.size+2⟩ tl rm x told wv1 _ h7 HK.out (by omega) HX.out hS (by omega) (by omega))
 have HSR:=hid hSR
 have HGO:=hid hgo
 have HL:=hid hL
 have HB1:Hid (T+L=tl∧n-L=rm):=hid ⟨htl2,hrm⟩
 clear h7 hSR hgo hL htl2 hrm
 go_wp2_with fail
 refine HSTEP.out.mono ?_;rintro e w6 (⟨b,y,wv2,tv2,hR2,rfl,h8⟩ | ⟨hR2,⟨xp,rfl⟩,st9,rep9,s9,C9,told9,wv9,tv9,h9⟩)
 ·have hR3:stepOf k S tl rm x=some (b,y):=hR2
  have hgo:=HGO.out
  have h1:=HSR.out
  rw [hR3] at h1
  rw [← h1] at hgo
  have hi:=stepOf_inv HX.out (by have:=HB1.out;omega) hR3
  have H8:=hid h8
  have HI:=hid hi
  have HGO2:=hid hgo
  clear hR2 hR3 hgo h1 hi h8 HGO HSR HSTEP q0 q1 q2 q3 q4 z3 d0 d1 d2 d3 d4
  go_wp2
  go_roundg g
  case measure=>omega
  refine ⟨told++b,y,wv2,tv2,tl,H8.out,HI.out.1,?_,?_,HGO2.out⟩
  ·have:=HB1.out;have:=HI.out.2;have:=HL.out;rw [List.length_append];omega
  have:=HB1.out;have:=HI.out.2;have:=HL.out;have:=HGK.out;rw [List.length_append];omega
 have hR3:stepOf k S tl rm x=none:=hR2
 have hgo:=HGO.out
 have h1:=HSR.out
 rw [hR3] at h1
 rw [← h1] at hgo
 have hR:=HR.out
 rw [← hgo] at hR
 have hR4:none=R:=hR
 subst hR4
 have H9:=hid h9
 have E0:=hid (Q0.out.frm h9.f (HNZ.out _ (Nat.le_refl _) (by omega)))
 have E1:=hid (Q1.out.frm h9.f (HNZ.out _ (by omega) (by omega)))
 clear hR2 hR3 hgo h1 hR h9 HR HGO HSR HSTEP q0 q1 q2 q3 q4 z3 d0 d1 d2 d3 d4
 go_wp2
 refine leaves_cons (f:=121) (args:=#[.pointer (some ⟨w.heap.size,0,none⟩),.pointer (some ⟨w.heap.size+1,0,none⟩)]) (by simp) (by simp [go_sem]) ?_
 refine (chunk_caught _ _ xp _ _ _ _ E0.out E1.out).mono ?_
 rintro e u' w'' ⟨rfl,rfl,k0,k1,kf⟩
 have c0:=k0.cell 0
 have c1:=k1.cell 0
 simp [Leaves,settle,results,Tryz.results113,go_sem,c0,c1]
 exact chunk_none B4.out H9.out.f hdb hrb' kf
open Go.RowKit Rng Lz Win
theorem chunk_p (k:LK) (st:Nat) (rep:Nat→Nat) (pr:Pr) (base wb kb S:Nat) (C bs:List UInt8) (wv:Value) (A:Option Addr) (n c l total:Nat) (w:World)
 (hs:StAt w k st rep pr) (hw:WinC w base wb kb S C wv) (hb:base≤w.heap.size) (hS:S≤16777216) (hk:k.Ok) (hst:st<12) (hrep:∀ j,rep j<4294967296)
 (hl:l=bs.length) (hr:BRow w w.heap.size A bs) (hc:bs.length≤c) (hcm:c≤maxLen) (hlen:bs.length≤140737488355328)
 (h1:1≤n) (h2:n≤2097152) (ht:total<9223372036854775808) :
 Calls Tryz.prog 113 #[.pointer (some ⟨k.sb,0,none⟩),.pointer (some ⟨wb,0,none⟩),.int .i64 total,.slice A l c,.int .i64 n] w fun e w'=>ChunkEnd k base wb kb S wv w (chunkOf k S total n st rep pr C bs) e w':=by
 by_cases hn:newErr bs=0
 ·exact chunk_main k st rep pr base wb kb S C bs wv A n c l total w hs hw hb hS hk hst hrep hl hr hc hcm hlen h1 h2 ht hn
 have e:chunkOf k S total n st rep pr C bs=none:=by unfold chunkOf;rw [if_pos hn]
 rw [e]
 refine (chunk_bad w ⟨k.sb,0,none⟩ ⟨wb,0,none⟩ total n A bs l c (by omega) (by omega) (by omega) hl hr hc hcm hn).mono ?_
 rintro e w' ⟨rfl,hB⟩
 exact ⟨(Frm.of_below (S:=fun _=>False) hB).mono fun _ _ h=>h.elim,.inl ⟨rfl,rfl⟩⟩
theorem newK_ok (b lb:Nat):(newK b lb).Ok:=⟨by show 3+0≤4;omega,by show 2≤4;omega⟩
theorem lnew_st (w:World):Calls Tryz.prog 82 #[] w fun e w'=>∃ b lb,e=.returned (.pointer (some ⟨b,0,none⟩))∧w.heap.size≤b∧w.heap.size≤lb∧StAt w' (newK b lb) 0 (fun _=>0) (fun _=>1024)∧Below w.heap.size w w':=by
 refine (lnew_p w).mono ?_
 rintro e w' ⟨b,lb,rfl,h1,h2,h3,h4,h5,h6⟩
 exact ⟨b,lb,rfl,h1,h2,⟨h4,h5,fun _=>(by decide:1024<65536),h3⟩,h6⟩
theorem made_bytes (n:Nat) (hn:n≤16777216) (w:World) :
 (Instr.makeSlice 27 (.int .i64 (n:Int)) (.int .i64 (n:Int))).run Tryz.prog w=.ok (.slice (some ⟨w.heap.size,0,none⟩) n n) (w.alloc (.cells (madeCells #[.int .u8 0] n) 5)):=by
 obtain ⟨i,hi,hz⟩:=Option.map_eq_some_iff.1 Tryz.info_u8
 simp only [Prod.mk.injEq] at hz
 have h:=run_make (P:=Tryz.prog) w 27 5 i (.int .u8 0) Tryz.underlying27 hi hz.1 .i64 .i64 n n (by omega) (by omega) (by rw [hz.2.2];omega) (by omega)
 rw [hz.2.1] at h
 simp only [Int.toNat_natCast,Nat.mul_one] at h
 exact h
theorem noughts_row (n:Nat) (w:World):BRow (w.alloc (.cells (madeCells #[.int .u8 0] n) 5)) (w.alloc (.cells (madeCells #[.int .u8 0] n) 5)).heap.size (some ⟨w.heap.size,0,none⟩) (List.replicate n 0):=by
 intro _
 refine ⟨w.heap.size,0,rfl,by simp,fun k hk=>?_⟩
 rw [Nat.zero_add,(Pts.new w (madeCells #[.int .u8 0] n) 5).cell]
 have hkn:k<n:=by simpa using hk
 have h1:(madeCells #[Value.int .u8 0] n)[k]?=some (.int .u8 0):=by simp [madeCells,hkn,Nat.mod_one]
 rw [h1]
 simp [List.getD,hkn,byteV]
theorem StAt.later {w w':World} {k:LK} {st:Nat} {rep:Nat→Nat} {pr:Pr} (h:StAt w k st rep pr) (hb:Below w.heap.size w w'):StAt w' k st rep pr:=h.frm (Frm.of_below (S:=fun _=>False) hb) id id
theorem WinC.later {w w':World} {base wb kb S:Nat} {C:List UInt8} {v:Value} (h:WinC w base wb kb S C v) (hb:Below w.heap.size w w'):WinC w' base wb kb S C v:=h.frm (Frm.of_below (S:=fun _=>False) hb) id (fun _ _ h=>h)
theorem below_alloc (w:World) (o:Obj):Below w.heap.size w (w.alloc o):=(Below.refl _ w).alloc (Nat.le_refl _) o
open Go.RowKit Rng Win Lz
theorem clear_c (base wb kb S:Nat) (C:List UInt8) (v:Value) (w:World) (h:WinC w base wb kb S C v) :
 Calls Tryz.prog 110 #[.pointer (some ⟨wb,0,none⟩)] w fun e w'=>∃ v':Value,e=.returned (.tuple #[])∧WinC w' base wb kb S [] v'∧Frm (· = wb) w w'∧v'.ownBlock=v.ownBlock:=by
 obtain ⟨R,a,hw,_⟩:=h
 refine (clear_win base wb kb S a v R w hw).mono ?_
 rintro e w' ⟨v',rfl,h1,h2,h3⟩
 exact ⟨v',rfl,⟨[],0,h1,rfl⟩,h2,h3⟩
theorem reset_s (k:LK) (st:Nat) (rep:Nat→Nat) (pr:Pr) (w:World) (h:StAt w k st rep pr) (hk:k.Ok) :
 Calls Tryz.prog 99 #[.pointer (some ⟨k.sb,0,none⟩)] w fun e w'=>e=.returned (.tuple #[])∧∃ lb,w.heap.size≤lb∧StAt w' ⟨k.sb,lb,k.lc,k.lp,k.pb⟩ 0 (fun _=>0) (fun _=>1024)∧Frm (· = k.sb) w w':=by
 have hm:=h.m
 rw [← qcells_m] at hm
 refine (lreset_st k.sb k.lc k.lp k.pb st rep pr _ 211 w hm hk.a ⟨_,_,_,rfl⟩ hk.b).mono ?_
 rintro e w' ⟨rfl,lb,h3,h4,h5,hf⟩
 exact ⟨rfl,lb,h3,⟨h4,h5,fun _=>(by decide:1024<65536),by have:=h.m.lt;show k.sb≠lb;omega⟩,hf⟩
theorem set_s (k:LK) (st p:Nat) (rep:Nat→Nat) (pr:Pr) (w:World) (h:StAt w k st rep pr) (hp:p≤255) (hb:¬ badP p) :
 Calls Tryz.prog 112 #[.pointer (some ⟨k.sb,0,none⟩),.int .u8 p] w fun e w'=>e=.returned (.int .i64 0)∧∃ lb,w.heap.size≤lb∧StAt w' ⟨k.sb,lb,p % 9,p / 9 % 5,p / 45⟩ 0 (fun _=>0) (fun _=>1024)∧Frm (· = k.sb) w w':=by
 have hm:=h.m
 rw [← qcells_m] at hm
 refine (props_p p k.sb k.lc k.lp k.pb st rep pr _ 211 w hm ⟨_,_,_,rfl⟩ hp).mono ?_
 rintro e w' ⟨rfl,hf,h2⟩
 unfold badP at hb
 obtain ⟨lb,h3,h4,h5⟩:=h2 hb
 rw [if_neg hb]
 exact ⟨rfl,lb,h3,⟨h4,h5,fun _=>(by decide:1024<65536),by have:=h.m.lt;show k.sb≠lb;omega⟩,hf⟩
theorem set_bad (k:LK) (st p:Nat) (rep:Nat→Nat) (pr:Pr) (w:World) (h:StAt w k st rep pr) (hp:p≤255) (hb:badP p) :
 Calls Tryz.prog 112 #[.pointer (some ⟨k.sb,0,none⟩),.int .u8 p] w fun e w'=>e=.returned (.int .i64 11)∧Frm (· = k.sb) w w':=by
 have hm:=h.m
 rw [← qcells_m] at hm
 refine (props_p p k.sb k.lc k.lp k.pb st rep pr _ 211 w hm ⟨_,_,_,rfl⟩ hp).mono ?_
 rintro e w' ⟨rfl,hf,h2⟩
 unfold badP at hb
 rw [if_pos hb]
 exact ⟨rfl,hf⟩
structure RdS (w:World) (rb fb wb kb base S:Nat) (k:LK) (x:DS) (wv:Value) (A:Option Addr) (n c used:Nat) (most:Int):Prop where
 p:Pts w rb #[.pointer (some ⟨wb,0,none⟩),.pointer (some ⟨k.sb,0,none⟩),.pointer (some ⟨fb,0,none⟩),.int .i64 x.total,.int .i64 most,.bool x.begun,.bool x.props] 182
 s:StAt w k x.st x.rep x.pr
 ks:k.lc=x.lc∧k.lp=x.lp∧k.pb=x.pb
 ok:k.Ok
 st:x.st<12∧∀ j,x.rep j<4294967296
 win:WinC w base wb kb S x.C wv
 b:base≤w.heap.size
 src:SrcAt w fb A n c used
def RdB (rb fb wb:Nat) (k:LK) (wv:Value) (q:Nat):Prop:=q=rb∨q=fb∨q=wb∨q=k.sb∨q=k.lb∨wv.ownBlock=some q
section
variable {w w' : World} {rb fb wb kb base S : Nat} {k : LK} {x : DS} {wv : Value} {A : Option Addr} {n c used : Nat} {most : Int}
theorem RdS.cells (h:RdS w rb fb wb kb base S k x wv A n c used most):w.cell? ⟨rb,0,none⟩=some (.pointer (some ⟨wb,0,none⟩))∧w.cell? ⟨rb,1,none⟩=some (.pointer (some ⟨k.sb,0,none⟩))∧w.cell? ⟨rb,2,none⟩=some (.pointer (some ⟨fb,0,none⟩)) ∧
 w.cell? ⟨rb,3,none⟩=some (.int .i64 x.total)∧w.cell? ⟨rb,4,none⟩=some (.int .i64 most)∧w.cell? ⟨rb,5,none⟩=some (.bool x.begun)∧w.cell? ⟨rb,6,none⟩=some (.bool x.props):=by
 refine ⟨?_,?_,?_,?_,?_,?_,?_⟩ <;> (rw [h.p.cell];rfl)
theorem RdS.frm {N:Nat→Prop} (h:RdS w rb fb wb kb base S k x wv A n c used most) (hf:Frm N w w') (hN:∀ q,RdB rb fb wb k wv q→¬ N q):RdS w' rb fb wb kb base S k x wv A n c used most :=
 ⟨h.p.frm hf (hN _ (.inl rfl)),h.s.frm hf (hN _ (.inr (.inr (.inr (.inl rfl))))) (hN _ (.inr (.inr (.inr (.inr (.inl rfl)))))),h.ks,h.ok,h.st,h.win.frm hf (hN _ (.inr (.inr (.inl rfl)))) (fun q hq=>hN q (.inr (.inr (.inr (.inr (.inr hq)))))),Nat.le_trans h.b hf.size,Pts.frm h.src hf (hN _ (.inr (.inl rfl)))⟩
theorem RdS.later (h:RdS w rb fb wb kb base S k x wv A n c used most) (hf:Frm (fun _=>False) w w'):RdS w' rb fb wb kb base S k x wv A n c used most:=h.frm hf (fun _ _ e=>e)
theorem RdS.ne (h:RdS w rb fb wb kb base S k x wv A n c used most):rb≠fb∧rb≠wb∧rb≠k.sb∧rb≠k.lb∧fb≠wb∧fb≠k.sb∧fb≠k.lb∧wb≠k.sb∧wb≠k.lb∧(∀ q,wv.ownBlock=some q→rb≠q∧fb≠q∧k.sb≠q∧k.lb≠q):=by
 obtain ⟨cw,hw⟩:=h.win.pts
 refine ⟨h.p.ne_of h.src (by decide),h.p.ne_of hw (by decide),h.p.ne_of h.s.m (by decide),h.p.ne_of h.s.l (by decide),Pts.ne_of h.src hw (by decide),Pts.ne_of h.src h.s.m (by decide),Pts.ne_of h.src h.s.l (by decide),hw.ne_of h.s.m (by decide),hw.ne_of h.s.l (by decide),?_⟩
 intro q hq
 obtain ⟨l,ho⟩:=h.win.own
 rcases ho.form with ⟨e,_⟩ | ⟨g,cap,cur,e,_,hp,_⟩
 ·rw [e] at hq;cases hq
 rw [e] at hq
 have hq':g=q:=by simpa [Value.ownBlock] using hq
 subst hq'
 exact ⟨h.p.ne_of hp (by decide),Pts.ne_of h.src hp (by decide),h.s.m.ne_of hp (by decide),h.s.l.ne_of hp (by decide)⟩
theorem RdS.own (h:RdS w rb fb wb kb base S k x wv A n c used most) (i:Nat) (v:Value) (y:DS) (hy:y.lc=x.lc∧y.lp=x.lp∧y.pb=x.pb∧y.st=x.st∧y.rep=x.rep∧y.pr=x.pr∧y.C=x.C)
 (hc:(#[.pointer (some ⟨wb,0,none⟩),.pointer (some ⟨k.sb,0,none⟩),.pointer (some ⟨fb,0,none⟩),.int .i64 x.total,.int .i64 most,.bool x.begun,.bool x.props]:Array Value).setIfInBounds i v=#[.pointer (some ⟨wb,0,none⟩),.pointer (some ⟨k.sb,0,none⟩),.pointer (some ⟨fb,0,none⟩),.int .i64 y.total,.int .i64 most,.bool y.begun,.bool y.props]) :
 RdS (w.setCell ⟨rb,i,none⟩ v) rb fb wb kb base S k y wv A n c used most∧Frm (· = rb) w (w.setCell ⟨rb,i,none⟩ v):=by
 have hf:Frm (· = rb) w (w.setCell ⟨rb,i,none⟩ v):=Frm.setCell (S:=fun q=>q=rb) (Frm.refl _ w) (p:=⟨rb,i,none⟩) (by rfl) v
 obtain ⟨y1,y2,y3,y4,y5,y6,y7⟩:=hy
 obtain ⟨n1,n2,n3,n4,n5,n6,n7,n8,n9,n10⟩:=h.ne
 have hp:=h.p.set i v
 rw [hc] at hp
 refine ⟨⟨hp,?_,by rw [y1,y2,y3];exact h.ks,h.ok,by rw [y4,y5];exact h.st,?_,Nat.le_trans h.b hf.size,Pts.frm h.src hf (fun e=>n1 e.symm)⟩,hf⟩
 ·rw [y4,y5,y6];exact h.s.frm hf (fun e=>n3 e.symm) (fun e=>n4 e.symm)
 rw [y7];exact h.win.frm hf (fun e=>n2 e.symm) (fun q hq e=>(n10 q hq).1 e.symm)
end
end Go.Proofs.YtablgjhnpphodaaGreat
