import Derived.LoopN
import Derived.Defers
import Derived.Recover
import Derived.WalkSmall
import Derived.Laws.Pointers
import Derived.Deep.LoopGhost
import Derived.Deep.Onto
import Derived.Test.YtffehfpbdcokbaaGreatBu6
import Derived.Test.YtffehfpbdcokbaaGreatBu8
import Derived.Test.YtffehfpbdcokbaaGreatBu12
import Derived.Test.YtffehfpbdcokbaaGreatBu13
set_option linter.unusedVariables false
set_option linter.unusedSimpArgs false
namespace Go.Proofs.YtffehfpbdcokbaaGreat
open Lib (hid)
open Go.RowKit
def SrcAt (w:World) (fb:Nat) (A:Option Addr) (n c used:Nat):Prop:=Pts w fb #[.slice A n c,.int .i64 used,.nilFunc] 61
theorem whole_p (A:Option Addr) (n c:Nat) (w:World):Calls Tryz.prog 15 #[.slice A n c] w fun e w'=>e=.returned (.pointer (some ⟨w.heap.size,0,none⟩))∧SrcAt w' w.heap.size A n c 0∧Below w.heap.size w w':=by
 go_enter Tryz.func15,Tryz.ntmps15
 go_wp2
 go_ret
 exact ⟨rfl,Pts.new _ _ _,(Below.refl _ w).alloc (Nat.le_refl _) _⟩
theorem SrcAt.cells {w:World} {fb:Nat} {A:Option Addr} {n c used:Nat} (h:SrcAt w fb A n c used):w.cell? ⟨fb,0,none⟩=some (.slice A n c)∧w.cell? ⟨fb,1,none⟩=some (.int .i64 used)∧w.cell? ⟨fb,2,none⟩=some .nilFunc∧w.frozen? ⟨fb,0,none⟩=false∧w.frozen? ⟨fb,1,none⟩=false :=
 ⟨by rw [Pts.cell h];rfl,by rw [Pts.cell h];rfl,by rw [Pts.cell h];rfl,Pts.frozen h _,Pts.frozen h _⟩
theorem used_p (fb:Nat) (A:Option Addr) (n c used:Nat) (w:World) (h:SrcAt w fb A n c used):Calls Tryz.prog 18 #[.pointer (some ⟨fb,0,none⟩)] w fun e w'=>e=.returned (.int .i64 used)∧w=w':=by
 obtain ⟨c0,c1,c2,f0,f1⟩:=h.cells
 clear h
 go_enter Tryz.func18,Tryz.ntmps18
 go_wp2
 go_ret
 exact ⟨rfl,rfl⟩
set_option maxHeartbeats 1000000 in
theorem need_p (fb:Nat) (A:Option Addr) (n c used m:Nat) (w:World) (h:SrcAt w fb A n c used):Calls Tryz.prog 94 #[.pointer (some ⟨fb,0,none⟩),.int .i64 m] w fun e w'=>e=.returned (.bool (decide (m≤n)))∧w=w':=by
 obtain ⟨c0,c1,c2,f0,f1⟩:=h.cells
 clear h c1 f0 f1
 have hnf:∀ w,(Go.binOp .neq 59 .nilFunc .nilFunc).run Tryz.prog w=.ok (.bool false) w:=fun w=>by kernel_rfl
 by_cases hm:n<m
 ·have hmi:(n:Int)<(m:Int):=by omega
  have HM:=hid hm
  clear hm
  go_enter Tryz.func94,Tryz.ntmps94
  go_wp2
  refine wp_loop_rounds 1 ?_
  rw [rounds_succ]
  go_wp2
  go_ret
  refine ⟨?_,rfl⟩
  first | rfl | (rw [decide_eq_true (show m≤n by have:=HM.out;omega)];rfl) | (rw [decide_eq_false (show ¬ m≤n by have:=HM.out;omega)];rfl)
 have hmi:(m:Int)≤(n:Int):=by omega
 have HM:=hid hm
 clear hm
 go_enter Tryz.func94,Tryz.ntmps94
 go_wp2
 refine wp_loop_rounds 1 ?_
 rw [rounds_succ]
 go_wp2
 go_ret
 refine ⟨?_,rfl⟩
 first | rfl | (rw [decide_eq_true (show m≤n by have:=HM.out;omega)];rfl) | (rw [decide_eq_false (show ¬ m≤n by have:=HM.out;omega)];rfl)
theorem slice_top (A:Option Addr) (n c m:Nat) (hm:m≤n) (hn:n≤c) (w:World) :
 (Instr.sliceAt 22 (.slice A n c) none (some (.int .i64 (m:Int))) (some (.int .i64 (m:Int)))).run Tryz.prog w=.ok (.slice A m m) w:=by
 simp [go_sem]
 omega
def takeA (A:Option Addr) (c m:Nat):Option Addr:=if c=m then A else A.map (·.add m)
set_option maxHeartbeats 1000000 in
theorem peek_p (fb:Nat) (A:Option Addr) (n c used m:Nat) (w:World) (h:SrcAt w fb A n c used) (hc:n≤c) :
 Calls Tryz.prog 51 #[.pointer (some ⟨fb,0,none⟩),.int .i64 m] w fun e w'=>e=.returned (if m≤n then .tuple #[.slice A m m,.bool true] else .tuple #[.slice none 0 0,.bool false])∧w=w':=by
 have HN:=hid (need_p fb A n c used m w h)
 obtain ⟨c0,c1,c2,f0,f1⟩:=h.cells
 clear h c1 c2 f0 f1
 by_cases hm:m≤n
 ·rw [if_pos hm]
  rw [decide_eq_true hm] at HN
  have hsl:=fun w=>slice_top A n c m hm hc w
  clear hm hc
  go_enter Tryz.func51,Tryz.ntmps51
  go_wp2_with fail
  refine HN.out.mono ?_;rintro e w1 ⟨rfl,hw⟩
  subst hw
  go_wp2
  go_ret2
  exact ⟨rfl,rfl⟩
 rw [if_neg hm]
 rw [decide_eq_false hm] at HN
 clear hm hc
 go_enter Tryz.func51,Tryz.ntmps51
 go_wp2_with fail
 refine HN.out.mono ?_;rintro e w1 ⟨rfl,hw⟩
 subst hw
 go_wp2
 go_ret2
 exact ⟨rfl,rfl⟩
set_option maxHeartbeats 1000000 in
theorem take_p (fb:Nat) (A:Option Addr) (n c used m:Nat) (w:World) (h:SrcAt w fb A n c used) (hc:n≤c) (hm:m≤n) (hu:used+m≤9223372036854775807) :
 Calls Tryz.prog 53 #[.pointer (some ⟨fb,0,none⟩),.int .i64 m] w fun e w'=>e=.returned (.tuple #[.slice A m m,.bool true])∧SrcAt w' fb (takeA A c m) (n-m) (c-m) (used+m)∧Frm (· = fb) w w':=by
 have HN:=hid (need_p fb A n c used m w h)
 obtain ⟨c0,c1,c2,f0,f1⟩:=h.cells
 rw [decide_eq_true hm] at HN
 have hsl:=fun w=>slice_top A n c m hm hc w
 have hsf:=fun w=>slice_from A n c m hm hc w
 obtain ⟨A',hA'⟩:∃ A',(if c=m then A else A.map (·.add m))=A':=⟨_,rfl⟩
 obtain ⟨n',hn'⟩:∃ n',n-m=n':=⟨_,rfl⟩
 obtain ⟨c',hc'⟩:∃ c',c-m=c':=⟨_,rfl⟩
 obtain ⟨u',hu'⟩:∃ u',used+m=u':=⟨_,rfl⟩
 have hui:(used:Int)+(m:Int)=(u':Int):=by omega
 have huw:IntKind.i64.wrap (u':Int)=(u':Int):=Go.IntWalk.i64_in _ (by omega)
 rw [hA',hn',hc'] at hsf
 have HP:Hid (SrcAt ((w.setCell ⟨fb,0,none⟩ (.slice A' n' c')).setCell ⟨fb,1,none⟩ (.int .i64 u')) fb A' n' c' u'∧Frm (· = fb) w ((w.setCell ⟨fb,0,none⟩ (.slice A' n' c')).setCell ⟨fb,1,none⟩ (.int .i64 u'))) :=
  hid ⟨(Pts.set (Pts.set h 0 (.slice A' n' c')) 1 (.int .i64 u')),((Frm.refl (fun x=>x=fb) w).setCell (p:=⟨fb,0,none⟩) (by rfl) (.slice A' n' c')).setCell (p:=⟨fb,1,none⟩) (by rfl) (.int .i64 u')⟩
 unfold takeA
 rw [hA',hn',hc',hu']
 clear h hA' hn' hc' hu' hm hc hu c2
 go_enter Tryz.func53,Tryz.ntmps53
 go_wp2_with fail
 refine HN.out.mono ?_;rintro e w1 ⟨rfl,hw⟩
 subst hw
 clear HN
 go_wp2
 go_ret2
 exact ⟨rfl,HP.out.1,HP.out.2⟩
set_option maxHeartbeats 1000000 in
theorem take_no (fb:Nat) (A:Option Addr) (n c used m:Nat) (w:World) (h:SrcAt w fb A n c used) (hm:n<m) :
 Calls Tryz.prog 53 #[.pointer (some ⟨fb,0,none⟩),.int .i64 m] w fun e w'=>e=.returned (.tuple #[.slice none 0 0,.bool false])∧w=w':=by
 have HN:=hid (need_p fb A n c used m w h)
 rw [decide_eq_false (by omega)] at HN
 clear h hm
 go_enter Tryz.func53,Tryz.ntmps53
 go_wp2_with fail
 refine HN.out.mono ?_;rintro e w1 ⟨rfl,hw⟩
 subst hw
 go_wp2
 go_ret2
 exact ⟨rfl,rfl⟩
open Go.RowKit
set_option maxRecDepth 8000 in
theorem mhead_p (c:Nat) (w:World) (hc:c<256):Calls Tryz.prog 80 #[.int .u8 c] w fun e w'=>e=.returned (.int .i64 (headN c:Nat))∧w=w':=by
 have h:c=0∨(c≠0∧c<3)∨(3≤c∧c<128)∨(128≤c∧c<192)∨192≤c:=by omega
 rcases h with rfl | ⟨h1,h2⟩ | ⟨h1,h2⟩ | ⟨h1,h2⟩ | h1
 ·go_enter Tryz.func80,Tryz.ntmps80
  go_wp2
  go_ret
  exact ⟨rfl,rfl⟩
 ·have e:headN c=3:=by unfold headN;rw [if_neg h1,if_pos h2]
  rw [e]
  have q0:((c:Int)==0)=false:=beq_eq_false_iff_ne.2 (by omega)
  have q1:(c:Int)<3:=by omega
  clear h1 h2 e hc
  go_enter Tryz.func80,Tryz.ntmps80
  go_wp2
  go_ret
  exact ⟨rfl,rfl⟩
 ·have e:headN c=0:=by unfold headN;rw [if_neg (by omega),if_neg (by omega),if_pos h2]
  rw [e]
  have q0:((c:Int)==0)=false:=beq_eq_false_iff_ne.2 (by omega)
  have q1:(3:Int)≤(c:Int):=by omega
  have q2:(c:Int)<128:=by omega
  clear h1 h2 e hc
  go_enter Tryz.func80,Tryz.ntmps80
  go_wp2
  go_ret
  exact ⟨rfl,rfl⟩
 ·have e:headN c=5:=by unfold headN;rw [if_neg (by omega),if_neg (by omega),if_neg (by omega),if_pos h2]
  rw [e]
  have q0:((c:Int)==0)=false:=beq_eq_false_iff_ne.2 (by omega)
  have q1:(128:Int)≤(c:Int):=by omega
  have q2:(c:Int)<192:=by omega
  clear h1 h2 e hc
  go_enter Tryz.func80,Tryz.ntmps80
  go_wp2
  go_ret
  exact ⟨rfl,rfl⟩
 have e:headN c=6:=by unfold headN;rw [if_neg (by omega),if_neg (by omega),if_neg (by omega),if_neg (by omega)]
 rw [e]
 have q0:((c:Int)==0)=false:=beq_eq_false_iff_ne.2 (by omega)
 have q1:(192:Int)≤(c:Int):=by omega
 clear h1 e hc
 go_enter Tryz.func80,Tryz.ntmps80
 go_wp2
 go_ret
 exact ⟨rfl,rfl⟩
open Go.RowKit Rng Lz Win
def wrongP (x:Int):List PanicEntry:=[{ v:=.iface 241 (.agg #[.int .i64 x]),recovered:=false }]
set_option maxRecDepth 100000 in
theorem assert_lzwrong (V:Value) (w:World):(Instr.typeAssert (.iface 241 V) 20 241 true).run Tryz.prog w=.ok (.tuple #[V,.bool true]) w:=rfl
set_option maxRecDepth 100000 in
theorem chunk_caught (b c:Nat) (x x0:Int) (tv:Value) (older:List PanicEntry) (w:World) (hb:Pts w b #[tv] 22) (hc:Pts w c #[.int .i64 x0] 25) :
 CallsD Tryz.prog 141 #[.pointer (some ⟨b,0,none⟩),.pointer (some ⟨c,0,none⟩)] (.panicking ({ v:=.iface 241 (.agg #[.int .i64 x]),recovered:=false }::older)) w fun e u' w' =>
  e=.returned (.tuple #[])∧u'=.panicking ({ v:=.iface 241 (.agg #[.int .i64 x]),recovered:=true }::older)∧Pts w' b #[.slice none 0 0] 22∧Pts w' c #[.int .i64 11] 25∧Frm (fun q=>q=b∨q=c) w w':=by
 refine callsD_of_wpS Tryz.func141 rfl fun c₀ cs hu=>?_
 apply wpS_seq
 apply wpS_region
 simp [wpOpsS,go_sem,recoverD,hu,Tryz.ntmps141,Exit.thenS]
 refine wpS_of_wp ?_
 show Code.wp _ _ _ { tmps:=#[.pointer (some ⟨b,0,none⟩),.pointer (some ⟨c,0,none⟩),undef,undef,undef,.iface 241 (.agg #[.int .i64 x]),undef,undef,undef,undef,undef],defers:=[] } w
 have hta:=assert_lzwrong (.agg #[.int .i64 x])
 have hne:c≠b:=hc.ne_of hb (by decide)
 have h1:=hb.alloc (.cells #[.int .i64 x] 241)
 have h2:=hc.alloc (.cells #[.int .i64 x] 241)
 have z1:=h1.frozen 0
 have c1:=h1.cell 0
 have h3:=h2.other (p:=⟨b,0,none⟩) hne (.slice none 0 0)
 have z3:=h3.frozen 0
 have c3:=h3.cell 0
 have hr1:=(h1.set 0 (.slice none 0 0)).other (p:=⟨c,0,none⟩) hne.symm (.int .i64 11)
 have hr2:=h3.set 0 (.int .i64 11)
 have hf:Frm (fun q=>q=b∨q=c) w (((w.alloc (.cells #[.int .i64 x] 241)).setCell ⟨b,0,none⟩ (.slice none 0 0)).setCell ⟨c,0,none⟩ (.int .i64 11)):=(((Frm.refl _ w).alloc _).setCell (.inl rfl) _).setCell (.inr rfl) _
 have HR1:=hid hr1
 have HR2:=hid hr2
 have HF:=hid hf
 clear h1 h2 h3 hr1 hr2 hf hb hc
 go_wp2
 refine ⟨rfl,_,rfl,_,results_none rfl _ _ _,rfl,rfl,HR1.out,HR2.out,HF.out⟩
set_option maxRecDepth 100000 in
theorem chunk_idle (b c:Nat) (w:World):CallsD Tryz.prog 141 #[.pointer (some ⟨b,0,none⟩),.pointer (some ⟨c,0,none⟩)] .returning w fun e u' w'=>e=.returned (.tuple #[])∧u'=.returning∧w'=w:=by
 refine callsD_of_wpS Tryz.func141 rfl fun c₀ cs hu=>?_
 apply wpS_seq
 apply wpS_region
 simp [wpOpsS,go_sem,recoverD,hu,Tryz.ntmps141,Exit.thenS]
 refine wpS_of_wp ?_
 show Code.wp _ _ _ { tmps:=#[.pointer (some ⟨b,0,none⟩),.pointer (some ⟨c,0,none⟩),undef,undef,undef,.nilIface,undef,undef,undef,undef,undef],defers:=[] } w
 go_wp2
 refine ⟨rfl,.returning,by cases c₀;simp at hu;subst hu;rfl,_,results_none rfl _ _ _,rfl,rfl,rfl⟩
open Go.RowKit Rng Lz Win
def StepEnd (Z:Nat→Prop) (w0:World) (k:LK) (g:RB) (total:Int) (good:Prop) (st':Nat) (rep':Nat→Nat) (s':CP Dec) (C' told':List UInt8) (e:Ending) (w':World):Prop :=
 (good∧e=.returned (.tuple #[])∧∃ wv' tv',RdAt Z w0 w' k g total st' rep' s' C' told' wv' tv') ∨
 (¬ good∧(∃ x,e=.panicked (wrongP x))∧∃ st rep s C told wv tv,RdAt Z w0 w' k g total st rep s C told wv tv)
set_option maxRecDepth 100000 in
set_option maxHeartbeats 2000000 in
theorem step_op (Z:Nat→Prop) (w0 w:World) (k:LK) (g:RB) (total st room:Nat) (rep:Nat→Nat) (s sa:CP Dec) (C told:List UInt8) (wv tv:Value) (h:RdAt Z w0 w k g (total:Int) st rep s C told wv tv)
 (hk:k.Ok) (ht:total<4611686018427387904) (hst:st<12) (hS:g.S≤16777216) (hlen:told.length≤100000000) (hroom:room≤2097152) (p:Nat) (hp:total % 2 ^ k.pb=p) (ha:bitAt outC (8+st*16+p) 0 s=(1,sa))
 (sz st':Nat) (rep':Nat→Nat) (s':CP Dec) (ho:opOf outC st p rep sa=(sz,st',rep',s')) :
 Calls Tryz.prog 142 #[.pointer (some ⟨g.xb,0,none⟩),.int .i64 room] w fun e w'=>StepEnd Z w0 k g (total:Int) (sz≤room∧rep' 0+1≤C.length) st' rep' s' (lastN g.S (C++cyc C (rep' 0+1) sz)) (told++cyc C (rep' 0+1) sz) e w':=by
 have hp16:p<16:=by
  have h1:2 ^ k.pb≤2 ^ 4:=Nat.pow_le_pow_right (by omega) hk.b
  have h2:total % 2 ^ k.pb<2 ^ k.pb:=Nat.mod_lt _ (Nat.lt_of_lt_of_le (by omega) (Nat.one_le_two_pow))
  omega
 have HA:=hid ha
 have HH:=hid h
 have HPL:=hid (place_any 169 k st total rep s w h.lz hk ht)
 rw [hp] at HPL
 obtain ⟨d0,d1,d2,dt,-,-⟩:=h.cells
 have d3:=h.st3
 have HD:=hid h.drew
 have P0:=hid (plm k (i:=8+st*16+p) (by omega) (by omega))
 have P1:=hid (plm k (i:=200+st) (by omega) (by omega))
 have hsti:(st:Int)<12:=by omega
 have hpi:(p:Int)<16:=by omega
 unfold opOf at ho
 obtain ⟨⟨b,sb⟩,hb⟩:∃ x,bitAt outC (200+st) 0 sa=x:=⟨_,rfl⟩
 rw [hb] at ho
 dsimp only at ho
 have HB:=hid hb
 have HO:=hid ho
 obtain ⟨r1,hr1⟩:∃ r1,rep' 0+1=r1:=⟨_,rfl⟩
 rw [hr1]
 obtain ⟨Y,hY⟩:∃ Y,cyc C r1 sz=Y:=⟨_,rfl⟩
 have hYl:Y.length=sz:=by rw [← hY];exact cyc_length _ _ _
 rw [hY]
 have HE:=hid hr1
 have HY:=hid hY
 have HYL:=hid hYl
 clear h ha hk hp hb ho hr1 hY hYl
 go_enter Tryz.func142,Tryz.ntmps142
 go_wp2_with fail
 refine HPL.out.mono ?_;rintro e w1 ⟨rfl,rfl⟩
 go_upto_region 2 with fail
 go_cut [36] from 9 (fun v wx=>v=.bool false∧RdAt Z w0 wx k g (total:Int) st rep sa C told wv tv)
 case first =>
  go_region_with (first
   | (go_at_call 155;refine (lz_bit (obit_any g.db g.rb) HD.out.lz (8+st*16+p) k.sb (8+st*16+p) 0 _ trivial P0.out.1 P0.out.2).mono ?_;rintro e w2 ⟨rfl,h2,f2⟩;rw [HA.out] at h2 ⊢))
  all_goals
   have H2:=hid (HD.out.lzStep h2 f2)
   clear h2 f2
   go_wp2
   go_meet
   case rel=>exact ⟨by simp,H2.out⟩
 case rest =>
 obtain ⟨rfl,h2⟩:=hcut
 have H2:=hid h2
 clear d0 d1 d2 d3 dt HD HH
 obtain ⟨d0,d1,d2,-,-,-⟩:=h2.cells
 have d3:=h2.st3
 have HD:=hid h2.drew
 clear h2
 go_upto_region 5 with fail
 go_cut [52] from 9 (fun v wx=>∃ β:Bool,v=.bool β∧(β=true↔b=1)∧RdAt Z w0 wx k g (total:Int) st rep sb C told wv tv)
 case first =>
  go_region_with (first
   | (go_at_call 155;refine (lz_bit (obit_any g.db g.rb) HD.out.lz (200+st) k.sb (200+st) 0 _ trivial P1.out.1 P1.out.2).mono ?_;rintro e w2 ⟨rfl,h2,f2⟩;rw [HB.out] at h2 ⊢))
  all_goals
   have H3:=hid (HD.out.lzStep h2 f2)
   clear h2 f2
   go_wp2
   go_meet
   case rel=>exact ⟨_,rfl,by simp;omega,H3.out⟩
 case rest =>
 obtain ⟨β,rfl,hβ,h3⟩:=hcut
 have H3:=hid h3
 clear d0 d1 d2 d3 HD H2
 obtain ⟨d0,d1,d2,-,-,-⟩:=h3.cells
 have d3:=h3.st3
 have HD:=hid h3.drew
 clear h3
 go_upto_if 52 with fail
 go_cut [6] from 9 (fun v wx=>v=.int .i64 sz∧RdAt Z w0 wx k g (total:Int) st' rep' s' C told wv tv)
 case first =>
  by_cases hb1:b=1
  ·obtain rfl:β=true:=hβ.2 hb1
   have hO:=HO.out
   rw [if_pos hb1] at hO
   have HO2:=hid hO
   clear hO hβ hb1 HO
   go_wp2_with fail
   refine (repeated_p Z w0 _ k g total st p rep sb C told wv tv H3.out hst hp16).mono ?_;rintro e w4 ⟨rfl,h4⟩
   rw [HO2.out] at h4 ⊢
   have H4:=hid h4
   clear h4
   go_wp2
   go_meet
   case rel=>exact ⟨rfl,H4.out⟩
  obtain rfl:β=false:=by cases β;rfl;exact absurd (hβ.1 rfl) hb1
  have hO:=HO.out
  rw [if_neg hb1] at hO
  obtain ⟨⟨l,sl⟩,hl⟩:∃ x,lenAt outC 840 2 p sb=x:=⟨_,rfl⟩
  have hll:=lenAt_lt outC 840 2 p sb
  rw [hl] at hO hll
  dsimp only at hO hll
  obtain ⟨⟨dd,sd⟩,hd⟩:∃ x,distAt outC 0 l sl=x:=⟨_,rfl⟩
  rw [hd] at hO
  dsimp only at hO
  simp only [Prod.mk.injEq] at hO
  obtain ⟨rfl,rfl,rfl,rfl⟩:=hO
  have HLL:=hid hl
  have HDD:=hid hd
  clear hβ hb1 HO hl hd
  go_wp2_with fail
  refine QTail.wp_region_qtail_lit 8 (by kernel_rfl) (by kernel_rfl) ?_
  simp only [List.take_succ_cons,List.take_zero,List.drop_succ_cons,List.drop_zero]
  repeat (go_big_quiet_step (fail))
  refine wpQuiet_nil ?_
  rintro w' ⟨nr,rfl⟩
  have h4:=H3.out.drewN nr
  obtain ⟨w5,hrun,h5,f5⟩:=rep_copy (DC.keep g.db g.rb) h4.lz 3 3 4 3 (by omega)
  have H5:=hid (h4.lzStep h5 f5)
  clear h4 h5 f5 d0 d1 d2 d3 HD
  obtain ⟨d0,d1,d2,-,-,-⟩:=H5.out.cells
  have HD:=hid H5.out.drew
  go_upto_region 8 with fail
  go_cut [6] from 9 (fun v wx=>v=.int .i64 l∧RdAt Z w0 wx k g (total:Int) st (shiftN rep 3) sl C told wv tv)
  case first =>
   go_region_with (first
    | (go_at_call 110;refine (lens_p g.db g.rb 169 k st (shiftN rep 3) sb 840 p _ HD.out.lz (.inl rfl) hp16).mono ?_;rintro e w6 ⟨rfl,h6,f6⟩;rw [HLL.out] at h6 ⊢))
   all_goals
    have H6:=hid (HD.out.lzStep h6 f6)
    clear h6 f6
    go_wp2
    go_meet
    case rel=>exact ⟨rfl,H6.out⟩
  case rest =>
  obtain ⟨rfl,h6⟩:=hcut
  have H6:=hid h6
  clear d0 d1 d2 HD H5 h6
  go_wp2_with fail
  refine (behind_any (DC.keep g.db g.rb) 169 k st 1 (shiftN rep 3) sl _ H6.out.lz hst (by omega)).mono ?_;rintro e w7 ⟨rfl,h7,f7⟩
  have H7:=hid (H6.out.lzStep h7 f7)
  clear h7 f7
  obtain ⟨d0,d1,d2,-,-,-⟩:=H7.out.cells
  have HD:=hid H7.out.drew
  go_wp2_with fail
  go_region_with (first
   | (go_at_call 111;refine (dist_p g.db g.rb 169 k (behS st 1) (shiftN rep 3) sl l _ HD.out.lz hll.1 hll.2).mono ?_;rintro e w8 ⟨rfl,h8,f8⟩;rw [HDD.out] at h8 ⊢;have z8:=(h8.hdr (i:=4) (by omega)).1;have y8:=(h8.hdr (i:=4) (by omega)).2;simp only [mcell,Nat.reduceEqDiff,if_false,Nat.reduceLT,if_true,Nat.reduceSub] at z8))
  all_goals
   have h9:=h8.putRep 0 dd (by omega) (DC.keep g.db g.rb)
   have H9:=hid ((HD.out.lzStep h8 f8).lzStep h9.1 h9.2)
   clear h8 f8 h9
   go_wp2
   go_meet
   case rel=>exact ⟨rfl,H9.out⟩
 case rest =>
 obtain ⟨rfl,h4⟩:=hcut
 have H4:=hid h4
 clear d0 d1 d2 d3 HD H3 hβ HO
 obtain ⟨d0,d1,d2,-,-,d5⟩:=h4.cells
 have HD:=hid h4.drew
 have hcl:=h4.win.len
 obtain ⟨r0,hr0⟩:∃ r,rep' 0=r:=⟨_,rfl⟩
 have hr1e:=HE.out
 rw [hr0] at d5 hr1e
 clear h4 hr0
 by_cases h1:sz≤room
 case neg =>
  have hq1:(room:Int)<(sz:Int):=by omega
  have hng:¬ (sz≤room∧r1≤C.length):=fun h=>h1 h.1
  clear h1 hr1e hcl
  have HNG:=hid hng
  clear hng
  go_wp2
  exact ⟨rfl,Or.inr ⟨HNG.out,⟨_,rfl⟩,_,_,_,_,_,_,_,H4.out⟩⟩
 have h1i:(sz:Int)≤(room:Int):=by omega
 have HQ1:Hid (decide (room<sz)=false):=hid (decide_eq_false (by omega))
 by_cases h2:r0<16777216
 case neg =>
  have hq2:decide ((16777216:Int)≤(r0:Int))=true:=decide_eq_true (by omega)
  have hng:¬ (sz≤room∧r1≤C.length):=fun h=>h2 (by omega)
  have HNG:=hid hng
  have HQ2:=hid hq2
  clear h1 hr1e hcl h2 hng hq2
  go_upto_if 99 with fail
  simp only [HQ2.out,HQ1.out,Bool.or_true,Bool.false_or]
  go_wp2
  exact ⟨rfl,Or.inr ⟨HNG.out,⟨_,rfl⟩,_,_,_,_,_,_,_,H4.out⟩⟩
 have hr1:(r0:Int)+1=(r1:Int):=by omega
 have hr1w:IntKind.i64.wrap (r1:Int)=(r1:Int):=Go.IntWalk.i64_in _ (by omega)
 have hr0w:IntKind.i64.wrap (r0:Int)=(r0:Int):=Go.IntWalk.i64_in _ (by omega)
 have hq2:decide ((16777216:Int)≤(r0:Int))=false:=decide_eq_false (by omega)
 have HQ2:=hid hq2
 have hr1p:1≤r1:=by omega
 clear hr1e hcl hq2
 go_upto_if 99 with fail
 simp only [HQ2.out,HQ1.out,Bool.or_false]
 by_cases h3:r1≤C.length
 case neg =>
  have hng:¬ (sz≤room∧r1≤C.length):=fun h=>h3 h.2
  have HNG:=hid hng
  have H3N:=hid h3
  clear hng h3 h2 h1
  go_upto_region 13 with fail
  go_cut [7,8] from 9 (fun v ev wx=>v=.slice none 0 0∧ev=.int .i64 11∧RdAt Z w0 wx k g (total:Int) st' rep' s' C told wv tv)
  case first =>
   go_region_with (first
    | (go_at_call 158;refine (copy_c g.bw g.wb g.kb g.S r1 sz r1 sz C wv _ HD.out.win HD.out.bs.1 hS (by omega) rfl rfl hr1p).mono ?_;rintro e w2 ⟨-,hno⟩;obtain ⟨rfl,rfl⟩:=hno H3N.out;clear hno))
   all_goals
    go_wp2
    go_meet
    case rel=>exact ⟨rfl,rfl,HD.out⟩
  case rest =>
  obtain ⟨rfl,rfl,h5⟩:=hcut
  have H5:=hid h5
  clear h5
  go_wp2
  exact ⟨rfl,Or.inr ⟨HNG.out,⟨_,rfl⟩,_,_,_,_,_,_,_,H5.out⟩⟩
 have HGO:Hid (sz≤room∧r1≤C.length):=hid ⟨h1,h3⟩
 have HLE:=hid h3
 clear h3 h2 h1
 go_upto_region 13 with fail
 go_cut [7,8] from 9 (fun v ev wx=>∃ (Ao:Option Addr) (co:Nat) (wv':Value),v=.slice Ao sz co∧ev=.int .i64 0∧RdAt Z w0 wx k g (total:Int) st' rep' s' (lastN g.S (C++Y)) told wv' tv∧BRow wx wx.heap.size Ao Y)
 case first =>
  go_region_with (first
   | (go_at_call 158;refine (copy_c g.bw g.wb g.kb g.S r1 sz r1 sz C wv _ HD.out.win HD.out.bs.1 hS (by omega) rfl rfl hr1p).mono ?_;rintro e w2 ⟨hok,-⟩;obtain ⟨ov,wv2,rfl,hw2,ho2,f2,m2,-⟩:=hok HLE.out;rw [HY.out] at hw2 ho2;obtain ⟨Ao,co,hov,-,-,hro⟩:=ho2.slice;rw [HYL.out] at hov;subst hov;have H5:=hid (HD.out.winStep hw2 f2 m2);have RO:=hid hro;clear hok hw2 ho2 f2 m2 hro))
  all_goals
   go_wp2
   go_meet
   case rel=>exact ⟨Ao,co,wv2,rfl,rfl,H5.out,RO.out⟩
 case rest =>
 obtain ⟨Ao,co,wv2,rfl,rfl,h5,hro⟩:=hcut
 have H5:=hid h5
 have RO:=hid hro
 clear d0 d1 d2 d5 HD H4 hro
 obtain ⟨d0,d1,d2,-,d4,-⟩:=h5.cells
 obtain ⟨A5,c5,htv,hc5,hm5,_⟩:=h5.o.slice
 subst htv
 clear h5
 have hxz:=H5.out.p.frozen 4
 have hroomi:=hroom
 have hyl:=HYL.out.symm
 have hszr:=HGO.out.1
 clear d0 d1 d2
 go_wp2_with (at_builtin;refine wpList_append_bytes _ rfl (.tmp 127) (.tmp 128) 22 rfl 5 g.bt Tryz.underlying22 Tryz.info_u8 (.slice A5 told.length c5) told rfl ?own5 Ao sz co wc.heap.size Y rfl hyl ?row5 ?len5 ?base5 ?next5)
 case own5=>exact H5.out.o
 case row5=>exact RO.out
 case len5=>omega
 case base5=>exact H5.out.bs.2
 case next5 =>
 intro v5 w5 hown5 hfrm5 hnew5
 obtain ⟨A6,c6,rfl,-,-,-⟩:=hown5.slice
 have h6:=H5.out.toldStep hown5 hfrm5 hnew5
 have hp5:=H5.out.p.frm hfrm5 (own_ne H5.out.o H5.out.p (by decide))
 have e4:w5.cell? ⟨g.xb,4,none⟩=some (.slice A5 told.length c5):=by rw [hp5.cell];rfl
 have z4:=hp5.frozen 4
 obtain ⟨L6,hL6⟩:∃ L,(told++Y).length=L:=⟨_,rfl⟩
 rw [hL6] at h6 ⊢
 have H6:=hid h6
 clear hown5 hfrm5 hnew5 hp5 h6 hL6 d4 hroomi hszr hyl
 go_wp2
 go_end0
 exact Or.inl ⟨HGO.out,rfl,wv2,_,H6.out⟩
open Go.RowKit Rng Lz Win
theorem two_new (w:World) (v x:Value) (T U:TypeId):Pts ((w.alloc (.cells #[v] T)).alloc (.cells #[x] U)) w.heap.size #[v] T∧Pts ((w.alloc (.cells #[v] T)).alloc (.cells #[x] U)) (w.heap.size+1) #[x] U∧Below w.heap.size w ((w.alloc (.cells #[v] T)).alloc (.cells #[x] U))∧((w.alloc (.cells #[v] T)).alloc (.cells #[x] U)).heap.size=w.heap.size+2:=by
 have hsz:(w.alloc (.cells #[v] T)).heap.size=w.heap.size+1:=by show (w.heap.push _).size=_;rw [Array.size_push]
 have P1:Pts ((w.alloc (.cells #[v] T)).alloc (.cells #[x] U)) (w.alloc (.cells #[v] T)).heap.size #[x] U:=Pts.new _ _ _
 rw [hsz] at P1
 have hs2:((w.alloc (.cells #[v] T)).alloc (.cells #[x] U)).heap.size=(w.alloc (.cells #[v] T)).heap.size+1:=by show ((w.alloc (.cells #[v] T)).heap.push _).size=_;rw [Array.size_push]
 exact ⟨(Pts.new w #[v] T).alloc _,P1,((Below.refl _ w).alloc (Nat.le_refl _) _).alloc (by rw [hsz];omega) _,by rw [hs2,hsz]⟩
set_option maxRecDepth 100000 in
set_option maxHeartbeats 1000000 in
theorem chunk_bad (w:World) (sp wp:Addr) (total n:Int) (A:Option Addr) (bs:List UInt8) (l c:Nat) (h1:1≤n) (h2:n≤2097152) (h3:0≤total) (hn:l=bs.length) (hr:BRow w w.heap.size A bs) (hc:bs.length≤c) (hcm:c≤maxLen) (h:newErr bs≠0) :
 Calls Tryz.prog 120 #[.pointer (some sp),.pointer (some wp),.int .i64 total,.slice A l c,.int .i64 n] w fun e w'=>e=.returned (.tuple #[.slice none 0 0,.int .i64 11])∧Below w.heap.size w w':=by
 subst hn
 have P:=hid (two_new w (.slice none 0 0) (.int .i64 11) 22 25)
 obtain ⟨p0,p1,hb,hs⟩:=two_new w (.slice none 0 0) (.int .i64 0) 22 25
 have HR:=hid ((hr.below hb).more (Nat.le_of_lt_succ (by omega):w.heap.size≤((w.alloc (.cells #[.slice none 0 0] 22)).alloc (.cells #[.int .i64 0] 25)).heap.size))
 have HB:=hid (dnew_bad_p A bs bs.length c _ _ rfl HR.out hc hcm h)
 obtain ⟨x,hx⟩:∃ x,newErr bs=x:=⟨_,rfl⟩
 rw [hx] at HB h
 clear hr hb hs hx p0 p1
 go_enter_defers Tryz.func120,Tryz.ntmps120
 go_wp2
 go_step3
 go_wp2_with fail
 refine Calls.mono HB.out ?_;rintro e w1 ⟨rfl,rfl⟩
 go_wp2
 simp only [Exit.noGoto_ret]
 go_wp2
 have c0:=P.out.1.cell 0
 have c1:=P.out.2.1.cell 0
 simp [bodyPostD,Leaves,settle,results,Tryz.results120,go_sem,c0,c1]
 exact P.out.2.2.1
open Go.RowKit Rng Lz Win
structure StAt (w:World) (k:LK) (st:Nat) (rep:Nat→Nat) (pr:Pr):Prop where
 m:Pts w k.sb (mcells k st rep pr) 169
 l:Pts w k.lb (lcells k pr) 117
 fit:∀ i,pr i<65536
 ne:k.sb≠k.lb
section
variable {Z : Nat → Prop} {w0 w w' : World} {k : LK} {g : RB} {total : Int} {st : Nat} {rep : Nat → Nat} {s : CP Dec} {C told : List UInt8} {wv tv : Value}
theorem StAt.frm {pr:Pr} {N:Nat→Prop} (h:StAt w k st rep pr) (hf:Frm N w w') (h1:¬ N k.sb) (h2:¬ N k.lb):StAt w' k st rep pr:=⟨h.m.frm hf h1,h.l.frm hf h2,h.fit,h.ne⟩
theorem RdAt.rested (h:RdAt Z w0 w k g total st rep s C told wv tv):StAt w k st rep s.pr:=⟨h.lz.m,h.lz.l,h.lz.fit,h.lz.ne.2.2⟩
theorem RdAt.setTotal (h:RdAt Z w0 w k g total st rep s C told wv tv) (t:Int):RdAt Z w0 (w.setCell ⟨g.xb,3,none⟩ (.int .i64 t)) k g t st rep s C told wv tv:=by
 obtain ⟨cd,hd⟩:=h.dpts
 obtain ⟨cw,hw⟩:=h.win.pts
 obtain ⟨lw,hwo⟩:=h.win.own
 have hf:Frm (fun x=>x=g.xb) w (w.setCell ⟨g.xb,3,none⟩ (.int .i64 t)):=Frm.setCell (S:=fun x=>x=g.xb) (Frm.refl _ w) (p:=⟨g.xb,3,none⟩) (by rfl) _
 refine ⟨h.lz.frm (DC.keep _ _) hf ?_,h.win.frm hf ?_ ?_,?_,h.o.frm hf ?_,h.ne,⟨h.nr.1,h.nr.2.1,h.nr.2.2.1,h.nr.2.2.2.1,Nat.lt_of_lt_of_le h.nr.2.2.2.2 hf.size⟩,⟨Nat.le_trans h.bs.1 hf.size,Nat.le_trans h.bs.2 hf.size⟩,h.z,h.f.transW hf ?_⟩
 ·rintro q ((e | e) | e | e) e2
  ·exact hd.ne_of h.p (by decide) (e.symm.trans e2)
  ·exact h.nr.2.1 (e.symm.trans e2)
  ·exact h.lz.m.ne_of h.p (by decide) (e.symm.trans e2)
  exact h.lz.l.ne_of h.p (by decide) (e.symm.trans e2)
 ·exact hw.ne_of h.p (by decide)
 ·intro q hq e
  subst e
  exact own_ne hwo h.p (by decide) hq
 ·exact h.p.set 3 (.int .i64 t)
 ·intro q hq e
  subst e
  exact own_ne h.o h.p (by decide) hq
 rintro q e hq
 exact h.z q (.inr (.inr (.inr (.inr (.inr (.inl e)))))) hq
end
def StepRes (Z:Nat→Prop) (w0:World) (k:LK) (g:RB) (total:Int) (told:List UInt8) (R:Option (List UInt8×RS)) (e:Ending) (w':World):Prop :=
 (∃ b y wv' tv',R=some (b,y)∧e=.returned (.tuple #[])∧RdAt Z w0 w' k g total y.st y.rep y.s y.C (told++b) wv' tv') ∨
 (R=none∧(∃ x,e=.panicked (wrongP x))∧∃ st rep s C told wv tv,RdAt Z w0 w' k g total st rep s C told wv tv)
set_option maxRecDepth 100000 in
theorem step_any (Z:Nat→Prop) (w0 w:World) (k:LK) (g:RB) (total room:Nat) (x:RS) (told:List UInt8) (wv tv:Value) (h:RdAt Z w0 w k g (total:Int) x.st x.rep x.s x.C told wv tv)
 (hk:k.Ok) (ht:total<4611686018427387904) (hx:x.Ok) (hS:g.S≤16777216) (hlen:told.length≤100000000) (hroom:room≤2097152) :
 Calls Tryz.prog 142 #[.pointer (some ⟨g.xb,0,none⟩),.int .i64 room] w fun e w'=>StepRes Z w0 k g (total:Int) told (stepOf k g.S total room x) e w':=by
 obtain ⟨⟨a,sa⟩,ha⟩:∃ y,bitAt outC (8+x.st*16+total % 2 ^ k.pb) 0 x.s=y:=⟨_,rfl⟩
 have hs:stepOf k g.S total room x=(if a=0 then some ([UInt8.ofNat (litOf outC k x.st total x.rep x.C sa).1],⟨behS x.st 0,x.rep,(litOf outC k x.st total x.rep x.C sa).2,lastN g.S (x.C++[UInt8.ofNat (litOf outC k x.st total x.rep x.C sa).1])⟩)
  else if (opOf outC x.st (total % 2 ^ k.pb) x.rep sa).1≤room∧(opOf outC x.st (total % 2 ^ k.pb) x.rep sa).2.2.1 0+1≤x.C.length then
   some (cyc x.C ((opOf outC x.st (total % 2 ^ k.pb) x.rep sa).2.2.1 0+1) (opOf outC x.st (total % 2 ^ k.pb) x.rep sa).1,⟨(opOf outC x.st (total % 2 ^ k.pb) x.rep sa).2.1,(opOf outC x.st (total % 2 ^ k.pb) x.rep sa).2.2.1,(opOf outC x.st (total % 2 ^ k.pb) x.rep sa).2.2.2,lastN g.S (x.C++cyc x.C ((opOf outC x.st (total % 2 ^ k.pb) x.rep sa).2.2.1 0+1) (opOf outC x.st (total % 2 ^ k.pb) x.rep sa).1)⟩)
  else none):=by
  unfold stepOf
  simp only [ha]
 rw [hs]
 have hl:=bitAt_le outC (8+x.st*16+total % 2 ^ k.pb) 0 x.s
 rw [ha] at hl
 by_cases h0:a=0
 ·subst h0
  rw [if_pos rfl]
  refine (step_lit Z w0 w k g total x.st room x.rep x.s sa x.C told wv tv h hk ht hx.st (hx.rep 0) hS hlen _ rfl ha).mono ?_
  rintro e w' ⟨rfl,wv',tv',h'⟩
  exact Or.inl ⟨_,_,wv',tv',rfl,rfl,h'⟩
 rw [if_neg h0]
 obtain rfl:a=1:=by simp only at hl;omega
 obtain ⟨⟨sz,st',rep',s'⟩,ho⟩:∃ y,opOf outC x.st (total % 2 ^ k.pb) x.rep sa=y:=⟨_,rfl⟩
 rw [ho]
 simp only
 refine (step_op Z w0 w k g total x.st room x.rep x.s sa x.C told wv tv h hk ht hx.st hS hlen hroom _ rfl ha sz st' rep' s' ho).mono ?_
 rintro e w' (⟨hg,rfl,wv',tv',h'⟩ | ⟨hg,h1,h2⟩)
 ·rw [if_pos hg]
  exact Or.inl ⟨_,_,wv',tv',rfl,rfl,h'⟩
 rw [if_neg hg]
 exact Or.inr ⟨rfl,h1,h2⟩
open Go.RowKit Rng Lz Win
theorem dend_c (db rb:Nat) (d:Dec) (w:World) (hd:DC db rb w d) :
 Calls Tryz.prog 143 #[.pointer (some ⟨db,0,none⟩)] w fun e w'=>e=.returned (.tuple #[.int .i64 d.fin.1,.int .i64 d.fin.2])∧DC db rb w' d.order∧Frm (DO db rb) w w':=by
 obtain ⟨r,hd',hback⟩:=hd.dec
 refine (dend_p db r d w hd').mono ?_
 rintro e w' ⟨rfl,h1,h2⟩
 exact ⟨rfl,hback _ _ Dec.order_nil h1,h2.mono fun q _ hq=>.inl hq⟩
def ChZ (k:LK) (wb db rb:Nat) (wv:Value) (q:Nat):Prop:=q=db∨q=rb∨q=k.sb∨q=k.lb∨q=wb∨wv.ownBlock=some q
theorem RdAt.start (w:World) (k:LK) (st:Nat) (rep:Nat→Nat) (pr:Pr) (base wb kb S bt N0:Nat) (C:List UInt8) (wv:Value) (db rb:Nat) (d:Dec) (tot:Int)
 (hs:StAt w k st rep pr) (hw:WinC w base wb kb S C wv) (hd:DecAt w 265 db rb d)
 (hk:k.sb<N0∧k.lb<N0) (hv:∀ q,wv.ownBlock=some q→q<N0) (hwb:wb<N0) (hdb:N0≤db) (hrb:N0≤rb) (hbt:bt≤w.heap.size) (hb:base≤w.heap.size) :
 ∃ rb',RdAt (ChZ k wb db rb' wv) w (w.alloc (.cells #[.pointer (some ⟨k.sb,0,none⟩),.pointer (some ⟨wb,0,none⟩),.pointer (some ⟨db,0,none⟩),.int .i64 tot,.slice none 0 0] 246)) k ⟨db,rb',wb,kb,w.heap.size,S,base,bt⟩ tot st rep ⟨d,pr⟩ C [] wv (.slice none 0 0)∧N0≤rb':=by
 have hdc:∃ rb',DC db rb' w d∧N0≤rb'∧rb'<w.heap.size∧(∀ (T:TypeId) c b,Pts w b c T→b=rb'→T=265∨N0≤b):=by
  by_cases h0:d.rest=[]
  ·exact ⟨db,.inr ⟨rfl,h0,rb,hd⟩,hdb,DC.pts (.inl hd) |>.elim fun c h=>h.lt,fun T c b hp e=>.inr (by omega)⟩
  refine ⟨rb,.inl hd,hrb,?_,fun T c b hp e=>.inr (by omega)⟩
  obtain ⟨⟨A,c,hp,hrow,ho,hc,hm⟩,hfit,hn⟩:=hd
  have h1:0<d.rest.length:=List.length_pos_iff.2 h0
  obtain ⟨ab,off,rfl,hab,-⟩:=hrow h1
  have:=ho h1 _ rfl
  have e:ab=rb:=Classical.byContradiction fun e=>this e
  omega
 obtain ⟨rb',hdc,hr1,hr2,-⟩:=hdc
 obtain ⟨cd,hdp⟩:=hdc.pts
 have hdl:=hdp.lt
 have F:Frm (fun _=>False) w (w.alloc (.cells #[.pointer (some ⟨k.sb,0,none⟩),.pointer (some ⟨wb,0,none⟩),.pointer (some ⟨db,0,none⟩),.int .i64 tot,.slice none 0 0] 246)):=(Frm.refl _ w).alloc _
 refine ⟨rb',⟨⟨DC.keep _ _ _ _ _ _ hdc F (fun _ _ h=>h),hs.m.frm F id,hs.l.frm F id,hs.fit,?_⟩,hw.frm F id (fun _ _ h=>h),Pts.new w _ _,OwnB.nil _ _ _,fun q _ h=>by simp [Value.ownBlock] at h,⟨?_,?_,?_,by simp [Value.ownBlock],Nat.lt_of_lt_of_le hr2 F.size⟩,⟨Nat.le_trans hb F.size,Nat.le_trans hbt F.size⟩,?_,F.mono fun _ _ h=>h.elim⟩,hr1⟩
 ·refine ⟨?_,?_,hs.ne⟩
  ·rintro (e | e) <;> simp only at e <;> omega
  rintro (e | e) <;> simp only at e <;> omega
 ·simp only;omega
 ·simp only;omega
 ·intro e
  have:=hv _ e
  simp only at this
  omega
 intro q hq hlt
 simp only at hq
 rcases hq with e | e | e | e | e | e | e | e
 ·exact .inl e
 ·exact .inr (.inl e)
 ·exact .inr (.inr (.inl e))
 ·exact .inr (.inr (.inr (.inl e)))
 ·exact .inr (.inr (.inr (.inr (.inl e))))
 ·omega
 ·exact .inr (.inr (.inr (.inr (.inr e))))
 simp [Value.ownBlock] at e
def ChunkEnd (k:LK) (base wb kb S:Nat) (wv:Value) (w:World) (R:Option (List UInt8×RS)) (e:Ending) (w':World):Prop :=
 Frm (fun q=>q=k.sb∨q=k.lb∨q=wb∨wv.ownBlock=some q) w w' ∧
 ((R=none∧e=.returned (.tuple #[.slice none 0 0,.int .i64 11])) ∨
  ∃ told y tv wv',R=some (told,y)∧e=.returned (.tuple #[tv,.int .i64 0])∧OwnB w' 5 w.heap.size tv told∧StAt w' k y.st y.rep y.s.pr∧WinC w' base wb kb S y.C wv'∧Mv w wv wv'∧∀ q,tv.ownBlock=some q→wv'.ownBlock≠some q)
theorem chunk_frm {k:LK} {wb db rb:Nat} {wv:Value} {w wc w6 w7:World} (hB:Below w.heap.size w wc) (h6:Frm (ChZ k wb db rb wv) wc w6) (hdb:w.heap.size+2≤db) (hrb:w.heap.size+2≤rb) (h7:Frm (fun q=>q=w.heap.size∨q=w.heap.size+1) w6 w7) :
 Frm (fun q=>q=k.sb∨q=k.lb∨q=wb∨wv.ownBlock=some q) w w7:=by
 have h0:Frm (fun _=>False) w wc:=Frm.of_below hB
 refine ((h0.mono fun _ _ h=>h.elim).transW h6 ?_).transW h7 ?_
 ·rintro q (e | e | e | e | e | e) hlt
  ·omega
  ·omega
  ·exact .inl e
  ·exact .inr (.inl e)
  ·exact .inr (.inr (.inl e))
  exact .inr (.inr (.inr e))
 rintro q (e | e) hlt
 ·omega
 omega
theorem chunk_none {k:LK} {base wb kb S db rb:Nat} {wv:Value} {w wc w6 w7:World} (hB:Below w.heap.size w wc) (h6:Frm (ChZ k wb db rb wv) wc w6) (hdb:w.heap.size+2≤db) (hrb:w.heap.size+2≤rb) (h7:Frm (fun q=>q=w.heap.size∨q=w.heap.size+1) w6 w7) :
 ChunkEnd k base wb kb S wv w none (.returned (.tuple #[.slice none 0 0,.int .i64 11])) w7:=⟨chunk_frm hB h6 hdb hrb h7,.inl ⟨rfl,rfl⟩⟩
theorem chunk_some {k:LK} {base wb kb S db rb xb:Nat} {wv tv1 wv1:Value} {w wc w6 w7:World} {tot:Int} {told:List UInt8} {x:RS} {d:Dec} {c0 c1:Value} (hB:Below w.heap.size w wc) (h6:RdAt (ChZ k wb db rb wv) wc w6 k ⟨db,rb,wb,kb,xb,S,base,w.heap.size+2⟩ tot x.st x.rep ⟨d,x.s.pr⟩ x.C told wv1 tv1)
 (hdb:w.heap.size+2≤db) (hrb:w.heap.size+2≤rb) (h7:Frm (fun q=>q=w.heap.size∨q=w.heap.size+1) w6 w7) (p0:Pts w6 w.heap.size #[c0] 22) (p1:Pts w6 (w.heap.size+1) #[c1] 25) :
 ChunkEnd k base wb kb S wv w (some (told,x)) (.returned (.tuple #[tv1,.int .i64 0])) w7:=by
 obtain ⟨cw,hw⟩:=h6.win.pts
 obtain ⟨lw,hwo⟩:=h6.win.own
 refine ⟨chunk_frm hB h6.f hdb hrb h7,.inr ⟨told,x,tv1,wv1,rfl,rfl,?_,h6.rested.frm h7 ?_ ?_,h6.win.frm h7 ?_ ?_,?_,fun q hq e=>h6.ne q e hq⟩⟩
 ·exact World.ownsRow.mono (h6.o.frm h7 (fun q hq=>by have h9:w.heap.size+2≤q:=(h6.o.lt hq).1;rintro (e | e) <;> omega)) (show w.heap.size≤w.heap.size+2 by omega)
 ·rintro (e | e)
  ·exact h6.lz.m.ne_of p0 (by decide) e
  exact h6.lz.m.ne_of p1 (by decide) e
 ·rintro (e | e)
  ·exact h6.lz.l.ne_of p0 (by decide) e
  exact h6.lz.l.ne_of p1 (by decide) e
 ·rintro (e | e)
  ·exact hw.ne_of p0 (by decide) e
  exact hw.ne_of p1 (by decide) e
 ·rintro q hq (e | e)
  ·subst e;exact own_ne hwo p0 (by decide) hq
  subst e;exact own_ne hwo p1 (by decide) hq
 intro q hq
 by_cases hlt:q<w.heap.size
 ·have hz:=h6.z q (.inr (.inr (.inr (.inr (.inr (.inr (.inl hq))))))) (Nat.lt_of_lt_of_le hlt hB.size)
  obtain ⟨cd,hd⟩:=h6.dpts
  rcases hz with e | e | e | e | e | e
  ·omega
  ·omega
  ·subst e;exact absurd hq (own_ne hwo h6.lz.m (by decide))
  ·subst e;exact absurd hq (own_ne hwo h6.lz.l (by decide))
  ·subst e;exact absurd hq (own_ne hwo hw (by decide))
  exact .inl e
 exact .inr (by omega)
end Go.Proofs.YtffehfpbdcokbaaGreat
