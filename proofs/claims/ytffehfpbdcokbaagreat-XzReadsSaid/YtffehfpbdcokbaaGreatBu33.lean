import Derived.Test.YtffehfpbdcokbaaGreatBu8
import Derived.Test.YtffehfpbdcokbaaGreatBu15
import Derived.Test.YtffehfpbdcokbaaGreatBu22
import Derived.Test.YtffehfpbdcokbaaGreatBu24
import Derived.Test.YtffehfpbdcokbaaGreatBu27
import Derived.Test.YtffehfpbdcokbaaGreatBu32
set_option linter.unusedVariables false
set_option linter.unusedSimpArgs false
namespace Go.Proofs.YtffehfpbdcokbaaGreat
open Lib (hid)
open Go.RowKit Rng Win Lz
def OutX (ob base:Nat) (M:Nat→Prop) (T:List UInt8) (W:World):Prop :=
 ∃ v,Pts W ob #[v] 22∧OwnB W 5 base v T∧(∀ q,M q↔q=ob∨v.ownBlock=some q)∧base≤W.heap.size
set_option maxRecDepth 100000 in
set_option maxHeartbeats 1000000 in
theorem outx_p (ob base:Nat) (v:Value) (T b:List UInt8) (Ab:Option Addr) (cb:Nat) (W:World) (hp:Pts W ob #[v] 22) (ho:OwnB W 5 base v T) (hb:base≤W.heap.size) (hr:BRow W W.heap.size Ab b) (hl:T.length+b.length≤16777216) :
 Calls Tryz.prog 23 #[.slice Ab b.length cb,.pointer (some ⟨ob,0,none⟩)] W fun e W'=>e=.returned (.bool true)∧∃ v',Pts W' ob #[v'] 22∧OwnB W' 5 base v' (T++b)∧Frm (fun q=>q=ob∨v.ownBlock=some q) W W'∧(v'.ownBlock=v.ownBlock∨v'.ownBlock=some W.heap.size):=by
 obtain ⟨A0,k0,rfl,-,-,-⟩:=ho.slice
 obtain ⟨v,hv⟩:∃ v,Value.slice A0 T.length k0=v:=⟨_,rfl⟩
 have c0:W.cell? ⟨ob,0,none⟩=some (.slice A0 T.length k0):=by rw [hp.cell];rfl
 rw [hv] at hp ho
 rw [hv]
 have HV:=hid hv
 clear hv
 have z0:=hp.frozen 0
 have HP:=hid hp
 have HO:=hid ho
 have HR:=hid hr
 have HL:=hid hl
 have HB:=hid hb
 clear hp ho hr hl hb
 go_enter Tryz.func23,Tryz.ntmps23
 go_wp2_with (at_builtin;refine wpList_append_bytes _ rfl (.tmp 4) (.tmp 5) 22 rfl 5 base Tryz.underlying22 Tryz.info_u8 (.slice A0 T.length k0) T rfl ?own2 Ab b.length cb W.heap.size b rfl rfl ?row2 ?len2 ?base2 ?next2)
 case own2=>rw [HV.out];exact HO.out
 case row2=>exact HR.out
 case len2=>have:=HL.out;omega
 case base2=>exact HB.out
 case next2 =>
 intro v3 w3 hown3 hfrm3 hnew3
 rw [HV.out] at hfrm3 hnew3
 obtain ⟨A3,k3,hv3,-,-,-⟩:=hown3.slice
 have hne:v.ownBlock≠some ob:=fun e=>by
  rcases HO.out.form with ⟨rfl,_⟩ | ⟨g,cap,cur,rfl,_,hh,_⟩
  ·cases e
  injection e with e
  subst e
  exact hh.ne_of HP.out (by decide) rfl
 have hp3:=HP.out.frm hfrm3 hne
 have hne3:v3.ownBlock≠some ob:=by
  have:=HP.out.lt
  rcases hnew3 with e | e
  ·rw [e];exact hne
  rw [e];intro h;injection h with h;omega
 have c3:w3.cell? ⟨ob,0,none⟩=some (.slice A0 T.length k0):=by rw [hp3.cell,HV.out];rfl
 have z3:=hp3.frozen 0
 have HP3:=hid (hp3.set 0 v3)
 have HO3:=hid (hown3.other (p:=⟨ob,0,none⟩) hne3 v3)
 have HF3:=hid (Frm.setCell (p:=⟨ob,0,none⟩) (hfrm3.mono (S':=fun q=>q=ob∨v.ownBlock=some q) fun q _ e=>.inr e) (.inl rfl) v3)
 have HN3:=hid hnew3
 clear hown3 hfrm3 hnew3 hne hp3 hne3
 obtain ⟨L3,hL3⟩:∃ L,(T++b).length=L:=⟨_,rfl⟩
 rw [hL3] at hv3
 subst hv3
 clear hL3
 go_wp2
 go_ret
 exact ⟨rfl,_,HP3.out,HO3.out,HF3.out,HN3.out⟩
theorem outx_ok (ob base B0 most:Nat) (h1:B0≤ob) (h2:B0≤base) (hm:most≤16777216):PutOk Tryz.prog 23 #[.pointer (some ⟨ob,0,none⟩)] B0 most (OutX ob base) where
 ent:=enters_of Tryz.func23 (by kernel_rfl) rfl
 keep:=by
  rintro M T W W' ⟨v,hp,ho,hM,hb⟩ hf
  exact ⟨v,hp.frm hf (fun h=>h ((hM ob).2 (.inl rfl))),ho.frm hf (fun k hk h=>h ((hM k).2 (.inr hk))),hM,Nat.le_trans hb hf.size⟩
 own:=by
  rintro M T W ⟨v,hp,ho,hM,hb⟩ q hq
  rcases (hM q).1 hq with e | e
  ·subst e;exact ⟨h1,_,_,_,hp⟩
  refine ⟨Nat.le_trans h2 (ho.lt e).1,?_⟩
  rcases ho.form with ⟨rfl,_⟩ | ⟨g,cap,cur,rfl,_,hh,_⟩
  ·cases e
  injection e with e
  subst e
  exact ⟨_,_,_,hh⟩
 call:=by
  rintro M T b Ab cb W ⟨v,hp,ho,hM,hb⟩ hr hbc hcm hl
  refine (outx_p ob base v T b Ab cb W hp ho hb hr (by omega)).mono ?_
  rintro e W' ⟨rfl,v',hp',ho',hf,hn⟩
  refine ⟨rfl,fun q=>q=ob∨v'.ownBlock=some q,⟨v',hp',ho',fun q=>Iff.rfl,Nat.le_trans hb hf.size⟩,hf.mono fun q _ e=>(hM q).2 e,?_⟩
  rintro q (e | e)
  ·exact .inl ((hM q).2 (.inl e))
  rcases hn with h | h
  ·exact .inl ((hM q).2 (.inr (h▸e)))
  have h3:=(ho'.lt e).2
  rw [h] at e
  injection e with e
  exact .inr ⟨by omega,h3⟩
theorem hold_p (n:Int) (w:World):Calls Tryz.prog 24 #[.int .i64 n] w fun e w'=>e=.returned (.tuple #[])∧w=w':=by
 go_enter Tryz.func24,Tryz.ntmps24
 go_wp2
 go_end0
 exact ⟨rfl,rfl⟩
open Go.RowKit
def RxAt (w:World) (rb fb bud:Nat) (put hold:Value) (kind:Int) (told:Nat) (lv:Value):Prop :=
 Pts w rb #[.pointer (some ⟨fb,0,none⟩),.int .i64 bud,put,hold,.int .i64 kind,.int .i64 told,lv] 91
theorem RxAt.cells {w:World} {rb fb bud:Nat} {put hold:Value} {kind:Int} {told:Nat} {lv:Value} (h:RxAt w rb fb bud put hold kind told lv) :
 w.cell? ⟨rb,0,none⟩=some (.pointer (some ⟨fb,0,none⟩))∧w.cell? ⟨rb,1,none⟩=some (.int .i64 bud)∧w.cell? ⟨rb,2,none⟩=some put∧w.cell? ⟨rb,3,none⟩=some hold∧w.cell? ⟨rb,4,none⟩=some (.int .i64 kind)∧w.cell? ⟨rb,5,none⟩=some (.int .i64 told)∧w.cell? ⟨rb,6,none⟩=some lv :=
 ⟨by rw [Pts.cell h];rfl,by rw [Pts.cell h];rfl,by rw [Pts.cell h];rfl,by rw [Pts.cell h];rfl,by rw [Pts.cell h];rfl,by rw [Pts.cell h];rfl,by rw [Pts.cell h];rfl⟩
set_option maxHeartbeats 1000000 in
theorem rtake_p (rb fb bud:Nat) (put hold:Value) (kind:Int) (told:Nat) (lv:Value) (A:Option Addr) (n c used m:Nat) (w:World) (hr:RxAt w rb fb bud put hold kind told lv) (h:SrcAt w fb A n c used) (hc:n≤c) (hm:m≤n) (hu:used+m≤9223372036854775807) :
 Calls Tryz.prog 46 #[.pointer (some ⟨rb,0,none⟩),.int .i64 m] w fun e w'=>e=.returned (.tuple #[.slice A m m,.int .i64 0])∧SrcAt w' fb (takeA A c m) (n-m) (c-m) (used+m)∧Frm (· = fb) w w':=by
 have HT:=hid (take_p fb A n c used m w h hc hm hu)
 have c0:=hr.cells.1
 clear hr h hc hm hu
 go_enter Tryz.func46,Tryz.ntmps46
 go_wp2_with fail
 refine HT.out.mono ?_;rintro e w1 ⟨rfl,h1,h2⟩
 have H1:=hid (And.intro h1 h2)
 clear HT h1 h2
 go_wp2
 go_ret2
 exact ⟨rfl,H1.out.1,H1.out.2⟩
set_option maxHeartbeats 1000000 in
theorem rtake_no (rb fb bud:Nat) (put hold:Value) (kind:Int) (told:Nat) (lv:Value) (A:Option Addr) (n c used m:Nat) (w:World) (hr:RxAt w rb fb bud put hold kind told lv) (h:SrcAt w fb A n c used) (hm:n<m) :
 Calls Tryz.prog 46 #[.pointer (some ⟨rb,0,none⟩),.int .i64 m] w fun e w'=>e=.returned (.tuple #[.slice none 0 0,.int .i64 10])∧w=w':=by
 have HT:=hid (take_no fb A n c used m w h hm)
 have c0:=hr.cells.1
 clear hr h hm
 go_enter Tryz.func46,Tryz.ntmps46
 go_wp2_with fail
 refine HT.out.mono ?_;rintro e w1 ⟨rfl,h1⟩
 subst h1
 clear HT
 go_wp2
 go_ret2
 exact ⟨rfl,rfl⟩
def chkK (k:Int):Int:=if k=1 then 1 else if k=4 then 2 else 0
def chkN (k:Int):Nat:=if k=1 then 4 else if k=4 then 8 else 0
set_option maxHeartbeats 1000000 in
theorem check_p (kind:Int) (w:World) :
 Calls Tryz.prog 90 #[.int .i64 kind] w fun e w'=>∃ s own,e=.returned (.tuple #[.iface 223 (.pointer (some ⟨s,0,none⟩)),.int .i64 (chkN kind)])∧SumAt w' s own (chkK kind) []∧(∀ k,own k→w.heap.size≤k)∧Below w.heap.size w w':=by
 by_cases h1:kind=1
 ·subst h1
  have HN:=hid (new_any 1 w)
  go_enter Tryz.func90,Tryz.ntmps90
  go_wp2_with fail
  refine HN.out.mono ?_;rintro e w1 ⟨s,own,rfl,h1,h2,h3⟩
  have H1:=hid (And.intro h1 (And.intro h2 h3))
  clear HN h1 h2 h3
  go_wp2
  go_ret2
  exact ⟨s,own,rfl,H1.out.1,H1.out.2.1,H1.out.2.2⟩
 by_cases h4:kind=4
 ·subst h4
  have HN:=hid (new_any 2 w)
  go_enter Tryz.func90,Tryz.ntmps90
  go_wp2_with fail
  refine HN.out.mono ?_;rintro e w1 ⟨s,own,rfl,h1,h2,h3⟩
  have H1:=hid (And.intro h1 (And.intro h2 h3))
  clear HN h1 h2 h3
  go_wp2
  go_ret2
  exact ⟨s,own,rfl,H1.out.1,H1.out.2.1,H1.out.2.2⟩
 have e1:(kind==1)=false:=by simpa using h1
 have e4:(kind==4)=false:=by simpa using h4
 have k1:chkK kind=0:=by unfold chkK;rw [if_neg h1,if_neg h4]
 have k2:chkN kind=0:=by unfold chkN;rw [if_neg h1,if_neg h4]
 rw [k1,k2]
 have HN:=hid (new_any 0 w)
 clear h1 h4 k1 k2
 go_enter Tryz.func90,Tryz.ntmps90
 go_wp2_with fail
 refine HN.out.mono ?_;rintro e w1 ⟨s,own,rfl,h1,h2,h3⟩
 have H1:=hid (And.intro h1 (And.intro h2 h3))
 clear HN h1 h2 h3
 go_wp2
 go_ret2
 exact ⟨s,own,rfl,H1.out.1,H1.out.2.1,H1.out.2.2⟩
open Go.RowKit Box
theorem number_nil:(number []).2.2=10:=rfl
def RnPost (fb cb base:Nat) (A:Option Addr) (n c used want:Nat) (bs got:List UInt8) (v:Value) (w:World) (e:Ending) (w':World):Prop :=
 if (number bs).2.2≠0 then e=.returned (.int .i64 (number bs).2.2)∧w=w'
 else if (number bs).1≠want then e=.returned (.int .i64 11)∧w=w'
 else e=.returned (.int .i64 0)∧∃ v',SrcAt w' fb (takeA A c (number bs).2.1) (n-(number bs).2.1) (c-(number bs).2.1) (used+(number bs).2.1)∧Pts w' cb #[v'] 22∧OwnB w' 5 base v' (got++bs.take (number bs).2.1)∧(v'.ownBlock=v.ownBlock∨∃ q,v'.ownBlock=some q∧w.heap.size≤q)∧Frm (fun q=>q=fb∨q=cb∨v.ownBlock=some q) w w'
set_option maxRecDepth 100000 in
set_option maxHeartbeats 4000000 in
theorem xnumber_p (rb fb bud cb base B0:Nat) (put hold:Value) (kind:Int) (told:Nat) (lv v:Value) (A:Option Addr) (n c used want:Nat) (bs got:List UInt8) (w:World) (hr:RxAt w rb fb bud put hold kind told lv) (h:SrcAt w fb A n c used) (hn:n=bs.length) (hb:BRow w B0 A bs) (hB0:B0≤w.heap.size∧B0≤fb) (hc:n≤c) (hcm:c≤maxLen) (hu:used+n≤4611686018427387904)
 (hp:Pts w cb #[v] 22) (ho:OwnB w 5 base v got) (hbs:base≤w.heap.size) (hne:cb≠fb) (hl:got.length+n≤140737488355328) (hlook:∀ k,(number (bs.take k)).2.2≠10→number bs=number (bs.take k)) :
 Calls Tryz.prog 92 #[.pointer (some ⟨rb,0,none⟩),.pointer (some ⟨cb,0,none⟩),.int .u64 want] w (RnPost fb cb base A n c used want bs got v w):=by
 have HP:=hid hp
 have HO:=hid ho
 have HB:=hid (And.intro hb (And.intro h hr))
 have HB0:=hid hB0
 have HH:Hid (n=bs.length∧n≤c∧c≤maxLen∧used+n≤4611686018427387904∧base≤w.heap.size∧cb≠fb∧got.length+n≤140737488355328):=hid ⟨hn,hc,hcm,hu,hbs,hne,hl⟩
 have c0:=hr.cells.1
 have HL:=hid hlook
 clear hr h hn hb hB0 hc hcm hu hp ho hbs hne hl hlook
 go_enter Tryz.func92,Tryz.ntmps92
 go_wp2
 go_loopg [7] (n+1) (fun f sv wr=>∃ k,sv=.int .i64 ((k+1:Nat):Int)∧f+k=n+1∧k≤n∧(number (bs.take k)).2.2=10∧wr=w)
 case atStart=>exact ⟨0,rfl,by omega,by omega,number_nil,rfl⟩
 case round =>
 obtain ⟨k,rfl,hf,hk,ht,rfl⟩:=hrel
 have HF:=hid (And.intro hf hk)
 have HT:=hid ht
 have HK:=hid (peek_p fb A n c used (k+1) wr HB.out.2.1 HH.out.2.1)
 clear hf hk ht
 by_cases hkn:k+1≤n
 ·rw [if_pos hkn] at HK
  obtain ⟨R,hR⟩:∃ R,number (bs.take (k+1))=R:=⟨_,rfl⟩
  have HNU:=hid (number_p A (bs.take (k+1)) (k+1) (k+1) B0 wr (by rw [List.length_take];have:=HH.out.1;omega) (HB.out.1.take (k+1)) (by rw [List.length_take];have:=HH.out.1;have:=HH.out.2.1;have:=HH.out.2.2.1;omega))
  rw [hR] at HNU
  obtain ⟨y,m,er⟩:=R
  unfold errOf at HNU
  have HR:=hid hR
  have i1:IntKind.i64.wrap (((k+1:Nat):Int)+1)=((k+1+1:Nat):Int):=Go.IntWalk.i64_in _ (by have:=HF.out;have:=HH.out.2.2.2.1;omega)
  clear hR
  obtain ⟨s1,hs1⟩:∃ x,k+1=x:=⟨_,rfl⟩
  rw [hs1] at HK HNU i1 HR hkn
  rw [hs1]
  by_cases h10:er=10
  ·subst h10
   go_wp2_with fail
   refine HK.out.mono ?_;rintro e w1 ⟨rfl,rfl⟩
   go_wp2_with fail
   refine HNU.out.mono ?_;rintro e w1 ⟨rfl,rfl⟩
   obtain ⟨g,rfl⟩:∃ g,gk=g+1:=⟨gk-1,by have:=HF.out;omega⟩
   go_wp2
   go_roundg g
   case rel=>exact ⟨s1,rfl,by have:=HF.out;omega,hkn,by rw [HR.out],rfl⟩
   case measure=>omega
  have hnb:number bs=(y,m,er):=by rw [← HR.out];exact HL.out s1 (by rw [HR.out];exact h10)
  have e10:(er==10)=false:=by simpa using h10
  by_cases h0:er=0
  ·subst h0
   have hmn:1≤m∧m≤s1:=by
    obtain ⟨_,k2,k3,_⟩:=number_back (bs:=bs.take s1) HR.out
    rw [List.length_take] at k3
    omega
   by_cases hy:y=want
   ·subst hy
    have HTK:=hid (rtake_p rb fb bud put hold kind told lv A n c used m wr HB.out.2.2 HB.out.2.1 HH.out.2.1 (by omega) (by have:=HH.out.2.2.2.1;omega))
    go_wp2_with fail
    refine HK.out.mono ?_;rintro e w1 ⟨rfl,rfl⟩
    go_wp2_with fail
    refine HNU.out.mono ?_;rintro e w1 ⟨rfl,rfl⟩
    go_wp2_with fail
    refine HTK.out.mono ?_;rintro e w1 ⟨rfl,h1,h2⟩
    obtain ⟨A0,k0,rfl,-,-,-⟩:=HO.out.slice
    have hp1:=HP.out.frm h2 HH.out.2.2.2.2.2.1
    have cc:w1.cell? ⟨cb,0,none⟩=some (.slice A0 got.length k0):=by rw [hp1.cell];rfl
    have zz:=hp1.frozen 0
    have H1:=hid (And.intro h1 h2)
    have HP1:=hid hp1
    clear h1 h2 hp1
    have hnf:∀ k,(Value.slice A0 got.length k0).ownBlock=some k→k≠fb:=by
     rintro k hk rfl
     rcases HO.out.form with ⟨h3,_⟩ | ⟨g,cap,cur,h3,_,hh,_⟩
     ·rw [h3] at hk;cases hk
     rw [h3] at hk
     injection hk with hk
     subst hk
     exact Pts.ne_of (show Pts wr g _ _ from hh) (show Pts wr g _ _ from HB.out.2.1) (by decide) rfl
    have hnc:(Value.slice A0 got.length k0).ownBlock≠some cb:=by
     intro hk
     rcases HO.out.form with ⟨h3,_⟩ | ⟨g,cap,cur,h3,_,hh,_⟩
     ·rw [h3] at hk;cases hk
     rw [h3] at hk
     injection hk with hk
     subst hk
     exact Pts.ne_of (show Pts wr g _ _ from hh) HP.out (by decide) rfl
    have HO1:=hid (HO.out.frm H1.out.2 (fun k hk e=>hnf k hk e))
    have HNE:=hid (And.intro hnf hnc)
    clear hnf hnc
    obtain ⟨V0,hV0⟩:∃ x,Value.slice A0 got.length k0=x:=⟨_,rfl⟩
    have HV:=hid hV0
    rw [hV0] at HO1 HNE HP1
    clear hV0
    go_wp2_with (at_builtin;refine wpList_append_bytes _ rfl (.tmp 52) (.tmp 53) 22 rfl 5 base Tryz.underlying22 Tryz.info_u8 (.slice A0 got.length k0) got rfl ?own2 A m m B0 (bs.take m) rfl ?lenn ?row2 ?len2 ?base2 ?next2)
    case own2=>rw [HV.out];exact HO1.out
    case lenn=>rw [List.length_take];have:=HH.out.1;omega
    case row2=>exact (HB.out.1.take m).frm H1.out.2 HB0.out.1 (fun k hk=>by have:=HB0.out.2;omega)
    case len2=>rw [List.length_take];have:=HH.out.2.2.2.2.2.2;omega
    case base2=>exact Nat.le_trans HH.out.2.2.2.2.1 H1.out.2.size
    case next2 =>
    intro v3 w3 hown3 hfrm3 hnew3
    rw [HV.out] at hfrm3 hnew3
    obtain ⟨A3,k3,hv3,-,-,-⟩:=hown3.slice
    have hp3:=HP1.out.frm hfrm3 HNE.out.2
    have hs3:SrcAt w3 fb (takeA A c m) (n-m) (c-m) (used+m):=Pts.frm H1.out.1 hfrm3 (fun e=>HNE.out.1 fb e rfl)
    have hne3:v3.ownBlock≠some cb:=by
     have:=HP1.out.lt
     rcases hnew3 with e | e
     ·rw [e];exact HNE.out.2
     rw [e];intro h;injection h with h;omega
    have c3:w3.cell? ⟨cb,0,none⟩=some (.slice A0 got.length k0):=by rw [hp3.cell,HV.out];rfl
    have z3:=hp3.frozen 0
    have HP3:=hid (hp3.set 0 v3)
    have HO3:=hid (hown3.other (p:=⟨cb,0,none⟩) hne3 v3)
    have HS3:Hid (SrcAt (w3.setCell ⟨cb,0,none⟩ v3) fb (takeA A c m) (n-m) (c-m) (used+m)):=hid (Pts.other hs3 (p:=⟨cb,0,none⟩) (fun e=>HH.out.2.2.2.2.2.1 e.symm) v3)
    have HF3:=hid (Frm.setCell (p:=⟨cb,0,none⟩) ((H1.out.2.mono (S':=fun q=>q=fb∨q=cb∨V0.ownBlock=some q) fun q _ e=>.inl e).trans (hfrm3.mono (S':=fun q=>q=fb∨q=cb∨V0.ownBlock=some q) fun q _ e=>.inr (.inr e))) (.inr (.inl rfl)) v3)
    have HN3:=hid (And.intro hnew3 H1.out.2.size)
    clear hown3 hfrm3 hnew3 hp3 hs3 hne3
    obtain ⟨L3,hL3⟩:∃ L,(got++bs.take m).length=L:=⟨_,rfl⟩
    rw [hL3] at hv3
    subst hv3
    clear hL3
    go_wp2
    go_ret
    unfold RnPost
    rw [hnb,if_neg (by simp),if_neg (by simp),HV.out]
    refine ⟨rfl,_,HS3.out,HP3.out,HO3.out,?_,HF3.out⟩
    rcases HN3.out.1 with e | e
    ·exact .inl e
    exact .inr ⟨_,e,HN3.out.2⟩
   have qy:(((y:Nat):Int) != ((want:Nat):Int))=true:=bne_iff_ne.2 (by omega)
   go_wp2_with fail
   refine HK.out.mono ?_;rintro e w1 ⟨rfl,rfl⟩
   go_wp2_with fail
   refine HNU.out.mono ?_;rintro e w1 ⟨rfl,rfl⟩
   go_wp2
   go_ret
   unfold RnPost
   rw [hnb,if_neg (by simp),if_pos hy]
   exact ⟨rfl,rfl⟩
  have q0:(er != 0)=true:=bne_iff_ne.2 h0
  go_wp2_with fail
  refine HK.out.mono ?_;rintro e w1 ⟨rfl,rfl⟩
  go_wp2_with fail
  refine HNU.out.mono ?_;rintro e w1 ⟨rfl,rfl⟩
  go_wp2
  go_ret
  unfold RnPost
  rw [hnb,if_pos h0]
  exact ⟨rfl,rfl⟩
 rw [if_neg hkn] at HK
 go_wp2_with fail
 refine HK.out.mono ?_;rintro e w1 ⟨rfl,rfl⟩
 go_wp2
 go_ret
 have hkn2:k=n:=by have:=HF.out;omega
 have ht:=HT.out
 rw [hkn2,HH.out.1,List.take_length] at ht
 unfold RnPost
 rw [ht]
 exact ⟨rfl,rfl⟩
open Go.RowKit Box
theorem xNums_cons (n:Nat) (l:List Nat) (s:List UInt8):xNums (n::l) s=match xNum n s with | .inl e=>(Sum.inl e:Nat ⊕ List UInt8) | .inr r=>xNums l r:=rfl
theorem xNums_one (n:Nat) (s:List UInt8):xNums [n] s=xNum n s:=by
 rw [xNums_cons]
 cases xNum n s <;> rfl
theorem xNums_snoc (n:Nat):∀ (l:List Nat) (s:List UInt8),xNums (l++[n]) s=match xNums l s with | .inl e=>(Sum.inl e:Nat ⊕ List UInt8) | .inr r=>xNum n r
 | [],s=>xNums_one n s
 | m::l,s=>by
  rw [List.cons_append,xNums_cons,xNums_cons]
  cases xNum m s with
  | inl e=>rfl
  | inr r=>exact xNums_snoc n l r
theorem xNums_stop {e:Nat}:∀ (l m:List Nat) (s:List UInt8),xNums l s=.inl e→xNums (l++m) s=.inl e
 | [],m,s,h=>by cases h
 | n::l,m,s,h=>by
  rw [List.cons_append,xNums_cons]
  rw [xNums_cons] at h
  cases hx:xNum n s with
  | inl z=>rw [hx] at h;exact h
  | inr r=>rw [hx] at h;exact xNums_stop l m r h
theorem recN_len (recs:List (Nat×Nat)):(recN recs).length=1+2*recs.length:=by
 unfold recN
 rw [List.length_cons]
 have:∀ l:List (Nat×Nat),(l.flatMap fun p=>[p.1,p.2]).length=2*l.length:=by
  intro l
  induction l with
  | nil=>rfl
  | cons a l ih=>rw [List.flatMap_cons,List.length_append,ih];simp;omega
 rw [this];omega
theorem recN_at:∀ (l:List (Nat×Nat)) (k:Nat),k<l.length→(l.flatMap fun p=>[p.1,p.2])[2*k]?=some (l.getD k (0,0)).1∧(l.flatMap fun p=>[p.1,p.2])[2*k+1]?=some (l.getD k (0,0)).2
 | [],k,h=>absurd h (by simp)
 | s::l,0,_=>by simp
 | s::l,k+1,h=>by
  have ih:=recN_at l k (by simpa using h)
  rw [show 2*(k+1)=2*k+1+1 by omega]
  simpa using ih
theorem recN_take (recs:List (Nat×Nat)) {k j:Nat} (hk:k<recs.length) (hj:j<2) {want:Nat} (hw:want=if j=0 then (recs.getD k (0,0)).1 else (recs.getD k (0,0)).2) :
 (recN recs).take (1+2*k+j+1)=(recN recs).take (1+2*k+j)++[want]:=by
 obtain ⟨h0,h1⟩:=recN_at recs k hk
 have hx:(recN recs)[1+2*k+j]?=some want:=by
  unfold recN
  rw [show 1+2*k+j=(2*k+j)+1 by omega,List.getElem?_cons_succ]
  by_cases h:j=0
  ·subst h;rw [if_pos rfl] at hw;rw [hw];exact h0
  rw [if_neg h] at hw
  obtain rfl:j=1:=by omega
  rw [hw];exact h1
 rw [List.take_add_one,hx]
 rfl
theorem xNum_z {want:Nat} {s:List UInt8} {e:Nat} (h:xNum want s=.inl e):e≠0:=by
 unfold xNum at h
 by_cases h0:(number s).2.2≠0
 ·rw [if_pos h0] at h
  injection h with h
  rcases number_err s with h1 | h1 | h1
  ·exact absurd h1 h0
  ·rw [h1] at h;rw [← h];decide
  rw [h1] at h;rw [← h];decide
 rw [if_neg h0] at h
 by_cases h1:(number s).1≠want
 ·rw [if_pos h1] at h;injection h with h;omega
 rw [if_neg h1] at h;cases h
structure IxR (w:World) (fb cb un B0:Nat) (bs got r:List UInt8) (v:Value) (W:World):Prop where
 s:∃ A n c used,SrcAt W fb A n c used∧used+n=un∧BRow W B0 A r∧n=r.length∧n≤c∧c≤maxLen
 p:Pts W cb #[v] 22
 o:OwnB W 5 w.heap.size v got
 f:Frm (· = fb) w W
 e:got++r=bs
theorem IxR.still {w W W':World} {fb cb un B0:Nat} {bs got r:List UInt8} {v:Value} (h:IxR w fb cb un B0 bs got r v W) (hB0:B0≤w.heap.size) (hb:Below W.heap.size W W'):IxR w fb cb un B0 bs got r v W':=by
 obtain ⟨A,n,c,used,h1,h2,h3,h4⟩:=h.s
 exact ⟨⟨A,n,c,used,Pts.below h1 hb (Pts.lt h1),h2,h3.below (hb.mono (Nat.le_trans hB0 h.f.size)),h4⟩,h.p.below hb h.p.lt,h.o.frm (S:=fun _=>False) (Frm.of_below hb) (fun _ _ h=>h),h.f.trans (Frm.of_below hb),h.e⟩
def NumEnd (w:World) (fb cb un B0:Nat) (bs r:List UInt8) (want:Nat) (e:Ending) (W':World):Prop :=
 ∃ z:Nat,e=.returned (.int .i64 (z:Int))∧(z=0→∃ got' r' v',xNum want r=.inr r'∧IxR w fb cb un B0 bs got' r' v' W')∧(z≠0→xNum want r=.inl z∧Frm (· = fb) w W')
theorem number_nat {s:List UInt8}:(number s).2.2=(((number s).2.2.toNat:Nat):Int):=by
 rcases number_err s with h1 | h1 | h1 <;> rw [h1] <;> rfl
theorem num_step (rb fb bud cb un B0:Nat) (put hold:Value) (kind:Int) (told:Nat) (lv v:Value) (want:Nat) (bs got r:List UInt8) (w W:World) (hr:RxAt w rb fb bud put hold kind told lv) (hne:rb≠fb)
 (hx:IxR w fb cb un B0 bs got r v W) (hB0:B0≤w.heap.size∧B0≤fb) (hcb:w.heap.size≤cb) (hub:un≤4611686018427387904) (hl:bs.length≤140737488355328) :
 Calls Tryz.prog 92 #[.pointer (some ⟨rb,0,none⟩),.pointer (some ⟨cb,0,none⟩),.int .u64 want] W (NumEnd w fb cb un B0 bs r want):=by
 obtain ⟨A,n,c,used,hs,hun,hrow,hn,hc,hcm⟩:=hx.s
 have hr':RxAt W rb fb bud put hold kind told lv:=Pts.frm hr hx.f hne
 have hcf:cb≠fb:=hx.p.ne_of hs (by decide)
 have hlen:=congrArg List.length hx.e
 rw [List.length_append] at hlen
 refine (xnumber_p rb fb bud cb w.heap.size B0 put hold kind told lv v A n c used want r got W hr' hs hn hrow ⟨Nat.le_trans hB0.1 hx.f.size,hB0.2⟩ hc hcm (by omega) hx.p hx.o hx.f.size hcf (by omega) ?_).mono ?_
 ·intro k hk
  have h:=number_more (r.drop k) hk
  rw [List.take_append_drop] at h
  exact h
 intro e W' hp
 unfold RnPost at hp
 have hxn:xNum want r=if (number r).2.2≠0 then .inl (number r).2.2.toNat else if (number r).1≠want then .inl 11 else .inr (r.drop (number r).2.1):=rfl
 by_cases h0:(number r).2.2≠0
 ·rw [if_pos h0] at hp hxn
  obtain ⟨rfl,rfl⟩:=hp
  refine ⟨(number r).2.2.toNat,by rw [← number_nat],fun h=>?_,fun _=>⟨hxn,hx.f⟩⟩
  have:=number_nat (s:=r)
  rw [h] at this
  exact absurd this h0
 rw [if_neg h0] at hp hxn
 by_cases h1:(number r).1≠want
 ·rw [if_pos h1] at hp hxn
  obtain ⟨rfl,rfl⟩:=hp
  exact ⟨11,rfl,⟨fun h=>absurd h (by decide),fun _=>⟨hxn,hx.f⟩⟩⟩
 rw [if_neg h1] at hp hxn
 obtain ⟨rfl,v',hs',hp',ho',hnew,hf⟩:=hp
 refine ⟨0,rfl,fun _=>?_,fun h=>absurd rfl h⟩
 have hm:=number_used (bs:=r) (by simpa using h0)
 refine ⟨got++r.take (number r).2.1,r.drop (number r).2.1,v',hxn,⟨_,_,_,_,hs',by omega,?_,by rw [List.length_drop];omega,by omega,by omega⟩,hp',ho',?_,?_⟩
 ·have h3:=BRow.drop hrow (k:=(number r).2.1) (cap:=c) (by omega)
  unfold takeA
  intro h4
  obtain ⟨b,off,h5,h6,h7⟩:=h3 h4
  refine ⟨b,off,h5,h6,fun k hk=>?_⟩
  have hnb:¬ (b=fb∨b=cb∨v.ownBlock=some b):=by
   rintro (e | e | e)
   ·omega
   ·omega
   have:=(hx.o.lt e).1;omega
  exact (World.cell?_of_block (hf.block b (by have:=hx.f.size;omega) hnb)).trans (h7 k hk)
 ·exact hx.f.transW hf fun q hq hlt=>by
   rcases hq with e | e | e
   ·exact e
   ·omega
   have:=(hx.o.lt e).1;omega
 rw [List.append_assoc,List.take_append_drop];exact hx.e
end Go.Proofs.YtffehfpbdcokbaaGreat
