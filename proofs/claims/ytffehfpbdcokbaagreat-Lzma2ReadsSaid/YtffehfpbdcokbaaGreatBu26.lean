import Derived.Test.YtffehfpbdcokbaaGreatBu22
import Derived.Test.YtffehfpbdcokbaaGreatBu25
set_option linter.unusedVariables false
set_option linter.unusedSimpArgs false
namespace Go.Proofs.YtffehfpbdcokbaaGreat
open Lib (hid)
open Go.RowKit Rng Win Lz
def OutJ (ob base:Nat) (M:Nat→Prop) (T:List UInt8) (W:World):Prop :=
 ∃ v,Pts W ob #[v] 22∧OwnB W 5 base v T∧(∀ q,M q↔q=ob∨v.ownBlock=some q)∧base≤W.heap.size
set_option maxRecDepth 100000 in
set_option maxHeartbeats 1000000 in
theorem out_p (ob base:Nat) (v:Value) (T b:List UInt8) (Ab:Option Addr) (cb:Nat) (W:World) (hp:Pts W ob #[v] 22) (ho:OwnB W 5 base v T) (hb:base≤W.heap.size) (hr:BRow W W.heap.size Ab b) (hl:T.length+b.length≤16777216) :
 Calls Tryz.prog 17 #[.slice Ab b.length cb,.pointer (some ⟨ob,0,none⟩)] W fun e W'=>e=.returned (.bool true)∧∃ v',Pts W' ob #[v'] 22∧OwnB W' 5 base v' (T++b)∧Frm (fun q=>q=ob∨v.ownBlock=some q) W W'∧(v'.ownBlock=v.ownBlock∨v'.ownBlock=some W.heap.size):=by
 obtain ⟨A0,k0,rfl,-,-,-⟩:=ho.slice
 obtain ⟨v,hv⟩:∃ v,Value.slice A0 T.length k0=v:=⟨_,rfl⟩
 have c0:W.cell? ⟨ob,0,none⟩=some (.slice A0 T.length k0):=by rw [hp.cell];rfl
 rw [hv] at hp ho
 rw [hv]
 have HV:=hid hv
 clear hv
 have z0:=hp.frozen 0
 have HP:=hid hp
 have HO:=hid ho
 have HR:=hid hr
 have HL:=hid hl
 have HB:=hid hb
 clear hp ho hr hl hb
 go_enter Tryz.func17,Tryz.ntmps17
 go_wp2_with (at_builtin;refine wpList_append_bytes _ rfl (.tmp 4) (.tmp 5) 22 rfl 5 base Tryz.underlying22 Tryz.info_u8 (.slice A0 T.length k0) T rfl ?own2 Ab b.length cb W.heap.size b rfl rfl ?row2 ?len2 ?base2 ?next2)
 case own2=>rw [HV.out];exact HO.out
 case row2=>exact HR.out
 case len2=>have:=HL.out;omega
 case base2=>exact HB.out
 case next2 =>
 intro v3 w3 hown3 hfrm3 hnew3
 rw [HV.out] at hfrm3 hnew3
 obtain ⟨A3,k3,hv3,-,-,-⟩:=hown3.slice
 have hne:v.ownBlock≠some ob:=fun e=>by
  rcases HO.out.form with ⟨rfl,_⟩ | ⟨g,cap,cur,rfl,_,hh,_⟩
  ·cases e
  injection e with e
  subst e
  exact hh.ne_of HP.out (by decide) rfl
 have hp3:=HP.out.frm hfrm3 hne
 have hne3:v3.ownBlock≠some ob:=by
  have:=HP.out.lt
  rcases hnew3 with e | e
  ·rw [e];exact hne
  rw [e];intro h;injection h with h;omega
 have c3:w3.cell? ⟨ob,0,none⟩=some (.slice A0 T.length k0):=by rw [hp3.cell,HV.out];rfl
 have z3:=hp3.frozen 0
 have HP3:=hid (hp3.set 0 v3)
 have HO3:=hid (hown3.other (p:=⟨ob,0,none⟩) hne3 v3)
 have HF3:=hid (Frm.setCell (p:=⟨ob,0,none⟩) (hfrm3.mono (S':=fun q=>q=ob∨v.ownBlock=some q) fun q _ e=>.inr e) (.inl rfl) v3)
 have HN3:=hid hnew3
 clear hown3 hfrm3 hnew3 hne hp3 hne3
 obtain ⟨L3,hL3⟩:∃ L,(T++b).length=L:=⟨_,rfl⟩
 rw [hL3] at hv3
 subst hv3
 clear hL3
 go_wp2
 go_ret
 exact ⟨rfl,_,HP3.out,HO3.out,HF3.out,HN3.out⟩
theorem out_ok (ob base B0 most:Nat) (h1:B0≤ob) (h2:B0≤base) (hm:most≤16777216):PutOk Tryz.prog 17 #[.pointer (some ⟨ob,0,none⟩)] B0 most (OutJ ob base) where
 ent:=enters_of Tryz.func17 (by kernel_rfl) rfl
 keep:=by
  rintro M T W W' ⟨v,hp,ho,hM,hb⟩ hf
  exact ⟨v,hp.frm hf (fun h=>h ((hM ob).2 (.inl rfl))),ho.frm hf (fun k hk h=>h ((hM k).2 (.inr hk))),hM,Nat.le_trans hb hf.size⟩
 own:=by
  rintro M T W ⟨v,hp,ho,hM,hb⟩ q hq
  rcases (hM q).1 hq with e | e
  ·subst e;exact ⟨h1,_,_,_,hp⟩
  refine ⟨Nat.le_trans h2 (ho.lt e).1,?_⟩
  rcases ho.form with ⟨rfl,_⟩ | ⟨g,cap,cur,rfl,_,hh,_⟩
  ·cases e
  injection e with e
  subst e
  exact ⟨_,_,_,hh⟩
 call:=by
  rintro M T b Ab cb W ⟨v,hp,ho,hM,hb⟩ hr hbc hcm hl
  refine (out_p ob base v T b Ab cb W hp ho hb hr (by omega)).mono ?_
  rintro e W' ⟨rfl,v',hp',ho',hf,hn⟩
  refine ⟨rfl,fun q=>q=ob∨v'.ownBlock=some q,⟨v',hp',ho',fun q=>Iff.rfl,Nat.le_trans hb hf.size⟩,hf.mono fun q _ e=>(hM q).2 e,?_⟩
  rintro q (e | e)
  ·exact .inl ((hM q).2 (.inl e))
  rcases hn with h | h
  ·exact .inl ((hM q).2 (.inr (h▸e)))
  have h3:=(ho'.lt e).2
  rw [h] at e
  injection e with e
  exact .inr ⟨by omega,h3⟩
def DecEnd (S:Nat) (bs:List UInt8) (w:World) (e:Ending) (w':World):Prop :=
 ∃ v,OwnB w' 5 w.heap.size v (d2P S 16777216 bs).1∧Below w.heap.size w w' ∧
  (match (d2P S 16777216 bs).2 with
  | .inl z=>z≠0∧e=.returned (.tuple #[v,.int .i64 0,.int .i64 ((z:Nat):Int)])
  | .inr r=>r.length≤bs.length∧e=.returned (.tuple #[v,.int .i64 ((bs.length-r.length:Nat):Int),.int .i64 0]))
set_option maxHeartbeats 1000000 in
theorem decode_p (A:Option Addr) (bs:List UInt8) (n c S:Nat) (w:World) (hn:n=bs.length) (hr:BRow w w.heap.size A bs) (hc:n≤c) (hcm:c≤maxLen) (hub:n≤4611686018427387904) (hS1:1≤S) (hS:S≤16777216) :
 Calls Tryz.prog 7 #[.slice A n c,.int .i64 S] w (DecEnd S bs w):=by
 have HR:=hid hr
 have HN:=hid hn
 have HH:Hid (n≤c∧c≤maxLen∧n≤4611686018427387904∧1≤S∧S≤16777216):=hid ⟨hc,hcm,hub,hS1,hS⟩
 clear hr hn hc hcm hub hS1 hS
 go_enter Tryz.func7,Tryz.ntmps7
 go_wp2_with fail
 obtain ⟨W0,hW0⟩:∃ W,w.alloc (.cells #[.slice none 0 0] 22)=W:=⟨_,rfl⟩
 have hs0:W0.heap.size=w.heap.size+1:=by rw [← hW0];simp only [World.size_alloc]
 have hP0:Pts W0 w.heap.size #[.slice none 0 0] 22:=by rw [← hW0];exact Pts.new w _ _
 have hB0:Below w.heap.size w W0:=by rw [← hW0];exact below_alloc _ _
 rw [hW0]
 clear hW0
 refine (whole_p A n c W0).mono ?_;rintro e w1 ⟨rfl,hs1,hb1⟩
 have hP1:=hP0.below hb1 hP0.lt
 have B1:=hid (hB0.trans (hb1.mono hB0.size))
 have hz1:=Pts.lt hs1
 rw [hs0] at hs1 hz1
 have P1:=hid hP1
 have S1:=hid hs1
 have Z1:=hid hz1
 have HRun:=run_p (w.heap.size+1) w.heap.size S 16777216 17 #[.pointer (some ⟨w.heap.size,0,none⟩)] (OutJ w.heap.size w.heap.size) (fun q=>q=w.heap.size) A n c 0 n bs w1 (out_ok w.heap.size w.heap.size w.heap.size 16777216 (Nat.le_refl _) (Nat.le_refl _) (Nat.le_refl _))
  ⟨.slice none 0 0,hP1,OwnB.nil _ _ _,fun q=>⟨fun h=>.inl h,fun h=>h.elim id (fun h=>by cases h)⟩,B1.out.size⟩ (by omega) (by omega) hs1 HN.out (HR.out.below B1.out) B1.out.size HH.out.1 HH.out.2.1 (by omega) HH.out.2.2.1 HH.out.2.2.2.1 HH.out.2.2.2.2 (Nat.le_refl _)
 have HRU:=hid HRun
 rw [hs0]
 clear hP0 hB0 hb1 hP1 hs1 hz1 hs0 HRun
 go_wp2_with fail
 refine HRU.out.mono ?_;rintro e w2 ⟨rfl,⟨M,⟨v,hv,ho,hMv,hbb⟩,hM⟩,hf,hsrc⟩
 have hE:evGo S 16777216 (bs.length+1) newDS 0 bs=d2E S 16777216 bs:=rfl
 rw [hE] at ho hsrc
 rw [hE]
 have hD:=d2E_d2P S 16777216 bs
 have hBF:Below w.heap.size w w2:=B1.out.trans (hf.below B1.out.size (by rintro q (e | e) <;> omega))
 obtain ⟨Ev,hEv⟩:∃ E,d2E S 16777216 bs=E:=⟨_,rfl⟩
 have hok:=evGo_ok S 16777216 (bs.length+1) newDS 0 bs
 rw [hE,hEv] at hok
 rw [hEv] at ho hsrc hD
 rw [hEv]
 obtain ⟨Av,kv,hve,-,-,-⟩:=ho.slice
 obtain ⟨Lv,hLv⟩:∃ L,(evOut Ev.1).length=L:=⟨_,rfl⟩
 rw [hLv] at hve
 subst hve
 have cv:w2.cell? ⟨w.heap.size,0,none⟩=some (.slice Av Lv kv):=by rw [hv.cell];rfl
 have zv:=hv.frozen 0
 have hso:(Value.slice Av Lv kv).ownBlock≠some w.heap.size:=fun e=>by
  rcases ho.form with ⟨h1,_⟩ | ⟨g,cap,cur,h1,_,hh,_⟩
  ·rw [h1] at e;cases e
  rw [h1] at e
  injection e with e
  subst e
  exact hh.ne_of hv (by decide) rfl
 have HO:Hid (OwnB (w2.setCell ⟨w.heap.size,0,none⟩ (.slice Av Lv kv)) 5 w.heap.size (.slice Av Lv kv) (evOut Ev.1)∧Below w.heap.size w (w2.setCell ⟨w.heap.size,0,none⟩ (.slice Av Lv kv))) :=
  hid ⟨ho.other (p:=⟨w.heap.size,0,none⟩) hso (.slice Av Lv kv),hBF.trans ((Frm.setCell (p:=⟨w.heap.size,0,none⟩) (Frm.refl (fun q=>q=w.heap.size) w2) rfl (.slice Av Lv kv)).below hBF.size (by intro q hq;omega))⟩
 have HD:=hid hD
 have HVP:=hid hv
 clear hE hD hBF hEv ho hv hM hMv hbb hf hso HRU S1 P1 hLv
 rcases hok with ⟨l,b,z,h1,h2,h3,h4,h5⟩ | ⟨⟨r,h1⟩,h2⟩
 ·have hz:evErr Ev.1=z:=by rw [h1];exact evErr_snoc h5 h2
  rw [h4] at HD
  rw [hz] at HD
  rw [hz]
  have qz:((z:Int) != 0)=true:=bne_iff_ne.2 (by omega)
  have HZ:=hid h2
  clear hsrc h1 h2 h3 h4 h5 hz
  go_wp2
  have hcv:(w2.setCell ⟨w.heap.size,0,none⟩ (.slice Av Lv kv)).cell? ⟨w.heap.size,0,none⟩=some (.slice Av Lv kv):=World.cell?_setCell_same' _ _ _ (by rw [cv];rfl)
  refine bodyPost_ret (v:=.tuple #[.slice Av Lv kv,.int .i64 0,.int .i64 (z:Int)]) (by simp [results,Tryz.f7,go_sem,hcv]) rfl ?_
  unfold DecEnd
  rw [HD.out]
  exact ⟨_,HO.out.1,HO.out.2,HZ.out,rfl⟩
 rw [h1] at hsrc
 rw [h1] at HD
 rw [evErr_zero h2]
 obtain ⟨A2,n2,c2,used,hs2,hu,hr2,hn2,hc2,hcm2⟩:=hsrc
 have HS2:=hid hs2
 have HU:=hid (And.intro hu hn2)
 clear h1 h2 hs2 hu hr2 hn2 hc2 hcm2
 have hne:w.heap.size+1≠w.heap.size:=by omega
 have SA:Hid (SrcAt w2.drew (w.heap.size+1) A2 n2 c2 used):=hid HS2.out
 have SB:Hid (SrcAt (w2.drew.setCell ⟨w.heap.size,0,none⟩ (.slice Av Lv kv)) (w.heap.size+1) A2 n2 c2 used):=hid (Pts.other SA.out (p:=⟨w.heap.size,0,none⟩) hne _)
 go_upto_region 5 with fail
 go_region_with (go_at_call 18;(first | refine (used_p _ A2 n2 c2 used _ SA.out).mono ?_ | refine (used_p _ A2 n2 c2 used _ SB.out).mono ?_);rintro e w3 ⟨rfl,rfl⟩)
 all_goals
  have hcv:(w2.setCell ⟨w.heap.size,0,none⟩ (.slice Av Lv kv)).cell? ⟨w.heap.size,0,none⟩=some (.slice Av Lv kv):=World.cell?_setCell_same' _ _ _ (by rw [cv];rfl)
  have hO2:OwnB (w2.setCell ⟨w.heap.size,0,none⟩ (.slice Av Lv kv)).drew 5 w.heap.size (.slice Av Lv kv) (evOut Ev.1):=HO.out.1
  have hB2:Below w.heap.size w (w2.setCell ⟨w.heap.size,0,none⟩ (.slice Av Lv kv)).drew:=⟨HO.out.2.os,HO.out.2.tape,HO.out.2.output,HO.out.2.size,HO.out.2.block⟩
  have O2:=hid (And.intro hO2 hB2)
  clear hO2 hB2
  go_wp2
  refine bodyPost_ret (v:=.tuple #[.slice Av Lv kv,.int .i64 (used:Int),.int .i64 0]) (by simp [results,Tryz.f7,go_sem,hcv]) rfl ?_
  unfold DecEnd
  rw [HD.out]
  have h1:=HU.out.1
  have h2:=HU.out.2
  have h3:=HN.out
  refine ⟨_,O2.out.1,O2.out.2,by omega,?_⟩
  rw [show bs.length-r.length=used by omega]
set_option maxHeartbeats 1000000 in
theorem run_arg (p:Option Addr) (S most:Int) (fput:Nat) (lb:Array Value) (w:World) (h:S<1∨16777216<S):Calls Tryz.prog 16 #[.pointer p,.int .i64 S,.int .i64 most,.func (.func fput) #[] lb] w fun e w'=>e=.returned (.int .i64 2)∧Below w.heap.size w w':=by
 have HS:=hid h
 have hbud:bud 16777216=16777216:=by decide
 clear h
 go_enter Tryz.func16,Tryz.ntmps16
 go_wp2
 go_step3
 go_wp2_with fail
 obtain ⟨W0,hW0⟩:∃ W,(w.alloc (.cells #[.func (.func fput) #[] lb] 37)).alloc (.cells #[.int .i64 0] 25)=W:=⟨_,rfl⟩
 have hs0:W0.heap.size=w.heap.size+1+1:=by rw [← hW0];simp only [World.size_alloc]
 have hE0:Pts W0 (w.heap.size+1) #[.int .i64 0] 25:=by
  rw [← hW0];have:=Pts.new (w.alloc (.cells #[.func (.func fput) #[] lb] 37)) #[.int .i64 0] 25;rwa [World.size_alloc] at this
 have hB0:Below w.heap.size w W0:=by rw [← hW0];exact ((Below.refl _ w).alloc (Nat.le_refl _) _).alloc (by simp only [World.size_alloc];omega) _
 rw [hW0]
 clear hW0
 refine (new_led 16777216 _).mono ?_;rintro e w1 ⟨rfl,hl1,hb1⟩
 rw [hs0] at hb1
 have hE1:=hE0.below hb1 (by omega)
 have hB1:=hid (hB0.trans (hb1.mono (by omega)))
 rw [hs0]
 clear hl1 hb1 hbud hE0 hB0 hs0
 go_wp2_with fail
 refine (new_size S _ w1 HS.out).mono ?_;rintro e w2 ⟨rfl,rfl⟩
 have c1:w1.cell? ⟨w.heap.size+1,0,none⟩=some (.int .i64 0):=by rw [hE1.cell];rfl
 have z1:=hE1.frozen 0
 have HE1:=hid hE1
 clear hE1
 go_wp2
 have he2:=(HE1.out.set 0 (.int .i64 2)).set 0 (.int .i64 2)
 have hce:((w1.setCell ⟨w.heap.size+1,0,none⟩ (.int .i64 2)).setCell ⟨w.heap.size+1,0,none⟩ (.int .i64 2)).cell? ⟨w.heap.size+1,0,none⟩=some (.int .i64 2):=by rw [he2.cell];rfl
 rw [Exit.noGoto_ret]
 refine bodyPost_ret (v:=.int .i64 2) (by simp [results,Tryz.f16,go_sem,hce]) rfl ?_
 have hf:Frm (fun q=>q=w.heap.size+1) w1 ((w1.setCell ⟨w.heap.size+1,0,none⟩ (.int .i64 2)).setCell ⟨w.heap.size+1,0,none⟩ (.int .i64 2)):=(((Frm.refl (fun q=>q=w.heap.size+1) w1).setCell (p:=⟨w.heap.size+1,0,none⟩) rfl _).setCell (p:=⟨w.heap.size+1,0,none⟩) rfl _)
 exact ⟨rfl,hB1.out.trans (hf.below hB1.out.size (by intro q hq;omega))⟩
set_option maxHeartbeats 1000000 in
theorem decode_arg (A:Option Addr) (n c:Nat) (S:Int) (w:World) (h:S<1∨16777216<S):Calls Tryz.prog 7 #[.slice A n c,.int .i64 S] w fun e w'=>e=.returned (.tuple #[.slice none 0 0,.int .i64 0,.int .i64 2])∧Below w.heap.size w w':=by
 have HS:=hid h
 clear h
 go_enter Tryz.func7,Tryz.ntmps7
 go_wp2_with fail
 obtain ⟨W0,hW0⟩:∃ W,w.alloc (.cells #[.slice none 0 0] 22)=W:=⟨_,rfl⟩
 have hs0:W0.heap.size=w.heap.size+1:=by rw [← hW0];simp only [World.size_alloc]
 have hP0:Pts W0 w.heap.size #[.slice none 0 0] 22:=by rw [← hW0];exact Pts.new w _ _
 have hB0:Below w.heap.size w W0:=by rw [← hW0];exact below_alloc _ _
 rw [hW0]
 clear hW0
 refine (whole_p A n c W0).mono ?_;rintro e w1 ⟨rfl,hs1,hb1⟩
 have hP1:=hP0.below hb1 hP0.lt
 have hB1:=hB0.trans (hb1.mono hB0.size)
 clear hs1 hb1 hB0 hP0 hs0
 have P1:=hid hP1
 have B1:=hid hB1
 clear hP1 hB1
 go_wp2_with fail
 refine (run_arg _ S 16777216 _ _ w1 HS.out).mono ?_;rintro e w2 ⟨rfl,hb2⟩
 have hP2:=P1.out.below hb2 P1.out.lt
 have B2:=hid (B1.out.trans (hb2.mono B1.out.size))
 have c2:w2.cell? ⟨w.heap.size,0,none⟩=some (.slice none 0 0):=by rw [hP2.cell];rfl
 have z2:=hP2.frozen 0
 have P2:=hid hP2
 clear hb2 hP2
 go_wp2
 have he2:=P2.out.set 0 (.slice none 0 0)
 have hce:(w2.setCell ⟨w.heap.size,0,none⟩ (.slice none 0 0)).cell? ⟨w.heap.size,0,none⟩=some (.slice none 0 0):=by rw [he2.cell];rfl
 refine bodyPost_ret (v:=.tuple #[.slice none 0 0,.int .i64 0,.int .i64 2]) (by simp [results,Tryz.f7,go_sem,hce]) rfl ?_
 have hf:Frm (fun q=>q=w.heap.size) w2 (w2.setCell ⟨w.heap.size,0,none⟩ (.slice none 0 0)):=((Frm.refl (fun q=>q=w.heap.size) w2).setCell (p:=⟨w.heap.size,0,none⟩) rfl _)
 exact ⟨rfl,B2.out.trans (hf.below B2.out.size (by intro q hq;omega))⟩
open Go.RowKit Rng Win Lz
def UpEnd (S most:Nat) (bs:List UInt8) (w:World) (e:Ending) (w':World):Prop :=
 ∃ v,OwnB w' 5 w.heap.size v (d2P S most bs).1∧Below w.heap.size w w' ∧
  (match (d2P S most bs).2 with
  | .inl z=>z≠0∧e=.returned (.tuple #[v,.int .i64 0,.int .i64 ((z:Nat):Int)])
  | .inr r=>r.length≤bs.length∧e=.returned (.tuple #[v,.int .i64 ((bs.length-r.length:Nat):Int),.int .i64 0]))
def leftOf (n xb:Nat) (w:World):Nat:=n-(intOf ((w.cell? ⟨xb,3,none⟩).getD (.int .i64 0))).toNat
theorem DmAt.left {w0 w:World} {K xb:Nat} {k:LK} {x:DS} {wb kb S:Nat} {A:Option Addr} {bs:List UInt8} {c most used:Nat} {all:List UInt8} {d:Nat} {wv ov:Value} {out:List UInt8} (h:DmAt w0 w K xb k x wb kb S A bs c most used all d wv ov out) (n:Nat):leftOf n xb w=n-used:=by
 unfold leftOf
 rw [h.cells.2.2.2.1]
 rfl
set_option maxRecDepth 100000 in
set_option maxHeartbeats 4000000 in
theorem up_p (A:Option Addr) (bs:List UInt8) (n c S most:Nat) (w:World) (hn:n=bs.length) (hr:BRow w w.heap.size A bs) (hc:n≤c) (hcm:c≤maxLen) (hub:n≤100000000) (hS:1≤S∧S≤16777216) (hm:most≤16777216) :
 Calls Tryz.prog 19 #[.slice A n c,.int .i64 S,.int .i64 most] w (UpEnd S most bs w):=by
 obtain ⟨R,hR⟩:∃ R,d2P S most bs=R:=⟨_,rfl⟩
 have HE:Hid (∀ e w',(∃ v,OwnB w' 5 w.heap.size v R.1∧Below w.heap.size w w'∧(match R.2 with | .inl z=>z≠0∧e=.returned (.tuple #[v,.int .i64 0,.int .i64 ((z:Nat):Int)]) | .inr r=>r.length≤n∧e=.returned (.tuple #[v,.int .i64 ((n-r.length:Nat):Int),.int .i64 0])))→UpEnd S most bs w e w'):=hid (by
  intro e w' h
  unfold UpEnd
  rw [hR,← hn]
  exact h)
 have HR:=hid hR
 have HRW:=hid (And.intro hn (And.intro hr (And.intro hc (And.intro hcm hub))))
 have HS:=hid (And.intro hS hm)
 have HL:=hid (rnew_led 16777216 w)
 clear hR hn hr hc hcm hub hS hm
 go_enter Tryz.func19,Tryz.ntmps19
 go_wp2_with fail
 refine HL.out.mono ?_;rintro e w1 ⟨rfl,hl1,hb1⟩
 have hch:=ch_ok (B:=bud 16777216) (n:=0) 0 (k:=(S:Int)) (by omega) (by have:=HS.out;show ¬ (16777216-0:Int)<S;omega)
 have HW:=hid (rnew_win w.heap.size S (bud 16777216) 0 0 w1 hl1 (by decide) (by decide) (by decide) HS.out.1.1 HS.out.1.2 hch.1)
 have HB1:=hid (And.intro hb1 (Pts.lt hl1))
 clear hl1 hb1 hch HL
 go_wp2_with fail
 refine HW.out.mono ?_;rintro e w2 ⟨wb,rfl,hw2,hwb,-,hf2⟩
 have HB2:Hid (Below w.heap.size w w2∧w.heap.size≤wb):=hid ⟨HB1.out.1.trans (hf2.below HB1.out.1.size (fun q hq=>by omega)),by have:=HB1.out.2;omega⟩
 have HW2:Hid (RWin w2 w.heap.size wb w.heap.size S true (.slice none 0 0) []):=hid ⟨hw2.p,OwnB.nil _ _ _⟩
 clear hw2 hwb hf2 HB1 HW
 have HN:=hid (refnew_p w2)
 go_wp2_with fail
 refine HN.out.mono ?_;rintro e w3 ⟨sb,lb,rfl,g1,g2,g3,hm3,hl3,hb3⟩
 have hs3:DStAt w3 (newK sb lb) 0 (fun _=>0) (fun _=>1024):=⟨hm3,hl3,fun _=>(by decide:1024<65536),g3⟩
 have hwin3:RWin w3 w.heap.size wb w.heap.size S true (.slice none 0 0) []:=⟨HW2.out.p.below hb3 HW2.out.p.lt,OwnB.nil _ _ _⟩
 have HB3:Hid (Below w.heap.size w w3∧w.heap.size≤sb∧w.heap.size≤lb):=hid ⟨HB2.out.1.trans (hb3.mono HB2.out.1.size),Nat.le_trans HB2.out.1.size g1,Nat.le_trans HB2.out.1.size g2⟩
 clear hm3 hl3 hb3 g1 g2 g3 HN HW2
 have HS3:=hid hs3
 have HWN:=hid hwin3
 clear hs3 hwin3
 go_wp2_with fail
 have hat:DmAt w (w3.alloc (.cells #[.pointer (some ⟨wb,0,none⟩),.pointer (some ⟨sb,0,none⟩),.slice A n c,.int .i64 0,.int .i64 0,.int .i64 most,.bool false,.bool false,.slice none 0 0] 82)) w.heap.size w3.heap.size (newK sb lb) newDS wb w.heap.size S A bs c most 0 [] 0 (.slice none 0 0) (.slice none 0 0) []:=by
  have hp:=Pts.new w3 #[.pointer (some ⟨wb,0,none⟩),.pointer (some ⟨sb,0,none⟩),.slice A n c,.int .i64 0,.int .i64 0,.int .i64 most,.bool false,.bool false,.slice none 0 0] 82
  have hf:Frm (fun _=>False) w3 (w3.alloc (.cells #[.pointer (some ⟨wb,0,none⟩),.pointer (some ⟨sb,0,none⟩),.slice A n c,.int .i64 0,.int .i64 0,.int .i64 most,.bool false,.bool false,.slice none 0 0] 82)):=(Frm.refl _ w3).alloc _
  refine ⟨?_,HS3.out.frm hf id id,⟨rfl,rfl,rfl⟩,⟨by show 3+0≤4;omega,by show 2≤4;omega⟩,⟨(by decide:(0:Nat)<12),fun _=>(by decide:(0:Nat)<4294967296)⟩,⟨Pts.alloc HWN.out.p _,OwnB.nil _ _ _⟩,?_,rfl,OwnB.nil _ _ _,(fun q h=>by cases h),⟨HB3.out.1.size,HB3.out.2.1,HB3.out.2.2,HB2.out.2⟩,HB3.out.1.trans (hf.below HB3.out.1.size (fun q h=>h.elim)),Nat.le_trans HB3.out.1.size hf.size,⟨Nat.zero_le _,HS.out.2⟩,Nat.le_refl _⟩
  ·rw [← HRW.out.1]
   exact hp
  show ([]:List UInt8)=lastN S []
  unfold lastN
  simp
 have HAT:=hid hat
 obtain ⟨xb,hxb⟩:∃ q,w3.heap.size=q:=⟨_,rfl⟩
 obtain ⟨w4,hw4⟩:∃ q,w3.alloc (.cells #[.pointer (some ⟨wb,0,none⟩),.pointer (some ⟨sb,0,none⟩),.slice A n c,.int .i64 0,.int .i64 0,.int .i64 most,.bool false,.bool false,.slice none 0 0] 82)=q:=⟨_,rfl⟩
 rw [hw4,hxb] at HAT
 rw [hw4,hxb]
 clear hat hw4 hxb HS3 HWN HB3 HB2
 go_loopw [12] (fun v12 wr=>True∧Hid (∃ (f used:Nat) (k:LK) (x:DS) (all out:List UInt8) (wv ov:Value),DmAt w wr w.heap.size xb k x wb w.heap.size S A bs c most used all 0 wv ov out∧used≤n∧n-used<f∧d2Go S most f x out (bs.drop used)=R)) (fun _ wr=>leftOf n xb wr)
 case atStart=>exact ⟨trivial,hid ⟨bs.length+1,0,_,_,_,_,_,_,HAT.out,Nat.zero_le _,by have:=HRW.out.1;omega,HR.out⟩⟩
 case round =>
 obtain ⟨-,HX⟩:=hrel
 obtain ⟨f,used,k,x,all,out,wv,ov,hat,hu,hf,hgo⟩:=HX.out
 obtain ⟨f1,rfl⟩:∃ f1,f=f1+1:=⟨f-1,by omega⟩
 unfold d2Go at hgo
 have HC:=hid (chunk_d hat HRW.out.2.1 (by have:=HRW.out;omega) (by have:=HRW.out.1;omega) HS.out.1)
 have HGO:=hid (And.intro hgo (And.intro hu (And.intro hf (hat.left n))))
 clear hat hu hf hgo HX HAT
 go_wp2_with fail
 refine HC.out.mono ?_;rintro e w5 hde
 rcases hde with ⟨z,h1,h2,rfl,ov',h4,h5,h6,h7⟩ | ⟨u',h1,h2,rfl,k',wv',ov',h4⟩ | ⟨t,y,u',h1,h2,h3,⟨h4,rfl,ov',h6,h7,h8,h9⟩ | ⟨h4,rfl,k',all',wv',ov',h6⟩⟩
 ·have hgo:=HGO.out.1
  rw [h1] at hgo
  have HZ:Hid ((out,Sum.inl z)=R):=hid hgo
  have HO:=hid (And.intro h5 (And.intro h6 h2))
  have q0:((z:Int)==0)=false:=beq_eq_false_iff_ne.2 (by omega)
  clear hgo h1 h2 h5 h6 h7 HC HGO
  go_wp2
  go_ret3
  refine HE.out _ _ ⟨ov',?_,HO.out.2.1,?_⟩
  ·rw [← HZ.out];exact HO.out.1
  rw [← HZ.out];exact ⟨HO.out.2.2,rfl⟩
 ·have hgo:=HGO.out.1
  rw [h1] at hgo
  have HZ:Hid ((out,Sum.inr (bs.drop u'))=R):=hid hgo
  have HO:=hid h4
  obtain ⟨-,-,-,c3,-,-,-,-,c8⟩:=h4.cells
  have HU:Hid (u'≤bs.length):=hid h2
  clear hgo h1 h2 h4 HC HGO
  go_upto_region 9 with fail
  go_quiet (fail)
  go_wp2
  go_ret3
  refine HE.out _ _ ⟨ov',?_,?_,?_⟩
  ·rw [← HZ.out];exact (HO.out.drewN _).o
  ·exact (HO.out.drewN _).b
  rw [← HZ.out]
  have e1:(bs.drop u').length=n-u':=by rw [List.length_drop,HRW.out.1]
  have e2:n-(bs.drop u').length=u':=by have:=HU.out;have:=HRW.out.1;omega
  refine ⟨by rw [e1];omega,?_⟩
  show _=Ending.returned (.tuple #[ov',.int .i64 ((n-(bs.drop u').length:Nat):Int),.int .i64 0])
  rw [e2]
  rfl
 ·have hgo:=HGO.out.1
  rw [h1] at hgo
  have hgo2:(if most<out.length+t.length then (out,Sum.inl 3) else d2Go S most f1 { y with total:=y.total+t.length } (out++t) (bs.drop u'))=R:=hgo
  rw [if_pos h4] at hgo2
  have HZ:Hid ((out,Sum.inl 3)=R):=hid hgo2
  have HO:=hid (And.intro h7 h8)
  clear hgo hgo2 h1 h2 h3 h4 h7 h8 h9 HC HGO
  go_wp2
  go_ret3
  refine HE.out _ _ ⟨ov',?_,HO.out.2,?_⟩
  ·rw [← HZ.out];exact HO.out.1
  rw [← HZ.out];exact ⟨by decide,rfl⟩
 have hgo:=HGO.out.1
 rw [h1] at hgo
 have hgo2:(if most<out.length+t.length then (out,Sum.inl 3) else d2Go S most f1 { y with total:=y.total+t.length } (out++t) (bs.drop u'))=R:=hgo
 rw [if_neg h4] at hgo2
 have HX2:Hid (∃ (f used:Nat) (k:LK) (x:DS) (all out:List UInt8) (wv ov:Value),DmAt w w5 w.heap.size xb k x wb w.heap.size S A bs c most used all 0 wv ov out∧used≤n∧n-used<f∧d2Go S most f x out (bs.drop used)=R) :=
  hid ⟨f1,u',k',_,all',_,wv',ov',h6,by have:=HRW.out.1;omega,by have:=HGO.out;have:=HRW.out.1;omega,hgo2⟩
 have HM:Hid (leftOf n xb w5<leftOf n xb wr):=hid (by rw [h6.left n,HGO.out.2.2.2];have:=HGO.out;have:=HRW.out.1;omega)
 clear hgo hgo2 h1 h2 h3 h4 h6 HC HGO
 go_wp2
 exact ⟨⟨trivial,HX2⟩,HM.out⟩
theorem up_arg (A:Option Addr) (n c:Nat) (S:Int) (most:Nat) (w:World) (h:S<1∨16777216<S):Calls Tryz.prog 19 #[.slice A n c,.int .i64 S,.int .i64 most] w fun e w'=>e=.returned (.tuple #[.slice none 0 0,.int .i64 0,.int .i64 2])∧Below w.heap.size w w':=by
 have HH:=hid h
 have HL:=hid (rnew_led 16777216 w)
 clear h
 go_enter Tryz.func19,Tryz.ntmps19
 go_wp2_with fail
 refine HL.out.mono ?_;rintro e w1 ⟨rfl,-,hb1⟩
 have HB:=hid hb1
 clear hb1
 go_wp2_with fail
 refine (rnew_size S _ _ HH.out).mono ?_;rintro e w2 ⟨rfl,rfl⟩
 go_wp2
 go_ret3
 exact ⟨rfl,HB.out⟩
theorem ddecode_p (A:Option Addr) (bs:List UInt8) (n c S:Nat) (w:World) (hn:n=bs.length) (hr:BRow w w.heap.size A bs) (hc:n≤c) (hcm:c≤maxLen) (hub:n≤100000000) (hS:1≤S∧S≤16777216) :
 Calls Tryz.prog 8 #[.slice A n c,.int .i64 S] w (DecEnd S bs w):=by
 have HU:=hid (up_p A bs n c S 16777216 w hn hr hc hcm hub hS (Nat.le_refl _))
 clear hn hr hc hcm hub hS
 go_enter Tryz.func8,Tryz.ntmps8
 go_wp2_with fail
 refine HU.out.mono ?_;rintro e w1 ⟨v,h1,h2,h3⟩
 obtain ⟨u,z,he⟩:∃ u z,e=.returned (.tuple #[v,u,z]):=by
  split at h3
  ·exact ⟨_,_,h3.2⟩
  exact ⟨_,_,h3.2⟩
 subst he
 have HX:Hid (DecEnd S bs w (.returned (.tuple #[v,u,z])) w1):=hid ⟨v,h1,h2,h3⟩
 clear h1 h2 h3
 go_wp2
 go_ret3
 exact HX.out
theorem ddecode_arg (A:Option Addr) (n c:Nat) (S:Int) (w:World) (h:S<1∨16777216<S):Calls Tryz.prog 8 #[.slice A n c,.int .i64 S] w fun e w'=>e=.returned (.tuple #[.slice none 0 0,.int .i64 0,.int .i64 2])∧Below w.heap.size w w':=by
 have HU:=hid (up_arg A n c S 16777216 w h)
 clear h
 go_enter Tryz.func8,Tryz.ntmps8
 go_wp2_with fail
 refine HU.out.mono ?_;rintro e w1 ⟨rfl,hb⟩
 have HB:=hid hb
 clear hb
 go_wp2
 go_ret3
 exact ⟨rfl,HB.out⟩
end Go.Proofs.YtffehfpbdcokbaaGreat
