import Derived.RegionTactic
import Derived.ChangeAlike
import Derived.Deep.RegionLaw
import Derived.Test.YtffehfpbdcokbaaGreatBu6
import Derived.Test.YtffehfpbdcokbaaGreatBu9
set_option linter.unusedVariables false
set_option linter.unusedSimpArgs false
namespace Go.Proofs.YtffehfpbdcokbaaGreat
open Lib (hid)
open Go.RowKit Win
end Go.Proofs.YtffehfpbdcokbaaGreat
namespace Go.Proofs.YtffehfpbdcokbaaGreat.Win
open Go.RowKit
theorem cyc_getD (C:List UInt8) {back n t:Nat} (h:t<n):(cyc C back n).getD t 0=C.getD (C.length-back+t % back) 0:=by
 unfold cyc
 simp [List.getD,h]
theorem cyc_last {S back n:Nat} {all:List UInt8} (h1:1≤back) (h2:back≤S) (h3:back≤all.length):cyc (lastN S all) back n=cyc all back n:=by
 apply List.ext_getElem
 ·simp [cyc]
 intro t ht1 ht2
 rw [cyc_length] at ht1
 have hr:t % back<back:=Nat.mod_lt _ h1
 have e1:=cyc_getD (lastN S all) (back:=back) ht1
 have e2:=cyc_getD all (back:=back) ht1
 simp only [List.getD] at e1 e2
 rw [List.getElem?_eq_getElem (by rw [cyc_length];exact ht1)] at e1 e2
 simp only [Option.getD_some] at e1 e2
 rw [e1,e2,lastN_length]
 unfold lastN
 rw [List.getElem?_drop]
 congr 2
 omega
theorem copy_step {back n k:Nat} {all:List UInt8} (h1:1≤back) (h3:back≤all.length) (hk:k<n):(all++(cyc all back n).take k).getD (all.length+k-back) 0=(cyc all back n).getD k 0:=by
 have hr:k % back<back:=Nat.mod_lt _ h1
 rw [cyc_getD all hk]
 by_cases hb:k<back
 ·rw [Nat.mod_eq_of_lt hb]
  simp only [List.getD]
  rw [List.getElem?_append_left (by omega)]
  congr 2
  omega
 have e:(all++(cyc all back n).take k).getD (all.length+k-back) 0=(cyc all back n).getD (k-back) 0:=by
  simp only [List.getD]
  rw [List.getElem?_append_right (by omega),List.getElem?_take,if_pos (by omega)]
  congr 2
  omega
 rw [e,cyc_getD all (by omega)]
 congr 2
 have:(k-back+back) % back=(k-back) % back:=Nat.add_mod_right _ _
 rw [show k-back+back=k by omega] at this
 exact this.symm
theorem take_snoc {l:List UInt8} {k:Nat} (h:k<l.length):l.take k++[l.getD k 0]=l.take (k+1):=by
 rw [List.take_succ_eq_append_getElem h];simp [List.getD,h]
end Go.Proofs.YtffehfpbdcokbaaGreat.Win
namespace Go.Proofs.YtffehfpbdcokbaaGreat
open Lib (hid)
open Go.RowKit Win
open Go.RowKit
def RLed (w:World) (b:Nat) (B n m:Int):Prop:=Pts w b (ledCells B n m) 176
theorem RLed.set {w:World} {b:Nat} {B n m n':Int} (h:RLed w b B n m):RLed (w.setCell ⟨b,1,none⟩ (.int .i64 n')) b B n' m:=Pts.set h 1 _
theorem RLed.set2 {w:World} {b:Nat} {B n m m':Int} (h:RLed w b B n m):RLed (w.setCell ⟨b,2,none⟩ (.int .i64 m')) b B n m':=Pts.set h 2 _
theorem rnew_led (B:Int) (w:World) :
 Calls Tryz.prog 39 #[.int .i64 B] w fun e w'=>e=.returned (.pointer (some ⟨w.heap.size,0,none⟩))∧RLed w' w.heap.size (bud B) 0 0∧Below w.heap.size w w':=by
 go_enter Tryz.func39,Tryz.ntmps39
 go_wp2
 all_goals
  go_ret
  refine ⟨rfl,?_,(Below.refl _ _).alloc (Nat.le_refl _) _⟩
  first | (rw [show bud B=0 by unfold bud;omega];exact Pts.new _ _ _) | (rw [show bud B=16777216 by unfold bud;omega];exact Pts.new _ _ _) | (rw [show bud B=B by unfold bud;omega];exact Pts.new _ _ _)
theorem rcharge_led (b:Nat) (B n m k:Int) (w:World) (h:RLed w b B n m) (hB:0≤B∧B≤16777216) (hn:0≤n∧n≤B) (hm:n≤m∧m≤B) :
 Calls Tryz.prog 82 #[.pointer (some ⟨b,0,none⟩),.int .i64 k] w fun e w' =>
  e=.returned (.int .i64 (chE B n k))∧RLed w' b B (chN B n k) (chM B n m k)∧Frm (· = b) w w':=by
 have h0:w.cell? ⟨b,0,none⟩=some (.int .i64 B):=h.cell 0
 have h1:w.cell? ⟨b,1,none⟩=some (.int .i64 n):=h.cell 1
 have h2:w.cell? ⟨b,2,none⟩=some (.int .i64 m):=h.cell 2
 have f1:=h.frozen 1
 have f2:=h.frozen 2
 have HL:=hid h
 clear h
 obtain ⟨hB0,hB1⟩:=hB
 obtain ⟨hn0,hn1⟩:=hn
 obtain ⟨hm0,hm1⟩:=hm
 by_cases hk:k<0
 ·have H:=hid (ch_neg (B:=B) (n:=n) m hk)
  go_enter Tryz.func82,Tryz.ntmps82
  go_wp2
  go_ret
  exact ⟨ret_int H.out.1.symm,by rw [H.out.2.1,H.out.2.2];exact HL.out,Frm.refl _ _⟩
 by_cases hov:B-n<k
 ·have H:=hid (ch_over (B:=B) (n:=n) m hk hov)
  go_enter Tryz.func82,Tryz.ntmps82
  go_wp2
  go_region
  go_wp2
  go_ret
  exact ⟨ret_int H.out.1.symm,by rw [H.out.2.1,H.out.2.2];exact HL.out,(Frm.refl _ _).drew⟩
 have H:=hid (ch_ok (B:=B) (n:=n) m hk hov)
 by_cases hmn:m<n+k
 ·go_enter Tryz.func82,Tryz.ntmps82
  go_wp2
  go_region
  go_wp2
  go_region
  all_goals
   go_wp2
   go_ret
   exact ⟨ret_int H.out.1.symm,by rw [H.out.2.1,H.out.2.2,show max m (n+k)=n+k by omega];exact RLed.set2 (RLed.set HL.out),(((Frm.refl _ _).setCell (by rfl) _).setCell (by rfl) _).drewN 2⟩
 go_enter Tryz.func82,Tryz.ntmps82
 go_wp2
 go_region
 go_wp2
 go_region
 all_goals
  go_wp2
  go_ret
  exact ⟨ret_int H.out.1.symm,by rw [H.out.2.1,H.out.2.2,show max m (n+k)=m by omega];exact RLed.set2 (RLed.set HL.out),(((Frm.refl _ _).setCell (by rfl) _).setCell (by rfl) _).drewN 2⟩
open Go.RowKit Win
structure RWin (w:World) (base b k S:Nat) (on:Bool) (v:Value) (all:List UInt8):Prop where
 p:Pts w b #[v,.int .i64 S,.bool (!on),.pointer (some ⟨k,0,none⟩)] 174
 o:OwnB w 5 base v all
def Mvd (w:World) (v u:Value):Prop:=u.ownBlock=v.ownBlock∨∃ g,u.ownBlock=some g∧w.heap.size≤g
theorem RWin.nb {w:World} {base b k S:Nat} {on:Bool} {v:Value} {all:List UInt8} (h:RWin w base b k S on v all):v.ownBlock≠some b:=own_ne h.o h.p (by decide)
theorem BRow.oneW (w:World) (T:TypeId) (x:UInt8):BRow (w.alloc (.cells #[.int .u8 (x.toNat:Int)] T (0,0))) (w.heap.size+1) (some ⟨w.heap.size,0,none⟩) [x]:=by
 intro _
 refine ⟨w.heap.size,0,rfl,Nat.lt_succ_self _,fun j hj=>?_⟩
 obtain rfl:j=0:=by simpa using hj
 exact ((Pts.new w #[.int .u8 (x.toNat:Int)] T).cell 0).trans rfl
theorem rnew_win (k S:Nat) (B n m:Int) (w:World) (hl:RLed w k B n m) (hB:0≤B∧B≤16777216) (hn:0≤n∧n≤B) (hm:n≤m∧m≤B) (h1:1≤S) (h2:S≤16777216) (hc:chE B n S=0) :
 Calls Tryz.prog 38 #[.int .i64 S,.pointer (some ⟨k,0,none⟩)] w fun e w'=>∃ b,e=.returned (.tuple #[.pointer (some ⟨b,0,none⟩),.int .i64 0])∧RWin w' w.heap.size b k S true (.slice none 0 0) []∧w.heap.size≤b ∧
  RLed w' k B (chN B n S) (chM B n m S)∧Frm (· = k) w w':=by
 have HL:=hid hl
 have HC:=hid hc
 have klt:=Pts.lt hl
 clear hl hc
 go_enter Tryz.func38,Tryz.ntmps38
 go_wp2_with (go_at_call 82;refine (rcharge_led _ B n m _ _ HL.out hB hn hm).mono ?_;rintro e w1 ⟨rfl,hL1,hF1⟩;rw [HC.out])
 go_ret2
 have hp:=Pts.new w1 #[.slice none 0 0,.int .i64 S,.bool (!true),.pointer (some ⟨k,0,none⟩)] 174
 exact ⟨w1.heap.size,rfl,⟨hp,OwnB.nil _ _ _⟩,hF1.size,Pts.alloc hL1 _,hF1.alloc _⟩
theorem rput_on (base b k S c B n:Nat) (v:Value) (all bs:List UInt8) (A:Option Addr) (w:World) (hw:RWin w base b k S true v all) (hn:n=bs.length) (hr:BRow w B A bs) (hlen:all.length+bs.length≤140737488355328) (hbase:base≤w.heap.size) :
 Calls Tryz.prog 145 #[.pointer (some ⟨b,0,none⟩),.slice A n c] w fun e w'=>∃ v':Value,e=.returned (.tuple #[])∧RWin w' base b k S true v' (all++bs)∧Frm (fun x=>x=b∨v.ownBlock=some x) w w'∧Mvd w v v':=by
 have c0:w.cell? ⟨b,0,none⟩=some v:=by rw [hw.p.cell];rfl
 have c2:w.cell? ⟨b,2,none⟩=some (.bool false):=by rw [hw.p.cell];rfl
 have hnb:=hw.nb
 obtain ⟨A0,k0,rfl,hc0,hm0,hr0⟩:=hw.o.slice
 have HW:=hid hw
 have HN:=hid hn
 have HR:=hid hr
 have NB:=hid hnb
 clear hw hn hr hnb hr0
 go_enter Tryz.func145,Tryz.ntmps145
 go_wp2_with (at_builtin;refine wpList_append_bytes _ rfl (.tmp 13) (.tmp 14) 22 rfl 5 base Tryz.underlying22 Tryz.info_u8 (.slice A0 all.length k0) all rfl ?own1 A n c B bs rfl ?len0 ?row1 ?len1 ?base1 ?next1)
 case own1=>exact HW.out.o
 case len0=>exact HN.out
 case row1=>exact HR.out
 case len1=>exact hlen
 case base1=>exact hbase
 case next1 =>
 intro v1 w1 hown1 hfrm1 hnew1
 obtain ⟨A1,k1,rfl,-,-,-⟩:=hown1.slice
 obtain ⟨L1,hL1⟩:∃ L,(all++bs).length=L:=⟨_,rfl⟩
 rw [hL1] at hown1 hnew1 ⊢
 clear hL1
 obtain ⟨v1,hv1⟩:∃ v,v=Value.slice A1 L1 k1:=⟨_,rfl⟩
 rw [← hv1] at hown1 hnew1
 have hp1:=HW.out.p.frm hfrm1 (fun e=>NB.out e)
 have f0:=hp1.frozen 0
 have d0:w1.cell? ⟨b,0,none⟩=some (.slice A0 all.length k0):=by rw [hp1.cell];rfl
 have hb1:v1.ownBlock≠some b:=own_ne hown1 hp1 (by decide)
 have hm:Mvd w (.slice A0 all.length k0) v1:=by
  rcases hnew1 with h | h
  ·exact .inl h
  exact .inr ⟨_,h,Nat.le_refl _⟩
 have hp2:=hp1.set 0 v1
 have ho2:=hown1.other (p:=⟨b,0,none⟩) hb1 v1
 have hf2:Frm (fun x=>x=b∨(Value.slice A0 all.length k0).ownBlock=some x) w (w1.setCell ⟨b,0,none⟩ v1):=(hfrm1.mono (fun q _ hq=>.inr hq)).setCell (p:=⟨b,0,none⟩) (.inl rfl) _
 have P2:=hid hp2
 have O2:=hid ho2
 have F2:=hid hf2
 have M2:=hid hm
 clear hp1 hb1 hm hp2 ho2 hf2 hown1 hfrm1 hnew1 c0 c2
 subst hv1
 go_wp2
 go_end0
 exact ⟨_,rfl,⟨P2.out,O2.out⟩,F2.out,M2.out⟩
theorem rclear_any (base b k S:Nat) (on:Bool) (v:Value) (all:List UInt8) (w:World) (hw:RWin w base b k S on v all) :
 Calls Tryz.prog 144 #[.pointer (some ⟨b,0,none⟩)] w fun e w'=>e=.returned (.tuple #[])∧RWin w' base b k S on (.slice none 0 0) []∧Frm (fun x=>x=b) w w':=by
 have c0:w.cell? ⟨b,0,none⟩=some v:=by rw [hw.p.cell];rfl
 have f0:=hw.p.frozen 0
 obtain ⟨A0,k0,rfl,hc0,hm0,hr0⟩:=hw.o.slice
 have HW:=hid hw
 clear hw hr0
 go_enter Tryz.func144,Tryz.ntmps144
 go_wp2
 go_end0
 exact ⟨rfl,⟨HW.out.p.set 0 _,OwnB.nil _ _ _⟩,(Frm.refl _ w).setCell (by rfl) _⟩
open Go.RowKit Win
theorem Frm.trans' {S T:Nat→Prop} {a b c:World} {n:Nat} (h:Frm S a b) (hn:n<a.heap.size) (k:Frm T b c) (hs:∀ q,T q→q<a.heap.size→S q):Frm S a c :=
 ⟨k.os.trans h.os,k.tape.trans h.tape,k.output.trans h.output,Nat.le_trans h.size k.size,fun q hq hS=>(k.block q (Nat.lt_of_lt_of_le hq h.size) (fun ht=>hS (hs q ht hq))).trans (h.block q hq hS)⟩
theorem rat_no (base b k S:Nat) (on:Bool) (back:Int) (v:Value) (all:List UInt8) (w:World) (hw:RWin w base b k S on v all)
 (h:on=false∨back<1∨(S:Int)<back∨(all.length:Int)<back) :
 Calls Tryz.prog 174 #[.pointer (some ⟨b,0,none⟩),.int .i64 back] w fun e w'=>e=.returned (.tuple #[.int .u8 0,.bool false])∧w=w':=by
 obtain ⟨A0,k0,rfl,hc0,hm0,hr0⟩:=hw.o.slice
 have c0:w.cell? ⟨b,0,none⟩=some (.slice A0 all.length k0):=by rw [hw.p.cell];rfl
 have c1:w.cell? ⟨b,1,none⟩=some (.int .i64 S):=by rw [hw.p.cell];rfl
 have c2:w.cell? ⟨b,2,none⟩=some (.bool (!on)):=by rw [hw.p.cell];rfl
 have h3:on=false∨(on=true∧back<1)∨(on=true∧1≤back∧(S:Int)<back)∨(on=true∧1≤back∧back≤(S:Int)∧(all.length:Int)<back):=by
  cases on
  ·exact .inl rfl
  have h4:back<1∨(S:Int)<back∨(all.length:Int)<back:=by simpa using h
  refine .inr ?_
  by_cases a1:back<1
  ·exact .inl ⟨rfl,a1⟩
  by_cases a2:(S:Int)<back
  ·exact .inr (.inl ⟨rfl,by omega,a2⟩)
  exact .inr (.inr ⟨rfl,by omega,by omega,by omega⟩)
 clear hw hr0 h
 rcases h3 with rfl | ⟨rfl,h⟩ | ⟨rfl,h,h2⟩ | ⟨rfl,h,h2,h4⟩
 all_goals
  go_enter Tryz.func174,Tryz.ntmps174
  go_wp2
  go_ret2
  exact ⟨rfl,rfl⟩
theorem rat_yes (base b k S back:Nat) (v:Value) (all:List UInt8) (w:World) (hw:RWin w base b k S true v all) (h1:1≤back) (h2:back≤S) (h3:back≤all.length) (hl:all.length≤140737488355328) :
 Calls Tryz.prog 174 #[.pointer (some ⟨b,0,none⟩),.int .i64 back] w fun e w'=>e=.returned (.tuple #[.int .u8 ((all.getD (all.length-back) 0).toNat:Int),.bool true])∧∃ d,w'=w.drewN d:=by
 obtain ⟨A0,k0,rfl,hc0,hm0,hr0⟩:=hw.o.slice
 have c0:w.cell? ⟨b,0,none⟩=some (.slice A0 all.length k0):=by rw [hw.p.cell];rfl
 have c1:w.cell? ⟨b,1,none⟩=some (.int .i64 S):=by rw [hw.p.cell];rfl
 have c2:w.cell? ⟨b,2,none⟩=some (.bool false):=by rw [hw.p.cell];rfl
 obtain ⟨g,off,rfl,hg,hc⟩:=hr0 (by omega)
 have e1:=hc (all.length-back) (by omega)
 unfold byteV at e1
 obtain ⟨q,hq⟩:∃ q,all.length-back=q:=⟨_,rfl⟩
 rw [hq] at e1 ⊢
 have hsub:(all.length:Int)-(back:Int)=(q:Int):=by omega
 have hwq:IntKind.i64.wrap (q:Int)=(q:Int):=Go.IntWalk.i64_in _ (by omega)
 have hlt:q<all.length:=by omega
 have hq0:decide (back<1)=false:=decide_eq_false (by omega)
 have hq1:decide (S<back)=false:=decide_eq_false (by omega)
 have hq2:decide (all.length<back)=false:=decide_eq_false (by omega)
 generalize all.getD q 0=x at *
 clear hw hc hr0 hq
 go_enter Tryz.func174,Tryz.ntmps174
 go_wp2
 go_quiet (fail)
 go_wp2
 go_ret2
 exact ⟨rfl,_,rfl⟩
theorem rcopy_bad (base b k S:Nat) (back n:Int) (v:Value) (all:List UInt8) (w:World) (hw:RWin w base b k S true v all) (hn:0≤n∧n≤16777216) (hb:back<1∨(S:Int)<back∨(all.length:Int)<back) :
 Calls Tryz.prog 166 #[.pointer (some ⟨b,0,none⟩),.int .i64 back,.int .i64 n] w fun e w'=>e=.returned (.tuple #[.slice none 0 0,.int .i64 11])∧w=w':=by
 have c2:w.cell? ⟨b,2,none⟩=some (.bool false):=by rw [hw.p.cell];rfl
 have HA:=hid (rat_no base b k S true back v all w hw (.inr hb))
 obtain ⟨n1,n2⟩:=hn
 clear hw hb
 go_enter Tryz.func166,Tryz.ntmps166
 go_wp2_with (go_at_call 174;refine HA.out.mono ?_;rintro e w2 ⟨rfl,rfl⟩)
 go_ret2
 exact ⟨rfl,rfl⟩
end Go.Proofs.YtffehfpbdcokbaaGreat
