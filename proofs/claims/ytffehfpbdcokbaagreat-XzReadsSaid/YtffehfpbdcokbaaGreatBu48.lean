import Derived.ArgAppend
import Derived.Lib.SlBytesConst
import Derived.Test.YtffehfpbdcokbaaGreatBu44
import Derived.Test.YtffehfpbdcokbaaGreatBu45
import Derived.Test.YtffehfpbdcokbaaGreatBu47
set_option linter.unusedVariables false
set_option linter.unusedSimpArgs false
namespace Go.Proofs.YtffehfpbdcokbaaGreat
open Lib (hid)
open Go.RowKit Rng Win Lz Box
theorem mem_ok {bud m u:Nat} {bs T r:List UInt8} {w w':World} {e:Ending} (h:MemEnd bud bs w e w') (hd:xP bud bs=(T,.inr r)) (hm:T.length=m) (hu:bs.length-r.length=u) :
 ∃ A c,e=.returned (.tuple #[.slice A m c,.int .i64 (u:Int),.int .i64 0])∧OwnB w' 5 w.heap.size (.slice A m c) T∧BRow w' w'.heap.size A T∧Below w.heap.size w w':=by
 subst hm;subst hu
 obtain ⟨v,h1,h2,h3⟩:=h
 rw [hd] at h1 h3
 obtain ⟨A,c,rfl,-,-,hr⟩:=h1.slice
 exact ⟨A,c,h3.2,h1,hr,h2⟩
theorem mem_err {bud z m:Nat} {bs T:List UInt8} {w w':World} {e:Ending} (h:MemEnd bud bs w e w') (hd:xP bud bs=(T,.inl z)) (hm:T.length=m) :
 ∃ A c,e=.returned (.tuple #[.slice A m c,.int .i64 0,.int .i64 ((z:Nat):Int)])∧OwnB w' 5 w.heap.size (.slice A m c) T∧BRow w' w'.heap.size A T∧Below w.heap.size w w'∧z≠0:=by
 subst hm
 obtain ⟨v,h1,h2,h3⟩:=h
 rw [hd] at h1 h3
 obtain ⟨A,c,rfl,-,-,hr⟩:=h1.slice
 exact ⟨A,c,h3.2,h1,hr,h2,h3.1⟩
theorem wpList_append_fullB {P:Program} (w:World) {ops:Array Oper} {rest:List Oper} {o:Oper} {a:Act} {Q:Exit→Act→World→Prop}
 (hg:o.guard=none) (s x:Operand) (t:TypeId) (hop:o.op=Op.call { callee:=Callee.builtin Builtin.append,args:=#[s,x],argTypes:=#[t,t] })
 (T:TypeId) (h1:P.underlying t=some (.slice T)) (hinfo:(P.info? T).map (fun i=>(i.zero,i.size,i.bytes))=some (some (.int .u8 0),1,1))
 (ao:Addr) (n cap B:Nat) (bs:List UInt8) (hs:a.eval s=.slice (some ao) n cap) (hn:n=bs.length) (hn0:0<n) (hr:BRow w B (some ao) bs)
 (ad:Addr) (m c B2:Nat) (news:List UInt8) (hx:a.eval x=.slice (some ad) m c) (hm:m=news.length) (hm0:0<m) (hc:BRow w B2 (some ad) news)
 (hfull:cap<n+m) (b1:n+m≤140737488355328)
 (hK:∀ v' w',OwnB w' T w.heap.size v' (bs++news)→Below w.heap.size w w'→wpList P ops Q rest (a.put o.dst v') w') :
 wpList P ops Q (o::rest) a w:=by
 obtain ⟨i,hi,hzz⟩:=Option.map_eq_some_iff.1 hinfo
 simp only [Prod.mk.injEq] at hzz
 obtain ⟨hz,hs1,hby⟩:=hzz
 subst hn
 subst hm
 refine wpList_append_grows w hg s x t hop T i (.int .u8 0) 1 1 h1 hi hz hs1 hby rfl (by omega) (some ao) bs.length cap (bs.map byteV) hs (fun h=>by cases h) (by simp) ?_ ad news.length c (news.map byteV) hx (by simp) ?_ (oneCell_byte news) hfull (by unfold maxLen;omega) (by omega) ?_
 ·rintro b hb j u hj
  injection hb with hb
  subst hb
  rw [List.getElem?_map] at hj
  obtain ⟨y,hy,rfl⟩:=Option.map_eq_some_iff.1 hj
  have hjl:j<bs.length:=(List.getElem?_eq_some_iff.1 hy).1
  obtain ⟨b,off,e,_,hcc⟩:=hr (by omega)
  injection e with e
  subst e
  rw [Opn.add_at,hcc j hjl]
  simp [List.getD,hy]
 ·intro j u hj
  rw [List.getElem?_map] at hj
  obtain ⟨y,hy,rfl⟩:=Option.map_eq_some_iff.1 hj
  have hjl:j<news.length:=(List.getElem?_eq_some_iff.1 hy).1
  obtain ⟨b,off,e,_,hcc⟩:=hc (by omega)
  injection e with e
  subst e
  rw [Opn.add_at,hcc j hjl]
  simp [List.getD,hy]
 intro v' w' h2 h3
 refine hK v' w' ?_ ⟨h3.os,h3.tape,h3.output,h3.size,fun k hk=>h3.block k hk (by simp)⟩
 unfold OwnB
 rw [List.length_append,List.map_append]
 exact h2
def emptyX:List UInt8:=[253,55,122,88,90,0,0,1,105,34,222,54,0,0,0,0,28,223,68,33,144,66,153,13,1,0,0,0,0,1,89,90]
def abcX:List UInt8:=[97,98,99]
theorem empty_d:xP 0 emptyX=([],.inr []):=by kernel_rfl
theorem empty_more:xP 0 (emptyX++[0,0,0,0,0])=([],.inr [0]):=by kernel_rfl
theorem empty_cut:xP 0 (emptyX.take 31)=([],.inl 10):=by kernel_rfl
theorem empty_win:winX emptyX=(0,0):=by kernel_rfl
theorem abc_len:(madeX 4 true 0 [abcX]).length=60:=by kernel_rfl
theorem abc_d:xP 1048576 (madeX 4 true 0 [abcX])=(abcX,.inr []):=by
 have h:=madeX_read (kc:=4) (.inr (.inr rfl)) true (code:=0) (by decide) (budget:=1048576) (l:=[abcX]) (.inr (by decide)) (by decide) (by decide) (by decide) []
 rw [List.append_nil] at h
 unfold xP
 rw [h]
 rfl
theorem mem_row {bs:List UInt8} {A:Option Addr} {B k c:Nat} {w:World} (bud:Int) (b2:Nat) (hbu:budOf bud=b2) (hr:BRow w B A bs) (hB:B≤w.heap.size) (hk:k=bs.length) (hb:bs.length≤1000) (hc:k≤c) (hcm:c≤maxLen) :
 Calls Tryz.prog 10 #[.slice A k c,.int .i64 bud] w (MemEnd b2 bs w):=by
 subst hbu
 exact member_p A bs k c bud w hk (hr.more hB) hc hcm (by omega)
set_option maxRecDepth 100000 in
set_option maxHeartbeats 4000000 in
theorem wakes20 (w:World):Calls Tryz.prog 9 #[] w fun e w'=>e=.returned (.bool true)∧Below w.heap.size w w':=by
 have hcv:=fun (w:World) (C:Array Value) (n c:Nat)=>Lib.run_convert_bytes_const (P:=Tryz.prog) w 22 5 C n c Tryz.underlying22 Tryz.underlying5
 have hem:∀ w:World,Calls Tryz.prog 20 #[] w fun e w'=>e=.returned (.slice (some ⟨w.heap.size,0,none⟩) 32 32)∧BRow w' w'.heap.size (some ⟨w.heap.size,0,none⟩) emptyX∧Below w.heap.size w w':=by
  intro w
  go_enter Tryz.func20,Tryz.ntmps20
  go_wp2
  go_ret
  exact ⟨rfl,by rw [World.size_alloc];exact row_cellsX w _ emptyX _ rfl,below_alloc _ _⟩
 go_enter Tryz.func9,Tryz.ntmps9
 go_wp2_with fail
 refine (hem w).mono ?_;rintro e w1 ⟨rfl,hr1,hb1⟩
 obtain ⟨q,hq⟩:∃ q,w.heap.size=q:=⟨_,rfl⟩
 have R1:=hid hr1
 have B1:=hid hb1
 rw [hq] at R1
 rw [hq]
 clear hr1 hb1
 go_wp2_with fail
 refine (mem_row 0 0 rfl R1.out (Nat.le_refl _) rfl (by decide) (Nat.le_refl _) (by decide)).mono ?_;rintro e w2 hd
 obtain ⟨A2,c2,rfl,-,hr2,hb2⟩:=mem_ok (m:=0) (u:=32) hd empty_d rfl rfl
 have R2:=hid (R1.out.below hb2)
 have B2:=hid (B1.out.trans (hb2.mono B1.out.size))
 have Z2:=hid hb2.size
 clear hd hr2 hb2
 go_wp2_with (at_builtin;refine wpList_append_fullB _ rfl (.tmp 24) (.tmp 25) 22 rfl 5 Tryz.underlying22 Tryz.info_u8 ⟨q,0,none⟩ 32 32 (w1.heap.size) emptyX rfl rfl (by decide) ?row ⟨w2.heap.size,0,none⟩ 5 5 (w2.heap.size+1) [0,0,0,0,0] rfl rfl (by decide) ?news (by decide) (by decide) ?next)
 case row=>exact R2.out.below (below_alloc w2 _ |>.mono Z2.out)
 case news=>exact row_cellsX w2 _ [0,0,0,0,0] _ rfl
 case next =>
 intro v3 w3 hown3 hb3
 obtain ⟨A3,k3,rfl,hc3,hm3,hr3⟩:=hown3.slice
 have hb3':=(below_alloc w2 (.cells #[.int .u8 0,.int .u8 0,.int .u8 0,.int .u8 0,.int .u8 0] 5)).trans (hb3.mono (by simp))
 have R3:=hid (R2.out.below (hb3'.mono Z2.out))
 have B3:=hid (B2.out.trans (hb3'.mono B2.out.size))
 have Z3:=hid (Nat.le_trans Z2.out hb3'.size)
 have HD:=hid (mem_row 0 0 rfl hr3 (Nat.le_refl _) rfl (by decide) hc3 hm3)
 have e37:(emptyX++[0,0,0,0,0]).length=37:=rfl
 rw [e37] at HD
 simp only [e37]
 clear hown3 hb3 hc3 hm3 hr3 hb3' e37
 go_wp2_with fail
 refine HD.out.mono ?_;rintro e w4 hd
 obtain ⟨A4,c4,rfl,-,-,hb4⟩:=mem_ok (m:=0) (u:=36) hd empty_more rfl rfl
 have R4:=hid (R3.out.below (hb4.mono Z3.out))
 have B4:=hid (B3.out.trans (hb4.mono B3.out.size))
 have Z4:=hid (Nat.le_trans Z3.out hb4.size)
 clear hd hb4
 have hsl:=fun w=>slice_toX (some ⟨q,0,none⟩) 32 32 31 (by decide) (by decide) w
 go_wp2_with fail
 refine (mem_row 0 0 rfl (R4.out.take 31) Z4.out rfl (by decide) (by decide) (by decide)).mono ?_;rintro e w5 hd
 obtain ⟨A5,c5,rfl,-,-,hb5,-⟩:=mem_err (m:=0) hd empty_cut rfl
 have R5:=hid (R4.out.below (hb5.mono Z4.out))
 have B5:=hid (B4.out.trans (hb5.mono B4.out.size))
 have Z5:=hid (Nat.le_trans Z4.out hb5.size)
 clear hd hb5
 go_wp2_with fail
 refine (window_x (some ⟨q,0,none⟩) emptyX 32 32 w5 rfl (R5.out.more Z5.out) (Nat.le_refl _) (by decide)).mono ?_;rintro e w6 ⟨rfl,hb6⟩
 have B6:=hid (B5.out.trans (hb6.mono B5.out.size))
 rw [empty_win]
 clear hb6
 go_wp2_with fail
 obtain ⟨W7,hW7⟩:∃ W,(w6.alloc (.cells #[.int .u8 97,.int .u8 98,.int .u8 99] 5 (3,4))).alloc (.cells #[.slice (some ⟨w6.heap.size,0,none⟩) 3 3] 22)=W:=⟨_,rfl⟩
 have h7:W7.heap.size=w6.heap.size+2:=by rw [← hW7];simp
 have hb7:Below w6.heap.size w6 W7:=by rw [← hW7];exact ((Below.refl _ _).alloc (Nat.le_refl _) _).alloc (by simp) _
 have hp1:W7.heap[w6.heap.size]?=some (.cells #[.int .u8 97,.int .u8 98,.int .u8 99] 5 (3,4)):=by
  rw [← hW7,heap_alloc_old _ _ (by simp)]
  exact World.alloc_heap_new _ _
 have hp2:W7.heap[w6.heap.size+1]?=some (.cells #[.slice (some ⟨w6.heap.size,0,none⟩) 3 3] 22 (0,0)):=by
  rw [← hW7]
  have q:=World.alloc_heap_new (w6.alloc (.cells #[.int .u8 97,.int .u8 98,.int .u8 99] 5 (3,4))) (.cells #[.slice (some ⟨w6.heap.size,0,none⟩) 3 3] 22 (0,0))
  rw [World.size_alloc] at q
  exact q
 have hrow:Opn.RowAt W7 W7.heap.size (some ⟨w6.heap.size+1,0,none⟩) 1 (fun i=>((fun _:Nat=>(⟨some ⟨w6.heap.size,0,none⟩,abcX,3⟩:ByteRow)) i).v):=fun _=>⟨w6.heap.size+1,0,rfl,by omega,fun i hi=>by
  obtain rfl:i=0:=by omega
  unfold World.cell?
  simp only
  rw [hp2]
  rfl⟩
 have hbr:BRow W7 W7.heap.size (some ⟨w6.heap.size,0,none⟩) abcX:=fun _=>⟨w6.heap.size,0,rfl,by omega,fun k hk=>by
  unfold World.cell?
  simp only
  rw [hp1]
  have h3:k<3:=hk
  rcases (by omega:k=0∨k=1∨k=2) with rfl | rfl | rfl <;> rfl⟩
 have HM:=made_p (some ⟨w6.heap.size+1,0,none⟩) 1 1 (fun _=>⟨some ⟨w6.heap.size,0,none⟩,abcX,3⟩) 4 0 true W7.heap.size W7 (.inr (.inr rfl)) (by omega) hrow (Nat.le_refl _) (fun i hi=>⟨Nat.le_refl _,hbr,(by decide:(3:Nat)≤65536)⟩)
 change Calls _ _ #[_,.int .i64 4,.int .u8 0,.bool true] _ _ at HM
 have HMM:=hid HM
 have B7:=hid (B6.out.trans (hb7.mono B6.out.size))
 clear HM hp1 hp2 hrow hbr hb7 h7
 rw [hW7]
 refine HMM.out.mono ?_;rintro e w8 ⟨v8,rfl,ho8,hb8⟩
 have hmd:madeX 4 true 0 (rowsL (fun _=>(⟨some ⟨w6.heap.size,0,none⟩,abcX,3⟩:ByteRow)) 1)=madeX 4 true 0 [abcX]:=rfl
 rw [hmd] at ho8
 obtain ⟨A8,c8,e8,hc8,hm8,hr8⟩:=ho8.slice
 rw [abc_len] at e8 hc8
 subst e8
 have B8:=hid (B7.out.trans (hb8.mono B7.out.size))
 have HD:=hid (mem_row 1048576 1048576 rfl hr8 (Nat.le_refl _) abc_len.symm (by rw [abc_len];decide) hc8 hm8)
 clear ho8 hb8 hmd hc8 hm8 hr8 hW7 HMM
 go_wp2_with fail
 refine HD.out.mono ?_;rintro e w9 hd
 obtain ⟨A9,c9,rfl,-,hr9,hb9⟩:=mem_ok (m:=3) (u:=60) hd abc_d rfl (by rw [abc_len];rfl)
 have R9:=hid hr9
 have B9:=hid (B8.out.trans (hb9.mono B8.out.size))
 clear hd hr9 hb9
 have k1:=run_conv_bytes (P:=Tryz.prog) w9 22 9 5 Tryz.underlying22 Tryz.underlying5 Tryz.underlying9 A9 3 c9 _ abcX rfl R9.out
 have e3:abcX.toArray=#[97,98,99]:=rfl
 rw [e3] at k1
 clear e3
 go_wp2
 go_ret
 exact ⟨rfl,B9.out⟩
open Go.RowKit Rng Win Lz Box
def MAns (T:List UInt8) (u z:Nat) (w:World) (e:Ending) (w':World):Prop :=
 ∃ A c,e=.returned (.tuple #[.slice A T.length c,.int .i64 (u:Int),.int .i64 (z:Int)])∧BRow w' w'.heap.size A T∧Below w.heap.size w w'
theorem mans_of (bud:Nat) (bs:List UInt8):∃ T u z,∀ w e w',MemEnd bud bs w e w'→MAns T u z w e w':=by
 cases hd:xP bud bs with
 | mk T R =>
  cases R with
  | inl z =>
   refine ⟨T,0,z,fun w e w' h=>?_⟩
   obtain ⟨A,c,h1,h2,h3,h4,-⟩:=mem_err (m:=T.length) h hd rfl
   exact ⟨A,c,h1,h3,h4⟩
  | inr r =>
   refine ⟨T,bs.length-r.length,0,fun w e w' h=>?_⟩
   obtain ⟨A,c,h1,h2,h3,h4⟩:=mem_ok (m:=T.length) (u:=bs.length-r.length) h hd rfl rfl
   exact ⟨A,c,h1,h3,h4⟩
set_option maxRecDepth 8000 in
set_option maxHeartbeats 4000000 in
theorem lawReads20 (A:Option Addr) (n c:Nat) (f:Nat→Int) (S:Int) (w:World) (hl:n≤c) (hm:c≤maxLen) (hr0:Opn.RowAt w w.heap.size A n (fun i=>.int .u8 (f i))) (hf:∀ i,i<n→0≤f i∧f i≤255)
 (hx : -9223372036854775808≤S∧S≤9223372036854775807) :
 Calls Tryz.prog 4 #[.slice A n c,.int .i64 S] w fun e w'=>e=.returned (.bool true)∧Below w.heap.size w w':=by
 obtain ⟨bs,hbs,hr⟩:=BRow.of_row hr0 hf
 have HR:=hid hr
 have HN:=hid hbs.symm
 have HLC:Hid (n≤c∧c≤maxLen):=hid ⟨hl,hm⟩
 clear hr0 hf hr hbs hm hx hl
 by_cases hn:32768<n
 ·have q1:(32768:Int)<(n:Int):=by omega
  clear hn
  go_enter Tryz.func4,Tryz.ntmps4
  go_wp2_with fail
  refine (wakes20 w).mono ?_;rintro e w2 ⟨rfl,hb2⟩
  have B2:=hid hb2
  clear hb2
  go_wp2
  go_ret
  exact ⟨rfl,B2.out⟩
 have q1:(n:Int)≤32768:=by omega
 have HB:=hid (show n≤32768 by omega)
 clear hn
 obtain ⟨T,u,z,hans⟩:=mans_of (budOf S) bs
 have HA:=hid hans
 obtain ⟨⟨wx,we⟩,hwx⟩:∃ p,winX bs=p:=⟨_,rfl⟩
 have HW:=hid hwx
 clear hans hwx
 go_enter Tryz.func4,Tryz.ntmps4
 go_wp2_with (at_builtin;refine wpList_append_bytes _ rfl (.tmp 20) (.tmp 21) 22 rfl 5 w.heap.size Tryz.underlying22 Tryz.info_u8 (.slice (some ⟨w.heap.size,0,none⟩) 0 0) [] rfl ?own1 A n c w.heap.size bs rfl ?lenn ?row1 ?len1 ?base1 ?next1)
 case own1=>exact OwnB.made w _ _ (Nat.le_refl _)
 case lenn=>exact HN.out
 case row1=>exact HR.out.below (below_alloc w _)
 case len1=>have:=HB.out;have:=HN.out;simp;omega
 case base1=>simp
 case next1 =>
 intro v4 w4 hown4 hfrm4 hnew4
 have hb4:Below w.heap.size w w4:=(below_alloc w _).trans (hfrm4.below (by simp) (fun q hq=>by have e:some w.heap.size=some q:=hq;injection e with e;omega))
 obtain ⟨A4,c4,hv4,hc4,hm4,hr4⟩:=hown4.slice
 have e4:bs.length=n:=HN.out.symm
 rw [e4] at hv4 hc4
 subst hv4
 have B4:=hid hb4
 have R4:=hid hr4
 have C4:=hid (And.intro hc4 hm4)
 clear hown4 hfrm4 hnew4 hb4 e4 hc4 hm4 hr4
 go_wp2_with fail
 refine (member_p A4 bs n c4 S w4 HN.out R4.out C4.out.1 C4.out.2 (by have:=HB.out;omega)).mono ?_;rintro e w5 h5
 obtain ⟨Ax,cx,rfl,hrx,hb5⟩:=HA.out _ _ _ h5
 have B5:=hid (B4.out.trans (hb5.mono B4.out.size))
 have RX5:=hid hrx
 have R5:=hid (R4.out.below hb5)
 have Z5:=hid hb5.size
 clear hrx hb5 h5
 go_wp2_with fail
 refine (dmember_d A bs n c S w5 HN.out ((HR.out.below B5.out).more B5.out.size) HLC.out.1 HLC.out.2 (by have:=HB.out;omega)).mono ?_;rintro e w6 h6
 obtain ⟨Ay,cy,rfl,hry,hb6⟩:=HA.out _ _ _ h6
 have B6:=hid (B5.out.trans (hb6.mono B5.out.size))
 have RX6:=hid (RX5.out.below hb6)
 have RY6:=hid hry
 have R6:=hid (R5.out.below (hb6.mono Z5.out))
 have Z6:=hid (Nat.le_trans Z5.out hb6.size)
 have X6:=hid hb6.size
 clear hry hb6 h6
 go_wp2_with fail
 refine (window_x A4 bs n c4 w6 HN.out (R6.out.more Z6.out) C4.out.1 C4.out.2).mono ?_;rintro e w7 ⟨rfl,hb7⟩
 rw [HW.out]
 have B7:=hid (B6.out.trans (hb7.mono B6.out.size))
 have RX7:=hid (RX6.out.below (hb7.mono X6.out))
 have RY7:=hid (RY6.out.below hb7)
 have R7:=hid (R6.out.below (hb7.mono Z6.out))
 have Z7:=hid (Nat.le_trans Z6.out hb7.size)
 have X7:=hid (Nat.le_trans X6.out hb7.size)
 have Y7:=hid hb7.size
 clear hb7
 go_wp2_with fail
 refine (dwindow_d A bs n c w7 HN.out ((HR.out.below B7.out).more B7.out.size) HLC.out.1 HLC.out.2).mono ?_;rintro e w8 ⟨rfl,hb8⟩
 rw [HW.out]
 have B8:=hid (B7.out.trans (hb8.mono B7.out.size))
 have RX8:=hid (RX7.out.below (hb8.mono X7.out))
 have RY8:=hid (RY7.out.below (hb8.mono Y7.out))
 have R8:=hid (R7.out.below (hb8.mono Z7.out))
 clear hb8
 obtain ⟨LT,hLT⟩:∃ L,T.length=L:=⟨_,rfl⟩
 have HLT:=hid hLT
 have k1:=run_conv_bytes (P:=Tryz.prog) w8 22 9 5 Tryz.underlying22 Tryz.underlying5 Tryz.underlying9 Ax LT cx _ T HLT.out.symm RX8.out
 have k2:=run_conv_bytes (P:=Tryz.prog) w8 22 9 5 Tryz.underlying22 Tryz.underlying5 Tryz.underlying9 Ay LT cy _ T HLT.out.symm RY8.out
 have k3:=run_conv_bytes (P:=Tryz.prog) w8 22 9 5 Tryz.underlying22 Tryz.underlying5 Tryz.underlying9 A4 n c4 _ bs HN.out R8.out
 have k4:=run_conv_bytes (P:=Tryz.prog) w8 22 9 5 Tryz.underlying22 Tryz.underlying5 Tryz.underlying9 A n c _ bs HN.out (HR.out.below B8.out)
 rw [hLT]
 clear hLT
 go_wp2_with fail
 refine (wakes20 w8).mono ?_;rintro e w9 ⟨rfl,hb9⟩
 have B9:=hid (B8.out.trans (hb9.mono B8.out.size))
 clear hb9
 go_wp2
 go_ret
 exact ⟨rfl,B9.out⟩
end Go.Proofs.YtffehfpbdcokbaaGreat
