import Derived.Test.YtffehfpbdcokbaaGreatChecked
import Derived.Test.YtffehfpbdcokbaaGreatFrm
import Derived.Test.YtffehfpbdcokbaaGreatOpen
import Derived.WalkKit
import Derived.Lib.Hide
import Derived.BigQuiet
import Derived.Deep.QuietTactic
import Derived.RegionTactic
import Derived.StillTailTactics
import Derived.Defers
import Derived.Recover
import Derived.WalkSmall
import Derived.Laws.Pointers
import Derived.Test.YtffehfpbdcokbaaGreatBu1
import Derived.Test.YtffehfpbdcokbaaGreatBu23
set_option linter.unusedVariables false
set_option linter.unusedSimpArgs false
namespace Go.Proofs.YtffehfpbdcokbaaGreat
open Lib (hid)
open Go.RowKit
def crcCells (n all:Int) (tab:Nat→Int):Array Value:=(Value.int .u64 n::Value.int .u64 all::(List.range 256).map fun i=>Value.int .u64 (tab i)).toArray
theorem crcCells_0 (n all:Int) (tab:Nat→Int):(crcCells n all tab)[0]?=some (.int .u64 n):=by simp [crcCells]
theorem crcCells_1 (n all:Int) (tab:Nat→Int):(crcCells n all tab)[1]?=some (.int .u64 all):=by simp [crcCells]
theorem crcCells_2 (n all:Int) (tab:Nat→Int) (i:Nat) (hi:i<256):(crcCells n all tab)[2+i]?=some (.int .u64 (tab i)):=by
 simp [crcCells,Nat.add_comm 2 i,hi]
theorem crcCells_set0 (n m all:Int) (tab:Nat→Int):(crcCells n all tab).setIfInBounds 0 (.int .u64 m)=crcCells m all tab:=by simp [crcCells]
theorem crcCells_set2 (n all v:Int) (tab:Nat→Int) (i:Nat) (_hi:i<256):(crcCells n all tab).setIfInBounds (2+i) (.int .u64 v)=crcCells n all (fun j=>if j=i then v else tab j):=by
 apply Array.ext_getElem?
 intro k
 rw [Array.getElem?_setIfInBounds]
 have hsz:∀ t,(crcCells n all t).size=258:=fun t=>by simp [crcCells]
 rcases Nat.lt_or_ge k 258 with hk | hk
 ·match k with
  | 0=>rw [if_neg (by omega),crcCells_0,crcCells_0]
  | 1=>rw [if_neg (by omega),crcCells_1,crcCells_1]
  | k+2 =>
   rw [show k+2=2+k by omega,crcCells_2 _ _ _ k (by omega),crcCells_2 _ _ _ k (by omega),hsz]
   by_cases h:k=i
   ·subst h;simp;omega
   rw [if_neg (by omega),if_neg h]
 rw [Array.getElem?_eq_none (by rw [hsz];omega),Array.getElem?_eq_none (by rw [hsz];omega)]
 split
 ·split
  ·rename_i h1 h2;rw [hsz] at h2;omega
  rfl
 rfl
theorem Tryz.build_crc (a b:Int) (w:World):(Instr.build 277 #[(0,.int .u64 a),(1,.int .u64 b)]).run Tryz.prog w=.ok (.agg (crcCells a b fun _=>0)) w:=by kernel_rfl
theorem bit_raw1 {P x:Nat} (hx:x<Num.M64) (hP:P<Num.M64) (h:(bits .and .u64 (x:Int) 1==1)=true):bits .xor .u64 ((x:Int) / 2) (P:Int)=((Crc.bit P x:Nat):Int):=by
 rw [Num.and64_1 hx] at h
 have h1:x % 2=1:=by simp at h;omega
 rw [show (x:Int) / 2=((x / 2:Nat):Int) by omega,Num.xor64 (by omega) hP]
 simp [Crc.bit,h1]
theorem bit_raw0 {P x:Nat} (hx:x<Num.M64) (h:(bits .and .u64 (x:Int) 1==1)=false):(x:Int) / 2=((Crc.bit P x:Nat):Int):=by
 rw [Num.and64_1 hx] at h
 have h1:¬ x % 2=1:=by simp at h;omega
 simp [Crc.bit,h1]
def tabOf (P:Nat) (i:Nat):Int:=((Crc.bitsN P 8 i:Nat):Int)
def CrcAt (w:World) (b P n:Nat) (all:Int):Prop:=Pts w b (crcCells n all (tabOf P)) 277
theorem crcCells_congr {n all:Int} {t t':Nat→Int} (h:∀ i,i<256→t i=t' i):crcCells n all t=crcCells n all t':=by
 unfold crcCells
 congr 3
 apply List.map_congr_left
 intro i hi
 rw [h i (by simpa using hi)]
set_option maxRecDepth 1000000 in
theorem newCRC_any (poly all:Int) (P:Nat) (hpoly:poly=P) (hP:P<Num.M64) (w:World) :
 Calls Tryz.prog 149 #[.int .u64 poly,.int .u64 all] w fun e w'=>e=.returned (.pointer (some ⟨w.heap.size,0,none⟩))∧Pts w' w.heap.size (crcCells all all (tabOf P)) 277∧Below w.heap.size w w':=by
 subst hpoly
 have HPL:=hid hP
 clear hP
 go_enter Tryz.func149,Tryz.ntmps149
 go_wp2_with (refine wpList_build 277 _ rfl rfl (.agg (crcCells all all fun _=>0)) #[(0,.int .u64 all),(1,.int .u64 all)] (by simp [Act.eval]) (Tryz.build_crc all all _) ?_)
 go_loopw [13] (fun i wr=>∃ (k:Nat) (tab:Nat→Int),k≤256∧i=.int .i64 k∧(∀ j,j<k→tab j=tabOf P j)∧Pts wr w.heap.size (crcCells all all tab) 277∧Below w.heap.size w wr) (fun i _=>256-(intOf i).toNat)
 case atStart=>exact ⟨0,fun _=>0,by omega,rfl,fun j hj=>absurd hj (by omega),Pts.new _ _ _,(Below.refl _ _).alloc (Nat.le_refl _) _⟩
 case round =>
 obtain ⟨k,tab,hk,rfl,htab,hp,hb⟩:=hrel
 have HT:=hid htab
 have HP:=hid hp
 have HB:=hid hb
 clear htab hp hb
 by_cases hlt:k<256
 ·have f2:=Pts.frozen HP.out (2+k)
  have c2:=HP.out.cell (2+k)
  rw [crcCells_2 _ _ _ k hlt] at c2
  go_wp2
  obtain ⟨wo,rfl⟩:∃ wo:World,wo=wr:=⟨_,rfl⟩
  go_loop [18,7] (fun j x=>∃ n:Nat,n≤8∧j=.int .i64 n∧x=.int .u64 ((Crc.bitsN P n k:Nat):Int)) (fun j _=>8-(intOf j).toNat)
  case atStart=>exact ⟨0,by omega,rfl,rfl⟩
  case round =>
  obtain ⟨n,hn,rfl,rfl⟩:=hrel
  have hs:Crc.bitsN P (n+1) k=Crc.bit P (Crc.bitsN P n k):=rfl
  have HS:=hid hs
  have HX:=hid (Crc.bitsN_lt HPL.out (Nat.lt_of_lt_of_le hlt (by unfold Num.M64;omega)) n)
  clear hs
  by_cases hnt:n<8
  ·generalize Crc.bitsN P n k=x at *
   go_wp2
   ·have h:(bits .and .u64 (x:Int) 1==1)=true:=by assumption
    exact ⟨⟨n+1,by omega,by go_num,by rw [HS.out,bit_raw1 HX.out HPL.out h]⟩,by simp [intOf];omega⟩
   have h:(bits .and .u64 (x:Int) 1==1)=false:=by assumption
   exact ⟨⟨n+1,by omega,by go_num,by rw [HS.out,bit_raw0 HX.out h]⟩,by simp [intOf];omega⟩
  have hn8:n=8:=by omega
  subst hn8
  go_wp2
  refine ⟨⟨k+1,fun j=>if j=k then tabOf P k else tab j,by omega,by go_num,fun j hj=>?_,?_,HB.out.setCell (Nat.le_refl _) _⟩,by simp [intOf];omega⟩
  ·by_cases hjk:j=k
   ·simp [hjk]
   simp only [hjk,if_false];exact HT.out j (by omega)
  rw [← crcCells_set2 all all (tabOf P k) tab k hlt]
  exact Pts.set HP.out (2+k) _
 have hk256:k=256:=by omega
 subst hk256
 go_wp2
 go_ret
 exact ⟨rfl,by rw [← crcCells_congr (HT.out)];exact HP.out,HB.out⟩
theorem crcValue_any (b P n all:Nat) (w:World) (h:CrcAt w b P n all) (hn:n<Num.M64) (ha:all<Num.M64) :
 Calls Tryz.prog 202 #[.pointer (some ⟨b,0,none⟩)] w fun e w'=>e=.returned (.int .u64 ((n ^^^ all:Nat):Int))∧∃ d,w'=w.drewN d:=by
 have h0:w.cell? ⟨b,0,none⟩=some (.int .u64 n):=by rw [Pts.cell h,crcCells_0]
 have h1:w.cell? ⟨b,1,none⟩=some (.int .u64 all):=by rw [Pts.cell h,crcCells_1]
 have hx:=hid (Num.xor64 hn ha)
 clear h hn ha
 go_enter Tryz.func202,Tryz.ntmps202
 go_wp2
 go_quiet (fail)
 go_wp2
 go_ret
 exact ⟨ret_int hx.out,_,rfl⟩
set_option maxRecDepth 100000 in
set_option maxHeartbeats 1000000 in
theorem crcAdd_off (b P n c B:Nat) (all:Int) (A:Option Addr) (bs:List UInt8) (w:World) (h:CrcAt w b P n all) (hP:P<Num.M64) (hn:n<Num.M64) (hr:BRow w B A bs) (hoff:BOff (· = b) A bs) (hlen:bs.length≤140737488355328) :
 Calls Tryz.prog 201 #[.pointer (some ⟨b,0,none⟩),.slice A bs.length c] w fun e w'=>e=.returned (.tuple #[])∧CrcAt w' b P (Crc.add P n bs) all∧Frm (· = b) w w':=by
 have HPL:=hid hP
 have HN:=hid hn
 have HR:=hid hr
 have HOFF:=hid hoff
 have HC:=hid h
 clear hP hn hr h hoff
 go_enter Tryz.func201,Tryz.ntmps201
 go_wp2
 go_loopw [8] (fun i wr=>∃ k:Nat,k≤bs.length∧i=.int .i64 k∧CrcAt wr b P (Crc.add P n (bs.take k)) all∧Frm (· = b) w wr) (fun i _=>bs.length-(intOf i).toNat)
 case atStart=>exact ⟨0,by omega,rfl,by simpa [Crc.add] using HC.out,Frm.refl _ _⟩
 case round =>
 obtain ⟨k,hk,rfl,hc,hf⟩:=hrel
 by_cases hlt:k<bs.length
 ·obtain ⟨ab,aoff,hA,_,hcell⟩:=HR.out (by omega)
  have hab:ab≠b:=HOFF.out (by omega) _ hA
  subst hA
  have hx:wr.cell? ⟨ab,aoff+k,none⟩=some (byteV (bs.getD k 0)):=by
   rw [World.cell?_of_block (hf.block ab (World.block_lt_of_cell? w ⟨ab,aoff+k,none⟩ (hcell k hlt)) (by show ¬ _=_;omega))]
   exact hcell k hlt
  unfold byteV at hx
  have hstep:Crc.add P n (bs.take (k+1))=Crc.byByte P (Crc.add P n (bs.take k)) (bs.getD k 0):=by
   unfold Crc.add
   rw [List.take_succ_eq_append_getElem hlt,List.foldl_append]
   simp [List.getD,hlt]
  have HS:=hid hstep
  have HM:=hid (Crc.add_lt HPL.out (bs.take k) n HN.out)
  clear hstep hcell
  generalize Crc.add P n (bs.take k)=m at *
  generalize bs.getD k 0=u at *
  have hu:=u.toNat_lt
  have hj:=Num.xor8 (Nat.mod_lt m (show 256 > 0 by omega)) hu
  have hjl:=Num.xor_lt8 (Nat.mod_lt m (show 256 > 0 by omega)) hu
  have hw8:IntKind.u8.wrap (m:Int)=(m:Int) % 256:=by rw [Num.wrap8];omega
  rw [show ((m % 256:Nat):Int)=(m:Int) % 256 by omega] at hj
  obtain ⟨j,hjj⟩:∃ j,m % 256 ^^^ u.toNat=j:=⟨_,rfl⟩
  rw [hjj] at hj hjl
  have c0:wr.cell? ⟨b,0,none⟩=some (.int .u64 m):=by rw [Pts.cell hc,crcCells_0]
  have c2:wr.cell? ⟨b,2+j,none⟩=some (.int .u64 ((Crc.bitsN P 8 j:Nat):Int)):=by rw [Pts.cell hc,crcCells_2 _ _ _ j hjl];rfl
  have f0:=Pts.frozen hc 0
  have ht:=Crc.bitsN_lt HPL.out (Nat.lt_of_lt_of_le hjl (by unfold Num.M64;omega):j<Num.M64) 8
  have hxx:=Num.xor64 (a:=m / 256) (b:=Crc.bitsN P 8 j) (by have:=HM.out;omega) ht
  rw [show ((m / 256:Nat):Int)=(m:Int) / 256 by omega,show (m / 256) ^^^ Crc.bitsN P 8 j=Crc.byByte P m u by unfold Crc.byByte;rw [hjj]] at hxx
  generalize hvv:Crc.byByte P m u=v at *
  have HCC:=hid hc
  have HF:=hid hf
  clear hc hf ht hjj hvv
  generalize Crc.bitsN P 8 j=t at *
  go_wp2
  have hji:(j:Int)<256:=by omega
  have hji0:0≤(j:Int):=by omega
  go_still_tail 21,(by kernel_rfl)
  change wpList _ _ _ _ _ wr.drew
  go_wp2
  refine ⟨⟨k+1,by omega,by go_num,?_,HF.out.drew.setCell (by rfl) _⟩,by simp [intOf];omega⟩
  rw [HS.out]
  have h:=Pts.set (Pts.drew HCC.out) 0 (.int .u64 (v:Int))
  rw [crcCells_set0] at h
  exact h
 have hkk:k=bs.length:=by omega
 subst hkk
 go_wp2
 go_end0
 exact ⟨rfl,by simpa using hc,hf⟩
open Go.RowKit
theorem must_ok (c:Value) (e:Int) (w:World):Calls Tryz.prog 59 #[c,.bool true,.int .i64 e] w fun r w'=>r=.returned (.tuple #[])∧w=w':=by
 go_enter Tryz.func59,Tryz.ntmps59
 go_wp2
 go_end0
 exact ⟨rfl,rfl⟩
theorem must_bad (c:Value) (e:Int) (w:World):Calls Tryz.prog 59 #[c,.bool false,.int .i64 e] w fun r w'=>r=.panicked [{ v:=.iface 198 (.agg #[.int .i64 e]),recovered:=false }]∧w=w':=by
 go_enter Tryz.func59,Tryz.ntmps59
 go_wp2
 exact ⟨rfl,rfl,rfl⟩
theorem assert_wrong (V:Value) (w:World):(Instr.typeAssert (.iface 198 V) 20 198 true).run Tryz.prog w=.ok (.tuple #[V,.bool true]) w:=by kernel_rfl
theorem catch_panicking (b:Nat) (x x0:Int) (older:List PanicEntry) (w:World) (hp:Pts w b #[.int .i64 x0] 25) :
 CallsD Tryz.prog 57 #[.pointer (some ⟨b,0,none⟩)] (.panicking ({ v:=.iface 198 (.agg #[.int .i64 x]),recovered:=false }::older)) w fun e u' w' =>
  e=.returned (.tuple #[])∧u'=.panicking ({ v:=.iface 198 (.agg #[.int .i64 x]),recovered:=true }::older)∧Pts w' b #[.int .i64 x] 25∧Frm (· = b) w w':=by
 refine callsD_of_wpS Tryz.func57 rfl fun c₀ cs hu=>?_
 apply wpS_seq
 apply wpS_region
 simp [wpOpsS,go_sem,recoverD,hu,Tryz.ntmps57,Exit.thenS]
 refine wpS_of_wp ?_
 show Code.wp _ _ _ { tmps:=#[.pointer (some ⟨b,0,none⟩),undef,undef,undef,undef,.iface 198 (.agg #[.int .i64 x]),undef,undef,undef,undef,undef,undef,undef,undef,undef],defers:=[] } w
 have hta:=assert_wrong (.agg #[.int .i64 x])
 have hc:=(hp.alloc (.cells #[.int .i64 x] 198)).cell 0
 have hz:=(hp.alloc (.cells #[.int .i64 x] 198)).frozen 0
 have hr:=(hp.alloc (.cells #[.int .i64 x] 198)).set 0 (.int .i64 x)
 have hf:Frm (· = b) w ((w.alloc (.cells #[.int .i64 x] 198)).setCell ⟨b,0,none⟩ (.int .i64 x)):=((Frm.refl _ w).alloc _).setCell (by rfl) _
 have HR:=hid hr
 have HF:=hid hf
 clear hr hf hp
 go_wp2
 refine ⟨rfl,_,rfl,_,results_none rfl _ _ _,rfl,rfl,HR.out,HF.out⟩
theorem catch_idle (v:Value) (w:World):CallsD Tryz.prog 57 #[v] .returning w fun e u' w'=>e=.returned (.tuple #[])∧u'=.returning∧w'=w:=by
 refine callsD_of_wpS Tryz.func57 rfl fun c₀ cs hu=>?_
 apply wpS_seq
 apply wpS_region
 simp [wpOpsS,go_sem,recoverD,hu,Tryz.ntmps57,Exit.thenS]
 refine wpS_of_wp ?_
 show Code.wp _ _ _ { tmps:=#[v,undef,undef,undef,undef,.nilIface,undef,undef,undef,undef,undef,undef,undef,undef,undef],defers:=[] } w
 go_wp2
 refine ⟨rfl,.returning,by cases c₀;simp at hu;subst hu;rfl,_,results_none rfl _ _ _,rfl,rfl,rfl⟩
theorem slice_fromX (A:Option Addr) (n c f:Nat) (hf:f≤n) (hn:n≤c) (w:World) :
 (Instr.sliceAt 22 (.slice A n c) (some (.int .i64 (f:Int))) none none).run Tryz.prog w=.ok (.slice (if c=f then A else A.map (·.add f)) (n-f) (c-f)) w:=by
 by_cases hcf:c=f
 ·simp [go_sem,hcf]
  intro h;omega
 simp [go_sem,hcf]
 intro h;omega
theorem slice_toX (A:Option Addr) (n c m:Nat) (hf:m≤n) (hn:n≤c) (w:World) :
 (Instr.sliceAt 22 (.slice A n c) none (some (.int .i64 (m:Int))) none).run Tryz.prog w=.ok (.slice A m c) w:=by
 by_cases hcf:c=0
 ·simp [go_sem,hcf]
  intro h;omega
 simp [go_sem,hcf]
 intro h;omega
def CurAt (w:World) (cb B:Nat) (bs:List UInt8) (u:Nat):Prop :=
 ∃ A c,Pts w cb #[.slice A bs.length c,.int .i64 (u:Int)] 105∧BRow w B A bs∧bs.length≤c∧c≤maxLen∧B≤cb
theorem BRow.frm {S:Nat→Prop} {w w':World} {B:Nat} {A:Option Addr} {bs:List UInt8} (h:BRow w B A bs) (hf:Frm S w w') (hB:B≤w.heap.size) (hS:∀ k,S k→B≤k):BRow w' B A bs:=h.below (hf.below hB hS)
theorem CurAt.lt {w:World} {cb B u:Nat} {bs:List UInt8} (h:CurAt w cb B bs u):cb<w.heap.size∧B≤cb:=by
 obtain ⟨A,c,hp,_,_,_,h2⟩:=h
 exact ⟨hp.lt,h2⟩
theorem CurAt.frm {S:Nat→Prop} {w w':World} {cb B u:Nat} {bs:List UInt8} (h:CurAt w cb B bs u) (hf:Frm S w w') (h1:¬ S cb) (hS:∀ k,S k→B≤k):CurAt w' cb B bs u:=by
 have hl:=h.lt
 obtain ⟨A,c,hp,hr,h3,h4,h5⟩:=h
 exact ⟨A,c,hp.frm hf h1,hr.frm hf (by omega) hS,h3,h4,h5⟩
set_option maxRecDepth 100000 in
theorem take_ok (cb B n u:Nat) (e:Int) (bs:List UInt8) (w:World) (h:CurAt w cb B bs u) (hn:n≤bs.length) (hu:u+n<4611686018427387904) :
 Calls Tryz.prog 58 #[.pointer (some ⟨cb,0,none⟩),.int .i64 (n:Int),.int .i64 e] w fun r w'=>∃ A c,r=.returned (.slice A n c)∧BRow w' B A (bs.take n)∧n≤c∧c≤maxLen∧CurAt w' cb B (bs.drop n) (u+n)∧Frm (· = cb) w w':=by
 have hl:=h.lt
 obtain ⟨A,c,hp,hr,hc,hm,hB⟩:=h
 have hnc:n≤c:=Nat.le_trans hn hc
 have hs1:=fun w=>slice_toX A bs.length c n hn hc w
 have hs2:=fun w=>slice_fromX A bs.length c n hn hc w
 obtain ⟨A',hA'⟩:∃ A',(if c=n then A else A.map (·.add n))=A':=⟨_,rfl⟩
 have hrd:=hr.drop (k:=n) (cap:=c) hc
 rw [hA'] at hrd
 simp only [hA'] at hs2
 have hrt:=hr.take n
 have hcm:c-n≤maxLen:=by omega
 have c0:w.cell? ⟨cb,0,none⟩=some (.slice A bs.length c):=hp.cell 0
 have z0:=hp.frozen 0
 have c1:w.cell? ⟨cb,1,none⟩=some (.int .i64 (u:Int)):=hp.cell 1
 have z1:=hp.frozen 1
 have hp2:=(hp.set 0 (.slice A' (bs.length-n) (c-n))).set 1 (.int .i64 ((u:Int)+(n:Int)))
 have hf2:Frm (· = cb) w ((w.setCell ⟨cb,0,none⟩ (.slice A' (bs.length-n) (c-n))).setCell ⟨cb,1,none⟩ (.int .i64 ((u:Int)+(n:Int)))):=((Frm.refl _ w).setCell (by rfl) _).setCell (by rfl) _
 have HF2:=hid hf2
 have HP2:=hid hp2
 have HRD:=hid hrd
 have HRT:=hid hrt
 have hbn:(decide ((n:Int)≤(bs.length:Int)))=true:=by simp;omega
 have hcn:bs.length-n≤c-n:=by omega
 have HM:=hid hm
 have HCM:=hid hcm
 clear hf2 hp2 hrd hrt hp hr hA' hm hcm
 go_enter Tryz.func58,Tryz.ntmps58
 go_wp2_with fail
 refine (must_ok _ _ _).mono ?_;rintro r w1 ⟨rfl,rfl⟩
 go_wp2
 go_ret
 refine ⟨A,c,rfl,HRT.out.frm HF2.out (by omega) (fun k hk=>by omega),hnc,HM.out,⟨A',c-n,?_,HRD.out.frm HF2.out (by omega) (fun k hk=>by omega),by rw [List.length_drop];omega,HCM.out,hB⟩,HF2.out⟩
 rw [List.length_drop]
 exact HP2.out
theorem take_bad (cb B n u:Nat) (e:Int) (bs:List UInt8) (w:World) (h:CurAt w cb B bs u) (hn:bs.length<n) :
 Calls Tryz.prog 58 #[.pointer (some ⟨cb,0,none⟩),.int .i64 (n:Int),.int .i64 e] w fun r w'=>r=.panicked [{ v:=.iface 198 (.agg #[.int .i64 e]),recovered:=false }]∧w=w':=by
 obtain ⟨A,c,hp,hr,hc,hm,hB⟩:=h
 have c0:w.cell? ⟨cb,0,none⟩=some (.slice A bs.length c):=hp.cell 0
 have hbn:decide (n≤bs.length)=false:=by simp;omega
 clear hp hr hm
 go_enter Tryz.func58,Tryz.ntmps58
 go_wp2_with fail
 refine (must_bad _ _ _).mono ?_;rintro r w1 ⟨rfl,rfl⟩
 go_wp2
 exact ⟨rfl,rfl,rfl⟩
end Go.Proofs.YtffehfpbdcokbaaGreat
namespace Go.Proofs.YtffehfpbdcokbaaGreat.Box
open Go.RowKit
def scan (i n:Nat):List UInt8→Nat×Nat×Int
 | []=>(0,0,10)
 | c::r =>
  if (i=8∧128≤c.toNat)∨(0<i∧c.toNat=0) then (0,0,11)
  else if c.toNat<128 then (n+c.toNat*2 ^ (7*i),i+1,0)
  else scan (i+1) (n+c.toNat % 128*2 ^ (7*i)) r
def number (bs:List UInt8):Nat×Nat×Int:=scan 0 0 bs
def putGo:Nat→Nat→List UInt8
 | 0,n=>[UInt8.ofNat n]
 | f+1,n=>if n<128 then [UInt8.ofNat n] else UInt8.ofNat (n % 128+128)::putGo f (n / 128)
def put (n:Nat):List UInt8:=putGo 8 n
theorem ofNat_toNat {n:Nat} (h:n<256):(UInt8.ofNat n).toNat=n:=by rw [UInt8.toNat_ofNat'];exact Nat.mod_eq_of_lt h
theorem pow_step (i:Nat):2 ^ (7*(i+1))=2 ^ (7*i)*128:=by rw [Nat.mul_succ,Nat.pow_add]
theorem scan_put:∀ (f i n m:Nat) (r:List UInt8),f+i=8→m<2 ^ (7*(9-i))→(0<i→0<m)→scan i n (putGo f m++r)=(n+m*2 ^ (7*i),i+(putGo f m).length,0)
 | 0,i,n,m,r,hf,hm,hz=>by
  obtain rfl:i=8:=by omega
  have hm2:m<128:=hm
  have hz2:=hz (by decide)
  show scan 8 n (UInt8.ofNat m::r)=_
  unfold scan
  rw [ofNat_toNat (by omega),if_neg (by omega),if_pos hm2]
  rfl
 | f+1,i,n,m,r,hf,hm,hz=>by
  unfold putGo
  by_cases h:m<128
  ·rw [if_pos h]
   show scan i n (UInt8.ofNat m::r)=_
   unfold scan
   rw [ofNat_toNat (by omega),if_neg (by have:=hz;omega),if_pos h]
   rfl
  rw [if_neg h]
  show scan i n (UInt8.ofNat (m % 128+128)::(putGo f (m / 128)++r))=_
  unfold scan
  have e1:(m % 128+128) % 128=m % 128:=by omega
  have hp:2 ^ (7*(9-i))=2 ^ (7*(9-(i+1)))*128:=by rw [show 9-i=9-(i+1)+1 by omega,pow_step]
  rw [hp] at hm
  have hq:m / 128<2 ^ (7*(9-(i+1))):=Nat.div_lt_of_lt_mul (by rw [Nat.mul_comm];exact hm)
  rw [ofNat_toNat (by omega),if_neg (by omega),if_neg (by omega),e1,scan_put f (i+1) _ (m / 128) r (by omega) hq (fun _=>by omega),pow_step]
  have hd:=Nat.div_add_mod m 128
  generalize hA:m / 128=A at *
  generalize hC:m % 128=C at *
  have e2:n+C*2 ^ (7*i)+A*(2 ^ (7*i)*128)=n+m*2 ^ (7*i):=by
   rw [← hd,Nat.add_mul,Nat.mul_assoc 128 A,Nat.mul_comm 128 (A*2 ^ (7*i)),Nat.mul_assoc A]
   omega
  rw [e2,List.length_cons]
  have e3:i+1+(putGo f A).length=i+((putGo f A).length+1):=by omega
  rw [e3]
theorem number_put {n:Nat} (h:n<9223372036854775808) (r:List UInt8):number (put n++r)=(n,(put n).length,0):=by
 have h1:=scan_put 8 0 0 n r rfl h (fun h=>absurd h (by decide))
 unfold number put
 rw [h1]
 simp
theorem scan_back:∀ (bs:List UInt8) (i n y m:Nat),i≤8→scan i n bs=(y,m,0)→∃ v k,y=n+v*2 ^ (7*i)∧m=i+k∧1≤k∧k≤bs.length∧v<2 ^ (7*(9-i))∧putGo (8-i) v=bs.take k∧(0<i→0<v)
 | [],i,n,y,m,hi,h=>by unfold scan at h;injection h with _ h;injection h with _ h;cases h
 | c::r,i,n,y,m,hi,h=>by
  unfold scan at h
  have hc:=c.toNat_lt
  by_cases h1:(i=8∧128≤c.toNat)∨(0<i∧c.toNat=0)
  ·rw [if_pos h1] at h;injection h with _ h;injection h with _ h;cases h
  rw [if_neg h1] at h
  by_cases h2:c.toNat<128
  ·rw [if_pos h2] at h
   injection h with ha hb
   injection hb with hb _
   have hp:128≤2 ^ (7*(9-i)):=by
    have:2 ^ 7≤2 ^ (7*(9-i)):=Nat.pow_le_pow_right (by decide) (by omega)
    exact this
   refine ⟨c.toNat,1,ha.symm,by omega,Nat.le_refl _,by simp,by omega,?_,by omega⟩
   have e:UInt8.ofNat c.toNat=c:=UInt8.ofNat_toNat
   cases hk:8-i with
   | zero=>unfold putGo;rw [e];rfl
   | succ k=>unfold putGo;rw [if_pos h2,e];rfl
  rw [if_neg h2] at h
  have hi8:i≤7:=by omega
  obtain ⟨v,k,e1,e2,e3,e4,e5,e6,e7⟩:=scan_back r (i+1) _ y m (by omega) h
  have hv:=e7 (by omega)
  have hp:2 ^ (7*(9-i))=2 ^ (7*(9-(i+1)))*128:=by rw [show 9-i=9-(i+1)+1 by omega,pow_step]
  refine ⟨v*128+c.toNat % 128,k+1,?_,by omega,by omega,by simp;omega,?_,?_,fun _=>by omega⟩
  ·rw [e1,pow_step,Nat.add_mul,Nat.mul_assoc v,Nat.mul_comm 128 (2 ^ (7*i))]
   omega
  ·rw [hp];omega
  rw [show 8-i=(8-(i+1))+1 by omega]
  unfold putGo
  rw [if_neg (by omega)]
  have q1:(v*128+c.toNat % 128) % 128+128=c.toNat:=by omega
  have q2:(v*128+c.toNat % 128) / 128=v:=by omega
  rw [q1,q2,e6,UInt8.ofNat_toNat]
  rfl
theorem number_back {bs:List UInt8} {y m:Nat} (h:number bs=(y,m,0)):y<9223372036854775808∧1≤m∧m≤bs.length∧put y=bs.take m:=by
 obtain ⟨v,k,e1,e2,e3,e4,e5,e6,e7⟩:=scan_back bs 0 0 y m (by decide) h
 have ey:y=v:=by simpa using e1
 have em:m=k:=by omega
 subst ey;subst em
 exact ⟨e5,e3,e4,e6⟩
theorem scan_bad:∀ (bs:List UInt8) (i n:Nat),(scan i n bs).2.2≠0→scan i n bs=(0,0,10)∨scan i n bs=(0,0,11)
 | [],i,n,h=>.inl rfl
 | c::r,i,n,h=>by
  unfold scan at h ⊢
  by_cases h1:(i=8∧128≤c.toNat)∨(0<i∧c.toNat=0)
  ·rw [if_pos h1];exact .inr rfl
  rw [if_neg h1] at h ⊢
  by_cases h2:c.toNat<128
  ·rw [if_pos h2] at h;exact absurd rfl h
  rw [if_neg h2] at h ⊢
  exact scan_bad r _ _ h
theorem number_err (bs:List UInt8):(number bs).2.2=0∨number bs=(0,0,10)∨number bs=(0,0,11):=by
 by_cases h:(number bs).2.2=0
 ·exact .inl h
 exact .inr (scan_bad bs 0 0 h)
end Go.Proofs.YtffehfpbdcokbaaGreat.Box
namespace Go.Proofs.YtffehfpbdcokbaaGreat
open Lib (hid)
open Go.RowKit Box
def errOf (t:Nat×Nat×Int):Value:=.tuple #[.int .u64 (t.1:Int),.int .i64 (t.2.1:Int),.int .i64 t.2.2]
theorem or_num {n X i:Nat} (hn:n<2 ^ (7*i)) (hX:X<128) (hi:i≤8):bits .or .u64 (n:Int) (IntKind.u64.wrap ((X:Int)*2 ^ (7*i)))=((n+X*2 ^ (7*i):Nat):Int):=by
 have hp:2 ^ (7*i)≤2 ^ 56:=Nat.pow_le_pow_right (by decide) (by omega)
 have h56:(2:Nat) ^ 56=72057594037927936:=by decide
 have hm:X*2 ^ (7*i)≤127*2 ^ (7*i):=Nat.mul_le_mul_right _ (by omega)
 have e0:(X:Int)*2 ^ (7*i)=((X*2 ^ (7*i):Nat):Int):=by simp
 rw [e0,Go.IntWalk.u64_in _ (by omega)]
 have h1:=Num.or64 (a:=n) (b:=X*2 ^ (7*i)) (by unfold Num.M64;omega) (by unfold Num.M64;omega)
 rw [h1]
 have h3:=Nat.shiftLeft_add_eq_or_of_lt (a:=X) (b:=n) (i:=7*i) hn
 rw [Nat.shiftLeft_eq] at h3
 rw [Nat.or_comm,← h3,Nat.add_comm]
theorem and_num {X:Nat} (h:X<256):bits .and .u8 (X:Int) 127=((X % 128:Nat):Int):=by
 have h1:bits .and .u8 (X:Int) ((127:Nat):Int)=((X &&& 127:Nat):Int):=u8_and_nat X 127 h (by decide)
 rw [show (127:Nat)=2 ^ 7-1 by rfl,Nat.and_two_pow_sub_one_eq_mod] at h1
 exact h1
set_option maxRecDepth 100000 in
set_option maxHeartbeats 2000000 in
theorem number_p (A:Option Addr) (bs:List UInt8) (n c B:Nat) (w:World) (hn:n=bs.length) (hr:BRow w B A bs) (hlen:bs.length≤maxLen) :
 Calls Tryz.prog 129 #[.slice A n c] w fun e w'=>e=.returned (errOf (number bs))∧w=w':=by
 subst hn
 have HR:=hid hr
 obtain ⟨R,hR⟩:∃ R,number bs=R:=⟨_,rfl⟩
 rw [hR]
 have HN:=hid hR
 clear hr hR
 go_enter Tryz.func129,Tryz.ntmps129
 go_wp2
 go_loopw [2,9] (fun nv iv wr=>w=wr∧∃ (i n:Nat),iv=.int .i64 i∧nv=.int .u64 n∧i≤bs.length∧i≤8∧n<2 ^ (7*i)∧scan i n (bs.drop i)=R) (fun _ iv _=>bs.length-(intOf iv).toNat)
 case atStart=>exact ⟨rfl,0,0,rfl,rfl,by omega,by omega,by decide,HN.out⟩
 case round =>
 obtain ⟨rfl,i,n,rfl,rfl,hi,hi8,hnp,hsc⟩:=hrel
 by_cases hlt:i<bs.length
 ·obtain ⟨b0,off,rfl,hb0,hcell⟩:=HR.out (by omega)
  have hc:=hcell i hlt
  rw [List.drop_eq_getElem_cons hlt] at hsc
  have hg:bs.getD i 0=bs[i]:=by simp [List.getD,List.getElem?_eq_getElem hlt]
  rw [hg] at hc
  obtain ⟨x,hx⟩:∃ x,bs[i]=x:=⟨_,rfl⟩
  rw [hx] at hsc hc
  have hxl:=x.toNat_lt
  clear hg hx hcell
  unfold scan at hsc
  unfold byteV at hc
  obtain ⟨X,hX⟩:∃ X,x.toNat=X:=⟨_,rfl⟩
  rw [hX] at hsc hc hxl
  clear hX
  by_cases h1:(i=8∧128≤X)∨(0<i∧X=0)
  ·rw [if_pos h1] at hsc
   subst hsc
   go_wp2
   all_goals
    refine bodyPost_ret (results_tmp3 rfl _ _ _) rfl ?_
    exact ⟨rfl,rfl⟩
  rw [if_neg h1] at hsc
  have h10:¬ (i=8∧128≤X):=fun h=>h1 (.inl h)
  have h11:¬ (0<i∧X=0):=fun h=>h1 (.inr h)
  clear h1
  by_cases h2:X<128
  ·rw [if_pos h2] at hsc
   have hor:=or_num hnp h2 hi8
   by_cases h8:i=8
   ·subst h8
    have hx0:0<X:=by omega
    have e0:IntKind.u64.wrap ((X:Int)*2 ^ (7*8))=(X:Int)*72057594037927936:=Go.IntWalk.u64_in _ (by omega)
    rw [e0] at hor
    clear h10 h11 hnp
    go_wp2
    refine bodyPost_ret (results_tmp3 rfl _ _ _) rfl ?_
    rw [← hsc]
    exact ⟨rfl,rfl⟩
   have h8':((i:Int)==8)=false:=by simp;omega
   clear h10
   by_cases hi0:i=0
   ·subst hi0
    have hc0:w.cell? ⟨b0,off,none⟩=some (.int .u8 (X:Int)):=hc
    clear h11
    have e1:X*2 ^ (7*0)=X:=by simp
    have e2:IntKind.u64.wrap ((X:Int)*2 ^ (7*0))=(X:Int):=by rw [show ((X:Int)*2 ^ (7*0))=(X:Int) by simp];exact Go.IntWalk.u64_in _ (by omega)
    rw [e2,e1] at hor
    rw [e1] at hsc
    go_wp2
    refine bodyPost_ret (results_tmp3 rfl _ _ _) rfl ?_
    rw [← hsc]
    exact ⟨rfl,rfl⟩
   have hx0:0<X:=by omega
   clear h11
   go_wp2
   refine bodyPost_ret (results_tmp3 rfl _ _ _) rfl ?_
   rw [← hsc]
   exact ⟨rfl,rfl⟩
  rw [if_neg h2] at hsc
  have hi7:i<8:=by omega
  have ha:=and_num hxl
  obtain ⟨Y,hY⟩:∃ Y,X % 128=Y:=⟨_,rfl⟩
  rw [hY] at ha hsc
  have hY2:Y<128:=by omega
  have hor:=or_num hnp hY2 hi8
  have hwY:IntKind.u64.wrap (Y:Int)=Y:=Go.IntWalk.u64_in _ (by omega)
  have h8':((i:Int)==8)=false:=by simp;omega
  have hx0:((X:Int)==0)=false:=by simp;omega
  have hnp2:n+Y*2 ^ (7*i)<2 ^ (7*(i+1)):=by
   rw [pow_step]
   have hm:Y*2 ^ (7*i)≤127*2 ^ (7*i):=Nat.mul_le_mul_right _ (by omega)
   omega
  have HSC:=hid hsc
  clear h10 h11 hsc hY
  go_wp2
  all_goals
   exact ⟨⟨trivial,i+1,_,by go_num,rfl,by omega,by omega,hnp2,HSC.out⟩,by simp [intOf];omega⟩
 obtain rfl:i=bs.length:=by omega
 rw [List.drop_length] at hsc
 subst hsc
 go_wp2
 refine bodyPost_ret (results_tmp3 rfl _ _ _) rfl ?_
 exact ⟨rfl,rfl⟩
open Go.RowKit Box
set_option maxRecDepth 100000 in
set_option maxHeartbeats 2000000 in
theorem rnumber_p (A:Option Addr) (bs:List UInt8) (n c B:Nat) (w:World) (hn:n=bs.length) (hr:BRow w B A bs) (hlen:bs.length≤maxLen) :
 Calls Tryz.prog 99 #[.slice A n c] w fun e w'=>e=.returned (errOf (number bs))∧w=w':=by
 subst hn
 have HR:=hid hr
 obtain ⟨R,hR⟩:∃ R,number bs=R:=⟨_,rfl⟩
 rw [hR]
 have HN:=hid hR
 clear hr hR
 go_enter Tryz.func99,Tryz.ntmps99
 go_wp2
 go_loopw [2,5] (fun nv iv wr=>w=wr∧∃ (i n:Nat),iv=.int .i64 i∧nv=.int .u64 n∧i≤bs.length∧i≤8∧n<2 ^ (7*i)∧scan i n (bs.drop i)=R) (fun _ iv _=>bs.length-(intOf iv).toNat)
 case atStart=>exact ⟨rfl,0,0,rfl,rfl,by omega,by omega,by decide,HN.out⟩
 case round =>
 obtain ⟨rfl,i,n,rfl,rfl,hi,hi8,hnp,hsc⟩:=hrel
 by_cases hlt:i<bs.length
 ·obtain ⟨b0,off,rfl,hb0,hcell⟩:=HR.out (by omega)
  have hc:=hcell i hlt
  rw [List.drop_eq_getElem_cons hlt] at hsc
  have hg:bs.getD i 0=bs[i]:=by simp [List.getD,List.getElem?_eq_getElem hlt]
  rw [hg] at hc
  obtain ⟨x,hx⟩:∃ x,bs[i]=x:=⟨_,rfl⟩
  rw [hx] at hsc hc
  have hxl:=x.toNat_lt
  clear hg hx hcell
  unfold scan at hsc
  unfold byteV at hc
  obtain ⟨X,hX⟩:∃ X,x.toNat=X:=⟨_,rfl⟩
  rw [hX] at hsc hc hxl
  clear hX
  have ha:=and_num hxl
  by_cases h1:(i=8∧128≤X)∨(0<i∧X=0)
  ·rw [if_pos h1] at hsc
   subst hsc
   rcases h1 with ⟨rfl,h128⟩ | ⟨h0i,rfl⟩
   all_goals
    try have hd1:decide (128≤(X:Int))=true:=by simp;omega
    go_wp2
    all_goals
     refine bodyPost_ret (results_tmp3 rfl _ _ _) rfl ?_
     exact ⟨rfl,rfl⟩
  rw [if_neg h1] at hsc
  have h10:¬ (i=8∧128≤X):=fun h=>h1 (.inl h)
  have h11:¬ (0<i∧X=0):=fun h=>h1 (.inr h)
  clear h1
  by_cases h2:X<128
  ·rw [if_pos h2] at hsc
   rw [Nat.mod_eq_of_lt h2] at ha
   have hmm:(X:Int) % 128=(X:Int):=by omega
   have hor:=or_num hnp h2 hi8
   by_cases h8:i=8
   ·subst h8
    have hx0:0<X:=by omega
    have e0:IntKind.u64.wrap ((X:Int)*2 ^ (7*8))=(X:Int)*72057594037927936:=Go.IntWalk.u64_in _ (by omega)
    rw [e0] at hor
    have hd1:decide (128≤(X:Int))=false:=by simp;omega
    have hd2:((X:Int)==0)=false:=by simp;omega
    clear h10 h11 hnp
    go_wp2
    refine bodyPost_ret (results_tmp3 rfl _ _ _) rfl ?_
    rw [← hsc]
    exact ⟨rfl,rfl⟩
   have h8':((i:Int)==8)=false:=by simp;omega
   clear h10
   by_cases hi0:i=0
   ·subst hi0
    have hc0:w.cell? ⟨b0,off,none⟩=some (.int .u8 (X:Int)):=hc
    clear h11
    have e1:X*2 ^ (7*0)=X:=by simp
    have e2:IntKind.u64.wrap ((X:Int)*2 ^ (7*0))=(X:Int):=by rw [show ((X:Int)*2 ^ (7*0))=(X:Int) by simp];exact Go.IntWalk.u64_in _ (by omega)
    rw [e2,e1] at hor
    rw [e1] at hsc
    go_wp2
    refine bodyPost_ret (results_tmp3 rfl _ _ _) rfl ?_
    rw [← hsc]
    exact ⟨rfl,rfl⟩
   have hx0:0<X:=by omega
   clear h11
   go_wp2
   refine bodyPost_ret (results_tmp3 rfl _ _ _) rfl ?_
   rw [← hsc]
   exact ⟨rfl,rfl⟩
  rw [if_neg h2] at hsc
  have hi7:i<8:=by omega
  obtain ⟨Y,hY⟩:∃ Y,X % 128=Y:=⟨_,rfl⟩
  rw [hY] at ha hsc
  have hY2:Y<128:=by omega
  have hmm:(X:Int) % 128=(Y:Int):=by omega
  have hor:=or_num hnp hY2 hi8
  have hwY:IntKind.u64.wrap (Y:Int)=Y:=Go.IntWalk.u64_in _ (by omega)
  have h8':((i:Int)==8)=false:=by simp;omega
  have hx0:((X:Int)==0)=false:=by simp;omega
  have hnp2:n+Y*2 ^ (7*i)<2 ^ (7*(i+1)):=by
   rw [pow_step]
   have hm:Y*2 ^ (7*i)≤127*2 ^ (7*i):=Nat.mul_le_mul_right _ (by omega)
   omega
  have HSC:=hid hsc
  clear h10 h11 hsc hY
  go_wp2
  all_goals
   exact ⟨⟨trivial,i+1,_,by go_num,rfl,by omega,by omega,hnp2,HSC.out⟩,by simp [intOf];omega⟩
 obtain rfl:i=bs.length:=by omega
 rw [List.drop_length] at hsc
 subst hsc
 go_wp2
 refine bodyPost_ret (results_tmp3 rfl _ _ _) rfl ?_
 exact ⟨rfl,rfl⟩
end Go.Proofs.YtffehfpbdcokbaaGreat
