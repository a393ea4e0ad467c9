import Derived.Deep.RegionLaw
import Derived.Test.YtffehfpbdcokbaaGreatBu2
import Derived.Test.YtffehfpbdcokbaaGreatBu6
import Derived.Test.YtffehfpbdcokbaaGreatBu9
import Derived.Test.YtffehfpbdcokbaaGreatBu11
import Derived.Test.YtffehfpbdcokbaaGreatBu12
set_option linter.unusedVariables false
set_option linter.unusedSimpArgs false
namespace Go.Proofs.YtffehfpbdcokbaaGreat
open Lib (hid)
open Go.RowKit Rng
theorem slice_fromR (A:Option Addr) (n c f:Nat) (hf:f≤n) (hn:n≤c) (w:World) :
 (Instr.sliceAt 22 (.slice A n c) (some (.int .i64 (f:Int))) none none).run Tryz.prog w=.ok (.slice (if c=f then A else A.map (·.add f)) (n-f) (c-f)) w:=by
 by_cases hcf:c=f
 ·simp [go_sem,hcf]
  intro h;omega
 simp [go_sem,hcf]
 intro h;omega
theorem or_at {x y:Nat} (i:Nat) (hx:x % 2 ^ i=0) (hy:y<2 ^ i) (h:x+y<4294967296):bits .or .u32 (x:Int) (y:Int)=((x+y:Nat):Int):=by
 have e1:x<Num.M32:=by show x<4294967296;omega
 have e2:y<Num.M32:=by show y<4294967296;omega
 have h1:=Num.or32 e1 e2
 have h3:=Nat.shiftLeft_add_eq_or_of_lt (a:=x / 2 ^ i) (b:=y) (i:=i) hy
 have e:(x / 2 ^ i) <<< i=x:=by rw [Nat.shiftLeft_eq];exact Nat.div_mul_cancel (Nat.dvd_of_mod_eq_zero hx)
 rw [e] at h3
 rw [← h3] at h1
 exact h1
def be4 (bs:List UInt8):Nat:=(((bs.getD 1 0).toNat*256+(bs.getD 2 0).toNat)*256+(bs.getD 3 0).toNat)*256+(bs.getD 4 0).toNat
def newDec (bs:List UInt8):Dec:=⟨bs.drop 5,4294967295,be4 bs,false⟩
theorem be4_lt (bs:List UInt8):be4 bs<4294967296:=by
 unfold be4
 have h1:=(bs.getD 1 0).toNat_lt
 have h2:=(bs.getD 2 0).toNat_lt
 have h3:=(bs.getD 3 0).toNat_lt
 have h4:=(bs.getD 4 0).toNat_lt
 omega
theorem newDec_fits (bs:List UInt8):(newDec bs).Fits:=⟨by show 4294967295<4294967296;omega,be4_lt bs⟩
def newErr (bs:List UInt8):Int:=if bs.length<5 then 10 else if bs.getD 0 0=0 then 0 else 11
theorem dnew_bad_p (A:Option Addr) (bs:List UInt8) (n c B:Nat) (w:World) (hn:n=bs.length) (hr:BRow w B A bs) (hc:bs.length≤c) (hcm:c≤maxLen) (h:newErr bs≠0) :
 Calls Tryz.prog 140 #[.slice A n c] w fun e w'=>e=.returned (.tuple #[.pointer none,.int .i64 (newErr bs)])∧w=w':=by
 subst hn
 by_cases h5:bs.length<5
 ·have e:newErr bs=10:=if_pos h5
  rw [e]
  clear h e
  go_enter Tryz.func140,Tryz.ntmps140
  go_wp2
  go_ret2
  exact ⟨rfl,rfl⟩
 by_cases h0:bs.getD 0 0=0
 ·exact absurd (by unfold newErr;rw [if_neg h5,if_pos h0]) h
 have e:newErr bs=11:=by unfold newErr;rw [if_neg h5,if_neg h0]
 rw [e]
 obtain ⟨ab,off,rfl,hab,hcell⟩:=hr (by omega)
 have x0:w.cell? ⟨ab,off,none⟩=some (.int .u8 ((bs.getD 0 0).toNat:Int)):=hcell 0 (by omega)
 have hne:(((bs.getD 0 0).toNat:Int)==0)=false:=by
  have h9:(bs.getD 0 0).toNat≠0:=fun e=>h0 (UInt8.toNat_inj.1 (by simpa using e))
  exact beq_eq_false_iff_ne.2 (by omega)
 generalize ((bs.getD 0 0).toNat:Int)=x at *
 have hlen:5≤bs.length:=by omega
 clear h e h0 hcell h5 hr
 go_enter Tryz.func140,Tryz.ntmps140
 go_wp2
 go_ret2
 exact ⟨rfl,rfl⟩
theorem dnew_bad_r (A:Option Addr) (bs:List UInt8) (n c B:Nat) (w:World) (hn:n=bs.length) (hr:BRow w B A bs) (hc:bs.length≤c) (hcm:c≤maxLen) (h:newErr bs≠0) :
 Calls Tryz.prog 146 #[.slice A n c] w fun e w'=>e=.returned (.tuple #[.pointer none,.int .i64 (newErr bs)])∧w=w':=by
 subst hn
 by_cases h5:bs.length<5
 ·have e:newErr bs=10:=if_pos h5
  rw [e]
  clear h e
  go_enter Tryz.func146,Tryz.ntmps146
  go_wp2
  go_ret2
  exact ⟨rfl,rfl⟩
 by_cases h0:bs.getD 0 0=0
 ·exact absurd (by unfold newErr;rw [if_neg h5,if_pos h0]) h
 have e:newErr bs=11:=by unfold newErr;rw [if_neg h5,if_neg h0]
 rw [e]
 obtain ⟨ab,off,rfl,hab,hcell⟩:=hr (by omega)
 have x0:w.cell? ⟨ab,off,none⟩=some (.int .u8 ((bs.getD 0 0).toNat:Int)):=hcell 0 (by omega)
 have hne:(((bs.getD 0 0).toNat:Int)==0)=false:=by
  have h9:(bs.getD 0 0).toNat≠0:=fun e=>h0 (UInt8.toNat_inj.1 (by simpa using e))
  exact beq_eq_false_iff_ne.2 (by omega)
 generalize ((bs.getD 0 0).toNat:Int)=x at *
 have hlen:5≤bs.length:=by omega
 clear h e h0 hcell h5 hr
 go_enter Tryz.func146,Tryz.ntmps146
 go_wp2
 go_ret2
 exact ⟨rfl,rfl⟩
theorem newRow {w W:World} {bs:List UInt8} {A:Option Addr} {c:Nat} (hr:BRow w w.heap.size A bs) (hb:Below w.heap.size w W) (hc:bs.length≤c):BRow W W.heap.size (if c=5 then A else A.map (·.add 5)) (bs.drop 5) :=
 ((hr.drop (k:=5) (cap:=c) hc).below hb).more hb.size
theorem newRow5 {w W:World} {bs:List UInt8} {ab off c:Nat} (hc5:¬ c=5) (hr:BRow w w.heap.size (some ⟨ab,off,none⟩) bs) (hb:Below w.heap.size w W) (hc:bs.length≤c):BRow W W.heap.size (some ⟨ab,off+5,none⟩) (bs.drop 5):=by
 have h9:=newRow hr hb hc
 rw [if_neg hc5,Option.map_some,Opn.add_at] at h9
 exact h9
theorem newRow0 {w W:World} {bs:List UInt8} {ab off c:Nat} (hc5:c=5) (hr:BRow w w.heap.size (some ⟨ab,off,none⟩) bs) (hb:Below w.heap.size w W) (hc:bs.length≤c):BRow W W.heap.size (some ⟨ab,off,none⟩) (bs.drop 5):=by
 have h9:=newRow hr hb hc
 rw [if_pos hc5] at h9
 exact h9
theorem DecAt.made {W:World} {T b ab c5 be:Nat} {A5:Option Addr} {bs:List UInt8} (hp:Pts W b #[.slice A5 (bs.length-5) c5,.int .u32 ((4294967295:Nat):Int),.int .u32 be,.bool false] T) (hr:BRow W W.heap.size A5 (bs.drop 5)) (ho:∀ ad,A5=some ad→ad.block=ab)
 (hc:bs.length-5≤c5) (hcm:c5≤maxLen) (hfit:Dec.Fits ⟨bs.drop 5,4294967295,be,false⟩) (hn:ab≠b):DecAt W T b ab ⟨bs.drop 5,4294967295,be,false⟩:=by
 refine ⟨⟨A5,c5,?_,hr,fun h0 ad e=>by simpa using ho ad e,?_,hcm⟩,hfit,hn⟩
 ·show Pts _ _ #[.slice _ (bs.drop 5).length _,_,_,_] _
  rw [List.length_drop]
  exact hp
 show (bs.drop 5).length≤_
 rw [List.length_drop]
 exact hc
set_option maxRecDepth 100000 in
set_option maxHeartbeats 1000000 in
theorem dnew_r (A:Option Addr) (bs:List UInt8) (n c:Nat) (w:World) (hn:n=bs.length) (hr:BRow w w.heap.size A bs) (hc:bs.length≤c) (hcm:c≤maxLen) (h:newErr bs=0) :
 Calls Tryz.prog 146 #[.slice A n c] w fun e w'=>∃ b rb off,A=some ⟨rb,off,none⟩∧e=.returned (.tuple #[.pointer (some ⟨b,0,none⟩),.int .i64 0])∧DecAt w' 268 b rb (newDec bs)∧w.heap.size≤b∧Below w.heap.size w w':=by
 subst hn
 have h5:5≤bs.length:=by
  unfold newErr at h
  by_cases h5:bs.length<5
  ·rw [if_pos h5] at h;cases h
  omega
 have h0:bs.getD 0 0=0:=by
  unfold newErr at h
  rw [if_neg (by omega)] at h
  by_cases h0:bs.getD 0 0=0
  ·exact h0
  rw [if_neg h0] at h;cases h
 obtain ⟨ab,off,rfl,hab,hcell⟩:=hr (by omega)
 have x0:w.cell? ⟨ab,off,none⟩=some (.int .u8 0):=by have:=hcell 0 (by omega);rw [h0] at this;exact this
 have x1:w.cell? ⟨ab,off+1,none⟩=some (.int .u8 ((bs.getD 1 0).toNat:Int)):=hcell 1 (by omega)
 have x2:w.cell? ⟨ab,off+2,none⟩=some (.int .u8 ((bs.getD 2 0).toNat:Int)):=hcell 2 (by omega)
 have x3:w.cell? ⟨ab,off+3,none⟩=some (.int .u8 ((bs.getD 3 0).toNat:Int)):=hcell 3 (by omega)
 have x4:w.cell? ⟨ab,off+4,none⟩=some (.int .u8 ((bs.getD 4 0).toNat:Int)):=hcell 4 (by omega)
 have y1:=(bs.getD 1 0).toNat_lt
 have y2:=(bs.getD 2 0).toNat_lt
 have y3:=(bs.getD 3 0).toNat_lt
 have y4:=(bs.getD 4 0).toNat_lt
 have hbe:be4 bs=(((bs.getD 1 0).toNat*256+(bs.getD 2 0).toNat)*256+(bs.getD 3 0).toNat)*256+(bs.getD 4 0).toNat:=rfl
 generalize (bs.getD 1 0).toNat=a1 at *
 generalize (bs.getD 2 0).toNat=a2 at *
 generalize (bs.getD 3 0).toNat=a3 at *
 generalize (bs.getD 4 0).toNat=a4 at *
 have o1:bits .or .u32 ((a1:Int)*16777216) ((a2:Int)*65536)=((a1*16777216+a2*65536:Nat):Int):=or_at (x:=a1*16777216) (y:=a2*65536) 24 (by omega) (by omega) (by omega)
 have o2:bits .or .u32 ((a1*16777216+a2*65536:Nat):Int) ((a3:Int)*256)=((a1*16777216+a2*65536+a3*256:Nat):Int):=or_at (x:=a1*16777216+a2*65536) (y:=a3*256) 16 (by omega) (by omega) (by omega)
 have o3:bits .or .u32 ((a1*16777216+a2*65536+a3*256:Nat):Int) (a4:Int)=((be4 bs:Nat):Int):=by
  rw [or_at (x:=a1*16777216+a2*65536+a3*256) (y:=a4) 8 (by omega) (by omega) (by omega),hbe];congr 1;omega
 obtain ⟨z1,hz1⟩:∃ z1,a1*16777216+a2*65536=z1:=⟨_,rfl⟩
 obtain ⟨z2,hz2⟩:∃ z2,z1+a3*256=z2:=⟨_,rfl⟩
 rw [hz1,hz2] at o3
 rw [hz1,hz2] at o2
 rw [hz1] at o1
 have HR:=hid hr
 have hfit:=hid (newDec_fits bs)
 obtain ⟨be,hbe2⟩:∃ be,be4 bs=be:=⟨_,rfl⟩
 have hnd:newDec bs=⟨bs.drop 5,4294967295,be,false⟩:=by rw [← hbe2];rfl
 rw [hbe2] at o3
 rw [hnd] at hfit ⊢
 have hc5:¬ c=5∨c=5:=by omega
 clear hr hcell h0 h hbe hz1 hz2 hbe2 hnd
 rcases hc5 with hc5 | hc5
 all_goals
  go_enter Tryz.func146,Tryz.ntmps146
  go_wp2
  go_quiet (fail)
  go_wp2
  go_ret2
  have bel:∀ o,Below w.heap.size w ((w.drewN nq).alloc o):=fun o=>(((Frm.refl (fun _=>False) w).drewN nq).alloc o).below (Nat.le_refl _) (fun _ h=>h.elim)
  first
   | exact ⟨w.heap.size,ab,off,rfl,rfl,DecAt.made (Pts.new (w.drewN nq) _ _) (newRow5 hc5 HR.out (bel _) hc) (fun ad e=>by injection e with e;rw [← e]) (by omega) (by omega) hfit.out (by omega),Nat.le_refl _,bel _⟩
   | exact ⟨w.heap.size,ab,off,rfl,rfl,DecAt.made (Pts.new (w.drewN nq) _ _) (newRow0 hc5 HR.out (bel _) hc) (fun ad e=>by injection e with e;rw [← e]) (by omega) (by omega) hfit.out (by omega),Nat.le_refl _,bel _⟩
def beN (bs:List UInt8):Nat→Nat
 | 0=>0
 | j+1=>beN bs j*256+(bs.getD (j+1) 0).toNat
theorem beN_lt (bs:List UInt8):∀ j,beN bs j<256 ^ j
 | 0=>by simp [beN]
 | j+1=>by
  have h1:=beN_lt bs j
  have h2:=(bs.getD (j+1) 0).toNat_lt
  rw [beN,Nat.pow_succ]
  omega
theorem beN_4 (bs:List UInt8):beN bs 4=be4 bs:=by simp [beN,be4]
set_option maxRecDepth 100000 in
set_option maxHeartbeats 1000000 in
theorem dnew_p (A:Option Addr) (bs:List UInt8) (n c:Nat) (w:World) (hn:n=bs.length) (hr:BRow w w.heap.size A bs) (hc:bs.length≤c) (hcm:c≤maxLen) (hlen:bs.length≤140737488355328) (h:newErr bs=0) :
 Calls Tryz.prog 140 #[.slice A n c] w fun e w'=>∃ b rb,e=.returned (.tuple #[.pointer (some ⟨b,0,none⟩),.int .i64 0])∧DecAt w' 265 b rb (newDec bs)∧w.heap.size≤b∧w.heap.size≤rb∧Below w.heap.size w w':=by
 subst hn
 have h5:5≤bs.length:=by
  unfold newErr at h
  by_cases h5:bs.length<5
  ·rw [if_pos h5] at h;cases h
  omega
 have h0:bs.getD 0 0=0:=by
  unfold newErr at h
  rw [if_neg (by omega)] at h
  by_cases h0:bs.getD 0 0=0
  ·exact h0
  rw [if_neg h0] at h;cases h
 obtain ⟨ab,off,rfl,hab,hcell⟩:=hr (by omega)
 have x0:w.cell? ⟨ab,off,none⟩=some (.int .u8 0):=by have:=hcell 0 (by omega);rw [h0] at this;exact this
 have HR:=hid hr
 have HC:=hid hcell
 have hc1:¬ c=1:=by omega
 clear hr hcell h0 h
 go_enter Tryz.func140,Tryz.ntmps140
 go_wp2
 have P0:=Pts.new w #[.slice none 0 0,.int .u32 4294967295,.int .u32 0,.bool false] 265
 have B0:=(Below.refl w.heap.size w).alloc (Nat.le_refl _) (.cells #[.slice none 0 0,.int .u32 4294967295,.int .u32 0,.bool false] 265)
 generalize w.alloc (.cells #[.slice none 0 0,.int .u32 4294967295,.int .u32 0,.bool false] 265)=w0 at *
 have PP:=hid P0
 have BB:=hid B0
 clear P0 B0 x0
 go_loopw [21] (fun iv wr=>∃ j:Nat,iv=.int .i64 j∧j≤4∧Pts wr w.heap.size #[.slice none 0 0,.int .u32 4294967295,.int .u32 (beN bs j),.bool false] 265∧w.heap.size<wr.heap.size∧Below w.heap.size w wr) (fun iv _=>4-(intOf iv).toNat)
 case atStart=>exact ⟨0,rfl,by omega,PP.out,PP.out.lt,BB.out⟩
 case round =>
 obtain ⟨j,rfl,hj,hp,hsz,hb⟩:=hrel
 clear PP BB
 by_cases hj4:j<4
 ·have x1:wr.cell? ⟨ab,off+1+j,none⟩=some (.int .u8 ((bs.getD (j+1) 0).toNat:Int)):=by
   rw [hb.cell (p:=⟨ab,off+1+j,none⟩) hab,show off+1+j=off+(j+1) by omega];exact HC.out (j+1) (by omega)
  have y1:=(bs.getD (j+1) 0).toNat_lt
  have hl:=beN_lt bs j
  have hl3:beN bs j<256 ^ 3:=Nat.lt_of_lt_of_le hl (Nat.pow_le_pow_right (by omega) (by omega))
  have hst:beN bs (j+1)=beN bs j*256+(bs.getD (j+1) 0).toNat:=rfl
  generalize (bs.getD (j+1) 0).toNat=xn at *
  have d2:wr.cell? ⟨w.heap.size,2,none⟩=some (.int .u32 (beN bs j)):=by rw [hp.cell];rfl
  have g2:=hp.frozen 2
  have o1:bits .or .u32 ((beN bs j*256:Nat):Int) (xn:Int)=((beN bs (j+1):Nat):Int):=by
   rw [or_at (x:=beN bs j*256) (y:=xn) 8 (by omega) (by omega) (by omega),hst]
  have hwx:IntKind.u32.wrap (xn:Int)=(xn:Int):=by rw [Go.IntWalk.u32_in _ (by omega)]
  have hwz:IntKind.u32.wrap ((beN bs j:Int)*256)=((beN bs j*256:Nat):Int):=by rw [Go.IntWalk.u32_in _ (by omega)];omega
  obtain ⟨z,hz⟩:∃ z,beN bs j*256=z:=⟨_,rfl⟩
  rw [hz] at o1 hwz
  have HP:=hid hp
  have HB:=hid hb
  clear hl hl3 hst hz hp hb y1
  generalize beN bs j=m at *
  obtain ⟨m2,hm2⟩:∃ m2,beN bs (j+1)=m2:=⟨_,rfl⟩
  rw [hm2] at o1
  have HM2:=hid hm2
  clear hm2
  go_wp2
  exact ⟨⟨j+1,by go_num,by omega,by rw [HM2.out];exact HP.out.set 2 _,Nat.lt_of_lt_of_le hsz ((Frm.refl (fun _=>True) wr).setCell (p:=⟨w.heap.size,2,none⟩) trivial _).size,HB.out.setCell (p:=⟨w.heap.size,2,none⟩) (Nat.le_refl _) _⟩,by simp [intOf];omega⟩
 obtain rfl:j=4:=by omega
 have HP:=hid hp
 have HB:=hid hb
 have d0:wr.cell? ⟨w.heap.size,0,none⟩=some (.slice none 0 0):=by rw [hp.cell];rfl
 have f0:=hp.frozen 0
 clear hp hb
 go_wp2
 have hsf:∀ w,(Instr.sliceAt 22 (.slice (some ⟨ab,off,none⟩) bs.length c) (some (.int .i64 5)) none none).run Tryz.prog w=.ok (.slice (if c=5 then some (⟨ab,off,none⟩:Addr) else (some (⟨ab,off,none⟩:Addr)).map (·.add 5)) (bs.length-5) (c-5)) w:=fun w=>slice_fromR (some ⟨ab,off,none⟩) bs.length c 5 h5 hc w
 have hrow:=((HR.out.drop (k:=5) (cap:=c) hc).below HB.out)
 have hnl:bs.length-5=(bs.drop 5).length:=List.length_drop.symm
 have hfit:=hid (newDec_fits bs)
 have hnd:newDec bs=⟨bs.drop 5,4294967295,beN bs 4,false⟩:=by rw [beN_4];rfl
 rw [hnd] at hfit
 have HND:=hid hnd
 generalize (if c=5 then some (⟨ab,off,none⟩:Addr) else (some (⟨ab,off,none⟩:Addr)).map (·.add 5))=Ad at *
 obtain ⟨nw,hnw⟩:∃ nw,bs.drop 5=nw:=⟨_,rfl⟩
 rw [hnw] at hrow hnl hfit HND
 have ROW:=hid hrow
 have NL:=hid hnl
 have hll:([]:List UInt8).length+nw.length≤140737488355328:=by rw [← hnl];simp;omega
 have hbase:w.heap.size≤wr.heap.size:=by omega
 clear hrow hnl hnd hnw
 go_region_law (refine stepR_append_bytes _ rfl (.tmp 41) (.tmp 43) 22 rfl 5 w.heap.size Tryz.underlying22 Tryz.info_u8 (.slice none 0 0) [] rfl (OwnB.nil _ _ _) Ad (bs.length-5) (c-5) w.heap.size nw rfl NL.out (ROW.out.drewN 1) hll hbase ?_;intro v1 w1 hown1 hfrm1 hnew1;rw [List.nil_append] at hown1;obtain ⟨A1,c1,rfl,hc1,hm1,hr1⟩:=hown1.slice;have hp1:=HP.out.drew.frm hfrm1 (fun e=>by cases e);have z1:=hp1.frozen 0;have z0:w1.cell? ⟨w.heap.size,0,none⟩=some (.slice none 0 0):=(hp1.cell 0).trans rfl)
 all_goals
  have P4:=hid (hp1.set 0 (.slice A1 nw.length c1))
  have hbo:BOff (· ≠ wr.heap.size) A1 nw:=by
   intro h0 ad e hk
   rcases hnew1 with h9 | h9
   ·rw [e] at h9;cases h9
   rw [e] at h9;injection h9 with h9;exact hk h9
  have F4:=(Frm.refl (· = w.heap.size) w1).setCell (p:=⟨w.heap.size,0,none⟩) (by rfl) (.slice A1 nw.length c1)
  have R4:=hid ((hr1.off (hbo.of_ne (by omega)) F4).more F4.size)
  have HBO:=hid hbo
  have B4:=hid (((HB.out.drew.trans (hfrm1.below HB.out.drew.size (fun k hk=>by cases hk))).setCell (p:=⟨w.heap.size,0,none⟩) (Nat.le_refl _) (.slice A1 nw.length c1)))
  clear hr1 hp1 hown1 hfrm1 hnew1 z0 z1 hbo F4
  go_wp2
  go_ret2
  rw [HND.out]
  exact ⟨w.heap.size,wr.heap.size,rfl,⟨⟨A1,c1,P4.out,R4.out,HBO.out,hc1,hm1⟩,hfit.out,by omega⟩,Nat.le_refl _,hbase,B4.out⟩
open Go.RowKit Rng Lz Win
structure RS where
 st:Nat
 rep:Nat→Nat
 s:CP Dec
 C:List UInt8
structure RS.Ok (x:RS):Prop where
 st:x.st<12
 rep:∀ j,x.rep j<4294967296
def stepOf (k:LK) (S total room:Nat) (x:RS):Option (List UInt8×RS) :=
 let a:=bitAt outC (8+x.st*16+total % 2 ^ k.pb) 0 x.s
 if a.1=0 then
  let l:=litOf outC k x.st total x.rep x.C a.2
  some ([UInt8.ofNat l.1],⟨behS x.st 0,x.rep,l.2,lastN S (x.C++[UInt8.ofNat l.1])⟩)
 else
  let o:=opOf outC x.st (total % 2 ^ k.pb) x.rep a.2
  if o.1≤room∧o.2.2.1 0+1≤x.C.length then some (cyc x.C (o.2.2.1 0+1) o.1,⟨o.2.1,o.2.2.1,o.2.2.2,lastN S (x.C++cyc x.C (o.2.2.1 0+1) o.1)⟩)
  else none
def chunkGo (k:LK) (S total n:Nat):Nat→List UInt8→RS→Option (List UInt8×RS)
 | 0,_,_=>none
 | f+1,told,x =>
  if n≤told.length then some (told,x)
  else match stepOf k S (total+told.length) (n-told.length) x with
   | none=>none
   | some (b,y)=>chunkGo k S total n f (told++b) y
def totOf (total:Nat):Nat:=if 1099511627776<total then 1099511627776+total % 16 else total
theorem totOf_lt (total:Nat):totOf total<1099511627792:=by unfold totOf;split <;> omega
def chunkOf (k:LK) (S total n st:Nat) (rep:Nat→Nat) (pr:Pr) (C bs:List UInt8):Option (List UInt8×RS) :=
 if newErr bs≠0 then none
 else match chunkGo k S (totOf total) n (n+1) [] ⟨st,rep,⟨newDec bs,pr⟩,C⟩ with
  | none=>none
  | some (told,y)=>if y.s.d.fin=(0,0) then some (told,y) else none
theorem distAt_lt {σ:Type} (co:Cod σ) (d size:Nat) (s:CP σ):(distAt co d size s).1<4294967296:=by
 unfold distAt
 simp only
 split
 ·rename_i h;simp only;omega
 split
 ·rename_i h1 h2
  generalize treeAt co (440+(min size 5-2)*64) 6 (slotOf d) s=t at *
  have hu:=backAt_lt co (696+(2+t.1 % 2)*2 ^ (t.1 / 2-1)-t.1) (t.1 / 2-1) (d-(2+t.1 % 2)*2 ^ (t.1 / 2-1)) t.2
  have hk:2 ^ (t.1 / 2-1)≤2 ^ 5:=Nat.pow_le_pow_right (by omega) (by omega)
  have hm:(2+t.1 % 2)*2 ^ (t.1 / 2-1)≤3*2 ^ (t.1 / 2-1):=Nat.mul_le_mul_right _ (by omega)
  simp only
  omega
 simp only;omega
theorem takeS_lt {rep:Nat→Nat} (h:∀ j,rep j<4294967296) (n:Nat):∀ j,takeS rep n j<4294967296:=by
 intro j
 unfold takeS
 repeat' split
 all_goals first | exact h _ | (unfold shiftN;split <;> exact h _)
theorem shiftN_lt {rep:Nat→Nat} (h:∀ j,rep j<4294967296) (n:Nat):∀ j,shiftN rep n j<4294967296:=by
 intro j
 unfold shiftN
 split <;> exact h _
theorem repOf_inv {σ:Type} (co:Cod σ) {st:Nat} (p:Nat) {rep:Nat→Nat} (s:CP σ) (hst:st<12) (h:∀ j,rep j<4294967296) :
 1≤(repOf co st p rep s).1∧(repOf co st p rep s).1≤300∧(repOf co st p rep s).2.1<12∧∀ j,(repOf co st p rep s).2.2.1 j<4294967296:=by
 unfold repOf
 simp only
 split
 ·split
  ·exact ⟨by simp,by simp,show behS st 3<12 from behS_lt hst,h⟩
  have hl:=lenAt_lt co 1354 2 p (bitAt co (248+st*16+p) 0 (bitAt co (212+st) 0 s).2).2
  exact ⟨by simp only;omega,hl.2,show behS st 2<12 from behS_lt hst,h⟩
 split
 ·exact ⟨Nat.le_trans (by decide) (lenAt_lt co 1354 2 p _).1,(lenAt_lt co 1354 2 p _).2,show behS st 2<12 from behS_lt hst,takeS_lt h _⟩
 exact ⟨Nat.le_trans (by decide) (lenAt_lt co 1354 2 p _).1,(lenAt_lt co 1354 2 p _).2,show behS st 2<12 from behS_lt hst,takeS_lt h _⟩
theorem opOf_inv {σ:Type} (co:Cod σ) {st:Nat} (p:Nat) {rep:Nat→Nat} (s:CP σ) (hst:st<12) (h:∀ j,rep j<4294967296) :
 1≤(opOf co st p rep s).1∧(opOf co st p rep s).1≤300∧(opOf co st p rep s).2.1<12∧∀ j,(opOf co st p rep s).2.2.1 j<4294967296:=by
 unfold opOf
 simp only
 split
 ·exact repOf_inv co p _ hst h
 refine ⟨Nat.le_trans (by decide) (lenAt_lt co 840 2 p _).1,(lenAt_lt co 840 2 p _).2,show behS st 1<12 from behS_lt hst,fun j=>?_⟩
 simp only
 split
 ·exact distAt_lt co 0 _ _
 exact shiftN_lt h 3 j
theorem stepOf_inv {k:LK} {S total room:Nat} {x y:RS} {b:List UInt8} (hx:x.Ok) (hr:1≤room) (h:stepOf k S total room x=some (b,y)):y.Ok∧1≤b.length∧b.length≤room:=by
 unfold stepOf at h
 simp only at h
 split at h
 ·injection h with h
  injection h with h1 h2
  subst h1;subst h2
  exact ⟨⟨show behS x.st 0<12 from behS_lt hx.st,hx.rep⟩,by simp,by simpa using hr⟩
 split at h
 ·rename_i hg
  injection h with h
  injection h with h1 h2
  subst h1;subst h2
  have hi:=opOf_inv outC (total % 2 ^ k.pb) (rep:=x.rep) (bitAt outC (8+x.st*16+total % 2 ^ k.pb) 0 x.s).2 hx.st hx.rep
  rw [cyc_length]
  exact ⟨⟨hi.2.2.1,hi.2.2.2⟩,hi.1,hg.1⟩
 cases h
theorem chunkGo_inv {k:LK} {S total n:Nat}:∀ (f:Nat) {told t':List UInt8} {x y:RS},x.Ok→told.length≤n→chunkGo k S total n f told x=some (t',y)→y.Ok∧t'.length=n∧∃ b,t'=told++b
 | 0,_,_,_,_,_,_,h=>by cases h
 | f+1,told,t',x,y,hx,hl,h=>by
  unfold chunkGo at h
  split at h
  ·injection h with h
   injection h with h1 h2
   subst h1;subst h2
   exact ⟨hx,by omega,[],by simp⟩
  cases hs:stepOf k S (total+told.length) (n-told.length) x with
  | none=>rw [hs] at h;cases h
  | some p =>
   obtain ⟨b,z⟩:=p
   rw [hs] at h
   simp only at h
   have hi:=stepOf_inv hx (by omega) hs
   have hr:=chunkGo_inv f hi.1 (by rw [List.length_append];omega) h
   obtain ⟨h1,h2,b2,h3⟩:=hr
   exact ⟨h1,h2,b++b2,by rw [h3,List.append_assoc]⟩
open Go.RowKit Rng Win Lz
structure DB where
 db:Nat
 rb:Nat
 wb:Nat
 kb:Nat
 S:Nat
 bw:Nat
 R:Obj
structure DzAt (Z:Nat→Prop) (w0 w:World) (k:LK) (g:DB) (st:Nat) (rep:Nat→Nat) (s:CP Dec) (all:List UInt8) (wv:Value):Prop where
 lz:LzAt (DCr g.db g.rb g.R) (DO g.db g.rb) 180 w k st rep s
 win:RWin w g.bw g.wb g.kb g.S true wv all
 nr:g.rb≠g.wb∧wv.ownBlock≠some g.rb
 bs:g.bw≤w.heap.size
 z:∀ q,(q=g.db∨q=k.sb∨q=k.lb∨q=g.wb∨wv.ownBlock=some q)→q<w0.heap.size→Z q
 f:Frm Z w0 w
section
variable {Z : Nat → Prop} {w0 w w' : World} {k : LK} {g : DB} {st : Nat} {rep : Nat → Nat} {s : CP Dec} {all : List UInt8} {wv : Value}
theorem DzAt.lzStep {st':Nat} {rep':Nat→Nat} {s':CP Dec} (h:DzAt Z w0 w k g st rep s all wv) (hl:LzAt (DCr g.db g.rb g.R) (DO g.db g.rb) 180 w' k st' rep' s') (hf:Frm (Wr (DO g.db g.rb) k) w w'):DzAt Z w0 w' k g st' rep' s' all wv:=by
 obtain ⟨cd,hd⟩:=DCr.pts h.lz.c
 have hw:=h.win.p
 have hwo:=h.win.o
 have hb1:¬ Wr (DO g.db g.rb) k g.wb:=by
  rintro ((e | e) | e | e)
  ·exact hw.ne_of hd (by decide) e
  ·exact h.nr.1 e.symm
  ·exact hw.ne_of h.lz.m (by decide) e
  exact hw.ne_of h.lz.l (by decide) e
 have hb2:∀ q,wv.ownBlock=some q→¬ Wr (DO g.db g.rb) k q:=by
  intro q hq
  rintro ((e | e) | e | e)
  ·subst e;exact own_ne hwo hd (by decide) hq
  ·subst e;exact h.nr.2 hq
  ·subst e;exact own_ne hwo h.lz.m (by decide) hq
  subst e;exact own_ne hwo h.lz.l (by decide) hq
 have hf2:Frm (fun q=>q=g.db∨q=k.sb∨q=k.lb) w w':=⟨hf.os,hf.tape,hf.output,hf.size,fun q hq hn=>by
  by_cases e:q=g.rb
  ·subst e
   rw [hl.c.2,h.lz.c.2]
  exact hf.block q hq (by
   rintro ((e2 | e2) | e2 | e2)
   ·exact hn (.inl e2)
   ·exact e e2
   ·exact hn (.inr (.inl e2))
   exact hn (.inr (.inr e2)))⟩
 refine ⟨hl,⟨hw.frm hf hb1,hwo.frm hf hb2⟩,h.nr,Nat.le_trans h.bs hf.size,h.z,h.f.transW hf2 ?_⟩
 rintro q (e | e | e) hq
 ·exact h.z q (.inl e) hq
 ·exact h.z q (.inr (.inl e)) hq
 exact h.z q (.inr (.inr (.inl e))) hq
theorem DzAt.winStep {all':List UInt8} {wv':Value} (h:DzAt Z w0 w k g st rep s all wv) (hw':RWin w' g.bw g.wb g.kb g.S true wv' all') (hf:Frm (fun x=>x=g.wb∨wv.ownBlock=some x) w w') (hm:Mvd w wv wv'):DzAt Z w0 w' k g st rep s all' wv':=by
 obtain ⟨cd,hd⟩:=DCr.pts h.lz.c
 have hw:=h.win.p
 have hwo:=h.win.o
 have hrb:=heap_lt h.lz.c.2
 refine ⟨h.lz.frm (DCr.keep _ _ _) hf ?_,hw',⟨h.nr.1,?_⟩,Nat.le_trans h.bs hf.size,?_,h.f.transW hf ?_⟩
 ·rintro q ((e | e) | e | e) (e2 | e2)
  ·exact hd.ne_of hw (by decide) (e.symm.trans e2)
  ·subst e;exact own_ne hwo hd (by decide) e2
  ·exact h.nr.1 (e.symm.trans e2)
  ·subst e;exact h.nr.2 e2
  ·exact h.lz.m.ne_of hw (by decide) (e.symm.trans e2)
  ·subst e;exact own_ne hwo h.lz.m (by decide) e2
  ·exact h.lz.l.ne_of hw (by decide) (e.symm.trans e2)
  subst e;exact own_ne hwo h.lz.l (by decide) e2
 ·intro e
  rcases hm with e2 | ⟨u,e2,e3⟩
  ·exact h.nr.2 (e2▸e)
  rw [e2] at e
  have:=Option.some.inj e
  omega
 ·intro q hq hlt
  rcases hq with e | e | e | e | e
  ·exact h.z q (.inl e) hlt
  ·exact h.z q (.inr (.inl e)) hlt
  ·exact h.z q (.inr (.inr (.inl e))) hlt
  ·exact h.z q (.inr (.inr (.inr (.inl e)))) hlt
  rcases hm with e2 | ⟨u,e2,e3⟩
  ·exact h.z q (.inr (.inr (.inr (.inr (e2▸e))))) hlt
  rw [e2] at e
  have:=Option.some.inj e
  have:=h.f.size
  omega
 rintro q (e | e) hlt
 ·exact h.z q (.inr (.inr (.inr (.inl e)))) hlt
 exact h.z q (.inr (.inr (.inr (.inr e)))) hlt
theorem DzAt.frmOut {N:Nat→Prop} (h:DzAt Z w0 w k g st rep s all wv) (hf:Frm N w w') (hN:∀ q,N q→w.heap.size≤q):DzAt Z w0 w' k g st rep s all wv:=by
 have hf':Frm (fun _=>False) w w':=⟨hf.os,hf.tape,hf.output,hf.size,fun q hq _=>hf.block q hq (fun hn=>by have:=hN q hn;omega)⟩
 exact ⟨h.lz.later (DCr.keep _ _ _) hf',⟨h.win.p.frm hf' id,h.win.o.frm hf' (fun _ _ h=>h)⟩,h.nr,Nat.le_trans h.bs hf.size,h.z,h.f.transW hf' (fun _ h=>h.elim)⟩
theorem DzAt.drewN (h:DzAt Z w0 w k g st rep s all wv) (n:Nat):DzAt Z w0 (w.drewN n) k g st rep s all wv:=h.frmOut ((Frm.refl (fun _=>False) w).drewN n) (fun _ h=>h.elim)
theorem DzAt.drew (h:DzAt Z w0 w k g st rep s all wv):DzAt Z w0 w.drew k g st rep s all wv:=h.drewN 1
theorem DzAt.alloc (h:DzAt Z w0 w k g st rep s all wv) (X:Obj):DzAt Z w0 (w.alloc X) k g st rep s all wv:=h.frmOut ((Frm.refl (fun _=>False) w).alloc X) (fun _ h=>h.elim)
theorem DzAt.below (h:DzAt Z w0 w k g st rep s all wv) (hb:Below w.heap.size w w'):DzAt Z w0 w' k g st rep s all wv:=h.frmOut (Frm.of_below (S:=fun _=>False) hb) (fun _ h=>h.elim)
theorem DzAt.hd (h:DzAt Z w0 w k g st rep s all wv) {i:Nat} (hi:i<8):w.cell? ⟨k.sb,i,none⟩=some (mcell k st rep s.pr i)∧w.frozen? ⟨k.sb,i,none⟩=false:=h.lz.hdr hi
theorem DzAt.st3 (h:DzAt Z w0 w k g st rep s all wv):w.cell? ⟨k.sb,3,none⟩=some (.int .i64 st)∧w.frozen? ⟨k.sb,3,none⟩=false:=h.hd (by omega)
theorem DzAt.rp (h:DzAt Z w0 w k g st rep s all wv) (i:Nat) (hi:i<4):w.cell? ⟨k.sb,4+i,none⟩=some (.int .u32 (rep i:Int))∧w.frozen? ⟨k.sb,4+i,none⟩=false:=by
 refine ⟨?_,(h.hd (i:=4+i) (by omega)).2⟩
 rw [(h.hd (i:=4+i) (by omega)).1]
 unfold mcell
 rw [if_neg (by omega),if_neg (by omega),if_neg (by omega),if_neg (by omega),if_pos (by omega),show 4+i-4=i by omega]
theorem DzAt.putSt (st':Nat) (h:DzAt Z w0 w k g st rep s all wv):DzAt Z w0 (w.setCell ⟨k.sb,3,none⟩ (.int .i64 (st':Int))) k g st' rep s all wv:=by
 obtain ⟨a,b⟩:=h.lz.putSt st' (DCr.keep _ _ _)
 exact h.lzStep a b
theorem DzAt.putRep (i v:Nat) (hi:i<4) (h:DzAt Z w0 w k g st rep s all wv):DzAt Z w0 (w.setCell ⟨k.sb,4+i,none⟩ (.int .u32 (v:Int))) k g st (fun j=>if j=i then v else rep j) s all wv:=by
 obtain ⟨a,b⟩:=h.lz.putRep i v hi (DCr.keep _ _ _)
 exact h.lzStep a b
end
def DStep (Z:Nat→Prop) (w0:World) (k:LK) (g:DB) (all:List UInt8) (R:Option (List UInt8×RS)) (e:Ending) (w':World):Prop :=
 (R=none∧(∃ A n c,e=.returned (.tuple #[.slice A n c,.bool false]))∧Frm Z w0 w') ∨
 (∃ b y A c wv',R=some (b,y)∧e=.returned (.tuple #[.slice A b.length c,.bool true])∧BRow w' w'.heap.size A b∧DzAt Z w0 w' k g y.st y.rep y.s (all++b) wv'∧y.C=lastN g.S (all++b))
open Go.RowKit Win
set_option maxRecDepth 100000 in
set_option maxHeartbeats 1000000 in
theorem rcopy_big (base b k S back n:Nat) (v:Value) (all:List UInt8) (w:World) (hw:RWin w base b k S true v all) (hbase:base≤w.heap.size) (hl:all.length+n≤100000000) (hn2:n≤1000000) (h1:1≤back) (h2:back≤S) (h3:back≤all.length) :
 Calls Tryz.prog 166 #[.pointer (some ⟨b,0,none⟩),.int .i64 back,.int .i64 n] w fun e w'=>∃ (A:Option Addr) (c:Nat) (v':Value),e=.returned (.tuple #[.slice A n c,.int .i64 0])∧BRow w' w'.heap.size A (cyc all back n) ∧
  RWin w' base b k S true v' (all++cyc all back n)∧Frm (fun x=>x=b∨v.ownBlock=some x) w w'∧Mvd w v v':=by
 have c2:w.cell? ⟨b,2,none⟩=some (.bool false):=by rw [hw.p.cell];rfl
 have HA:=hid (rat_yes base b k S back v all w hw h1 h2 h3 (by omega))
 obtain ⟨cy,hcy⟩:∃ cy,cyc all back n=cy:=⟨_,rfl⟩
 rw [hcy]
 have hcl:cy.length=n:=by rw [← hcy,cyc_length]
 have HST:Hid (∀ i,i<n→(all++cy.take i).getD (all.length+i-back) 0=cy.getD i 0):=hid (fun i hi=>by rw [← hcy];exact copy_step h1 h3 hi)
 have HW:=hid hw
 have HBS:=hid hbase
 have hcell0:w.cell? ⟨b,0,none⟩=some v:=by rw [hw.p.cell];rfl
 obtain ⟨A0,k0,rfl,hc0,hm0,hr0⟩:=hw.o.slice
 have hbk:=hw.p.lt
 clear hw hcy hr0 hc0 hm0 hbase
 go_enter Tryz.func166,Tryz.ntmps166
 have hqn:decide (16777216<n)=false:=decide_eq_false (by omega)
 go_wp2_with fail
 refine HA.out.mono ?_;rintro e w2 ⟨rfl,dd,rfl⟩
 have e0:(w.drewN dd).cell? ⟨b,0,none⟩=some (.slice A0 all.length k0):=hcell0
 have W2:Hid (RWin (w.drewN dd) base b k S true (.slice A0 all.length k0) all):=hid ⟨HW.out.p.drewN dd,HW.out.o.drewN dd⟩
 have F2:Hid (Frm (fun x=>x=b∨(Value.slice A0 all.length k0).ownBlock=some x) w (w.drewN dd)):=hid ((Frm.refl _ w).drewN dd)
 generalize w.drewN dd=wd at *
 clear HA c2
 go_wp2
 go_loopw [11] (fun iv wr=>∃ (i:Nat) (cv:Value),iv=.int .i64 i∧i≤n∧RWin wr base b k S true cv (all++cy.take i)∧Frm (fun x=>x=b∨(Value.slice A0 all.length k0).ownBlock=some x) w wr∧Mvd w (.slice A0 all.length k0) cv) (fun iv _=>n-(intOf iv).toNat)
 case atStart=>exact ⟨0,_,rfl,by omega,by rw [List.take_zero,List.append_nil];exact W2.out,F2.out,.inl rfl⟩
 case round =>
 obtain ⟨i,cv,rfl,hi,hrw,hfr,hmv⟩:=hrel
 clear W2 F2 e0 hcell0
 have e0:wr.cell? ⟨b,0,none⟩=some cv:=by rw [hrw.p.cell];rfl
 have f0:=hrw.p.frozen 0
 have hnb:=hrw.nb
 obtain ⟨cur,hcu⟩:∃ cur,all++cy.take i=cur:=⟨_,rfl⟩
 rw [hcu] at hrw
 have hcul:cur.length=all.length+i:=by rw [← hcu,List.length_append,List.length_take];omega
 have hwr:base≤wr.heap.size:=Nat.le_trans HBS.out hfr.size
 obtain ⟨A1,k1,rfl,hc1,hm1,hr1⟩:=hrw.o.slice
 have RW:=hid hrw
 have FR:=hid hfr
 have MV:=hid hmv
 have NB:=hid hnb
 have CU:=hid hcu
 have CUL:=hid hcul
 rw [hcul] at RW MV NB e0 hc1
 clear hrw hfr hmv hnb hcu
 by_cases hlt:i<n
 ·obtain ⟨g,off,rfl,hg,hc⟩:=hr1 (by omega)
  have e1:=hc (cur.length-back) (by omega)
  have hx:=HST.out i hlt
  rw [CU.out] at hx
  rw [hcul] at e1
  rw [hx] at e1
  obtain ⟨x,hxx⟩:∃ x,cy.getD i 0=x:=⟨_,rfl⟩
  rw [hxx] at e1
  unfold byteV at e1
  obtain ⟨q,hq⟩:∃ q,all.length+i-back=q:=⟨_,rfl⟩
  rw [hq] at e1
  obtain ⟨L,hL⟩:∃ L,all.length+i=L:=⟨_,rfl⟩
  rw [hL] at RW MV NB e0 hc1 hq CUL
  have hsub:(L:Int)-(back:Int)=(q:Int):=by omega
  have hwq:IntKind.i64.wrap (q:Int)=(q:Int):=Go.IntWalk.i64_in _ (by omega)
  have hlq:q<L:=by omega
  have HXX:=hid hxx
  have HL:=hid hL
  clear hx hxx hr1 hc hcul hL hq
  have PA:=RW.out.p.alloc (.cells #[.int .u8 (x.toNat:Int)] 5)
  have e0':(wr.alloc (.cells #[.int .u8 (x.toNat:Int)] 5)).cell? ⟨b,0,none⟩=some (.slice (some ⟨g,off,none⟩) L k1):=by rw [PA.cell];rfl
  have f0':=PA.frozen 0
  clear PA
  have hll:cur.length+[x].length≤140737488355328:=by have:=CUL.out;have:=HL.out;simp;omega
  have hb2:base≤(wr.alloc (.cells #[.int .u8 (x.toNat:Int)] 5)).heap.size:=by show base≤(wr.heap.push _).size;rw [Array.size_push];omega
  have O1:Hid (OwnB (wr.drew.alloc (.cells #[.int .u8 (x.toNat:Int)] 5)) 5 base (.slice (some ⟨g,off,none⟩) L k1) cur):=hid ((RW.out.o.drewN 1).alloc _)
  go_wp2
  go_region_law (refine step_append_bytes _ rfl (.tmp 44) (.tmp 58) 22 rfl 5 base Tryz.underlying22 Tryz.info_u8 (.slice (some ⟨g,off,none⟩) L k1) cur rfl O1.out (some ⟨wr.heap.size,0,none⟩) 1 1 (wr.heap.size+1) [x] rfl rfl (BRow.oneW (wr.drewN 1) _ x) hll hb2 ?_;intro v2 w2 hown2 hfrm2 hnew2;obtain ⟨A2,k2,rfl,hc2,hm2,hr2⟩:=hown2.slice;have hp2:=((RW.out.p.drewN 1).alloc _).frm hfrm2 (fun e=>NB.out e);have z4:w2.cell? ⟨b,0,none⟩=some (.slice (some ⟨g,off,none⟩) L k1):=(hp2.cell 0).trans rfl;have y4:=hp2.frozen 0)
  all_goals
   rw [show (cur++[x]).length=cur.length+1 by simp] at hown2 hnew2
   obtain ⟨L2,hL2⟩:∃ L2,cur.length+1=L2:=⟨_,rfl⟩
   rw [hL2] at hown2 hnew2 ⊢
   have hnb2:(Value.slice A2 L2 k2).ownBlock≠some b:=own_ne hown2 hp2 (by decide)
   have hmv2:Mvd w (.slice A0 all.length k0) (.slice A2 L2 k2):=by
    rcases hnew2 with h | h
    ·rcases MV.out with h' | ⟨g',h',hg'⟩
     ·exact .inl (h.trans h')
     exact .inr ⟨g',h.trans h',hg'⟩
    exact .inr ⟨_,h,by have h9:=FR.out.size;show _≤(wr.heap.push _).size;rw [Array.size_push];omega⟩
   have hf2:Frm (fun q=>q=b∨(Value.slice A0 all.length k0).ownBlock=some q) w w2:=by
    refine ((FR.out.drewN 1).alloc (.cells #[.int .u8 (x.toNat:Int)] 5)).trans' hbk hfrm2 (fun q hq hqw=>?_)
    rcases MV.out with h' | ⟨g',h',hg'⟩
    ·exact .inr (h'.symm.trans hq)
    rw [h'] at hq;injection hq with hq;omega
   have hp3:=hp2.set 0 (.slice A2 L2 k2)
   have ho3:=hown2.other (p:=⟨b,0,none⟩) hnb2 (.slice A2 L2 k2)
   have hf3:=hf2.setCell (p:=⟨b,0,none⟩) (.inl rfl) (.slice A2 L2 k2)
   have hcu3:cur++[x]=all++cy.take (i+1):=by rw [← CU.out,List.append_assoc,← HXX.out,take_snoc (by omega)]
   rw [hcu3] at ho3
   have P3:=hid hp3
   have O3:=hid ho3
   have F3:=hid hf3
   have M3:=hid hmv2
   clear hp2 hp3 ho3 hf2 hf3 hmv2 hnb2 hown2 hfrm2 hnew2 hL2 hcu3 hr2 hc2 hm2
   go_wp2
   exact ⟨⟨i+1,_,by go_num,by omega,⟨P3.out,O3.out⟩,F3.out,M3.out⟩,by simp [intOf];omega⟩
 obtain rfl:i=n:=by omega
 have hfin:cur=all++cy:=by rw [← CU.out,← hcl,List.take_length]
 have hsl:=fun w=>slice_from A1 (all.length+i) k1 all.length (by omega) hc1 w
 have hrow:BRow wr wr.heap.size (if k1=all.length then A1 else A1.map (·.add all.length)) cy:=by
  have h:=hr1.drop (k:=all.length) (cap:=k1) (by omega)
  rw [hfin,List.drop_left] at h
  exact h
 rw [show all.length+i-all.length=i by omega] at hsl
 rw [hfin] at RW
 have HRO:=hid hrow
 generalize (if k1=all.length then A1 else A1.map (·.add all.length))=A9 at *
 obtain ⟨L,hL⟩:∃ L,all.length+i=L:=⟨_,rfl⟩
 rw [hL] at RW MV NB e0 hc1 hsl
 clear hr1 hrow hL hcul
 go_wp2
 go_ret2
 exact ⟨A9,_,_,rfl,HRO.out,RW.out,FR.out,MV.out⟩
end Go.Proofs.YtffehfpbdcokbaaGreat
