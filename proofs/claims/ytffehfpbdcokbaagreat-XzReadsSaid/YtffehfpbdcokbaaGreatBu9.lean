import Derived.StillTailTactics
import Derived.Test.YtffehfpbdcokbaaGreatOpen
import Derived.SizedLaws
import Derived.Maps.AppendAt
import Derived.Test.YtffehfpbdcokbaaGreatBu3
import Derived.Test.YtffehfpbdcokbaaGreatBu6
import Derived.Test.YtffehfpbdcokbaaGreatBu7
import Derived.Test.YtffehfpbdcokbaaGreatBu8
set_option linter.unusedVariables false
set_option linter.unusedSimpArgs false
namespace Go.Proofs.YtffehfpbdcokbaaGreat
open Lib (hid)
open Go.RowKit Rng Lz
theorem dbehind_p (st kind:Nat) (w:World) (hst:st<12) (hk:kind<4):Calls Tryz.prog 162 #[.int .i64 st,.int .i64 kind] w fun e w'=>e=.returned (.int .i64 (behS st kind:Nat))∧Below w.heap.size w w':=by
 obtain ⟨R,hR⟩:∃ R,behS st kind=R:=⟨_,rfl⟩
 rw [hR]
 unfold behS at hR
 rcases (by omega:kind=0∨kind=1∨kind=2∨kind=3) with rfl | rfl | rfl | rfl
 ·rw [if_pos rfl] at hR
  rcases (by omega:st<4∨(4≤st∧st≤9)∨9<st) with h | h | h
  ·rw [if_pos h] at hR
   subst hR
   have q1:(st:Int)<4:=by omega
   clear h hst hk
   go_enter Tryz.func162,Tryz.ntmps162
   go_wp2
   go_ret
   exact ⟨rfl,Below.refl _ _⟩
  ·rw [if_neg (by omega),if_neg (by omega)] at hR
   have q1:¬ (st:Int)<4:=by omega
   have q2:(st:Int)<10:=by omega
   have q3:(st:Int)-3=(R:Int):=by omega
   have q4:wrap64 (R:Int)=(R:Int):=by unfold wrap64;omega
   clear h hst hk hR
   go_enter Tryz.func162,Tryz.ntmps162
   go_wp2
   go_ret
   exact ⟨rfl,Below.refl _ _⟩
  rw [if_neg (by omega),if_pos h] at hR
  have q1:¬ (st:Int)<4:=by omega
  have q2:¬ (st:Int)<10:=by omega
  have q3:(st:Int)-6=(R:Int):=by omega
  have q4:wrap64 (R:Int)=(R:Int):=by unfold wrap64;omega
  clear h hst hk hR
  go_enter Tryz.func162,Tryz.ntmps162
  go_wp2
  go_ret
  exact ⟨rfl,Below.refl _ _⟩
 all_goals
  simp only [if_neg,if_pos,(by decide:¬ (1:Nat)=0),(by decide:¬ (2:Nat)=0),(by decide:¬ (2:Nat)=1),(by decide:¬ (3:Nat)=0),(by decide:¬ (3:Nat)=1),(by decide:¬ (3:Nat)=2),if_true,if_false] at hR
  by_cases h7:7≤st
  ·rw [if_pos h7] at hR
   subst hR
   have q1:¬ (st:Int)<7:=by omega
   clear h7 hst hk
   go_enter Tryz.func162,Tryz.ntmps162
   go_wp2
   go_ret
   exact ⟨rfl,(Below.refl _ _).alloc (Nat.le_refl _) _⟩
  rw [if_neg h7] at hR
  subst hR
  have q1:(st:Int)<7:=by omega
  clear h7 hst hk
  go_enter Tryz.func162,Tryz.ntmps162
  go_wp2
  go_ret
  exact ⟨rfl,(Below.refl _ _).alloc (Nat.le_refl _) _⟩
theorem takeS_eq {rep rep':Nat→Nat} {n:Nat} (h:∀ j,rep' j=if 0<j∧j≤n then rep (j-1) else rep j):(fun j=>if j=0 then rep n else rep' j)=takeS rep n:=by
 funext j
 unfold takeS shiftN
 by_cases h0:j=0
 ·rw [if_pos h0,if_pos h0]
 rw [if_neg h0,if_neg h0,h]
 rfl
set_option maxRecDepth 100000 in
set_option maxHeartbeats 4000000 in
theorem dagain_p (db rb:Nat) (Rw:Obj) (T:TypeId) (k:LK) (st p:Nat) (rep:Nat→Nat) (s:CP Dec) (w:World) (h:LzAt (DCr db rb Rw) (DO db rb) T w k st rep s) (hst:st<12) (hp:p<16) :
 Calls Tryz.prog 165 #[.pointer (some ⟨k.sb,0,none⟩),.pointer (some ⟨db,0,none⟩),.int .i64 p] w fun e w'=>e=.returned (.int .i64 ((repOf outC st p rep s).1:Nat)) ∧
  LzAt (DCr db rb Rw) (DO db rb) T w' k st (repOf outC st p rep s).2.2.1 (repOf outC st p rep s).2.2.2∧Frm (Wr (DO db rb) k) w w':=by
 obtain ⟨R,hR⟩:∃ R,repOf outC st p rep s=R:=⟨_,rfl⟩
 rw [hR]
 unfold repOf at hR
 obtain ⟨⟨a,sa⟩,ha⟩:∃ x,bitAt outC (212+st) 0 s=x:=⟨_,rfl⟩
 have hal:a≤1:=by have:=bitAt_le outC (212+st) 0 s;rw [ha] at this;exact this
 rw [ha] at hR
 dsimp only at hR
 have HR:=hid hR
 have HA:=hid ha
 have HH:=hid h
 have HD:=hid (h.later (DCr.keep db rb Rw) ((Frm.refl _ w).drew))
 have d3:=(h.hdr (i:=3) (by omega)).1
 change w.cell? ⟨k.sb,3,none⟩=some (.int .i64 st) at d3
 have P0:=hid (plm k (i:=212+st) (by omega) (by omega))
 have hsti:(st:Int)<12:=by omega
 have hpi:(p:Int)<16:=by omega
 clear h hR ha
 go_enter Tryz.func165,Tryz.ntmps165
 go_upto_region 1 with fail
 go_still_tail 9,(by kernel_rfl)
 change wpList _ _ _ _ _ w.drew
 go_wp2_with fail
 refine (dz_bit HD.out (212+st) k.sb (212+st) P0.out.1 P0.out.2).mono ?_;rintro e w2 ⟨rfl,h2,f2⟩
 rw [HA.out] at h2 ⊢
 dsimp only at h2 ⊢
 have H2:=hid h2
 have F2:Hid (Frm (Wr (DO db rb) k) w w2):=hid (((Frm.refl _ w).drew).trans f2)
 clear d3 HD
 have d3:=(h2.hdr (i:=3) (by omega)).1
 change w2.cell? ⟨k.sb,3,none⟩=some (.int .i64 st) at d3
 have HD:=hid (h2.later (DCr.keep db rb Rw) ((Frm.refl _ w2).drew))
 have FD:Hid (Frm (Wr (DO db rb) k) w w2.drew):=hid (F2.out.drew)
 clear h2 f2
 by_cases ha0:a=0
 ·have hR:=HR.out
  rw [if_pos ha0] at hR
  have qa:((a:Int)==0)=true:=beq_iff_eq.2 (by omega)
  obtain ⟨⟨b,sb⟩,hb⟩:∃ x,bitAt outC (248+st*16+p) 0 sa=x:=⟨_,rfl⟩
  have hbl:b≤1:=by have:=bitAt_le outC (248+st*16+p) 0 sa;rw [hb] at this;exact this
  rw [hb] at hR
  dsimp only at hR
  have HB:=hid hb
  have HR2:=hid hR
  have P1:=hid (plm k (i:=248+st*16+p) (by omega) (by omega))
  clear hR hb ha0 HR hal
  go_upto_region 2 with fail
  go_still_tail 11,(by kernel_rfl)
  change wpList _ _ _ _ _ w2.drew
  go_wp2_with fail
  refine (dz_bit HD.out (248+st*16+p) k.sb (248+st*16+p) P1.out.1 P1.out.2).mono ?_;rintro e w3 ⟨rfl,h3,f3⟩
  rw [HB.out] at h3 ⊢
  dsimp only at h3 ⊢
  have H3:=hid h3
  have F3:Hid (Frm (Wr (DO db rb) k) w w3):=hid (FD.out.trans f3)
  clear h3 f3 HD FD d3
  by_cases hb0:b=0
  ·have hR:=HR2.out
   rw [if_pos hb0] at hR
   have HR3:=hid hR
   have qb:((b:Int)==0)=true:=beq_iff_eq.2 (by omega)
   clear hb0 HR2 hR hbl
   go_wp2
   go_ret
   rw [← HR3.out]
   exact ⟨rfl,H3.out,F3.out⟩
  have hR:=HR2.out
  rw [if_neg hb0] at hR
  have HR3:=hid hR
  have qb:((b:Int)==0)=false:=beq_eq_false_iff_ne.2 (by omega)
  clear hb0 HR2 hR hbl
  go_wp2_with fail
  refine (dlen_p db rb Rw T k st rep sb 1354 p _ H3.out (.inr rfl) (by omega)).mono ?_;rintro e w4 ⟨rfl,h4,f4⟩
  have H4:=hid h4
  have F4:=hid (F3.out.trans f4)
  clear h4 f4
  go_wp2
  go_ret
  rw [← HR3.out]
  exact ⟨rfl,H4.out,F4.out⟩
 have hR:=HR.out
 rw [if_neg ha0] at hR
 have qa:((a:Int)==0)=false:=beq_eq_false_iff_ne.2 (by omega)
 obtain ⟨⟨c,sc⟩,hc⟩:∃ x,bitAt outC (224+st) 0 sa=x:=⟨_,rfl⟩
 have hcl:c≤1:=by have:=bitAt_le outC (224+st) 0 sa;rw [hc] at this;exact this
 rw [hc] at hR
 dsimp only at hR
 have HC:=hid hc
 have HR2:=hid hR
 have P1:=hid (plm k (i:=224+st) (by omega) (by omega))
 clear hR hc ha0 HR hal
 go_upto_region 5 with fail
 go_still_tail 9,(by kernel_rfl)
 change wpList _ _ _ _ _ w2.drew
 go_wp2_with fail
 refine (dz_bit HD.out (224+st) k.sb (224+st) P1.out.1 P1.out.2).mono ?_;rintro e w3 ⟨rfl,h3,f3⟩
 rw [HC.out] at h3 ⊢
 dsimp only at h3 ⊢
 have H3:=hid h3
 have F3:Hid (Frm (Wr (DO db rb) k) w w3):=hid (FD.out.trans f3)
 clear d3 HD FD
 have d3:=(h3.hdr (i:=3) (by omega)).1
 change w3.cell? ⟨k.sb,3,none⟩=some (.int .i64 st) at d3
 have HD:=hid (h3.later (DCr.keep db rb Rw) ((Frm.refl _ w3).drew))
 have FD:Hid (Frm (Wr (DO db rb) k) w w3.drew):=hid (F3.out.drew)
 clear h3 f3
 go_upto_if 44 with fail
 go_cut [7] from 10 (fun v wx=>∃ (n:Nat) (s':CP Dec),1≤n∧n≤3∧v=.int .i64 (n:Int)∧((lenAt outC 1354 2 p s').1,behS st 2,takeS rep n,(lenAt outC 1354 2 p s').2)=R∧LzAt (DCr db rb Rw) (DO db rb) T wx k st rep s'∧Frm (Wr (DO db rb) k) w wx)
 case first =>
  by_cases hc1:c=1
  ·have hR:=HR2.out
   rw [if_pos hc1] at hR
   have qc:((c:Int)==1)=true:=beq_iff_eq.2 (by omega)
   obtain ⟨⟨d,sd⟩,hd⟩:∃ x,bitAt outC (236+st) 0 sc=x:=⟨_,rfl⟩
   have hdl:d≤1:=by have:=bitAt_le outC (236+st) 0 sc;rw [hd] at this;exact this
   rw [hd] at hR
   dsimp only at hR
   have HDD:=hid hd
   have HR3:=hid hR
   have P2:=hid (plm k (i:=236+st) (by omega) (by omega))
   clear hR hd hc1 HR2 hcl
   go_upto_region 6 with fail
   go_still_tail 9,(by kernel_rfl)
   change wpList _ _ _ _ _ w3.drew
   go_wp2_with fail
   refine (dz_bit HD.out (236+st) k.sb (236+st) P2.out.1 P2.out.2).mono ?_;rintro e w4 ⟨rfl,h4,f4⟩
   rw [HDD.out] at h4 ⊢
   dsimp only at h4 ⊢
   have H4:=hid h4
   have F4:Hid (Frm (Wr (DO db rb) k) w w4):=hid (FD.out.trans f4)
   clear h4 f4
   go_wp2
   go_meet
   case rel=>exact ⟨2+d,sd,by omega,by omega,by go_num,HR3.out,H4.out,F4.out⟩
  have hR:=HR2.out
  rw [if_neg hc1] at hR
  have HR3:=hid hR
  have qc:((c:Int)==1)=false:=beq_eq_false_iff_ne.2 (by omega)
  clear hc1 HR2 hR hcl
  go_wp2
  go_meet
  case rel=>exact ⟨1,sc,by omega,by omega,rfl,HR3.out,H3.out,F3.out⟩
 case rest =>
 obtain ⟨n,s',hn1,hn3,rfl,hRn,h4,f4⟩:=hcut
 have HRN:=hid hRn
 have H4:=hid h4
 have F4:=hid f4
 have e1:wc.cell? ⟨k.sb,4+n,none⟩=some (.int .u32 (rep n:Int)):=by
  rw [(h4.hdr (i:=4+n) (by omega)).1]
  unfold mcell
  rw [if_neg (by omega),if_neg (by omega),if_neg (by omega),if_neg (by omega),if_pos (by omega),show 4+n-4=n by omega]
 have hni:(n:Int)<4:=by omega
 clear hRn h4 f4 d3 HD FD H2 F2 H3 F3
 go_wp2
 go_loopw [9] (fun iv wr=>∃ (i:Nat) (rep':Nat→Nat),iv=.int .i64 (i:Int)∧i≤n∧Hid ((∀ j,rep' j=if i<j∧j≤n then rep (j-1) else rep j)∧LzAt (DCr db rb Rw) (DO db rb) T wr k st rep' s'∧Frm (Wr (DO db rb) k) w wr)) (fun iv _=>(intOf iv).toNat)
 case atStart=>exact ⟨n,rep,rfl,Nat.le_refl _,hid ⟨fun j=>by rw [if_neg (by omega)],H4.out,F4.out⟩⟩
 case round =>
 obtain ⟨i,rep',rfl,hin,HI⟩:=hrel
 by_cases h0:0<i
 ·obtain ⟨m,hm⟩:∃ m,i=m+1:=⟨i-1,by omega⟩
  have e2:wr.cell? ⟨k.sb,4+m,none⟩=some (.int .u32 (rep' m:Int)):=by
   rw [(HI.out.2.1.hdr (i:=4+m) (by omega)).1]
   unfold mcell
   rw [if_neg (by omega),if_neg (by omega),if_neg (by omega),if_neg (by omega),if_pos (by omega),show 4+m-4=m by omega]
  have e3:wr.cell? ⟨k.sb,4+i,none⟩=some (.int .u32 (rep' i:Int)):=by
   rw [(HI.out.2.1.hdr (i:=4+i) (by omega)).1]
   unfold mcell
   rw [if_neg (by omega),if_neg (by omega),if_neg (by omega),if_neg (by omega),if_pos (by omega),show 4+i-4=i by omega]
  have hmi:(i:Int)-1=(m:Int):=by omega
  have hm4:(m:Int)<4:=by omega
  have hm5:(i:Int)<4:=by omega
  have hi0:(0:Int)<(i:Int):=by omega
  have hmw:IntKind.i64.wrap (m:Int)=(m:Int):=Go.IntWalk.i64_in _ (by omega)
  have fz:=(HI.out.2.1.hdr (i:=4+i) (by omega)).2
  have hp1:=HI.out.2.1.later (DCr.keep db rb Rw) ((Frm.refl _ wr).drew)
  obtain ⟨hl,hf⟩:=hp1.putRep i (rep' m) (by omega) (DCr.keep db rb Rw)
  have HL:=hid (And.intro hl ((HI.out.2.2.drew).trans hf))
  have HM:=hid (And.intro hm hin)
  clear hp1 hl hf h0 hm hin
  go_upto_region 11 with fail
  go_still_tail 12,(by kernel_rfl)
  change wpList _ _ _ _ _ wr.drew
  go_wp2
  refine ⟨⟨m,_,by go_num,by have:=HM.out;omega,hid ⟨fun j=>?_,HL.out.1,HL.out.2⟩⟩,by have:=HM.out;simp [intOf];omega⟩
  have hj:=HI.out.1
  have hm:=HM.out
  by_cases hj1:j=i
  ·subst hj1
   rw [if_pos rfl,hj,if_neg (by omega),if_pos (by omega)]
   rw [show j-1=m by omega]
  rw [if_neg hj1,hj]
  by_cases hj2:i<j∧j≤n
  ·rw [if_pos hj2,if_pos (by omega)]
  rw [if_neg hj2,if_neg (by omega)]
 obtain rfl:i=0:=by omega
 have fz:=(HI.out.2.1.hdr (i:=4+0) (by omega)).2
 have fz2:wr.frozen? ⟨k.sb,4,none⟩=false:=fz
 have e4:wr.cell? ⟨k.sb,4,none⟩=some (.int .u32 (rep' 0:Int)):=(HI.out.2.1.hdr (i:=4+0) (by omega)).1
 obtain ⟨hl,hf⟩:=HI.out.2.1.putRep 0 (rep n) (by omega) (DCr.keep db rb Rw)
 rw [takeS_eq HI.out.1] at hl
 have hl2:LzAt (DCr db rb Rw) (DO db rb) T (wr.setCell ⟨k.sb,4,none⟩ (.int .u32 (rep n:Int))) k st (takeS rep n) s':=hl
 have HL:Hid (LzAt (DCr db rb Rw) (DO db rb) T (wr.setCell ⟨k.sb,4,none⟩ (.int .u32 (rep n:Int))) k st (takeS rep n) s'∧Frm (Wr (DO db rb) k) w (wr.setCell ⟨k.sb,4,none⟩ (.int .u32 (rep n:Int)))):=hid ⟨hl,HI.out.2.2.trans hf⟩
 clear hl hf hl2 h0 fz
 go_wp2_with fail
 refine (dlen_p db rb Rw T k st (takeS rep n) s' 1354 p _ HL.out.1 (.inr rfl) (by omega)).mono ?_;rintro e w5 ⟨rfl,h5,f5⟩
 have H5:=hid h5
 have F5:=hid (HL.out.2.trans f5)
 clear h5 f5
 go_wp2
 go_ret
 rw [← HRN.out]
 exact ⟨rfl,H5.out,F5.out⟩
open Go.RowKit
namespace Opn
open Go.ChangeShapes Go.WideShapes Go.Deep
section
variable {H : Type} {enc : TypeId × Value → H} {P : Program} {w : World}
end
end Opn
open Go.RowKit Win
open Go.RowKit Win
theorem clear_win (base b k S a:Nat) (v:Value) (R:List UInt8) (w:World) (hw:WinAt w base b k S v R a) :
 Calls Tryz.prog 117 #[.pointer (some ⟨b,0,none⟩)] w fun e w'=>∃ v':Value,e=.returned (.tuple #[])∧WinAt w' base b k S v' [] 0∧Frm (fun x=>x=b) w w'∧v'.ownBlock=v.ownBlock:=by
 obtain ⟨A0,k0,rfl,hc0,hm0,hr0⟩:=hw.o.slice
 have c0:w.cell? ⟨b,0,none⟩=some (.slice A0 R.length k0):=by rw [hw.p.cell];rfl
 have c1:w.cell? ⟨b,1,none⟩=some (.int .i64 a):=by rw [hw.p.cell];rfl
 have f0:=hw.p.frozen 0
 have f1:=hw.p.frozen 1
 have HW:=hid hw
 have hsz:=fun w=>slice_zero A0 R.length k0 w
 clear hw hr0 hm0
 go_enter Tryz.func117,Tryz.ntmps117
 go_wp2
 go_end0
 have hcut:=HW.out.o.cut (k:=0) (Nat.zero_le _)
 rw [List.take_zero] at hcut
 have hoff:(Value.slice A0 0 k0).ownBlock≠some b:=fun e=>HW.out.off b (by rw [← e];cases A0 <;> rfl) rfl
 exact ⟨.slice A0 0 k0,rfl,⟨(HW.out.p.set 0 _).set 1 _,(hcut.other (p:=⟨b,0,none⟩) hoff _).other (p:=⟨b,1,none⟩) hoff _,Nat.zero_le _,by have:=HW.out.lt;omega,fun _=>rfl⟩,((Frm.refl _ w).setCell (by rfl) _).setCell (by rfl) _,by cases A0 <;> rfl⟩
open Go.RowKit Win
section
variable {w w' : World} {T base : Nat} {v : Value} {ps : List Nat}
end
open Go.RowKit Win
open Go.RowKit Win
end Go.Proofs.YtffehfpbdcokbaaGreat
