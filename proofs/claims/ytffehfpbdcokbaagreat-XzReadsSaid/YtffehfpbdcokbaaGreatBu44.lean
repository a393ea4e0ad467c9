import Derived.Test.YtffehfpbdcokbaaGreatBu32
import Derived.Test.YtffehfpbdcokbaaGreatBu43
set_option linter.unusedVariables false
set_option linter.unusedSimpArgs false
namespace Go.Proofs.YtffehfpbdcokbaaGreat
open Lib (hid)
open Go.RowKit Rng Win Lz Box
theorem dropPadD_step {f:Nat} {s:List UInt8} (h:4≤s.length) (h0:s.getD 0 0=0) (h1:s.getD 1 0=0) (h2:s.getD 2 0=0) (h3:s.getD 3 0=0):dropPad (f+1) s=dropPad f (s.drop 4):=by
 conv=>lhs;unfold dropPad
 match s,h with
 | a::b::c::d::t,_ =>
  have e0:a=0:=h0
  have e1:b=0:=h1
  have e2:c=0:=h2
  have e3:d=0:=h3
  subst e0;subst e1;subst e2;subst e3
  rw [if_pos ⟨by simp,by simp⟩]
theorem dropPadD_no {f:Nat} {s:List UInt8} (h:¬ (4≤s.length∧s.getD 0 0=0∧s.getD 1 0=0∧s.getD 2 0=0∧s.getD 3 0=0)):dropPad f s=s:=by
 cases f with
 | zero=>rfl
 | succ f =>
  unfold dropPad
  rw [if_neg]
  rintro ⟨h1,h2⟩
  refine h ⟨h1,?_⟩
  match s,h1 with
  | a::b::c::d::t,_ =>
   have h2:[a,b,c,d]=[0,0,0,0]:=h2
   simp only [List.cons.injEq,and_true] at h2
   exact h2
theorem memd_err {bud z:Nat} {bs out:List UInt8} {w w':World} {mb:Nat} {A:Option Addr} {c at':Nat} {kind:Int} {recs:List (Nat×Nat)} {ov lv:Value} (hX:xMem bud bs=(out,.inl z)) (hz:z≠0) (h:XmAt w w' w.heap.size mb A bs c at' kind recs ov lv out):MemEnd bud bs w (.returned (.tuple #[ov,.int .i64 0,.int .i64 (z:Int)])) w':=by
 have hp:xP bud bs=(out,.inl z):=by unfold xP;rw [hX]
 unfold MemEnd
 rw [hp]
 exact ⟨ov,h.o,h.b,hz,rfl⟩
theorem memd_ok {bud:Nat} {bs out r:List UInt8} {w w':World} {mb:Nat} {A:Option Addr} {c at':Nat} {kind:Int} {recs:List (Nat×Nat)} {ov lv:Value} (hX:xMem bud bs=(out,.inr r)) (hd:dropPad r.length r=bs.drop at') (hl:at'≤bs.length) (h:XmAt w w' w.heap.size mb A bs c at' kind recs ov lv out):MemEnd bud bs w (.returned (.tuple #[ov,.int .i64 (at':Int),.int .i64 0])) w':=by
 have hp:xP bud bs=(out,.inr (bs.drop at')):=by unfold xP;rw [hX];simp only;rw [hd]
 unfold MemEnd
 rw [hp]
 have e:bs.length-(bs.drop at').length=at':=by rw [List.length_drop];omega
 refine ⟨ov,h.o,h.b,by rw [List.length_drop];omega,?_⟩
 show Ending.returned _=Ending.returned (.tuple #[ov,.int .i64 ((bs.length-(bs.drop at').length:Nat):Int),.int .i64 0])
 rw [e]
open Go.RowKit Rng Win Lz Box
set_option maxRecDepth 100000 in
set_option maxHeartbeats 8000000 in
theorem dmember_d (A:Option Addr) (bs:List UInt8) (n c:Nat) (budget:Int) (w:World) (hn:n=bs.length) (hr:BRow w w.heap.size A bs) (hc:n≤c) (hcm:c≤maxLen) (hub:n≤1000000) :
 Calls Tryz.prog 11 #[.slice A n c,.int .i64 budget] w (MemEnd (budOf budget) bs w):=by
 obtain ⟨bud,hbud⟩:∃ b,budOf budget=b:=⟨_,rfl⟩
 rw [hbud]
 obtain ⟨mn,hmn⟩:∃ m,min budget 16777216=m:=⟨_,rfl⟩
 have hmx:max 0 mn=(bud:Int):=by rw [← hbud,← hmn];unfold budOf;omega
 have g1:=fun w=>Fnd.min2_int (P:=Tryz.prog) #[3,3] 3 _ _ _ hmn w
 have g2:=fun w=>Fnd.max2_int (P:=Tryz.prog) #[3,3] 3 _ _ _ hmx w
 have hb2:bud≤16777216:=by rw [← hbud];unfold budOf;omega
 obtain ⟨W1,hW1⟩:∃ W,w.alloc (.cells #[.slice A n c,.int .i64 0,.int .i64 0,.slice none 0 0,.slice none 0 0] 48)=W:=⟨_,rfl⟩
 have hM1:XmAt w W1 w.heap.size w.heap.size A bs c 0 0 [] (.slice none 0 0) (.slice none 0 0) []:=by
  rw [← hW1]
  refine ⟨?_,OwnB.nil _ _ _,OwnPr.nil _ _ _,fun q hq=>(by cases hq),⟨(by intro h;cases h),(by intro h;cases h)⟩,Nat.le_refl _,below_alloc _ _,by simp,by simp⟩
  rw [← hn]
  exact Pts.new w _ _
 have HALL:=hid (all_d bud hM1 hr (by omega) hb2)
 obtain ⟨R,hR⟩:∃ R,xMem bud bs=R:=⟨_,rfl⟩
 rw [hR] at HALL
 have HR:=hid hR
 have HROW:=hid hr
 have HN:=hid (And.intro hn (And.intro hc (And.intro hcm hub)))
 clear hR hr hn hc hcm hub hM1 hbud hmn hmx hb2
 go_enter Tryz.func11,Tryz.ntmps11
 go_wp2_with fail
 try rw [hW1]
 clear hW1
 refine HALL.out.mono ?_;rintro e w2 ⟨at2,kind,recs,ov,lv,hM2,hend⟩
 obtain ⟨T,RR⟩:=R
 obtain ⟨Ao,co,hov,-,-,-⟩:=hM2.o.slice
 obtain ⟨Lo,hLo⟩:∃ L,T.length=L:=⟨_,rfl⟩
 replace hov:ov=.slice Ao Lo co:=by rw [← hLo];exact hov
 subst hov
 replace hM2:XmAt w w2 w.heap.size w.heap.size A bs c at2 kind recs (.slice Ao Lo co) lv T:=hM2
 obtain ⟨d0,d1,-,d3,-⟩:=hM2.cells
 have f1:=hM2.fz 1
 have HM2:=hid hM2
 clear hM2 hLo HALL
 cases RR with
 | inl z =>
  obtain ⟨hz,rfl⟩:=hend
  have qz:((z:Int) != 0)=true:=bne_iff_ne.2 (by omega)
  have HZ:=hid hz
  clear hz d0 d1 f1
  go_wp2
  go_ret3
  exact memd_err HR.out HZ.out HM2.out
 | inr r =>
  obtain ⟨rfl,hat,hrr⟩:=hend
  have HRR:=hid (And.intro hat hrr)
  clear hat hrr d0 d1 f1 d3
  go_wp2
  go_loopw [23] (fun v23 wr=>True∧Hid (∃ (f at3:Nat),XmAt w wr w.heap.size w.heap.size A bs c at3 kind recs (.slice Ao Lo co) lv T∧at3≤n∧n-at3≤f∧dropPad f (bs.drop at3)=dropPad r.length r)) (fun _ wr=>leftM n w.heap.size wr)
  case atStart=>exact ⟨trivial,hid ⟨r.length,at2,HM2.out,by have:=HRR.out.1;have:=HN.out.1;omega,by rw [HRR.out.2,List.length_drop];have:=HN.out.1;omega,by rw [HRR.out.2]⟩⟩
  case round =>
  obtain ⟨-,HX⟩:=hrel
  obtain ⟨f,at3,hM,hat,hf,hd⟩:=HX.out
  obtain ⟨e0,e1,-,e3,-⟩:=hM.cells
  have ef1:=hM.fz 1
  have HM:=hid hM
  have hdl:(bs.drop at3).length=n-at3:=by rw [List.length_drop,HN.out.1]
  have HD:=hid (And.intro hat (And.intro hf (And.intro hd hdl)))
  clear HX hM hat hf hd hdl e0
  obtain ⟨a4,ha4⟩:∃ a,at3+4=a:=⟨_,rfl⟩
  have y1:(at3:Int)+4=(a4:Int):=by omega
  have y2:IntKind.i64.wrap (a4:Int)=(a4:Int):=Go.IntWalk.i64_in _ (by have:=HD.out;have:=HN.out;omega)
  have HA4:=hid ha4
  by_cases hle:a4≤n
  ·have q1:(a4:Int)≤(n:Int):=by omega
   obtain ⟨rb,ro,hA,-,hcell⟩:=(HROW.out.below HM.out.b) (by have:=HN.out.1;omega)
   subst hA
   have w1:IntKind.i64.wrap ((at3:Int)+1)=((at3+1:Nat):Int):=by rw [Go.IntWalk.i64_in _ (by have:=HN.out;omega)];rfl
   have w2':IntKind.i64.wrap ((at3:Int)+2)=((at3+2:Nat):Int):=by rw [Go.IntWalk.i64_in _ (by have:=HN.out;omega)];rfl
   have w3:IntKind.i64.wrap ((at3:Int)+3)=((at3+3:Nat):Int):=by rw [Go.IntWalk.i64_in _ (by have:=HN.out;omega)];rfl
   obtain ⟨x0,hx0⟩:∃ x,bs.getD at3 0=x:=⟨_,rfl⟩
   obtain ⟨x1,hx1⟩:∃ x,bs.getD (at3+1) 0=x:=⟨_,rfl⟩
   obtain ⟨x2,hx2⟩:∃ x,bs.getD (at3+2) 0=x:=⟨_,rfl⟩
   obtain ⟨x3,hx3⟩:∃ x,bs.getD (at3+3) 0=x:=⟨_,rfl⟩
   have h0:=hcell at3 (by have:=HN.out.1;omega)
   have h1:=hcell (at3+1) (by have:=HN.out.1;omega)
   have h2:=hcell (at3+2) (by have:=HN.out.1;omega)
   have h3:=hcell (at3+3) (by have:=HN.out.1;omega)
   rw [hx0] at h0
   rw [hx1] at h1
   rw [hx2] at h2
   rw [hx3] at h3
   have HXS:=hid (And.intro hx0 (And.intro hx1 (And.intro hx2 hx3)))
   obtain ⟨p1,hp1⟩:∃ p,at3+1=p:=⟨_,rfl⟩
   obtain ⟨p2,hp2⟩:∃ p,at3+2=p:=⟨_,rfl⟩
   obtain ⟨p3,hp3⟩:∃ p,at3+3=p:=⟨_,rfl⟩
   rw [hp1] at h1 w1
   rw [hp2] at h2 w2'
   rw [hp3] at h3 w3
   have l0:at3<n:=by omega
   have l1:p1<n:=by omega
   have l2:p2<n:=by omega
   have l3:p3<n:=by omega
   clear hcell hx0 hx1 hx2 hx3 ha4
   have zer:∀ x:UInt8,x=0→((x.toNat:Int)==0)=true:=fun x e=>by rw [e];rfl
   have non:∀ x:UInt8,¬ x=0→((x.toNat:Int)==0)=false:=fun x e=>beq_eq_false_iff_ne.2 (fun k=>e (by rw [← UInt8.ofNat_toNat (x:=x),show x.toNat=0 by omega];rfl))
   obtain ⟨n0,hn0⟩:∃ m,x0.toNat=m:=⟨_,rfl⟩
   obtain ⟨n1,hn1⟩:∃ m,x1.toNat=m:=⟨_,rfl⟩
   obtain ⟨n2,hn2⟩:∃ m,x2.toNat=m:=⟨_,rfl⟩
   obtain ⟨n3,hn3⟩:∃ m,x3.toNat=m:=⟨_,rfl⟩
   have k0:wr.cell? ⟨rb,ro+at3,none⟩=some (.int .u8 (n0:Int)):=by rw [← hn0];exact h0
   have k1:wr.cell? ⟨rb,ro+p1,none⟩=some (.int .u8 (n1:Int)):=by rw [← hn1];exact h1
   have k2:wr.cell? ⟨rb,ro+p2,none⟩=some (.int .u8 (n2:Int)):=by rw [← hn2];exact h2
   have k3:wr.cell? ⟨rb,ro+p3,none⟩=some (.int .u8 (n3:Int)):=by rw [← hn3];exact h3
   have HG:Hid ((bs.drop at3).getD 0 0=x0∧(bs.drop at3).getD 1 0=x1∧(bs.drop at3).getD 2 0=x2∧(bs.drop at3).getD 3 0=x3):=hid ⟨by rw [getD_dropD];exact HXS.out.1,by rw [getD_dropD];exact HXS.out.2.1,by rw [getD_dropD];exact HXS.out.2.2.1,by rw [getD_dropD];exact HXS.out.2.2.2⟩
   have HNO:Hid (¬ (x0=0∧x1=0∧x2=0∧x3=0)→dropPad r.length r=bs.drop at3):=hid (fun hno=>by
    rw [← HD.out.2.2.1]
    refine dropPadD_no (fun h=>hno ?_)
    rw [← HG.out.1,← HG.out.2.1,← HG.out.2.2.1,← HG.out.2.2.2]
    exact h.2)
   clear h0 h1 h2 h3
   by_cases z0:x0=0
   ·have b0:=zer _ z0
    rw [hn0] at b0
    by_cases z1:x1=0
    ·have b1:=zer _ z1
     rw [hn1] at b1
     by_cases z2:x2=0
     ·have b2:=zer _ z2
      rw [hn2] at b2
      by_cases z3:x3=0
      ·have b3:=zer _ z3
       rw [hn3] at b3
       have HNX:Hid (∃ (f at3:Nat),XmAt w (wr.setCell ⟨w.heap.size,1,none⟩ (.int .i64 (a4:Int))) w.heap.size w.heap.size (some ⟨rb,ro,none⟩) bs c at3 kind recs (.slice Ao Lo co) lv T∧at3≤n∧n-at3≤f∧dropPad f (bs.drop at3)=dropPad r.length r):=hid (by
        obtain ⟨f1,hf1⟩:∃ f1,f=f1+1:=⟨f-1,by have:=HD.out;have:=HA4.out;omega⟩
        refine ⟨f1,a4,HM.out.move a4,hle,by have:=HD.out;have:=HA4.out;omega,?_⟩
        rw [← HD.out.2.2.1,hf1,dropPadD_step (by have:=HD.out;have:=HA4.out;omega) (by rw [HG.out.1];exact z0) (by rw [HG.out.2.1];exact z1) (by rw [HG.out.2.2.1];exact z2) (by rw [HG.out.2.2.2];exact z3),List.drop_drop,HA4.out])
       have HME:Hid (leftM n w.heap.size (wr.setCell ⟨w.heap.size,1,none⟩ (.int .i64 (a4:Int)))<leftM n w.heap.size wr):=hid (by rw [(HM.out.move a4).left,HM.out.left];have:=HA4.out;omega)
       clear zer non hn0 hn1 hn2 hn3 z0 z1 z2 z3 hp1 hp2 hp3 hle
       go_wp2
       exact ⟨⟨trivial,HNX.out⟩,HME.out⟩
      have b3:=non _ z3
      rw [hn3] at b3
      have HNN:=hid (HNO.out (fun h=>z3 h.2.2.2))
      clear zer non hn0 hn1 hn2 hn3 z0 z1 z2 z3 hp1 hp2 hp3 hle
      go_upto_region 7 with fail
      go_quiet (fail)
      go_wp2
      go_ret3
      exact memd_ok HR.out HNN.out (by have:=HD.out.1;have:=HN.out.1;omega) (HM.out.drewN _)
     have b2:=non _ z2
     rw [hn2] at b2
     have HNN:=hid (HNO.out (fun h=>z2 h.2.2.1))
     clear zer non hn0 hn1 hn2 hn3 z0 z1 z2 hp1 hp2 hp3 hle
     go_upto_region 7 with fail
     go_quiet (fail)
     go_wp2
     go_ret3
     exact memd_ok HR.out HNN.out (by have:=HD.out.1;have:=HN.out.1;omega) (HM.out.drewN _)
    have b1:=non _ z1
    rw [hn1] at b1
    have HNN:=hid (HNO.out (fun h=>z1 h.2.1))
    clear zer non hn0 hn1 hn2 hn3 z0 z1 hp1 hp2 hp3 hle
    go_upto_region 7 with fail
    go_quiet (fail)
    go_wp2
    go_ret3
    exact memd_ok HR.out HNN.out (by have:=HD.out.1;have:=HN.out.1;omega) (HM.out.drewN _)
   have b0:=non _ z0
   rw [hn0] at b0
   have HNN:=hid (HNO.out (fun h=>z0 h.1))
   clear zer non hn0 hn1 hn2 hn3 z0 hp1 hp2 hp3 hle
   go_upto_region 7 with fail
   go_quiet (fail)
   go_wp2
   go_ret3
   exact memd_ok HR.out HNN.out (by have:=HD.out.1;have:=HN.out.1;omega) (HM.out.drewN _)
  have q1:(n:Int)<(a4:Int):=by omega
  have HNN:Hid (dropPad r.length r=bs.drop at3):=hid (by
   rw [← HD.out.2.2.1]
   exact dropPadD_no (fun h=>by have:=h.1;have:=HD.out;omega))
  clear hle ha4
  go_upto_region 7 with fail
  go_quiet (fail)
  go_wp2
  go_ret3
  exact memd_ok HR.out HNN.out (by have:=HD.out.1;have:=HN.out.1;omega) (HM.out.drewN _)
open Go.RowKit Rng Win Lz Box
open Go.RowKit Rng Win Lz Box
open Go.RowKit Rng Win Lz Box
end Go.Proofs.YtffehfpbdcokbaaGreat
