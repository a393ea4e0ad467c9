import Derived.Test.YtffehfpbdcokbaaGreatBu1
set_option linter.unusedVariables false
set_option linter.unusedSimpArgs false
namespace Go.Proofs.YtffehfpbdcokbaaGreat
open Lib (hid)
open Go.RowKit Rng Lz
section
variable {σ : Type} {CA : World → σ → Prop} {own : Nat → Prop} {T : TypeId} {w w' : World} {k : LK} {st : Nat} {rep : Nat → Nat} {s : CP σ}
theorem LzAt.hdr (h:LzAt CA own T w k st rep s) {i:Nat} (hi:i<8):w.cell? ⟨k.sb,i,none⟩=some (mcell k st rep s.pr i)∧w.frozen? ⟨k.sb,i,none⟩=false:=⟨by rw [h.m.cell,mcells_get _ _ _ _ (by omega)],h.m.frozen _⟩
theorem LzAt.put {st':Nat} {rep':Nat→Nat} (hk:KeepOK CA own) (h:LzAt CA own T w k st rep s) {i:Nat} {v:Value} (he:(mcells k st rep s.pr).setIfInBounds i v=mcells k st' rep' s.pr):LzAt CA own T (w.setCell ⟨k.sb,i,none⟩ v) k st' rep' s∧Frm (Wr own k) w (w.setCell ⟨k.sb,i,none⟩ v):=by
 have hf:Frm (· = k.sb) w (w.setCell ⟨k.sb,i,none⟩ v):=(Frm.refl (· = k.sb) w).setCell (p:=⟨k.sb,i,none⟩) rfl v
 refine ⟨⟨hk _ _ _ _ h.c hf (fun q hq e=>h.ne.1 (e▸hq)),?_,h.l.other (p:=⟨k.sb,i,none⟩) (fun e=>h.ne.2.2 e.symm) v,h.fit,h.ne⟩,hf.mono fun q _ e=>.inr (.inl e)⟩
 have:=h.m.set i v
 rw [he] at this
 exact this
theorem LzAt.putSt (st':Nat) (hk:KeepOK CA own) (h:LzAt CA own T w k st rep s):LzAt CA own T (w.setCell ⟨k.sb,3,none⟩ (.int .i64 (st':Int))) k st' rep s∧Frm (Wr own k) w (w.setCell ⟨k.sb,3,none⟩ (.int .i64 (st':Int))):=h.put hk (mcells_st k st st' rep s.pr)
theorem LzAt.putRep (i v:Nat) (hi:i<4) (hk:KeepOK CA own) (h:LzAt CA own T w k st rep s):LzAt CA own T (w.setCell ⟨k.sb,4+i,none⟩ (.int .u32 (v:Int))) k st (fun j=>if j=i then v else rep j) s∧Frm (Wr own k) w (w.setCell ⟨k.sb,4+i,none⟩ (.int .u32 (v:Int))):=h.put hk (mcells_rep k st rep s.pr hi v)
end
def behS (st kind:Nat):Nat:=if kind=0 then (if st<4 then 0 else if 9<st then st-6 else st-3) else if kind=1 then (if 7≤st then 10 else 7) else if kind=2 then (if 7≤st then 11 else 8) else (if 7≤st then 11 else 9)
theorem behS_lt {st kind:Nat} (h:st<12):behS st kind<12:=by
 unfold behS
 split
 ·split
  ·omega
  split <;> omega
 split
 ·split <;> omega
 split
 ·split <;> omega
 split <;> omega
theorem bool01_t (w:World):Calls Tryz.prog 133 #[.bool true] w fun e w'=>e=.returned (.int .i64 1)∧w=w':=bool01_any true w
theorem bool01_f (w:World):Calls Tryz.prog 133 #[.bool false] w fun e w'=>e=.returned (.int .i64 0)∧w=w':=bool01_any false w
set_option maxRecDepth 100000 in
set_option maxHeartbeats 1000000 in
theorem behind_any {σ:Type} {CA:World→σ→Prop} {own:Nat→Prop} (hk:KeepOK CA own) (T:TypeId) (k:LK) (st kind:Nat) (rep:Nat→Nat) (s:CP σ) (w:World) (h:LzAt CA own T w k st rep s) (hst:st<12) (hkind:kind<4) :
 Calls Tryz.prog 107 #[.pointer (some ⟨k.sb,0,none⟩),.int .i64 kind] w fun e w'=>e=.returned (.tuple #[])∧LzAt CA own T w' k (behS st kind) rep s∧Frm (Wr own k) w w':=by
 have c3:w.cell? ⟨k.sb,3,none⟩=some (.int .i64 st):=(h.hdr (i:=3) (by omega)).1
 have f3:=(h.hdr (i:=3) (by omega)).2
 have HZ:=hid h
 have hk4:kind=0∨kind=1∨kind=2∨kind=3:=by omega
 clear h hkind
 rcases hk4 with rfl | rfl | rfl | rfl
 ·have hm:max (0:Int) ((st:Int)-3)=((st-3:Nat):Int):=by omega
  have hmx:=fun w=>max2_num (P:=Tryz.prog) .i64 #[3,3] 3 _ _ _ hm w
  have hc3:st<4∨(4≤st∧st≤9)∨(4≤st∧9<st):=by omega
  have P1:=HZ.out.putSt (st-3) hk
  have d3:(w.setCell ⟨k.sb,3,none⟩ (.int .i64 ((st-3:Nat):Int))).frozen? ⟨k.sb,3,none⟩=false:=(P1.1.hdr (i:=3) (by omega)).2
  have HP:=hid P1
  obtain ⟨z,hz⟩:∃ z:Int,((st-3:Nat):Int)=z:=⟨_,rfl⟩
  have HZZ:=hid hz
  rw [hz] at hmx d3
  clear P1 hm hz
  rcases hc3 with h1 | ⟨h1,h2⟩ | ⟨h1,h2⟩
  all_goals
   go_enter Tryz.func107,Tryz.ntmps107
   go_wp2_with fail
   go_end0
   rw [← HZZ.out]
  ·exact ⟨rfl,by unfold behS;rw [if_pos rfl,if_pos h1];exact (HP.out.1.putSt 0 hk).1,HP.out.2.trans (HP.out.1.putSt 0 hk).2⟩
  ·exact ⟨rfl,by unfold behS;rw [if_pos rfl,if_neg (by omega),if_neg (by omega)];exact HP.out.1,HP.out.2⟩
  have P2:=HP.out.1.putSt (st-6) hk
  rw [show ((st-6:Nat):Int)=(st:Int)-6 by omega] at P2
  exact ⟨rfl,by unfold behS;rw [if_pos rfl,if_neg (by omega),if_pos h2];exact P2.1,HP.out.2.trans P2.2⟩
 all_goals
  have hc3:(7≤st∧(7:Int)≤(st:Int)∧decide (7≤st)=true∧decide ((7:Int)≤(st:Int))=true)∨(st<7∧(st:Int)<7∧decide (7≤st)=false∧decide ((7:Int)≤(st:Int))=false):=by
   by_cases h:7≤st
   ·exact .inl ⟨h,by omega,decide_eq_true h,decide_eq_true (by omega)⟩
   exact .inr ⟨by omega,by omega,decide_eq_false h,decide_eq_false (by omega)⟩
  rcases hc3 with ⟨h1,h2,h3,h4⟩ | ⟨h1,h2,h3,h4⟩
  all_goals
   go_enter Tryz.func107,Tryz.ntmps107
   go_wp2_with (go_at_call 133;first | (refine (bool01_t _).mono ?_;rintro e w2 ⟨rfl,rfl⟩) | (refine (bool01_f _).mono ?_;rintro e w2 ⟨rfl,rfl⟩))
   go_end0
   first
    | (have P2:=HZ.out.putSt 10 hk;exact ⟨rfl,by unfold behS;simp only [Nat.reduceEqDiff,if_true,if_false,if_pos h1];exact P2.1,P2.2⟩)
    | (have P2:=HZ.out.putSt 7 hk;exact ⟨rfl,by unfold behS;simp only [Nat.reduceEqDiff,if_true,if_false,if_neg (show ¬ 7≤st by omega)];exact P2.1,P2.2⟩)
    | (have P2:=HZ.out.putSt 11 hk;exact ⟨rfl,by unfold behS;simp only [Nat.reduceEqDiff,if_true,if_false,if_pos h1];exact P2.1,P2.2⟩)
    | (have P2:=HZ.out.putSt 8 hk;exact ⟨rfl,by unfold behS;simp only [Nat.reduceEqDiff,if_true,if_false,if_neg (show ¬ 7≤st by omega)];exact P2.1,P2.2⟩)
    | (have P2:=HZ.out.putSt 9 hk;exact ⟨rfl,by unfold behS;simp only [Nat.reduceEqDiff,if_true,if_false,if_neg (show ¬ 7≤st by omega)];exact P2.1,P2.2⟩)
open Go.RowKit Rng
theorem one_lt {d:Dec} (h:d.order.code<d.order.size / 2):d.one=(false,⟨d.order.rest,d.order.size / 2,d.order.code,d.order.want⟩):=by unfold Dec.one;simp only;rw [if_pos h]
theorem one_ge {d:Dec} (h:¬ d.order.code<d.order.size / 2):d.one=(true,⟨d.order.rest,d.order.size / 2,d.order.code-d.order.size / 2,d.order.want⟩):=by unfold Dec.one;simp only;rw [if_neg h]
theorem direct_step {n x:Nat} {d:Dec}:Dec.direct (n+1) x d=Dec.direct n (x*2 % 4294967296+(if d.one.1 then 1 else 0)) d.one.2:=rfl
theorem or_one {x:Nat} (h1:x % 2=0) (h2:x<4294967296):bits .or .u32 (x:Int) 1=((x+1:Nat):Int):=by
 have e1:x<Num.M32:=h2
 have e2:1<Num.M32:=by unfold Num.M32;omega
 have h:=Num.or32 e1 e2
 have h3:=Nat.shiftLeft_add_eq_or_of_lt (a:=x / 2) (b:=1) (i:=1) (by omega)
 have e:(x / 2) <<< 1=x:=by rw [Nat.shiftLeft_eq];omega
 rw [e] at h3
 rw [← h3] at h
 exact h
set_option maxRecDepth 100000 in
set_option maxHeartbeats 1000000 in
theorem ddirect_p (b rb:Nat) (n:Int) (d:Dec) (w:World) (hd:DecAt w 265 b rb d) :
 Calls Tryz.prog 199 #[.pointer (some ⟨b,0,none⟩),.int .i64 n] w fun e w'=>e=.returned (.int .u32 (d.direct (count n) 0).1)∧DecAt w' 265 b rb (d.direct (count n) 0).2∧Frm (· = b) w w':=by
 obtain ⟨N,hN⟩:∃ N:Nat,count n=N:=⟨_,rfl⟩
 have hN2:N≤32:=by rw [← hN];unfold count;omega
 obtain ⟨x,hx⟩:∃ x:Int,max n 0=x:=⟨_,rfl⟩
 have f1:=fun w=>max2_num (P:=Tryz.prog) .i64 #[3,3] 3 n 0 x hx w
 have f2:=fun w=>min2_num (P:=Tryz.prog) .i64 #[3,3] 3 x 32 N (by rw [← hN];unfold count;omega) w
 obtain ⟨G,hG⟩:∃ G,d.direct N 0=G:=⟨_,rfl⟩
 rw [hN,hG]
 have HD:=hid hd
 have HG:=hid hG
 clear hx hN hd hG
 go_enter Tryz.func199,Tryz.ntmps199
 go_wp2
 go_loopw [4,10] (fun xv iv wr=>∃ (j y:Nat) (dj:Dec),iv=.int .i64 j∧xv=.int .u32 y∧j≤N∧y<4294967296∧dj.direct (N-j) y=G∧DecAt wr 265 b rb dj∧Frm (· = b) w wr) (fun _ iv _=>N-(intOf iv).toNat)
 case atStart=>exact ⟨0,0,d,rfl,rfl,by omega,by omega,HG.out,HD.out,Frm.refl _ _⟩
 case round =>
 obtain ⟨j,y,dj,rfl,rfl,hj,hy,hg,hdj,hf⟩:=hrel
 have HF:=hid hf
 have HDJ:=hid hdj
 have HGJ:=hid hg
 clear hf hdj hg HD HG
 by_cases hlt:j<N
 ·obtain ⟨y2,hy2⟩:∃ y2:Nat,y*2 % 4294967296=y2:=⟨_,rfl⟩
  have hwy:IntKind.u32.wrap ((y:Int)*2)=(y2:Int):=by rw [IntKind.wrap_u32'];omega
  have hor:bits .or .u32 (y2:Int) 1=((y2+1:Nat):Int):=or_one (by omega) (by omega)
  have hg2:=HGJ.out
  rw [show N-j=(N-(j+1))+1 by omega,direct_step,hy2] at hg2
  have hy2l:y2+1<4294967296:=by omega
  have HY:=hid hy2l
  have HG2:=hid hg2
  clear hg2 hy2 hy hy2l HGJ
  go_wp2_with fail
  refine (dorder_p b rb dj _ HDJ.out).mono ?_;rintro e w1 ⟨rfl,hd1,hf1⟩
  have hfit:=HDJ.out.f.one
  have hbe:=(show dj.order.code<dj.order.size / 2∨¬ dj.order.code<dj.order.size / 2 by omega).imp (fun h=>And.intro h (one_lt h)) (fun h=>And.intro h (one_ge h))
  obtain ⟨⟨A,cp,hpt,hrow,hoff0,hcp,hcm⟩,⟨hs,hk⟩,hrb⟩:=hd1
  have hoff:=hoff0.of_ne hrb
  obtain ⟨o,ho⟩:∃ o,dj.order=o:=⟨_,rfl⟩
  rw [ho] at hbe hpt hrow hoff hcp hs hk hoff0
  obtain ⟨rest,s,k,wt⟩:=o
  simp only at hbe hpt hrow hoff hcp hs hk hoff0
  have HN0:=hid hoff0
  have HRB:=hid hrb
  obtain ⟨q,hq⟩:∃ q:Nat,s / 2=q:=⟨_,rfl⟩
  rw [hq] at hbe
  have hq1:(s:Int) / 2=(q:Int):=by omega
  obtain ⟨k3,hk3e⟩:∃ k3:Nat,k-q=k3:=⟨_,rfl⟩
  have hk3:¬ k<q→IntKind.u32.wrap ((k:Int)-q)=(k3:Int):=fun h=>by rw [Go.IntWalk.u32_in _ (by omega)];omega
  rw [hk3e] at hbe
  have d1:w1.cell? ⟨b,1,none⟩=some (.int .u32 s):=by rw [hpt.cell];rfl
  have g1:=hpt.frozen 1
  have HP1:=hid hpt
  have HROW:=hid hrow
  have HOFF:=hid hoff
  have HF1:=hid hf1
  have HCP:=hid (And.intro hcp hcm)
  have HFIT:=hid hfit
  clear hpt hrow hoff hf1 hcp hcm hfit hq hs hk ho hk3e hoff0 hrb
  go_wp2
  have P2:=HP1.out.set 1 (.int .u32 q)
  have F2:=HF1.out.setCell (p:=⟨b,1,none⟩) (by rfl) (.int .u32 q)
  have R2:BRow (w1.setCell ⟨b,1,none⟩ (.int .u32 q)) (w1.setCell ⟨b,1,none⟩ (.int .u32 q)).heap.size A rest:=(HROW.out.off HOFF.out ((Frm.refl (· = b) w1).setCell (p:=⟨b,1,none⟩) (by rfl) (.int .u32 q))).more ((Frm.refl (· = b) w1).setCell (p:=⟨b,1,none⟩) (by rfl) (.int .u32 q)).size
  generalize w1.setCell ⟨b,1,none⟩ (.int .u32 q)=w2 at *
  have e1:w2.cell? ⟨b,1,none⟩=some (.int .u32 q):=by rw [P2.cell];rfl
  have e2:w2.cell? ⟨b,2,none⟩=some (.int .u32 k):=by rw [P2.cell];rfl
  have g2:=P2.frozen 2
  have PP2:=hid P2
  have FF2:=hid F2
  have RR2:=hid R2
  clear P2 F2 R2 d1 g1 hq1
  go_quiet (fail)
  rcases hbe with ⟨h1,hbe⟩ | ⟨h1,hbe⟩
  ·have hcc:decide ((q:Int)≤(k:Int))=false:=by simp;omega
   rw [hbe] at HG2 HFIT
   clear hk3
   go_wp2
   exact ⟨⟨j+1,y2,⟨rest,q,k,wt⟩,by go_num,rfl,by omega,by have:=HY.out;omega,HG2.out,⟨⟨A,cp,PP2.out.drewN nq,RR2.out.drewN nq,HN0.out,HCP.out.1,HCP.out.2⟩,HFIT.out,HRB.out⟩,(HF.out.trans FF2.out).drewN nq⟩,by simp [intOf];omega⟩
  have hcc:decide ((q:Int)≤(k:Int))=true:=by simp;omega
  rw [hbe] at HG2 HFIT
  have hw3:=hk3 h1
  have HBE:=hid hbe
  clear hk3 hbe
  go_wp2
  have e1':(w2.drewN nq).cell? ⟨b,1,none⟩=some (.int .u32 q):=e1
  have e2':(w2.drewN nq).cell? ⟨b,2,none⟩=some (.int .u32 k):=e2
  have g2':(w2.drewN nq).frozen? ⟨b,2,none⟩=false:=g2
  have P3:=PP2.out.drewN nq
  have F3:=(HF.out.trans FF2.out).drewN nq
  have R3:BRow (w2.drewN nq) (w2.drewN nq).heap.size A rest:=RR2.out.drewN nq
  generalize w2.drewN nq=w3 at *
  have PP3:=hid P3
  have FF3:=hid F3
  have RR3:=hid R3
  clear P3 F3 R3 e1 e2 g2
  go_still_tail 11,(by kernel_rfl)
  change wpList _ _ _ _ _ w3.drew
  go_wp2
  have F4:=(FF3.out.setCell (p:=⟨b,2,none⟩) (by rfl) (.int .u32 k3)).drew
  have F5:=((Frm.refl (· = b) w3).setCell (p:=⟨b,2,none⟩) (by rfl) (.int .u32 k3)).drew
  exact ⟨⟨j+1,y2+1,⟨rest,q,k3,wt⟩,by go_num,rfl,by omega,by have:=HY.out;omega,HG2.out,⟨⟨A,cp,(PP3.out.set 2 (.int .u32 k3)).drew,(RR3.out.off HOFF.out F5).more F5.size,HN0.out,HCP.out.1,HCP.out.2⟩,HFIT.out,HRB.out⟩,F4⟩,by simp [intOf];omega⟩
 obtain rfl:j=N:=by omega
 have h0:=HGJ.out
 rw [Nat.sub_self] at h0
 obtain ⟨h0a,h0b⟩:G.1=y∧G.2=dj:=by rw [← h0];exact ⟨rfl,rfl⟩
 have H0A:=hid h0a
 have H0B:=hid h0b
 clear h0 h0a h0b
 go_wp2
 go_ret
 rw [H0A.out,H0B.out]
 exact ⟨rfl,HDJ.out,HF.out⟩
theorem dend_p (b rb:Nat) (d:Dec) (w:World) (hd:DecAt w 265 b rb d) :
 Calls Tryz.prog 143 #[.pointer (some ⟨b,0,none⟩)] w fun e w'=>e=.returned (.tuple #[.int .i64 d.fin.1,.int .i64 d.fin.2])∧DecAt w' 265 b rb d.order∧Frm (· = b) w w':=by
 have HD:=hid hd
 obtain ⟨R,hR⟩:∃ R,d.fin=R:=⟨_,rfl⟩
 obtain ⟨o,ho⟩:∃ o,d.order=o:=⟨_,rfl⟩
 have hfin:(if o.want then (0,10) else if o.code≠0 then (0,11) else (o.rest.length,0))=R:=by rw [← hR,← ho];rfl
 rw [hR,ho]
 have HO:=hid ho
 have HFI:=hid hfin
 clear hd hR ho hfin
 go_enter Tryz.func143,Tryz.ntmps143
 go_wp2_with fail
 refine (dorder_p b rb d _ HD.out).mono ?_;rintro e w1 ⟨rfl,hd1,hf1⟩
 rw [HO.out] at hd1
 have HD1:=hid hd1
 have HF1:=hid hf1
 obtain ⟨⟨A,cp,hpt,hrow,hoff,hcp,hcm⟩,⟨hs,hk⟩,hrb⟩:=hd1
 have d0:w1.cell? ⟨b,0,none⟩=some (.slice A o.rest.length cp):=by rw [hpt.cell];rfl
 have d2:w1.cell? ⟨b,2,none⟩=some (.int .u32 o.code):=by rw [hpt.cell];rfl
 have d3:w1.cell? ⟨b,3,none⟩=some (.bool o.want):=by rw [hpt.cell];rfl
 clear hpt hrow hoff hf1 hcm hs hk
 cases hw:o.want with
 | true =>
  have hr:=HFI.out
  rw [hw] at d3 hr
  rw [if_pos rfl] at hr
  subst hr
  go_wp2
  go_ret2
  exact ⟨rfl,HD1.out,HF1.out⟩
 | false =>
  have hr:=HFI.out
  rw [hw] at d3 hr
  rw [if_neg (by simp)] at hr
  by_cases hk:o.code=0
  ·rw [if_neg (by simpa using hk)] at hr
   subst hr
   rw [hk] at d2
   clear HFI
   go_wp2
   go_ret2
   exact ⟨rfl,HD1.out,HF1.out⟩
  rw [if_pos hk] at hr
  subst hr
  have hk2:((o.code:Int)==0)=false:=by simpa using hk
  clear HFI
  go_wp2
  go_ret2
  exact ⟨rfl,HD1.out,HF1.out⟩
set_option maxRecDepth 100000 in
set_option maxHeartbeats 1000000 in
theorem ddirect_r (b rb:Nat) (n:Int) (d:Dec) (w:World) (hd:DecAt w 268 b rb d) :
 Calls Tryz.prog 177 #[.pointer (some ⟨b,0,none⟩),.int .i64 n] w fun e w'=>e=.returned (.int .u32 (d.direct (count n) 0).1)∧DecAt w' 268 b rb (d.direct (count n) 0).2∧Frm (· = b) w w':=by
 obtain ⟨N,hN⟩:∃ N:Nat,count n=N:=⟨_,rfl⟩
 have hN2:N≤32:=by rw [← hN];unfold count;omega
 obtain ⟨x,hx⟩:∃ x:Int,min n 32=x:=⟨_,rfl⟩
 have f1:=fun w=>min2_num (P:=Tryz.prog) .i64 #[3,3] 3 n 32 x hx w
 have f2:=fun w=>max2_num (P:=Tryz.prog) .i64 #[3,3] 3 0 x N (by rw [← hN];unfold count;omega) w
 obtain ⟨G,hG⟩:∃ G,d.direct N 0=G:=⟨_,rfl⟩
 rw [hN,hG]
 have HD:=hid hd
 have HG:=hid hG
 clear hx hN hd hG
 go_enter Tryz.func177,Tryz.ntmps177
 go_wp2
 go_loopw [5,6] (fun xv iv wr=>∃ (j y:Nat) (dj:Dec),iv=.int .i64 j∧xv=.int .u32 y∧j≤N∧y<4294967296∧dj.direct (N-j) y=G∧DecAt wr 268 b rb dj∧Frm (· = b) w wr) (fun _ iv _=>N-(intOf iv).toNat)
 case atStart=>exact ⟨0,0,d,rfl,rfl,by omega,by omega,HG.out,HD.out,Frm.refl _ _⟩
 case round =>
 obtain ⟨j,y,dj,rfl,rfl,hj,hy,hg,hdj,hf⟩:=hrel
 have HF:=hid hf
 have HDJ:=hid hdj
 have HGJ:=hid hg
 clear hf hdj hg HD HG
 by_cases hlt:j<N
 ·obtain ⟨y2,hy2⟩:∃ y2:Nat,y*2 % 4294967296=y2:=⟨_,rfl⟩
  have hwy:IntKind.u32.wrap ((y:Int)*2)=(y2:Int):=by rw [IntKind.wrap_u32'];omega
  have hor:bits .or .u32 (y2:Int) 1=((y2+1:Nat):Int):=or_one (by omega) (by omega)
  have hg2:=HGJ.out
  rw [show N-j=(N-(j+1))+1 by omega,direct_step,hy2] at hg2
  have hy2l:y2+1<4294967296:=by omega
  have HY:=hid hy2l
  have HG2:=hid hg2
  clear hg2 hy2 hy hy2l HGJ
  go_wp2_with fail
  refine (dorder_r b rb dj _ HDJ.out).mono ?_;rintro e w1 ⟨rfl,hd1,hf1⟩
  have hfit:=HDJ.out.f.one
  have hbe:=(show dj.order.code<dj.order.size / 2∨¬ dj.order.code<dj.order.size / 2 by omega).imp (fun h=>And.intro h (one_lt h)) (fun h=>And.intro h (one_ge h))
  obtain ⟨⟨A,cp,hpt,hrow,hoff0,hcp,hcm⟩,⟨hs,hk⟩,hrb⟩:=hd1
  have hoff:=hoff0.of_ne hrb
  obtain ⟨o,ho⟩:∃ o,dj.order=o:=⟨_,rfl⟩
  rw [ho] at hbe hpt hrow hoff hcp hs hk hoff0
  obtain ⟨rest,s,k,wt⟩:=o
  simp only at hbe hpt hrow hoff hcp hs hk hoff0
  have HN0:=hid hoff0
  have HRB:=hid hrb
  obtain ⟨q,hq⟩:∃ q:Nat,s / 2=q:=⟨_,rfl⟩
  rw [hq] at hbe
  have hq1:(s:Int) / 2=(q:Int):=by omega
  obtain ⟨k3,hk3e⟩:∃ k3:Nat,k-q=k3:=⟨_,rfl⟩
  have hk3:¬ k<q→IntKind.u32.wrap ((k:Int)-q)=(k3:Int):=fun h=>by rw [Go.IntWalk.u32_in _ (by omega)];omega
  rw [hk3e] at hbe
  have d1:w1.cell? ⟨b,1,none⟩=some (.int .u32 s):=by rw [hpt.cell];rfl
  have g1:=hpt.frozen 1
  have HP1:=hid hpt
  have HROW:=hid hrow
  have HOFF:=hid hoff
  have HF1:=hid hf1
  have HCP:=hid (And.intro hcp hcm)
  have HFIT:=hid hfit
  clear hpt hrow hoff hf1 hcp hcm hfit hq hs hk ho hk3e hoff0 hrb
  go_wp2
  have P2:=HP1.out.set 1 (.int .u32 q)
  have F2:=HF1.out.setCell (p:=⟨b,1,none⟩) (by rfl) (.int .u32 q)
  have R2:BRow (w1.setCell ⟨b,1,none⟩ (.int .u32 q)) (w1.setCell ⟨b,1,none⟩ (.int .u32 q)).heap.size A rest:=(HROW.out.off HOFF.out ((Frm.refl (· = b) w1).setCell (p:=⟨b,1,none⟩) (by rfl) (.int .u32 q))).more ((Frm.refl (· = b) w1).setCell (p:=⟨b,1,none⟩) (by rfl) (.int .u32 q)).size
  generalize w1.setCell ⟨b,1,none⟩ (.int .u32 q)=w2 at *
  have e1:w2.cell? ⟨b,1,none⟩=some (.int .u32 q):=by rw [P2.cell];rfl
  have e2:w2.cell? ⟨b,2,none⟩=some (.int .u32 k):=by rw [P2.cell];rfl
  have g2:=P2.frozen 2
  have PP2:=hid P2
  have FF2:=hid F2
  have RR2:=hid R2
  clear P2 F2 R2 d1 g1 hq1
  go_quiet (fail)
  rcases hbe with ⟨h1,hbe⟩ | ⟨h1,hbe⟩
  ·have hcc:decide ((q:Int)≤(k:Int))=false:=by simp;omega
   rw [hbe] at HG2 HFIT
   clear hk3
   go_wp2
   exact ⟨⟨j+1,y2,⟨rest,q,k,wt⟩,by go_num,rfl,by omega,by have:=HY.out;omega,HG2.out,⟨⟨A,cp,PP2.out.drewN nq,RR2.out.drewN nq,HN0.out,HCP.out.1,HCP.out.2⟩,HFIT.out,HRB.out⟩,(HF.out.trans FF2.out).drewN nq⟩,by simp [intOf];omega⟩
  have hcc:decide ((q:Int)≤(k:Int))=true:=by simp;omega
  rw [hbe] at HG2 HFIT
  have hw3:=hk3 h1
  have HBE:=hid hbe
  clear hk3 hbe
  go_wp2
  have e1':(w2.drewN nq).cell? ⟨b,1,none⟩=some (.int .u32 q):=e1
  have e2':(w2.drewN nq).cell? ⟨b,2,none⟩=some (.int .u32 k):=e2
  have g2':(w2.drewN nq).frozen? ⟨b,2,none⟩=false:=g2
  have P3:=PP2.out.drewN nq
  have F3:=(HF.out.trans FF2.out).drewN nq
  have R3:BRow (w2.drewN nq) (w2.drewN nq).heap.size A rest:=RR2.out.drewN nq
  generalize w2.drewN nq=w3 at *
  have PP3:=hid P3
  have FF3:=hid F3
  have RR3:=hid R3
  clear P3 F3 R3 e1 e2 g2
  go_still_tail 12,(by kernel_rfl)
  change wpList _ _ _ _ _ w3.drew
  go_wp2
  have F4:=(FF3.out.setCell (p:=⟨b,2,none⟩) (by rfl) (.int .u32 k3)).drew
  have F5:=((Frm.refl (· = b) w3).setCell (p:=⟨b,2,none⟩) (by rfl) (.int .u32 k3)).drew
  exact ⟨⟨j+1,y2+1,⟨rest,q,k3,wt⟩,by go_num,rfl,by omega,by have:=HY.out;omega,HG2.out,⟨⟨A,cp,(PP3.out.set 2 (.int .u32 k3)).drew,(RR3.out.off HOFF.out F5).more F5.size,HN0.out,HCP.out.1,HCP.out.2⟩,HFIT.out,HRB.out⟩,F4⟩,by simp [intOf];omega⟩
 obtain rfl:j=N:=by omega
 have h0:=HGJ.out
 rw [Nat.sub_self] at h0
 obtain ⟨h0a,h0b⟩:G.1=y∧G.2=dj:=by rw [← h0];exact ⟨rfl,rfl⟩
 have H0A:=hid h0a
 have H0B:=hid h0b
 clear h0 h0a h0b
 go_wp2
 go_ret
 rw [H0A.out,H0B.out]
 exact ⟨rfl,HDJ.out,HF.out⟩
theorem dend_r (b rb:Nat) (d:Dec) (w:World) (hd:DecAt w 268 b rb d) :
 Calls Tryz.prog 148 #[.pointer (some ⟨b,0,none⟩)] w fun e w'=>e=.returned (.tuple #[.int .i64 d.fin.1,.int .i64 d.fin.2])∧DecAt w' 268 b rb d.order∧Frm (· = b) w w':=by
 have HD:=hid hd
 obtain ⟨R,hR⟩:∃ R,d.fin=R:=⟨_,rfl⟩
 obtain ⟨o,ho⟩:∃ o,d.order=o:=⟨_,rfl⟩
 have hfin:(if o.want then (0,10) else if o.code≠0 then (0,11) else (o.rest.length,0))=R:=by rw [← hR,← ho];rfl
 rw [hR,ho]
 have HO:=hid ho
 have HFI:=hid hfin
 clear hd hR ho hfin
 go_enter Tryz.func148,Tryz.ntmps148
 go_wp2_with fail
 refine (dorder_r b rb d _ HD.out).mono ?_;rintro e w1 ⟨rfl,hd1,hf1⟩
 rw [HO.out] at hd1
 have HD1:=hid hd1
 have HF1:=hid hf1
 obtain ⟨⟨A,cp,hpt,hrow,hoff,hcp,hcm⟩,⟨hs,hk⟩,hrb⟩:=hd1
 have d0:w1.cell? ⟨b,0,none⟩=some (.slice A o.rest.length cp):=by rw [hpt.cell];rfl
 have d2:w1.cell? ⟨b,2,none⟩=some (.int .u32 o.code):=by rw [hpt.cell];rfl
 have d3:w1.cell? ⟨b,3,none⟩=some (.bool o.want):=by rw [hpt.cell];rfl
 clear hpt hrow hoff hf1 hcm hs hk
 cases hw:o.want with
 | true =>
  have hr:=HFI.out
  rw [hw] at d3 hr
  rw [if_pos rfl] at hr
  subst hr
  go_wp2
  go_ret2
  exact ⟨rfl,HD1.out,HF1.out⟩
 | false =>
  have hr:=HFI.out
  rw [hw] at d3 hr
  rw [if_neg (by simp)] at hr
  by_cases hk:o.code=0
  ·rw [if_neg (by simpa using hk)] at hr
   subst hr
   rw [hk] at d2
   clear HFI
   go_wp2
   go_ret2
   exact ⟨rfl,HD1.out,HF1.out⟩
  rw [if_pos hk] at hr
  subst hr
  have hk2:((o.code:Int)==0)=false:=by simpa using hk
  clear HFI
  go_wp2
  go_ret2
  exact ⟨rfl,HD1.out,HF1.out⟩
open Go.RowKit Rng Lz
theorem slot_zero (w:World):Calls Tryz.prog 135 #[.int .u32 0] w fun e w'=>e=.returned (.int .i64 0)∧w=w':=by
 go_enter Tryz.func135,Tryz.ntmps135
 go_wp2
 go_ret
 exact ⟨rfl,rfl⟩
theorem odir_any (db rb:Nat) (x n:Int) (d:Dec) (w:World) (hd:DC db rb w d) :
 Calls Tryz.prog 200 #[outV db,.int .u32 x,.int .i64 n] w fun e w'=>e=.returned (.int .u32 ((d.direct (count n) 0).1:Nat))∧DC db rb w' (d.direct (count n) 0).2∧Frm (DO db rb) w w':=by
 obtain ⟨r,hd',hback⟩:=hd.dec
 have HD:=hid hd'
 have HBK:=hid hback
 clear hd hd' hback
 unfold outV
 go_enter Tryz.func200,Tryz.ntmps200
 go_wp2_with fail
 obtain ⟨X,hX⟩:∃ X,Obj.cells #[.pointer (some ⟨db,0,none⟩)] 244=X:=⟨_,rfl⟩
 rw [hX]
 have hfr:=(Frm.refl (fun _=>False) w).alloc X
 refine (ddirect_p db r n d (w.alloc X) (DecAt.frm HD.out hfr id id)).mono ?_
 rintro e w1 ⟨rfl,h1,h2⟩
 have H1:=hid h1
 have H2:=hid h2
 clear h1 h2 hX hfr
 go_wp2
 go_ret
 exact ⟨rfl,HBK.out _ _ (fun h=>Dec.direct_nil _ _ h) H1.out,((Frm.refl (DO db rb) w).alloc X).trans (H2.out.mono fun q _ hq=>.inl hq)⟩
theorem lz_dir (db rb:Nat) (T:TypeId) (k:LK) (st:Nat) (rep:Nat→Nat) (s:CP Dec) (x z:Int) (n:Nat) (w:World) (h:LzAt (DC db rb) (DO db rb) T w k st rep s) (hz:z=(n:Int)) (hn:n≤32) (v:Nat) (d':Dec) (hv:outC.dir s.d 0 n=(v,d')) :
 Calls Tryz.prog 200 #[outV db,.int .u32 x,.int .i64 z] w fun e w'=>e=.returned (.int .u32 (v:Nat))∧LzAt (DC db rb) (DO db rb) T w' k st rep ⟨d',s.pr⟩∧Frm (Wr (DO db rb) k) w w':=by
 subst hz
 have hc:count (n:Int)=n:=by unfold count;omega
 have hv':s.d.direct n 0=(v,d'):=hv
 refine (odir_any db rb x n s.d w h.c).mono ?_
 rintro e w' ⟨rfl,h1,h2⟩
 rw [hc,hv'] at h1 ⊢
 exact ⟨rfl,⟨h1,h.m.frm h2 h.ne.1,h.l.frm h2 h.ne.2.1,h.fit,h.ne⟩,h2.mono fun q _ hq=>.inl hq⟩
theorem back_num (db rb:Nat) (T:TypeId) (k:LK) (st:Nat) (rep:Nat→Nat) (s:CP Dec) (R:Nat×CP Dec) (tb tq base n len cap:Nat) (x z:Int) (w:World) (h:LzAt (DC db rb) (DO db rb) T w k st rep s) (hn:n≤8) (hz:z=(n:Int)) (hlen:2 ^ n≤len) (hlc:len≤cap)
 (hpl:∀ j,1≤j→j<2 ^ n→Place k (base+j)∧plA k (base+j)=(tb,tq+j)) (hR:backAt outC base n 0 s=R) :
 Calls Tryz.prog 136 #[.slice (some ⟨tb,tq,none⟩) len cap,.iface 244 (outV db),.int .i64 x,.int .i64 z] w fun e w'=>e=.returned (.int .i64 (R.1:Nat)) ∧
  LzAt (DC db rb) (DO db rb) T w' k st rep R.2∧Frm (Wr (DO db rb) k) w w':=by
 subst hz;subst hR
 exact back_p db rb T k st rep s tb tq base n len cap x w h hn hlen hlc hpl
theorem backGo_lt {σ:Type} (co:Cod σ) (base x n:Nat):∀ (k m o:Nat) (s:CP σ),k≤n→o<2 ^ (n-k)→(backGo co base x n k m o s).1<2 ^ n
 | 0,m,o,s,_,h=>by simpa [backGo] using h
 | k+1,m,o,s,hk,h=>by
  refine backGo_lt co base x n k _ _ _ (by omega) ?_
  have hb:=bitAt_le co (base+m) (x / 2 ^ (n-(k+1)) % 2) s
  rw [show n-k=n-(k+1)+1 by omega,Nat.pow_succ]
  generalize (bitAt co (base+m) (x / 2 ^ (n-(k+1)) % 2) s).1=b at hb
  have:b*2 ^ (n-(k+1))≤1*2 ^ (n-(k+1)):=Nat.mul_le_mul_right _ hb
  omega
theorem backAt_lt {σ:Type} (co:Cod σ) (base n x:Nat) (s:CP σ):(backAt co base n x s).1<2 ^ n:=backGo_lt co base x n n 1 0 s (Nat.le_refl _) (by simp)
theorem slot_nums {t:Nat} (h4:4≤t) (h64:t<64):∃ K P bs:Nat,t / 2-1=K∧2 ^ K=P∧(2+t % 2)*P=bs∧(2:Int) ^ K=(P:Int)∧K≤30∧bs<4294967296∧(((2:Int)+((t % 2:Nat):Int))*(P:Int)=(bs:Int)):=by
 have hK:t / 2-1≤30:=by omega
 have hP:2 ^ (t / 2-1)≤2 ^ 30:=Nat.pow_le_pow_right (by omega) hK
 refine ⟨t / 2-1,2 ^ (t / 2-1),(2+t % 2)*2 ^ (t / 2-1),rfl,rfl,rfl,by simp,hK,?_,by simp⟩
 have h2:t % 2<2:=Nat.mod_lt _ (by omega)
 have:(2+t % 2)*2 ^ (t / 2-1)≤3*2 ^ 30:=Nat.mul_le_mul (by omega) hP
 omega
theorem slot_low {t K P bs:Nat} (h4:4≤t) (h14:t<14) (hK:t / 2-1=K) (hP:2 ^ K=P) (hb:(2+t % 2)*P=bs):t≤bs∧bs-t+P≤128∧K≤5:=by
 have:∀ t:Fin 14,4≤t.val→t.val≤(2+t.val % 2)*2 ^ (t.val / 2-1)∧(2+t.val % 2)*2 ^ (t.val / 2-1)-t.val+2 ^ (t.val / 2-1)≤128:=by decide
 have h:=this ⟨t,h14⟩ h4
 simp only at h
 subst hK;subst hP;subst hb
 exact ⟨h.1,h.2,by omega⟩
theorem ret_u32 {k:IntKind} {a b:Int} (h:a=b):Ending.returned (.int k a)=.returned (.int k b):=by rw [h]
theorem slice_places (b o f:Nat) (hf:f<128) (w:World) :
 (Instr.sliceAt 124 (.pointer (some ⟨b,o,none⟩)) (some (.int .i64 (f:Int))) none none).run Tryz.prog w=.ok (.slice (some ⟨b,o+f,none⟩) (128-f) (128-f)) w:=by
 have h:¬ 128=f:=by omega
 unfold Instr.sliceAt
 simp [go_sem,h]
 first | done | omega | (intro h;omega)
set_option maxRecDepth 100000 in
set_option maxHeartbeats 1000000 in
theorem dist_p (db rb:Nat) (T:TypeId) (k:LK) (st:Nat) (rep:Nat→Nat) (s:CP Dec) (size:Nat) (w:World) (h:LzAt (DC db rb) (DO db rb) T w k st rep s) (hs:2≤size) (hsz:size≤300) :
 Calls Tryz.prog 111 #[.pointer (some ⟨k.sb,0,none⟩),.iface 244 (outV db),.int .u32 0,.int .i64 size] w fun e w'=>e=.returned (.int .u32 ((distAt outC 0 size s).1:Nat)) ∧
  LzAt (DC db rb) (DO db rb) T w' k st rep (distAt outC 0 size s).2∧Frm (Wr (DO db rb) k) w w':=by
 obtain ⟨R,hR⟩:∃ R,distAt outC 0 size s=R:=⟨_,rfl⟩
 rw [hR]
 unfold distAt at hR
 simp only [show slotOf 0=0 by rfl,Nat.zero_sub,Nat.zero_div,Nat.zero_mod] at hR
 obtain ⟨q,hq⟩:∃ q,min size 5-2=q:=⟨_,rfl⟩
 have hq3:q<4:=by omega
 obtain ⟨Q2,hQ2⟩:∃ Q2,q+2=Q2:=⟨_,rfl⟩
 have hmin:min (size:Int) 5=(Q2:Int):=by omega
 have hmn:=fun w=>min2_num (P:=Tryz.prog) .i64 #[3,3] 3 _ _ _ hmin w
 have hqs:(Q2:Int)-2=(q:Int):=by omega
 have hqw:IntKind.i64.wrap (q:Int)=(q:Int):=Go.IntWalk.i64_in _ (by omega)
 have hqi:(q:Int)<4:=by omega
 rw [hq] at hR
 obtain ⟨TB,hTB⟩:∃ x,440+q*64=x:=⟨_,rfl⟩
 rw [hTB] at hR
 have PL:=hid (fun (j:Nat) (h1:1≤j) (h2:j<2 ^ 6)=>plm k (i:=TB+j) (by omega) (by omega))
 obtain ⟨⟨t,s1⟩,ht⟩:∃ x,treeAt outC TB 6 0 s=x:=⟨_,rfl⟩
 rw [ht] at hR
 have htl:t<64:=by
  have:=treeGo_lt outC TB 0 6 1 s
  have e:t=(treeGo outC TB 0 6 1 s).1-2 ^ 6:=by unfold treeAt at ht;exact (congrArg Prod.fst ht).symm
  omega
 dsimp only at hR
 have HT:=hid ht
 have HRR:=hid hR
 have AT:=hid h
 have ATD:=hid (h.later (DC.keep db rb) ((Frm.refl _ w).drew))
 clear h hR ht hmin hq hQ2
 go_enter Tryz.func111,Tryz.ntmps111
 go_upto_region 1 with fail
 go_cut [9] from 12 (fun v wx=>v=.int .i64 t∧LzAt (DC db rb) (DO db rb) T wx k st rep s1∧Frm (Wr (DO db rb) k) w wx)
 case first =>
  go_region_with (first
   | (go_at_call 135;refine (slot_zero _).mono ?_;rintro e w2 ⟨rfl,rfl⟩)
   | (go_at_call 134;refine (tree_num db rb T k st rep _ _ k.sb TB TB 6 _ _ _ _ _ ATD.out (by omega) rfl (by omega) (Nat.le_refl _) PL.out HT.out).mono ?_;rintro e w2 ⟨rfl,h2,f2⟩))
  all_goals
   have H2:=hid h2
   have F2:=hid (((Frm.refl _ w).drew).trans f2)
   clear h2 f2
   go_wp2
   go_meet
   case rel=>exact ⟨rfl,H2.out,F2.out⟩
 case rest =>
 obtain ⟨rfl,h2,f2⟩:=hcut
 have H2:=hid h2
 have F2:=hid f2
 clear h2 f2 AT ATD
 by_cases ht4:t<4
 ·have hR:=HRR.out
  rw [if_pos ht4] at hR
  subst hR
  have htw:IntKind.u32.wrap (t:Int)=(t:Int):=Go.IntWalk.u32_in _ (by omega)
  clear HRR
  go_wp2
  go_ret
  exact ⟨rfl,H2.out,F2.out⟩
 have hR:=HRR.out
 rw [if_neg ht4] at hR
 clear HRR
 obtain ⟨K,P,bs,hK,hP,hbs,hPi,hK30,hb32,hbi⟩:=slot_nums (t:=t) (by omega) htl
 rw [hK,hP,hbs] at hR
 obtain ⟨K1,hK1⟩:∃ K1,t / 2=K1:=⟨_,rfl⟩
 have hk1:(t:Int) / 2=(K1:Int):=by omega
 have hk2:(K1:Int)-1=(K:Int):=by omega
 obtain ⟨b1,hb1⟩:∃ b1,t % 2=b1:=⟨_,rfl⟩
 have hand:bits .and .i64 (t:Int) 1=(b1:Int):=by
  have:=and_i64 (a:=t) (b:=1) (by omega) (by omega)
  rw [nat_mask1,hb1] at this
  exact this
 obtain ⟨c1,hc1⟩:∃ c1,2+b1=c1:=⟨_,rfl⟩
 have hc2:(2:Int)+(b1:Int)=(c1:Int):=by omega
 have hcb:(c1:Int)*(P:Int)=(bs:Int):=by rw [← hbi,hb1,hc2]
 have hwc:IntKind.u32.wrap (c1:Int)=(c1:Int):=Go.IntWalk.u32_in _ (by omega)
 have hwb:IntKind.u32.wrap (bs:Int)=(bs:Int):=Go.IntWalk.u32_in _ (by omega)
 have hKu:IntKind.u64.wrap (K:Int)=(K:Int):=Go.IntWalk.u64_in _ (by omega)
 have hKm:min K 64=K:=by omega
 have hb1b:b1≤1:=by omega
 have hc1b:c1≤3:=by omega
 by_cases ht14:t<14
 ·rw [if_pos ht14] at hR
  obtain ⟨l1,l2,l3⟩:=slot_low (by omega) ht14 hK hP hbs
  obtain ⟨off,hoff⟩:∃ off,bs-t=off:=⟨_,rfl⟩
  have hoi:(bs:Int)-(t:Int)=(off:Int):=by omega
  have hKp:2 ^ K=P:=hP
  have HRR:=hid hR
  have HP:=hid hP
  have hti:(t:Int)<14:=by omega
  have hPp:1≤P:=by rw [← hP];exact Nat.one_le_two_pow
  have hsl:=fun w=>slice_places k.sb 696 off (by omega) w
  have hoff2:696+bs-t=696+off:=by omega
  rw [hoff2] at HRR
  obtain ⟨O,hO⟩:∃ O,696+off=O:=⟨_,rfl⟩
  rw [hO] at HRR hsl
  have PL2:=hid (fun (j:Nat) (h1:1≤j) (h2:j<2 ^ K)=>plm k (i:=O+j) (by omega) (by rw [hP] at h2;omega))
  obtain ⟨⟨u,s2⟩,hu⟩:∃ x,backAt outC O K 0 s1=x:=⟨_,rfl⟩
  have hul:u<P:=by have:=backAt_lt outC O K 0 s1;rw [hu,hP] at this;exact this
  have HU:=hid hu
  have hlen:2 ^ K≤128-off:=by rw [hP];omega
  have HLEN:=hid hlen
  obtain ⟨N9,hN9⟩:∃ N9,128-off=N9:=⟨_,rfl⟩
  rw [hN9] at hsl HLEN
  clear hR hbs hK hK1 hb1 hc1 hbi hP hKp hoff hoff2 hO hlen hu hN9
  go_wp2_with fail
  refine (back_num db rb T k st rep _ _ k.sb O O K _ _ _ _ _ H2.out (by omega) rfl HLEN.out (Nat.le_refl _) PL2.out HU.out).mono ?_;rintro e w4 ⟨rfl,h4,f4⟩
  have H4:=hid h4
  have F4:=hid (F2.out.trans f4)
  have hR:=HRR.out
  rw [HU.out] at hR
  clear h4 f4 HRR
  go_wp2
  go_ret
  rw [← hR]
  refine ⟨ret_u32 ?_,H4.out,F4.out⟩
  show _=((bs+u:Nat):Int)
  omega
 rw [if_neg ht14] at hR
 obtain ⟨K4,hK4⟩:∃ K4,K-4=K4:=⟨_,rfl⟩
 have hk4:(K:Int)-4=(K4:Int):=by omega
 rw [hK4] at hR
 obtain ⟨⟨v,d2⟩,hv⟩:∃ x,outC.dir s1.d 0 K4=x:=⟨_,rfl⟩
 rw [hv] at hR
 dsimp only at hR
 obtain ⟨⟨u,s3⟩,hu⟩:∃ x,backAt outC 824 4 0 ⟨d2,s1.pr⟩=x:=⟨_,rfl⟩
 rw [hu] at hR
 have hul:u<16:=by have:=backAt_lt outC 824 4 0 ⟨d2,s1.pr⟩;rw [hu] at this;exact this
 have PL2:=hid (fun (j:Nat) (h1:1≤j) (h2:j<2 ^ 4)=>plm k (i:=824+j) (by omega) (by omega))
 have HRR:=hid hR
 have HV:=hid hv
 have HU:=hid hu
 have hti:¬ ((t:Int)<14):=by omega
 have hmd:=meth_dir (outV db)
 have hK32:K4≤32:=by omega
 have h824:2 ^ 4≤16:=by omega
 clear hR hbs hK hK1 hb1 hc1 hbi hP hK4 hv hu
 go_wp2_with fail
 refine (lz_dir db rb T k st rep s1 _ _ K4 _ H2.out rfl hK32 v d2 HV.out).mono ?_;rintro e w3 ⟨rfl,h3,f3⟩
 have H3:=hid h3
 have F3:=hid (F2.out.trans f3)
 clear h3 f3
 go_wp2_with fail
 refine (back_num db rb T k st rep _ _ k.sb 824 824 4 _ _ _ _ _ H3.out (by omega) rfl h824 (Nat.le_refl _) PL2.out HU.out).mono ?_;rintro e w4 ⟨rfl,h4,f4⟩
 have H4:=hid h4
 have F4:=hid (F3.out.trans f4)
 have hR:=HRR.out
 clear h4 f4 HRR
 go_wp2
 go_ret
 rw [← hR]
 refine ⟨ret_u32 ?_,H4.out,F4.out⟩
 show _=(((bs+v*16+u) % 4294967296:Nat):Int)
 omega
end Go.Proofs.YtffehfpbdcokbaaGreat
