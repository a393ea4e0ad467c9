import Derived.Laws.CopyOwn
import Derived.Test.YtffehfpbdcokbaaGreatBu2
set_option linter.unusedVariables false
set_option linter.unusedSimpArgs false
namespace Go.Proofs.YtffehfpbdcokbaaGreat
open Lib (hid)
open Go.RowKit Rng Lz
def shiftN (rep:Nat→Nat) (n:Nat):Nat→Nat:=fun j=>if 1≤j∧j≤n then rep (j-1) else rep j
theorem mcells_row (k:LK) (st:Nat) (rep:Nat→Nat) (pr:Pr) (n:Nat) (hn:n≤3) :
 ((mcells k st rep pr).toList.take 5++(List.range n).map (fun j=>Value.int .u32 (rep j:Int))++(mcells k st rep pr).toList.drop (5+n)).toArray=mcells k st (shiftN rep n) pr:=by
 have hsz:(mcells k st rep pr).size=1869:=by simp [mcells]
 have hg:∀ {j},j<1869→(mcells k st rep pr).toList[j]?=some (mcell k st rep pr j):=fun {j} h=>by rw [Array.getElem?_toList];exact mcells_get k st rep pr h
 have key:∀ j,j<1869→((mcells k st rep pr).toList.take 5++(List.range n).map (fun j=>Value.int .u32 (rep j:Int))++(mcells k st rep pr).toList.drop (5+n))[j]?=some (mcell k st (shiftN rep n) pr j):=by
  intro j hj
  have l1:((mcells k st rep pr).toList.take 5).length=5:=by rw [List.length_take,Array.length_toList,hsz];rfl
  have l2:((List.range n).map (fun j=>Value.int .u32 (rep j:Int))).length=n:=by simp
  by_cases h5:j<5
  ·rw [List.append_assoc,List.getElem?_append_left (by rw [l1];exact h5),List.getElem?_take,if_pos h5,hg hj]
   unfold mcell shiftN
   by_cases h4:j=4
   ·subst h4;rfl
   have:¬ (1≤j-4∧j-4≤n):=by omega
   simp only [if_neg this]
  by_cases h5n:j<5+n
  ·rw [List.append_assoc,List.getElem?_append_right (by rw [l1];omega),l1,List.getElem?_append_left (by rw [l2];omega),List.getElem?_map,List.getElem?_range (by omega)]
   unfold mcell shiftN
   have a1:¬ j=0:=by omega
   have a2:¬ j=1:=by omega
   have a3:¬ j=2:=by omega
   have a4:¬ j=3:=by omega
   have a5:j<8:=by omega
   have a6:1≤j-4∧j-4≤n:=by omega
   rw [if_neg a1,if_neg a2,if_neg a3,if_neg a4,if_pos a5,if_pos a6]
   show some (Value.int .u32 (rep (j-5):Int))=some (Value.int .u32 (rep (j-4-1):Int))
   rw [show j-4-1=j-5 by omega]
  rw [List.append_assoc,List.getElem?_append_right (by rw [l1];omega),l1,List.getElem?_append_right (by rw [l2];omega),l2,List.getElem?_drop,show 5+n+(j-5-n)=j by omega,hg hj]
  unfold mcell shiftN
  have:¬ (1≤j-4∧j-4≤n):=by omega
  simp only [if_neg this]
 apply Array.ext
 ·simp only [List.size_toArray,List.length_append,List.length_take,List.length_drop,List.length_map,List.length_range,Array.length_toList,hsz]
  simp only [mcells,Array.size_ofFn];omega
 intro j h1 h2
 have hj:j<1869:=by simpa [mcells] using h2
 have e1:=key j hj
 have e2:=mcells_get k st (shiftN rep n) pr hj
 rw [Array.getElem?_eq_getElem h2] at e2
 rw [← List.getElem?_toArray,Array.getElem?_eq_getElem h1] at e1
 exact Option.some.inj (e1.trans e2.symm)
theorem Tryz.size_u32:(Tryz.prog.info? 88).map (·.size)=some 1:=by kernel_rfl
section
variable {σ : Type} {CA : World → σ → Prop} {own : Nat → Prop} {T : TypeId} {w w' : World} {k : LK} {st : Nat} {rep : Nat → Nat} {s : CP σ}
theorem rep_copy (hk:KeepOK CA own) (h:LzAt CA own T w k st rep s) (n dc sc ty:Nat) (hn:n≤3) :
 ∃ w',(Builtin.copy_ #[212,212] ty #[.slice (some ⟨k.sb,5,none⟩) n dc,.slice (some ⟨k.sb,4,none⟩) n sc]).run Tryz.prog w=.ok (.int .i64 n) w'∧LzAt CA own T w' k st (shiftN rep n) s∧Frm (Wr own k) w w':=by
 have hh:w.heap[k.sb]?=some (.cells (mcells k st rep s.pr) T (0,0)):=h.m
 have hsz:(mcells k st rep s.pr).size=1869:=by simp [mcells]
 have hrun:=run_copy_row (P:=Tryz.prog) w 212 212 ty 88 k.sb 5 n dc ⟨k.sb,4,none⟩ n sc (mcells k st rep s.pr) T ((List.range n).map (fun j=>Value.int .u32 (rep j:Int))) Tryz.underlying212 Tryz.size_u32 hh
  (by simp) (by
    intro j v hj
    rw [List.getElem?_map] at hj
    by_cases hjn:j<n
    ·rw [List.getElem?_range hjn] at hj
     simp only [Option.map_some,Option.some.injEq] at hj
     subst hj
     rw [Opn.add_at]
     rw [h.m.cell,mcells_get (i:=4+j) _ _ _ _ (by omega)]
     unfold mcell
     rw [if_neg (by omega),if_neg (by omega),if_neg (by omega),if_neg (by omega),if_pos (by omega),Nat.add_sub_cancel_left]
    ·rw [List.getElem?_eq_none (by simp;omega)] at hj;cases hj) (by rw [hsz];simp;omega) (by
    intro v hv
    obtain ⟨j,_,rfl⟩:=List.mem_map.1 hv
    rfl)
 have hl:((List.range n).map (fun j=>Value.int .u32 (rep j:Int))).length=n:=by simp
 rw [hl] at hrun
 rw [mcells_row k st rep s.pr n hn] at hrun
 obtain ⟨C,hC⟩:∃ C,mcells k st (shiftN rep n) s.pr=C:=⟨_,rfl⟩
 rw [hC] at hrun
 have hm:=setRow_heap w k.sb _ C T (0,0) hh
 clear hsz hl
 have hf:Frm (· = k.sb) w (w.setRow k.sb C):=⟨rfl,rfl,rfl,by simp,fun q hq hne=>setRow_other w k.sb q _ hne⟩
 refine ⟨_,hrun,⟨hk _ _ _ _ h.c hf (fun q hq e=>h.ne.1 (e▸hq)),?_,h.l.frm hf (fun e=>h.ne.2.2 e.symm),h.fit,h.ne⟩,hf.mono fun q _ e=>.inr (.inl e)⟩
 rw [hC]
 exact hm
end
def takeS (rep:Nat→Nat) (n:Nat):Nat→Nat:=fun j=>if j=0 then rep n else shiftN rep n j
set_option maxRecDepth 100000 in
set_option maxHeartbeats 1000000 in
theorem take_any {σ:Type} {CA:World→σ→Prop} {own:Nat→Prop} (hk:KeepOK CA own) (T:TypeId) (k:LK) (st n:Nat) (rep:Nat→Nat) (s:CP σ) (w:World) (h:LzAt CA own T w k st rep s) (hn:1≤n∧n≤3) :
 Calls Tryz.prog 112 #[.pointer (some ⟨k.sb,0,none⟩),.int .i64 n] w fun e w'=>e=.returned (.tuple #[])∧LzAt CA own T w' k st (takeS rep n) s∧Frm (Wr own k) w w':=by
 obtain ⟨n1,n3⟩:=hn
 have cn:w.cell? ⟨k.sb,4+n,none⟩=some (.int .u32 (rep n)):=by
  rw [(h.hdr (i:=4+n) (by omega)).1]
  unfold mcell
  rw [if_neg (by omega),if_neg (by omega),if_neg (by omega),if_neg (by omega),if_pos (by omega),Nat.add_sub_cancel_left]
 have AT:=hid h
 have hni:(n:Int)<4:=by omega
 obtain ⟨d,hd⟩:∃ d,rep n=d:=⟨_,rfl⟩
 rw [hd] at cn
 have HD:=hid hd
 clear h hd
 have h123:n=1∨n=2∨n=3:=by omega
 rcases h123 with rfl | rfl | rfl
 ·go_enter Tryz.func112,Tryz.ntmps112
  go_wp2
  refine QTail.wp_region_qtail_lit 11 (by kernel_rfl) (by kernel_rfl) ?_
  simp only [List.take_succ_cons,List.take_zero,List.drop_succ_cons,List.drop_zero]
  repeat (go_big_quiet_step (fail))
  refine wpQuiet_nil ?_
  rintro w' ⟨nr,rfl⟩
  obtain ⟨w5,hrun,h5,f5⟩:=rep_copy hk (AT.out.later hk ((Frm.refl _ w).drewN nr)) 1 3 4 3 (by omega)
  have z:=(h5.hdr (i:=4) (by omega))
  unfold mcell at z
  have z1:=z.1
  have z2:=z.2
  simp only [Nat.reduceEqDiff,if_false,Nat.reduceLT,if_true,Nat.reduceSub] at z1
  have h6:=h5.putRep 0 d (by omega) hk
  have H6:=hid h6
  have F5:=hid (((Frm.refl _ w).drewN nr).trans f5)
  clear h5 f5 h6 z
  go_wp2
  go_end0
  rw [← HD.out] at H6 ⊢
  exact ⟨rfl,H6.out.1,F5.out.trans H6.out.2⟩
 ·go_enter Tryz.func112,Tryz.ntmps112
  go_wp2
  refine QTail.wp_region_qtail_lit 11 (by kernel_rfl) (by kernel_rfl) ?_
  simp only [List.take_succ_cons,List.take_zero,List.drop_succ_cons,List.drop_zero]
  repeat (go_big_quiet_step (fail))
  refine wpQuiet_nil ?_
  rintro w' ⟨nr,rfl⟩
  obtain ⟨w5,hrun,h5,f5⟩:=rep_copy hk (AT.out.later hk ((Frm.refl _ w).drewN nr)) 2 3 4 3 (by omega)
  have z:=(h5.hdr (i:=4) (by omega))
  unfold mcell at z
  have z1:=z.1
  have z2:=z.2
  simp only [Nat.reduceEqDiff,if_false,Nat.reduceLT,if_true,Nat.reduceSub] at z1
  have h6:=h5.putRep 0 d (by omega) hk
  have H6:=hid h6
  have F5:=hid (((Frm.refl _ w).drewN nr).trans f5)
  clear h5 f5 h6 z
  go_wp2
  go_end0
  rw [← HD.out] at H6 ⊢
  exact ⟨rfl,H6.out.1,F5.out.trans H6.out.2⟩
 go_enter Tryz.func112,Tryz.ntmps112
 go_wp2
 refine QTail.wp_region_qtail_lit 11 (by kernel_rfl) (by kernel_rfl) ?_
 simp only [List.take_succ_cons,List.take_zero,List.drop_succ_cons,List.drop_zero]
 repeat (go_big_quiet_step (fail))
 refine wpQuiet_nil ?_
 rintro w' ⟨nr,rfl⟩
 obtain ⟨w5,hrun,h5,f5⟩:=rep_copy hk (AT.out.later hk ((Frm.refl _ w).drewN nr)) 3 3 4 3 (by omega)
 have z:=(h5.hdr (i:=4) (by omega))
 unfold mcell at z
 have z1:=z.1
 have z2:=z.2
 simp only [Nat.reduceEqDiff,if_false,Nat.reduceLT,if_true,Nat.reduceSub] at z1
 have h6:=h5.putRep 0 d (by omega) hk
 have H6:=hid h6
 have F5:=hid (((Frm.refl _ w).drewN nr).trans f5)
 clear h5 f5 h6 z
 go_wp2
 go_end0
 rw [← HD.out] at H6 ⊢
 exact ⟨rfl,H6.out.1,F5.out.trans H6.out.2⟩
end Go.Proofs.YtffehfpbdcokbaaGreat
namespace Go.Proofs.YtffehfpbdcokbaaGreat.Lz
open Go.RowKit Rng
def litAt {σ:Type} (co:Cod σ) (lc lp st total ahead far x:Nat) (s:CP σ):Nat×CP σ :=
 let base:=4096+768*(total % 2 ^ lp*2 ^ lc+ahead / 2 ^ (8-lc))
 let r:=if 7≤st then farGo co base x far 8 1 s else treeGo co base x 8 1 s
 (r.1-256,r.2)
end Go.Proofs.YtffehfpbdcokbaaGreat.Lz
namespace Go.Proofs.YtffehfpbdcokbaaGreat
open Lib (hid)
open Go.RowKit Rng Lz
theorem and_mask {t e P:Nat} (ht:t<4611686018427387904) (hP:2 ^ e=P) (he:P≤256):bits .and .i64 (t:Int) ((P:Int)-1)=((t % P:Nat):Int):=by
 have hp:1≤P:=by rw [← hP];exact Nat.one_le_two_pow
 have e1:(P:Int)-1=((P-1:Nat):Int):=by omega
 rw [e1,and_i64 ht (by omega),← hP,Nat.and_two_pow_sub_one_eq_mod]
set_option maxRecDepth 100000 in
set_option maxHeartbeats 1000000 in
theorem place_any {σ:Type} {CA:World→σ→Prop} {own:Nat→Prop} (T:TypeId) (k:LK) (st total:Nat) (rep:Nat→Nat) (s:CP σ) (w:World) (h:LzAt CA own T w k st rep s) (hk:k.Ok) (ht:total<4611686018427387904) :
 Calls Tryz.prog 105 #[.pointer (some ⟨k.sb,0,none⟩),.int .i64 total] w fun e w'=>e=.returned (.int .i64 ((total % 2 ^ k.pb:Nat):Int))∧w=w':=by
 have c2:w.cell? ⟨k.sb,2,none⟩=some (.int .i64 k.pb):=(h.hdr (i:=2) (by omega)).1
 have hpb:=hk.b
 obtain ⟨e,he⟩:∃ e,k.pb=e:=⟨_,rfl⟩
 rw [he] at c2 hpb ⊢
 have hP1:2 ^ e≤2 ^ 4:=Nat.pow_le_pow_right (by omega) hpb
 obtain ⟨P,hP⟩:∃ P,2 ^ e=P:=⟨_,rfl⟩
 have hPi:(2:Int) ^ e=(P:Int):=by rw [← hP];simp
 have hm:=and_mask ht hP (by omega)
 rw [hP] at hP1 ⊢
 obtain ⟨R,hR⟩:∃ R,total % P=R:=⟨_,rfl⟩
 rw [hR] at hm ⊢
 clear h hk he hP hR
 go_enter Tryz.func105,Tryz.ntmps105
 go_wp2
 go_ret
 exact ⟨rfl,rfl⟩
theorem slice_lits (b L f g:Nat) (hf:f+768≤L) (hg:g=f+768) (w:World) :
 (Instr.sliceAt 132 (.slice (some ⟨b,0,none⟩) L L) (some (.int .i64 (f:Int))) (some (.int .i64 (g:Int))) none).run Tryz.prog w=.ok (.slice (some ⟨b,f,none⟩) 768 (L-f)) w:=by
 have h:¬ L=f:=by omega
 have h2:g-f=768:=by omega
 have h3:g≤L:=by omega
 have h4:f≤g:=by omega
 simp [go_sem,h,h2,h3,h4]
set_option maxRecDepth 100000 in
set_option maxHeartbeats 1000000 in
theorem lit_p (db rb:Nat) (T:TypeId) (k:LK) (st total ahead far:Nat) (rep:Nat→Nat) (s:CP Dec) (w:World) (h:LzAt (DC db rb) (DO db rb) T w k st rep s) (hk:k.Ok) (ht:total<4611686018427387904) (ha:ahead<256) (hfa:far<256) :
 Calls Tryz.prog 106 #[.pointer (some ⟨k.sb,0,none⟩),.iface 244 (outV db),.int .i64 0,.int .i64 total,.int .u8 ahead,.int .u8 far] w fun e w'=>e=.returned (.int .u8 ((litAt outC k.lc k.lp st total ahead far 0 s).1:Nat)) ∧
  LzAt (DC db rb) (DO db rb) T w' k st rep (litAt outC k.lc k.lp st total ahead far 0 s).2∧Frm (Wr (DO db rb) k) w w':=by
 have c0:w.cell? ⟨k.sb,0,none⟩=some (.int .i64 k.lc):=(h.hdr (i:=0) (by omega)).1
 have c1:w.cell? ⟨k.sb,1,none⟩=some (.int .i64 k.lp):=(h.hdr (i:=1) (by omega)).1
 have c3:w.cell? ⟨k.sb,3,none⟩=some (.int .i64 st):=(h.hdr (i:=3) (by omega)).1
 have c9:w.cell? ⟨k.sb,1868,none⟩=some (.slice (some ⟨k.lb,0,none⟩) k.L k.L):=by rw [h.m.cell,mcells_get _ _ _ _ (by omega)];rfl
 have hok:=hk.a
 obtain ⟨R,hR⟩:∃ R,litAt outC k.lc k.lp st total ahead far 0 s=R:=⟨_,rfl⟩
 rw [hR]
 unfold litAt at hR
 have hLL:k.L=768*(2 ^ k.lp*2 ^ k.lc):=by unfold LK.L;rw [Nat.pow_add,Nat.mul_comm (2 ^ k.lc)]
 have PLL:∀ j,j<k.L→Place k (4096+j)∧plA k (4096+j)=(k.lb,j):=fun j hj=>pll k hj
 obtain ⟨lc,hlc⟩:∃ e,k.lc=e:=⟨_,rfl⟩
 obtain ⟨lp,hlp⟩:∃ e,k.lp=e:=⟨_,rfl⟩
 obtain ⟨L,hL⟩:∃ e,k.L=e:=⟨_,rfl⟩
 rw [hL] at hLL PLL c9
 rw [hlc] at hLL hR c0 hok
 rw [hlp] at hLL hR c1 hok
 have hP1:2 ^ lp≤2 ^ 4:=Nat.pow_le_pow_right (by omega) (by omega)
 have hP2:2 ^ lc≤2 ^ 4:=Nat.pow_le_pow_right (by omega) (by omega)
 obtain ⟨E,hE⟩:∃ E,8-lc=E:=⟨_,rfl⟩
 have hPE:2 ^ E*2 ^ lc=256:=by rw [← hE,← Nat.pow_add,show 8-lc+lc=8 by omega]
 obtain ⟨P1,hp1⟩:∃ P,2 ^ lp=P:=⟨_,rfl⟩
 obtain ⟨P2,hp2⟩:∃ P,2 ^ lc=P:=⟨_,rfl⟩
 obtain ⟨P3,hp3⟩:∃ P,2 ^ E=P:=⟨_,rfl⟩
 have hi1:(2:Int) ^ lp=(P1:Int):=by rw [← hp1];simp
 have hi2:(2:Int) ^ lc=(P2:Int):=by rw [← hp2];simp
 have hi3:(2:Int) ^ E=(P3:Int):=by rw [← hp3];simp
 have hand:=and_mask ht hp1 (by omega)
 rw [hE,hp1,hp2,hp3] at hR
 rw [hp1,hp2] at hLL
 rw [hp1] at hP1
 rw [hp2] at hP2
 rw [hp2,hp3] at hPE
 have hP1p:1≤P1:=by rw [← hp1];exact Nat.one_le_two_pow
 have hP2p:1≤P2:=by rw [← hp2];exact Nat.one_le_two_pow
 have hP3p:1≤P3:=by rw [← hp3];exact Nat.one_le_two_pow
 have ha1:total % P1<P1:=Nat.mod_lt _ (by omega)
 obtain ⟨A1,hA1⟩:∃ A,total % P1=A:=⟨_,rfl⟩
 rw [hA1] at hand hR ha1
 have ha3:ahead / P3<P2:=by rw [Nat.div_lt_iff_lt_mul (by omega),Nat.mul_comm];omega
 have hi4:(ahead:Int) / (P3:Int)=((ahead / P3:Nat):Int):=(Int.natCast_ediv ahead P3).symm
 obtain ⟨A3,hA3⟩:∃ A,ahead / P3=A:=⟨_,rfl⟩
 rw [hA3] at hR ha3 hi4
 have hA2:A1*P2+P2≤P1*P2:=by
  have:=Nat.mul_le_mul_right P2 (show A1+1≤P1 by omega)
  rw [Nat.add_mul,Nat.one_mul] at this
  exact this
 have hPP:P1*P2≤16*16:=Nat.mul_le_mul hP1 hP2
 have hi5:(A1:Int)*(P2:Int)=((A1*P2:Nat):Int):=by simp
 obtain ⟨A2,hA2e⟩:∃ A,A1*P2=A:=⟨_,rfl⟩
 rw [hA2e] at hR hA2 hi5
 obtain ⟨PP,hPPe⟩:∃ A,P1*P2=A:=⟨_,rfl⟩
 rw [hPPe] at hA2 hPP hLL
 obtain ⟨SET,hSET⟩:∃ A,A2+A3=A:=⟨_,rfl⟩
 rw [hSET] at hR
 have hset:(A2:Int)+(A3:Int)=(SET:Int):=by omega
 have hE8:(8:Int)-(lc:Int)=(E:Int):=by omega
 have hE64:min E 64=E:=by omega
 have hlc64:min lc 64=lc:=by omega
 have hlp64:min lp 64=lp:=by omega
 have hEu:IntKind.u64.wrap (E:Int)=(E:Int):=Go.IntWalk.u64_in _ (by omega)
 have hlcu:IntKind.u64.wrap (lc:Int)=(lc:Int):=Go.IntWalk.u64_in _ (by omega)
 have hlpu:IntKind.u64.wrap (lp:Int)=(lp:Int):=Go.IntWalk.u64_in _ (by omega)
 have hfit:768*SET+768≤L:=by omega
 have hSB:SET<256:=by omega
 obtain ⟨X0,hX0⟩:∃ A,768*SET=A:=⟨_,rfl⟩
 obtain ⟨X1,hX1⟩:∃ A,X0+768=A:=⟨_,rfl⟩
 have hxi0:(768:Int)*(SET:Int)=(X0:Int):=by omega
 have hxi1:(X0:Int)+768=(X1:Int):=by omega
 rw [hX0] at hR hfit
 have hsl:=fun w=>slice_lits k.lb L X0 X1 hfit hX1.symm w
 have b1:P1≤16:=by omega
 have b2:P2≤16:=by omega
 have b3:P3≤256:=by have:=Nat.mul_le_mul_left P3 hP2p;omega
 have b4:A1≤16:=by omega
 have b5:A2≤256:=by omega
 have b6:A3≤16:=by omega
 have b7:X0≤200000:=by omega
 have b8:X1≤200768:=by omega
 have AT:=hid h
 have HRR:=hid hR
 have HPL:=hid PLL
 have HFIT:=hid hfit
 clear h hk hR PLL hlc hlp hL hLL hp1 hp2 hp3 hP1 hP2 hPE hA1 hA3 hA2e hPPe hSET hE hA2 hPP ha1 ha3 hok hP1p hP2p hP3p hfit hX0 hX1
 go_enter Tryz.func106,Tryz.ntmps106
 go_wp2
 go_quiet (fail)
 go_upto_if 58 with fail
 obtain ⟨RR,hRR⟩:∃ RR,(if 7≤st then farGo outC (4096+X0) 0 far 8 1 s else treeGo outC (4096+X0) 0 8 1 s)=RR:=⟨_,rfl⟩
 rw [hRR] at HRR
 have HQ:=hid hRR
 have ATD:=hid (AT.out.later (DC.keep db rb) ((Frm.refl _ w).drewN nq))
 have FD:=hid ((Frm.refl (Wr (DO db rb) k) w).drewN nq)
 clear hRR hsl hand hi1 hi2 hi3 hi4 hi5 hset hE8 hE64 hlc64 hlp64 hEu hlcu hlpu hxi0 hxi1 b1 b2 b3 b4 b5 b6 b8 c0 c1 c9
 have hno:=nil_out (outV db)
 have hme:=meth_bit (outV db)
 go_cut [15,16] from 19 to 94 (fun nv iv wx=>∃ (r m:Nat) (i:Int) (s':CP Dec),nv=.int .i64 m∧iv=.int .i64 i∧i=(r:Int)-1∧r≤8∧2 ^ (8-r)≤m∧m<2 ^ (8-r+1)∧treeGo outC (4096+X0) 0 r m s'=RR∧LzAt (DC db rb) (DO db rb) T wx k st rep s'∧Frm (Wr (DO db rb) k) w wx)
 case first =>
  by_cases h7:7≤st
  ·have h7i:(7:Int)≤(st:Int):=by omega
   have hRR:=HQ.out
   rw [if_pos h7] at hRR
   have HQ2:=hid hRR
   have h7d:decide (7≤st)=true:=decide_eq_true h7
   clear hRR HQ AT HRR
   go_wp2
   go_step3
   go_wp2
   go_step3
   go_wp2
   have h7e:decide ((7:Int)≤(st:Int))=true:=decide_eq_true h7i
   simp only [h7e]
   clear h7 h7i h7d h7e
   go_loopw [15,16] (fun nv iv wx=>∃ (r m:Nat) (i:Int) (s':CP Dec),nv=.int .i64 m∧iv=.int .i64 i∧i=(r:Int)-1∧r≤8∧2 ^ (8-r)≤m∧m<2 ^ (8-r+1)∧farGo outC (4096+X0) 0 far r m s'=RR∧LzAt (DC db rb) (DO db rb) T wx k st rep s'∧Frm (Wr (DO db rb) k) w wx) (fun _ iv _=>(intOf iv+1).toNat)
   case atStart=>exact ⟨8,1,7,s,rfl,rfl,by omega,by omega,by simp,by simp,HQ2.out,ATD.out,FD.out⟩
   case round =>
   obtain ⟨r,m,i,s',rfl,rfl,hi,hr,hm1,hm2,hgo,hat,hfr⟩:=hrel
   have GO:=hid hgo
   have AT:=hid hat
   have FR:=hid hfr
   clear hgo hat hfr ATD FD HQ2
   cases r with
   | zero =>
    obtain rfl:i = -1:=by omega
    have HM1:=hid hm1
    have HM2:=hid hm2
    clear hi hm1 hm2
    go_wp2
    simp only [Exit.noGoto_normal]
    go_wp2
    go_meet
    case rel=>exact ⟨0,m,-1,s',rfl,rfl,by omega,by omega,HM1.out,HM2.out,GO.out,AT.out,FR.out⟩
   | succ q =>
    obtain rfl:i=(q:Int):=by omega
    clear hi
    have hpow:m<2 ^ 8:=Nat.lt_of_lt_of_le hm2 (Nat.pow_le_pow_right (by omega) (by omega))
    have hmb:m<256:=by omega
    have HM1:=hid hm1
    have HM2:=hid hm2
    have hq64:min q 64=q:=by omega
    have hqu:IntKind.u64.wrap (q:Int)=(q:Int):=Go.IntWalk.u64_in _ (by omega)
    obtain ⟨Pq,hPq⟩:∃ P,2 ^ q=P:=⟨_,rfl⟩
    have hPi:(2:Int) ^ q=(Pq:Int):=by rw [← hPq];simp
    have hFi:(far:Int) / (Pq:Int)=((far / Pq:Nat):Int):=(Int.natCast_ediv far Pq).symm
    have hFl:far / Pq≤far:=Nat.div_le_self _ _
    obtain ⟨Fq,hFq⟩:∃ F,far / Pq=F:=⟨_,rfl⟩
    rw [hFq] at hFi hFl
    obtain ⟨W,hW⟩:∃ W,Fq % 2=W:=⟨_,rfl⟩
    have hWi:bits .and .i64 (Fq:Int) 1=(W:Int):=by
     have:=and_i64 (a:=Fq) (b:=1) (by omega) (by omega)
     rw [nat_mask1,hW] at this
     exact this
    have hWb:W≤1:=by omega
    have hgo:(if (bitAt outC (4096+X0+(1+W)*256+m) 0 s').1=W then farGo outC (4096+X0) 0 far q (2*m+(bitAt outC (4096+X0+(1+W)*256+m) 0 s').1) (bitAt outC (4096+X0+(1+W)*256+m) 0 s').2
     else treeGo outC (4096+X0) 0 q (2*m+(bitAt outC (4096+X0+(1+W)*256+m) 0 s').1) (bitAt outC (4096+X0+(1+W)*256+m) 0 s').2)=RR:=by
     rw [← GO.out]
     show _=(if (bitAt outC (4096+X0+(1+far / 2 ^ q % 2)*256+m) (0 / 2 ^ q % 2) s').1=far / 2 ^ q % 2 then farGo outC (4096+X0) 0 far q (2*m+(bitAt outC (4096+X0+(1+far / 2 ^ q % 2)*256+m) (0 / 2 ^ q % 2) s').1) (bitAt outC (4096+X0+(1+far / 2 ^ q % 2)*256+m) (0 / 2 ^ q % 2) s').2
      else treeGo outC (4096+X0) 0 q (2*m+(bitAt outC (4096+X0+(1+far / 2 ^ q % 2)*256+m) (0 / 2 ^ q % 2) s').1) (bitAt outC (4096+X0+(1+far / 2 ^ q % 2)*256+m) (0 / 2 ^ q % 2) s').2)
     rw [Nat.zero_div,Nat.zero_mod,hPq,hFq,hW]
    obtain ⟨WW,hWW⟩:∃ x,(1+W)*256=x:=⟨_,rfl⟩
    obtain ⟨V1,hV1⟩:∃ x,1+W=x:=⟨_,rfl⟩
    have hV1i:(1:Int)+(W:Int)=(V1:Int):=by omega
    have hV1b:V1≤2:=by omega
    have hWWi:(V1:Int)*256=(WW:Int):=by omega
    obtain ⟨IX,hIX⟩:∃ x,WW+m=x:=⟨_,rfl⟩
    have hIXi:(WW:Int)+(m:Int)=(IX:Int):=by omega
    have hIXb:IX<768:=by omega
    have hw1:IntKind.i64.wrap (V1:Int)=(V1:Int):=Go.IntWalk.i64_in _ (by omega)
    have hw2:IntKind.i64.wrap (WW:Int)=(WW:Int):=Go.IntWalk.i64_in _ (by omega)
    have hw3:IntKind.i64.wrap (IX:Int)=(IX:Int):=Go.IntWalk.i64_in _ (by omega)
    have hWWb:WW≤512:=by omega
    have HP:=hid (HPL.out (X0+IX) (by have:=HFIT.out;omega))
    have eix:4096+X0+(1+W)*256+m=4096+(X0+IX):=by omega
    rw [eix] at hgo
    have ATD:=hid (AT.out.later (DC.keep db rb) ((Frm.refl _ _).drew))
    have hbl:=bitAt_le outC (4096+(X0+IX)) 0 s'
    obtain ⟨⟨bb,s2⟩,hbb⟩:∃ x,bitAt outC (4096+(X0+IX)) 0 s'=x:=⟨_,rfl⟩
    rw [hbb] at hbl hgo
    dsimp only at hbl hgo
    have hob:=or_bit (m:=m) (b:=bb) (by omega) hbl
    have HBB:=hid hbb
    have hmw:IntKind.i64.wrap ((m:Int)*2)=(m:Int)*2:=Go.IntWalk.i64_in _ (by omega)
    have G2:=hid hgo
    clear hm1 hm2 hpow hbb hgo hPq hFq hW hWW hIX hV1 eix GO
    have hbw:bb=W∨¬ bb=W:=by omega
    rcases hbw with hbw | hbw
    ·have hne:((bb:Int) != (W:Int))=false:=by rw [hbw];simp
     have G3:=hid (show farGo outC (4096+X0) 0 far q (2*m+bb) s2=RR by have:=G2.out;rw [if_pos hbw] at this;exact this)
     clear G2 hbw
     go_wp2
     go_region_with (first
      | (go_at_call 155;refine (lz_bit (obit_any db rb) ATD.out (4096+(X0+IX)) k.lb (X0+IX) 0 _ trivial HP.out.1 HP.out.2).mono ?_;rintro e w2 ⟨rfl,h2,f2⟩;rw [HBB.out] at h2 ⊢))
     all_goals
      have H2:=hid h2
      have F2:=hid ((FR.out.drew).trans f2)
      clear h2 f2
      go_wp2
      have e1:2 ^ (8-q)≤2*m+bb:=by
       have:=HM1.out
       rw [show 8-q=8-(q+1)+1 by omega,Nat.pow_succ];omega
      have e2:2*m+bb<2 ^ (8-q+1):=by
       have:=HM2.out
       rw [show 8-q+1=8-(q+1)+1+1 by omega,Nat.pow_succ];omega
      exact ⟨⟨q,2*m+bb,(q:Int)-1,_,by go_num,by go_num,rfl,by omega,e1,e2,G3.out,H2.out,F2.out⟩,by simp [intOf]⟩
    have hne:((bb:Int) != (W:Int))=true:=by rw [bne_iff_ne];omega
    have G3:=hid (show treeGo outC (4096+X0) 0 q (2*m+bb) s2=RR by have:=G2.out;rw [if_neg hbw] at this;exact this)
    clear G2 hbw
    go_wp2
    go_region_with (first
     | (go_at_call 155;refine (lz_bit (obit_any db rb) ATD.out (4096+(X0+IX)) k.lb (X0+IX) 0 _ trivial HP.out.1 HP.out.2).mono ?_;rintro e w2 ⟨rfl,h2,f2⟩;rw [HBB.out] at h2 ⊢))
    all_goals
     have H2:=hid h2
     have F2:=hid ((FR.out.drew).trans f2)
     clear h2 f2
     go_wp2
     simp only [Exit.noGoto_normal]
     go_wp2
     go_meet
     case rel =>
     refine ⟨q,2*m+bb,(q:Int)-1,_,by go_num,by go_num,rfl,by omega,?_,?_,G3.out,H2.out,F2.out⟩
     ·have:=HM1.out
      rw [show 8-q=8-(q+1)+1 by omega,Nat.pow_succ];omega
     have:=HM2.out
     rw [show 8-q+1=8-(q+1)+1+1 by omega,Nat.pow_succ];omega
  have h7i:(st:Int)<7:=by omega
  have h7d:decide (7≤st)=false:=decide_eq_false h7
  have hRR:=HQ.out
  rw [if_neg h7] at hRR
  have HQ2:=hid hRR
  clear hRR HQ AT HRR
  go_wp2
  go_meet
  case rel=>exact ⟨8,1,7,s,rfl,rfl,by omega,by omega,by simp,by simp,HQ2.out,ATD.out,FD.out⟩
 case rest =>
 obtain ⟨r0,m0,i0,s0,rfl,rfl,hi0,hr0,hm01,hm02,hgo0,hat0,hfr0⟩:=hcut
 have GO0:=hid hgo0
 have AT0:=hid hat0
 have FR0:=hid hfr0
 clear hgo0 hat0 hfr0 AT ATD FD HQ
 have HI0:=hid hi0
 clear hi0
 go_wp2
 go_loopw [15,16] (fun nv iv wx=>∃ (r m:Nat) (i:Int) (s':CP Dec),nv=.int .i64 m∧iv=.int .i64 i∧i=(r:Int)-1∧r≤8∧2 ^ (8-r)≤m∧m<2 ^ (8-r+1)∧treeGo outC (4096+X0) 0 r m s'=RR∧LzAt (DC db rb) (DO db rb) T wx k st rep s'∧Frm (Wr (DO db rb) k) w wx) (fun _ iv _=>(intOf iv+1).toNat)
 case atStart=>exact ⟨r0,m0,i0,s0,rfl,rfl,HI0.out,hr0,hm01,hm02,GO0.out,AT0.out,FR0.out⟩
 case round =>
 obtain ⟨r,m,i,s',rfl,rfl,hi,hr,hm1,hm2,hgo,hat,hfr⟩:=hrel
 have GO:=hid hgo
 have AT:=hid hat
 have FR:=hid hfr
 clear hgo hat hfr GO0 AT0 FR0 HI0 hm01 hm02 hr0
 cases r with
 | zero =>
  obtain rfl:i = -1:=by omega
  clear hi
  have GO2:(m,s')=RR:=GO.out
  have hma:256≤m:=by simpa using hm1
  have hmb:m<512:=by simpa using hm2
  clear hm1 hm2 hr
  go_wp2
  go_ret
  rw [← HRR.out,← GO2]
  refine ⟨ret_u32 ?_,AT.out,FR.out⟩
  show _=((m-256:Nat):Int)
  omega
 | succ q =>
  obtain rfl:i=(q:Int):=by omega
  clear hi
  have hpow:m<2 ^ 8:=Nat.lt_of_lt_of_le hm2 (Nat.pow_le_pow_right (by omega) (by omega))
  have hml:m<768:=by omega
  have hmb:m<256:=by omega
  have hpos:1≤m:=Nat.le_trans (Nat.one_le_two_pow) hm1
  have HP:=hid (HPL.out (X0+m) (by have:=HFIT.out;omega))
  have HM1:=hid hm1
  have HM2:=hid hm2
  have ATD:=hid (AT.out.later (DC.keep db rb) ((Frm.refl _ _).drew))
  have hbl:=bitAt_le outC (4096+X0+m) 0 s'
  obtain ⟨bb,hbb⟩:∃ bb,(bitAt outC (4096+X0+m) 0 s').1=bb:=⟨_,rfl⟩
  rw [hbb] at hbl
  have hob:=or_bit (m:=m) (b:=bb) (by omega) hbl
  have HBB:=hid hbb
  have hmw:IntKind.i64.wrap ((m:Int)*2)=(m:Int)*2:=Go.IntWalk.i64_in _ (by omega)
  clear hm1 hm2 hpow hbb
  go_wp2
  go_region_with (first
   | (go_at_call 155;refine (lz_bit (obit_any db rb) ATD.out (4096+X0+m) k.lb (X0+m) 0 _ trivial (by rw [Nat.add_assoc];exact HP.out.1) (by rw [Nat.add_assoc];exact HP.out.2)).mono ?_;rintro e w2 ⟨rfl,h2,f2⟩;rw [HBB.out]))
  all_goals
   have H2:=hid h2
   have F2:=hid ((FR.out.drew).trans f2)
   clear h2 f2
   go_wp2
   refine ⟨⟨q,2*m+bb,(q:Int)-1,_,rfl,by go_num,rfl,by omega,?_,?_,?_,H2.out,F2.out⟩,by simp [intOf]⟩
   ·have:=HM1.out
    rw [show 8-q=8-(q+1)+1 by omega,Nat.pow_succ];omega
   ·have:=HM2.out
    rw [show 8-q+1=8-(q+1)+1+1 by omega,Nat.pow_succ];omega
   rw [← GO.out]
   show _=treeGo outC (4096+X0) 0 q (2*m+(bitAt outC (4096+X0+m) (0 / 2 ^ q % 2) s').1) (bitAt outC (4096+X0+m) (0 / 2 ^ q % 2) s').2
   rw [Nat.zero_div,Nat.zero_mod,HBB.out]
open Go.RowKit Rng Lz
def qcell (lc lp pb st:Nat) (rep:Nat→Nat) (pr:Pr) (lv:Value) (i:Nat):Value :=
 if i=0 then .int .i64 lc else if i=1 then .int .i64 lp else if i=2 then .int .i64 pb else if i=3 then .int .i64 st else if i<8 then .int .u32 (rep (i-4))
 else if i<1868 then .int .u16 (pr i) else lv
def qcells (lc lp pb st:Nat) (rep:Nat→Nat) (pr:Pr) (lv:Value):Array Value:=Array.ofFn (n:=1869) fun i=>qcell lc lp pb st rep pr lv i.val
theorem qcells_m (k:LK) (st:Nat) (rep:Nat→Nat) (pr:Pr):qcells k.lc k.lp k.pb st rep pr (.slice (some ⟨k.lb,0,none⟩) k.L k.L)=mcells k st rep pr:=rfl
theorem qcells_get (lc lp pb st:Nat) (rep:Nat→Nat) (pr:Pr) (lv:Value) {i:Nat} (h:i<1869):(qcells lc lp pb st rep pr lv)[i]?=some (qcell lc lp pb st rep pr lv i):=by
 unfold qcells
 rw [Array.getElem?_ofFn]
 simp [h]
theorem qcells_size (lc lp pb st:Nat) (rep:Nat→Nat) (pr:Pr) (lv:Value):(qcells lc lp pb st rep pr lv).size=1869:=by simp [qcells]
theorem qcells_eq {C:Array Value} {lc lp pb st:Nat} {rep:Nat→Nat} {pr:Pr} {lv:Value} (hs:C.size=1869) (h:∀ j,j<1869→C[j]?=some (qcell lc lp pb st rep pr lv j)):C=qcells lc lp pb st rep pr lv:=by
 apply Array.ext
 ·rw [hs,qcells_size]
 intro j h1 h2
 have hj:j<1869:=by rw [hs] at h1;exact h1
 have e1:=h j hj
 have e2:=qcells_get lc lp pb st rep pr lv hj
 rw [Array.getElem?_eq_getElem h1] at e1
 rw [Array.getElem?_eq_getElem h2] at e2
 exact Option.some.inj (e1.trans e2.symm)
def fillS (pr:Pr) (off n:Nat):Pr:=fun j=>if off≤j∧j<off+n then 1024 else pr j
def evenC (C C':Array Value) (off n:Nat):Prop:=C'.size=C.size∧∀ j,C'[j]?=if off≤j∧j<off+n then some (.int .u16 1024) else C[j]?
set_option maxRecDepth 100000 in
set_option maxHeartbeats 1000000 in
theorem even_any (b off n c:Nat) (C:Array Value) (T:TypeId) (w:World) (hp:Pts w b C T) (hfit:off+n≤C.size) (hn:n≤1000000) :
 Calls Tryz.prog 102 #[.slice (some ⟨b,off,none⟩) n c] w fun e w'=>e=.returned (.tuple #[])∧(∃ C',Pts w' b C' T∧evenC C C' off n)∧Frm (· = b) w w':=by
 have HP:=hid hp
 have HF:=hid hfit
 clear hp hfit
 go_enter Tryz.func102,Tryz.ntmps102
 go_wp2
 go_loopw [5] (fun iv wr=>∃ (i:Nat) (D:Array Value),iv=.int .i64 i∧i≤n∧Pts wr b D T∧evenC C D off i∧Frm (· = b) w wr) (fun iv _=>n-(intOf iv).toNat)
 case atStart=>exact ⟨0,C,rfl,by omega,HP.out,⟨rfl,fun j=>by rw [if_neg (by omega)]⟩,Frm.refl _ _⟩
 case round =>
 obtain ⟨i,D,rfl,hi,hd,he,hf⟩:=hrel
 have HD:=hid hd
 have HE:=hid he
 have HFR:=hid hf
 by_cases hlt:i<n
 ·have hlt2:off+i<D.size:=by rw [he.1];have:=HF.out;omega
  have hcell:_=_:=hd.cell (off+i)
  rw [Array.getElem?_eq_getElem hlt2] at hcell
  have hfz:=hd.frozen (off+i)
  have hset:=hd.set (off+i) (.int .u16 1024)
  have hee:evenC C (D.setIfInBounds (off+i) (.int .u16 1024)) off (i+1):=by
   refine ⟨by rw [Array.size_setIfInBounds];exact he.1,fun j=>?_⟩
   by_cases e:j=off+i
   ·subst e
    rw [Array.getElem?_setIfInBounds_self_of_lt hlt2,if_pos (by omega)]
   rw [Array.getElem?_setIfInBounds_ne (fun h=>e h.symm),he.2 j]
   by_cases h1:off≤j∧j<off+i
   ·rw [if_pos h1,if_pos (by omega)]
   rw [if_neg h1,if_neg (by omega)]
  have HS:=hid hset
  have HE2:=hid hee
  have HF2:=hid (hf.setCell (p:=⟨b,off+i,none⟩) rfl (.int .u16 1024))
  generalize D[off+i]=xv at hcell
  clear hd he hf hset hee
  go_wp2
  exact ⟨⟨i+1,_,by go_num,by omega,HS.out,HE2.out,HF2.out⟩,by simp [intOf];omega⟩
 obtain rfl:i=n:=by omega
 clear hd he hf
 go_wp2
 go_end0
 exact ⟨rfl,⟨D,HD.out,HE.out⟩,HFR.out⟩
theorem evenC.q {C':Array Value} {lc lp pb st:Nat} {rep:Nat→Nat} {pr:Pr} {lv:Value} {off n:Nat} (h:evenC (qcells lc lp pb st rep pr lv) C' off n) (h1:8≤off) (h2:off+n≤1868):C'=qcells lc lp pb st rep (fillS pr off n) lv:=by
 refine qcells_eq (by rw [h.1,qcells_size]) fun j hj=>?_
 rw [h.2 j,qcells_get _ _ _ _ _ _ _ hj]
 unfold qcell fillS
 by_cases e:off≤j∧j<off+n
 ·rw [if_pos e,if_neg (by omega),if_neg (by omega),if_neg (by omega),if_neg (by omega),if_neg (by omega),if_pos (by omega),if_pos e]
  rfl
 simp only [if_neg e]
theorem even_q (b off n c lc lp pb st:Nat) (rep:Nat→Nat) (pr:Pr) (lv:Value) (T:TypeId) (w:World) (hp:Pts w b (qcells lc lp pb st rep pr lv) T) (h1:8≤off) (h2:off+n≤1868) :
 Calls Tryz.prog 102 #[.slice (some ⟨b,off,none⟩) n c] w fun e w'=>e=.returned (.tuple #[])∧Pts w' b (qcells lc lp pb st rep (fillS pr off n) lv) T∧Frm (· = b) w w':=by
 refine (even_any b off n c _ T w hp (by rw [qcells_size];omega) (by omega)).mono ?_
 rintro e w' ⟨rfl,⟨C',h3,h4⟩,h5⟩
 rw [h4.q h1 h2] at h3
 exact ⟨rfl,h3,h5⟩
open Go.RowKit Rng Lz
def Mo (pr pr':Pr):Prop:=∀ j,pr j=1024→pr' j=1024
def Ev (pr:Pr) (lo hi:Nat):Prop:=∀ j,lo≤j→j<hi→pr j=1024
theorem Mo.trans {a b c:Pr} (h:Mo a b) (k:Mo b c):Mo a c:=fun j hj=>k j (h j hj)
theorem Mo.fill (pr:Pr) (off n:Nat):Mo pr (fillS pr off n):=fun j h=>by unfold fillS;split;rfl;exact h
theorem Ev.fill (pr:Pr) (off n:Nat):Ev (fillS pr off n) off (off+n):=fun j h1 h2=>by unfold fillS;rw [if_pos ⟨h1,h2⟩]
theorem Ev.mo {pr pr':Pr} {lo hi:Nat} (h:Ev pr lo hi) (k:Mo pr pr'):Ev pr' lo hi:=fun j h1 h2=>k j (h j h1 h2)
theorem Ev.more {pr:Pr} {lo mid hi:Nat} (h:Ev pr lo mid) (k:Ev pr mid hi):Ev pr lo hi:=fun j h1 h2=>by
 by_cases hm:j<mid
 ·exact h j h1 hm
 exact k j (by omega) h2
theorem Ev.none (pr:Pr) {lo hi:Nat} (h:hi≤lo):Ev pr lo hi:=fun j h1 h2=>by omega
set_option maxRecDepth 100000 in
set_option maxHeartbeats 1000000 in
theorem lreset_any (b base lc lp pb st:Nat) (rep:Nat→Nat) (pr:Pr) (lv:Value) (T:TypeId) (w:World) (hp:Pts w b (qcells lc lp pb st rep pr lv) T) (hb:base=840∨base=1354) :
 Calls Tryz.prog 103 #[.pointer (some ⟨b,base,none⟩)] w fun e w'=>e=.returned (.tuple #[])∧(∃ pr',Pts w' b (qcells lc lp pb st rep pr' lv) T∧Mo pr pr'∧Ev pr' base (base+514))∧Frm (· = b) w w':=by
 have HP:=hid hp
 have HB:=hid hb
 clear hp hb
 go_enter Tryz.func103,Tryz.ntmps103
 go_wp2_with fail
 refine (even_q b base 2 _ lc lp pb st rep pr lv T w HP.out (by have:=HB.out;omega) (by have:=HB.out;omega)).mono ?_;rintro e w1 ⟨rfl,h1,f1⟩
 have H1:=hid h1
 have F1:=hid f1
 clear h1 f1
 go_wp2
 go_loopw [8] (fun iv wr=>∃ (i:Nat) (pq:Pr),iv=.int .i64 i∧i≤16∧Pts wr b (qcells lc lp pb st rep pq lv) T∧Mo pr pq∧Ev pq base (base+2+i*8)∧Ev pq (base+130) (base+130+i*8)∧Frm (· = b) w wr) (fun iv _=>16-(intOf iv).toNat)
 case atStart=>exact ⟨0,_,rfl,by omega,H1.out,Mo.fill _ _ _,Ev.fill _ _ _,Ev.none _ (by omega),F1.out⟩
 case round =>
 obtain ⟨i,pq,rfl,hi,hq,hmo,he1,he2,hf⟩:=hrel
 have HQ:=hid hq
 have MO:=hid hmo
 have E1:=hid he1
 have E2:=hid he2
 have FR:=hid hf
 clear hq hmo he1 he2 hf H1 F1
 by_cases hlt:i<16
 ·go_wp2_with fail
  refine (even_q b _ 8 _ lc lp pb st rep pq lv T _ HQ.out (by have:=HB.out;omega) (by have:=HB.out;omega)).mono ?_;rintro e w2 ⟨rfl,h2,f2⟩
  have H2:=hid h2
  have F2:=hid (FR.out.trans f2)
  clear h2 f2
  go_wp2_with fail
  refine (even_q b _ 8 _ lc lp pb st rep _ lv T _ H2.out (by have:=HB.out;omega) (by have:=HB.out;omega)).mono ?_;rintro e w3 ⟨rfl,h3,f3⟩
  have H3:=hid h3
  have F3:=hid (F2.out.trans f3)
  clear h3 f3
  go_wp2
  refine ⟨⟨i+1,_,by go_num,by omega,H3.out,(MO.out.trans (Mo.fill _ _ _)).trans (Mo.fill _ _ _),?_,?_,F3.out⟩,by simp [intOf];omega⟩
  ·have e:=((E1.out.mo (Mo.fill pq (base+2+i*8) 8)).more (Ev.fill pq (base+2+i*8) 8)).mo (Mo.fill (fillS pq (base+2+i*8) 8) (base+130+i*8) 8)
   rw [show base+2+(i+1)*8=base+2+i*8+8 by omega]
   exact e
  have e:=((E2.out.mo (Mo.fill pq (base+2+i*8) 8)).mo (Mo.fill (fillS pq (base+2+i*8) 8) (base+130+i*8) 8)).more (Ev.fill (fillS pq (base+2+i*8) 8) (base+130+i*8) 8)
  rw [show base+130+(i+1)*8=base+130+i*8+8 by omega]
  exact e
 obtain rfl:i=16:=by omega
 go_wp2_with fail
 refine (even_q b _ 256 _ lc lp pb st rep pq lv T _ HQ.out (by have:=HB.out;omega) (by have:=HB.out;omega)).mono ?_;rintro e w2 ⟨rfl,h2,f2⟩
 have H2:=hid h2
 have F2:=hid (FR.out.trans f2)
 clear h2 f2
 go_wp2
 go_end0
 refine ⟨rfl,⟨_,H2.out,MO.out.trans (Mo.fill _ _ _),?_⟩,F2.out⟩
 have e:=(((E1.out.more E2.out).mo (Mo.fill pq (base+258) 256)).more (Ev.fill pq (base+258) 256))
 exact e
end Go.Proofs.YtffehfpbdcokbaaGreat
