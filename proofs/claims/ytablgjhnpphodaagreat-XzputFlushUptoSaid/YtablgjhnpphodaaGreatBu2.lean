import Derived.Laws.CopyOwn
import Derived.Laws.MakeOwn
import Derived.RegionTactic
import Derived.Laws.CopyRow
import Derived.Deep.DeepCutAuto
import Derived.Deep.CutRange
import Derived.Deep.LoopGhost
import Derived.Lib.SlBytesConst
import Derived.Test.YtablgjhnpphodaaGreatBu1
set_option linter.unusedVariables false
set_option linter.unusedSimpArgs false
namespace Go.Proofs.YtablgjhnpphodaaGreat
open Lib (hid)
open Go.RowKit Rng Lz
theorem slot_zero (w:World):Calls Tryz.prog 105 #[.int .u32 0] w fun e w'=>e=.returned (.int .i64 0)∧w=w':=by
 go_enter Tryz.func105,Tryz.ntmps105
 go_wp2
 go_ret
 exact ⟨rfl,rfl⟩
theorem odir_any (db rb:Nat) (x n:Int) (d:Dec) (w:World) (hd:DC db rb w d) :
 Calls Tryz.prog 160 #[outV db,.int .u32 x,.int .i64 n] w fun e w'=>e=.returned (.int .u32 ((d.direct (count n) 0).1:Nat))∧DC db rb w' (d.direct (count n) 0).2∧Frm (DO db rb) w w':=by
 obtain ⟨r,hd',hback⟩:=hd.dec
 have HD:=hid hd'
 have HBK:=hid hback
 clear hd hd' hback
 unfold outV
 go_enter Tryz.func160,Tryz.ntmps160
 go_wp2_with fail
 obtain ⟨X,hX⟩:∃ X,Obj.cells #[.pointer (some ⟨db,0,none⟩)] 239=X:=⟨_,rfl⟩
 rw [hX]
 have hfr:=(Frm.refl (fun _=>False) w).alloc X
 refine (ddirect_p db r n d (w.alloc X) (DecAt.frm HD.out hfr id id)).mono ?_
 rintro e w1 ⟨rfl,h1,h2⟩
 have H1:=hid h1
 have H2:=hid h2
 clear h1 h2 hX hfr
 go_wp2
 go_ret
 exact ⟨rfl,HBK.out _ _ (fun h=>Dec.direct_nil _ _ h) H1.out,((Frm.refl (DO db rb) w).alloc X).trans (H2.out.mono fun q _ hq=>.inl hq)⟩
theorem lz_dir (db rb:Nat) (T:TypeId) (k:LK) (st:Nat) (rep:Nat→Nat) (s:CP Dec) (x z:Int) (n:Nat) (w:World) (h:LzAt (DC db rb) (DO db rb) T w k st rep s) (hz:z=(n:Int)) (hn:n≤32) (v:Nat) (d':Dec) (hv:outC.dir s.d 0 n=(v,d')) :
 Calls Tryz.prog 160 #[outV db,.int .u32 x,.int .i64 z] w fun e w'=>e=.returned (.int .u32 (v:Nat))∧LzAt (DC db rb) (DO db rb) T w' k st rep ⟨d',s.pr⟩∧Frm (Wr (DO db rb) k) w w':=by
 subst hz
 have hc:count (n:Int)=n:=by unfold count;omega
 have hv':s.d.direct n 0=(v,d'):=hv
 refine (odir_any db rb x n s.d w h.c).mono ?_
 rintro e w' ⟨rfl,h1,h2⟩
 rw [hc,hv'] at h1 ⊢
 exact ⟨rfl,⟨h1,h.m.frm h2 h.ne.1,h.l.frm h2 h.ne.2.1,h.fit,h.ne⟩,h2.mono fun q _ hq=>.inl hq⟩
theorem back_num (db rb:Nat) (T:TypeId) (k:LK) (st:Nat) (rep:Nat→Nat) (s:CP Dec) (R:Nat×CP Dec) (tb tq base n len cap:Nat) (x z:Int) (w:World) (h:LzAt (DC db rb) (DO db rb) T w k st rep s) (hn:n≤8) (hz:z=(n:Int)) (hlen:2 ^ n≤len) (hlc:len≤cap)
 (hpl:∀ j,1≤j→j<2 ^ n→Place k (base+j)∧plA k (base+j)=(tb,tq+j)) (hR:backAt outC base n 0 s=R) :
 Calls Tryz.prog 106 #[.slice (some ⟨tb,tq,none⟩) len cap,.iface 239 (outV db),.int .i64 x,.int .i64 z] w fun e w'=>e=.returned (.int .i64 (R.1:Nat)) ∧
  LzAt (DC db rb) (DO db rb) T w' k st rep R.2∧Frm (Wr (DO db rb) k) w w':=by
 subst hz;subst hR
 exact back_p db rb T k st rep s tb tq base n len cap x w h hn hlen hlc hpl
theorem backGo_lt {σ:Type} (co:Cod σ) (base x n:Nat):∀ (k m o:Nat) (s:CP σ),k≤n→o<2 ^ (n-k)→(backGo co base x n k m o s).1<2 ^ n
 | 0,m,o,s,_,h=>by simpa [backGo] using h
 | k+1,m,o,s,hk,h=>by
  refine backGo_lt co base x n k _ _ _ (by omega) ?_
  have hb:=bitAt_le co (base+m) (x / 2 ^ (n-(k+1)) % 2) s
  rw [show n-k=n-(k+1)+1 by omega,Nat.pow_succ]
  generalize (bitAt co (base+m) (x / 2 ^ (n-(k+1)) % 2) s).1=b at hb
  have:b*2 ^ (n-(k+1))≤1*2 ^ (n-(k+1)):=Nat.mul_le_mul_right _ hb
  omega
theorem backAt_lt {σ:Type} (co:Cod σ) (base n x:Nat) (s:CP σ):(backAt co base n x s).1<2 ^ n:=backGo_lt co base x n n 1 0 s (Nat.le_refl _) (by simp)
theorem slot_nums {t:Nat} (h4:4≤t) (h64:t<64):∃ K P bs:Nat,t / 2-1=K∧2 ^ K=P∧(2+t % 2)*P=bs∧(2:Int) ^ K=(P:Int)∧K≤30∧bs<4294967296∧(((2:Int)+((t % 2:Nat):Int))*(P:Int)=(bs:Int)):=by
 have hK:t / 2-1≤30:=by omega
 have hP:2 ^ (t / 2-1)≤2 ^ 30:=Nat.pow_le_pow_right (by omega) hK
 refine ⟨t / 2-1,2 ^ (t / 2-1),(2+t % 2)*2 ^ (t / 2-1),rfl,rfl,rfl,by simp,hK,?_,by simp⟩
 have h2:t % 2<2:=Nat.mod_lt _ (by omega)
 have:(2+t % 2)*2 ^ (t / 2-1)≤3*2 ^ 30:=Nat.mul_le_mul (by omega) hP
 omega
theorem slot_low {t K P bs:Nat} (h4:4≤t) (h14:t<14) (hK:t / 2-1=K) (hP:2 ^ K=P) (hb:(2+t % 2)*P=bs):t≤bs∧bs-t+P≤128∧K≤5:=by
 have:∀ t:Fin 14,4≤t.val→t.val≤(2+t.val % 2)*2 ^ (t.val / 2-1)∧(2+t.val % 2)*2 ^ (t.val / 2-1)-t.val+2 ^ (t.val / 2-1)≤128:=by decide
 have h:=this ⟨t,h14⟩ h4
 simp only at h
 subst hK;subst hP;subst hb
 exact ⟨h.1,h.2,by omega⟩
theorem ret_u32 {k:IntKind} {a b:Int} (h:a=b):Ending.returned (.int k a)=.returned (.int k b):=by rw [h]
theorem slice_places (b o f:Nat) (hf:f<128) (w:World) :
 (Instr.sliceAt 138 (.pointer (some ⟨b,o,none⟩)) (some (.int .i64 (f:Int))) none none).run Tryz.prog w=.ok (.slice (some ⟨b,o+f,none⟩) (128-f) (128-f)) w:=by
 have h:¬ 128=f:=by omega
 unfold Instr.sliceAt
 simp [go_sem,h]
 first | done | omega | (intro h;omega)
set_option maxRecDepth 100000 in
set_option maxHeartbeats 1000000 in
theorem dist_p (db rb:Nat) (T:TypeId) (k:LK) (st:Nat) (rep:Nat→Nat) (s:CP Dec) (size:Nat) (w:World) (h:LzAt (DC db rb) (DO db rb) T w k st rep s) (hs:2≤size) (hsz:size≤300) :
 Calls Tryz.prog 95 #[.pointer (some ⟨k.sb,0,none⟩),.iface 239 (outV db),.int .u32 0,.int .i64 size] w fun e w'=>e=.returned (.int .u32 ((distAt outC 0 size s).1:Nat)) ∧
  LzAt (DC db rb) (DO db rb) T w' k st rep (distAt outC 0 size s).2∧Frm (Wr (DO db rb) k) w w':=by
 obtain ⟨R,hR⟩:∃ R,distAt outC 0 size s=R:=⟨_,rfl⟩
 rw [hR]
 unfold distAt at hR
 simp only [show slotOf 0=0 by rfl,Nat.zero_sub,Nat.zero_div,Nat.zero_mod] at hR
 obtain ⟨q,hq⟩:∃ q,min size 5-2=q:=⟨_,rfl⟩
 have hq3:q<4:=by omega
 obtain ⟨Q2,hQ2⟩:∃ Q2,q+2=Q2:=⟨_,rfl⟩
 have hmin:min (size:Int) 5=(Q2:Int):=by omega
 have hmn:=fun w=>min2_num (P:=Tryz.prog) .i64 #[3,3] 3 _ _ _ hmin w
 have hqs:(Q2:Int)-2=(q:Int):=by omega
 have hqw:IntKind.i64.wrap (q:Int)=(q:Int):=Go.IntWalk.i64_in _ (by omega)
 have hqi:(q:Int)<4:=by omega
 rw [hq] at hR
 obtain ⟨TB,hTB⟩:∃ x,440+q*64=x:=⟨_,rfl⟩
 rw [hTB] at hR
 have PL:=hid (fun (j:Nat) (h1:1≤j) (h2:j<2 ^ 6)=>plm k (i:=TB+j) (by omega) (by omega))
 obtain ⟨⟨t,s1⟩,ht⟩:∃ x,treeAt outC TB 6 0 s=x:=⟨_,rfl⟩
 rw [ht] at hR
 have htl:t<64:=by
  have:=treeGo_lt outC TB 0 6 1 s
  have e:t=(treeGo outC TB 0 6 1 s).1-2 ^ 6:=by unfold treeAt at ht;exact (congrArg Prod.fst ht).symm
  omega
 dsimp only at hR
 have HT:=hid ht
 have HRR:=hid hR
 have AT:=hid h
 have ATD:=hid (h.later (DC.keep db rb) ((Frm.refl _ w).drew))
 clear h hR ht hmin hq hQ2
 go_enter Tryz.func95,Tryz.ntmps95
 go_upto_region 1 with fail
 go_cut [9] from 12 (fun v wx=>v=.int .i64 t∧LzAt (DC db rb) (DO db rb) T wx k st rep s1∧Frm (Wr (DO db rb) k) w wx)
 case first =>
  go_region_with (first
   | (go_at_call 105;refine (slot_zero _).mono ?_;rintro e w2 ⟨rfl,rfl⟩)
   | (go_at_call 104;refine (tree_num db rb T k st rep _ _ k.sb TB TB 6 _ _ _ _ _ ATD.out (by omega) rfl (by omega) (Nat.le_refl _) PL.out HT.out).mono ?_;rintro e w2 ⟨rfl,h2,f2⟩))
  all_goals
   have H2:=hid h2
   have F2:=hid (((Frm.refl _ w).drew).trans f2)
   clear h2 f2
   go_wp2
   go_meet
   case rel=>exact ⟨rfl,H2.out,F2.out⟩
 obtain ⟨rfl,h2,f2⟩:=hcut
 have H2:=hid h2
 have F2:=hid f2
 clear h2 f2 AT ATD
 by_cases ht4:t<4
 ·have hR:=HRR.out
  rw [if_pos ht4] at hR
  subst hR
  have htw:IntKind.u32.wrap (t:Int)=(t:Int):=Go.IntWalk.u32_in _ (by omega)
  clear HRR
  go_wp2
  go_ret
  exact ⟨rfl,H2.out,F2.out⟩
 have hR:=HRR.out
 rw [if_neg ht4] at hR
 clear HRR
 obtain ⟨K,P,bs,hK,hP,hbs,hPi,hK30,hb32,hbi⟩:=slot_nums (t:=t) (by omega) htl
 rw [hK,hP,hbs] at hR
 obtain ⟨K1,hK1⟩:∃ K1,t / 2=K1:=⟨_,rfl⟩
 have hk1:(t:Int) / 2=(K1:Int):=by omega
 have hk2:(K1:Int)-1=(K:Int):=by omega
 obtain ⟨b1,hb1⟩:∃ b1,t % 2=b1:=⟨_,rfl⟩
 have hand:bits .and .i64 (t:Int) 1=(b1:Int):=by
  have:=and_i64 (a:=t) (b:=1) (by omega) (by omega)
  rw [nat_mask1,hb1] at this
  exact this
 obtain ⟨c1,hc1⟩:∃ c1,2+b1=c1:=⟨_,rfl⟩
 have hc2:(2:Int)+(b1:Int)=(c1:Int):=by omega
 have hcb:(c1:Int)*(P:Int)=(bs:Int):=by rw [← hbi,hb1,hc2]
 have hwc:IntKind.u32.wrap (c1:Int)=(c1:Int):=Go.IntWalk.u32_in _ (by omega)
 have hwb:IntKind.u32.wrap (bs:Int)=(bs:Int):=Go.IntWalk.u32_in _ (by omega)
 have hKu:IntKind.u64.wrap (K:Int)=(K:Int):=Go.IntWalk.u64_in _ (by omega)
 have hKm:min K 64=K:=by omega
 have hb1b:b1≤1:=by omega
 have hc1b:c1≤3:=by omega
 by_cases ht14:t<14
 ·rw [if_pos ht14] at hR
  obtain ⟨l1,l2,l3⟩:=slot_low (by omega) ht14 hK hP hbs
  obtain ⟨off,hoff⟩:∃ off,bs-t=off:=⟨_,rfl⟩
  have hoi:(bs:Int)-(t:Int)=(off:Int):=by omega
  have hKp:2 ^ K=P:=hP
  have HRR:=hid hR
  have HP:=hid hP
  have hti:(t:Int)<14:=by omega
  have hPp:1≤P:=by rw [← hP];exact Nat.one_le_two_pow
  have hsl:=fun w=>slice_places k.sb 696 off (by omega) w
  have hoff2:696+bs-t=696+off:=by omega
  rw [hoff2] at HRR
  obtain ⟨O,hO⟩:∃ O,696+off=O:=⟨_,rfl⟩
  rw [hO] at HRR hsl
  have PL2:=hid (fun (j:Nat) (h1:1≤j) (h2:j<2 ^ K)=>plm k (i:=O+j) (by omega) (by rw [hP] at h2;omega))
  obtain ⟨⟨u,s2⟩,hu⟩:∃ x,backAt outC O K 0 s1=x:=⟨_,rfl⟩
  have hul:u<P:=by have:=backAt_lt outC O K 0 s1;rw [hu,hP] at this;exact this
  have HU:=hid hu
  have hlen:2 ^ K≤128-off:=by rw [hP];omega
  have HLEN:=hid hlen
  obtain ⟨N9,hN9⟩:∃ N9,128-off=N9:=⟨_,rfl⟩
  rw [hN9] at hsl HLEN
  clear hR hbs hK hK1 hb1 hc1 hbi hP hKp hoff hoff2 hO hlen hu hN9
  go_wp2_with fail
  refine (back_num db rb T k st rep _ _ k.sb O O K _ _ _ _ _ H2.out (by omega) rfl HLEN.out (Nat.le_refl _) PL2.out HU.out).mono ?_;rintro e w4 ⟨rfl,h4,f4⟩
  have H4:=hid h4
  have F4:=hid (F2.out.trans f4)
  have hR:=HRR.out
  rw [HU.out] at hR
  clear h4 f4 HRR
  go_wp2
  go_ret
  rw [← hR]
  refine ⟨ret_u32 ?_,H4.out,F4.out⟩
  show _=((bs+u:Nat):Int)
  omega
 rw [if_neg ht14] at hR
 obtain ⟨K4,hK4⟩:∃ K4,K-4=K4:=⟨_,rfl⟩
 have hk4:(K:Int)-4=(K4:Int):=by omega
 rw [hK4] at hR
 obtain ⟨⟨v,d2⟩,hv⟩:∃ x,outC.dir s1.d 0 K4=x:=⟨_,rfl⟩
 rw [hv] at hR
 dsimp only at hR
 obtain ⟨⟨u,s3⟩,hu⟩:∃ x,backAt outC 824 4 0 ⟨d2,s1.pr⟩=x:=⟨_,rfl⟩
 rw [hu] at hR
 have hul:u<16:=by have:=backAt_lt outC 824 4 0 ⟨d2,s1.pr⟩;rw [hu] at this;exact this
 have PL2:=hid (fun (j:Nat) (h1:1≤j) (h2:j<2 ^ 4)=>plm k (i:=824+j) (by omega) (by omega))
 have HRR:=hid hR
 have HV:=hid hv
 have HU:=hid hu
 have hti:¬ ((t:Int)<14):=by omega
 have hmd:=meth_dir (outV db)
 have hK32:K4≤32:=by omega
 have h824:2 ^ 4≤16:=by omega
 clear hR hbs hK hK1 hb1 hc1 hbi hP hK4 hv hu
 go_wp2_with fail
 refine (lz_dir db rb T k st rep s1 _ _ K4 _ H2.out rfl hK32 v d2 HV.out).mono ?_;rintro e w3 ⟨rfl,h3,f3⟩
 have H3:=hid h3
 have F3:=hid (F2.out.trans f3)
 clear h3 f3
 go_wp2_with fail
 refine (back_num db rb T k st rep _ _ k.sb 824 824 4 _ _ _ _ _ H3.out (by omega) rfl h824 (Nat.le_refl _) PL2.out HU.out).mono ?_;rintro e w4 ⟨rfl,h4,f4⟩
 have H4:=hid h4
 have F4:=hid (F3.out.trans f4)
 have hR:=HRR.out
 clear h4 f4 HRR
 go_wp2
 go_ret
 rw [← hR]
 refine ⟨ret_u32 ?_,H4.out,F4.out⟩
 show _=(((bs+v*16+u) % 4294967296:Nat):Int)
 omega
open Go.RowKit Rng Lz
def shiftN (rep:Nat→Nat) (n:Nat):Nat→Nat:=fun j=>if 1≤j∧j≤n then rep (j-1) else rep j
theorem mcells_row (k:LK) (st:Nat) (rep:Nat→Nat) (pr:Pr) (n:Nat) (hn:n≤3) :
 ((mcells k st rep pr).toList.take 5++(List.range n).map (fun j=>Value.int .u32 (rep j:Int))++(mcells k st rep pr).toList.drop (5+n)).toArray=mcells k st (shiftN rep n) pr:=by
 have hsz:(mcells k st rep pr).size=1869:=by simp [mcells]
 have hg:∀ {j},j<1869→(mcells k st rep pr).toList[j]?=some (mcell k st rep pr j):=fun {j} h=>by rw [Array.getElem?_toList];exact mcells_get k st rep pr h
 have key:∀ j,j<1869→((mcells k st rep pr).toList.take 5++(List.range n).map (fun j=>Value.int .u32 (rep j:Int))++(mcells k st rep pr).toList.drop (5+n))[j]?=some (mcell k st (shiftN rep n) pr j):=by
  intro j hj
  have l1:((mcells k st rep pr).toList.take 5).length=5:=by rw [List.length_take,Array.length_toList,hsz];rfl
  have l2:((List.range n).map (fun j=>Value.int .u32 (rep j:Int))).length=n:=by simp
  by_cases h5:j<5
  ·rw [List.append_assoc,List.getElem?_append_left (by rw [l1];exact h5),List.getElem?_take,if_pos h5,hg hj]
   unfold mcell shiftN
   by_cases h4:j=4
   ·subst h4;rfl
   have:¬ (1≤j-4∧j-4≤n):=by omega
   simp only [if_neg this]
  by_cases h5n:j<5+n
  ·rw [List.append_assoc,List.getElem?_append_right (by rw [l1];omega),l1,List.getElem?_append_left (by rw [l2];omega),List.getElem?_map,List.getElem?_range (by omega)]
   unfold mcell shiftN
   have a1:¬ j=0:=by omega
   have a2:¬ j=1:=by omega
   have a3:¬ j=2:=by omega
   have a4:¬ j=3:=by omega
   have a5:j<8:=by omega
   have a6:1≤j-4∧j-4≤n:=by omega
   rw [if_neg a1,if_neg a2,if_neg a3,if_neg a4,if_pos a5,if_pos a6]
   show some (Value.int .u32 (rep (j-5):Int))=some (Value.int .u32 (rep (j-4-1):Int))
   rw [show j-4-1=j-5 by omega]
  rw [List.append_assoc,List.getElem?_append_right (by rw [l1];omega),l1,List.getElem?_append_right (by rw [l2];omega),l2,List.getElem?_drop,show 5+n+(j-5-n)=j by omega,hg hj]
  unfold mcell shiftN
  have:¬ (1≤j-4∧j-4≤n):=by omega
  simp only [if_neg this]
 apply Array.ext
 ·simp only [List.size_toArray,List.length_append,List.length_take,List.length_drop,List.length_map,List.length_range,Array.length_toList,hsz]
  simp only [mcells,Array.size_ofFn];omega
 intro j h1 h2
 have hj:j<1869:=by simpa [mcells] using h2
 have e1:=key j hj
 have e2:=mcells_get k st (shiftN rep n) pr hj
 rw [Array.getElem?_eq_getElem h2] at e2
 rw [← List.getElem?_toArray,Array.getElem?_eq_getElem h1] at e1
 exact Option.some.inj (e1.trans e2.symm)
theorem Tryz.size_u32:(Tryz.prog.info? 60).map (·.size)=some 1:=by kernel_rfl
section
variable {σ : Type} {CA : World → σ → Prop} {own : Nat → Prop} {T : TypeId} {w w' : World} {k : LK} {st : Nat} {rep : Nat → Nat} {s : CP σ}
theorem rep_copy (hk:KeepOK CA own) (h:LzAt CA own T w k st rep s) (n dc sc ty:Nat) (hn:n≤3) :
 ∃ w',(Builtin.copy_ #[196,196] ty #[.slice (some ⟨k.sb,5,none⟩) n dc,.slice (some ⟨k.sb,4,none⟩) n sc]).run Tryz.prog w=.ok (.int .i64 n) w'∧LzAt CA own T w' k st (shiftN rep n) s∧Frm (Wr own k) w w':=by
 have hh:w.heap[k.sb]?=some (.cells (mcells k st rep s.pr) T (0,0)):=h.m
 have hsz:(mcells k st rep s.pr).size=1869:=by simp [mcells]
 have hrun:=run_copy_row (P:=Tryz.prog) w 196 196 ty 60 k.sb 5 n dc ⟨k.sb,4,none⟩ n sc (mcells k st rep s.pr) T ((List.range n).map (fun j=>Value.int .u32 (rep j:Int))) Tryz.underlying196 Tryz.size_u32 hh
  (by simp) (by
    intro j v hj
    rw [List.getElem?_map] at hj
    by_cases hjn:j<n
    ·rw [List.getElem?_range hjn] at hj
     simp only [Option.map_some,Option.some.injEq] at hj
     subst hj
     rw [Opn.add_at]
     rw [h.m.cell,mcells_get (i:=4+j) _ _ _ _ (by omega)]
     unfold mcell
     rw [if_neg (by omega),if_neg (by omega),if_neg (by omega),if_neg (by omega),if_pos (by omega),Nat.add_sub_cancel_left]
    ·rw [List.getElem?_eq_none (by simp;omega)] at hj;cases hj) (by rw [hsz];simp;omega) (by
    intro v hv
    obtain ⟨j,_,rfl⟩:=List.mem_map.1 hv
    rfl)
 have hl:((List.range n).map (fun j=>Value.int .u32 (rep j:Int))).length=n:=by simp
 rw [hl] at hrun
 rw [mcells_row k st rep s.pr n hn] at hrun
 obtain ⟨C,hC⟩:∃ C,mcells k st (shiftN rep n) s.pr=C:=⟨_,rfl⟩
 rw [hC] at hrun
 have hm:=setRow_heap w k.sb _ C T (0,0) hh
 clear hsz hl
 have hf:Frm (· = k.sb) w (w.setRow k.sb C):=⟨rfl,rfl,rfl,by simp,fun q hq hne=>setRow_other w k.sb q _ hne⟩
 refine ⟨_,hrun,⟨hk _ _ _ _ h.c hf (fun q hq e=>h.ne.1 (e▸hq)),?_,h.l.frm hf (fun e=>h.ne.2.2 e.symm),h.fit,h.ne⟩,hf.mono fun q _ e=>.inr (.inl e)⟩
 rw [hC]
 exact hm
end
def takeS (rep:Nat→Nat) (n:Nat):Nat→Nat:=fun j=>if j=0 then rep n else shiftN rep n j
set_option maxRecDepth 100000 in
set_option maxHeartbeats 1000000 in
theorem take_any {σ:Type} {CA:World→σ→Prop} {own:Nat→Prop} (hk:KeepOK CA own) (T:TypeId) (k:LK) (st n:Nat) (rep:Nat→Nat) (s:CP σ) (w:World) (h:LzAt CA own T w k st rep s) (hn:1≤n∧n≤3) :
 Calls Tryz.prog 96 #[.pointer (some ⟨k.sb,0,none⟩),.int .i64 n] w fun e w'=>e=.returned (.tuple #[])∧LzAt CA own T w' k st (takeS rep n) s∧Frm (Wr own k) w w':=by
 obtain ⟨n1,n3⟩:=hn
 have cn:w.cell? ⟨k.sb,4+n,none⟩=some (.int .u32 (rep n)):=by
  rw [(h.hdr (i:=4+n) (by omega)).1]
  unfold mcell
  rw [if_neg (by omega),if_neg (by omega),if_neg (by omega),if_neg (by omega),if_pos (by omega),Nat.add_sub_cancel_left]
 have AT:=hid h
 have hni:(n:Int)<4:=by omega
 obtain ⟨d,hd⟩:∃ d,rep n=d:=⟨_,rfl⟩
 rw [hd] at cn
 have HD:=hid hd
 clear h hd
 have h123:n=1∨n=2∨n=3:=by omega
 rcases h123 with rfl | rfl | rfl
 ·go_enter Tryz.func96,Tryz.ntmps96
  go_wp2
  refine QTail.wp_region_qtail_lit 11 (by kernel_rfl) (by kernel_rfl) ?_
  simp only [List.take_succ_cons,List.take_zero,List.drop_succ_cons,List.drop_zero]
  repeat (go_big_quiet_step (fail))
  refine wpQuiet_nil ?_
  rintro w' ⟨nr,rfl⟩
  obtain ⟨w5,hrun,h5,f5⟩:=rep_copy hk (AT.out.later hk ((Frm.refl _ w).drewN nr)) 1 3 4 3 (by omega)
  have z:=(h5.hdr (i:=4) (by omega))
  unfold mcell at z
  have z1:=z.1
  have z2:=z.2
  simp only [Nat.reduceEqDiff,if_false,Nat.reduceLT,if_true,Nat.reduceSub] at z1
  have h6:=h5.putRep 0 d (by omega) hk
  have H6:=hid h6
  have F5:=hid (((Frm.refl _ w).drewN nr).trans f5)
  clear h5 f5 h6 z
  go_wp2
  go_end0
  rw [← HD.out] at H6 ⊢
  exact ⟨rfl,H6.out.1,F5.out.trans H6.out.2⟩
 ·go_enter Tryz.func96,Tryz.ntmps96
  go_wp2
  refine QTail.wp_region_qtail_lit 11 (by kernel_rfl) (by kernel_rfl) ?_
  simp only [List.take_succ_cons,List.take_zero,List.drop_succ_cons,List.drop_zero]
  repeat (go_big_quiet_step (fail))
  refine wpQuiet_nil ?_
  rintro w' ⟨nr,rfl⟩
  obtain ⟨w5,hrun,h5,f5⟩:=rep_copy hk (AT.out.later hk ((Frm.refl _ w).drewN nr)) 2 3 4 3 (by omega)
  have z:=(h5.hdr (i:=4) (by omega))
  unfold mcell at z
  have z1:=z.1
  have z2:=z.2
  simp only [Nat.reduceEqDiff,if_false,Nat.reduceLT,if_true,Nat.reduceSub] at z1
  have h6:=h5.putRep 0 d (by omega) hk
  have H6:=hid h6
  have F5:=hid (((Frm.refl _ w).drewN nr).trans f5)
  clear h5 f5 h6 z
  go_wp2
  go_end0
  rw [← HD.out] at H6 ⊢
  exact ⟨rfl,H6.out.1,F5.out.trans H6.out.2⟩
 go_enter Tryz.func96,Tryz.ntmps96
 go_wp2
 refine QTail.wp_region_qtail_lit 11 (by kernel_rfl) (by kernel_rfl) ?_
 simp only [List.take_succ_cons,List.take_zero,List.drop_succ_cons,List.drop_zero]
 repeat (go_big_quiet_step (fail))
 refine wpQuiet_nil ?_
 rintro w' ⟨nr,rfl⟩
 obtain ⟨w5,hrun,h5,f5⟩:=rep_copy hk (AT.out.later hk ((Frm.refl _ w).drewN nr)) 3 3 4 3 (by omega)
 have z:=(h5.hdr (i:=4) (by omega))
 unfold mcell at z
 have z1:=z.1
 have z2:=z.2
 simp only [Nat.reduceEqDiff,if_false,Nat.reduceLT,if_true,Nat.reduceSub] at z1
 have h6:=h5.putRep 0 d (by omega) hk
 have H6:=hid h6
 have F5:=hid (((Frm.refl _ w).drewN nr).trans f5)
 clear h5 f5 h6 z
 go_wp2
 go_end0
 rw [← HD.out] at H6 ⊢
 exact ⟨rfl,H6.out.1,F5.out.trans H6.out.2⟩
end Go.Proofs.YtablgjhnpphodaaGreat
namespace Go.Proofs.YtablgjhnpphodaaGreat.Lz
open Go.RowKit Rng
def litAt {σ:Type} (co:Cod σ) (lc lp st total ahead far x:Nat) (s:CP σ):Nat×CP σ :=
 let base:=4096+768*(total % 2 ^ lp*2 ^ lc+ahead / 2 ^ (8-lc))
 let r:=if 7≤st then farGo co base x far 8 1 s else treeGo co base x 8 1 s
 (r.1-256,r.2)
end Go.Proofs.YtablgjhnpphodaaGreat.Lz
namespace Go.Proofs.YtablgjhnpphodaaGreat
open Lib (hid)
open Go.RowKit Rng Lz
theorem and_mask {t e P:Nat} (ht:t<4611686018427387904) (hP:2 ^ e=P) (he:P≤256):bits .and .i64 (t:Int) ((P:Int)-1)=((t % P:Nat):Int):=by
 have hp:1≤P:=by rw [← hP];exact Nat.one_le_two_pow
 have e1:(P:Int)-1=((P-1:Nat):Int):=by omega
 rw [e1,and_i64 ht (by omega),← hP,Nat.and_two_pow_sub_one_eq_mod]
set_option maxRecDepth 100000 in
set_option maxHeartbeats 1000000 in
theorem place_any {σ:Type} {CA:World→σ→Prop} {own:Nat→Prop} (T:TypeId) (k:LK) (st total:Nat) (rep:Nat→Nat) (s:CP σ) (w:World) (h:LzAt CA own T w k st rep s) (hk:k.Ok) (ht:total<4611686018427387904) :
 Calls Tryz.prog 89 #[.pointer (some ⟨k.sb,0,none⟩),.int .i64 total] w fun e w'=>e=.returned (.int .i64 ((total % 2 ^ k.pb:Nat):Int))∧w=w':=by
 have c2:w.cell? ⟨k.sb,2,none⟩=some (.int .i64 k.pb):=(h.hdr (i:=2) (by omega)).1
 have hpb:=hk.b
 obtain ⟨e,he⟩:∃ e,k.pb=e:=⟨_,rfl⟩
 rw [he] at c2 hpb ⊢
 have hP1:2 ^ e≤2 ^ 4:=Nat.pow_le_pow_right (by omega) hpb
 obtain ⟨P,hP⟩:∃ P,2 ^ e=P:=⟨_,rfl⟩
 have hPi:(2:Int) ^ e=(P:Int):=by rw [← hP];simp
 have hm:=and_mask ht hP (by omega)
 rw [hP] at hP1 ⊢
 obtain ⟨R,hR⟩:∃ R,total % P=R:=⟨_,rfl⟩
 rw [hR] at hm ⊢
 clear h hk he hP hR
 go_enter Tryz.func89,Tryz.ntmps89
 go_wp2
 go_ret
 exact ⟨rfl,rfl⟩
theorem slice_lits (b L f g:Nat) (hf:f+768≤L) (hg:g=f+768) (w:World) :
 (Instr.sliceAt 146 (.slice (some ⟨b,0,none⟩) L L) (some (.int .i64 (f:Int))) (some (.int .i64 (g:Int))) none).run Tryz.prog w=.ok (.slice (some ⟨b,f,none⟩) 768 (L-f)) w:=by
 have h:¬ L=f:=by omega
 have h2:g-f=768:=by omega
 have h3:g≤L:=by omega
 have h4:f≤g:=by omega
 simp [go_sem,h,h2,h3,h4]
set_option maxRecDepth 100000 in
set_option maxHeartbeats 1000000 in
theorem lit_p (db rb:Nat) (T:TypeId) (k:LK) (st total ahead far:Nat) (rep:Nat→Nat) (s:CP Dec) (w:World) (h:LzAt (DC db rb) (DO db rb) T w k st rep s) (hk:k.Ok) (ht:total<4611686018427387904) (ha:ahead<256) (hfa:far<256) :
 Calls Tryz.prog 90 #[.pointer (some ⟨k.sb,0,none⟩),.iface 239 (outV db),.int .i64 0,.int .i64 total,.int .u8 ahead,.int .u8 far] w fun e w'=>e=.returned (.int .u8 ((litAt outC k.lc k.lp st total ahead far 0 s).1:Nat)) ∧
  LzAt (DC db rb) (DO db rb) T w' k st rep (litAt outC k.lc k.lp st total ahead far 0 s).2∧Frm (Wr (DO db rb) k) w w':=by
 have c0:w.cell? ⟨k.sb,0,none⟩=some (.int .i64 k.lc):=(h.hdr (i:=0) (by omega)).1
 have c1:w.cell? ⟨k.sb,1,none⟩=some (.int .i64 k.lp):=(h.hdr (i:=1) (by omega)).1
 have c3:w.cell? ⟨k.sb,3,none⟩=some (.int .i64 st):=(h.hdr (i:=3) (by omega)).1
 have c9:w.cell? ⟨k.sb,1868,none⟩=some (.slice (some ⟨k.lb,0,none⟩) k.L k.L):=by rw [h.m.cell,mcells_get _ _ _ _ (by omega)];rfl
 have hok:=hk.a
 obtain ⟨R,hR⟩:∃ R,litAt outC k.lc k.lp st total ahead far 0 s=R:=⟨_,rfl⟩
 rw [hR]
 unfold litAt at hR
 have hLL:k.L=768*(2 ^ k.lp*2 ^ k.lc):=by unfold LK.L;rw [Nat.pow_add,Nat.mul_comm (2 ^ k.lc)]
 have PLL:∀ j,j<k.L→Place k (4096+j)∧plA k (4096+j)=(k.lb,j):=fun j hj=>pll k hj
 obtain ⟨lc,hlc⟩:∃ e,k.lc=e:=⟨_,rfl⟩
 obtain ⟨lp,hlp⟩:∃ e,k.lp=e:=⟨_,rfl⟩
 obtain ⟨L,hL⟩:∃ e,k.L=e:=⟨_,rfl⟩
 rw [hL] at hLL PLL c9
 rw [hlc] at hLL hR c0 hok
 rw [hlp] at hLL hR c1 hok
 have hP1:2 ^ lp≤2 ^ 4:=Nat.pow_le_pow_right (by omega) (by omega)
 have hP2:2 ^ lc≤2 ^ 4:=Nat.pow_le_pow_right (by omega) (by omega)
 obtain ⟨E,hE⟩:∃ E,8-lc=E:=⟨_,rfl⟩
 have hPE:2 ^ E*2 ^ lc=256:=by rw [← hE,← Nat.pow_add,show 8-lc+lc=8 by omega]
 obtain ⟨P1,hp1⟩:∃ P,2 ^ lp=P:=⟨_,rfl⟩
 obtain ⟨P2,hp2⟩:∃ P,2 ^ lc=P:=⟨_,rfl⟩
 obtain ⟨P3,hp3⟩:∃ P,2 ^ E=P:=⟨_,rfl⟩
 have hi1:(2:Int) ^ lp=(P1:Int):=by rw [← hp1];simp
 have hi2:(2:Int) ^ lc=(P2:Int):=by rw [← hp2];simp
 have hi3:(2:Int) ^ E=(P3:Int):=by rw [← hp3];simp
 have hand:=and_mask ht hp1 (by omega)
 rw [hE,hp1,hp2,hp3] at hR
 rw [hp1,hp2] at hLL
 rw [hp1] at hP1
 rw [hp2] at hP2
 rw [hp2,hp3] at hPE
 have hP1p:1≤P1:=by rw [← hp1];exact Nat.one_le_two_pow
 have hP2p:1≤P2:=by rw [← hp2];exact Nat.one_le_two_pow
 have hP3p:1≤P3:=by rw [← hp3];exact Nat.one_le_two_pow
 have ha1:total % P1<P1:=Nat.mod_lt _ (by omega)
 obtain ⟨A1,hA1⟩:∃ A,total % P1=A:=⟨_,rfl⟩
 rw [hA1] at hand hR ha1
 have ha3:ahead / P3<P2:=by rw [Nat.div_lt_iff_lt_mul (by omega),Nat.mul_comm];omega
 have hi4:(ahead:Int) / (P3:Int)=((ahead / P3:Nat):Int):=(Int.natCast_ediv ahead P3).symm
 obtain ⟨A3,hA3⟩:∃ A,ahead / P3=A:=⟨_,rfl⟩
 rw [hA3] at hR ha3 hi4
 have hA2:A1*P2+P2≤P1*P2:=by
  have:=Nat.mul_le_mul_right P2 (show A1+1≤P1 by omega)
  rw [Nat.add_mul,Nat.one_mul] at this
  exact this
 have hPP:P1*P2≤16*16:=Nat.mul_le_mul hP1 hP2
 have hi5:(A1:Int)*(P2:Int)=((A1*P2:Nat):Int):=by simp
 obtain ⟨A2,hA2e⟩:∃ A,A1*P2=A:=⟨_,rfl⟩
 rw [hA2e] at hR hA2 hi5
 obtain ⟨PP,hPPe⟩:∃ A,P1*P2=A:=⟨_,rfl⟩
 rw [hPPe] at hA2 hPP hLL
 obtain ⟨SET,hSET⟩:∃ A,A2+A3=A:=⟨_,rfl⟩
 rw [hSET] at hR
 have hset:(A2:Int)+(A3:Int)=(SET:Int):=by omega
 have hE8:(8:Int)-(lc:Int)=(E:Int):=by omega
 have hE64:min E 64=E:=by omega
 have hlc64:min lc 64=lc:=by omega
 have hlp64:min lp 64=lp:=by omega
 have hEu:IntKind.u64.wrap (E:Int)=(E:Int):=Go.IntWalk.u64_in _ (by omega)
 have hlcu:IntKind.u64.wrap (lc:Int)=(lc:Int):=Go.IntWalk.u64_in _ (by omega)
 have hlpu:IntKind.u64.wrap (lp:Int)=(lp:Int):=Go.IntWalk.u64_in _ (by omega)
 have hfit:768*SET+768≤L:=by omega
 have hSB:SET<256:=by omega
 obtain ⟨X0,hX0⟩:∃ A,768*SET=A:=⟨_,rfl⟩
 obtain ⟨X1,hX1⟩:∃ A,X0+768=A:=⟨_,rfl⟩
 have hxi0:(768:Int)*(SET:Int)=(X0:Int):=by omega
 have hxi1:(X0:Int)+768=(X1:Int):=by omega
 rw [hX0] at hR hfit
 have hsl:=fun w=>slice_lits k.lb L X0 X1 hfit hX1.symm w
 have b1:P1≤16:=by omega
 have b2:P2≤16:=by omega
 have b3:P3≤256:=by have:=Nat.mul_le_mul_left P3 hP2p;omega
 have b4:A1≤16:=by omega
 have b5:A2≤256:=by omega
 have b6:A3≤16:=by omega
 have b7:X0≤200000:=by omega
 have b8:X1≤200768:=by omega
 have AT:=hid h
 have HRR:=hid hR
 have HPL:=hid PLL
 have HFIT:=hid hfit
 clear h hk hR PLL hlc hlp hL hLL hp1 hp2 hp3 hP1 hP2 hPE hA1 hA3 hA2e hPPe hSET hE hA2 hPP ha1 ha3 hok hP1p hP2p hP3p hfit hX0 hX1
 go_enter Tryz.func90,Tryz.ntmps90
 go_wp2
 go_quiet (fail)
 go_upto_if 58 with fail
 obtain ⟨RR,hRR⟩:∃ RR,(if 7≤st then farGo outC (4096+X0) 0 far 8 1 s else treeGo outC (4096+X0) 0 8 1 s)=RR:=⟨_,rfl⟩
 rw [hRR] at HRR
 have HQ:=hid hRR
 have ATD:=hid (AT.out.later (DC.keep db rb) ((Frm.refl _ w).drewN nq))
 have FD:=hid ((Frm.refl (Wr (DO db rb) k) w).drewN nq)
 clear hRR hsl hand hi1 hi2 hi3 hi4 hi5 hset hE8 hE64 hlc64 hlp64 hEu hlcu hlpu hxi0 hxi1 b1 b2 b3 b4 b5 b6 b8 c0 c1 c9
 have hno:=nil_out (outV db)
 have hme:=meth_bit (outV db)
 go_cut [15,16] from 19 to 94 (fun nv iv wx=>∃ (r m:Nat) (i:Int) (s':CP Dec),nv=.int .i64 m∧iv=.int .i64 i∧i=(r:Int)-1∧r≤8∧2 ^ (8-r)≤m∧m<2 ^ (8-r+1)∧treeGo outC (4096+X0) 0 r m s'=RR∧LzAt (DC db rb) (DO db rb) T wx k st rep s'∧Frm (Wr (DO db rb) k) w wx)
 case first =>
  by_cases h7:7≤st
  ·have h7i:(7:Int)≤(st:Int):=by omega
   have hRR:=HQ.out
   rw [if_pos h7] at hRR
   have HQ2:=hid hRR
   have h7d:decide (7≤st)=true:=decide_eq_true h7
   clear hRR HQ AT HRR
   go_wp2
   go_step3
   go_wp2
   go_step3
   go_wp2
   have h7e:decide ((7:Int)≤(st:Int))=true:=decide_eq_true h7i
   simp only [h7e]
   clear h7 h7i h7d h7e
   go_loopw [15,16] (fun nv iv wx=>∃ (r m:Nat) (i:Int) (s':CP Dec),nv=.int .i64 m∧iv=.int .i64 i∧i=(r:Int)-1∧r≤8∧2 ^ (8-r)≤m∧m<2 ^ (8-r+1)∧farGo outC (4096+X0) 0 far r m s'=RR∧LzAt (DC db rb) (DO db rb) T wx k st rep s'∧Frm (Wr (DO db rb) k) w wx) (fun _ iv _=>(intOf iv+1).toNat)
   case atStart=>exact ⟨8,1,7,s,rfl,rfl,by omega,by omega,by simp,by simp,HQ2.out,ATD.out,FD.out⟩
   obtain ⟨r,m,i,s',rfl,rfl,hi,hr,hm1,hm2,hgo,hat,hfr⟩:=hrel
   have GO:=hid hgo
   have AT:=hid hat
   have FR:=hid hfr
   clear hgo hat hfr ATD FD HQ2
   cases r with
   | zero =>
    obtain rfl:i = -1:=by omega
    have HM1:=hid hm1
    have HM2:=hid hm2
    clear hi hm1 hm2
    go_wp2
    simp only [Exit.noGoto_normal]
    go_wp2
    go_meet
    case rel=>exact ⟨0,m,-1,s',rfl,rfl,by omega,by omega,HM1.out,HM2.out,GO.out,AT.out,FR.out⟩
   | succ q =>
    obtain rfl:i=(q:Int):=by omega
    clear hi
    have hpow:m<2 ^ 8:=Nat.lt_of_lt_of_le hm2 (Nat.pow_le_pow_right (by omega) (by omega))
    have hmb:m<256:=by omega
    have HM1:=hid hm1
    have HM2:=hid hm2
    have hq64:min q 64=q:=by omega
    have hqu:IntKind.u64.wrap (q:Int)=(q:Int):=Go.IntWalk.u64_in _ (by omega)
    obtain ⟨Pq,hPq⟩:∃ P,2 ^ q=P:=⟨_,rfl⟩
    have hPi:(2:Int) ^ q=(Pq:Int):=by rw [← hPq];simp
    have hFi:(far:Int) / (Pq:Int)=((far / Pq:Nat):Int):=(Int.natCast_ediv far Pq).symm
    have hFl:far / Pq≤far:=Nat.div_le_self _ _
    obtain ⟨Fq,hFq⟩:∃ F,far / Pq=F:=⟨_,rfl⟩
    rw [hFq] at hFi hFl
    obtain ⟨W,hW⟩:∃ W,Fq % 2=W:=⟨_,rfl⟩
    have hWi:bits .and .i64 (Fq:Int) 1=(W:Int):=by
     have:=and_i64 (a:=Fq) (b:=1) (by omega) (by omega)
     rw [nat_mask1,hW] at this
     exact this
    have hWb:W≤1:=by omega
    have hgo:(if (bitAt outC (4096+X0+(1+W)*256+m) 0 s').1=W then farGo outC (4096+X0) 0 far q (2*m+(bitAt outC (4096+X0+(1+W)*256+m) 0 s').1) (bitAt outC (4096+X0+(1+W)*256+m) 0 s').2
     else treeGo outC (4096+X0) 0 q (2*m+(bitAt outC (4096+X0+(1+W)*256+m) 0 s').1) (bitAt outC (4096+X0+(1+W)*256+m) 0 s').2)=RR:=by
     rw [← GO.out]
     show _=(if (bitAt outC (4096+X0+(1+far / 2 ^ q % 2)*256+m) (0 / 2 ^ q % 2) s').1=far / 2 ^ q % 2 then farGo outC (4096+X0) 0 far q (2*m+(bitAt outC (4096+X0+(1+far / 2 ^ q % 2)*256+m) (0 / 2 ^ q % 2) s').1) (bitAt outC (4096+X0+(1+far / 2 ^ q % 2)*256+m) (0 / 2 ^ q % 2) s').2
      else treeGo outC (4096+X0) 0 q (2*m+(bitAt outC (4096+X0+(1+far / 2 ^ q % 2)*256+m) (0 / 2 ^ q % 2) s').1) (bitAt outC (4096+X0+(1+far / 2 ^ q % 2)*256+m) (0 / 2 ^ q % 2) s').2)
     rw [Nat.zero_div,Nat.zero_mod,hPq,hFq,hW]
    obtain ⟨WW,hWW⟩:∃ x,(1+W)*256=x:=⟨_,rfl⟩
    obtain ⟨V1,hV1⟩:∃ x,1+W=x:=⟨_,rfl⟩
    have hV1i:(1:Int)+(W:Int)=(V1:Int):=by omega
    have hV1b:V1≤2:=by omega
    have hWWi:(V1:Int)*256=(WW:Int):=by omega
    obtain ⟨IX,hIX⟩:∃ x,WW+m=x:=⟨_,rfl⟩
    have hIXi:(WW:Int)+(m:Int)=(IX:Int):=by omega
    have hIXb:IX<768:=by omega
    have hw1:IntKind.i64.wrap (V1:Int)=(V1:Int):=Go.IntWalk.i64_in _ (by omega)
    have hw2:IntKind.i64.wrap (WW:Int)=(WW:Int):=Go.IntWalk.i64_in _ (by omega)
    have hw3:IntKind.i64.wrap (IX:Int)=(IX:Int):=Go.IntWalk.i64_in _ (by omega)
    have hWWb:WW≤512:=by omega
    have HP:=hid (HPL.out (X0+IX) (by have:=HFIT.out;omega))
    have eix:4096+X0+(1+W)*256+m=4096+(X0+IX):=by omega
    rw [eix] at hgo
    have ATD:=hid (AT.out.later (DC.keep db rb) ((Frm.refl _ _).drew))
    have hbl:=bitAt_le outC (4096+(X0+IX)) 0 s'
    obtain ⟨⟨bb,s2⟩,hbb⟩:∃ x,bitAt outC (4096+(X0+IX)) 0 s'=x:=⟨_,rfl⟩
    rw [hbb] at hbl hgo
    dsimp only at hbl hgo
    have hob:=or_bit (m:=m) (b:=bb) (by omega) hbl
    have HBB:=hid hbb
    have hmw:IntKind.i64.wrap ((m:Int)*2)=(m:Int)*2:=Go.IntWalk.i64_in _ (by omega)
    have G2:=hid hgo
    clear hm1 hm2 hpow hbb hgo hPq hFq hW hWW hIX hV1 eix GO
    have hbw:bb=W∨¬ bb=W:=by omega
    rcases hbw with hbw | hbw
    ·have hne:((bb:Int) != (W:Int))=false:=by rw [hbw];simp
     have G3:=hid (show farGo outC (4096+X0) 0 far q (2*m+bb) s2=RR by have:=G2.out;rw [if_pos hbw] at this;exact this)
     clear G2 hbw
     go_wp2
     go_region_with (first
      | (go_at_call 124;refine (lz_bit (obit_any db rb) ATD.out (4096+(X0+IX)) k.lb (X0+IX) 0 _ trivial HP.out.1 HP.out.2).mono ?_;rintro e w2 ⟨rfl,h2,f2⟩;rw [HBB.out] at h2 ⊢))
     all_goals
      have H2:=hid h2
      have F2:=hid ((FR.out.drew).trans f2)
      clear h2 f2
      go_wp2
      have e1:2 ^ (8-q)≤2*m+bb:=by
       have:=HM1.out
       rw [show 8-q=8-(q+1)+1 by omega,Nat.pow_succ];omega
      have e2:2*m+bb<2 ^ (8-q+1):=by
       have:=HM2.out
       rw [show 8-q+1=8-(q+1)+1+1 by omega,Nat.pow_succ];omega
      exact ⟨⟨q,2*m+bb,(q:Int)-1,_,by go_num,by go_num,rfl,by omega,e1,e2,G3.out,H2.out,F2.out⟩,by simp [intOf]⟩
    have hne:((bb:Int) != (W:Int))=true:=by rw [bne_iff_ne];omega
    have G3:=hid (show treeGo outC (4096+X0) 0 q (2*m+bb) s2=RR by have:=G2.out;rw [if_neg hbw] at this;exact this)
    clear G2 hbw
    go_wp2
    go_region_with (first
     | (go_at_call 124;refine (lz_bit (obit_any db rb) ATD.out (4096+(X0+IX)) k.lb (X0+IX) 0 _ trivial HP.out.1 HP.out.2).mono ?_;rintro e w2 ⟨rfl,h2,f2⟩;rw [HBB.out] at h2 ⊢))
    all_goals
     have H2:=hid h2
     have F2:=hid ((FR.out.drew).trans f2)
     clear h2 f2
     go_wp2
     simp only [Exit.noGoto_normal]
     go_wp2
     go_meet
     refine ⟨q,2*m+bb,(q:Int)-1,_,by go_num,by go_num,rfl,by omega,?_,?_,G3.out,H2.out,F2.out⟩
     ·have:=HM1.out
      rw [show 8-q=8-(q+1)+1 by omega,Nat.pow_succ];omega
     have:=HM2.out
     rw [show 8-q+1=8-(q+1)+1+1 by omega,Nat.pow_succ];omega
  have h7i:(st:Int)<7:=by omega
  have h7d:decide (7≤st)=false:=decide_eq_false h7
  have hRR:=HQ.out
  rw [if_neg h7] at hRR
  have HQ2:=hid hRR
  clear hRR HQ AT HRR
  go_wp2
  go_meet
  case rel=>exact ⟨8,1,7,s,rfl,rfl,by omega,by omega,by simp,by simp,HQ2.out,ATD.out,FD.out⟩
 obtain ⟨r0,m0,i0,s0,rfl,rfl,hi0,hr0,hm01,hm02,hgo0,hat0,hfr0⟩:=hcut
 have GO0:=hid hgo0
 have AT0:=hid hat0
 have FR0:=hid hfr0
 clear hgo0 hat0 hfr0 AT ATD FD HQ
 have HI0:=hid hi0
 clear hi0
 go_wp2
 go_loopw [15,16] (fun nv iv wx=>∃ (r m:Nat) (i:Int) (s':CP Dec),nv=.int .i64 m∧iv=.int .i64 i∧i=(r:Int)-1∧r≤8∧2 ^ (8-r)≤m∧m<2 ^ (8-r+1)∧treeGo outC (4096+X0) 0 r m s'=RR∧LzAt (DC db rb) (DO db rb) T wx k st rep s'∧Frm (Wr (DO db rb) k) w wx) (fun _ iv _=>(intOf iv+1).toNat)
 case atStart=>exact ⟨r0,m0,i0,s0,rfl,rfl,HI0.out,hr0,hm01,hm02,GO0.out,AT0.out,FR0.out⟩
 obtain ⟨r,m,i,s',rfl,rfl,hi,hr,hm1,hm2,hgo,hat,hfr⟩:=hrel
 have GO:=hid hgo
 have AT:=hid hat
 have FR:=hid hfr
 clear hgo hat hfr GO0 AT0 FR0 HI0 hm01 hm02 hr0
 cases r with
 | zero =>
  obtain rfl:i = -1:=by omega
  clear hi
  have GO2:(m,s')=RR:=GO.out
  have hma:256≤m:=by simpa using hm1
  have hmb:m<512:=by simpa using hm2
  clear hm1 hm2 hr
  go_wp2
  go_ret
  rw [← HRR.out,← GO2]
  refine ⟨ret_u32 ?_,AT.out,FR.out⟩
  show _=((m-256:Nat):Int)
  omega
 | succ q =>
  obtain rfl:i=(q:Int):=by omega
  clear hi
  have hpow:m<2 ^ 8:=Nat.lt_of_lt_of_le hm2 (Nat.pow_le_pow_right (by omega) (by omega))
  have hml:m<768:=by omega
  have hmb:m<256:=by omega
  have hpos:1≤m:=Nat.le_trans (Nat.one_le_two_pow) hm1
  have HP:=hid (HPL.out (X0+m) (by have:=HFIT.out;omega))
  have HM1:=hid hm1
  have HM2:=hid hm2
  have ATD:=hid (AT.out.later (DC.keep db rb) ((Frm.refl _ _).drew))
  have hbl:=bitAt_le outC (4096+X0+m) 0 s'
  obtain ⟨bb,hbb⟩:∃ bb,(bitAt outC (4096+X0+m) 0 s').1=bb:=⟨_,rfl⟩
  rw [hbb] at hbl
  have hob:=or_bit (m:=m) (b:=bb) (by omega) hbl
  have HBB:=hid hbb
  have hmw:IntKind.i64.wrap ((m:Int)*2)=(m:Int)*2:=Go.IntWalk.i64_in _ (by omega)
  clear hm1 hm2 hpow hbb
  go_wp2
  go_region_with (first
   | (go_at_call 124;refine (lz_bit (obit_any db rb) ATD.out (4096+X0+m) k.lb (X0+m) 0 _ trivial (by rw [Nat.add_assoc];exact HP.out.1) (by rw [Nat.add_assoc];exact HP.out.2)).mono ?_;rintro e w2 ⟨rfl,h2,f2⟩;rw [HBB.out]))
  all_goals
   have H2:=hid h2
   have F2:=hid ((FR.out.drew).trans f2)
   clear h2 f2
   go_wp2
   refine ⟨⟨q,2*m+bb,(q:Int)-1,_,rfl,by go_num,rfl,by omega,?_,?_,?_,H2.out,F2.out⟩,by simp [intOf]⟩
   ·have:=HM1.out
    rw [show 8-q=8-(q+1)+1 by omega,Nat.pow_succ];omega
   ·have:=HM2.out
    rw [show 8-q+1=8-(q+1)+1+1 by omega,Nat.pow_succ];omega
   rw [← GO.out]
   show _=treeGo outC (4096+X0) 0 q (2*m+(bitAt outC (4096+X0+m) (0 / 2 ^ q % 2) s').1) (bitAt outC (4096+X0+m) (0 / 2 ^ q % 2) s').2
   rw [Nat.zero_div,Nat.zero_mod,HBB.out]
open Go.RowKit Rng Lz
def qcell (lc lp pb st:Nat) (rep:Nat→Nat) (pr:Pr) (lv:Value) (i:Nat):Value :=
 if i=0 then .int .i64 lc else if i=1 then .int .i64 lp else if i=2 then .int .i64 pb else if i=3 then .int .i64 st else if i<8 then .int .u32 (rep (i-4))
 else if i<1868 then .int .u16 (pr i) else lv
def qcells (lc lp pb st:Nat) (rep:Nat→Nat) (pr:Pr) (lv:Value):Array Value:=Array.ofFn (n:=1869) fun i=>qcell lc lp pb st rep pr lv i.val
theorem qcells_m (k:LK) (st:Nat) (rep:Nat→Nat) (pr:Pr):qcells k.lc k.lp k.pb st rep pr (.slice (some ⟨k.lb,0,none⟩) k.L k.L)=mcells k st rep pr:=rfl
theorem qcells_get (lc lp pb st:Nat) (rep:Nat→Nat) (pr:Pr) (lv:Value) {i:Nat} (h:i<1869):(qcells lc lp pb st rep pr lv)[i]?=some (qcell lc lp pb st rep pr lv i):=by
 unfold qcells
 rw [Array.getElem?_ofFn]
 simp [h]
theorem qcells_size (lc lp pb st:Nat) (rep:Nat→Nat) (pr:Pr) (lv:Value):(qcells lc lp pb st rep pr lv).size=1869:=by simp [qcells]
theorem qcells_eq {C:Array Value} {lc lp pb st:Nat} {rep:Nat→Nat} {pr:Pr} {lv:Value} (hs:C.size=1869) (h:∀ j,j<1869→C[j]?=some (qcell lc lp pb st rep pr lv j)):C=qcells lc lp pb st rep pr lv:=by
 apply Array.ext
 ·rw [hs,qcells_size]
 intro j h1 h2
 have hj:j<1869:=by rw [hs] at h1;exact h1
 have e1:=h j hj
 have e2:=qcells_get lc lp pb st rep pr lv hj
 rw [Array.getElem?_eq_getElem h1] at e1
 rw [Array.getElem?_eq_getElem h2] at e2
 exact Option.some.inj (e1.trans e2.symm)
def fillS (pr:Pr) (off n:Nat):Pr:=fun j=>if off≤j∧j<off+n then 1024 else pr j
def evenC (C C':Array Value) (off n:Nat):Prop:=C'.size=C.size∧∀ j,C'[j]?=if off≤j∧j<off+n then some (.int .u16 1024) else C[j]?
set_option maxRecDepth 100000 in
set_option maxHeartbeats 1000000 in
theorem even_any (b off n c:Nat) (C:Array Value) (T:TypeId) (w:World) (hp:Pts w b C T) (hfit:off+n≤C.size) (hn:n≤1000000) :
 Calls Tryz.prog 86 #[.slice (some ⟨b,off,none⟩) n c] w fun e w'=>e=.returned (.tuple #[])∧(∃ C',Pts w' b C' T∧evenC C C' off n)∧Frm (· = b) w w':=by
 have HP:=hid hp
 have HF:=hid hfit
 clear hp hfit
 go_enter Tryz.func86,Tryz.ntmps86
 go_wp2
 go_loopw [5] (fun iv wr=>∃ (i:Nat) (D:Array Value),iv=.int .i64 i∧i≤n∧Pts wr b D T∧evenC C D off i∧Frm (· = b) w wr) (fun iv _=>n-(intOf iv).toNat)
 case atStart=>exact ⟨0,C,rfl,by omega,HP.out,⟨rfl,fun j=>by rw [if_neg (by omega)]⟩,Frm.refl _ _⟩
 obtain ⟨i,D,rfl,hi,hd,he,hf⟩:=hrel
 have HD:=hid hd
 have HE:=hid he
 have HFR:=hid hf
 by_cases hlt:i<n
 ·have hlt2:off+i<D.size:=by rw [he.1];have:=HF.out;omega
  have hcell:_=_:=hd.cell (off+i)
  rw [Array.getElem?_eq_getElem hlt2] at hcell
  have hfz:=hd.frozen (off+i)
  have hset:=hd.set (off+i) (.int .u16 1024)
  have hee:evenC C (D.setIfInBounds (off+i) (.int .u16 1024)) off (i+1):=by
   refine ⟨by rw [Array.size_setIfInBounds];exact he.1,fun j=>?_⟩
   by_cases e:j=off+i
   ·subst e
    rw [Array.getElem?_setIfInBounds_self_of_lt hlt2,if_pos (by omega)]
   rw [Array.getElem?_setIfInBounds_ne (fun h=>e h.symm),he.2 j]
   by_cases h1:off≤j∧j<off+i
   ·rw [if_pos h1,if_pos (by omega)]
   rw [if_neg h1,if_neg (by omega)]
  have HS:=hid hset
  have HE2:=hid hee
  have HF2:=hid (hf.setCell (p:=⟨b,off+i,none⟩) rfl (.int .u16 1024))
  generalize D[off+i]=xv at hcell
  clear hd he hf hset hee
  go_wp2
  exact ⟨⟨i+1,_,by go_num,by omega,HS.out,HE2.out,HF2.out⟩,by simp [intOf];omega⟩
 obtain rfl:i=n:=by omega
 clear hd he hf
 go_wp2
 go_end0
 exact ⟨rfl,⟨D,HD.out,HE.out⟩,HFR.out⟩
theorem evenC.q {C':Array Value} {lc lp pb st:Nat} {rep:Nat→Nat} {pr:Pr} {lv:Value} {off n:Nat} (h:evenC (qcells lc lp pb st rep pr lv) C' off n) (h1:8≤off) (h2:off+n≤1868):C'=qcells lc lp pb st rep (fillS pr off n) lv:=by
 refine qcells_eq (by rw [h.1,qcells_size]) fun j hj=>?_
 rw [h.2 j,qcells_get _ _ _ _ _ _ _ hj]
 unfold qcell fillS
 by_cases e:off≤j∧j<off+n
 ·rw [if_pos e,if_neg (by omega),if_neg (by omega),if_neg (by omega),if_neg (by omega),if_neg (by omega),if_pos (by omega),if_pos e]
  rfl
 simp only [if_neg e]
theorem even_q (b off n c lc lp pb st:Nat) (rep:Nat→Nat) (pr:Pr) (lv:Value) (T:TypeId) (w:World) (hp:Pts w b (qcells lc lp pb st rep pr lv) T) (h1:8≤off) (h2:off+n≤1868) :
 Calls Tryz.prog 86 #[.slice (some ⟨b,off,none⟩) n c] w fun e w'=>e=.returned (.tuple #[])∧Pts w' b (qcells lc lp pb st rep (fillS pr off n) lv) T∧Frm (· = b) w w':=by
 refine (even_any b off n c _ T w hp (by rw [qcells_size];omega) (by omega)).mono ?_
 rintro e w' ⟨rfl,⟨C',h3,h4⟩,h5⟩
 rw [h4.q h1 h2] at h3
 exact ⟨rfl,h3,h5⟩
open Go.RowKit Rng Lz
def Mo (pr pr':Pr):Prop:=∀ j,pr j=1024→pr' j=1024
def Ev (pr:Pr) (lo hi:Nat):Prop:=∀ j,lo≤j→j<hi→pr j=1024
theorem Mo.trans {a b c:Pr} (h:Mo a b) (k:Mo b c):Mo a c:=fun j hj=>k j (h j hj)
theorem Mo.fill (pr:Pr) (off n:Nat):Mo pr (fillS pr off n):=fun j h=>by unfold fillS;split;rfl;exact h
theorem Ev.fill (pr:Pr) (off n:Nat):Ev (fillS pr off n) off (off+n):=fun j h1 h2=>by unfold fillS;rw [if_pos ⟨h1,h2⟩]
theorem Ev.mo {pr pr':Pr} {lo hi:Nat} (h:Ev pr lo hi) (k:Mo pr pr'):Ev pr' lo hi:=fun j h1 h2=>k j (h j h1 h2)
theorem Ev.more {pr:Pr} {lo mid hi:Nat} (h:Ev pr lo mid) (k:Ev pr mid hi):Ev pr lo hi:=fun j h1 h2=>by
 by_cases hm:j<mid
 ·exact h j h1 hm
 exact k j (by omega) h2
theorem Ev.none (pr:Pr) {lo hi:Nat} (h:hi≤lo):Ev pr lo hi:=fun j h1 h2=>by omega
set_option maxRecDepth 100000 in
set_option maxHeartbeats 1000000 in
theorem lreset_any (b base lc lp pb st:Nat) (rep:Nat→Nat) (pr:Pr) (lv:Value) (T:TypeId) (w:World) (hp:Pts w b (qcells lc lp pb st rep pr lv) T) (hb:base=840∨base=1354) :
 Calls Tryz.prog 87 #[.pointer (some ⟨b,base,none⟩)] w fun e w'=>e=.returned (.tuple #[])∧(∃ pr',Pts w' b (qcells lc lp pb st rep pr' lv) T∧Mo pr pr'∧Ev pr' base (base+514))∧Frm (· = b) w w':=by
 have HP:=hid hp
 have HB:=hid hb
 clear hp hb
 go_enter Tryz.func87,Tryz.ntmps87
 go_wp2_with fail
 refine (even_q b base 2 _ lc lp pb st rep pr lv T w HP.out (by have:=HB.out;omega) (by have:=HB.out;omega)).mono ?_;rintro e w1 ⟨rfl,h1,f1⟩
 have H1:=hid h1
 have F1:=hid f1
 clear h1 f1
 go_wp2
 go_loopw [8] (fun iv wr=>∃ (i:Nat) (pq:Pr),iv=.int .i64 i∧i≤16∧Pts wr b (qcells lc lp pb st rep pq lv) T∧Mo pr pq∧Ev pq base (base+2+i*8)∧Ev pq (base+130) (base+130+i*8)∧Frm (· = b) w wr) (fun iv _=>16-(intOf iv).toNat)
 case atStart=>exact ⟨0,_,rfl,by omega,H1.out,Mo.fill _ _ _,Ev.fill _ _ _,Ev.none _ (by omega),F1.out⟩
 obtain ⟨i,pq,rfl,hi,hq,hmo,he1,he2,hf⟩:=hrel
 have HQ:=hid hq
 have MO:=hid hmo
 have E1:=hid he1
 have E2:=hid he2
 have FR:=hid hf
 clear hq hmo he1 he2 hf H1 F1
 by_cases hlt:i<16
 ·go_wp2_with fail
  refine (even_q b _ 8 _ lc lp pb st rep pq lv T _ HQ.out (by have:=HB.out;omega) (by have:=HB.out;omega)).mono ?_;rintro e w2 ⟨rfl,h2,f2⟩
  have H2:=hid h2
  have F2:=hid (FR.out.trans f2)
  clear h2 f2
  go_wp2_with fail
  refine (even_q b _ 8 _ lc lp pb st rep _ lv T _ H2.out (by have:=HB.out;omega) (by have:=HB.out;omega)).mono ?_;rintro e w3 ⟨rfl,h3,f3⟩
  have H3:=hid h3
  have F3:=hid (F2.out.trans f3)
  clear h3 f3
  go_wp2
  refine ⟨⟨i+1,_,by go_num,by omega,H3.out,(MO.out.trans (Mo.fill _ _ _)).trans (Mo.fill _ _ _),?_,?_,F3.out⟩,by simp [intOf];omega⟩
  ·have e:=((E1.out.mo (Mo.fill pq (base+2+i*8) 8)).more (Ev.fill pq (base+2+i*8) 8)).mo (Mo.fill (fillS pq (base+2+i*8) 8) (base+130+i*8) 8)
   rw [show base+2+(i+1)*8=base+2+i*8+8 by omega]
   exact e
  have e:=((E2.out.mo (Mo.fill pq (base+2+i*8) 8)).mo (Mo.fill (fillS pq (base+2+i*8) 8) (base+130+i*8) 8)).more (Ev.fill (fillS pq (base+2+i*8) 8) (base+130+i*8) 8)
  rw [show base+130+(i+1)*8=base+130+i*8+8 by omega]
  exact e
 obtain rfl:i=16:=by omega
 go_wp2_with fail
 refine (even_q b _ 256 _ lc lp pb st rep pq lv T _ HQ.out (by have:=HB.out;omega) (by have:=HB.out;omega)).mono ?_;rintro e w2 ⟨rfl,h2,f2⟩
 have H2:=hid h2
 have F2:=hid (FR.out.trans f2)
 clear h2 f2
 go_wp2
 go_end0
 refine ⟨rfl,⟨_,H2.out,MO.out.trans (Mo.fill _ _ _),?_⟩,F2.out⟩
 have e:=(((E1.out.more E2.out).mo (Mo.fill pq (base+258) 256)).more (Ev.fill pq (base+258) 256))
 exact e
open Go.RowKit Rng Lz
theorem Frm.transW {S T:Nat→Prop} {a b c:World} (h:Frm S a b) (k:Frm T b c) (hs:∀ q,T q→q<a.heap.size→S q):Frm S a c :=
 ⟨k.os.trans h.os,k.tape.trans h.tape,k.output.trans h.output,Nat.le_trans h.size k.size,fun q hq hS=>(k.block q (Nat.lt_of_lt_of_le hq h.size) (fun ht=>hS (hs q ht hq))).trans (h.block q hq hS)⟩
theorem qcells_st (lc lp pb st st':Nat) (rep:Nat→Nat) (pr:Pr) (lv:Value):(qcells lc lp pb st rep pr lv).setIfInBounds 3 (.int .i64 (st':Int))=qcells lc lp pb st' rep pr lv:=by
 refine qcells_eq (by rw [Array.size_setIfInBounds,qcells_size]) fun j hj=>?_
 by_cases e:j=3
 ·subst e
  rw [Array.getElem?_setIfInBounds_self_of_lt (by rw [qcells_size];omega)];rfl
 rw [Array.getElem?_setIfInBounds_ne (fun h=>e h.symm),qcells_get _ _ _ _ _ _ _ hj]
 unfold qcell
 simp only [if_neg e]
theorem qcells_lv (lc lp pb st:Nat) (rep:Nat→Nat) (pr:Pr) (lv lv':Value):(qcells lc lp pb st rep pr lv).setIfInBounds 1868 lv'=qcells lc lp pb st rep pr lv':=by
 refine qcells_eq (by rw [Array.size_setIfInBounds,qcells_size]) fun j hj=>?_
 by_cases e:j=1868
 ·subst e
  rw [Array.getElem?_setIfInBounds_self_of_lt (by rw [qcells_size];omega)];rfl
 rw [Array.getElem?_setIfInBounds_ne (fun h=>e h.symm),qcells_get _ _ _ _ _ _ _ hj]
 unfold qcell
 by_cases h2:j<1868
 ·simp only [if_pos h2]
 omega
theorem qcells_rep (lc lp pb st:Nat) (rep:Nat→Nat) (pr:Pr) (lv:Value) {i:Nat} (h:i<4) (v:Nat):(qcells lc lp pb st rep pr lv).setIfInBounds (4+i) (.int .u32 (v:Int))=qcells lc lp pb st (fun j=>if j=i then v else rep j) pr lv:=by
 refine qcells_eq (by rw [Array.size_setIfInBounds,qcells_size]) fun j hj=>?_
 by_cases e:j=4+i
 ·subst e
  rw [Array.getElem?_setIfInBounds_self_of_lt (by rw [qcells_size];omega)]
  unfold qcell
  rw [if_neg (by omega),if_neg (by omega),if_neg (by omega),if_neg (by omega),if_pos (by omega)]
  simp
 rw [Array.getElem?_setIfInBounds_ne (fun h=>e h.symm),qcells_get _ _ _ _ _ _ _ hj]
 unfold qcell
 have:j<8→4≤j→¬ j-4=i:=fun _ _=>by omega
 by_cases h8:j<8
 ·by_cases h4:4≤j
  ·simp only [if_neg (this h8 h4)]
  have a:j=0∨j=1∨j=2∨j=3:=by omega
  rcases a with rfl | rfl | rfl | rfl <;> rfl
 simp only [if_neg h8]
theorem qcells_rep0 (lc lp pb st:Nat) (rep:Nat→Nat) (pr:Pr) (lv:Value) :
 ((((qcells lc lp pb st rep pr lv).setIfInBounds 4 (.int .u32 0)).setIfInBounds 5 (.int .u32 0)).setIfInBounds 6 (.int .u32 0)).setIfInBounds 7 (.int .u32 0)=qcells lc lp pb st (fun _=>0) pr lv:=by
 have h0:=qcells_rep lc lp pb st rep pr lv (i:=0) (by omega) 0
 have h1:=qcells_rep lc lp pb st (fun j=>if j=0 then 0 else rep j) pr lv (i:=1) (by omega) 0
 have h2:=qcells_rep lc lp pb st (fun j=>if j=1 then 0 else (if j=0 then 0 else rep j)) pr lv (i:=2) (by omega) 0
 have h3:=qcells_rep lc lp pb st (fun j=>if j=2 then 0 else (if j=1 then 0 else (if j=0 then 0 else rep j))) pr lv (i:=3) (by omega) 0
 have e0:(qcells lc lp pb st rep pr lv).setIfInBounds 4 (.int .u32 0)=_:=h0
 rw [e0]
 refine (congrArg (fun C=>(Array.setIfInBounds C 6 (Value.int .u32 0)).setIfInBounds 7 (Value.int .u32 0)) h1).trans ?_
 refine (congrArg (fun C=>Array.setIfInBounds C 7 (Value.int .u32 0)) h2).trans ?_
 refine h3.trans ?_
 apply qcells_eq (qcells_size _ _ _ _ _ _ _)
 intro j hj
 rw [qcells_get _ _ _ _ _ _ _ hj]
 unfold qcell
 by_cases h8:j<8
 ·have a:j=0∨j=1∨j=2∨j=3∨j=4∨j=5∨j=6∨j=7:=by omega
  rcases a with rfl | rfl | rfl | rfl | rfl | rfl | rfl | rfl <;> rfl
 simp only [if_neg h8]
theorem Tryz.info_u16l:(Tryz.prog.info? 131).map (fun i=>(i.zero,i.size,i.bytes))=some (some (.int .u16 0),1,2):=by kernel_rfl
theorem make_tree (n:Nat) (hn:n≤16777216) (w:World) :
 (Instr.makeSlice 146 (.int .i64 (n:Int)) (.int .i64 (n:Int))).run Tryz.prog w=.ok (.slice (some ⟨w.heap.size,0,none⟩) n n) (w.alloc (.cells (madeCells #[.int .u16 0] n) 131)):=by
 obtain ⟨i,hi,hz⟩:=Option.map_eq_some_iff.1 Tryz.info_u16l
 simp only [Prod.mk.injEq] at hz
 have h:=run_make (P:=Tryz.prog) w 146 131 i (.int .u16 0) Tryz.underlying146 hi hz.1 .i64 .i64 n n (by omega) (by omega) (by rw [hz.2.2];omega) (by omega)
 rw [hz.2.1] at h
 simp only [Int.toNat_natCast,Nat.mul_one] at h
 exact h
set_option maxRecDepth 100000 in
set_option maxHeartbeats 2000000 in
theorem mreset_any (k0 lc lp pb st:Nat) (rep:Nat→Nat) (pr:Pr) (lv:Value) (T:TypeId) (w:World) (hp:Pts w k0 (qcells lc lp pb st rep pr lv) T) (hcl:lc+lp≤4) (hlv:∃ A n c,lv=.slice A n c) (hpb:pb≤4) :
 Calls Tryz.prog 74 #[.pointer (some ⟨k0,0,none⟩)] w fun e w'=>e=.returned (.tuple #[])∧∃ lb,w.heap.size≤lb∧Pts w' k0 (mcells ⟨k0,lb,lc,lp,pb⟩ 0 (fun _=>0) (fun _=>1024)) T∧Pts w' lb (lcells ⟨k0,lb,lc,lp,pb⟩ (fun _=>1024)) 131∧Frm (· = k0) w w':=by
 have hc:=fun {i:Nat} (h:i<8)=>(hp.cell i).trans (qcells_get lc lp pb st rep pr lv (i:=i) (by omega))
 have c3:w.cell? ⟨k0,3,none⟩=some (.int .i64 st):=hc (i:=3) (by omega)
 have c4:w.cell? ⟨k0,4,none⟩=some (.int .u32 (rep 0)):=hc (i:=4) (by omega)
 have c5:w.cell? ⟨k0,5,none⟩=some (.int .u32 (rep 1)):=hc (i:=5) (by omega)
 have c6:w.cell? ⟨k0,6,none⟩=some (.int .u32 (rep 2)):=hc (i:=6) (by omega)
 have c7:w.cell? ⟨k0,7,none⟩=some (.int .u32 (rep 3)):=hc (i:=7) (by omega)
 have f3:=hp.frozen 3
 have f4:=hp.frozen 4
 have f5:=hp.frozen 5
 have f6:=hp.frozen 6
 have f7:=hp.frozen 7
 have HP:=hid hp
 clear hp hc
 go_enter Tryz.func74,Tryz.ntmps74
 go_wp2_with fail
 have hq0:Pts (((((w.setCell ⟨k0,3,none⟩ (.int .i64 0)).setCell ⟨k0,4,none⟩ (.int .u32 0)).setCell ⟨k0,5,none⟩ (.int .u32 0)).setCell ⟨k0,6,none⟩ (.int .u32 0)).setCell ⟨k0,7,none⟩ (.int .u32 0)) k0 (qcells lc lp pb 0 (fun _=>0) pr lv) T:=by
  have h:=((((HP.out.set 3 (.int .i64 ((0:Nat):Int))).set 4 (.int .u32 0)).set 5 (.int .u32 0)).set 6 (.int .u32 0)).set 7 (.int .u32 0)
  rw [qcells_st,qcells_rep0] at h
  exact h
 have hf0:Frm (· = k0) w (((((w.setCell ⟨k0,3,none⟩ (.int .i64 0)).setCell ⟨k0,4,none⟩ (.int .u32 0)).setCell ⟨k0,5,none⟩ (.int .u32 0)).setCell ⟨k0,6,none⟩ (.int .u32 0)).setCell ⟨k0,7,none⟩ (.int .u32 0)) :=
  (((((Frm.refl (· = k0) w).setCell (p:=⟨k0,3,none⟩) rfl _).setCell (p:=⟨k0,4,none⟩) rfl _).setCell (p:=⟨k0,5,none⟩) rfl _).setCell (p:=⟨k0,6,none⟩) rfl _).setCell (p:=⟨k0,7,none⟩) rfl _
 generalize (((((w.setCell ⟨k0,3,none⟩ (.int .i64 0)).setCell ⟨k0,4,none⟩ (.int .u32 0)).setCell ⟨k0,5,none⟩ (.int .u32 0)).setCell ⟨k0,6,none⟩ (.int .u32 0)).setCell ⟨k0,7,none⟩ (.int .u32 0))=wa at *
 have HQ0:=hid hq0
 have HF0:=hid hf0
 clear hq0 hf0 c3 c4 c5 c6 c7 f3 f4 f5 f6 f7 HP
 go_loopw [12] (fun iv wr=>∃ (i:Nat) (pq:Pr),iv=.int .i64 i∧i≤12∧Pts wr k0 (qcells lc lp pb 0 (fun _=>0) pq lv) T∧Ev pq 8 (8+i*16)∧Ev pq 248 (248+i*16)∧Frm (· = k0) w wr) (fun iv _=>12-(intOf iv).toNat)
 case atStart=>exact ⟨0,pr,rfl,by omega,HQ0.out,Ev.none _ (by omega),Ev.none _ (by omega),HF0.out⟩
 obtain ⟨i,pq,rfl,hi,hq,he1,he2,hf⟩:=hrel
 have HQ:=hid hq
 have E1:=hid he1
 have E2:=hid he2
 have FR:=hid hf
 clear hq he1 he2 hf HQ0 HF0
 by_cases hlt:i<12
 ·go_wp2_with fail
  refine (even_q k0 _ 16 _ lc lp pb 0 _ pq lv T _ HQ.out (by omega) (by omega)).mono ?_;rintro e w2 ⟨rfl,h2,f2⟩
  have H2:=hid h2
  have F2:=hid (FR.out.trans f2)
  clear h2 f2
  go_wp2_with fail
  refine (even_q k0 _ 16 _ lc lp pb 0 _ _ lv T _ H2.out (by omega) (by omega)).mono ?_;rintro e w3 ⟨rfl,h3,f3⟩
  have H3:=hid h3
  have F3:=hid (F2.out.trans f3)
  clear h3 f3
  go_wp2
  refine ⟨⟨i+1,_,by go_num,by omega,H3.out,?_,?_,F3.out⟩,by simp [intOf];omega⟩
  ·have e:=((E1.out.mo (Mo.fill pq (8+i*16) 16)).more (Ev.fill pq (8+i*16) 16)).mo (Mo.fill (fillS pq (8+i*16) 16) (248+i*16) 16)
   rw [show 8+(i+1)*16=8+i*16+16 by omega]
   exact e
  have e:=((E2.out.mo (Mo.fill pq (8+i*16) 16)).mo (Mo.fill (fillS pq (8+i*16) 16) (248+i*16) 16)).more (Ev.fill (fillS pq (8+i*16) 16) (248+i*16) 16)
  rw [show 248+(i+1)*16=248+i*16+16 by omega]
  exact e
 obtain rfl:i=12:=by omega
 go_wp2_with fail
 refine (even_q k0 200 12 _ lc lp pb 0 _ pq lv T _ HQ.out (by omega) (by omega)).mono ?_;rintro e w2 ⟨rfl,h2,f2⟩
 have H2:=hid h2
 have F2:=hid (FR.out.trans f2)
 have G1:Hid (Ev (fillS pq 200 12) 8 212):=hid ((E1.out.mo (Mo.fill pq 200 12)).more (Ev.fill pq 200 12))
 have G2:Hid (Ev (fillS pq 200 12) 248 440):=hid (E2.out.mo (Mo.fill pq 200 12))
 generalize fillS pq 200 12=p2 at H2 G1 G2
 clear h2 f2 HQ E1 E2 FR
 go_wp2
 go_loopw [35] (fun iv wr=>∃ (i:Nat) (pq:Pr),iv=.int .i64 i∧i≤3∧Pts wr k0 (qcells lc lp pb 0 (fun _=>0) pq lv) T∧Ev pq 8 (212+i*12)∧Ev pq 248 440∧Frm (· = k0) w wr) (fun iv _=>3-(intOf iv).toNat)
 case atStart=>exact ⟨0,p2,rfl,by omega,H2.out,G1.out,G2.out,F2.out⟩
 obtain ⟨i,pq,rfl,hi,hq,he1,he2,hf⟩:=hrel
 have HQ:=hid hq
 have E1:=hid he1
 have E2:=hid he2
 have FR:=hid hf
 clear hq he1 he2 hf H2 F2 G1 G2
 by_cases hlt:i<3
 ·go_wp2_with fail
  refine (even_q k0 _ 12 _ lc lp pb 0 _ pq lv T _ HQ.out (by omega) (by omega)).mono ?_;rintro e w2 ⟨rfl,h2,f2⟩
  have H2:=hid h2
  have F2:=hid (FR.out.trans f2)
  clear h2 f2
  go_wp2
  refine ⟨⟨i+1,_,by go_num,by omega,H2.out,?_,E2.out.mo (Mo.fill _ _ _),F2.out⟩,by simp [intOf];omega⟩
  have e:=(E1.out.mo (Mo.fill pq (212+i*12) 12)).more (Ev.fill pq (212+i*12) 12)
  rw [show 212+(i+1)*12=212+i*12+12 by omega]
  exact e
 obtain rfl:i=3:=by omega
 have G1:Hid (Ev pq 8 440):=hid (E1.out.more E2.out)
 clear E1 E2
 go_wp2
 go_loopw [46] (fun iv wr=>∃ (i:Nat) (pq:Pr),iv=.int .i64 i∧i≤4∧Pts wr k0 (qcells lc lp pb 0 (fun _=>0) pq lv) T∧Ev pq 8 (440+i*64)∧Frm (· = k0) w wr) (fun iv _=>4-(intOf iv).toNat)
 case atStart=>exact ⟨0,pq,rfl,by omega,HQ.out,G1.out,FR.out⟩
 obtain ⟨i,pq,rfl,hi,hq,he1,hf⟩:=hrel
 have HQ2:=hid hq
 have E1:=hid he1
 have FR2:=hid hf
 clear hq he1 hf HQ G1 FR
 by_cases hlt:i<4
 ·go_wp2_with fail
  refine (even_q k0 _ 64 _ lc lp pb 0 _ pq lv T _ HQ2.out (by omega) (by omega)).mono ?_;rintro e w2 ⟨rfl,h2,f2⟩
  have H2:=hid h2
  have F2:=hid (FR2.out.trans f2)
  clear h2 f2
  go_wp2
  have e:=(E1.out.mo (Mo.fill pq (440+i*64) 64)).more (Ev.fill pq (440+i*64) 64)
  rw [show 440+i*64+64=440+(i+1)*64 by omega] at e
  refine ⟨?_,by simp [intOf];omega⟩
  repeat apply Exists.intro
  exact ⟨⟨i+1,_,rfl,by omega,H2.out,e,F2.out⟩,rfl⟩
 obtain rfl:i=4:=by omega
 go_wp2_with fail
 refine (even_q k0 696 128 _ lc lp pb 0 _ pq lv T _ HQ2.out (by omega) (by omega)).mono ?_;rintro e w2 ⟨rfl,h2,f2⟩
 have H2:=hid h2
 have F2:=hid (FR2.out.trans f2)
 have G1:Hid (Ev (fillS pq 696 128) 8 824):=hid ((E1.out.mo (Mo.fill pq 696 128)).more (Ev.fill pq 696 128))
 generalize fillS pq 696 128=p2 at H2 G1
 clear h2 f2 HQ2 E1 FR2
 go_wp2_with fail
 refine (even_q k0 824 16 _ lc lp pb 0 _ p2 lv T _ H2.out (by omega) (by omega)).mono ?_;rintro e w3 ⟨rfl,h3,f3⟩
 have H3:=hid h3
 have F3:=hid (F2.out.trans f3)
 have G3:Hid (Ev (fillS p2 824 16) 8 840):=hid ((G1.out.mo (Mo.fill p2 824 16)).more (Ev.fill p2 824 16))
 generalize fillS p2 824 16=p3 at H3 G3
 clear h3 f3 H2 F2 G1
 go_wp2_with fail
 refine (lreset_any k0 840 lc lp pb 0 _ p3 lv T _ H3.out (.inl rfl)).mono ?_;rintro e w4 ⟨rfl,⟨p4,h4,m4,e4⟩,f4⟩
 have H4:=hid h4
 have F4:=hid (F3.out.trans f4)
 have G4:Hid (Ev p4 8 1354):=hid ((G3.out.mo m4).more e4)
 clear h4 f4 m4 e4 H3 F3 G3
 go_wp2_with fail
 refine (lreset_any k0 1354 lc lp pb 0 _ p4 lv T _ H4.out (.inr rfl)).mono ?_;rintro e w5 ⟨rfl,⟨p5,h5,m5,e5⟩,f5⟩
 have F5:=hid (F4.out.trans f5)
 have G5:Hid (Ev p5 8 1868):=hid ((G4.out.mo m5).more e5)
 have hq5:Pts w5 k0 (qcells lc lp pb 0 (fun _=>0) (fun _=>1024) lv) T:=by
  have e:qcells lc lp pb 0 (fun _=>0) p5 lv=qcells lc lp pb 0 (fun _=>0) (fun _=>1024) lv:=by
   refine qcells_eq (qcells_size _ _ _ _ _ _ _) fun j hj=>?_
   rw [qcells_get _ _ _ _ _ _ _ hj]
   unfold qcell
   by_cases h8:8≤j∧j<1868
   ·rw [G5.out j h8.1 h8.2]
   by_cases h9:j<8
   ·simp only [if_pos h9]
   have:¬ j<1868:=by omega
   simp only [if_neg this]
  rw [← e];exact h5
 have H5:=hid hq5
 have c0:w5.cell? ⟨k0,0,none⟩=some (.int .i64 lc):=(hq5.cell 0).trans (qcells_get lc lp pb 0 _ _ lv (i:=0) (by omega))
 have c1:w5.cell? ⟨k0,1,none⟩=some (.int .i64 lp):=(hq5.cell 1).trans (qcells_get lc lp pb 0 _ _ lv (i:=1) (by omega))
 have c9:w5.cell? ⟨k0,1868,none⟩=some lv:=(hq5.cell 1868).trans (qcells_get lc lp pb 0 _ _ lv (i:=1868) (by omega))
 have f9:=hq5.frozen 1868
 clear h5 f5 m5 e5 H4 F4 G4 hq5
 obtain ⟨A9,n9,c9v,rfl⟩:=hlv
 obtain ⟨E,hE⟩:∃ E,lc+lp=E:=⟨_,rfl⟩
 have hEi:(lc:Int)+(lp:Int)=(E:Int):=by omega
 have hPle:2 ^ E≤2 ^ 4:=Nat.pow_le_pow_right (by omega) (by omega)
 obtain ⟨P,hP⟩:∃ P,2 ^ E=P:=⟨_,rfl⟩
 have hPi:(2:Int) ^ E=(P:Int):=by rw [← hP];simp
 rw [hP] at hPle
 obtain ⟨L,hL⟩:∃ L,768*P=L:=⟨_,rfl⟩
 have hLi:(768:Int)*(P:Int)=(L:Int):=by omega
 have hLb:L≤12288:=by omega
 have hEu:IntKind.u64.wrap (E:Int)=(E:Int):=Go.IntWalk.u64_in _ (by omega)
 have hEw:IntKind.i64.wrap (E:Int)=(E:Int):=Go.IntWalk.i64_in _ (by omega)
 have hE64:min E 64=E:=by omega
 have hLw:IntKind.i64.wrap (L:Int)=(L:Int):=Go.IntWalk.i64_in _ (by omega)
 have hmk:=make_tree L (by omega)
 have HLL:Hid (∀ lb,(⟨k0,lb,lc,lp,pb⟩:LK).L=L):=hid (fun lb=>by unfold LK.L;simp only;rw [hE,hP,hL])
 clear hE hP hL
 have hpa:=H5.out.alloc (.cells (madeCells #[.int .u16 0] L) 131)
 have c9a:(w5.alloc (.cells (madeCells #[.int .u16 0] L) 131)).cell? ⟨k0,1868,none⟩=some (.slice A9 n9 c9v):=(hpa.cell 1868).trans (qcells_get lc lp pb 0 _ _ _ (i:=1868) (by omega))
 have f9a:=hpa.frozen 1868
 have HPA:=hid hpa
 have hk0:=H5.out.lt
 clear hpa
 go_wp2
 go_region
 all_goals
  obtain ⟨lb,hlb⟩:∃ lb,w5.heap.size=lb:=⟨_,rfl⟩
  have h6:=((H5.out.set 1868 (.slice (some ⟨lb,0,none⟩) L L)).alloc (.cells (madeCells #[.int .u16 0] L) 131)).drew
  rw [qcells_lv] at h6
  have h7:=(Pts.new (w5.setCell ⟨k0,1868,none⟩ (.slice (some ⟨lb,0,none⟩) L L)) (madeCells #[.int .u16 0] L) 131).drew
  have hsz:(w5.setCell ⟨k0,1868,none⟩ (.slice (some ⟨lb,0,none⟩) L L)).heap.size=lb:=by show (w5.heap.modify _ _).size=_;simp only [Array.size_modify];exact hlb
  rw [hsz] at h7
  have f6:=((F5.out.setCell (p:=⟨k0,1868,none⟩) rfl (.slice (some ⟨lb,0,none⟩) L L)).alloc (.cells (madeCells #[.int .u16 0] L) 131)).drew
  simp only [hlb]
  generalize ((w5.setCell ⟨k0,1868,none⟩ (.slice (some ⟨lb,0,none⟩) L L)).alloc (.cells (madeCells #[.int .u16 0] L) 131)).drew=w6 at *
  have d9:w6.cell? ⟨k0,1868,none⟩=some (.slice (some ⟨lb,0,none⟩) L L):=(h6.cell 1868).trans (qcells_get lc lp pb 0 _ _ _ (i:=1868) (by omega))
  have H6:=hid h6
  have H7:=hid h7
  have F6:=hid f6
  have hlb0:w.heap.size≤lb:=by rw [← hlb];exact F5.out.size
  clear h6 h7 f6 HPA hsz hmk c9 f9 c9a f9a c0 c1
  go_wp2_with fail
  refine (even_any lb 0 L _ _ _ _ H7.out (by rw [size_madeCells];omega) (by omega)).mono ?_;rintro e w7 ⟨rfl,⟨C',h8,he8⟩,f8⟩
  have hC:C'=lcells ⟨k0,lb,lc,lp,pb⟩ (fun _=>1024):=by
   have hcs:C'.size=L:=by rw [he8.1,size_madeCells]
   apply Array.ext
   ·rw [hcs];simp only [lcells,Array.size_ofFn];exact (HLL.out lb).symm
   intro j h1 h2
   have hj:j<L:=by rw [hcs] at h1;exact h1
   have e1:=he8.2 j
   rw [if_pos ⟨Nat.zero_le _,by omega⟩,Array.getElem?_eq_getElem h1] at e1
   have e2:=lcells_get ⟨k0,lb,lc,lp,pb⟩ (fun _=>1024) (j:=j) (by rw [HLL.out lb];exact hj)
   rw [Array.getElem?_eq_getElem h2] at e2
   exact (Option.some.inj e1).trans (Option.some.inj e2).symm
  subst hC
  have H8:=hid h8
  have H9:=hid (H6.out.frm f8 (by intro e;omega))
  have F8:=hid (F6.out.transW f8 (fun q hq hqw=>by omega))
  clear h8 he8 f8
  go_wp2
  go_end0
  refine ⟨rfl,lb,hlb0,?_,H8.out,F8.out⟩
  have e:=qcells_m ⟨k0,lb,lc,lp,pb⟩ 0 (fun _=>0) (fun _=>1024)
  rw [HLL.out lb] at e
  rw [← e]
  exact H9.out
open Go.RowKit Rng Lz
theorem lreset_st (k0 lc lp pb st:Nat) (rep:Nat→Nat) (pr:Pr) (lv:Value) (T:TypeId) (w:World) (hp:Pts w k0 (qcells lc lp pb st rep pr lv) T) (hcl:lc+lp≤4) (hlv:∃ A n c,lv=.slice A n c) (hpb:pb≤4) :
 Calls Tryz.prog 99 #[.pointer (some ⟨k0,0,none⟩)] w fun e w'=>e=.returned (.tuple #[])∧∃ lb,w.heap.size≤lb∧Pts w' k0 (mcells ⟨k0,lb,lc,lp,pb⟩ 0 (fun _=>0) (fun _=>1024)) T∧Pts w' lb (lcells ⟨k0,lb,lc,lp,pb⟩ (fun _=>1024)) 131∧Frm (· = k0) w w':=by
 have HP:=hid hp
 clear hp
 go_enter Tryz.func99,Tryz.ntmps99
 go_wp2_with fail
 refine (mreset_any k0 lc lp pb st rep pr lv T w HP.out hcl hlv hpb).mono ?_;rintro e w1 ⟨rfl,h1⟩
 have H1:=hid h1
 clear h1
 go_wp2
 go_end0
 exact ⟨rfl,H1.out⟩
open Go.RowKit Rng Lz
theorem fold_list:∀ (l:List Value) (k:Nat) (Z:Array Value),k+l.length≤Z.size →
 ((l.zipIdx k).foldl (fun (cs:Array Value) x=>cs.setIfInBounds x.2 x.1) Z).size=Z.size∧∀ j,((l.zipIdx k).foldl (fun (cs:Array Value) x=>cs.setIfInBounds x.2 x.1) Z)[j]?=if k≤j∧j<k+l.length then l[j-k]? else Z[j]?
 | [],k,Z,h=>⟨rfl,fun j=>by rw [if_neg (by simp only [List.length_nil];omega)];rfl⟩
 | v::l,k,Z,h=>by
  have h':k+1+l.length≤(Z.setIfInBounds k v).size:=by rw [Array.size_setIfInBounds];simp only [List.length_cons] at h;omega
  obtain ⟨i1,i2⟩:=fold_list l (k+1) (Z.setIfInBounds k v) h'
  simp only [List.zipIdx_cons,List.foldl_cons]
  refine ⟨by rw [i1,Array.size_setIfInBounds],fun j=>?_⟩
  rw [i2 j]
  simp only [List.length_cons] at h ⊢
  by_cases e:j=k
  ·subst e
   rw [if_neg (by omega),if_pos (by omega),Nat.sub_self,Array.getElem?_setIfInBounds_self_of_lt (by omega)]
   rfl
  by_cases e2:k+1≤j∧j<k+1+l.length
  ·rw [if_pos e2,if_pos (by omega),show j-k=(j-(k+1))+1 by omega,List.getElem?_cons_succ]
  rw [if_neg e2,if_neg (by omega),Array.getElem?_setIfInBounds_ne (fun h=>e h.symm)]
theorem fold_all (X Z:Array Value) (n:Nat) (hx:X.size=n) (hz:Z.size=n):Array.foldl (fun (cs:Array Value) x=>cs.setIfInBounds x.2 x.1) Z X.zipIdx 0 n=X:=by
 have hsz:X.zipIdx.size=n:=by rw [Array.size_zipIdx,hx]
 rw [← hsz,← Array.foldl_toList,Array.toList_zipIdx]
 obtain ⟨i1,i2⟩:=fold_list X.toList 0 Z (by rw [Array.length_toList];omega)
 apply Array.ext_getElem?
 intro j
 rw [i2 j]
 by_cases e:j<X.size
 ·rw [if_pos ⟨Nat.zero_le _,by rw [Array.length_toList];omega⟩,Nat.sub_zero,Array.getElem?_toList]
 rw [if_neg (by rw [Array.length_toList];omega),Array.getElem?_eq_none (by omega),Array.getElem?_eq_none (by omega)]
theorem split_get (X Y:List Value) (a z:Value) (n:Nat) (hX:X.length=8) {j:Nat} (h8:8≤j):(X++List.replicate n a++[z])[j]?=if j<8+n then some a else if j=8+n then some z else none:=by
 by_cases h:j<8+n
 ·rw [if_pos h,List.getElem?_append_left (by rw [List.length_append,List.length_replicate];omega),List.getElem?_append_right (by omega),List.getElem?_replicate,if_pos (by omega)]
 rw [if_neg h,List.getElem?_append_right (by rw [List.length_append,List.length_replicate];omega),List.length_append,List.length_replicate,hX]
 by_cases e:j=8+n
 ·subst e;rw [if_pos rfl,Nat.sub_self];rfl
 rw [if_neg e,List.getElem?_eq_none (by simp only [List.length_cons,List.length_nil];omega)]
theorem zero_list:Tryz.zeroCells148.toList=(List.replicate 4 (Value.int .i64 0)++List.replicate 4 (Value.int .u32 0))++List.replicate 1860 (Value.int .u16 0)++[Value.slice none 0 0]:=by kernel_rfl
theorem zero55_size:Tryz.zeroCells148.size=1869:=by kernel_rfl
theorem zero57_size:Tryz.zeroCells211.size=1869:=by kernel_rfl
theorem zero_q:Tryz.zeroCells148=qcells 0 0 0 0 (fun _=>0) (fun _=>0) (.slice none 0 0):=by
 refine qcells_eq zero55_size fun j hj=>?_
 rw [← Array.getElem?_toList,zero_list]
 have hX:(List.replicate 4 (Value.int .i64 0)++List.replicate 4 (Value.int .u32 0)).length=8:=rfl
 obtain ⟨N,hN⟩:∃ N,N=1860:=⟨_,rfl⟩
 rw [← hN]
 unfold qcell
 by_cases h8:j<8
 ·rw [List.append_assoc,List.getElem?_append_left (by rw [hX];exact h8)]
  have a:j=0∨j=1∨j=2∨j=3∨j=4∨j=5∨j=6∨j=7:=by omega
  rcases a with rfl | rfl | rfl | rfl | rfl | rfl | rfl | rfl <;> rfl
 rw [split_get _ [] _ _ N hX (by omega),if_neg (show ¬ j=0 by omega),if_neg (show ¬ j=1 by omega),if_neg (show ¬ j=2 by omega),if_neg (show ¬ j=3 by omega),if_neg h8]
 by_cases hu:j<1868
 ·rw [if_pos (show j<8+N by omega),if_pos hu];rfl
 rw [if_neg (show ¬ j<8+N by omega),if_neg hu,if_pos (by omega)]
theorem made_q:(Tryz.zeroCells148.setIfInBounds 0 (.int .i64 3)).setIfInBounds 2 (.int .i64 2)=qcells 3 0 2 0 (fun _=>0) (fun _=>0) (.slice none 0 0):=by
 rw [zero_q]
 refine qcells_eq (by rw [Array.size_setIfInBounds,Array.size_setIfInBounds,qcells_size]) fun j hj=>?_
 by_cases e2:j=2
 ·subst e2
  rw [Array.getElem?_setIfInBounds_self_of_lt (by rw [Array.size_setIfInBounds,qcells_size];omega)]
  rfl
 rw [Array.getElem?_setIfInBounds_ne (fun h=>e2 h.symm)]
 by_cases e0:j=0
 ·subst e0
  rw [Array.getElem?_setIfInBounds_self_of_lt (by rw [qcells_size];omega)]
  rfl
 rw [Array.getElem?_setIfInBounds_ne (fun h=>e0 h.symm),qcells_get _ _ _ _ _ _ _ hj]
 unfold qcell
 simp only [if_neg e0,if_neg e2]
theorem made_all:Array.foldl (fun (cs:Array Value) x=>cs.setIfInBounds x.2 x.1) Tryz.zeroCells211 ((Tryz.zeroCells148.setIfInBounds 0 (.int .i64 3)).setIfInBounds 2 (.int .i64 2)).zipIdx 0 1869=qcells 3 0 2 0 (fun _=>0) (fun _=>0) (.slice none 0 0):=by
 rw [made_q]
 exact fold_all _ _ 1869 (qcells_size _ _ _ _ _ _ _) zero57_size
def newK (sb lb:Nat):LK:=⟨sb,lb,3,0,2⟩
set_option maxRecDepth 100000 in
set_option maxHeartbeats 2000000 in
theorem lnew_p (w:World):Calls Tryz.prog 82 #[] w fun e w'=>∃ b lb,e=.returned (.pointer (some ⟨b,0,none⟩))∧w.heap.size≤b∧w.heap.size≤lb∧b≠lb ∧
 Pts w' b (mcells (newK b lb) 0 (fun _=>0) (fun _=>1024)) 211∧Pts w' lb (lcells (newK b lb) (fun _=>1024)) 131∧Below w.heap.size w w':=by
 have hma:=made_all
 go_enter Tryz.func82,Tryz.ntmps82
 go_wp2_with fail
 have hp:=Pts.new w (qcells 3 0 2 0 (fun _=>0) (fun _=>0) (.slice none 0 0)) 211
 have hb:=(Below.refl w.heap.size w).alloc (Nat.le_refl _) (.cells (qcells 3 0 2 0 (fun _=>0) (fun _=>0) (.slice none 0 0)) 211)
 have hsz:(w.alloc (.cells (qcells 3 0 2 0 (fun _=>0) (fun _=>0) (.slice none 0 0)) 211)).heap.size=w.heap.size+1:=by show (w.heap.push _).size=_;rw [Array.size_push]
 generalize w.alloc (.cells (qcells 3 0 2 0 (fun _=>0) (fun _=>0) (.slice none 0 0)) 211)=wa at *
 refine (lreset_st w.heap.size 3 0 2 0 _ _ _ 211 wa hp (by omega) ⟨none,0,0,rfl⟩ (by omega)).mono ?_;rintro e w1 ⟨rfl,lb,h1,h2,h3,f1⟩
 have H2:=hid h2
 have H3:=hid h3
 have B1:=hid (hb.trans (f1.below hb.size (fun q hq=>by omega)))
 have hlb:w.heap.size<lb:=by omega
 clear h2 h3 f1 hma
 go_wp2
 go_ret
 exact ⟨w.heap.size,lb,rfl,Nat.le_refl _,by omega,by omega,H2.out,H3.out,B1.out⟩
open Go.RowKit Rng Lz
theorem qcells_hdr (lc lp pb st lc' lp' pb':Nat) (rep:Nat→Nat) (pr:Pr) (lv:Value) :
 (((qcells lc lp pb st rep pr lv).setIfInBounds 0 (.int .i64 (lc':Int))).setIfInBounds 1 (.int .i64 (lp':Int))).setIfInBounds 2 (.int .i64 (pb':Int))=qcells lc' lp' pb' st rep pr lv:=by
 refine qcells_eq (by rw [Array.size_setIfInBounds,Array.size_setIfInBounds,Array.size_setIfInBounds,qcells_size]) fun j hj=>?_
 by_cases e2:j=2
 ·subst e2
  rw [Array.getElem?_setIfInBounds_self_of_lt (by rw [Array.size_setIfInBounds,Array.size_setIfInBounds,qcells_size];omega)]
  rfl
 rw [Array.getElem?_setIfInBounds_ne (fun h=>e2 h.symm)]
 by_cases e1:j=1
 ·subst e1
  rw [Array.getElem?_setIfInBounds_self_of_lt (by rw [Array.size_setIfInBounds,qcells_size];omega)]
  rfl
 rw [Array.getElem?_setIfInBounds_ne (fun h=>e1 h.symm)]
 by_cases e0:j=0
 ·subst e0
  rw [Array.getElem?_setIfInBounds_self_of_lt (by rw [qcells_size];omega)]
  rfl
 rw [Array.getElem?_setIfInBounds_ne (fun h=>e0 h.symm),qcells_get _ _ _ _ _ _ _ hj]
 unfold qcell
 simp only [if_neg e0,if_neg e1,if_neg e2]
set_option maxRecDepth 100000 in
set_option maxHeartbeats 2000000 in
theorem props_p (p k0 lc lp pb st:Nat) (rep:Nat→Nat) (pr:Pr) (lv:Value) (T:TypeId) (w:World) (hp:Pts w k0 (qcells lc lp pb st rep pr lv) T) (hlv:∃ A n c,lv=.slice A n c) (hb:p≤255) :
 Calls Tryz.prog 112 #[.pointer (some ⟨k0,0,none⟩),.int .u8 p] w fun e w'=>e=.returned (.int .i64 (if 224<p∨4<p % 9+p / 9 % 5 then 11 else 0))∧Frm (· = k0) w w' ∧
  (¬ (224<p∨4<p % 9+p / 9 % 5)→∃ lb,w.heap.size≤lb∧Pts w' k0 (mcells ⟨k0,lb,p % 9,p / 9 % 5,p / 45⟩ 0 (fun _=>0) (fun _=>1024)) T∧Pts w' lb (lcells ⟨k0,lb,p % 9,p / 9 % 5,p / 45⟩ (fun _=>1024)) 131):=by
 have HP:=hid hp
 have HLV:=hid hlv
 have d0:w.cell? ⟨k0,0,none⟩=some (.int .i64 lc):=(hp.cell 0).trans (qcells_get lc lp pb st _ _ _ (i:=0) (by omega))
 have d1:w.cell? ⟨k0,1,none⟩=some (.int .i64 lp):=(hp.cell 1).trans (qcells_get lc lp pb st _ _ _ (i:=1) (by omega))
 have d2:w.cell? ⟨k0,2,none⟩=some (.int .i64 pb):=(hp.cell 2).trans (qcells_get lc lp pb st _ _ _ (i:=2) (by omega))
 have f0:=hp.frozen 0
 have f1:=hp.frozen 1
 have f2:=hp.frozen 2
 clear hp hlv
 obtain ⟨a,ha⟩:∃ a,p % 9=a:=⟨_,rfl⟩
 obtain ⟨b1,hb1⟩:∃ a,p / 9=a:=⟨_,rfl⟩
 obtain ⟨b,hbb⟩:∃ a,b1 % 5=a:=⟨_,rfl⟩
 obtain ⟨c,hc⟩:∃ a,p / 45=a:=⟨_,rfl⟩
 rw [ha,hb1,hbb,hc]
 have e1:(p:Int) % 9=(a:Int):=by omega
 have e2:(p:Int) / 9=(b1:Int):=by omega
 have e3:(b1:Int) % 5=(b:Int):=by omega
 have e4:(p:Int) / 45=(c:Int):=by omega
 have ab:a≤8:=by omega
 have bb:b≤4:=by omega
 have cb:c≤5:=by omega
 have cb4:p≤224→c≤4:=by omega
 have CB4:=hid cb4
 clear ha hb1 hbb hc cb4
 have h3:224<p∨(p≤224∧4<a+b)∨(p≤224∧a+b≤4):=by omega
 rcases h3 with h | ⟨h,h4⟩ | ⟨h,h4⟩
 ·have hi:(224:Int)<(p:Int):=by omega
  go_enter Tryz.func112,Tryz.ntmps112
  go_wp2
  go_ret
  first | exact ⟨rfl,Frm.refl _ _⟩ | exact ⟨ret_u32 (by rw [if_pos (.inl h)]),Frm.refl _ _,fun hn=>absurd (.inl h) hn⟩
 ·have hi:(p:Int)≤224:=by omega
  have hj:(4:Int)<(a:Int)+(b:Int):=by omega
  go_enter Tryz.func112,Tryz.ntmps112
  go_wp2
  go_ret
  first | exact ⟨rfl,Frm.refl _ _⟩ | exact ⟨ret_u32 (by rw [if_pos (.inr h4)]),Frm.refl _ _,fun hn=>absurd (.inr h4) hn⟩
 have hi:(p:Int)≤224:=by omega
 have hj:(a:Int)+(b:Int)≤4:=by omega
 go_enter Tryz.func112,Tryz.ntmps112
 go_wp2_with fail
 have hq:Pts (((w.setCell ⟨k0,0,none⟩ (.int .i64 a)).setCell ⟨k0,1,none⟩ (.int .i64 b)).setCell ⟨k0,2,none⟩ (.int .i64 c)) k0 (qcells a b c st rep pr lv) T:=by
  have h9:=((HP.out.set 0 (.int .i64 (a:Int))).set 1 (.int .i64 (b:Int))).set 2 (.int .i64 (c:Int))
  rw [qcells_hdr] at h9
  exact h9
 have hf:Frm (· = k0) w (((w.setCell ⟨k0,0,none⟩ (.int .i64 a)).setCell ⟨k0,1,none⟩ (.int .i64 b)).setCell ⟨k0,2,none⟩ (.int .i64 c)) :=
  (((Frm.refl (· = k0) w).setCell (p:=⟨k0,0,none⟩) rfl _).setCell (p:=⟨k0,1,none⟩) rfl _).setCell (p:=⟨k0,2,none⟩) rfl _
 generalize (((w.setCell ⟨k0,0,none⟩ (.int .i64 a)).setCell ⟨k0,1,none⟩ (.int .i64 b)).setCell ⟨k0,2,none⟩ (.int .i64 c))=wa at *
 refine (mreset_any k0 a b c st rep pr lv T wa hq h4 HLV.out (CB4.out h)).mono ?_;rintro e w1 ⟨rfl,lb,g1,g2,g3,g4⟩
 have G2:=hid g2
 have G3:=hid g3
 have G4:=hid (hf.trans g4)
 have hlb:=Nat.le_trans hf.size g1
 clear g2 g3 g4 hq hf g1
 go_wp2
 go_ret
 first | exact ⟨rfl,G4.out,lb,hlb,G2.out,G3.out⟩ | exact ⟨ret_u32 (by rw [if_neg (by omega)]),G4.out,fun _=>⟨lb,hlb,G2.out,G3.out⟩⟩
open Go.RowKit Win
theorem over_map (R b:List UInt8) (a n:Nat) (X:List Value) (hX:X.take R.length=R.map byteV) (h1:a+n≤R.length) (h2:n≤b.length) :
 (X.take a++(b.take n).map byteV++X.drop (a+n)).take R.length=(over R b a n).map byteV:=by
 have hXl:R.length≤X.length:=by
  have:=congrArg List.length hX
  rw [List.length_take,List.length_map] at this
  omega
 have l1:(X.take a).length=a:=by rw [List.length_take];omega
 have l2:((b.take n).map byteV).length=n:=by rw [List.length_map,List.length_take];omega
 have e1:X.take a=(R.take a).map byteV:=by
  rw [List.map_take,← hX,List.take_take];congr 1;omega
 have e2:(X.drop (a+n)).take (R.length-(a+n))=(R.drop (a+n)).map byteV:=by
  rw [List.map_drop,← hX,List.drop_take]
 unfold over
 rw [List.map_append,List.map_append,← e1,← e2,List.take_append,List.take_of_length_le (by rw [List.length_append,l1,l2];omega),List.length_append,l1,l2]
theorem run_copy_bytes {P:Program} (w:World) (t ty T base:Nat) (ht:P.underlying t=some (.slice T)) (hs1:(P.info? T).map (·.size)=some 1) (g cap a:Nat) (R:List UInt8)
 (hown:OwnB w T base (.slice (some ⟨g,0,none⟩) R.length cap) R) (ha:a<R.length) (A:Option Addr) (c B n:Nat) (news:List UInt8) (hnews:BRow w B A news) (h0:0<news.length) (hn:n=min news.length (R.length-a)) (dc:Nat) :
 ∃ w',(Builtin.copy_ #[t,t] ty #[.slice (some ⟨g,a,none⟩) (R.length-a) dc,.slice A news.length c]).run P w=.ok (.int .i64 n) w'∧OwnB w' T base (.slice (some ⟨g,0,none⟩) (over R news a n).length cap) (over R news a n)∧Frm (fun k=>k=g) w w':=by
 obtain ⟨b,off,rfl,hb,hc⟩:=hnews h0
 obtain ⟨hl,hr⟩:=hown
 rcases hr with ⟨hv,_⟩ | ⟨g',cap',cur,hv,hbg,hh,hnc,hcm,hcs,ht'⟩
 ·cases hv
 injection hv with e1 e2 e3
 injection e1 with e1
 injection e1 with e1
 subst e1;subst e3
 simp only [Nat.mul_one] at ht' hcs
 have hnl:((news.take n).map byteV).length=n:=by rw [List.length_map,List.length_take];omega
 have hrun:=run_copy_row (P:=P) w t t ty T g a (R.length-a) dc ⟨b,off,none⟩ news.length c cur T ((news.take n).map byteV) ht hs1 hh (by rw [hnl,hn]) (by
  intro j v hj
  rw [List.getElem?_map,List.getElem?_take] at hj
  by_cases hjn:j<n
  ·rw [if_pos hjn] at hj
   obtain ⟨x,hx,rfl⟩:=Option.map_eq_some_iff.1 hj
   rw [Opn.add_at,hc j (by omega)]
   simp [List.getD,hx]
  rw [if_neg hjn] at hj;simp at hj) (by rw [hnl];omega) (oneCell_byte _)
 rw [hnl] at hrun
 refine ⟨_,hrun,⟨by simp,.inr ⟨g,cap,_,rfl,hbg,setRow_heap w g cur _ T (0,0) hh,?_,hcm,?_,?_⟩⟩,⟨rfl,rfl,rfl,by simp,fun k hk hne=>setRow_other w g k _ hne⟩⟩
 ·rw [over_length (by omega) (by omega)];exact hnc
 ·simp only [List.size_toArray,List.length_append,List.length_take,List.length_drop,hnl,Array.length_toList,Nat.mul_one];omega
 rw [Nat.mul_one,over_length (by omega) (by omega)]
 exact over_map R news a n cur.toList ht' (by omega) (by omega)
theorem step_copy_bytes {P:Program} (w:World) {ops:Array Oper} {o:Oper} {a:Act} {K:Act→World→Prop} {Q:Exit→Act→World→Prop} {E:Prop} (hg:o.guard=none) (s x:Operand) (t:TypeId)
 (ho:o.op=.call { callee:=.builtin .copy,args:=#[s,x],argTypes:=#[t,t] })
 (T base:Nat) (ht:P.underlying t=some (.slice T)) (hs1:(P.info? T).map (·.size)=some 1) (g cap at_:Nat) (R:List UInt8) (dc:Nat) (hs:a.eval s=.slice (some ⟨g,at_,none⟩) (R.length-at_) dc)
 (hown:OwnB w T base (.slice (some ⟨g,0,none⟩) R.length cap) R) (ha:at_<R.length) (A:Option Addr) (m c B n:Nat) (news:List UInt8) (hx:a.eval x=.slice A m c) (hm:m=news.length) (hnews:BRow w B A news) (h0:0<news.length) (hn:n=min news.length (R.length-at_))
 (h:∀ w',OwnB w' T base (.slice (some ⟨g,0,none⟩) (over R news at_ n).length cap) (over R news at_ n)→Frm (fun k=>k=g) w w'→K (a.put o.dst (.int .i64 n)) w') :
 if Region.wanted o (yielded ops a.tmps)=true then Oper.wp P o a w K Q else E:=by
 have hw:Region.wanted o (yielded ops a.tmps)=true:=by simp [Region.wanted,hg]
 rw [if_pos hw]
 subst hm
 obtain ⟨w',hrun,h2,h3⟩:=run_copy_bytes (P:=P) w t o.type T base ht hs1 g cap at_ R hown ha A c B n news hnews h0 hn dc
 unfold Oper.wp execOp
 simp only [ho,resolve,invoke,builtin,Sem.run_bind,Sem.run_pure,Result.andThen_ok,List.map_toArray,List.map_cons,List.map_nil,hs,hx,hrun]
 exact h w' h2 h3
open Go.RowKit Win
theorem min2_int {P:Program} (ts:Array TypeId) (t:TypeId) (x y n:Int) (h:min x y=n) (w:World):(Builtin.min_ ts t #[.int .i64 x,.int .i64 y]).run P w=.ok (.int .i64 n) w:=by
 have e:(if y<x then y else x)=n:=by split <;> omega
 rw [← e]
 simp [Builtin.min_,Builtin.min2]
theorem BOff.drop {w:World} {B j c:Nat} {N:Nat→Prop} {A:Option Addr} {bs:List UInt8} (h:BOff N A bs) (hr:BRow w B A bs):BOff N (if c=j then A else A.map (·.add j)) (bs.drop j):=by
 intro hn ad e
 rw [List.length_drop] at hn
 have h0:0<bs.length:=by omega
 obtain ⟨b,off,rfl,_⟩:=hr h0
 split at e
 ·exact h h0 ad e
 simp only [Option.map_some,Option.some.injEq] at e
 rw [← e,Opn.add_at]
 exact h h0 ⟨b,off,none⟩ rfl
theorem BOff.step {w:World} {B b sz:Nat} {v v':Value} {A:Option Addr} {bs:List UInt8} (h:BOff (fun x=>x=b∨v.ownBlock=some x) A bs) (hr:BRow w B A bs) (hB:B≤sz) (hn:v'.ownBlock=v.ownBlock∨v'.ownBlock=some sz):BOff (fun x=>x=b∨v'.ownBlock=some x) A bs:=by
 intro h0 ad e hk
 obtain ⟨c,off,e2,hlt,_⟩:=hr h0
 rcases hk with hk | hk
 ·exact h h0 ad e (.inl hk)
 rcases hn with hn | hn
 ·exact h h0 ad e (.inr (hn▸hk))
 rw [hn] at hk
 injection hk with hk
 rw [e2] at e
 injection e with e
 subst e
 simp only at hk
 omega
theorem Frm.trans2 {S S':Nat→Prop} {a b c:World} (h:Frm S a b) (k:Frm S' b c) (hm:∀ q,q<a.heap.size→S' q→S q):Frm S a c :=
 ⟨k.os.trans h.os,k.tape.trans h.tape,k.output.trans h.output,Nat.le_trans h.size k.size,fun i hi hn=>(k.block i (Nat.lt_of_lt_of_le hi h.size) (fun hs=>hn (hm i hi hs))).trans (h.block i hi hn)⟩
theorem BRow.offN {N:Nat→Prop} {w w':World} {B:Nat} {A:Option Addr} {bs:List UInt8} (h:BRow w B A bs) (hA:BOff N A bs) (hf:Frm N w w'):BRow w' B A bs:=by
 intro hn
 obtain ⟨c,off,rfl,hlt,hcell⟩:=h hn
 exact ⟨c,off,rfl,hlt,fun k hk=>(World.cell?_of_block (w:=w) (hf.block c (World.block_lt_of_cell? w ⟨c,off+k,none⟩ (hcell k hk)) (hA hn _ rfl))).trans (hcell k hk)⟩
theorem WinAt.off {w:World} {base b k S:Nat} {v:Value} {R:List UInt8} {a:Nat} (h:WinAt w base b k S v R a):∀ q,v.ownBlock=some q→q≠b:=by
 rintro q hq rfl
 rcases h.o.form with ⟨e,_⟩ | ⟨g,cap,cur,e,_,hp,_⟩
 ·rw [e] at hq;cases hq
 rw [e] at hq
 injection hq with hq
 subst hq
 have e2:=hp.symm.trans h.p
 simp at e2
theorem Tryz.size_u8:(Tryz.prog.info? 5).map (·.size)=some 1:=by kernel_rfl
theorem slice_to (A:Option Addr) (n c m:Nat) (hf:m≤n) (hn:n≤c) (w:World) :
 (Instr.sliceAt 27 (.slice A n c) none (some (.int .i64 (m:Int))) none).run Tryz.prog w=.ok (.slice A m c) w:=by
 simp [go_sem]
 intro h;omega
theorem WinAt.drewN {w:World} {base b k S:Nat} {v:Value} {R:List UInt8} {a:Nat} (h:WinAt w base b k S v R a) (d:Nat):WinAt (w.drewN d) base b k S v R a:=⟨h.p.drewN d,h.o.drewN d,h.n,h.lt,h.z⟩
structure PutAt (w0 w:World) (base b k S B:Nat) (v0:Value) (C0 bs:List UInt8) (v:Value) (R:List UInt8) (a:Nat) (Ad:Option Addr) (cd:Nat) (rest:List UInt8) (j:Nat):Prop where
 wi:WinAt w base b k S v R a
 c:content R a=lastN S (C0++bs.take j)
 r:rest=bs.drop j
 row:BRow w B Ad rest
 off:BOff (fun x=>x=b∨v.ownBlock=some x) Ad rest
 cap:rest.length≤cd∧cd≤maxLen
 full:0<rest.length→R.length=S
 f:Frm (fun x=>x=b∨v0.ownBlock=some x) w0 w
 own:v.ownBlock=v0.ownBlock∨v.ownBlock=some w0.heap.size
 sz:w0.heap.size≤w.heap.size
set_option maxRecDepth 100000 in
set_option maxHeartbeats 2000000 in
theorem put_small_any (base b k S a c B:Nat) (v:Value) (R:List UInt8) (A:Option Addr) (bs:List UInt8) (w:World) (hw:WinAt w base b k S v R a) (hr:BRow w B A bs) (hoff:BOff (fun x=>x=b∨v.ownBlock=some x) A bs) (hc:bs.length≤c) (hcm:c≤maxLen) (hlen:bs.length≤16777216) (hbase:base≤w.heap.size)
 (hS:bs.length<S) (hS2:S≤16777216) (hB:B≤w.heap.size) :
 Calls Tryz.prog 111 #[.pointer (some ⟨b,0,none⟩),.slice A bs.length c] w fun e w'=>∃ (v':Value) (R':List UInt8) (a':Nat),e=.returned (.tuple #[])∧WinAt w' base b k S v' R' a'∧content R' a'=lastN S (content R a++bs) ∧
  Frm (fun x=>x=b∨v.ownBlock=some x) w w'∧(v'.ownBlock=v.ownBlock∨v'.ownBlock=some w.heap.size):=by
 obtain ⟨A0,k0,rfl,hc0,hm0,hr0⟩:=hw.o.slice
 have c0:w.cell? ⟨b,0,none⟩=some (.slice A0 R.length k0):=by rw [hw.p.cell];rfl
 have c2:w.cell? ⟨b,2,none⟩=some (.int .i64 S):=by rw [hw.p.cell];rfl
 have hRS:=hw.n
 have haS:=hw.lt
 have HW:=hid hw
 have HR:=hid hr
 have HO:=hid hoff
 obtain ⟨n,hn⟩:∃ n:Nat,min (bs.length:Int) ((S:Int)-R.length)=n:=⟨min bs.length (S-R.length),by omega⟩
 have f1:=fun w=>min2_int (P:=Tryz.prog) #[3,3] 3 _ _ _ hn w
 have hn1:n≤bs.length∧R.length+n≤S∧(n<bs.length→R.length+n=S):=by omega
 clear hn hw hr hoff hr0
 obtain ⟨n1,n2,n3⟩:=hn1
 have M0:=hid hm0
 have CM:=hid hcm
 clear hm0 hcm
 have hdS:decide (S≤bs.length)=false:=decide_eq_false (by omega)
 go_enter Tryz.func111,Tryz.ntmps111
 go_upto_region 4 with (go_at_call 119;refine (dropped_no _ _ _ _ _ _ HW.out.p).mono ?_;rintro e w1 ⟨rfl,rfl⟩)
 go_quiet (fail)
 go_upto_if 54 with fail
 go_cut [1] from 53 to 68 (fun s1 wx=>∃ (Ad:Option Addr) (cd j:Nat) (rest:List UInt8) (v1:Value) (R1:List UInt8),s1=.slice Ad rest.length cd∧PutAt w wx base b k S B (.slice A0 R.length k0) (content R a) bs v1 R1 a Ad cd rest j)
 case first =>
  by_cases hn0:n=0
  ·subst hn0
   go_wp2
   go_meet
   refine ⟨A,c,0,bs,.slice A0 R.length k0,R,rfl,⟨HW.out.drewN _,?_,by simp,BRow.drewN HR.out _,HO.out,⟨hc,CM.out⟩,fun h=>by omega,(Frm.refl _ _).drewN _,.inl rfl,Nat.le_refl _⟩⟩
   rw [List.take_zero,List.append_nil,lastN_all (by rw [content_length];exact hRS)]
  have ha0:a=0:=HW.out.z (by omega)
  subst ha0
  have hst:=fun w=>slice_to A bs.length c n n1 hc w
  have hsf:=fun w=>slice_from A bs.length c n n1 hc w
  have htl:n=(bs.take n).length:=by rw [List.length_take];omega
  have hrl:bs.length-n=(bs.drop n).length:=by rw [List.length_drop]
  have HTL:=hid htl
  have HRL:=hid hrl
  have f0:=HW.out.p.frozen 0
  have hll:R.length+(bs.take n).length≤140737488355328:=by omega
  have hbN:∀ w':World,Frm (fun k=>(Value.slice A0 R.length k0).ownBlock=some k) w w'→Frm (fun x=>x=b∨(Value.slice A0 R.length k0).ownBlock=some x) w w':=fun w' h=>h.mono fun _ _ hk=>.inr hk
  have ROW2:=hid (HR.out.drop (k:=n) (cap:=c) hc)
  have OFF2:=hid (BOff.drop (j:=n) (c:=c) HO.out HR.out)
  have OFFW:=hid HW.out.off
  clear htl hrl
  obtain ⟨Ad,had⟩:∃ Ad,(if c=n then A else A.map (·.add n))=Ad:=⟨_,rfl⟩
  rw [had] at hsf ROW2 OFF2
  have hpos:(0:Int)<(n:Int):=by omega
  clear had
  go_wp2
  go_region_law (refine step_append_bytes _ rfl (.tmp 59) (.tmp 62) 27 rfl 5 base Tryz.underlying27 Tryz.info_u8 (.slice A0 R.length k0) R rfl (HW.out.o.drewN _) A n c B (bs.take n) rfl HTL.out (BRow.drewN (HR.out.take n) _) hll hbase ?_;intro v1 w1 hown1 hfrm1 hnew1;obtain ⟨A1,c1,rfl,hc1,hm1,hr1⟩:=hown1.slice;have hp1:=(HW.out.p.drewN _).drew.frm (S:=fun k=>(Value.slice A0 R.length k0).ownBlock=some k) hfrm1 (fun e=>OFFW.out b e rfl);have z0:w1.cell? ⟨b,0,none⟩=some (.slice A0 R.length k0):=(hp1.cell 0).trans rfl;have z1:=hp1.frozen 0)
  all_goals
   have hL1:(R++bs.take n).length=R.length+n:=by rw [List.length_append,← HTL.out]
   have hp2:Pts (w1.setCell ⟨b,0,none⟩ (.slice A1 (R.length+n) c1)) b #[.slice A1 (R.length+n) c1,.int .i64 ((0:Nat):Int),.int .i64 S,.pointer (some ⟨k,0,none⟩)] 202:=hp1.set 0 _
   rw [hL1] at hown1
   have hnb:∀ q,(Value.slice A1 (R.length+n) c1).ownBlock=some q→q≠b:=by
    rintro q hq rfl
    rcases hown1.form with ⟨e,_⟩ | ⟨g,cp,cur,e,_,hp,_⟩
    ·rw [e] at hq;cases hq
    rw [e] at hq
    injection hq with hq
    subst hq
    have e2:=hp.symm.trans hp1
    simp at e2
   have ho2:=hown1.other (p:=⟨b,0,none⟩) (fun e=>hnb _ e rfl) (.slice A1 (R.length+n) c1)
   have hf2:=((((Frm.refl (fun x=>x=b∨(Value.slice A0 R.length k0).ownBlock=some x) w).drewN nq).drew).trans (hfrm1.mono (fun q _ hq=>.inr hq))).setCell (p:=⟨b,0,none⟩) (by left;rfl) (.slice A1 (R.length+n) c1)
   have hnew2:(Value.slice A1 (R.length+n) c1).ownBlock=(Value.slice A0 R.length k0).ownBlock∨(Value.slice A1 (R.length+n) c1).ownBlock=some w.heap.size:=by
    rcases hnew1 with h | h
    ·left;rw [← h];cases A1 <;> rfl
    right;have h':(Value.slice A1 (R++bs.take n).length c1).ownBlock=some w.heap.size:=h;rw [← h'];cases A1 <;> rfl
   have P2:=hid hp2
   have O2:=hid ho2
   have F2:=hid hf2
   have N2:=hid hnew2
   have L1:=hid hL1
   have NB:=hid hnb
   clear hp1 hp2 hown1 hnb ho2 hf2 hnew1 hnew2 hfrm1 z0 z1 hr1 hL1 hst hll hbN
   go_wp2
   go_meet
   refine ⟨Ad,c-n,n,bs.drop n,.slice A1 (R.length+n) c1,R++bs.take n,by rw [← HRL.out],⟨⟨P2.out,O2.out,by rw [L1.out];exact n2,by omega,fun _=>rfl⟩,?_,rfl,BRow.offN ROW2.out OFF2.out F2.out,BOff.step OFF2.out ROW2.out hB N2.out,⟨by rw [← HRL.out];omega,by have:=CM.out;omega⟩,fun h=>by rw [← HRL.out] at h;rw [L1.out];exact n3 (by omega),F2.out,N2.out,F2.out.size⟩⟩
   rw [content_zero,content_zero,lastN_all (by rw [L1.out];exact n2)]
 obtain ⟨Ad,cd,j,rest,v1,R1,rfl,hpa⟩:=hcut
 have PA:=hid hpa
 clear hpa f1 c0 c2
 go_wp2
 go_loopg [1] bs.length (fun gn s1 wr=>∃ (Ad:Option Addr) (cd j:Nat) (rest:List UInt8) (v1:Value) (R1:List UInt8) (a1:Nat),s1=.slice Ad rest.length cd∧rest.length≤gn∧PutAt w wr base b k S B (.slice A0 R.length k0) (content R a) bs v1 R1 a1 Ad cd rest j)
 case atStart=>exact ⟨Ad,cd,j,rest,v1,R1,a,rfl,by rw [PA.out.r,List.length_drop];omega,PA.out⟩
 obtain ⟨Ad,cd,j,rest,v1,R1,a1,rfl,hgn,hpa⟩:=hrel
 have P1:=hid hpa
 clear hpa
 by_cases hr0:rest.length=0
 ·have hrest:rest=[]:=List.eq_nil_of_length_eq_zero hr0
  have hj:bs.length≤j:=by
   have:=P1.out.r
   rw [hrest] at this
   have h2:=congrArg List.length this
   rw [List.length_drop] at h2
   simp at h2;omega
  have hcon:content R1 a1=lastN S (content R a++bs):=by
   have h:=P1.out.c
   rwa [List.take_of_length_le hj] at h
  have HC:=hid hcon
  clear hcon hj hrest
  have hz:((rest.length:Int):Int)=0:=by omega
  go_wp2
  go_end0
  exact ⟨v1,R1,a1,rfl,P1.out.wi,HC.out,P1.out.f,P1.out.own⟩
 have hfull:=P1.out.full (by omega)
 have ha1:=P1.out.wi.lt
 rcases P1.out.wi.o.form with ⟨_,hnil⟩ | ⟨g,cap,cur,rfl,hbg,hpg,hn1',hn2',hcs,hcc⟩
 ·rw [hnil] at hfull;simp at hfull;omega
 clear hcc hcs hpg cur
 obtain ⟨n2,hn2⟩:∃ n2,n2=min rest.length (R1.length-a1):=⟨_,rfl⟩
 have c0:wr.cell? ⟨b,0,none⟩=some (.slice (some ⟨g,0,none⟩) R1.length cap):=by rw [P1.out.wi.p.cell];rfl
 have c1:wr.cell? ⟨b,1,none⟩=some (.int .i64 a1):=by rw [P1.out.wi.p.cell];rfl
 have hsa:∀ w,(Instr.sliceAt 27 (.slice (some ⟨g,0,none⟩) R1.length cap) (some (.int .i64 (a1:Int))) none none).run Tryz.prog w=.ok (.slice (some ⟨g,a1,none⟩) (R1.length-a1) (cap-a1)) w:=by
  intro w
  rw [slice_from _ _ _ _ (by omega) hn1',if_neg (by omega)]
  simp [Opn.add_at]
 have hsf:=fun w=>slice_from Ad rest.length cd n2 (by omega) P1.out.cap.1 w
 have hrl:rest.length-n2=(rest.drop n2).length:=by rw [List.length_drop]
 have HRL:=hid hrl
 have ROW2:=hid (P1.out.row.drop (k:=n2) (cap:=cd) P1.out.cap.1)
 have OFF2:=hid (BOff.drop (j:=n2) (c:=cd) P1.out.off P1.out.row)
 have OFFW:=hid P1.out.wi.off
 obtain ⟨Ae,hae⟩:∃ Ae,(if cd=n2 then Ad else Ad.map (·.add n2))=Ae:=⟨_,rfl⟩
 rw [hae] at hsf ROW2 OFF2
 have hcn:(n2:Int)≤(cd:Int):=by have:=P1.out.cap.1;omega
 have hne:((S:Int)==0)=false:=beq_eq_false_iff_ne.2 (by omega)
 obtain ⟨q2,hq2⟩:∃ q2,(a1+n2) % S=q2:=⟨_,rfl⟩
 have hmod:((a1:Int)+n2) % (S:Int)=(q2:Int):=by rw [← hq2,Int.natCast_emod];congr 1
 have HQ2:=hid hq2
 clear hq2
 have HN2:=hid hn2
 have HCP:=hid hn2'
 have hgb:g≠b:=fun e=>OFFW.out g rfl e
 have HGB:=hid hgb
 have hpos:(0:Int)<(rest.length:Int):=by omega
 have hn2le:n2≤rest.length∧a1+n2≤S∧1≤n2:=by omega
 have hFULL:=hid hfull
 have hapl:(a1:Int)≤(R1.length:Int):=by omega
 clear hrl hae hn2 hn2' hgb hfull
 go_wp2
 go_region_law (refine step_copy_bytes _ rfl (.tmp 80) (.tmp 81) 27 rfl 5 base Tryz.underlying27 Tryz.size_u8 g cap a1 R1 (cap-a1) rfl (P1.out.wi.o.drewN 1) (by have:=hFULL.out;omega) Ad rest.length cd B n2 rest rfl rfl (BRow.drewN P1.out.row 1) (by omega) HN2.out ?_;intro w5 hown5 hfrm5)
 all_goals
  have hp5:=P1.out.wi.p.drew.frm (S:=fun k=>k=g) hfrm5 (fun e=>HGB.out e.symm)
  have d1:w5.cell? ⟨b,1,none⟩=some (.int .i64 a1):=by rw [hp5.cell];rfl
  have d2:w5.cell? ⟨b,2,none⟩=some (.int .i64 S):=by rw [hp5.cell];rfl
  have d3:=hp5.frozen 1
  have P5:=hid hp5
  have O5:=hid hown5
  have F5:=hid hfrm5
  have e1:w5.drew.cell? ⟨b,1,none⟩=some (.int .i64 a1):=d1
  have e2:w5.drew.cell? ⟨b,2,none⟩=some (.int .i64 S):=d2
  have e3:w5.drew.frozen? ⟨b,1,none⟩=false:=d3
  clear hp5 hown5 hfrm5 c0 c1 hsa
  go_wp2
  refine QTail.wp_region_qtail_lit 14 (by kernel_rfl) (by kernel_rfl) ?_
  simp only [List.take_succ_cons,List.take_zero,List.drop_succ_cons,List.drop_zero]
  repeat (go_big_quiet_step (fail))
  refine wpQuiet_nil ?_
  rintro w' ⟨nr,rfl⟩
  go_wp2
  go_roundg (rest.length-n2)
  case measure=>omega
  have hol:(over R1 rest a1 n2).length=R1.length:=over_length (by have:=hFULL.out;omega) (by omega)
  have hp6:Pts ((w5.drewN nr).setCell ⟨b,1,none⟩ (.int .i64 (q2:Int))) b #[.slice (some ⟨g,0,none⟩) R1.length cap,.int .i64 (q2:Int),.int .i64 S,.pointer (some ⟨k,0,none⟩)] 202:=(P5.out.drewN nr).set 1 _
  have ho6:OwnB ((w5.drewN nr).setCell ⟨b,1,none⟩ (.int .i64 (q2:Int))) 5 base (.slice (some ⟨g,0,none⟩) R1.length cap) (over R1 rest a1 n2):=by
   have h:=(O5.out.drewN nr).other (p:=⟨b,1,none⟩) (fun e=>HGB.out (by injection e)) (.int .i64 (q2:Int))
   rw [hol] at h
   exact h
  have hf6:Frm (fun x=>x=b∨(Value.slice (some ⟨g,0,none⟩) R1.length cap).ownBlock=some x) wr ((w5.drewN nr).setCell ⟨b,1,none⟩ (.int .i64 (q2:Int))) :=
   ((((Frm.refl _ wr).drew).trans (F5.out.mono (fun q _ hq=>.inr (by rw [hq];rfl)))).drewN nr).setCell (by left;rfl) _
  have hqS:q2<S:=by rw [← HQ2.out];exact Nat.mod_lt _ (by omega)
  refine ⟨Ae,cd-n2,j+n2,rest.drop n2,.slice (some ⟨g,0,none⟩) R1.length cap,over R1 rest a1 n2,q2,by rw [← HRL.out],by rw [← HRL.out];exact Nat.le_refl _,
   ⟨⟨hp6,ho6,by rw [hol];exact Nat.le_of_eq hFULL.out,hqS,fun h=>by rw [hol,hFULL.out] at h;omega⟩,?_,?_,BRow.offN ROW2.out OFF2.out hf6,OFF2.out,⟨by rw [← HRL.out];have:=P1.out.cap.1;omega,by have:=P1.out.cap.2;omega⟩,fun _=>by rw [hol];exact hFULL.out,?_,P1.out.own,Nat.le_trans P1.out.sz hf6.size⟩⟩
  ·have h1:=over_content (R:=R1) (b:=rest) (a:=a1) (n:=n2) (by have:=hFULL.out;omega) (by omega) (by have:=hFULL.out;omega) (by have:=hFULL.out;omega)
   rw [hFULL.out,HQ2.out,P1.out.c,lastN_lastN,List.append_assoc] at h1
   rw [h1,List.take_add,P1.out.r]
  ·rw [P1.out.r,List.drop_drop]
  refine Frm.trans2 P1.out.f hf6 (fun q hq hk=>?_)
  rcases hk with hk | hk
  ·exact .inl hk
  rcases P1.out.own with h | h
  ·exact .inr (h▸hk)
  rw [h] at hk
  injection hk with hk
  omega
open Go.RowKit Win
theorem put_any (base b k S a c B n:Nat) (v:Value) (R:List UInt8) (A:Option Addr) (bs:List UInt8) (w:World) (hw:WinAt w base b k S v R a) (hn:n=bs.length) (hr:BRow w B A bs) (hoff:BOff (fun x=>x=b∨v.ownBlock=some x) A bs) (hc:bs.length≤c) (hcm:c≤maxLen) (hlen:bs.length≤16777216) (hbase:base≤w.heap.size)
 (hS2:S≤16777216) (hB:B≤w.heap.size) :
 Calls Tryz.prog 111 #[.pointer (some ⟨b,0,none⟩),.slice A n c] w fun e w'=>∃ (v':Value) (R':List UInt8) (a':Nat),e=.returned (.tuple #[])∧WinAt w' base b k S v' R' a'∧content R' a'=lastN S (content R a++bs) ∧
  Frm (fun x=>x=b∨v.ownBlock=some x) w w'∧(v'.ownBlock=v.ownBlock∨v'.ownBlock=some w.heap.size):=by
 subst hn
 by_cases hS:S≤bs.length
 ·refine (put_big_any base b k S a c B v R A bs w hw hr hc hcm hlen hbase hS (by have:=hw.lt;omega) hB).mono ?_
  rintro e w' ⟨v',rfl,h1,h2,h3⟩
  exact ⟨v',_,0,rfl,h1,by rw [content_zero,put_big hS],h2,h3⟩
 exact put_small_any base b k S a c B v R A bs w hw hr hoff hc hcm hlen hbase (by omega) hS2 hB
theorem new_win (k S:Nat) (B n m:Int) (w:World) (hl:Led w k B n m) (hB:0≤B∧B≤16777216) (hn:0≤n∧n≤B) (hm:n≤m∧m≤B) (h1:1≤S) (h2:S≤16777216) (hc:chE B n S=0) :
 Calls Tryz.prog 80 #[.int .i64 S,.pointer (some ⟨k,0,none⟩)] w fun e w'=>∃ b,e=.returned (.tuple #[.pointer (some ⟨b,0,none⟩),.int .i64 0])∧WinAt w' w.heap.size b k S (.slice none 0 0) [] 0∧w.heap.size≤b ∧
  Led w' k B (chN B n S) (chM B n m S)∧Frm (· = k) w w':=by
 have HL:=hid hl
 have HC:=hid hc
 have klt:=Pts.lt hl
 clear hl hc
 go_enter Tryz.func80,Tryz.ntmps80
 go_wp2_with (go_at_call 98;refine (charge_led _ B n m _ _ HL.out hB hn hm).mono ?_;rintro e w1 ⟨rfl,hL1,hF1⟩;rw [HC.out])
 go_ret2
 have hp:=Pts.new w1 #[.slice none 0 0,.int .i64 ((0:Nat):Int),.int .i64 S,.pointer (some ⟨k,0,none⟩)] 202
 exact ⟨w1.heap.size,rfl,⟨hp,OwnB.nil _ _ _,Nat.zero_le _,by omega,fun _=>rfl⟩,hF1.size,Pts.alloc hL1 _,hF1.alloc _⟩
open Go.RowKit Win
def cyc (C:List UInt8) (back n:Nat):List UInt8:=(List.range n).map fun t=>C.getD (C.length-back+t % back) 0
theorem cyc_length (C:List UInt8) (back n:Nat):(cyc C back n).length=n:=by simp [cyc]
theorem cyc_snoc {C:List UInt8} {back t:Nat} (h:t<back):cyc C back t++[C.getD (C.length-back+t) 0]=cyc C back (t+1):=by
 unfold cyc
 rw [List.range_succ,List.map_append]
 simp [Nat.mod_eq_of_lt h]
theorem cyc_more {C:List UInt8} {back L k:Nat} (h0:0<back) (hL:L % back=0) (hk:k≤L):cyc C back L++(cyc C back L).take k=cyc C back (L+k):=by
 apply List.ext_getElem
 ·simp [cyc];omega
 intro j h1 h2
 simp only [List.length_append,List.length_take,cyc_length] at h1 h2
 by_cases hj:j<L
 ·rw [List.getElem_append_left (by rw [cyc_length];exact hj)]
  simp [cyc]
 rw [List.getElem_append_right (by rw [cyc_length];omega)]
 simp only [cyc,List.length_map,List.length_range,List.getElem_take,List.getElem_map,List.getElem_range]
 congr 2
 obtain ⟨q,hq⟩:=Nat.dvd_of_mod_eq_zero hL
 have e:j=(j-L)+back*q:=by omega
 conv=>rhs;rw [e,Nat.add_mul_mod_self_left]
theorem make_bytes (n:Nat) (hn:n≤16777216) (w:World) :
 (Instr.makeSlice 27 (.int .i64 0) (.int .i64 (n:Int))).run Tryz.prog w=.ok (.slice (some ⟨w.heap.size,0,none⟩) 0 n) (w.alloc (.cells (madeCells #[.int .u8 0] n) 5)):=by
 obtain ⟨i,hi,hz⟩:=Option.map_eq_some_iff.1 Tryz.info_u8
 simp only [Prod.mk.injEq] at hz
 have h:=run_make (P:=Tryz.prog) w 27 5 i (.int .u8 0) Tryz.underlying27 hi hz.1 .i64 .i64 0 n (by omega) (by omega) (by rw [hz.2.2];omega) (by omega)
 rw [hz.2.1] at h
 simp only [Int.toNat_natCast,Nat.mul_one] at h
 exact h
theorem OwnB.madeN (w:World) (T base n:Nat) (hb:base≤w.heap.size) (hn:n≤16777216):OwnB (w.alloc (.cells (madeCells #[.int .u8 0] n) T)) T base (.slice (some ⟨w.heap.size,0,none⟩) 0 n) [] :=
 World.ownsRow_made w _ n hb (by unfold maxLen;omega) (by rw [size_madeCells];simp)
theorem at_num (b k a S cap back:Nat) (A:Option Addr) (R:List UInt8) (z:Int) (w:World) (hp:Pts w b #[.slice A R.length cap,.int .i64 a,.int .i64 S,.pointer (some ⟨k,0,none⟩)] 202) (hr:BRow w w.heap.size A R)
 (hR:R.length≤16777216) (ha:a≤16777216) (h1:1≤back) (h2:back≤R.length) (hz:z=(back:Int)) :
 Calls Tryz.prog 130 #[.pointer (some ⟨b,0,none⟩),.int .i64 z] w fun e w'=>e=.returned (.tuple #[.int .u8 ((R.getD ((a+R.length-back) % R.length) 0).toNat:Int),.bool true])∧∃ d,w'=w.drewN d:=by
 subst hz
 exact at_in b k a S cap back A R w hp hr hR ha h1 h2
set_option maxRecDepth 100000 in
set_option maxHeartbeats 2000000 in
theorem copy_any (base b k S a back n:Nat) (v:Value) (R:List UInt8) (w:World) (hw:WinAt w base b k S v R a) (hbase:base≤w.heap.size) (hS2:S≤16777216) (hn:n≤16777216) (h1:1≤back) (h2:back≤R.length) :
 Calls Tryz.prog 127 #[.pointer (some ⟨b,0,none⟩),.int .i64 back,.int .i64 n] w fun e w'=>∃ (ov v':Value) (R':List UInt8) (a':Nat),e=.returned (.tuple #[ov,.int .i64 0])∧WinAt w' base b k S v' R' a' ∧
  content R' a'=lastN S (content R a++cyc (content R a) back n)∧OwnB w' 5 w.heap.size ov (cyc (content R a) back n)∧Frm (fun x=>x=b∨v.ownBlock=some x) w w' ∧
  (v'.ownBlock=v.ownBlock∨∃ g,v'.ownBlock=some g∧w.heap.size≤g∧ov.ownBlock≠some g):=by
 obtain ⟨A0,k0,rfl,hc0,hm0,hr0⟩:=hw.o.slice
 have c0:w.cell? ⟨b,0,none⟩=some (.slice A0 R.length k0):=by rw [hw.p.cell];rfl
 have hRS:=hw.n
 have haS:=hw.lt
 have HW:=hid hw
 have HR:=hid hr0
 obtain ⟨m,hm⟩:∃ m:Nat,min (back:Int) (n:Int)=m:=⟨min back n,by omega⟩
 have f1:=fun w=>min2_int (P:=Tryz.prog) #[3,3] 3 _ _ _ hm w
 have hmb:m≤back∧m≤n∧(m<n→m=back):=by omega
 have hmk:=make_bytes n hn
 clear hm hw hr0
 obtain ⟨m1,m2,m3⟩:=hmb
 have hbl:w.heap.size≤(w.alloc (.cells (madeCells #[.int .u8 0] n) 5)).heap.size:=by simp
 have O1:=hid (OwnB.madeN w 5 w.heap.size n (Nat.le_refl _) hn)
 have M0:=hid hm0
 clear hm0
 have hdq:decide (R.length<back)=false:=decide_eq_false (by omega)
 go_enter Tryz.func127,Tryz.ntmps127
 go_wp2_with (go_at_call 119;refine (dropped_no _ _ _ _ _ _ HW.out.p).mono ?_;rintro e w1 ⟨rfl,rfl⟩)
 have B1:=hid ((Below.refl w.heap.size w).alloc (Nat.le_refl _) (.cells (madeCells #[.int .u8 0] n) 5))
 go_loopw [8,9] (fun ov iv wr=>∃ t d:Nat,d+t=m∧iv=.int .i64 d∧OwnB wr 5 w.heap.size ov (cyc (content R a) back t)∧Below w.heap.size w wr) (fun _ iv _=>(intOf iv).toNat)
 case atStart=>exact ⟨0,m,by omega,rfl,by simpa [cyc] using O1.out,B1.out⟩
 obtain ⟨t,d,htd,rfl,hown,hbe⟩:=hrel
 have OW:=hid hown
 have BE:=hid hbe
 have hbt:b<w.heap.size:=HW.out.p.lt
 clear hown hbe hmk O1 B1 hbl
 by_cases hd:0<d
 ·have PW:=hid (HW.out.p.below BE.out hbt)
  have RW:=hid ((HR.out.below BE.out).more BE.out.size)
  have hx:R.getD ((a+R.length-(back-t)) % R.length) 0=(content R a).getD ((content R a).length-back+t) 0:=by
   rw [content_at (by have:=HW.out.z;by_cases hh:R.length<S;have:=this hh;omega;omega) (by omega) (by omega),content_length]
   congr 1;omega
  have HX:=hid hx
  have hdpos:(0:Int)<(d:Int):=by omega
  have hcl:t<back:=by omega
  clear hx
  go_wp2_with (first
   | (go_at_call 130
      refine (at_num b k a S k0 (back-t) A0 R _ wr PW.out RW.out (by omega) (by omega) (by omega) (by omega) (by omega)).mono ?_
      rintro e w2 ⟨rfl,dd,rfl⟩
      rw [HX.out])
   | (at_builtin;refine wpList_append_bytes _ rfl (.tmp 59) (.tmp 61) 27 rfl 5 w.heap.size Tryz.underlying27 Tryz.info_u8 u8 (cyc (content R a) back t) rfl ?own1 (some ⟨wr.heap.size,0,none⟩) 1 1 (wr.heap.size+1) [(content R a).getD ((content R a).length-back+t) 0] rfl rfl ?row1 ?len1 ?base1 ?next1)
   | go_in)
  case own1=>exact (OW.out.drewN _).alloc _
  case row1=>intro _;exact ⟨wr.heap.size,0,rfl,by simp,fun j hj=>by
   obtain rfl:j=0:=by simpa using hj
   refine ((Pts.new (wr.drewN _) _ _).cell 0).trans ?_;simp [byteV]⟩
  case len1=>rw [cyc_length];simp;omega
  case base1=>have:=BE.out.size;simp;omega
  intro v3 w3 hown3 hfrm3 hnew3
  have hb3:Below w.heap.size w w3:=((below_drewN BE.out _).alloc BE.out.size _).trans (hfrm3.below (B:=w.heap.size) ((below_drewN BE.out _).alloc BE.out.size _).size (fun q hq=>(OW.out.lt hq).1))
  have ecs:=cyc_snoc (C:=content R a) hcl
  rw [List.getD_eq_getElem?_getD] at ecs
  rw [ecs] at hown3
  clear ecs
  have B3:=hid hb3
  have O3:=hid hown3
  clear hown3 hfrm3 hnew3 hb3
  go_wp2
  exact ⟨⟨t+1,d-1,by omega,by go_num,O3.out,B3.out⟩,by simp [intOf];omega⟩
 have hd1:(d:Int)≤0:=by omega
 have htm:t=m:=by omega
 have O2:=hid (htm▸OW.out)
 clear f1 OW
 go_wp2
 go_loopg [8] n (fun gn ov wq=>∃ L:Nat,n-L≤gn∧m≤L∧L≤n∧(L<n→L % back=0)∧OwnB wq 5 w.heap.size ov (cyc (content R a) back L)∧Below w.heap.size w wq)
 case atStart=>exact ⟨m,by omega,Nat.le_refl _,m2,fun h=>by rw [m3 h];exact Nat.mod_self _,O2.out,BE.out⟩
 obtain ⟨L,hgn,hmL,hLn,hLm,hown,hbe⟩:=hrel
 have OL:=hid hown
 have BL:=hid hbe
 obtain ⟨A2,c2,rfl,hc2,hm2,hr2⟩:=hown.slice
 rw [cyc_length] at hc2 hown OL
 rw [cyc_length]
 have R2:=hid hr2
 have M2:=hid hm2
 have LM:=hid hLm
 clear hown hbe hr2 hm2 hLm BE O2
 by_cases hlt:L<n
 ·have hmod:=LM.out hlt
  have hbL:back≤L:=by have:=m3 (by omega);omega
  obtain ⟨x,hx⟩:∃ x:Nat,min (L:Int) ((n:Int)-L)=x:=⟨min L (n-L),by omega⟩
  have f2:=fun w=>min2_int (P:=Tryz.prog) #[3,3] 3 _ _ _ hx w
  obtain ⟨Q,hQ⟩:∃ Q,x / back=Q:=⟨_,rfl⟩
  obtain ⟨K,hK⟩:∃ K,Q*back=K:=⟨_,rfl⟩
  have hKx:K≤x:=by rw [← hK,← hQ];exact Nat.div_mul_le_self _ _
  have hq0:(x:Int) / (back:Int)=(Q:Int):=by rw [← hQ];exact (Int.natCast_ediv x back).symm
  have hq1:(Q:Int)*(back:Int)=(K:Int):=by rw [← hK];exact (Int.natCast_mul Q back).symm
  have hQx:Q≤x:=by rw [← hQ];exact Nat.div_le_self _ _
  have hne:((back:Int)==0)=false:=beq_eq_false_iff_ne.2 (by omega)
  have hKm:K % back=0:=by rw [← hK];exact Nat.mul_mod_left _ _
  have KM:=hid hKm
  have hK0:K=0→n-L<back:=by
   intro h
   rw [← hK] at h
   rcases Nat.mul_eq_zero.1 h with h | h
   ·rw [h] at hQ
    have:=(Nat.div_eq_zero_iff_lt (by omega)).1 hQ
    omega
   omega
  have K0:=hid hK0
  have HM:=hid hmod
  have hxle:x≤L∧x≤n-L:=by omega
  clear hQ hK hx hKm hK0 hmod
  by_cases hKz:K=0
  ·obtain ⟨y,hy⟩:∃ y:Nat,min (back:Int) ((n:Int)-L)=y:=⟨min back (n-L),by omega⟩
   have f3:=fun w=>min2_int (P:=Tryz.prog) #[3,3] 3 _ _ _ hy w
   have hy2:y=n-L:=by have:=K0.out hKz;omega
   have hyL:y≤L:=by omega
   have hsl:=fun w=>slice_to A2 L c2 y hyL hc2 w
   have hk1:((K:Int)==0)=true:=beq_iff_eq.2 (by omega)
   have htk:y=((cyc (content R a) back L).take y).length:=by rw [List.length_take,cyc_length];omega
   have HTK:=hid htk
   have Y2:=hid hy2
   clear hy htk hy2
   go_wp2_with (at_builtin;refine wpList_append_bytes _ rfl (.tmp 86) (.tmp 89) 27 rfl 5 w.heap.size Tryz.underlying27 Tryz.info_u8 (.slice A2 L c2) (cyc (content R a) back L) rfl ?own2 A2 y c2 wr.heap.size ((cyc (content R a) back L).take y) rfl HTK.out ?row2 ?len2 ?base2 ?next2)
   case own2=>exact OL.out
   case row2=>exact R2.out.take y
   case len2=>rw [← HTK.out,cyc_length];omega
   case base2=>exact BL.out.size
   intro v3 w3 hown3 hfrm3 hnew3
   have hb3:=BL.out.trans (hfrm3.below (B:=w.heap.size) BL.out.size (fun q hq=>(OL.out.lt hq).1))
   rw [cyc_more (by omega) HM.out hyL] at hown3
   obtain ⟨A3,c3,rfl,hc3,hm3,hr3⟩:=hown3.slice
   rw [cyc_length] at hown3
   have B3:=hid hb3
   have O3:=hid hown3
   clear hown3 hfrm3 hnew3 hb3 hr3
   rw [cyc_length]
   go_wp2
   go_roundg (n-(L+y))
   case measure=>have:=Y2.out;omega
   case rel=>exact ⟨L+y,by omega,by omega,by have:=Y2.out;omega,fun h=>by have:=Y2.out;omega,O3.out,B3.out⟩
  have hk1:((K:Int)==0)=false:=beq_eq_false_iff_ne.2 (by omega)
  have hsl:=fun w=>slice_to A2 L c2 K (by omega) hc2 w
  have htk:K=((cyc (content R a) back L).take K).length:=by rw [List.length_take,cyc_length];omega
  have HTK:=hid htk
  clear htk
  go_wp2_with (at_builtin;refine wpList_append_bytes _ rfl (.tmp 86) (.tmp 89) 27 rfl 5 w.heap.size Tryz.underlying27 Tryz.info_u8 (.slice A2 L c2) (cyc (content R a) back L) rfl ?own3 A2 K c2 wr.heap.size ((cyc (content R a) back L).take K) rfl HTK.out ?row3 ?len3 ?base3 ?next3)
  case own3=>exact OL.out
  case row3=>exact R2.out.take K
  case len3=>rw [← HTK.out,cyc_length];omega
  case base3=>exact BL.out.size
  intro v3 w3 hown3 hfrm3 hnew3
  have hb3:=BL.out.trans (hfrm3.below (B:=w.heap.size) BL.out.size (fun q hq=>(OL.out.lt hq).1))
  rw [cyc_more (by omega) HM.out (by omega)] at hown3
  obtain ⟨A3,c3,rfl,hc3,hm3,hr3⟩:=hown3.slice
  rw [cyc_length] at hown3
  have B3:=hid hb3
  have O3:=hid hown3
  clear hown3 hfrm3 hnew3 hb3 hr3
  rw [cyc_length]
  go_wp2
  go_roundg (n-(L+K))
  case measure=>omega
  case rel=>exact ⟨L+K,by omega,by omega,by omega,fun h=>by rw [Nat.add_mod,HM.out,KM.out];simp,O3.out,B3.out⟩
 obtain rfl:L=n:=by omega
 have hfB:Frm (fun _=>False) w wr:=Frm.of_below BL.out
 have hWB:WinAt wr base b k S (.slice A0 R.length k0) R a:=⟨HW.out.p.frm hfB (by simp),HW.out.o.frm hfB (by simp),HW.out.n,HW.out.lt,HW.out.z⟩
 have hOff:BOff (fun x=>x=b∨(Value.slice A0 R.length k0).ownBlock=some x) A2 (cyc (content R a) back L):=by
  intro h0 ad e hk
  have h5:=(OL.out.lt (k:=ad.block) (by rw [e];rfl)).1
  rcases hk with hk | hk
  ·omega
  have:=(HW.out.o.lt hk).2;omega
 have WB:=hid hWB
 have FB:=hid hfB
 have OF:=hid hOff
 clear hWB hfB hOff
 go_wp2_with (go_at_call 111
              refine (put_any base b k S a c2 wr.heap.size L (.slice A0 R.length k0) R A2 (cyc (content R a) back L) wr WB.out (cyc_length _ _ _).symm R2.out OF.out (by rw [cyc_length];exact hc2) M2.out (by rw [cyc_length];exact hn) (Nat.le_trans hbase BL.out.size) hS2 (Nat.le_refl _)).mono ?_
              rintro e w5 ⟨v',R',a',rfl,hw5,hc5,hf5,hn5⟩)
 go_ret2
 refine ⟨_,v',R',a',rfl,hw5,hc5,OL.out.frm hf5 (fun q hq hk=>?_),(FB.out.mono (fun _ _ h=>h.elim)).trans hf5,?_⟩
 ·have h5:=(OL.out.lt hq).1
  rcases hk with hk | hk
  ·omega
  have:=(HW.out.o.lt hk).2;omega
 rcases hn5 with h | h
 ·exact .inl h
 exact .inr ⟨_,h,BL.out.size,fun e=>by have:=(OL.out.lt e).2;omega⟩
open Go.RowKit Win
theorem copy_bad (base b k S a:Nat) (back n:Int) (v:Value) (R:List UInt8) (w:World) (hw:WinAt w base b k S v R a) (hn:0≤n∧n≤16777216) (hb:back<1∨(R.length:Int)<back) :
 Calls Tryz.prog 127 #[.pointer (some ⟨b,0,none⟩),.int .i64 back,.int .i64 n] w fun e w'=>e=.returned (.tuple #[.slice none 0 0,.int .i64 11])∧w=w':=by
 obtain ⟨A0,k0,rfl,hc0,hm0,hr0⟩:=hw.o.slice
 have c0:w.cell? ⟨b,0,none⟩=some (.slice A0 R.length k0):=by rw [hw.p.cell];rfl
 have HW:=hid hw
 obtain ⟨n0,n1⟩:=hn
 clear hw hr0 hm0
 have h3:back<1∨(1≤back∧(R.length:Int)<back):=by omega
 clear hb
 rcases h3 with h | ⟨h,h4⟩
 all_goals
  go_enter Tryz.func127,Tryz.ntmps127
  go_wp2_with (go_at_call 119;refine (dropped_no _ _ _ _ _ _ HW.out.p).mono ?_;rintro e w1 ⟨rfl,rfl⟩)
  go_ret2
  exact ⟨rfl,rfl⟩
open Go.RowKit Win
theorem own_ne {w:World} {T T' base g:Nat} {v:Value} {bs:List UInt8} {c:Array Value} (h:OwnB w T base v bs) (hp:Pts w g c T') (hT:T'≠T):v.ownBlock≠some g:=by
 intro hq
 rcases h.form with ⟨e,_⟩ | ⟨g',cap,cur,e,_,hp',_⟩
 ·rw [e] at hq;cases hq
 rw [e] at hq
 injection hq with hq
 subst hq
 have e2:=hp'.symm.trans hp
 simp at e2
 exact hT e2.2.symm
open Go.RowKit Rng Lz Win
def WinC (w:World) (base wb kb S:Nat) (C:List UInt8) (v:Value):Prop:=∃ R a,WinAt w base wb kb S v R a∧content R a=C
def Mv (w:World) (v v':Value):Prop:=∀ q,v'.ownBlock=some q→v.ownBlock=some q∨w.heap.size≤q
section
variable {w w' : World} {base wb kb S : Nat} {C : List UInt8} {v : Value}
theorem WinC.pts (h:WinC w base wb kb S C v):∃ c,Pts w wb c 202:=by obtain ⟨R,a,hw,_⟩:=h;exact ⟨_,hw.p⟩
theorem WinC.own (h:WinC w base wb kb S C v):∃ l,OwnB w 5 base v l:=by obtain ⟨R,a,hw,_⟩:=h;exact ⟨R,hw.o⟩
theorem WinC.frm {N:Nat→Prop} (h:WinC w base wb kb S C v) (hf:Frm N w w') (hb:¬ N wb) (hv:∀ q,v.ownBlock=some q→¬ N q):WinC w' base wb kb S C v:=by
 obtain ⟨R,a,hw,hc⟩:=h
 exact ⟨R,a,⟨hw.p.frm hf hb,hw.o.frm hf hv,hw.n,hw.lt,hw.z⟩,hc⟩
theorem WinC.len (h:WinC w base wb kb S C v):C.length≤S:=by obtain ⟨R,a,hw,hc⟩:=h;rw [← hc,content_length];exact hw.n
end
def atB (C:List UInt8) (back:Nat):UInt8:=if 1≤back∧back≤C.length then C.getD (C.length-back) 0 else 0
theorem at_c (base wb kb S back:Nat) (z:Int) (C:List UInt8) (v:Value) (w:World) (h:WinC w base wb kb S C v) (hS:S≤16777216) (hz:z=(back:Int)) :
 Calls Tryz.prog 130 #[.pointer (some ⟨wb,0,none⟩),.int .i64 z] w fun e w'=>(∃ ok,e=.returned (.tuple #[.int .u8 ((atB C back).toNat:Int),.bool ok]))∧∃ d,w'=w.drewN d:=by
 subst hz
 obtain ⟨R,a,hw,hc⟩:=h
 have hl:C.length=R.length:=by rw [← hc,content_length]
 by_cases hb:1≤back∧back≤R.length
 ·have hp:=hw.p
  have hlt:=hw.lt
  have hn:=hw.n
  have hz:=hw.z
  obtain ⟨A0,k0,rfl,hc0,hm0,hr0⟩:=hw.o.slice
  refine (at_in wb kb a S k0 back A0 R w hp hr0 (by omega) (by omega) hb.1 hb.2).mono ?_
  rintro e w' ⟨rfl,d,rfl⟩
  refine ⟨⟨true,?_⟩,d,rfl⟩
  have e1:R.getD ((a+R.length-back) % R.length) 0=atB C back:=by
   unfold atB
   rw [if_pos (by omega),content_at (by by_cases hh:R.length<S;have:=hz hh;omega;omega) hb.1 hb.2,hc,hl]
  rw [e1]
 have hl2:=hw.p
 obtain ⟨A0,k0,rfl,hc0,hm0,hr0⟩:=hw.o.slice
 have hbad:(back:Int)<1∨(R.length:Int)<(back:Int):=by omega
 have e1:atB C back=0:=by unfold atB;rw [if_neg (by omega)]
 rw [e1]
 have c0:w.cell? ⟨wb,0,none⟩=some (.slice A0 R.length k0):=by rw [hw.p.cell];rfl
 have HW:=hid hw
 clear hw hr0 hm0 hc hl hb hl2 e1
 have h3:(back:Int)<1∨(1≤(back:Int)∧(R.length:Int)<(back:Int)):=by omega
 clear hbad
 rcases h3 with h | ⟨h,h4⟩
 all_goals
  go_enter Tryz.func130,Tryz.ntmps130
  go_wp2_with (go_at_call 119;refine (dropped_no _ _ _ _ _ _ HW.out.p).mono ?_;rintro e w1 ⟨rfl,rfl⟩)
  go_ret2
  exact ⟨⟨false,rfl⟩,0,rfl⟩
theorem put_c (base wb kb S c B n:Nat) (C:List UInt8) (v:Value) (A:Option Addr) (bs:List UInt8) (w:World) (h:WinC w base wb kb S C v) (hn:n=bs.length) (hr:BRow w B A bs) (hoff:BOff (fun x=>x=wb∨v.ownBlock=some x) A bs) (hc:bs.length≤c) (hcm:c≤maxLen) (hlen:bs.length≤16777216)
 (hbase:base≤w.heap.size) (hS2:S≤16777216) (hB:B≤w.heap.size) :
 Calls Tryz.prog 111 #[.pointer (some ⟨wb,0,none⟩),.slice A n c] w fun e w'=>e=.returned (.tuple #[])∧∃ v',WinC w' base wb kb S (lastN S (C++bs)) v'∧Frm (fun x=>x=wb∨v.ownBlock=some x) w w'∧Mv w v v':=by
 obtain ⟨R,a,hw,hcn⟩:=h
 refine (put_any base wb kb S a c B n v R A bs w hw hn hr hoff hc hcm hlen hbase hS2 hB).mono ?_
 rintro e w' ⟨v',R',a',rfl,hw',hc',hf,hm⟩
 refine ⟨rfl,v',⟨R',a',hw',by rw [hc',hcn]⟩,hf,fun q hq=>?_⟩
 rcases hm with e | e
 ·exact .inl (e▸hq)
 rw [e] at hq;injection hq with hq;exact .inr (by omega)
theorem copy_c (base wb kb S back n:Nat) (z1 z2:Int) (C:List UInt8) (v:Value) (w:World) (h:WinC w base wb kb S C v) (hbase:base≤w.heap.size) (hS2:S≤16777216) (hn:n≤16777216) (hz1:z1=(back:Int)) (hz2:z2=(n:Int)) (h1:1≤back) :
 Calls Tryz.prog 127 #[.pointer (some ⟨wb,0,none⟩),.int .i64 z1,.int .i64 z2] w fun e w' =>
  (back≤C.length→∃ ov v',e=.returned (.tuple #[ov,.int .i64 0])∧WinC w' base wb kb S (lastN S (C++cyc C back n)) v'∧OwnB w' 5 w.heap.size ov (cyc C back n)∧Frm (fun x=>x=wb∨v.ownBlock=some x) w w'∧Mv w v v'∧(∀ q,ov.ownBlock=some q→v'.ownBlock≠some q)) ∧
  (¬ back≤C.length→e=.returned (.tuple #[.slice none 0 0,.int .i64 11])∧w=w'):=by
 subst hz1;subst hz2
 obtain ⟨R,a,hw,hcn⟩:=h
 have hl:C.length=R.length:=by rw [← hcn,content_length]
 by_cases hb:back≤C.length
 ·refine (copy_any base wb kb S a back n v R w hw hbase hS2 hn h1 (by omega)).mono ?_
  rintro e w' ⟨ov,v',R',a',rfl,hw',hc',ho,hf,hm⟩
  rw [hcn] at hc' ho
  refine ⟨fun _=>⟨ov,v',rfl,⟨R',a',hw',hc'⟩,ho,hf,fun q hq=>?_,fun q hq e=>?_⟩,fun hn=>absurd hb hn⟩
  ·rcases hm with e | ⟨g,e,hg,_⟩
   ·exact .inl (e▸hq)
   rw [e] at hq;injection hq with hq;exact .inr (by omega)
  rcases hm with e' | ⟨g,e',hg,hne⟩
  ·have h2:=(ho.lt hq).1
   have h3:=(hw.o.lt (e'▸e)).2
   omega
  rw [e'] at e;injection e with e;subst e;exact hne hq
 refine (copy_bad base wb kb S a back n v R w hw (by omega) (.inr (by omega))).mono ?_
 rintro e w' ⟨rfl,rfl⟩
 exact ⟨fun h=>absurd h hb,fun _=>⟨rfl,rfl⟩⟩
open Go.RowKit Rng Lz Win
structure RB where
 db:Nat
 rb:Nat
 wb:Nat
 kb:Nat
 xb:Nat
 S:Nat
 bw:Nat
 bt:Nat
theorem Pts.ne_of {w:World} {b b':Nat} {c c':Array Value} {T T':TypeId} (h:Pts w b c T) (h':Pts w b' c' T') (hT:T≠T'):b≠b':=by
 rintro rfl
 have e:=h.symm.trans h'
 injection e with e
 injection e with e1 e2
 exact hT e2
structure RdAt (Z:Nat→Prop) (w0 w:World) (k:LK) (g:RB) (total:Int) (st:Nat) (rep:Nat→Nat) (s:CP Dec) (C told:List UInt8) (wv tv:Value):Prop where
 lz:LzAt (DC g.db g.rb) (DO g.db g.rb) 211 w k st rep s
 win:WinC w g.bw g.wb g.kb g.S C wv
 p:Pts w g.xb #[.pointer (some ⟨k.sb,0,none⟩),.pointer (some ⟨g.wb,0,none⟩),.pointer (some ⟨g.db,0,none⟩),.int .i64 total,tv] 241
 o:OwnB w 5 g.bt tv told
 ne:∀ q,wv.ownBlock=some q→tv.ownBlock≠some q
 nr:g.rb≠g.wb∧g.rb≠g.xb∧wv.ownBlock≠some g.rb∧tv.ownBlock≠some g.rb∧g.rb<w.heap.size
 bs:g.bw≤w.heap.size∧g.bt≤w.heap.size
 z:∀ q,(q=g.db∨q=g.rb∨q=k.sb∨q=k.lb∨q=g.wb∨q=g.xb∨wv.ownBlock=some q∨tv.ownBlock=some q)→q<w0.heap.size→Z q
 f:Frm Z w0 w
section
variable {Z : Nat → Prop} {w0 w w' : World} {k : LK} {g : RB} {total : Int} {st : Nat} {rep : Nat → Nat} {s : CP Dec} {C told : List UInt8} {wv tv : Value}
theorem RdAt.dpts (h:RdAt Z w0 w k g total st rep s C told wv tv):∃ c,Pts w g.db c 243:=by
 exact DC.pts h.lz.c
theorem RdAt.lzStep {st':Nat} {rep':Nat→Nat} {s':CP Dec} (h:RdAt Z w0 w k g total st rep s C told wv tv) (hl:LzAt (DC g.db g.rb) (DO g.db g.rb) 211 w' k st' rep' s') (hf:Frm (Wr (DO g.db g.rb) k) w w'):RdAt Z w0 w' k g total st' rep' s' C told wv tv:=by
 obtain ⟨cd,hd⟩:=h.dpts
 obtain ⟨cw,hw⟩:=h.win.pts
 obtain ⟨lw,hwo⟩:=h.win.own
 refine ⟨hl,h.win.frm hf ?_ ?_,h.p.frm hf ?_,h.o.frm hf ?_,h.ne,⟨h.nr.1,h.nr.2.1,h.nr.2.2.1,h.nr.2.2.2.1,Nat.lt_of_lt_of_le h.nr.2.2.2.2 hf.size⟩,⟨Nat.le_trans h.bs.1 hf.size,Nat.le_trans h.bs.2 hf.size⟩,h.z,h.f.transW hf ?_⟩
 ·rintro ((e | e) | e | e)
  ·exact hw.ne_of hd (by decide) e
  ·exact h.nr.1 e.symm
  ·exact hw.ne_of h.lz.m (by decide) e
  exact hw.ne_of h.lz.l (by decide) e
 ·intro q hq
  rintro ((e | e) | e | e)
  ·subst e;exact own_ne hwo hd (by decide) hq
  ·subst e;exact h.nr.2.2.1 hq
  ·subst e;exact own_ne hwo h.lz.m (by decide) hq
  subst e;exact own_ne hwo h.lz.l (by decide) hq
 ·rintro ((e | e) | e | e)
  ·exact h.p.ne_of hd (by decide) e
  ·exact h.nr.2.1 e.symm
  ·exact h.p.ne_of h.lz.m (by decide) e
  exact h.p.ne_of h.lz.l (by decide) e
 ·intro q hq
  rintro ((e | e) | e | e)
  ·subst e;exact own_ne h.o hd (by decide) hq
  ·subst e;exact h.nr.2.2.2.1 hq
  ·subst e;exact own_ne h.o h.lz.m (by decide) hq
  subst e;exact own_ne h.o h.lz.l (by decide) hq
 rintro q ((e | e) | e | e) hq
 ·exact h.z q (.inl e) hq
 ·exact h.z q (.inr (.inl e)) hq
 ·exact h.z q (.inr (.inr (.inl e))) hq
 exact h.z q (.inr (.inr (.inr (.inl e)))) hq
theorem RdAt.winStep {C':List UInt8} {wv':Value} (h:RdAt Z w0 w k g total st rep s C told wv tv) (hw':WinC w' g.bw g.wb g.kb g.S C' wv') (hf:Frm (fun x=>x=g.wb∨wv.ownBlock=some x) w w') (hm:Mv w wv wv'):RdAt Z w0 w' k g total st rep s C' told wv' tv:=by
 obtain ⟨cd,hd⟩:=h.dpts
 obtain ⟨cw,hw⟩:=h.win.pts
 obtain ⟨lw,hwo⟩:=h.win.own
 have hrb:=h.nr.2.2.2.2
 refine ⟨h.lz.frm (DC.keep _ _) hf ?_,hw',h.p.frm hf ?_,h.o.frm hf ?_,?_,⟨h.nr.1,h.nr.2.1,?_,h.nr.2.2.2.1,Nat.lt_of_lt_of_le hrb hf.size⟩,⟨Nat.le_trans h.bs.1 hf.size,Nat.le_trans h.bs.2 hf.size⟩,?_,h.f.transW hf ?_⟩
 ·rintro q ((e | e) | e | e) (e2 | e2)
  ·exact hd.ne_of hw (by decide) (e.symm.trans e2)
  ·subst e;exact own_ne hwo hd (by decide) e2
  ·exact h.nr.1 (e.symm.trans e2)
  ·subst e;exact h.nr.2.2.1 e2
  ·exact h.lz.m.ne_of hw (by decide) (e.symm.trans e2)
  ·subst e;exact own_ne hwo h.lz.m (by decide) e2
  ·exact h.lz.l.ne_of hw (by decide) (e.symm.trans e2)
  subst e;exact own_ne hwo h.lz.l (by decide) e2
 ·rintro (e | e)
  ·exact h.p.ne_of hw (by decide) e
  exact own_ne hwo h.p (by decide) e
 ·intro q hq
  rintro (e | e)
  ·subst e;exact own_ne h.o hw (by decide) hq
  exact h.ne q e hq
 ·intro q hq ht
  rcases hm q hq with e | e
  ·exact h.ne q e ht
  have:=(h.o.lt ht).2;omega
 ·intro e
  rcases hm _ e with e2 | e2
  ·exact h.nr.2.2.1 e2
  omega
 ·intro q hq hlt
  rcases hq with e | e | e | e | e | e | e | e
  ·exact h.z q (.inl e) hlt
  ·exact h.z q (.inr (.inl e)) hlt
  ·exact h.z q (.inr (.inr (.inl e))) hlt
  ·exact h.z q (.inr (.inr (.inr (.inl e)))) hlt
  ·exact h.z q (.inr (.inr (.inr (.inr (.inl e))))) hlt
  ·exact h.z q (.inr (.inr (.inr (.inr (.inr (.inl e)))))) hlt
  ·rcases hm q e with e2 | e2
   ·exact h.z q (.inr (.inr (.inr (.inr (.inr (.inr (.inl e2))))))) hlt
   have:=h.f.size;omega
  exact h.z q (.inr (.inr (.inr (.inr (.inr (.inr (.inr e))))))) hlt
 rintro q (e | e) hlt
 ·exact h.z q (.inr (.inr (.inr (.inr (.inl e))))) hlt
 exact h.z q (.inr (.inr (.inr (.inr (.inr (.inr (.inl e))))))) hlt
theorem RdAt.frmOut {N:Nat→Prop} (h:RdAt Z w0 w k g total st rep s C told wv tv) (hf:Frm N w w') (hN:∀ q,N q→w.heap.size≤q):RdAt Z w0 w' k g total st rep s C told wv tv:=by
 have hf':Frm (fun _=>False) w w':=⟨hf.os,hf.tape,hf.output,hf.size,fun q hq _=>hf.block q hq (fun hn=>by have:=hN q hn;omega)⟩
 exact ⟨h.lz.later (DC.keep _ _) hf',h.win.frm hf' id (fun _ _ h=>h),h.p.frm hf' id,h.o.frm hf' (fun _ _ h=>h),h.ne,⟨h.nr.1,h.nr.2.1,h.nr.2.2.1,h.nr.2.2.2.1,Nat.lt_of_lt_of_le h.nr.2.2.2.2 hf.size⟩,⟨Nat.le_trans h.bs.1 hf.size,Nat.le_trans h.bs.2 hf.size⟩,h.z,h.f.transW hf' (fun _ h=>h.elim)⟩
theorem RdAt.drewN (h:RdAt Z w0 w k g total st rep s C told wv tv) (n:Nat):RdAt Z w0 (w.drewN n) k g total st rep s C told wv tv:=h.frmOut ((Frm.refl (fun _=>False) w).drewN n) (fun _ h=>h.elim)
theorem RdAt.alloc (h:RdAt Z w0 w k g total st rep s C told wv tv) (X:Obj):RdAt Z w0 (w.alloc X) k g total st rep s C told wv tv:=h.frmOut ((Frm.refl (fun _=>False) w).alloc X) (fun _ h=>h.elim)
theorem RdAt.toldStep {told':List UInt8} {tv':Value} {w1:World} (h:RdAt Z w0 w k g total st rep s C told wv tv) (ho:OwnB w1 5 g.bt tv' told') (hf:Frm (fun x=>tv.ownBlock=some x) w w1) (hm:tv'.ownBlock=tv.ownBlock∨tv'.ownBlock=some w.heap.size):RdAt Z w0 (w1.setCell ⟨g.xb,4,none⟩ tv') k g total st rep s C told' wv tv':=by
 obtain ⟨cd,hd⟩:=h.dpts
 obtain ⟨cw,hw⟩:=h.win.pts
 obtain ⟨lw,hwo⟩:=h.win.own
 have hrb:=h.nr.2.2.2.2
 have hmv:∀ q,tv'.ownBlock=some q→tv.ownBlock=some q∨w.heap.size≤q:=by
  intro q hq
  rcases hm with e | e
  ·exact .inl (e▸hq)
  rw [e] at hq;injection hq with hq;exact .inr (by omega)
 have hxlt:=h.p.lt
 have hf2:Frm (fun x=>x=g.xb∨tv.ownBlock=some x) w (w1.setCell ⟨g.xb,4,none⟩ tv'):=(hf.mono fun q _ e=>.inr e).setCell (p:=⟨g.xb,4,none⟩) (.inl rfl) tv'
 have hx:tv'.ownBlock≠some g.xb:=by
  intro e
  rcases hmv _ e with e2 | e2
  ·exact own_ne h.o h.p (by decide) e2
  omega
 refine ⟨h.lz.frm (DC.keep _ _) hf2 ?_,h.win.frm hf2 ?_ ?_,(h.p.frm hf (own_ne h.o h.p (by decide))).set 4 tv',ho.other (p:=⟨g.xb,4,none⟩) hx tv',?_,⟨h.nr.1,h.nr.2.1,h.nr.2.2.1,?_,Nat.lt_of_lt_of_le hrb hf2.size⟩,⟨Nat.le_trans h.bs.1 hf2.size,Nat.le_trans h.bs.2 hf2.size⟩,?_,h.f.transW hf2 ?_⟩
 ·rintro q ((e | e) | e | e) (e2 | e2)
  ·exact hd.ne_of h.p (by decide) (e.symm.trans e2)
  ·subst e;exact own_ne h.o hd (by decide) e2
  ·exact h.nr.2.1 (e.symm.trans e2)
  ·subst e;exact h.nr.2.2.2.1 e2
  ·exact h.lz.m.ne_of h.p (by decide) (e.symm.trans e2)
  ·subst e;exact own_ne h.o h.lz.m (by decide) e2
  ·exact h.lz.l.ne_of h.p (by decide) (e.symm.trans e2)
  subst e;exact own_ne h.o h.lz.l (by decide) e2
 ·rintro (e | e)
  ·exact hw.ne_of h.p (by decide) e
  exact own_ne h.o hw (by decide) e
 ·intro q hq
  rintro (e | e)
  ·subst e;exact own_ne hwo h.p (by decide) hq
  exact h.ne q hq e
 ·intro q hq ht
  rcases hmv q ht with e | e
  ·exact h.ne q hq e
  have:=(hwo.lt hq).2;omega
 ·intro e
  rcases hmv _ e with e2 | e2
  ·exact h.nr.2.2.2.1 e2
  omega
 ·intro q hq hlt
  rcases hq with e | e | e | e | e | e | e | e
  ·exact h.z q (.inl e) hlt
  ·exact h.z q (.inr (.inl e)) hlt
  ·exact h.z q (.inr (.inr (.inl e))) hlt
  ·exact h.z q (.inr (.inr (.inr (.inl e)))) hlt
  ·exact h.z q (.inr (.inr (.inr (.inr (.inl e))))) hlt
  ·exact h.z q (.inr (.inr (.inr (.inr (.inr (.inl e)))))) hlt
  ·exact h.z q (.inr (.inr (.inr (.inr (.inr (.inr (.inl e))))))) hlt
  rcases hmv q e with e2 | e2
  ·exact h.z q (.inr (.inr (.inr (.inr (.inr (.inr (.inr e2))))))) hlt
  have:=h.f.size;omega
 rintro q (e | e) hlt
 ·exact h.z q (.inr (.inr (.inr (.inr (.inr (.inl e)))))) hlt
 exact h.z q (.inr (.inr (.inr (.inr (.inr (.inr (.inr e))))))) hlt
end
end Go.Proofs.YtablgjhnpphodaaGreat
