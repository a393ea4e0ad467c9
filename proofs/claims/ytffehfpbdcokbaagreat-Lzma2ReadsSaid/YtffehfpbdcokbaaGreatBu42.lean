import Derived.Test.YtffehfpbdcokbaaGreatChecked
import Derived.Deep.DeepCutAuto
import Derived.Deep.CutRange
import Derived.Deep.RegionHeld3
import Derived.Test.YtffehfpbdcokbaaGreatBu41
set_option linter.unusedVariables false
set_option linter.unusedSimpArgs false
namespace Go.Proofs.YtffehfpbdcokbaaGreat
open Lib (hid)
open Go.RowKit Fnd
theorem Tryz.info_int:(Tryz.prog.info? 3).map (fun i=>(i.zero,i.size,i.bytes))=some (some (.int .i64 0),1,8):=by kernel_rfl
def setCells (win least most tries:Nat) (lazy:Bool):Array Value:=#[.int .i64 win,.int .i64 least,.int .i64 most,.int .i64 tries,.bool lazy]
set_option maxRecDepth 100000 in
theorem better_any (B bc bp bm cv sv:Nat) (A:Option Addr) (cap:Nat) (bs:List UInt8) (key cnt i size win least most tries:Nat) (lazy:Bool) (f:Int→Option Int) (prev:List Int) (w:World)
 (hC:ChainAt w B bc bp bm A cap bs key cnt f prev) (hv:Pts w cv #[.pointer (some ⟨bc,0,none⟩)] 141) (hs:Pts w sv (setCells win least most tries lazy) 140)
 (hcap:bs.length≤cap) (hcm:cap≤maxLen) (hb:bs.length≤1048576) (hk:key≤4) (hi:i<bs.length) (hI:CI bs i f prev) (hcnt:cnt≤10000000) (hsz:size≤1048576)
 (hw1:1≤win) (hw2:win≤16777216) (hl2:2≤least) (hlm:least≤most) (hm:most≤65536) (ht:1≤tries) (ht2:tries≤1000) :
 Calls Tryz.prog 70 #[.int .i64 i,.int .i64 size,.pointer (some ⟨cv,0,none⟩),.pointer (some ⟨sv,0,none⟩)] w fun e w' =>
  ∃ (β:Bool) (n2 b2:Nat),e=.returned (.bool β)∧(β=true→size+1<n2)∧Longest bs key win least most (i+1) (addF bs key i f) n2 b2 ∧
   ChainAt w' B bc bp bm A cap bs key (cnt+1) (addF bs key i f) (prev.set i (addP bs key i f))∧Frm (fun k=>k=bp∨k=bm) w w':=by
 have HC:=hid hC
 have HI:=hid hI
 have HS:=hid hs
 have HV:=hid hv
 have hne1:sv≠bp:=by rintro rfl;have e:=hs.symm.trans hC.p;simp at e
 have hne2:sv≠bm:=by rintro rfl;obtain ⟨D,⟨es,cl,hb,_⟩,_⟩:=hC.m;have e:=hs.symm.trans hb;cases e
 have hne3:cv≠bp:=by rintro rfl;have e:=hv.symm.trans hC.p;simp at e
 have hne4:cv≠bm:=by rintro rfl;obtain ⟨D,⟨es,cl,hb,_⟩,_⟩:=hC.m;have e:=hv.symm.trans hb;cases e
 have v0:w.cell? ⟨cv,0,none⟩=some (.pointer (some ⟨bc,0,none⟩)):=by rw [hv.cell];rfl
 clear hC hI hs hv
 go_enter Tryz.func70,Tryz.ntmps70
 go_wp2_with (first
  | (go_at_call 69
     refine (fadd_any B bc bp bm A cap bs key cnt i f prev w HC.out hcap hcm hb hk hi hcnt (fun k p hp=>by have:=HI.out.f k p hp;exact wf_i64 (by omega) (by omega))).mono ?_
     rintro e w1 ⟨rfl,hC1,hF1⟩
     have v1:w1.cell? ⟨cv,0,none⟩=some (.pointer (some ⟨bc,0,none⟩)):=by rw [(HV.out.frm hF1 (by rintro (h | h);exact hne3 h;exact hne4 h)).cell];rfl
     have hs1:=HS.out.frm hF1 (by rintro (h | h);exact hne1 h;exact hne2 h)
     have s0:w1.cell? ⟨sv,0,none⟩=some (.int .i64 win):=by rw [hs1.cell];rfl
     have s1:w1.cell? ⟨sv,1,none⟩=some (.int .i64 least):=by rw [hs1.cell];rfl
     have s2:w1.cell? ⟨sv,2,none⟩=some (.int .i64 most):=by rw [hs1.cell];rfl
     have s3:w1.cell? ⟨sv,3,none⟩=some (.int .i64 tries):=by rw [hs1.cell];rfl
     have s4:w1.cell? ⟨sv,4,none⟩=some (.bool lazy):=by rw [hs1.cell];rfl
     have hCI:=HI.out.add (key:=key) hi HC.out.n
     have C1:=hid hC1
     have F1:=hid hF1
     have CI1:=hid hCI
     clear hC1 hF1 hs1 hCI v0)
  | (go_at_call 71
     refine (longest_any B bc bp bm A cap bs key (cnt+1) (i+1) win least most tries lazy (addF bs key i f) (prev.set i (addP bs key i f)) w1 C1.out hcap hcm hb hk (by omega) CI1.out.f CI1.out.p hw1 hw2 hl2 hlm hm ht ht2).mono ?_
     rintro e w2 ⟨n2,b2,rfl,hL,hB⟩
     have hn2:n2≤65536:=by have:=hL.lim;omega
     have LL:=hid hL
     have BB:=hid hB
     clear hL hB)
  | go_in)
 go_ret
 exact ⟨_,n2,b2,rfl,fun h=>by have:=of_decide_eq_true h;omega,LL.out,C1.out.frm (Frm.of_below (S:=fun _=>False) BB.out) (by simp) (by simp) (by simp) (by simp),F1.out.trans ((Frm.of_below (S:=fun _=>False) BB.out).mono (fun _ _ h=>h.elim))⟩
theorem made_prev (n:Nat):madeCells #[.int .i64 0] n=prevCells (List.replicate n 0):=by
 apply Array.toList_inj.1
 rw [toList_madeCells_one]
 unfold prevCells
 simp
theorem make_ints (n:Nat) (hn:n≤1048576) (w:World) :
 (Instr.makeSlice 143 (.int .i64 (n:Int)) (.int .i64 (n:Int))).run Tryz.prog w=.ok (.slice (some ⟨w.heap.size,0,none⟩) n n) (w.alloc (.cells (prevCells (List.replicate n 0)) 3)):=by
 obtain ⟨i,hi,hz⟩:=Option.map_eq_some_iff.1 Tryz.info_int
 simp only [Prod.mk.injEq] at hz
 have h:=run_make (P:=Tryz.prog) w 143 3 i (.int .i64 0) Tryz.underlying143 hi hz.1 .i64 .i64 n n (by omega) (by omega) (by rw [hz.2.2];omega) (by omega)
 rw [hz.2.1] at h
 simp only [Int.toNat_natCast,Nat.mul_one] at h
 rw [h,← made_prev]
 rfl
theorem made_four (w w1:World) (o0 o1 o2 o3:Obj) (im ip ib ic:Nat) {c key win lo hi tries:Nat} {lazy:Bool} {A:Option Addr} {bs:List UInt8}
 (hm:([o0,o1,o2,o3]:List Obj)[im]?=some (.map #[] 0)) (hp:([o0,o1,o2,o3]:List Obj)[ip]?=some (.cells (prevCells (List.replicate bs.length 0)) 3))
 (hb:([o0,o1,o2,o3]:List Obj)[ib]?=some (.cells #[.slice A bs.length c,.int .i64 key,.map (some (w1.heap.size+im)),.slice (some ⟨w1.heap.size+ip,0,none⟩) bs.length bs.length] 145))
 (hc:([o0,o1,o2,o3]:List Obj)[ic]?=some (.cells #[.pointer (some ⟨w1.heap.size+ib,0,none⟩)] 141))
 (hrow:BRow w w.heap.size A bs) (hbl:Below w.heap.size w w1) (hsv:Pts w1 w.heap.size (setCells win lo hi tries lazy) 140) :
 ∃ bc bp bm cv':Nat,Value.pointer (some ⟨w1.heap.size+ic,0,none⟩)=.pointer (some ⟨cv',0,none⟩)∧w.heap.size≤cv'∧ChainAt ((((w1.alloc o0).alloc o1).alloc o2).alloc o3).drew w.heap.size bc bp bm A c bs key 0 (fun _=>none) (List.replicate bs.length 0) ∧
  Pts ((((w1.alloc o0).alloc o1).alloc o2).alloc o3).drew cv' #[.pointer (some ⟨bc,0,none⟩)] 141∧Pts ((((w1.alloc o0).alloc o1).alloc o2).alloc o3).drew w.heap.size (setCells win lo hi tries lazy) 140∧Below w.heap.size w ((((w1.alloc o0).alloc o1).alloc o2).alloc o3).drew:=by
 have hat:∀ (i:Nat) (o:Obj),([o0,o1,o2,o3]:List Obj)[i]?=some o→((((w1.alloc o0).alloc o1).alloc o2).alloc o3).drew.heap[w1.heap.size+i]?=some o:=by
  intro i o h
  show ((((w1.heap.push o0).push o1).push o2).push o3)[w1.heap.size+i]?=some o
  simp only [Array.getElem?_push,Array.size_push]
  rcases i with _ | _ | _ | _ | i
  ·simp at h
   repeat' split
   all_goals first | (exfalso;omega) | (rw [h])
  ·simp at h
   repeat' split
   all_goals first | (exfalso;omega) | (rw [h])
  ·simp at h
   repeat' split
   all_goals first | (exfalso;omega) | (rw [h])
  ·simp at h
   repeat' split
   all_goals first | (exfalso;omega) | (rw [h])
  simp at h
 have hz:=hbl.size
 have hB:Below w1.heap.size w1 ((((w1.alloc o0).alloc o1).alloc o2).alloc o3).drew :=
  ((((((Below.refl _ _).alloc (Nat.le_refl _) o0).alloc (by simp) o1).alloc (by simp;omega) o2).alloc (by simp;omega) o3)).drew
 refine ⟨w1.heap.size+ib,w1.heap.size+ip,w1.heap.size+im,w1.heap.size+ic,rfl,by omega,⟨hat _ _ hb,hat _ _ hp,by simp,⟨.map [],⟨#[],0,hat _ _ hm,?_⟩,MapIs.empty⟩,hrow.below (hbl.trans (hB.mono hz)),by omega,by omega,by omega⟩,hat _ _ hc,hsv.below hB hsv.lt,hbl.trans (hB.mono hz)⟩
 obtain ⟨es,cl,h1,h2⟩:=World.ownsMap_made w1 Tryz.prog 88 (plainElem (H:=Unit) Tryz.prog 3)
 have h3:(w1.alloc (.map #[] 0)).heap[w1.heap.size]?=some (.map #[] 0):=heap_alloc_new w1 _
 rw [h3] at h1
 injection h1 with h1
 injection h1 with e1 e2
 subst e1;subst e2
 exact h2
theorem ChainAt.dis {w:World} {B bc bp bm sv cv cap key cnt win lo hi tries:Nat} {lazy:Bool} {A:Option Addr} {bs:List UInt8} {f:Int→Option Int} {prev:List Int} {x:Array Value}
 (hC:ChainAt w B bc bp bm A cap bs key cnt f prev) (hv:Pts w cv x 141) (hs:Pts w sv (setCells win lo hi tries lazy) 140):cv≠bp∧cv≠bm∧sv≠bp∧sv≠bm:=by
 refine ⟨?_,?_,?_,?_⟩
 ·rintro rfl;have e:=hv.symm.trans hC.p;simp at e
 ·rintro rfl;obtain ⟨D,⟨es,cl,hb,_⟩,_⟩:=hC.m;have e:=hv.symm.trans hb;cases e
 ·rintro rfl;have e:=hs.symm.trans hC.p;simp at e
 rintro rfl;obtain ⟨D,⟨es,cl,hb,_⟩,_⟩:=hC.m;have e:=hs.symm.trans hb;cases e
structure PSt (w0 w:World) (bc bp bm cv:Nat) (A:Option Addr) (c:Nat) (bs:List UInt8) (key win lo hi tries:Nat) (lazy:Bool) (j:Nat) (f:Int→Option Int) (prev:List Int) (ov:Value) (l:List Sq):Prop where
 ch:ChainAt w w0.heap.size bc bp bm A c bs key j f prev
 ci:CI bs j f prev
 ow:OwnSq w 138 w0.heap.size ov l
 cv:Pts w cv #[.pointer (some ⟨bc,0,none⟩)] 141
 sv:Pts w w0.heap.size (setCells win lo hi tries lazy) 140
 be:Below w0.heap.size w0 w
section
variable {w0 w w' : World} {bc bp bm cv : Nat} {A : Option Addr} {c : Nat} {bs : List UInt8} {key win lo hi tries : Nat} {lazy : Bool} {j : Nat} {f : Int → Option Int} {prev : List Int} {ov : Value} {l : List Sq}
theorem OwnSq.off {T T' b base:Nat} {x:Array Value} (h:OwnSq w T base ov l) (hp:Pts w b x T') (hT:T'≠T):∀ k,ov.ownBlock=some k→b≠k:=by
 rintro k hk rfl
 rcases h.2 with ⟨rfl,_⟩ | ⟨g,cap,cur,rfl,_,hh,_⟩
 ·cases hk
 injection hk with hk
 subst hk
 have e:=hp.symm.trans hh
 simp at e
 exact hT e.2
theorem PSt.later (h:PSt w0 w bc bp bm cv A c bs key win lo hi tries lazy j f prev ov l) (hb:Below w.heap.size w w'):PSt w0 w' bc bp bm cv A c bs key win lo hi tries lazy j f prev ov l:=by
 have hf:Frm (fun _=>False) w w':=Frm.of_below hb
 exact ⟨h.ch.frm hf (by simp) (by simp) (by simp) (by simp),h.ci,h.ow.frm hf (by simp),h.cv.frm hf (by simp),h.sv.frm hf (by simp),h.be.trans (hf.below h.be.size (by simp))⟩
theorem PSt.alloc (h:PSt w0 w bc bp bm cv A c bs key win lo hi tries lazy j f prev ov l) (o:Obj):PSt w0 (w.alloc o) bc bp bm cv A c bs key win lo hi tries lazy j f prev ov l:=h.later ((Below.refl _ _).alloc (Nat.le_refl _) _)
theorem PSt.map (h:PSt w0 w bc bp bm cv A c bs key win lo hi tries lazy j f prev ov l):∀ k,ov.ownBlock=some k→bm≠k:=by
 rintro k hk rfl
 obtain ⟨D,⟨es,cl,hb,_⟩,_⟩:=h.ch.m
 rcases h.ow.2 with ⟨rfl,_⟩ | ⟨g,cap,cur,rfl,_,hh,_⟩
 ·cases hk
 injection hk with hk
 subst hk
 have e:=hb.symm.trans hh
 cases e
theorem PSt.added (h:PSt w0 w bc bp bm cv A c bs key win lo hi tries lazy j f prev ov l) (hj:j<bs.length) {f':Int→Option Int} {prev':List Int} (hf':f'=addF bs key j f) (hp':prev'=prev.set j (addP bs key j f)) (hC:ChainAt w' w0.heap.size bc bp bm A c bs key (j+1) f' prev') (hF:Frm (fun k=>k=bp∨k=bm) w w') :
 PSt w0 w' bc bp bm cv A c bs key win lo hi tries lazy (j+1) f' prev' ov l:=by
 have d:=h.ch.dis h.cv h.sv
 subst hf';subst hp'
 exact ⟨hC,h.ci.add hj h.ch.n,h.ow.frm hF (by rintro k hk (rfl | rfl);exact h.ow.off h.ch.p (by decide) _ hk rfl;exact h.map _ hk rfl),h.cv.frm hF (by rintro (h | h);exact d.1 h;exact d.2.1 h),
  h.sv.frm hF (by rintro (h | h);exact d.2.2.1 h;exact d.2.2.2 h),h.be.trans (hF.below h.be.size (by rintro k (rfl | rfl);exact h.ch.hp;exact h.ch.hm))⟩
theorem PSt.grown (h:PSt w0 w bc bp bm cv A c bs key win lo hi tries lazy j f prev ov l) {ov':Value} {l':List Sq} (ho:OwnSq w' 138 w0.heap.size ov' l') (hF:Frm (fun k=>ov.ownBlock=some k) w w') :
 PSt w0 w' bc bp bm cv A c bs key win lo hi tries lazy j f prev ov' l' :=
 ⟨h.ch.frm hF (fun e=>h.ow.off h.ch.c (by decide) _ e rfl) (fun e=>h.ow.off h.ch.p (by decide) _ e rfl) (fun e=>h.map _ e rfl) (fun k hk=>(h.ow.lt hk).1),h.ci,ho,h.cv.frm hF (fun e=>h.ow.off h.cv (by decide) _ e rfl),
  h.sv.frm hF (fun e=>h.ow.off h.sv (by decide) _ e rfl),h.be.trans (hF.below h.be.size (fun k hk=>(h.ow.lt hk).1))⟩
theorem PSt.v0 (h:PSt w0 w bc bp bm cv A c bs key win lo hi tries lazy j f prev ov l):w.cell? ⟨cv,0,none⟩=some (.pointer (some ⟨bc,0,none⟩)):=by rw [h.cv.cell];rfl
theorem PSt.s (h:PSt w0 w bc bp bm cv A c bs key win lo hi tries lazy j f prev ov l):w.cell? ⟨w0.heap.size,0,none⟩=some (.int .i64 win)∧w.cell? ⟨w0.heap.size,1,none⟩=some (.int .i64 lo)∧w.cell? ⟨w0.heap.size,2,none⟩=some (.int .i64 hi) ∧
 w.cell? ⟨w0.heap.size,3,none⟩=some (.int .i64 tries)∧w.cell? ⟨w0.heap.size,4,none⟩=some (.bool lazy):=by
 refine ⟨?_,?_,?_,?_,?_⟩ <;> rw [h.sv.cell] <;> rfl
end
theorem Tryz.info_sq:(Tryz.prog.info? 138).map (fun i=>(i.zero,i.size,i.bytes))=some (some (.agg #[.int .i64 0,.int .i64 0,.int .i64 0]),3,24):=by kernel_rfl
def LoS (b lo:Nat) (w:World):Prop:=b<w.heap.size∧w.cell? ⟨b,1,none⟩=some (.int .i64 lo)
theorem LoS.drew {b lo:Nat} {w:World} (h:LoS b lo w):LoS b lo w.drew:=h
theorem LoS.alloc {b lo:Nat} {w:World} (h:LoS b lo w) (o:Obj):LoS b lo (w.alloc o):=⟨by have:=h.1;simp;omega,(World.cell?_alloc_lt w o ⟨b,1,none⟩ h.1).trans h.2⟩
set_option maxRecDepth 100000 in
set_option maxHeartbeats 4000000 in
theorem parse_main (A:Option Addr) (bs:List UInt8) (n c:Nat) (fr level window least most:Int) (at_ lv win lo hi:Nat) (w:World) (hn:n=bs.length) (hc:bs.length≤c) (hcm:c≤maxLen) (hr:BRow w w.heap.size A bs) (hlen:bs.length≤1048576)
 (h1:min (max fr 0) bs.length=at_) (h2:min (max level 0) 3=lv) (h3:min (max window 1) 16777216=win) (h4:min (max least 2) 65536=lo) (h5:max (lo:Int) (min most 65536)=hi) (hat:at_<bs.length) (hlv:1≤lv) :
 Calls Tryz.prog 31 #[.slice A n c,.int .i64 fr,.int .i64 level,.int .i64 window,.int .i64 least,.int .i64 most] w fun e w' =>
  ∃ v l,e=.returned v∧OwnSq w' 138 w.heap.size v l∧Right bs win lo hi l at_∧(AllSame bs at_→l.length≤2+(bs.length-at_) / hi)∧l.length≤2097153∧Below w.heap.size w w':=by
 subst hn
 unfold maxLen at hcm
 obtain ⟨X,hX⟩:∃ X,max fr 0=X:=⟨_,rfl⟩
 obtain ⟨Y,hY⟩:∃ X,max level 0=X:=⟨_,rfl⟩
 obtain ⟨Z,hZ⟩:∃ X,max window 1=X:=⟨_,rfl⟩
 obtain ⟨U,hU⟩:∃ X,max least 2=X:=⟨_,rfl⟩
 obtain ⟨V,hV⟩:∃ X,min most 65536=X:=⟨_,rfl⟩
 rw [hX] at h1;rw [hY] at h2;rw [hZ] at h3;rw [hU] at h4;rw [hV] at h5
 obtain ⟨key,hkey⟩:∃ key:Nat,min (lo:Int) 4=key:=⟨min lo 4,by omega⟩
 obtain ⟨st,hst⟩:∃ st:Nat,max 0 ((at_:Int)-win)=st:=⟨at_-win,by omega⟩
 have f1:=fun w=>max2_int (P:=Tryz.prog) #[3,3] 3 _ _ _ hX w
 have f2:=fun w=>max2_int (P:=Tryz.prog) #[3,3] 3 _ _ _ hY w
 have f3:=fun w=>max2_int (P:=Tryz.prog) #[3,3] 3 _ _ _ hZ w
 have f4:=fun w=>max2_int (P:=Tryz.prog) #[3,3] 3 _ _ _ hU w
 have f5:=fun w=>min2_int (P:=Tryz.prog) #[3,3] 3 _ _ _ hV w
 have f6:=fun w=>min2_int (P:=Tryz.prog) #[3,3] 3 _ _ _ h1 w
 have f7:=fun w=>min2_int (P:=Tryz.prog) #[3,3] 3 _ _ _ h2 w
 have f8:=fun w=>min2_int (P:=Tryz.prog) #[3,3] 3 _ _ _ h3 w
 have f9:=fun w=>min2_int (P:=Tryz.prog) #[3,3] 3 _ _ _ h4 w
 have f10:=fun w=>max2_int (P:=Tryz.prog) #[3,3] 3 _ _ _ h5 w
 have f11:=fun w=>min2_int (P:=Tryz.prog) #[3,3] 3 _ _ _ hkey w
 have f12:=fun w=>max2_int (P:=Tryz.prog) #[3,3] 3 _ _ _ hst w
 have b1:at_≤bs.length:=by omega
 have b2:lv≤3:=by omega
 have b3:1≤win∧win≤16777216:=by omega
 have b4:2≤lo∧lo≤65536:=by omega
 have b5:lo≤hi∧hi≤65536:=by omega
 have b6:key≤4∧key≤lo:=by omega
 have b7:st≤at_:=by omega
 have ne1:((at_:Int)==(bs.length:Int))=false:=beq_eq_false_iff_ne.2 (by omega)
 have ne2:((lv:Int)==0)=false:=beq_eq_false_iff_ne.2 (by omega)
 obtain ⟨lazy,hlz⟩:∃ lazy,decide (1<(lv:Int))=lazy:=⟨_,rfl⟩
 obtain ⟨tries,htr,t1,t2⟩:∃ tries:Nat,wrap64 (4*2 ^ (2*lv))=(tries:Int)∧1≤tries∧tries≤1000:=by
  have:lv=1∨lv=2∨lv=3:=by omega
  rcases this with rfl | rfl | rfl
  ·exact ⟨16,by simp [wrap64],by decide,by decide⟩
  ·exact ⟨64,by simp [wrap64],by decide,by decide⟩
  exact ⟨256,by simp [wrap64],by decide,by decide⟩
 clear hX hY hZ hU hV h1 h2 h3 h4 h5 hkey hst
 have HR:=hid hr
 clear hr
 have hmm:=@run_makeMap Tryz.prog
 have hms:=make_ints bs.length hlen
 have hmf:∀ (fn:Fn) (first cap:Array Value) (w:World),(Instr.makeFunc fn first cap).run Tryz.prog w=.ok (.func fn first cap) w:=fun _ _ _ _=>rfl
 go_enter Tryz.func31,Tryz.ntmps31
 go_upto_region 9 with fail
 have hsv:Pts (w.alloc (.cells (setCells win lo hi tries lazy) 140)) w.heap.size (setCells win lo hi tries lazy) 140:=Pts.new _ _ _
 have hbl:Below w.heap.size w (w.alloc (.cells (setCells win lo hi tries lazy) 140)):=(Below.refl _ _).alloc (Nat.le_refl _) _
 unfold setCells at hsv hbl
 have hsz:w.heap.size<(w.alloc (.cells #[.int .i64 win,.int .i64 lo,.int .i64 hi,.int .i64 tries,.bool lazy] 140)).heap.size:=by simp
 generalize w.alloc (.cells #[.int .i64 win,.int .i64 lo,.int .i64 hi,.int .i64 tries,.bool lazy] 140)=w1 at *
 have s1:w1.cell? ⟨w.heap.size,1,none⟩=some (.int .i64 lo):=by rw [hsv.cell];rfl
 have SV:=hid hsv
 have BL:=hid hbl
 clear hsv hbl
 go_cut [14] from 24 to 71 (fun s14 wx=>∃ bc bp bm cv:Nat,s14=.pointer (some ⟨cv,0,none⟩)∧w.heap.size≤cv∧ChainAt wx w.heap.size bc bp bm A c bs key 0 (fun _=>none) (List.replicate bs.length 0) ∧
  Pts wx cv #[.pointer (some ⟨bc,0,none⟩)] 141∧Pts wx w.heap.size (setCells win lo hi tries lazy) 140∧Below w.heap.size w wx)
 case first =>
  have hS0:LoS w.heap.size lo w1:=⟨hsz,s1⟩
  have hS1:LoS w.heap.size lo w1.drew:=hS0
  go_region_held3 (fun w'=>w.heap.size<w'.heap.size∧w'.cell? ⟨w.heap.size,1,none⟩=some (.int .i64 lo)) (first | assumption | (change LoS w.heap.size lo _;repeat (first | exact hS0 | refine LoS.drew ?_ | refine LoS.alloc ?_ _ | refine LoS.set ?_ _ (by simp;omega)))) (first | fail | fail)
  all_goals
   go_wp2
   go_meet
   case rel =>
   first
    | exact made_four w w1 _ _ _ _ 0 1 2 3 rfl rfl rfl rfl HR.out BL.out SV.out
    | exact made_four w w1 _ _ _ _ 0 1 3 2 rfl rfl rfl rfl HR.out BL.out SV.out
    | exact made_four w w1 _ _ _ _ 0 2 3 1 rfl rfl rfl rfl HR.out BL.out SV.out
    | exact made_four w w1 _ _ _ _ 1 2 3 0 rfl rfl rfl rfl HR.out BL.out SV.out
    | exact made_four w w1 _ _ _ _ 1 0 2 3 rfl rfl rfl rfl HR.out BL.out SV.out
    | exact made_four w w1 _ _ _ _ 1 0 3 2 rfl rfl rfl rfl HR.out BL.out SV.out
    | exact made_four w w1 _ _ _ _ 2 0 3 1 rfl rfl rfl rfl HR.out BL.out SV.out
    | exact made_four w w1 _ _ _ _ 2 1 3 0 rfl rfl rfl rfl HR.out BL.out SV.out
 case rest =>
 obtain ⟨bc,bp,bm,cv,rfl,hcvB,hC,hcv,hsv,hbe⟩:=hcut
 clear s1 hsz SV BL f1 f2 f3 f4 f5 f6 f7 f8 f9 f10 f11 hmm hms hlz htr
 have HC:=hid hC
 have HCV:=hid hcv
 have HSV:=hid hsv
 have HBE:=hid hbe
 have s0:wc.cell? ⟨w.heap.size,0,none⟩=some (.int .i64 win):=by rw [hsv.cell];rfl
 clear hC hcv hsv hbe
 obtain ⟨b31,b32⟩:=b3
 obtain ⟨b41,b42⟩:=b4
 obtain ⟨b51,b52⟩:=b5
 obtain ⟨b61,b62⟩:=b6
 go_wp2
 clear f12 s0
 go_loopw [15] (fun iv wr=>∃ (k:Nat) (f:Int→Option Int) (prev:List Int),iv=.int .i64 k∧k≤at_∧ChainAt wr w.heap.size bc bp bm A c bs key k f prev∧CI bs k f prev ∧
  Pts wr cv #[.pointer (some ⟨bc,0,none⟩)] 141∧Pts wr w.heap.size (setCells win lo hi tries lazy) 140∧Below w.heap.size w wr) (fun iv _=>at_-(intOf iv).toNat)
 case atStart=>exact ⟨st,_,_,rfl,b7,HC.out.mono (Nat.zero_le _),CI.start _ _,HCV.out,HSV.out,HBE.out⟩
 case round =>
 obtain ⟨k,f,prev,rfl,hk,hC,hI,hcv,hsv,hbe⟩:=hrel
 have C1:=hid hC
 have I1:=hid hI
 have CV:=hid hcv
 have SV:=hid hsv
 have BE:=hid hbe
 by_cases hka:k<at_
 ·have v0:wr.cell? ⟨cv,0,none⟩=some (.pointer (some ⟨bc,0,none⟩)):=by rw [hcv.cell];rfl
  clear hC hI hcv hsv hbe
  go_wp2_with (go_at_call 69;refine (fadd_any w.heap.size bc bp bm A c bs key k k f prev wr C1.out hc hcm hlen b61 (by omega) (by omega) (fun k p hp=>by have:=I1.out.f k p hp;exact wf_i64 (by omega) (by omega))).mono ?_;rintro e w2 ⟨rfl,hC2,hF2⟩)
  have d:=C1.out.dis CV.out SV.out
  have hB2:=hF2.below (B:=w.heap.size) BE.out.size (by rintro k (rfl | rfl);exact C1.out.hp;exact C1.out.hm)
  exact ⟨⟨k+1,_,_,by go_num,by omega,hC2,I1.out.add (by omega) C1.out.n,CV.out.frm hF2 (by rintro (h | h);exact d.1 h;exact d.2.1 h),SV.out.frm hF2 (by rintro (h | h);exact d.2.2.1 h;exact d.2.2.2 h),BE.out.trans hB2⟩,by simp [intOf];omega⟩
 obtain rfl:k=at_:=by omega
 clear hC hI hcv hsv hbe HC HCV HSV HBE
 go_wp2
 go_loopw [16,17,19] (fun ov lv iv wr=>∃ (i q:Nat) (l:List Sq) (f:Int→Option Int) (prev:List Int),iv=.int .i64 i∧lv=.int .i64 q∧k+q≤i∧i≤bs.length∧Pre bs win lo hi l k (i-q)∧l.length≤i ∧
  PSt w wr bc bp bm cv A c bs key win lo hi tries lazy i f prev ov l∧(AllSame bs k→Near bs key k i f∧Fewer bs.length k key lo hi i q l.length)) (fun _ _ iv _=>bs.length-(intOf iv).toNat)
 case atStart=>exact ⟨k,0,[],f,prev,rfl,rfl,by omega,by omega,rfl,Nat.zero_le _,⟨C1.out,I1.out,OwnSq.nil _ _ _,CV.out,SV.out,BE.out⟩,fun _=>⟨fun h=>absurd h (by omega),.inl ⟨rfl,by omega,by omega⟩⟩⟩
 case round =>
 clear C1 I1 CV SV BE
 obtain ⟨i,q,l,f,prev,rfl,rfl,hqi,hin,hpre,hll,hps,hfew⟩:=hrel
 have PR:=hid hpre
 have PS1:=hid hps
 have FW:=hid hfew
 clear hpre hps hfew
 by_cases hilt:i<bs.length
 ·have v0:=PS1.out.v0
  obtain ⟨s0,s1,s2,s3,s4⟩:=PS1.out.s
  go_upto_region 20 with (go_at_call 71;refine (longest_any w.heap.size bc bp bm A c bs key i i win lo hi tries lazy f prev wr PS1.out.ch hc hcm hlen b61 (Nat.le_of_lt hilt) PS1.out.ci.f PS1.out.ci.p b31 b32 b41 b51 b52 t1 t2).mono ?_;rintro e w2 ⟨size,back,rfl,hL,hB⟩)
  have PS2:=hid (PS1.out.later hB)
  have LL:=hid hL
  have hsz:size≤65536:=by have:=hL.lim;omega
  have hsn:i+size≤bs.length:=by have:=hL.lim;omega
  have hbk:back≤1048576:=by rcases hL.ok with ⟨_,h⟩ | ⟨_,_,h,_⟩ <;> omega
  clear hL hB v0 s0 s1 s2 s3 s4
  have v0:=PS2.out.v0
  obtain ⟨s0,s1,s2,s3,s4⟩:=PS2.out.s
  by_cases hz:size=0
  ·subst hz
   go_wp2_with (go_at_call 69;refine (fadd_any w.heap.size bc bp bm A c bs key i i f prev w2 PS2.out.ch hc hcm hlen b61 hilt (by omega) (fun k p hp=>by have:=PS2.out.ci.f k p hp;exact wf_i64 (by omega) (by omega))).mono ?_;rintro e w3 ⟨rfl,hC3,hF3⟩)
   exact ⟨⟨i+1,q+1,l,_,_,by go_num,by go_num,by omega,by omega,by rw [show i+1-(q+1)=i-q by omega];exact PR.out,by omega,PS2.out.added hilt rfl rfl hC3 hF3,
    fun hs=>⟨Near.add hs (by omega),Fewer.zero (FW.out hs).2 hs (FW.out hs).1 b31 LL.out b41 b51 hilt⟩⟩,by simp [intOf];omega⟩
  have hz1:((size:Int)==0)=false:=beq_eq_false_iff_ne.2 (by omega)
  cases lazy
  ·have lz0:True:=trivial
   have hst:StepOk bs win lo hi (i-q) ⟨(q:Int),(size:Int),(back:Int)⟩ (i+size):=⟨q,size,back,rfl,by omega,hsn,by rcases LL.out.lo with h | h;omega;exact h,by have:=LL.out.lim;omega,by
    rw [show i-q+q=i by omega]
    rcases LL.out.ok with ⟨h,_⟩ | h
    ·exact absurd h hz
    exact h⟩
   have ST:=hid hst
   clear hst
   go_wp2_with (at_builtin;refine wpList_append_sq _ rfl (.tmp 123) (.tmp 128) 56 rfl 138 w.heap.size Tryz.underlying56 Tryz.info_sq u16 l rfl ?own1 w2.heap.size 1 ⟨(q:Int),(size:Int),(back:Int)⟩ rfl ?news1 ?len1 ?base1 ?next1)
   case own1=>exact PS2.out.ow.alloc _
   case news1=>exact Pts.new _ _ _
   case len1=>omega
   case base1=>have:=PS2.out.be.size;simp;omega
   case next1 =>
   intro v4 w4 hown4 hfrm4 hnew4
   have P4:=hid ((PS2.out.alloc (.cells #[.int .i64 q,.int .i64 size,.int .i64 back] 138)).grown hown4 hfrm4)
   clear hown4 hfrm4 hnew4 v0 s0 s1 s2 s3 s4
   obtain ⟨s0,s1,s2,s3,s4⟩:=P4.out.s
   have PG:=hid (show Pre bs win lo hi (l++[(⟨(q:Int),(size:Int),(back:Int)⟩:Sq)]) k (i+size-0) from PR.out.snoc ST.out)
   have L2:=hid (show (l++[(⟨(q:Int),(size:Int),(back:Int)⟩:Sq)]).length=l.length+1 by simp)
   generalize l++[(⟨(q:Int),(size:Int),(back:Int)⟩:Sq)]=l4 at P4 L2 PG
   go_wp2
   go_loopw [19,22] (fun iv av wq=>∃ (j m:Nat) (ad:Bool) (f:Int→Option Int) (prev:List Int),iv=.int .i64 j∧av=.bool ad∧i≤j∧j≤i+size∧((ad=false∧m=j)∨(ad=true∧m=j+1∧j=i)) ∧
    PSt w wq bc bp bm cv A c bs key win lo hi tries false m f prev v4 l4∧(AllSame bs k→Near bs key k m f)) (fun iv _ _=>i+size-(intOf iv).toNat)
   case atStart=>exact ⟨i,_,_,_,_,rfl,rfl,by omega,by omega,.inl ⟨rfl,rfl⟩,P4.out,fun hs=>(FW.out hs).1⟩
   case round =>
   obtain ⟨j,m,ad,f5,prev5,rfl,rfl,hij,hje,had,hp5,hn5⟩:=hrel
   have P5:=hid hp5
   have N5:=hid hn5
   clear hp5 hn5 s0 s1 s2 s3 s4
   by_cases hjlt:j<i+size
   ·have v0:=P5.out.v0
    rcases had with ⟨rfl,rfl⟩ | ⟨rfl,rfl,rfl⟩
    ·go_wp2_with (go_at_call 69;refine (fadd_any w.heap.size bc bp bm A c bs key m m f5 prev5 wr P5.out.ch hc hcm hlen b61 (by omega) (by omega) (fun k p hp=>by have:=P5.out.ci.f k p hp;exact wf_i64 (by omega) (by omega))).mono ?_;rintro e w6 ⟨rfl,hC6,hF6⟩)
     exact ⟨⟨m+1,m+1,false,_,_,by go_num,rfl,by omega,by omega,.inl ⟨rfl,rfl⟩,P5.out.added (by omega) rfl rfl hC6 hF6,fun hs=>Near.add hs (by omega)⟩,by simp [intOf];omega⟩
    go_wp2
    exact ⟨⟨j+1,j+1,false,_,_,by go_num,rfl,by omega,by omega,.inl ⟨rfl,rfl⟩,P5.out,N5.out⟩,by simp [intOf];omega⟩
   have hj:j=i+size:=by omega
   rcases had with ⟨rfl,rfl⟩ | ⟨rfl,rfl,rfl⟩
   ·subst hj
    go_wp2
    exact ⟨⟨i+size,0,l4,f5,prev5,by go_num,rfl,by omega,by omega,PG.out,by rw [L2.out];omega,P5.out,fun hs=>⟨N5.out hs,by rw [L2.out];exact Fewer.hit (FW.out hs).2 hs (FW.out hs).1 b31 LL.out hz b41 b62 b51 hilt⟩⟩,by simp [intOf];omega⟩
   omega
  by_cases h64:size<64
  ·have h641:((size:Int)<64):=by omega
   go_upto_if 113 with (go_at_call 70;refine (better_any w.heap.size bc bp bm cv w.heap.size A c bs key i i size win lo hi tries true f prev w2 PS2.out.ch PS2.out.cv PS2.out.sv hc hcm hlen b61 hilt PS2.out.ci (by omega) (by omega) b31 b32 b41 b51 b52 t1 t2).mono ?_;rintro e w3 ⟨β,n2,b2,rfl,hβ,hL2,hC3,hF3⟩)
   have PS3:=hid (PS2.out.added hilt rfl rfl hC3 hF3)
   have LL2:=hid hL2
   have BT:=hid hβ
   clear hβ hL2 hC3 hF3 v0 s0 s1 s2 s3 s4
   have v0:=PS3.out.v0
   obtain ⟨s0,s1,s2,s3,s4⟩:=PS3.out.s
   cases β
   ·have lz0:True:=trivial
    have hst:StepOk bs win lo hi (i-q) ⟨(q:Int),(size:Int),(back:Int)⟩ (i+size):=⟨q,size,back,rfl,by omega,hsn,by rcases LL.out.lo with h | h;omega;exact h,by have:=LL.out.lim;omega,by
     rw [show i-q+q=i by omega]
     rcases LL.out.ok with ⟨h,_⟩ | h
     ·exact absurd h hz
     exact h⟩
    have ST:=hid hst
    clear hst
    go_wp2_with (at_builtin;refine wpList_append_sq _ rfl (.tmp 123) (.tmp 128) 56 rfl 138 w.heap.size Tryz.underlying56 Tryz.info_sq u16 l rfl ?own2 w3.heap.size 1 ⟨(q:Int),(size:Int),(back:Int)⟩ rfl ?news2 ?len2 ?base2 ?next2)
    case own2=>exact PS3.out.ow.alloc _
    case news2=>exact Pts.new _ _ _
    case len2=>omega
    case base2=>have:=PS3.out.be.size;simp;omega
    case next2 =>
    intro v4 w4 hown4 hfrm4 hnew4
    have P4:=hid ((PS3.out.alloc (.cells #[.int .i64 q,.int .i64 size,.int .i64 back] 138)).grown hown4 hfrm4)
    clear hown4 hfrm4 hnew4 v0 s0 s1 s2 s3 s4
    obtain ⟨s0,s1,s2,s3,s4⟩:=P4.out.s
    have PG:=hid (show Pre bs win lo hi (l++[(⟨(q:Int),(size:Int),(back:Int)⟩:Sq)]) k (i+size-0) from PR.out.snoc ST.out)
    have L2:=hid (show (l++[(⟨(q:Int),(size:Int),(back:Int)⟩:Sq)]).length=l.length+1 by simp)
    generalize l++[(⟨(q:Int),(size:Int),(back:Int)⟩:Sq)]=l4 at P4 L2 PG
    go_wp2
    go_loopw [19,22] (fun iv av wq=>∃ (j m:Nat) (ad:Bool) (f:Int→Option Int) (prev:List Int),iv=.int .i64 j∧av=.bool ad∧i≤j∧j≤i+size∧((ad=false∧m=j)∨(ad=true∧m=j+1∧j=i)) ∧
     PSt w wq bc bp bm cv A c bs key win lo hi tries true m f prev v4 l4∧(AllSame bs k→Near bs key k m f)) (fun iv _ _=>i+size-(intOf iv).toNat)
    case atStart=>exact ⟨i,_,_,_,_,rfl,rfl,by omega,by omega,.inr ⟨rfl,rfl,rfl⟩,P4.out,fun hs=>Near.add hs (by omega)⟩
    case round =>
    obtain ⟨j,m,ad,f5,prev5,rfl,rfl,hij,hje,had,hp5,hn5⟩:=hrel
    have P5:=hid hp5
    have N5:=hid hn5
    clear hp5 hn5 s0 s1 s2 s3 s4
    by_cases hjlt:j<i+size
    ·have v0:=P5.out.v0
     rcases had with ⟨rfl,rfl⟩ | ⟨rfl,rfl,rfl⟩
     ·go_wp2_with (go_at_call 69;refine (fadd_any w.heap.size bc bp bm A c bs key m m f5 prev5 wr P5.out.ch hc hcm hlen b61 (by omega) (by omega) (fun k p hp=>by have:=P5.out.ci.f k p hp;exact wf_i64 (by omega) (by omega))).mono ?_;rintro e w6 ⟨rfl,hC6,hF6⟩)
      exact ⟨⟨m+1,m+1,false,_,_,by go_num,rfl,by omega,by omega,.inl ⟨rfl,rfl⟩,P5.out.added (by omega) rfl rfl hC6 hF6,fun hs=>Near.add hs (by omega)⟩,by simp [intOf];omega⟩
     go_wp2
     exact ⟨⟨j+1,j+1,false,_,_,by go_num,rfl,by omega,by omega,.inl ⟨rfl,rfl⟩,P5.out,N5.out⟩,by simp [intOf];omega⟩
    have hj:j=i+size:=by omega
    rcases had with ⟨rfl,rfl⟩ | ⟨rfl,rfl,rfl⟩
    ·subst hj
     go_wp2
     exact ⟨⟨i+size,0,l4,f5,prev5,by go_num,rfl,by omega,by omega,PG.out,by rw [L2.out];omega,P5.out,fun hs=>⟨N5.out hs,by rw [L2.out];exact Fewer.hit (FW.out hs).2 hs (FW.out hs).1 b31 LL.out hz b41 b62 b51 hilt⟩⟩,by simp [intOf];omega⟩
    omega
   go_wp2
   exact ⟨⟨i+1,q+1,l,_,_,by go_num,by go_num,by omega,by omega,by rw [show i+1-(q+1)=i-q by omega];exact PR.out,by omega,PS3.out,
    fun hs=>⟨Near.add hs (by omega),Fewer.better (FW.out hs).2 hs (FW.out hs).1 b31 LL.out LL2.out (BT.out rfl) hz b62 b51⟩⟩,by simp [intOf];omega⟩
  have h641:(64:Int)≤(size:Int):=by omega
  have hst:StepOk bs win lo hi (i-q) ⟨(q:Int),(size:Int),(back:Int)⟩ (i+size):=⟨q,size,back,rfl,by omega,hsn,by rcases LL.out.lo with h | h;omega;exact h,by have:=LL.out.lim;omega,by
   rw [show i-q+q=i by omega]
   rcases LL.out.ok with ⟨h,_⟩ | h
   ·exact absurd h hz
   exact h⟩
  have ST:=hid hst
  clear hst
  go_wp2_with (at_builtin;refine wpList_append_sq _ rfl (.tmp 123) (.tmp 128) 56 rfl 138 w.heap.size Tryz.underlying56 Tryz.info_sq u16 l rfl ?own3 w2.heap.size 1 ⟨(q:Int),(size:Int),(back:Int)⟩ rfl ?news3 ?len3 ?base3 ?next3)
  case own3=>exact PS2.out.ow.alloc _
  case news3=>exact Pts.new _ _ _
  case len3=>omega
  case base3=>have:=PS2.out.be.size;simp;omega
  case next3 =>
  intro v4 w4 hown4 hfrm4 hnew4
  have P4:=hid ((PS2.out.alloc (.cells #[.int .i64 q,.int .i64 size,.int .i64 back] 138)).grown hown4 hfrm4)
  clear hown4 hfrm4 hnew4 v0 s0 s1 s2 s3 s4
  obtain ⟨s0,s1,s2,s3,s4⟩:=P4.out.s
  have PG:=hid (show Pre bs win lo hi (l++[(⟨(q:Int),(size:Int),(back:Int)⟩:Sq)]) k (i+size-0) from PR.out.snoc ST.out)
  have L2:=hid (show (l++[(⟨(q:Int),(size:Int),(back:Int)⟩:Sq)]).length=l.length+1 by simp)
  generalize l++[(⟨(q:Int),(size:Int),(back:Int)⟩:Sq)]=l4 at P4 L2 PG
  go_wp2
  go_loopw [19,22] (fun iv av wq=>∃ (j m:Nat) (ad:Bool) (f:Int→Option Int) (prev:List Int),iv=.int .i64 j∧av=.bool ad∧i≤j∧j≤i+size∧((ad=false∧m=j)∨(ad=true∧m=j+1∧j=i)) ∧
   PSt w wq bc bp bm cv A c bs key win lo hi tries true m f prev v4 l4∧(AllSame bs k→Near bs key k m f)) (fun iv _ _=>i+size-(intOf iv).toNat)
  case atStart=>exact ⟨i,_,_,_,_,rfl,rfl,by omega,by omega,.inl ⟨decide_eq_false (by omega),rfl⟩,P4.out,fun hs=>(FW.out hs).1⟩
  case round =>
  obtain ⟨j,m,ad,f5,prev5,rfl,rfl,hij,hje,had,hp5,hn5⟩:=hrel
  have P5:=hid hp5
  have N5:=hid hn5
  clear hp5 hn5 s0 s1 s2 s3 s4
  by_cases hjlt:j<i+size
  ·have v0:=P5.out.v0
   rcases had with ⟨rfl,rfl⟩ | ⟨rfl,rfl,rfl⟩
   ·go_wp2_with (go_at_call 69;refine (fadd_any w.heap.size bc bp bm A c bs key m m f5 prev5 wr P5.out.ch hc hcm hlen b61 (by omega) (by omega) (fun k p hp=>by have:=P5.out.ci.f k p hp;exact wf_i64 (by omega) (by omega))).mono ?_;rintro e w6 ⟨rfl,hC6,hF6⟩)
    exact ⟨⟨m+1,m+1,false,_,_,by go_num,rfl,by omega,by omega,.inl ⟨rfl,rfl⟩,P5.out.added (by omega) rfl rfl hC6 hF6,fun hs=>Near.add hs (by omega)⟩,by simp [intOf];omega⟩
   go_wp2
   exact ⟨⟨j+1,j+1,false,_,_,by go_num,rfl,by omega,by omega,.inl ⟨rfl,rfl⟩,P5.out,N5.out⟩,by simp [intOf];omega⟩
  have hj:j=i+size:=by omega
  rcases had with ⟨rfl,rfl⟩ | ⟨rfl,rfl,rfl⟩
  ·subst hj
   go_wp2
   exact ⟨⟨i+size,0,l4,f5,prev5,by go_num,rfl,by omega,by omega,PG.out,by rw [L2.out];omega,P5.out,fun hs=>⟨N5.out hs,by rw [L2.out];exact Fewer.hit (FW.out hs).2 hs (FW.out hs).1 b31 LL.out hz b41 b62 b51 hilt⟩⟩,by simp [intOf];omega⟩
  omega
 have hie:i=bs.length:=by omega
 have hbl:=PS1.out.be
 by_cases hq:0<q
 ·have hqq:(0:Int)<(q:Int):=by omega
  go_wp2_with (at_builtin;refine wpList_append_sq _ rfl (.tmp 151) (.tmp 154) 56 rfl 138 w.heap.size Tryz.underlying56 Tryz.info_sq u16 l rfl ?own9 wr.heap.size 1 ⟨(q:Int),0,0⟩ rfl ?news9 ?len9 ?base9 ?next9)
  case own9=>exact PS1.out.ow.alloc _
  case news9=>exact Pts.new _ _ _
  case len9=>omega
  case base9=>have:=PS1.out.be.size;simp;omega
  case next9 =>
  intro v4 w4 hown4 hfrm4 hnew4
  have P4:=hid ((PS1.out.alloc (.cells #[.int .i64 q,.int .i64 0,.int .i64 0] 138)).grown hown4 hfrm4)
  clear hown4 hfrm4 hnew4
  have RR:=hid (Pre.tail PR.out hq (by omega))
  have TT:=hid (fun (hs:AllSame bs k)=>(hie▸(FW.out hs).2:Fewer bs.length k key lo hi bs.length q l.length).total (tot:=(l++[(⟨(q:Int),0,0⟩:Sq)]).length) (by omega) (by rw [if_pos hq];simp))
  have LN:=hid (show (l++[(⟨(q:Int),0,0⟩:Sq)]).length≤2097153 by simp;omega)
  generalize l++[(⟨(q:Int),0,0⟩:Sq)]=l4 at P4 RR TT LN
  go_wp2
  go_ret
  exact ⟨_,l4,rfl,P4.out.ow,RR.out,TT.out,LN.out,P4.out.be⟩
 have hq0:q=0:=by omega
 subst hq0
 have RR:=hid (Pre.right PR.out (by omega))
 have TT:=hid (fun (hs:AllSame bs k)=>(hie▸(FW.out hs).2:Fewer bs.length k key lo hi bs.length 0 l.length).total (tot:=l.length) (by omega) (by simp))
 go_wp2
 go_ret
 exact ⟨_,l,rfl,PS1.out.ow,RR.out,TT.out,by omega,hbl⟩
end Go.Proofs.YtffehfpbdcokbaaGreat
