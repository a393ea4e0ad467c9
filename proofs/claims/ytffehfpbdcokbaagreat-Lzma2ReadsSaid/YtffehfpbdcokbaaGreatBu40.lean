import Derived.Test.YtffehfpbdcokbaaGreatChecked
import Derived.WalkMore
import Derived.Deep.LoopGhost
import Derived.Test.YtffehfpbdcokbaaGreatBu39
set_option linter.unusedVariables false
set_option linter.unusedSimpArgs false
namespace Go.Proofs.YtffehfpbdcokbaaGreat
open Lib (hid)
open Go.RowKit Fnd
theorem slice_mid (A:Option Addr) (n c f m:Nat) (hf:f+m≤n) (hn:n≤c) (w:World) :
 (Instr.sliceAt 22 (.slice A n c) (some (.int .i64 (f:Int))) (some (.int .i64 (f+m:Int))) none).run Tryz.prog w=.ok (.slice (if c=f then A else A.map (·.add f)) m (c-f)) w:=by
 have e:((f:Int)+m).toNat=f+m:=by omega
 by_cases hcf:c=f
 ·simp [go_sem,hcf,e]
  intro h;exact absurd (h (by omega)) (by omega)
 simp [go_sem,hcf,e]
 intro h;exact absurd (h (by omega)) (by omega)
theorem at_no (bc:Nat) (A:Option Addr) (n cap key i:Nat) (mv pv:Value) (w:World) (hc:Pts w bc #[.slice A n cap,.int .i64 key,mv,pv] 145)
 (hi:n<i+key) (hcap:n≤cap) (hcm:cap≤maxLen) (hi2:i≤n) (hk:key≤4) (hb:n≤1048576) :
 Calls Tryz.prog 101 #[.pointer (some ⟨bc,0,none⟩),.int .i64 i] w fun e w'=>e=.returned (.tuple #[.int .u32 0,.bool false])∧∃ d,w'=w.drewN d:=by
 have c0:w.cell? ⟨bc,0,none⟩=some (.slice A n cap):=by rw [hc.cell];rfl
 have c1:w.cell? ⟨bc,1,none⟩=some (.int .i64 key):=by rw [hc.cell];rfl
 unfold maxLen at hcm
 clear hc
 go_enter Tryz.func101,Tryz.ntmps101
 go_wp2
 go_quiet (fail)
 go_wp2
 go_ret2
 exact ⟨rfl,_,rfl⟩
theorem at_any (bc:Nat) (A:Option Addr) (bs:List UInt8) (cap key i:Nat) (mv pv:Value) (w:World) (hc:Pts w bc #[.slice A bs.length cap,.int .i64 key,mv,pv] 145)
 (hr:BRow w w.heap.size A bs) (hcap:bs.length≤cap) (hcm:cap≤maxLen) (hi:i+key≤bs.length) (hb:bs.length≤1048576) :
 Calls Tryz.prog 101 #[.pointer (some ⟨bc,0,none⟩),.int .i64 i] w fun e w'=>e=.returned (.tuple #[.int .u32 (keyAt bs key i),.bool true])∧∃ d,w'=w.drewN d:=by
 have HR:=hid ((hr.drop (k:=i) hcap).take key)
 have hs:=fun w=>slice_mid A bs.length cap i key hi hcap w
 generalize (if cap=i then A else A.map (·.add i))=Ar at *
 have c0:w.cell? ⟨bc,0,none⟩=some (.slice A bs.length cap):=by rw [hc.cell];rfl
 have c1:w.cell? ⟨bc,1,none⟩=some (.int .i64 key):=by rw [hc.cell];rfl
 have hlen:((bs.drop i).take key).length=key:=by rw [List.length_take,List.length_drop];omega
 have HLEN:=hid hlen
 have hkd:keyAt bs key i=keyFold ((bs.drop i).take key):=rfl
 generalize (bs.drop i).take key=l at *
 generalize keyAt bs key i=kk at *
 have HK:=hid hkd
 unfold maxLen at hcm
 clear hr hc hlen hkd
 go_enter Tryz.func101,Tryz.ntmps101
 go_wp2
 go_quiet (fail)
 go_wp2
 go_quiet (fail)
 go_wp2
 clear hs
 go_loopw [4,33] (fun kv iv wr=>∃ (t:Nat),t≤key∧iv=.int .i64 t∧kv=.int .u32 (keyFold (l.take t))∧∃ d,wr=w.drewN d) (fun _ iv _=>key-(intOf iv).toNat)
 case atStart=>exact ⟨0,by omega,rfl,rfl,_,World.drewN_drewN _ _ _⟩
 case round =>
 obtain ⟨t,ht,rfl,rfl,dd,rfl⟩:=hrel
 by_cases htk:t<key
 ·obtain ⟨b,off,rfl,hb1,hcc⟩:=HR.out (by rw [HLEN.out];omega)
  have hc1:=hcc t (by rw [HLEN.out];omega)
  have hcw:(w.drewN dd).cell? ⟨b,off+t,none⟩=_:=hc1
  have HF:=hid (keyFold_take (l:=l) (t:=t) (by rw [HLEN.out];omega))
  clear hc1 hcc
  unfold byteV at hcw
  generalize l.getD t 0=x at *
  generalize keyFold (l.take t)=y at *
  have HC:=hid (keyStep_cast y x)
  go_wp2
  exact ⟨⟨t+1,by omega,by go_num,by rw [HF.out,← HC.out],_,rfl⟩,by simp [intOf];omega⟩
 obtain rfl:t=key:=by omega
 have hF:kk=keyFold (l.take t):=by rw [HK.out,List.take_of_length_le (by rw [HLEN.out];exact Nat.le_refl _)]
 have HF:=hid hF
 clear hF
 generalize keyFold (l.take t)=y at *
 go_wp2
 go_ret2
 exact ⟨by rw [HF.out];rfl,_,rfl⟩
theorem wf_u32 {a:Int} (h0:0≤a) (h:a<4294967296):(Lit.int .u32 a).wf=true:=by
 simp [Lit.wf,IntKind.min,IntKind.max,IntKind.signed,IntKind.bits];omega
theorem wf_i64 {a:Int} (h0 : -9223372036854775808≤a) (h:a≤9223372036854775807):(Lit.int .i64 a).wf=true:=by
 simp [Lit.wf,IntKind.min,IntKind.max,IntKind.signed,IntKind.bits];omega
theorem Tryz.law_u32:Go.Maps.Keyed Tryz.prog 88:=Go.Maps.int_keyed Tryz.underlying88
theorem Tryz.zero_int (w:World):(zeroValue 3).run Tryz.prog w=.ok (.int .i64 0) w:=by kernel_rfl
def prevCells (prev:List Int):Array Value:=(prev.map (Value.int .i64)).toArray
theorem prevCells_set (prev:List Int) (i:Nat) (x:Int):(prevCells prev).setIfInBounds i (.int .i64 x)=prevCells (prev.set i x):=by
 unfold prevCells
 apply Array.toList_inj.1
 simp [List.map_set]
theorem prevCells_get (prev:List Int) (i:Nat) (h:i<prev.length):(prevCells prev)[i]?=some (.int .i64 (prev.getD i 0)):=by
 unfold prevCells
 simp [List.getD,h]
structure ChainAt (w:World) (B bc bp bm:Nat) (A:Option Addr) (cap:Nat) (bs:List UInt8) (key cnt:Nat) (f:Int→Option Int) (prev:List Int):Prop where
 c:Pts w bc #[.slice A bs.length cap,.int .i64 key,.map (some bm),.slice (some ⟨bp,0,none⟩) bs.length bs.length] 145
 p:Pts w bp (prevCells prev) 3
 n:prev.length=bs.length
 m:∃ D,w.ownsMap Tryz.prog 88 (plainElem Tryz.prog 3) bm cnt D∧MapIs D f
 row:BRow w B A bs
 hc:B≤bc
 hp:B≤bp
 hm:B≤bm
section
variable {w w' : World} {B bc bp bm : Nat} {A : Option Addr} {cap : Nat} {bs : List UInt8} {key cnt : Nat} {f : Int → Option Int} {prev : List Int}
theorem ChainAt.ne (h:ChainAt w B bc bp bm A cap bs key cnt f prev):bc≠bp∧bc≠bm∧bp≠bm:=by
 obtain ⟨D,hD,_⟩:=h.m
 obtain ⟨es,cl,hb,_⟩:=hD
 refine ⟨?_,?_,?_⟩
 ·rintro rfl
  have e:=h.c.symm.trans h.p
  simp at e
 ·rintro rfl
  have e:=h.c.symm.trans hb
  cases e
 rintro rfl
 have e:=h.p.symm.trans hb
 cases e
theorem ChainAt.lt (h:ChainAt w B bc bp bm A cap bs key cnt f prev):bc<w.heap.size∧bp<w.heap.size∧bm<w.heap.size:=by
 obtain ⟨D,hD,_⟩:=h.m
 exact ⟨h.c.lt,h.p.lt,World.ownsMap.lt hD⟩
theorem ChainAt.frm {S:Nat→Prop} (h:ChainAt w B bc bp bm A cap bs key cnt f prev) (hf:Frm S w w') (h1:¬ S bc) (h2:¬ S bp) (h3:¬ S bm) (h4:∀ k,S k→B≤k):ChainAt w' B bc bp bm A cap bs key cnt f prev:=by
 obtain ⟨D,hD,hM⟩:=h.m
 exact ⟨h.c.frm hf h1,h.p.frm hf h2,h.n,⟨D,World.ownsMap.frm hD hf h3,hM⟩,h.row.below (hf.below (Nat.le_trans h.hc (Nat.le_of_lt h.c.lt)) h4),h.hc,h.hp,h.hm⟩
theorem ChainAt.mono (h:ChainAt w B bc bp bm A cap bs key cnt f prev) {cnt':Nat} (hn:cnt≤cnt'):ChainAt w B bc bp bm A cap bs key cnt' f prev:=by
 obtain ⟨D,hD,hM⟩:=h.m
 exact ⟨h.c,h.p,h.n,⟨D,World.ownsMap.mono hD hn,hM⟩,h.row,h.hc,h.hp,h.hm⟩
end
def addF (bs:List UInt8) (key i:Nat) (f:Int→Option Int):Int→Option Int :=
 if i+key≤bs.length then (fun x=>if x=(keyAt bs key i:Int) then some (i:Int) else f x) else f
def addP (bs:List UInt8) (key i:Nat) (f:Int→Option Int):Int :=
 if i+key≤bs.length then (f (keyAt bs key i)).getD (-1) else -1
set_option maxRecDepth 100000 in
theorem fadd_any (B bc bp bm:Nat) (A:Option Addr) (cap:Nat) (bs:List UInt8) (key cnt i:Nat) (f:Int→Option Int) (prev:List Int) (w:World) (hC:ChainAt w B bc bp bm A cap bs key cnt f prev)
 (hcap:bs.length≤cap) (hcm:cap≤maxLen) (hb:bs.length≤1048576) (hk:key≤4) (hi:i<bs.length) (hcnt:cnt≤10000000) (hf:∀ k p,f k=some p→(Lit.int .i64 p).wf=true) :
 Calls Tryz.prog 69 #[.pointer (some ⟨bc,0,none⟩),.int .i64 i] w fun e w'=>e=.returned (.tuple #[]) ∧
  ChainAt w' B bc bp bm A cap bs key (cnt+1) (addF bs key i f) (prev.set i (addP bs key i f))∧Frm (fun k=>k=bp∨k=bm) w w':=by
 obtain ⟨n1,n2,n3⟩:=hC.ne
 obtain ⟨l1,l2,l3⟩:=hC.lt
 have c0:w.cell? ⟨bc,0,none⟩=some (.slice A bs.length cap):=by rw [hC.c.cell];rfl
 have c1:w.cell? ⟨bc,1,none⟩=some (.int .i64 key):=by rw [hC.c.cell];rfl
 have c2:w.cell? ⟨bc,2,none⟩=some (.map (some bm)):=by rw [hC.c.cell];rfl
 have c3:w.cell? ⟨bc,3,none⟩=some (.slice (some ⟨bp,0,none⟩) bs.length bs.length):=by rw [hC.c.cell];rfl
 have p0:w.cell? ⟨bp,i,none⟩=some (.int .i64 (prev.getD i 0)):=by rw [hC.p.cell,prevCells_get _ _ (by rw [hC.n];exact hi)]
 have p1:w.frozen? ⟨bp,i,none⟩=false:=hC.p.frozen _
 have hw1:Frm (fun k=>k=bp) w (w.setCell ⟨bp,i,none⟩ (.int .i64 (-1))):=(Frm.refl _ _).setCell (by rfl) _
 have hpts:Pts (w.setCell ⟨bp,i,none⟩ (.int .i64 (-1))) bc _ _:=hC.c.other (by exact n1) _
 have hset:Pts (w.setCell ⟨bp,i,none⟩ (.int .i64 (-1))) bp (prevCells (prev.set i (-1))) 3:=by rw [← prevCells_set];exact hC.p.set _ _
 by_cases hik:i+key≤bs.length
 ·obtain ⟨D,hD,hM⟩:=hC.m
  have hrow1:=(hC.row.below (hw1.below (Nat.le_trans hC.hc (Nat.le_of_lt l1)) (fun k hk=>by subst hk;exact hC.hp))).more (B':=(w.setCell ⟨bp,i,none⟩ (.int .i64 (-1))).heap.size) (by have:=hw1.size;exact Nat.le_trans (Nat.le_trans hC.hc (Nat.le_of_lt l1)) this)
  have hmap1:=World.ownsMap.frm hD hw1 (fun e=>n3 e.symm)
  have HROW:=hid hrow1
  have HMAP:=hid hmap1
  have hCC:=hid hC
  have hPP:=hid hpts
  have hSS:=hid hset
  have HM:=hid hM
  have hW:=hid hw1
  have hF:addF bs key i f=(fun x=>if x=(keyAt bs key i:Int) then some (i:Int) else f x):=if_pos hik
  have hP:addP bs key i f=(f (keyAt bs key i)).getD (-1):=if_pos hik
  have hkl:keyAt bs key i<4294967296:=keyFold_lt _
  have hkey:keyOf Tryz.prog 88 (.int .u32 (keyAt bs key i))=some (.int .u32 (keyAt bs key i)):=Go.Maps.keyOf_int_mk Tryz.underlying88 (wf_u32 (by omega) (by omega))
  have HAT:=hid (fun (w:World) hc hr=>at_any bc A bs cap key i (.map (some bm)) (.slice (some ⟨bp,0,none⟩) bs.length bs.length) w hc hr hcap hcm hik hb)
  rw [hF,hP]
  obtain ⟨hh,hv⟩:=hM.2 (keyAt bs key i)
  clear hrow1 hmap1 hC hpts hset hM hw1 hF hP
  generalize keyAt bs key i=kk at *
  have hwfi:(Lit.int .i64 (i:Int)).wf=true:=wf_i64 (by omega) (by omega)
  have x3:(w.setCell ⟨bp,i,none⟩ (.int .i64 (-1))).cell? ⟨bc,3,none⟩=some (.slice (some ⟨bp,0,none⟩) bs.length bs.length):=by rw [hPP.out.cell];rfl
  have x2:(w.setCell ⟨bp,i,none⟩ (.int .i64 (-1))).cell? ⟨bc,2,none⟩=some (.map (some bm)):=by rw [hPP.out.cell];rfl
  have x4:(w.setCell ⟨bp,i,none⟩ (.int .i64 (-1))).cell? ⟨bp,i,none⟩=some (.int .i64 (-1)):=by rw [hSS.out.cell,prevCells_get _ _ (by simp [hCC.out.n];exact hi)];simp [List.getD,hCC.out.n,hi]
  cases hfk:f kk with
  | none =>
   rw [hfk] at hh
   simp only [Option.isSome_none] at hh
   have HV:=hid hv
   have HFK:=hid hfk
   clear hv hfk hf
   go_enter Tryz.func69,Tryz.ntmps69
   go_wp2_with (first
    | (go_at_call 101;refine (HAT.out _ hPP.out HROW.out).mono ?_;rintro e w1 ⟨rfl,d,rfl⟩)
    | (at_lookup;refine Go.wpList_lookup_own_ok_int _ rfl (.tmp 25) (.tmp 26) 142 rfl 88 3 .i64 Tryz.law_u32 Tryz.underlying142 Tryz.underlying3 (Tryz.zero_int _) bm cnt D rfl HMAP.out _ _ rfl hkey ?_;intro c hat hwc)
    | (at_mapUpdate;refine Go.wpList_mapUpdate_own _ rfl (.tmp 41) (.tmp 42) (.tmp 43) 142 rfl 88 3 Tryz.law_u32 Tryz.underlying142 (plainElem Tryz.prog 3) bm cnt D rfl HMAP.out (by unfold maxLen;omega) _ _ _ rfl rfl hkey _ [] (plainElem_int Tryz.underlying3 hwfi) ?_;intro w2 hown2 hgr2)
    | go_in)
   go_end0
   have hF2:Frm (fun k=>k=bm) ((w.setCell ⟨bp,i,none⟩ (.int .i64 (-1))).drewN d) w2:=⟨hgr2.os,hgr2.tape,hgr2.output,hgr2.size,fun k hk hn=>hgr2.block k hk (fun e=>hn (by injection e))⟩
   have hF3:Frm (fun k=>k=bp∨k=bm) w w2:=((hW.out.drewN d).mono (fun k _ hk=>.inl hk)).trans (hF2.mono (fun k _ hk=>.inr hk))
   exact ⟨rfl,⟨(hPP.out.drewN d).frm hF2 n2,(hSS.out.drewN d).frm hF2 n3,by simp [hCC.out.n],⟨_,hown2,HM.out.put _ _⟩,
    hCC.out.row.below (hF3.below (Nat.le_trans hCC.out.hc (Nat.le_of_lt l1)) (fun k hk=>by rcases hk with rfl | rfl;exact hCC.out.hp;exact hCC.out.hm)),hCC.out.hc,hCC.out.hp,hCC.out.hm⟩,hF3⟩
  | some p =>
   rw [hfk] at hh
   simp only [Option.isSome_some] at hh
   have HV:=hid (hv p hfk)
   have HFK:=hid hfk
   clear hv hfk hf
   go_enter Tryz.func69,Tryz.ntmps69
   go_wp2_with (first
    | (go_at_call 101;refine (HAT.out _ hPP.out HROW.out).mono ?_;rintro e w1 ⟨rfl,d,rfl⟩)
    | (at_lookup;refine Go.wpList_lookup_own_ok_int _ rfl (.tmp 25) (.tmp 26) 142 rfl 88 3 .i64 Tryz.law_u32 Tryz.underlying142 Tryz.underlying3 (Tryz.zero_int _) bm cnt D rfl HMAP.out _ _ rfl hkey ?_;intro c hat hwc;obtain rfl:c=p:=by { have e:=hat.symm.trans HV.out;injection e with e;injection e };clear hat)
    | (at_mapUpdate;refine Go.wpList_mapUpdate_own _ rfl (.tmp 41) (.tmp 42) (.tmp 43) 142 rfl 88 3 Tryz.law_u32 Tryz.underlying142 (plainElem Tryz.prog 3) bm cnt D rfl (World.ownsMap.frm (S:=fun k=>k=bp) HMAP.out (((Frm.refl _ _).drewN _).setCell (by rfl) _) (fun e=>n3 e.symm)) (by unfold maxLen;omega) _ _ _ rfl rfl hkey _ [] (plainElem_int Tryz.underlying3 hwfi) ?_;intro w2 hown2 hgr2)
    | go_in)
   go_end0
   have hS2:Pts (((w.setCell ⟨bp,i,none⟩ (.int .i64 (-1))).drewN d).setCell ⟨bp,i,none⟩ (.int .i64 c)) bp (prevCells (prev.set i c)) 3:=by have:=(hSS.out.drewN d).set i (.int .i64 c);rw [prevCells_set,List.set_set] at this;exact this
   have hF2:Frm (fun k=>k=bm) (((w.setCell ⟨bp,i,none⟩ (.int .i64 (-1))).drewN d).setCell ⟨bp,i,none⟩ (.int .i64 c)) w2:=⟨hgr2.os,hgr2.tape,hgr2.output,hgr2.size,fun k hk hn=>hgr2.block k hk (fun e=>hn (by injection e))⟩
   have hF3:Frm (fun k=>k=bp∨k=bm) w w2:=(((hW.out.drewN d).setCell (by rfl) _).mono (fun k _ hk=>.inl hk)).trans (hF2.mono (fun k _ hk=>.inr hk))
   exact ⟨rfl,⟨((hPP.out.drewN d).other (by exact n1) _).frm hF2 n2,hS2.frm hF2 n3,by simp [hCC.out.n],⟨_,hown2,HM.out.put _ _⟩,
    hCC.out.row.below (hF3.below (Nat.le_trans hCC.out.hc (Nat.le_of_lt l1)) (fun k hk=>by rcases hk with rfl | rfl;exact hCC.out.hp;exact hCC.out.hm)),hCC.out.hc,hCC.out.hp,hCC.out.hm⟩,hF3⟩
 have hCC:=hid hC
 have hPP:=hid hpts
 have hSS:=hid hset
 have hF:addF bs key i f=f:=if_neg hik
 have hP:addP bs key i f = -1:=if_neg hik
 have hW:=hid hw1
 rw [hF,hP]
 clear hC hpts hset hw1 hF hP
 go_enter Tryz.func69,Tryz.ntmps69
 go_wp2_with (go_at_call 101;refine (at_no _ _ _ _ _ _ _ _ _ hPP.out (by omega) hcap hcm (by omega) hk hb).mono ?_;rintro e w1 ⟨rfl,d,rfl⟩)
 go_end0
 have hfr:=hW.out.drewN d
 exact ⟨rfl,⟨hPP.out.drewN d,hSS.out.drewN d,by simp [hCC.out.n],by obtain ⟨D,hD,hM⟩:=hCC.out.m;exact ⟨D,(World.ownsMap.frm hD hfr (fun e=>n3 e.symm)).mono (by omega),hM⟩,
  hCC.out.row.below (hfr.below (Nat.le_trans hCC.out.hc (Nat.le_of_lt l1)) (fun k hk=>by subst hk;exact hCC.out.hp)),hCC.out.hc,hCC.out.hp,hCC.out.hm⟩,hfr.mono fun k _ hk=>.inl hk⟩
open Go.RowKit Fnd
def MatchOk (bs:List UInt8) (win i size back:Nat):Prop :=
 (size=0∧back=0)∨(1≤back∧back≤win∧back≤i∧∀ k,k<size→bs.getD (i+k) 0=bs.getD (i+k-back) 0)
def Whole (bs:List UInt8) (key win lim i:Nat) (f:Int→Option Int):Prop :=
 i+key≤bs.length∧∃ p:Nat,f (keyAt bs key i)=some (p:Int)∧p<i∧i-p≤win∧∀ j,j<lim→bs.getD (p+j) 0=bs.getD (i+j) 0
structure Longest (bs:List UInt8) (key win least most i:Nat) (f:Int→Option Int) (size back:Nat):Prop where
 ok:MatchOk bs win i size back
 lim:size≤min most (bs.length-i)
 lo:size=0∨least≤size
 whole:Whole bs key win (min most (bs.length-i)) i f→least≤min most (bs.length-i)→size=min most (bs.length-i)
theorem long_no {bs:List UInt8} {key win least most i lim:Nat} {f:Int→Option Int} (hl:min most (bs.length-i)=lim) {sz:Nat} (h:Whole bs key win lim i f→least≤lim→sz=lim) (hs:sz<least):Longest bs key win least most i f 0 0 :=
 ⟨.inl ⟨rfl,rfl⟩,Nat.zero_le _,.inl rfl,fun h1 h2=>by rw [hl] at *;have:=h h1 h2;omega⟩
theorem long_yes {bs:List UInt8} {key win least most i lim:Nat} {f:Int→Option Int} (hl:min most (bs.length-i)=lim) {sz bk:Nat} (h0:MatchOk bs win i sz bk) (h1:sz≤lim) (h:Whole bs key win lim i f→least≤lim→sz=lim) (hs:least≤sz):Longest bs key win least most i f sz bk :=
 ⟨h0,by omega,.inr hs,fun h1 h2=>by rw [hl] at *;exact h h1 h2⟩
theorem match_new {bs:List UInt8} {win i q t:Nat} (hq:q<i) (hw:i-q≤win) (h:∀ j,j<t→bs.getD (q+j) 0=bs.getD (i+j) 0):MatchOk bs win i t (i-q) :=
 .inr ⟨by omega,hw,by omega,fun k hk=>by rw [show i+k-(i-q)=q+k by omega];exact (h k hk).symm⟩
set_option maxRecDepth 100000 in
set_option maxHeartbeats 1000000 in
theorem longest_any (B bc bp bm:Nat) (A:Option Addr) (cap:Nat) (bs:List UInt8) (key cnt i win least most tries:Nat) (lazy:Bool) (f:Int→Option Int) (prev:List Int) (w:World) (hC:ChainAt w B bc bp bm A cap bs key cnt f prev)
 (hcap:bs.length≤cap) (hcm:cap≤maxLen) (hb:bs.length≤1048576) (hk:key≤4) (hi:i≤bs.length) (hf:∀ k p,f k=some p→0≤p∧p<i)
 (hprev:∀ j,j<bs.length → -1≤prev.getD j 0∧prev.getD j 0≤j) (hw1:1≤win) (hw2:win≤16777216) (hl2:2≤least) (hlm:least≤most) (hm:most≤65536) (ht:1≤tries) (ht2:tries≤1000) :
 Calls Tryz.prog 71 #[.pointer (some ⟨bc,0,none⟩),.int .i64 i,.agg #[.int .i64 win,.int .i64 least,.int .i64 most,.int .i64 tries,.bool lazy]] w fun e w' =>
  ∃ size back:Nat,e=.returned (.tuple #[.int .i64 size,.int .i64 back])∧Longest bs key win least most i f size back∧Below w.heap.size w w':=by
 obtain ⟨l1,l2,l3⟩:=hC.lt
 have hc1:Pts (w.alloc (.cells #[.int .i64 win,.int .i64 least,.int .i64 most,.int .i64 tries,.bool lazy] 140)) bc _ _:=hC.c.alloc _
 have PC:=hid hc1
 have hbel:Below w.heap.size w (w.alloc (.cells #[.int .i64 win,.int .i64 least,.int .i64 most,.int .i64 tries,.bool lazy] 140)):=(Below.refl _ _).alloc (Nat.le_refl _) _
 have BE:=hid hbel
 clear hc1 hbel
 by_cases hik:i+key≤bs.length
 ·obtain ⟨D,hD,hM⟩:=hC.m
  have hrow1:BRow (w.alloc (.cells #[.int .i64 win,.int .i64 least,.int .i64 most,.int .i64 tries,.bool lazy] 140)) w.heap.size A bs:=(hC.row.more (Nat.le_trans hC.hc (Nat.le_of_lt l1))).below BE.out
  have hmap1:=World.ownsMap.alloc hD (.cells #[.int .i64 win,.int .i64 least,.int .i64 most,.int .i64 tries,.bool lazy] 140)
  have ROW:=hid hrow1
  have HMAP:=hid hmap1
  have HF:=hid hf
  have hPP:=hid hC.p
  have HN:=hid hC.n
  have HPREV:=hid hprev
  have hkl:keyAt bs key i<4294967296:=keyFold_lt _
  have hkey:keyOf Tryz.prog 88 (.int .u32 (keyAt bs key i))=some (.int .u32 (keyAt bs key i)):=Go.Maps.keyOf_int_mk Tryz.underlying88 (wf_u32 (by omega) (by omega))
  have HAT:=hid (fun (w:World) hc hr=>at_any bc A bs cap key i (.map (some bm)) (.slice (some ⟨bp,0,none⟩) bs.length bs.length) w hc hr hcap hcm hik hb)
  have hkk:∃ kk,keyAt bs key i=kk:=⟨_,rfl⟩
  obtain ⟨kk,hkk⟩:=hkk
  have HKK:=hid hkk
  rw [hkk] at hkl hkey
  have HAT2:∀ (w:World),Pts w bc #[.slice A bs.length cap,.int .i64 key,.map (some bm),.slice (some ⟨bp,0,none⟩) bs.length bs.length] 145→BRow w w.heap.size A bs→Calls Tryz.prog 101 #[.pointer (some ⟨bc,0,none⟩),.int .i64 i] w fun e w'=>e=.returned (.tuple #[.int .u32 kk,.bool true])∧∃ d,w'=w.drewN d:=by rw [← hkk];exact HAT.out
  have HAT3:=hid HAT2
  obtain ⟨hh,hv⟩:=hM.2 kk
  have x2:(w.alloc (.cells #[.int .i64 win,.int .i64 least,.int .i64 most,.int .i64 tries,.bool lazy] 140)).cell? ⟨bc,2,none⟩=some (.map (some bm)):=by rw [PC.out.cell];rfl
  have x0:(w.alloc (.cells #[.int .i64 win,.int .i64 least,.int .i64 most,.int .i64 tries,.bool lazy] 140)).cell? ⟨bc,0,none⟩=some (.slice A bs.length cap):=by rw [PC.out.cell];rfl
  have hlim:∃ lim,min most (bs.length-i)=lim:=⟨_,rfl⟩
  obtain ⟨lim,hlim⟩:=hlim
  have hmin:min (most:Int) ((bs.length:Int)-i)=lim:=by omega
  have HLIM:=hid hlim
  have hlimle:i+lim≤bs.length:=by omega
  have hlimm:lim≤most:=by omega
  have hmin2:=fun w=>min2_int (P:=Tryz.prog) #[3,3] 3 most ((bs.length:Int)-i) lim hmin w
  clear hlim hmin hkk HAT2 HAT hC hrow1 hmap1 hf hprev hM hD
  cases hfk:f kk with
  | none =>
   rw [hfk] at hh
   simp only [Option.isSome_none] at hh
   have HFK:=hid hfk
   clear hv hfk
   go_enter Tryz.func71,Tryz.ntmps71
   go_wp2
   go_step3
   go_wp2_with (first
    | (go_at_call 101;refine (HAT3.out _ PC.out (ROW.out.more (by simp))).mono ?_;rintro e w1 ⟨rfl,d,rfl⟩)
    | (at_lookup;refine Go.wpList_lookup_own_ok_int _ rfl (.tmp 27) (.tmp 28) 142 rfl 88 3 .i64 Tryz.law_u32 Tryz.underlying142 Tryz.underlying3 (Tryz.zero_int _) bm cnt D rfl HMAP.out _ _ rfl hkey ?_;intro c hat hwc)
    | go_in)
   go_quiet (fail)
   go_wp2
   go_step3
   go_wp2
   refine wp_loop_once ?_
   go_wp2
   rw [Exit.noGoto_ret]
   go_ret2
   exact ⟨0,0,rfl,⟨.inl ⟨rfl,rfl⟩,Nat.zero_le _,.inl rfl,fun h=>by obtain ⟨_,p,hp,_⟩:=h;rw [HKK.out,HFK.out] at hp;cases hp⟩,below_drewN BE.out _⟩
  | some p =>
   rw [hfk] at hh
   simp only [Option.isSome_some] at hh
   obtain ⟨hp0,hp1⟩:=HF.out _ _ hfk
   obtain ⟨p0,rfl⟩:∃ p0:Nat,p=p0:=⟨p.toNat,by omega⟩
   have HV:=hid (hv p0 hfk)
   have hwh:∀ q,f (keyAt bs key i)=some q→q=p0:=by intro q hq;rw [HKK.out,hfk] at hq;injection hq with hq;exact hq.symm
   have HWH:=hid hwh
   have hpi:p0<i:=by omega
   have PP:Pts (w.alloc (.cells #[.int .i64 win,.int .i64 least,.int .i64 most,.int .i64 tries,.bool lazy] 140)) bp _ _:=hPP.out.alloc _
   have PPH:=hid PP
   have x3:(w.alloc (.cells #[.int .i64 win,.int .i64 least,.int .i64 most,.int .i64 tries,.bool lazy] 140)).cell? ⟨bc,3,none⟩=some (.slice (some ⟨bp,0,none⟩) bs.length bs.length):=by rw [PC.out.cell];rfl
   have y0:(w.alloc (.cells #[.int .i64 win,.int .i64 least,.int .i64 most,.int .i64 tries,.bool lazy] 140)).cell? ⟨w.heap.size,0,none⟩=some (.int .i64 win):=by rw [(Pts.new w _ _).cell];rfl
   have y1:(w.alloc (.cells #[.int .i64 win,.int .i64 least,.int .i64 most,.int .i64 tries,.bool lazy] 140)).cell? ⟨w.heap.size,1,none⟩=some (.int .i64 least):=by rw [(Pts.new w _ _).cell];rfl
   have y3:(w.alloc (.cells #[.int .i64 win,.int .i64 least,.int .i64 most,.int .i64 tries,.bool lazy] 140)).cell? ⟨w.heap.size,3,none⟩=some (.int .i64 tries):=by rw [(Pts.new w _ _).cell];rfl
   clear hv hfk hwh hp0 hp1 PP
   go_enter Tryz.func71,Tryz.ntmps71
   go_wp2
   go_step3
   go_wp2_with (first
    | (go_at_call 101;refine (HAT3.out _ PC.out (ROW.out.more (by simp))).mono ?_;rintro e w1 ⟨rfl,d,rfl⟩)
    | (at_lookup;refine Go.wpList_lookup_own_ok_int _ rfl (.tmp 27) (.tmp 28) 142 rfl 88 3 .i64 Tryz.law_u32 Tryz.underlying142 Tryz.underlying3 (Tryz.zero_int _) bm cnt D rfl HMAP.out _ _ rfl hkey ?_;intro c hat hwc;obtain rfl:c=p0:=by { have e:=hat.symm.trans HV.out;injection e with e;injection e };clear hat HV)
    | go_in)
   go_quiet (fail)
   go_wp2
   go_step3
   go_wp2
   generalize w.alloc (.cells #[.int .i64 win,.int .i64 least,.int .i64 most,.int .i64 tries,.bool lazy] 140)=w1 at *
   obtain ⟨b,off,rfl,hblt,hcells⟩:=ROW.out (by omega)
   have CELLS:=hid hcells
   clear hcells hmin2 ROW HMAP HAT3
   go_loopw [6,7,10,13] (fun sv kv pv nv wr=>∃ (sz bk nn:Nat) (q:Int),sv=.int .i64 sz∧kv=.int .i64 bk∧pv=.int .i64 q∧nv=.int .i64 nn∧nn≤tries ∧ -1≤q∧q<i∧MatchOk bs win i sz bk∧sz≤lim ∧
    (nn=0→sz=0∧q=p0)∧(0<nn→Whole bs key win lim i f→least≤lim→False)∧∃ dd,wr=w1.drewN dd) (fun _ _ _ nv _=>tries-(intOf nv).toNat)
   case atStart=>exact ⟨0,0,0,p0,rfl,rfl,rfl,rfl,by omega,by omega,by omega,.inl ⟨rfl,rfl⟩,by omega,fun _=>⟨rfl,rfl⟩,fun h=>absurd h (by omega),by first | exact ⟨_,rfl⟩ | exact ⟨_,World.drewN_drewN _ _ _⟩⟩
   case round =>
   obtain ⟨sz,bk,nn,q,rfl,rfl,rfl,rfl,hnn,hq1,hqi,hmo,hszl,hst,hnw,dd,rfl⟩:=hrel
   have MO:=hid hmo
   have ST:=hid hst
   have NW:=hid hnw
   clear hmo hst hnw
   by_cases hend:q<0∨tries≤nn∨(win:Int)<i-q
   ·have hfin:Whole bs key win lim i f→least≤lim→sz=lim:=by
     intro h1 h2
     by_cases h0:0<nn
     ·exact (NW.out h0 h1 h2).elim
     obtain ⟨_,rfl⟩:=ST.out (by omega)
     obtain ⟨_,p,hp,hp2,hp3,_⟩:=h1
     have:=HWH.out _ hp
     omega
    have FIN:=hid hfin
    clear hfin
    have h3:q<0∨(0≤q∧tries≤nn)∨(0≤q∧nn<tries∧(win:Int)<i-q):=by omega
    clear hend
    by_cases hsl:sz<least
    ·have LN:=hid (long_no HLIM.out FIN.out hsl)
     rcases h3 with h | ⟨h,h2⟩ | ⟨h,h2,h4⟩
     all_goals
      go_wp2
      try rw [Exit.noGoto_ret]
      go_ret2
      exact ⟨0,0,rfl,LN.out,below_drewN BE.out _⟩
    have LY:=hid (long_yes HLIM.out MO.out hszl FIN.out (by omega))
    rcases h3 with h | ⟨h,h2⟩ | ⟨h,h2,h4⟩
    all_goals
     go_wp2
     try rw [Exit.noGoto_ret]
     go_ret2
     exact ⟨sz,bk,rfl,LY.out,below_drewN BE.out _⟩
   obtain ⟨Q,rfl⟩:∃ Q:Nat,q=Q:=⟨q.toNat,by omega⟩
   have hQi:Q<i:=by omega
   have hQw:((i:Int)-Q)≤win:=by omega
   have hnt:nn<tries:=by omega
   have hcast:((i-Q:Nat):Int)=i-Q:=by omega
   have HCAST:=hid hcast
   have hpv:w1.cell? ⟨bp,Q,none⟩=some (.int .i64 (prev.getD Q 0)):=by rw [PPH.out.cell,prevCells_get _ _ (by rw [HN.out];omega)]
   have PV:=hid (HPREV.out Q (by omega))
   clear hcast
   clear hend
   go_wp2
   go_loopw [14] (fun mv wr=>∃ t:Nat,t≤lim∧mv=.int .i64 t∧(∀ j,j<t→bs.getD (Q+j) 0=bs.getD (i+j) 0)∧∃ dd,wr=w1.drewN dd) (fun mv _=>lim-(intOf mv).toNat)
   case atStart=>exact ⟨0,by omega,rfl,fun j h=>absurd h (by omega),_,rfl⟩
   case round =>
   obtain ⟨t,htl,rfl,hall,d2,rfl⟩:=hrel
   have ALL:=hid hall
   clear hall
   by_cases htlt:t<lim
   ·have e1:=CELLS.out (Q+t) (by omega)
    have e2:=CELLS.out (i+t) (by omega)
    unfold byteV at e1 e2
    by_cases hbb:bs.getD (Q+t) 0=bs.getD (i+t) 0
    ·have HBB:=hid hbb
     rw [hbb] at e1
     clear hbb
     generalize bs.getD (i+t) 0=x at e1 e2
     go_wp2
     go_quiet (fail)
     go_wp2
     exact ⟨⟨t+1,by omega,by go_num,fun j hj=>by
      rcases Nat.lt_or_ge j t with h | h
      ·exact ALL.out j h
      obtain rfl:j=t:=by omega
      exact HBB.out,by first | exact ⟨_,rfl⟩ | exact ⟨_,World.drewN_drewN _ _ _⟩⟩,by simp [intOf];omega⟩
    have hEX:t=lim∨bs.getD (Q+t) 0≠bs.getD (i+t) 0:=.inr hbb
    have EX:=hid hEX
    clear hEX
    generalize bs.getD (Q+t) 0=x at e1 hbb
    generalize bs.getD (i+t) 0=y at e2 hbb
    have hne2:((x.toNat:Int)==(y.toNat:Int))=false:=beq_eq_false_iff_ne.2 (fun e=>hbb (UInt8.toNat_inj.1 (by omega)))
    clear hbb
    by_cases hts:sz<t
    ·have MO2:=hid (match_new (win:=win) hQi (by omega) ALL.out)
     by_cases htL:t=lim
     ·omega
     have hnL:decide ((t:Int)=lim)=false:=decide_eq_false (by omega)
     have hnL2:((t:Int)==(lim:Int))=false:=beq_eq_false_iff_ne.2 (by omega)
     have NW2:=hid (fun (h1:Whole bs key win lim i f) (h2:least≤lim)=>show False from by
      by_cases h0:0<nn
      ·exact NW.out h0 h1 h2
      obtain ⟨h3,h4⟩:=ST.out (by omega)
      obtain ⟨_,p,hp,hp2,hp3,hp4⟩:=h1
      have h5:=HWH.out _ hp
      obtain rfl:p=Q:=by omega
      rcases EX.out with h6 | h6
      ·exact htL h6
      exact h6 (hp4 t (by omega)))
     go_wp2
     go_quiet (fail)
     go_wp2
     go_quiet (fail)
     go_wp2
     exact ⟨⟨t,i-Q,nn+1,prev.getD Q 0,rfl,by rw [HCAST.out],rfl,by go_num,by omega,PV.out.1,by have:=PV.out.2;omega,MO2.out,by omega,fun h=>absurd h (by omega),fun _=>NW2.out,by first | exact ⟨_,rfl⟩ | exact ⟨_,World.drewN_drewN _ _ _⟩⟩,by simp [intOf];omega⟩
    by_cases htL:sz=lim
    ·have hd:decide ((sz:Int)=lim)=true:=decide_eq_true (by omega)
     have hd2:((sz:Int)==(lim:Int))=true:=beq_iff_eq.2 (by omega)
     by_cases hsl:sz<least
     ·have LN:=hid (long_no HLIM.out (f:=f) (key:=key) (win:=win) (least:=least) (fun _ _=>htL) hsl)
      go_wp2
      go_quiet (fail)
      go_wp2
      try rw [Exit.noGoto_ret]
      go_ret2
      exact ⟨0,0,rfl,LN.out,below_drewN BE.out _⟩
     have LY:=hid (long_yes HLIM.out (f:=f) (key:=key) (win:=win) (least:=least) (sz:=sz) MO.out (by omega) (fun _ _=>htL) (by omega))
     go_wp2
     go_quiet (fail)
     go_wp2
     try rw [Exit.noGoto_ret]
     go_ret2
     exact ⟨sz,bk,rfl,LY.out,below_drewN BE.out _⟩
    have hnL:decide ((sz:Int)=lim)=false:=decide_eq_false (by omega)
    have hnL2:((sz:Int)==(lim:Int))=false:=beq_eq_false_iff_ne.2 (by omega)
    have NW2:=hid (fun (h1:Whole bs key win lim i f) (h2:least≤lim)=>show False from by
     by_cases h0:0<nn
     ·exact NW.out h0 h1 h2
     obtain ⟨h3,h4⟩:=ST.out (by omega)
     obtain ⟨_,p,hp,hp2,hp3,hp4⟩:=h1
     have h5:=HWH.out _ hp
     obtain rfl:p=Q:=by omega
     rcases EX.out with h6 | h6
     ·omega
     exact h6 (hp4 t (by omega)))
    go_wp2
    go_quiet (fail)
    go_wp2
    go_quiet (fail)
    go_wp2
    exact ⟨⟨sz,bk,nn+1,prev.getD Q 0,rfl,rfl,rfl,by go_num,by omega,PV.out.1,by have:=PV.out.2;omega,MO.out,by omega,fun h=>absurd h (by omega),fun _=>NW2.out,by first | exact ⟨_,rfl⟩ | exact ⟨_,World.drewN_drewN _ _ _⟩⟩,by simp [intOf];omega⟩
   have hEX:t=lim∨bs.getD (Q+t) 0≠bs.getD (i+t) 0:=.inl (by omega)
   have EX:=hid hEX
   clear hEX
   by_cases hts:sz<t
   ·have MO2:=hid (match_new (win:=win) hQi (by omega) ALL.out)
    by_cases htL:t=lim
    ·have hd:decide ((t:Int)=lim)=true:=decide_eq_true (by omega)
     have hd2:((t:Int)==(lim:Int))=true:=beq_iff_eq.2 (by omega)
     by_cases hsl:t<least
     ·have LN:=hid (long_no HLIM.out (f:=f) (key:=key) (win:=win) (least:=least) (fun _ _=>htL) hsl)
      go_wp2
      go_quiet (fail)
      go_wp2
      try rw [Exit.noGoto_ret]
      go_ret2
      exact ⟨0,0,rfl,LN.out,below_drewN BE.out _⟩
     have LY:=hid (long_yes HLIM.out (f:=f) (key:=key) (win:=win) (least:=least) (sz:=t) MO2.out (by omega) (fun _ _=>htL) (by omega))
     go_wp2
     go_quiet (fail)
     go_wp2
     try rw [Exit.noGoto_ret]
     go_ret2
     exact ⟨t,i-Q,by rw [HCAST.out];rfl,LY.out,below_drewN BE.out _⟩
    omega
   by_cases htL:sz=lim
   ·have hd:decide ((sz:Int)=lim)=true:=decide_eq_true (by omega)
    have hd2:((sz:Int)==(lim:Int))=true:=beq_iff_eq.2 (by omega)
    by_cases hsl:sz<least
    ·have LN:=hid (long_no HLIM.out (f:=f) (key:=key) (win:=win) (least:=least) (fun _ _=>htL) hsl)
     go_wp2
     go_quiet (fail)
     go_wp2
     try rw [Exit.noGoto_ret]
     go_ret2
     exact ⟨0,0,rfl,LN.out,below_drewN BE.out _⟩
    have LY:=hid (long_yes HLIM.out (f:=f) (key:=key) (win:=win) (least:=least) (sz:=sz) MO.out (by omega) (fun _ _=>htL) (by omega))
    go_wp2
    go_quiet (fail)
    go_wp2
    try rw [Exit.noGoto_ret]
    go_ret2
    exact ⟨sz,bk,rfl,LY.out,below_drewN BE.out _⟩
   omega
 clear hf hprev hC
 go_enter Tryz.func71,Tryz.ntmps71
 go_wp2
 go_step3
 go_wp2_with (go_at_call 101;refine (at_no _ _ _ _ _ _ _ _ _ PC.out (by omega) hcap hcm (by omega) hk hb).mono ?_;rintro e w1 ⟨rfl,d,rfl⟩)
 try rw [Exit.noGoto_ret]
 go_ret2
 exact ⟨0,0,rfl,⟨.inl ⟨rfl,rfl⟩,Nat.zero_le _,.inl rfl,fun h=>absurd h.1 hik⟩,below_drewN BE.out d⟩
end Go.Proofs.YtffehfpbdcokbaaGreat
