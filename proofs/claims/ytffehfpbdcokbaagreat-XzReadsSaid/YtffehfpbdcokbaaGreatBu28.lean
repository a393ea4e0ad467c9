import Derived.Deep.RegionWith
import Derived.Deep.RegionHeld3
import Derived.Defers
import Derived.Test.YtffehfpbdcokbaaGreatBu27
set_option linter.unusedVariables false
set_option linter.unusedSimpArgs false
namespace Go.Proofs.YtffehfpbdcokbaaGreat
open Lib (hid)
open Go.RowKit Box
def magic:List UInt8:=[253,55,122,88,90,0]
def headOf (bs:List UInt8):Int×Int :=
 if bs.length<12 then (0,10)
 else if ¬ ((bs.take 6==magic)=true∧sealedB ((bs.take 12).drop 6)=true) then (0,11)
 else if ¬ flagsOk (bs.getD 6 0) (bs.getD 7 0) then (0,12)
 else (((bs.getD 7 0).toNat:Int),0)
def checkV (p:Int×Int):Value:=.tuple #[.int .i64 p.1,.int .i64 p.2]
theorem CurAt.fresh {w:World} {B:Nat} {A:Option Addr} {bs:List UInt8} {c:Nat} (w0:World) (hc:bs.length≤c) (hm:c≤maxLen) (hr:BRow w0 B A bs) (hb:Below B w0 w) (hB:B≤w.heap.size) :
 CurAt (w.alloc (.cells #[.slice A bs.length c,.int .i64 0] 105)) w.heap.size B bs 0 :=
 ⟨A,c,Pts.new w _ _,(hr.below hb).below ((Below.refl B w).alloc hB _),hc,hm,hB⟩
theorem slice_midX (A:Option Addr) (n c f t:Nat) (h1:f≤t) (h2:t≤n) (hn:n≤c) (hf:f<c) (w:World) :
 (Instr.sliceAt 22 (.slice A n c) (some (.int .i64 (f:Int))) (some (.int .i64 (t:Int))) none).run Tryz.prog w=.ok (.slice (A.map (·.add f)) (t-f) (c-f)) w:=by
 have hcf:¬ c=f:=by omega
 simp [go_sem,hcf]
 rw [if_pos (by omega),if_pos h1]
theorem mid_two {l:List UInt8} {f:Nat} (h:f+2≤l.length):(l.drop f).take 2=[l.getD f 0,l.getD (f+1) 0]:=by
 rw [List.drop_eq_getElem_cons (by omega),List.drop_eq_getElem_cons (by omega)]
 have e1:l.getD f 0=l[f]:=by simp [List.getD,List.getElem?_eq_getElem (show f<l.length by omega)]
 have e2:l.getD (f+1) 0=l[f+1]:=by simp [List.getD,List.getElem?_eq_getElem (show f+1<l.length by omega)]
 rw [e1,e2];rfl
theorem BRow.mid {w:World} {B c f t:Nat} {A:Option Addr} {bs:List UInt8} (h:BRow w B A bs) (hc:bs.length≤c) (hf:f<c):BRow w B (A.map (·.add f)) ((bs.drop f).take t):=by
 have:=(h.drop (k:=f) (cap:=c) hc).take t
 rw [if_neg (by omega)] at this
 exact this
set_option maxRecDepth 100000 in
set_option maxHeartbeats 1000000 in
theorem head_p (A:Option Addr) (bs:List UInt8) (n c:Nat) (w:World) (hn:n=bs.length) (hc:n≤c) (hcm:c≤maxLen) (hr:BRow w w.heap.size A bs) (hlen:bs.length≤maxLen) :
 Calls Tryz.prog 26 #[.slice A n c] w fun e w'=>e=.returned (checkV (headOf bs))∧Below w.heap.size w w':=by
 subst hn
 have P0:Pts (w.alloc (.cells #[.int .i64 0] 25)) w.heap.size #[.int .i64 0] 25:=Pts.new w _ _
 have hcur:=CurAt.fresh (w:=w.alloc (.cells #[.int .i64 0] 25)) w hc hcm hr ((Below.refl _ w).alloc (Nat.le_refl _) _) (by simp)
 have P1:=P0.alloc (.cells #[.slice A bs.length c,.int .i64 0] 105)
 have hsz:(w.alloc (.cells #[.int .i64 0] 25)).heap.size=w.heap.size+1:=by show (w.heap.push _).size=_;rw [Array.size_push]
 have F1:Below w.heap.size w ((w.alloc (.cells #[.int .i64 0] 25)).alloc (.cells #[.slice A bs.length c,.int .i64 0] 105)):=((Below.refl _ w).alloc (Nat.le_refl _) _).alloc (by rw [hsz];omega) _
 rw [hsz] at hcur
 obtain ⟨w1,hw1⟩:∃ w1,(w.alloc (.cells #[.int .i64 0] 25)).alloc (.cells #[.slice A bs.length c,.int .i64 0] 105)=w1:=⟨_,rfl⟩
 rw [hw1] at P1 hcur F1
 have PP1:=hid P1
 have CC:=hid hcur
 have FF1:=hid F1
 clear P0 P1 hcur F1 hr
 by_cases h12:bs.length<12
 ·have HH:=hid h12
  have hh:headOf bs=(0,10):=by unfold headOf;rw [if_pos h12]
  rw [hh]
  clear h12 hh
  go_enter_defers Tryz.func26,Tryz.ntmps26
  go_wp2_with fail
  refine (take_bad (w.heap.size+1) w.heap.size 12 0 10 bs w1 CC.out HH.out).mono ?_;rintro r w2 ⟨rfl,rfl⟩
  go_wp2
  refine leaves_cons (f:=57) (args:=#[.pointer (some ⟨w.heap.size,0,none⟩)]) (by simp) (by simp [go_sem]) ?_
  refine (catch_panicking w.heap.size 10 0 _ _ PP1.out).mono ?_
  rintro e u' w'' ⟨rfl,rfl,hp,hf⟩
  have c0:=hp.cell 0
  have hbel:Below w.heap.size w w'':=(FF1.out).trans (hf.below (FF1.out).size (fun k hk=>by omega))
  simp [Leaves,settle,results,Tryz.results26,go_sem,c0,checkV,hbel]
 have hge:12≤bs.length:=by omega
 have HGE:=hid hge
 have lH:(bs.take 12).length=12:=by rw [List.length_take];omega
 obtain ⟨H,hH⟩:∃ H,bs.take 12=H:=⟨_,rfl⟩
 have e6:bs.take 6=H.take 6:=by rw [← hH,List.take_take];rfl
 have hg:∀ k,k<12→bs.getD k 0=H.getD k 0:=fun k hk=>by rw [← hH];simp only [List.getD,List.getElem?_take];rw [if_pos hk]
 have hh0:headOf bs=(if ¬ ((H.take 6==magic)=true∧sealedB (H.drop 6)=true) then (0,11) else if ¬ flagsOk (H.getD 6 0) (H.getD 7 0) then (0,12) else (((H.getD 7 0).toNat:Int),0):Int×Int):=by
  unfold headOf;rw [if_neg h12,e6,hH,hg 6 (by decide),hg 7 (by decide)]
 rw [hH] at lH
 have hS1:∀ (A:Option Addr) (c2:Nat),12≤c2→∀ w,(Instr.sliceAt 22 (.slice A 12 c2) none (some (.int .i64 6)) none).run Tryz.prog w=.ok (.slice A 6 c2) w:=fun A c2 h w=>slice_toX A 12 c2 6 (by decide) h w
 have hS2:∀ (A:Option Addr) (c2:Nat),12≤c2→∀ w,(Instr.sliceAt 22 (.slice A 12 c2) (some (.int .i64 6)) none none).run Tryz.prog w=.ok (.slice (A.map (·.add 6)) 6 (c2-6)) w:=fun A c2 h w=>by
  have:=slice_fromX A 12 c2 6 (by decide) h w
  rw [if_neg (by omega)] at this
  exact this
 have hS3:∀ (A:Option Addr) (c2:Nat),12≤c2→∀ w,(Instr.sliceAt 22 (.slice A 12 c2) (some (.int .i64 6)) (some (.int .i64 8)) none).run Tryz.prog w=.ok (.slice (A.map (·.add 6)) 2 (c2-6)) w:=fun A c2 h w=>slice_midX A 12 c2 6 8 (by decide) (by decide) h (by omega) w
 have lT:6=(H.take 6).length:=by rw [List.length_take];omega
 have lD:6=(H.drop 6).length:=by rw [List.length_drop];omega
 have hmt:(H.drop 6).take 2=[H.getD 6 0,H.getD 7 0]:=mid_two (by omega)
 have LT:=hid lT
 have LD:=hid lD
 have LH:=hid lH
 have HH:=hid hH
 have HMT:=hid hmt
 have hD140:(H.drop 6).length≤140737488355328:=by omega
 have H140:=hid hD140
 have hcb:=hcm
 clear lT lD hH h12 e6 hg hge hlen lH hmt hD140
 rw [hh0]
 clear hh0
 by_cases hmag:H.take 6=magic
 ·have hmt2:(H.take 6==magic)=true:=beq_iff_eq.2 hmag
  have HMAG:=hid hmag
  by_cases hse:sealedB (H.drop 6)=true
  ·rw [if_neg (fun h=>h ⟨hmt2,hse⟩)]
   by_cases hfl:flagsOk (H.getD 6 0) (H.getD 7 0)
   ·rw [if_neg (fun h=>h hfl)]
    have HFL:=hid hfl
    obtain ⟨ck,hck⟩:∃ ck,H.getD 7 0=ck:=⟨_,rfl⟩
    obtain ⟨ck6,hck6⟩:∃ ck,H.getD 6 0=ck:=⟨_,rfl⟩
    rw [hck,hck6] at HMT HFL
    rw [hck]
    clear hmt2 hmag hfl hck hck6
    go_enter_defers Tryz.func26,Tryz.ntmps26
    go_wp2_with fail
    refine (take_ok (w.heap.size+1) w.heap.size 12 0 10 bs w1 CC.out HGE.out (by decide)).mono ?_;rintro r w2 ⟨A2,c2,rfl,hr2,hc2,hm2,hcur2,hf2⟩
    rw [HH.out] at hr2
    have P2:=hid (PP1.out.frm hf2 (by omega))
    have B2:=hid (FF1.out.trans (hf2.below FF1.out.size (fun k hk=>by omega)))
    have hs1:=hS1 A2 c2 hc2
    have hs2:=hS2 A2 c2 hc2
    have hs3:=hS3 A2 c2 hc2
    have k1:=run_conv_bytes (P:=Tryz.prog) w2 22 9 5 Tryz.underlying22 Tryz.underlying5 Tryz.underlying9 A2 6 c2 _ (H.take 6) LT.out (hr2.take 6)
    rw [HMAG.out] at k1
    have hrd:=hr2.drop (k:=6) (cap:=c2) (by rw [LH.out];exact hc2)
    rw [if_neg (by omega)] at hrd
    have RD:=hid hrd
    have RM:=hid (hr2.mid (f:=6) (t:=2) (by rw [LH.out];exact hc2) (by omega))
    have hc6:6≤c2-6:=by omega
    have HC6:=hid hc6
    clear hr2 hc2 hm2 hcur2 hS1 hS2 hS3 hf2 hrd hc6
    go_wp2_with fail
    refine (sealed_p _ (H.drop 6) 6 _ w2 LD.out (by decide) HC6.out (RD.out.more B2.out.size) H140.out).mono ?_;rintro r w3 ⟨rfl,hb3⟩
    rw [hse]
    have P3:=hid (P2.out.below hb3 P2.out.lt)
    have B3:=hid (B2.out.trans (hb3.mono B2.out.size))
    have RF:=hid (HMT.out▸(RM.out.below (hb3.mono B2.out.size)))
    clear hb3
    go_wp2_with fail
    refine (must_ok _ _ _).mono ?_;rintro r w4 ⟨rfl,rfl⟩
    go_wp2_with fail
    refine (flags_ok _ ck6 ck 2 _ w.heap.size _ w3 rfl RF.out HFL.out).mono ?_;rintro r w4 ⟨rfl,rfl⟩
    have c30:=P3.out.cell 0
    have z30:=P3.out.frozen 0
    have c31:=(P3.out.set 0 (.int .i64 0)).cell 0
    have hbel:=B3.out.setCell (p:=⟨w.heap.size,0,none⟩) (Nat.le_refl _) (.int .i64 0)
    have HC31:=hid c31
    have HBEL:=hid hbel
    clear c31 hbel
    go_wp2
    refine leaves_cons (f:=57) (args:=#[.pointer (some ⟨w.heap.size,0,none⟩)]) (by simp) (by simp [go_sem]) ?_
    refine (catch_idle _ _).mono ?_
    rintro e u' w'' ⟨rfl,rfl,rfl⟩
    have c31:=HC31.out
    have hbel:=HBEL.out
    simp [Leaves,settle,results,Tryz.results26,go_sem,checkV,c30]
    exact hbel
   rw [if_pos hfl]
   have HFL:=hid hfl
   obtain ⟨ck,hck⟩:∃ ck,H.getD 7 0=ck:=⟨_,rfl⟩
   obtain ⟨ck6,hck6⟩:∃ ck,H.getD 6 0=ck:=⟨_,rfl⟩
   rw [hck,hck6] at HMT HFL
   clear hmt2 hmag hfl hck hck6
   go_enter_defers Tryz.func26,Tryz.ntmps26
   go_wp2_with fail
   refine (take_ok (w.heap.size+1) w.heap.size 12 0 10 bs w1 CC.out HGE.out (by decide)).mono ?_;rintro r w2 ⟨A2,c2,rfl,hr2,hc2,hm2,hcur2,hf2⟩
   rw [HH.out] at hr2
   have P2:=hid (PP1.out.frm hf2 (by omega))
   have B2:=hid (FF1.out.trans (hf2.below FF1.out.size (fun k hk=>by omega)))
   have hs1:=hS1 A2 c2 hc2
   have hs2:=hS2 A2 c2 hc2
   have hs3:=hS3 A2 c2 hc2
   have k1:=run_conv_bytes (P:=Tryz.prog) w2 22 9 5 Tryz.underlying22 Tryz.underlying5 Tryz.underlying9 A2 6 c2 _ (H.take 6) LT.out (hr2.take 6)
   rw [HMAG.out] at k1
   have hrd:=hr2.drop (k:=6) (cap:=c2) (by rw [LH.out];exact hc2)
   rw [if_neg (by omega)] at hrd
   have RD:=hid hrd
   have RM:=hid (hr2.mid (f:=6) (t:=2) (by rw [LH.out];exact hc2) (by omega))
   have hc6:6≤c2-6:=by omega
   have HC6:=hid hc6
   clear hr2 hc2 hm2 hcur2 hS1 hS2 hS3 hf2 hrd hc6
   go_wp2_with fail
   refine (sealed_p _ (H.drop 6) 6 _ w2 LD.out (by decide) HC6.out (RD.out.more B2.out.size) H140.out).mono ?_;rintro r w3 ⟨rfl,hb3⟩
   rw [hse]
   have P3:=hid (P2.out.below hb3 P2.out.lt)
   have B3:=hid (B2.out.trans (hb3.mono B2.out.size))
   have RF:=hid (HMT.out▸(RM.out.below (hb3.mono B2.out.size)))
   clear hb3
   go_wp2_with fail
   refine (must_ok _ _ _).mono ?_;rintro r w4 ⟨rfl,rfl⟩
   go_wp2_with fail
   refine (flags_bad _ ck6 ck 2 _ w.heap.size _ w3 rfl RF.out HFL.out).mono ?_;rintro r w4 ⟨rfl,rfl⟩
   go_wp2
   refine leaves_cons (f:=57) (args:=#[.pointer (some ⟨w.heap.size,0,none⟩)]) (by simp) (by simp [go_sem]) ?_
   refine (catch_panicking w.heap.size 12 0 _ _ P3.out).mono ?_
   rintro e u' w'' ⟨rfl,rfl,hp,hf⟩
   have c0:=hp.cell 0
   have hbel:Below w.heap.size w w'':=(B3.out).trans (hf.below (B3.out).size (fun k hk=>by omega))
   simp [Leaves,settle,results,Tryz.results26,go_sem,c0,checkV,hbel]
  have hse:sealedB (H.drop 6)=false:=by simpa using hse
  rw [if_pos (fun h=>by rw [hse] at h;cases h.2)]
  clear hmt2 hmag
  go_enter_defers Tryz.func26,Tryz.ntmps26
  go_wp2_with fail
  refine (take_ok (w.heap.size+1) w.heap.size 12 0 10 bs w1 CC.out HGE.out (by decide)).mono ?_;rintro r w2 ⟨A2,c2,rfl,hr2,hc2,hm2,hcur2,hf2⟩
  rw [HH.out] at hr2
  have P2:=hid (PP1.out.frm hf2 (by omega))
  have B2:=hid (FF1.out.trans (hf2.below FF1.out.size (fun k hk=>by omega)))
  have hs1:=hS1 A2 c2 hc2
  have hs2:=hS2 A2 c2 hc2
  have hs3:=hS3 A2 c2 hc2
  have k1:=run_conv_bytes (P:=Tryz.prog) w2 22 9 5 Tryz.underlying22 Tryz.underlying5 Tryz.underlying9 A2 6 c2 _ (H.take 6) LT.out (hr2.take 6)
  rw [HMAG.out] at k1
  have hrd:=hr2.drop (k:=6) (cap:=c2) (by rw [LH.out];exact hc2)
  rw [if_neg (by omega)] at hrd
  have RD:=hid hrd
  have RM:=hid (hr2.mid (f:=6) (t:=2) (by rw [LH.out];exact hc2) (by omega))
  have hc6:6≤c2-6:=by omega
  have HC6:=hid hc6
  clear hr2 hc2 hm2 hcur2 hS1 hS2 hS3 hf2 hrd hc6
  go_wp2_with fail
  refine (sealed_p _ (H.drop 6) 6 _ w2 LD.out (by decide) HC6.out (RD.out.more B2.out.size) H140.out).mono ?_;rintro r w3 ⟨rfl,hb3⟩
  rw [hse]
  have P3:=hid (P2.out.below hb3 P2.out.lt)
  have B3:=hid (B2.out.trans (hb3.mono B2.out.size))
  have RF:=hid (HMT.out▸(RM.out.below (hb3.mono B2.out.size)))
  clear hb3
  go_wp2_with fail
  refine (must_bad _ _ _).mono ?_;rintro r w4 ⟨rfl,rfl⟩
  go_wp2
  refine leaves_cons (f:=57) (args:=#[.pointer (some ⟨w.heap.size,0,none⟩)]) (by simp) (by simp [go_sem]) ?_
  refine (catch_panicking w.heap.size 11 0 _ _ P3.out).mono ?_
  rintro e u' w'' ⟨rfl,rfl,hp,hf⟩
  have c0:=hp.cell 0
  have hbel:Below w.heap.size w w'':=(B3.out).trans (hf.below (B3.out).size (fun k hk=>by omega))
  simp [Leaves,settle,results,Tryz.results26,go_sem,c0,checkV,hbel]
 rw [if_pos (fun h=>hmag (beq_iff_eq.1 h.1))]
 have hmq:(H.take 6==([253,55,122,88,90,0]:List UInt8))=false:=beq_eq_false_iff_ne.2 hmag
 clear hmag hS2 hS3
 go_enter_defers Tryz.func26,Tryz.ntmps26
 go_wp2_with fail
 refine (take_ok (w.heap.size+1) w.heap.size 12 0 10 bs w1 CC.out HGE.out (by decide)).mono ?_;rintro r w2 ⟨A2,c2,rfl,hr2,hc2,hm2,hcur2,hf2⟩
 rw [HH.out] at hr2
 have P2:=hid (PP1.out.frm hf2 (by omega))
 have B2:=hid (FF1.out.trans (hf2.below FF1.out.size (fun k hk=>by omega)))
 have hs1:=hS1 A2 c2 hc2
 have k1:=run_conv_bytes (P:=Tryz.prog) w2 22 9 5 Tryz.underlying22 Tryz.underlying5 Tryz.underlying9 A2 6 c2 _ (H.take 6) LT.out (hr2.take 6)
 clear hr2 hc2 hm2 hcur2 hS1 hf2
 go_wp2_with fail
 refine (must_bad _ _ _).mono ?_;rintro r w4 ⟨rfl,rfl⟩
 go_wp2
 refine leaves_cons (f:=57) (args:=#[.pointer (some ⟨w.heap.size,0,none⟩)]) (by simp) (by simp [go_sem]) ?_
 refine (catch_panicking w.heap.size 11 0 _ _ P2.out).mono ?_
 rintro e u' w'' ⟨rfl,rfl,hp,hf⟩
 have c0:=hp.cell 0
 have hbel:Below w.heap.size w w'':=(B2.out).trans (hf.below (B2.out).size (fun k hk=>by omega))
 simp [Leaves,settle,results,Tryz.results26,go_sem,c0,checkV,hbel]
open Go.RowKit Box
def knownB (b:UInt8):Bool:=decide (b=0∨b=1∨b=4)
theorem known_p (b:UInt8) (w:World):Calls Tryz.prog 65 #[.int .u8 (b.toNat:Int)] w fun e w'=>e=.returned (.bool (knownB b))∧w=w':=by
 by_cases h0:b=0
 ·have hk:knownB b=true:=by unfold knownB;simp [h0]
  rw [hk]
  subst h0
  show Calls _ _ #[.int .u8 0] w _
  go_enter Tryz.func65,Tryz.ntmps65
  go_wp2
  go_ret
  exact ⟨rfl,rfl⟩
 by_cases h1:b=1
 ·have hk:knownB b=true:=by unfold knownB;simp [h1]
  rw [hk]
  subst h1
  show Calls _ _ #[.int .u8 1] w _
  go_enter Tryz.func65,Tryz.ntmps65
  go_wp2
  go_ret
  exact ⟨rfl,rfl⟩
 by_cases h4:b=4
 ·have hk:knownB b=true:=by unfold knownB;simp [h4]
  rw [hk]
  subst h4
  show Calls _ _ #[.int .u8 4] w _
  go_enter Tryz.func65,Tryz.ntmps65
  go_wp2
  go_ret
  exact ⟨rfl,rfl⟩
 have hk:knownB b=false:=by unfold knownB;simp [h0,h1,h4]
 rw [hk]
 have p0:((b.toNat:Int)==0)=false:=nat_ne (k:=0) (by decide) h0
 have p1:((b.toNat:Int)==1)=false:=nat_ne (k:=1) (by decide) h1
 have p4:((b.toNat:Int)==4)=false:=nat_ne (k:=4) (by decide) h4
 generalize b.toNat=x at *
 clear h0 h1 h4 hk
 go_enter Tryz.func65,Tryz.ntmps65
 go_wp2
 go_ret
 exact ⟨rfl,rfl⟩
theorem byte_neq {a b:UInt8} (h:¬ a=b):((a.toNat:Int) != (b.toNat:Int))=true:=by rw [bne,byte_ne h];rfl
theorem flags_iff (a b:UInt8):flagsOk a b↔a=0∧knownB b=true:=by unfold flagsOk knownB;simp
theorem take_snocJ {l m:List UInt8} {i:Nat} (h:l.take i=m.take i) (hl:i<l.length) (hm:i<m.length) (e:l[i]=m[i]):l.take (i+1)=m.take (i+1):=by
 rw [List.take_succ_eq_append_getElem hl,List.take_succ_eq_append_getElem hm,h,e]
theorem take_off {l m:List UInt8} {i k:Nat} (hk:i<k) (hl:i<l.length) (hm:i<m.length) (e:¬ l[i]=m[i]):¬ l.take k=m.take k:=by
 intro h
 apply e
 have h1:=congrArg (fun l=>l[i]?) h
 simp only [List.getElem?_take,hk,if_true] at h1
 rw [List.getElem?_eq_getElem hl,List.getElem?_eq_getElem hm] at h1
 exact Option.some.inj h1
set_option maxRecDepth 100000 in
set_option maxHeartbeats 1000000 in
theorem rhead_p (A:Option Addr) (bs:List UInt8) (n c:Nat) (w:World) (hn:n=bs.length) (hc:n≤c) (hr:BRow w w.heap.size A bs) (hlen:bs.length≤maxLen) :
 Calls Tryz.prog 28 #[.slice A n c] w fun e w'=>e=.returned (checkV (headOf bs))∧Below w.heap.size w w':=by
 subst hn
 obtain ⟨R,hR⟩:∃ R,headOf bs=R:=⟨_,rfl⟩
 have hRR:=hR
 unfold headOf at hRR
 by_cases h12:bs.length<12
 ·rw [if_pos h12] at hRR
  rw [hR,← hRR]
  clear hR hRR
  go_enter Tryz.func28,Tryz.ntmps28
  go_wp2
  refine bodyPost_ret (results_tmp2 rfl _ _ _) rfl ?_
  exact ⟨rfl,Below.refl _ _⟩
 rw [if_neg h12] at hRR
 rw [hR]
 obtain ⟨b0,off,rfl,hb0,hcell⟩:=hr (by omega)
 have hr0:=hid hr
 have CELL:=hid hcell
 have h6:w.cell? ⟨b0,off+6,none⟩=some (.int .u8 ((bs.getD 6 0).toNat:Int)):=hcell 6 (by omega)
 have h7:w.cell? ⟨b0,off+7,none⟩=some (.int .u8 ((bs.getD 7 0).toNat:Int)):=hcell 7 (by omega)
 obtain ⟨F0,hF0⟩:∃ F,bs.getD 6 0=F:=⟨_,rfl⟩
 obtain ⟨F1,hF1⟩:∃ F,bs.getD 7 0=F:=⟨_,rfl⟩
 rw [hF0] at h6 hRR
 rw [hF1] at h7 hRR
 have hs3:∀ w,(Instr.sliceAt 22 (.slice (some ⟨b0,off,none⟩) bs.length c) (some (.int .i64 6)) (some (.int .i64 12)) none).run Tryz.prog w=.ok (.slice ((some ⟨b0,off,none⟩:Option Addr).map (·.add 6)) 6 (c-6)) w:=fun w=>slice_midX _ bs.length c 6 12 (by decide) (by omega) hc (by omega) w
 obtain ⟨A6,hA6⟩:∃ A6,(some (⟨b0,off,none⟩:Addr)).map (·.add 6)=A6:=⟨_,rfl⟩
 rw [hA6] at hs3
 have hmid:=hr.mid (f:=6) (t:=6) (c:=c) hc (by omega)
 have hdt:(bs.take 12).drop 6=(bs.drop 6).take 6:=by rw [List.drop_take]
 rw [hA6,← hdt] at hmid
 clear hdt
 have RM:=hid hmid
 have lM:6=((bs.take 12).drop 6).length:=by rw [List.length_drop,List.length_take];omega
 have LM:=hid lM
 have hge:12≤bs.length:=by omega
 have HGE:=hid hge
 have RR:=hid hRR
 have CAP:=hid hc
 obtain ⟨w1,hw1⟩:∃ w1,w.alloc (.cells #[.int .u8 253,.int .u8 55,.int .u8 122,.int .u8 88,.int .u8 90,.int .u8 0] 5)=w1:=⟨_,rfl⟩
 have hb1:Below w.heap.size w w1:=hw1▸(Below.refl _ w).alloc (Nat.le_refl _) _
 have PM:Pts w1 w.heap.size #[.int .u8 253,.int .u8 55,.int .u8 122,.int .u8 88,.int .u8 90,.int .u8 0] 5:=hw1▸Pts.new w _ _
 have B1:=hid hb1
 have PM1:=hid PM
 have H6:=hid h6
 have H7:=hid h7
 clear hr hcell hF0 hF1 hmid lM hge hRR hc hb1 PM h6 h7 hR h12 hA6
 go_enter Tryz.func28,Tryz.ntmps28
 have hl12:¬ (bs.length:Int)<12:=by have:=HGE.out;omega
 go_wp2
 go_loopw [5] (fun iv wr=>Below w.heap.size w wr∧Pts wr w.heap.size #[.int .u8 253,.int .u8 55,.int .u8 122,.int .u8 88,.int .u8 90,.int .u8 0] 5∧∃ i:Nat,iv=.int .i64 i∧i≤6∧bs.take i=magic.take i) (fun iv _=>6-(intOf iv).toNat)
 case atStart=>exact ⟨B1.out,PM1.out,0,rfl,by omega,rfl⟩
 case round =>
 obtain ⟨hbw,hpw,i,rfl,hi,ht⟩:=hrel
 have BW:=hid hbw
 have PW:=hid hpw
 have h6':wr.cell? ⟨b0,off+6,none⟩=some (.int .u8 (F0.toNat:Int)):=(hbw.cell (p:=⟨b0,off+6,none⟩) hb0).trans H6.out
 have h7':wr.cell? ⟨b0,off+7,none⟩=some (.int .u8 (F1.toNat:Int)):=(hbw.cell (p:=⟨b0,off+7,none⟩) hb0).trans H7.out
 have hF1l:=F1.toNat_lt
 clear hbw hpw
 by_cases hlt:i<6
 ·have hib:i<bs.length:=by have:=HGE.out;omega
  have him:i<magic.length:=hlt
  have c1:wr.cell? ⟨b0,off+i,none⟩=some (.int .u8 (bs[i].toNat:Int)):=by
   rw [BW.out.cell (p:=⟨b0,off+i,none⟩) hb0,CELL.out i hib];simp [byteV,List.getD,List.getElem?_eq_getElem hib]
  have c2:wr.cell? ⟨w.heap.size,i,none⟩=some (.int .u8 (magic[i].toNat:Int)):=by
   rw [PW.out.cell]
   match i,hlt with
   | 0,_=>rfl
   | 1,_=>rfl
   | 2,_=>rfl
   | 3,_=>rfl
   | 4,_=>rfl
   | 5,_=>rfl
  obtain ⟨x,hx⟩:∃ x,bs[i]=x:=⟨_,rfl⟩
  obtain ⟨y,hy⟩:∃ y,magic[i]=y:=⟨_,rfl⟩
  rw [hx] at c1
  rw [hy] at c2
  by_cases hxy:x=y
  ·have hq:((x.toNat:Int) != (y.toNat:Int))=false:=by rw [hxy];simp
   have HT:=hid (take_snocJ ht hib him (by rw [hx,hy,hxy]))
   clear hx hy ht him hxy
   go_wp2
   go_quiet (fail)
   go_wp2
   exact ⟨⟨below_drewN BW.out _,PW.out.drewN _,i+1,by go_num,by omega,HT.out⟩,by simp [intOf];omega⟩
  have hq:=byte_neq hxy
  have hne:=take_off hlt hib him (by rw [hx,hy];exact hxy)
  have hRR:=RR.out
  rw [if_pos (fun h=>hne (beq_iff_eq.1 h.1))] at hRR
  subst hRR
  clear hx hy ht him hxy hne RR
  go_wp2
  go_quiet (fail)
  go_wp2
  refine bodyPost_ret (results_tmp2 rfl _ _ _) rfl ?_
  exact ⟨rfl,by first | exact BW.out | exact below_drewN BW.out _⟩
 obtain rfl:i=6:=by omega
 have hm:(bs.take 6==magic)=true:=beq_iff_eq.2 ht
 have hrs:=rsealed_p A6 ((bs.take 12).drop 6) 6 (c-6) w.heap.size wr LM.out (by decide) (by have:=CAP.out;have:=HGE.out;omega) (RM.out.below BW.out) (by rw [← LM.out];decide)
 have hRR:=RR.out
 by_cases hse:sealedB ((bs.take 12).drop 6)=true
 ·rw [if_neg (fun h=>h ⟨hm,hse⟩)] at hRR
  rw [hse] at hrs
  have HRS:=hid hrs
  clear RR hm hse hrs ht
  by_cases hF:F0=0
  ·subst hF
   have h6':wr.cell? ⟨b0,off+6,none⟩=some (.int .u8 0):=h6'
   have HK:=hid (known_p F1 wr)
   by_cases hk:knownB F1=true
   ·rw [if_neg (fun h=>h ((flags_iff _ _).2 ⟨rfl,hk⟩))] at hRR
    subst hRR
    rw [hk] at HK
    clear hk
    go_wp2_with fail
    refine HRS.out.mono ?_;rintro r w2 ⟨rfl,rfl⟩
    go_wp2_with fail
    refine HK.out.mono ?_;rintro r w2 ⟨rfl,rfl⟩
    go_wp2
    refine bodyPost_ret (results_tmp2 rfl _ _ _) rfl ?_
    exact ⟨rfl,by first | exact BW.out | exact below_drewN BW.out _⟩
   rw [if_pos (fun h=>hk ((flags_iff _ _).1 h).2)] at hRR
   subst hRR
   have hk:knownB F1=false:=by simpa using hk
   rw [hk] at HK
   clear hk
   go_wp2_with fail
   refine HRS.out.mono ?_;rintro r w2 ⟨rfl,rfl⟩
   go_wp2_with fail
   refine HK.out.mono ?_;rintro r w2 ⟨rfl,rfl⟩
   go_wp2
   refine bodyPost_ret (results_tmp2 rfl _ _ _) rfl ?_
   exact ⟨rfl,by first | exact BW.out | exact below_drewN BW.out _⟩
  rw [if_pos (fun h=>hF h.1)] at hRR
  subst hRR
  have hq:((F0.toNat:Int) != 0)=true:=byte_neq (b:=0) hF
  clear hF
  go_wp2_with fail
  refine HRS.out.mono ?_;rintro r w2 ⟨rfl,rfl⟩
  go_wp2
  refine bodyPost_ret (results_tmp2 rfl _ _ _) rfl ?_
  exact ⟨rfl,by first | exact BW.out | exact below_drewN BW.out _⟩
 rw [if_pos (fun h=>hse h.2)] at hRR
 subst hRR
 have hse:sealedB ((bs.take 12).drop 6)=false:=by simpa using hse
 rw [hse] at hrs
 have HRS:=hid hrs
 clear RR hm hse hrs ht
 go_wp2_with fail
 refine HRS.out.mono ?_;rintro r w2 ⟨rfl,rfl⟩
 go_wp2
 refine bodyPost_ret (results_tmp2 rfl _ _ _) rfl ?_
 exact ⟨rfl,by first | exact BW.out | exact below_drewN BW.out _⟩
end Go.Proofs.YtffehfpbdcokbaaGreat
namespace Go.Proofs.YtffehfpbdcokbaaGreat.Pan
def Kept (l:List Value) (ds:List Deferred) (a:Act):Prop:=a.tmps.toList.take l.length=l∧a.defers=ds
theorem Kept.unput {l:List Value} {ds:List Deferred} {a:Act} {d:Nat} {v:Value} (h:Kept l ds (a.put (some d) v)) (hd:l.length≤d):Kept l ds a:=by
 obtain ⟨h1,h2⟩:=h
 refine ⟨?_,h2⟩
 have e:(a.put (some d) v).tmps=a.tmps.setIfInBounds d v:=rfl
 rw [e,Array.toList_setIfInBounds,List.take_set_of_le hd] at h1
 exact h1
theorem Kept.get {l:List Value} {ds:List Deferred} {a:Act} (h:Kept l ds a) (i:Nat) (hi:i<l.length):a.tmps[i]?=l[i]?:=by
 have h1:=congrArg (fun l=>l[i]?) h.1
 simp only [List.getElem?_take,hi,if_true,Array.getElem?_toList] at h1
 exact h1
def OnlyPanic (c0:List PanicEntry) (S:World→Prop) (l:List Value) (ds:List Deferred):Exit→Act→World→Prop
 | .panic c,a,w=>c=c0∧S w∧Kept l ds a
 | _,_,_=>False
theorem wp_only_panic {P:Program} {id:Nat} {ops:Array Oper} {b:Bool} {Q:Exit→Act→World→Prop} {a:Act} {w:World} (c0:List PanicEntry) (S:World→Prop) (l:List Value) (ds:List Deferred)
 (hQ:∀ a w,S w→Kept l ds a→Q (.panic c0) a w) (h:(Code.region id ops b).wp P (OnlyPanic c0 S l ds) a w):(Code.region id ops b).wp P Q a w :=
 Code.wp_mono (fun e a w h=>by
  cases e <;> first
   | exact (h:False).elim
   | (obtain ⟨rfl,h2,h3⟩:=h;exact hQ _ _ h2 h3)) h
end Go.Proofs.YtffehfpbdcokbaaGreat.Pan
