import Derived.RangeFuncNested
import Derived.Test.YtffehfpbdcokbaaGreatFrm
import Derived.Test.YtffehfpbdcokbaaGreatBu38
import Derived.Test.YtffehfpbdcokbaaGreatBu39
set_option linter.unusedVariables false
set_option linter.unusedSimpArgs false
namespace Go.Proofs.YtffehfpbdcokbaaGreat
open Lib (hid)
open Go.RowKit
def AbM {α:Type} (D:Nat) (J:List α→World→Prop):Prop:=∀ pre W l o o',D≤l→W.heap[l]?=some o→o.isCells=false→J pre W→J pre (W.putObj l o')
def SeqK {α:Type} (F:Fence) (n:Nat) (P:Program) (g:Nat) (bd:Array Value) (encs:α→Array Value) (Px:List α→α→World→Prop) (S:List α→World→Prop) (K:List α→World→Prop):Prop :=
 ∀ (l:Nat) (J Jx:List α→World→Prop) (W:World),(∀ pre W1,J pre W1→K pre W1) →
  (∀ pre x W1,J pre W1→Px pre x W1→YieldAt F (n-1) P l (encs x) W1 fun e W' =>
    (e=.returned (.bool true)∧J (pre++[x]) W')∨(e=.returned (.bool false)∧Jx (pre++[x]) W')) →
  J [] W →
  CallsIn F n P g (bd++#[.func (.yield l) #[] #[]]) W fun e W'=>(∃ v,e=.returned v)∧((∃ xs,S xs W'∧J xs W')∨(∃ pre,Jx pre W'))
def ownPostK {α:Type} (D:Nat) (I:List α→World→Prop) (Ix:Code→List α→World→Prop) (xs:List α) (W:World):Exit→Act→World→Prop
 | .normal,_,W'=>(W'.heap[D]?=W.heap[D]?∧W'.heap[D+1]?=W.heap[D+1]?)∧I xs W'
 | .ret,_,W'=>(W'.heap[D]?=W.heap[D]?∧W'.heap[D+1]?=W.heap[D+1]?)∧Ix .ret xs W'
 | .exit id,_,W'=>(W'.heap[D]?=W.heap[D]?∧W'.heap[D+1]?=W.heap[D+1]?)∧Ix (.exit id) xs W'
 | .goto t,_,W'=>(W'.heap[D]?=W.heap[D]?∧W'.heap[D+1]?=W.heap[D+1]?)∧Ix (.goto t) xs W'
 | .panic _,_,_=>False
 | .outgrown,_,_=>False
variable {F : Fence} {n : Nat} {P : Program}
theorem wpIn_rangeFunc_ownK {α:Type} {g:Operand} {ps:Array Tmp} {assign body:Code} {Q:Exit→Act→World→Prop} {a:Act} {w:World}
 (hro:F.round=none) (h1:1≤n) {gf:Nat} {bd:Array Value} (hg:a.eval g=.func (.func gf) bd #[]) (hFg:F.fn gf) (eg:∀ args w,(callFunc gf args).run P w=.ok (.enter gf args) w)
 {encs:α→Array Value} {Px:List α→α→World→Prop} {S:List α→World→Prop} {K:List α→World→Prop} (hseq:SeqK F (n-1) P gf bd encs Px S K)
 (hps:∀ x,(encs x).size=ps.size)
 (I:List α→World→Prop) (Ix:Code→List α→World→Prop) (hS:AbM w.heap.size S) (hIl:AbM w.heap.size I) (hIxl:∀ c,AbM w.heap.size (Ix c)) (hIK:∀ pre W,I pre W→K pre W) (h0:I [] ((w.alloc (.deferred (some []))).alloc (.loop default))) (a₁:α→Act)
 (hPx:∀ pre x W l o o',w.heap.size≤l→W.heap[l]?=some o→o.isCells=false→Px pre x W→Px pre x (W.putObj l o'))
 (hassign:∀ (l:Nat) (x:α) (W:World) (K:Act→World→Prop),K (a₁ x) W →
   assign.wpIn (F.inRound l) (n-1-1) P (Exit.then K (fun _ _ _=>False)) { tmps:=(ps.zip (encs x)).foldl (fun t (p,v)=>t.setIfInBounds p v) a.tmps,defers:=[] } W)
 (hbody:∀ (l:Nat) (pre:List α) (x:α) (W:World),I pre W→Px pre x W→W.heap[w.heap.size]?=some (.deferred (some []))→(∃ r,W.heap[w.heap.size+1]?=some (.loop r))→body.wpIn (F.inRound l) (n-1-1) P (ownPostK w.heap.size I Ix (pre++[x]) W) (a₁ x) W)
 (hdone:∀ (xs:List α) (W:World),S xs W→I xs W→W.heap[w.heap.size]?=some (.deferred (some []))→Q .normal { a with defers:={ target:=.collected w.heap.size,args:=#[] }::a.defers } W)
 (hstop:∀ (c:Code) (pre:List α) (W:World),Ix c pre W→W.heap[w.heap.size]?=some (.deferred (some []))→c.wpIn F n P Q { a with defers:={ target:=.collected w.heap.size,args:=#[] }::a.defers } W) :
 (Code.rangeFunc g ps assign body).wpIn F n P Q a w:=by
 refine wpIn_rangeFunc ?_
 intro fn hfn
 rw [hro]
 obtain ⟨rec,hrec⟩:∃ rec:LoopState→Option Code→Loop,rec=fun st pe=>{ state:=st,pending:=pe,fn,tmps:=a.tmps,params:=ps,assign,body,defers:=w.heap.size }:=⟨_,rfl⟩
 obtain ⟨W1,hW1⟩:∃ W1,(w.alloc (.deferred (some []))).alloc (.loop (rec .ready none))=W1:=⟨_,rfl⟩
 have hL1:W1.heap[w.heap.size+1]?=some (.loop (rec .ready none)):=by
  rw [← hW1];have:=World.alloc_heap_new (w.alloc (.deferred (some []))) (.loop (rec .ready none));rwa [World.size_alloc] at this
 have hK1:W1.heap[w.heap.size]?=some (.deferred (some [])):=by
  rw [← hW1];exact (Below.heap_alloc _ _ _ (by simp)).trans (World.alloc_heap_new w _)
 have hI1:I [] W1:=by
  have hL0:((w.alloc (.deferred (some []))).alloc (.loop default)).heap[w.heap.size+1]?=some (.loop default):=by
   have:=World.alloc_heap_new (w.alloc (.deferred (some []))) (.loop default);rwa [World.size_alloc] at this
  have h:=hIl [] _ (w.heap.size+1) _ (.loop (rec .ready none)) (by omega) hL0 rfl h0
  have e:((w.alloc (.deferred (some []))).alloc (.loop default)).putObj (w.heap.size+1) (.loop (rec .ready none))=W1:=by
   rw [← hW1]
   simp only [World.putObj,World.alloc]
   congr 1
   apply Array.ext_getElem?
   intro i
   simp only [Array.getElem?_setIfInBounds,Array.getElem?_push,Array.size_push]
   repeat' split
   all_goals first | rfl | omega | simp_all
  rw [e] at h
  exact h
 refine ⟨w.heap.size+1,[{ target:=.collected w.heap.size,args:=#[] }],W1,{ target:=.fn (.func gf) #[],args:=bd++#[.func (.yield (w.heap.size+1)) #[] #[]] },W1,gf,
  bd++#[.func (.yield (w.heap.size+1)) #[] #[]],W1,?_,?_,?_,?_,fun _=>h1,?_⟩
 ·rw [← hW1,hrec];exact run_enterLoop_outer _ _ _ _ _
 ·simp only [resolve,hg]
  simp [go_sem]
 ·intro f' hf';simp [Target.leads] at hf';subst hf';exact hFg
 ·simp [invoke,go_sem,eg]
 refine (hseq (w.heap.size+1)
  (fun pre W=>I pre W∧W.heap[w.heap.size+1]?=some (.loop (rec .ready none))∧W.heap[w.heap.size]?=some (.deferred (some [])))
  (fun pre W=>∃ c,Ix c pre W∧W.heap[w.heap.size+1]?=some (.loop (rec .done (some c)))∧W.heap[w.heap.size]?=some (.deferred (some [])))
  W1 (fun pre W1 h=>hIK pre W1 h.1) ?_ ⟨hI1,hL1,hK1⟩).mono ?_
 ·rintro pre x W ⟨hi,hl,hk⟩ hpx
  have hlt:w.heap.size+1<W.heap.size:=(Array.getElem?_eq_some_iff.1 hl).1
  have hy:=run_yield (P:=P) (args:=encs x) hl (by rw [hrec];exact hps x)
  rw [hrec] at hy
  refine ⟨fn,_,assign,body,hy,roundIn_of_wpIn hfn (hassign _ x W _ ⟨_,run_beginRound hl (by rw [hrec]),?_⟩)⟩
  obtain ⟨W2,hW2⟩:∃ W2,W.putObj (w.heap.size+1) (.loop { rec .ready none with state:=.busy })=W2:=⟨_,rfl⟩
  have hl2:W2.heap[w.heap.size+1]?=some (.loop { rec .ready none with state:=.busy }):=by rw [← hW2];exact World.putObj_heap_same hlt
  have hk2:W2.heap[w.heap.size]?=some (.deferred (some [])):=by rw [← hW2];exact (World.putObj_heap_other (by omega)).trans hk
  have hi2:I pre W2:=by rw [← hW2];exact hIl pre W _ _ _ (by omega) hl rfl hi
  have hp2:Px pre x W2:=by rw [← hW2];exact hPx pre x W _ _ _ (by omega) hl rfl hpx
  have hlt2:w.heap.size+1<W2.heap.size:=(Array.getElem?_eq_some_iff.1 hl2).1
  rw [hW2]
  refine wpIn_mono (hbody _ pre x _ hi2 hp2 hk2 ⟨_,hl2⟩) ?_
  have fin:∀ (jump:Option Code) (W3:World),(W3.heap[w.heap.size]?=W2.heap[w.heap.size]?∧W3.heap[w.heap.size+1]?=W2.heap[w.heap.size+1]?) →
   (Instr.endRound (w.heap.size+1) jump).run P W3=.ok (.bool jump.isNone) (W3.putObj (w.heap.size+1) (.loop (rec (if jump.isNone then .ready else .done) jump))) ∧
   W3.heap[w.heap.size+1]?=some (.loop { rec .ready none with state:=.busy }) ∧
   (W3.putObj (w.heap.size+1) (.loop (rec (if jump.isNone then .ready else .done) jump))).heap[w.heap.size+1]?=some (.loop (rec (if jump.isNone then .ready else .done) jump)) ∧
   (W3.putObj (w.heap.size+1) (.loop (rec (if jump.isNone then .ready else .done) jump))).heap[w.heap.size]?=some (.deferred (some [])):=fun jump W3 hk3=>by
   have hl3:=hk3.2.trans hl2
   have:=run_endRound (P:=P) jump hl3
   rw [hrec] at this ⊢
   exact ⟨this,by rw [hrec] at hl3;exact hl3,World.putObj_heap_same (Array.getElem?_eq_some_iff.1 hl3).1,(World.putObj_heap_other (by omega)).trans (hk3.1.trans hk2)⟩
  rintro e a3 W3 hp
  cases e with
  | normal =>
   obtain ⟨hk3,hi3⟩:=hp
   obtain ⟨hr,hl3,hl4,hk4⟩:=fin none W3 hk3
   exact ⟨_,_,hr,.inl ⟨rfl,hIl _ _ _ _ _ (by omega) hl3 rfl hi3,hl4,hk4⟩⟩
  | ret =>
   obtain ⟨hk3,hi3⟩:=hp
   obtain ⟨hr,hl3,hl4,hk4⟩:=fin (some .ret) W3 hk3
   exact ⟨_,_,hr,.inr ⟨rfl,.ret,hIxl _ _ _ _ _ _ (by omega) hl3 rfl hi3,hl4,hk4⟩⟩
  | exit id =>
   obtain ⟨hk3,hi3⟩:=hp
   obtain ⟨hr,hl3,hl4,hk4⟩:=fin (some (.exit id)) W3 hk3
   exact ⟨_,_,hr,.inr ⟨rfl,.exit id,hIxl _ _ _ _ _ _ (by omega) hl3 rfl hi3,hl4,hk4⟩⟩
  | goto t =>
   obtain ⟨hk3,hi3⟩:=hp
   obtain ⟨hr,hl3,hl4,hk4⟩:=fin (some (.goto t)) W3 hk3
   exact ⟨_,_,hr,.inr ⟨rfl,.goto t,hIxl _ _ _ _ _ _ (by omega) hl3 rfl hi3,hl4,hk4⟩⟩
  | panic ch=>exact hp.elim
  | outgrown=>exact hp.elim
 rintro e W2 ⟨⟨v,rfl⟩,(⟨xs,hSx,hi,hl,hk⟩ | ⟨pre,c,hi,hl,hk⟩)⟩
 ·exact ⟨none,_,by have:=run_endLoop (P:=P) hl (by rw [hrec];simp);rw [hrec] at this;exact this,hdone xs _ (hS _ _ _ _ _ (by omega) hl rfl hSx) (hIl _ _ _ _ _ (by omega) hl rfl hi) ((World.putObj_heap_other (by omega)).trans hk)⟩
 exact ⟨some c,_,by have:=run_endLoop (P:=P) hl (by rw [hrec];simp);rw [hrec] at this;exact this,hstop c pre _ (hIxl _ _ _ _ _ _ (by omega) hl rfl hi) ((World.putObj_heap_other (by omega)).trans hk)⟩
open Go.RowKit Rng Win Lz Box
attribute [local go_sem] Oper.semAt_some
structure Fb where
 b:Nat
 e:Nat
def fbEnc (x:Fb):Array Value:=#[.int .u8 (x.b:Int),.int .i64 (x.e:Int)]
def FbK (w0:World) (rb fb B0 un:Nat) (pre:List Fb) (W:World):Prop :=
 W.cell? ⟨rb,0,none⟩=some (.pointer (some ⟨fb,0,none⟩))∧(∃ A n c used bs,SrcAt W fb A n c used∧n≤c∧BRow W B0 A bs∧n=bs.length∧n+pre.length≤un)∧Below B0 w0 W
def FbP (fb B0:Nat) (pre:List Fb) (x:Fb) (W:World):Prop :=
 ∃ A n c used bs,SrcAt W fb A n c used∧BRow W B0 A bs∧n=bs.length∧((x.e=0∧1≤n∧x.b=(bs.getD 0 0).toNat)∨(x.e=10∧n=0))
def FbS (xs:List Fb) (W:World):Prop:=∃ pre x,xs=pre++[x]∧(x.e≠0∨x.b=0)
set_option maxRecDepth 8000 in
set_option maxHeartbeats 2000000 in
theorem first_seq (n rb fb B0 un:Nat) (w0:World) (hn1:2≤n):SeqK Fence.wide n Tryz.prog 47 #[.pointer (some ⟨rb,0,none⟩)] fbEnc (FbP fb B0) FbS (FbK w0 rb fb B0 un):=by
 intro l J Jx W hK hY h0
 have HK:=hid hK
 have HY:=hid hY
 have H0:=hid h0
 clear hK hY h0
 refine callsIn_of_wp Tryz.func47 rfl trivial ?_ rfl
 simp only [Tryz.ntmps47,List.size_toArray,List.length_cons,List.length_nil,Nat.reduceAdd,Nat.reduceSub,Array.replicate_succ,Array.replicate_zero,List.push_toArray,List.append_toArray,List.nil_append,List.cons_append]
 gi_wp2
 gi_loopg [4] (un+1) (fun gf tv wr=>∃ pre:List Fb,J pre wr∧pre.length+gf=un+1)
 case atStart=>exact ⟨[],H0.out,by simp⟩
 case round =>
 obtain ⟨pre,hj,hlen⟩:=hrel
 obtain ⟨hc0,⟨A,m,c,used,bs,hs,hmc,hr,hm,hmp⟩,hbe⟩:=HK.out pre wr hj
 obtain ⟨g,rfl⟩:∃ g,gk=g+1:=⟨gk-1,by omega⟩
 have HP:=hid (peek_p fb A m c used 1 wr hs hmc)
 have HJ:=hid hj
 have HH:=hid (And.intro hs (And.intro hr (And.intro hbe (And.intro hm hlen))))
 have h1n:1≤n:=by omega
 clear hj hs hr hbe hlen
 by_cases h0:m=0
 ·obtain ⟨fn,tmps,assign,body,hy,hR⟩:=HY.out pre ⟨0,10⟩ wr HJ.out ⟨A,m,c,used,bs,HH.out.1,HH.out.2.1,HH.out.2.2.2.1,.inr ⟨rfl,h0⟩⟩
  replace hy:(Instr.yield l #[.int .u8 0,.int .i64 10]).run Tryz.prog wr=.ok (.round l fn tmps assign body) wr:=hy
  rw [if_neg (by omega)] at HP
  clear hm hmp hmc h0
  gi_wp2_with (refine ⟨trivial,?_⟩;gi_at_call 51;refine (callsIn_wide.2 HP.out).mono ?_;rintro e w2 ⟨rfl,hw⟩;subst hw)
  refine hR.mono ?_
  rintro e W' (⟨rfl,hJ'⟩ | ⟨rfl,hJx'⟩)
  ·gi_wp2
   refine bodyPost_ret (results_none rfl _ _ _) rfl ?_
   exact ⟨⟨_,rfl⟩,.inl ⟨_,⟨pre,_,rfl,.inl (by decide)⟩,hJ'⟩⟩
  gi_wp2
  refine bodyPost_ret (results_none rfl _ _ _) rfl ?_
  exact ⟨⟨_,rfl⟩,.inr ⟨_,hJx'⟩⟩
 obtain ⟨ab,ao,rfl,hab,hcell⟩:=HH.out.2.1 (by omega)
 obtain ⟨c0,hc0'⟩:∃ c,(bs.getD 0 0).toNat=c:=⟨_,rfl⟩
 have b0:wr.cell? ⟨ab,ao,none⟩=some (.int .u8 (c0:Int)):=by rw [← hc0'];exact hcell 0 (by omega)
 obtain ⟨fn,tmps,assign,body,hy,hR⟩:=HY.out pre ⟨c0,0⟩ wr HJ.out ⟨_,m,c,used,bs,HH.out.1,HH.out.2.1,HH.out.2.2.2.1,.inl ⟨rfl,by omega,hc0'.symm⟩⟩
 replace hy:(Instr.yield l #[.int .u8 (c0:Int),.int .i64 0]).run Tryz.prog wr=.ok (.round l fn tmps assign body) wr:=hy
 rw [if_pos (by omega)] at HP
 clear hm hmp hmc h0 hc0' hcell
 gi_wp2_with (refine ⟨trivial,?_⟩;gi_at_call 51;refine (callsIn_wide.2 HP.out).mono ?_;rintro e w2 ⟨rfl,hw⟩;subst hw)
 refine hR.mono ?_
 rintro e W' (⟨rfl,hJ'⟩ | ⟨rfl,hJx'⟩)
 ·have hK':=HK.out _ W' hJ'
  have b1:W'.cell? ⟨ab,ao,none⟩=some (.int .u8 (c0:Int)):=((hK'.2.2.cell (p:=⟨ab,ao,none⟩) hab).trans (HH.out.2.2.1.cell (p:=⟨ab,ao,none⟩) hab).symm).trans b0
  have HJ':=hid hJ'
  clear hJ' hK' b0
  by_cases hz:c0=0
  ·subst hz
   gi_wp2
   refine bodyPost_ret (results_none rfl _ _ _) rfl ?_
   exact ⟨⟨_,rfl⟩,.inl ⟨_,⟨pre,_,rfl,.inr rfl⟩,HJ'.out⟩⟩
  have qz:((c0:Int)==0)=false:=beq_eq_false_iff_ne.2 (by omega)
  clear hz
  gi_wp2
  gi_roundg g
  case rel=>exact ⟨_,HJ'.out,by rw [List.length_append];have:=HH.out.2.2.2.2;simp;omega⟩
  case measure=>omega
 gi_wp2
 refine bodyPost_ret (results_none rfl _ _ _) rfl ?_
 exact ⟨⟨_,rfl⟩,.inr ⟨_,hJx'⟩⟩
open Go.RowKit Rng Win Lz Box
attribute [local go_sem] Oper.semAt_some
theorem xBlock_len {bud:Nat} {kind:Int} {told:Nat} {src o rest:List UInt8} {r:Nat×Nat} (h:xBlock bud kind told src=.ok o r rest):told+o.length≤16777216∨o=[]:=by
 unfold xBlock at h
 by_cases h0:src.length<hdLen src
 ·rw [if_pos h0] at h;cases h
 rw [if_neg h0] at h
 unfold xBody at h
 split at h
 ·cases h
 split at h
 ·cases h
 obtain ⟨S,hS⟩:∃ S,max (blockOf (src.take (hdLen src))).1.toNat 4096=S:=⟨_,rfl⟩
 rw [hS] at h
 have hl:=d2P_len S (16777216-told) (src.drop (hdLen src))
 cases hd:d2P S (16777216-told) (src.drop (hdLen src)) with
 | mk T R =>
  rw [hd] at h hl
  cases R with
  | inl e=>cases h
  | inr rr =>
   have hx:=xTail_front h
   rw [hx.1]
   have hl:T.length≤16777216-told:=hl
   by_cases ht:told≤16777216
   ·left;omega
   right;exact List.eq_nil_of_length_eq_zero (by omega)
theorem xNums_z {e:Nat}:∀ (l:List Nat) {s:List UInt8},xNums l s=.inl e→e≠0
 | [],s,h=>by cases h
 | n::l,s,h=>by
  rw [xNums_cons] at h
  cases hx:xNum n s with
  | inl z=>rw [hx] at h;injection h with h;exact h▸xNum_z hx
  | inr r=>rw [hx] at h;exact xNums_z l h
theorem xIndex_z {recs:List (Nat×Nat)} {s:List UInt8} {e:Nat} (h:xIndex recs s=.inl e):e≠0:=by
 unfold xIndex at h
 cases hx:xNums (recN recs) (s.drop 1) with
 | inl z=>rw [hx] at h;injection h with h;exact h▸xNums_z _ hx
 | inr r =>
  rw [hx] at h
  simp only at h
  split at h
  ·injection h with h;omega
  split at h
  ·injection h with h;omega
  cases h
theorem xIndex_size {recs:List (Nat×Nat)} {s r:List UInt8} {size:Nat} (h:xIndex recs s=.inr (size,r)):size≤s.length+8:=by
 unfold xIndex at h
 cases hx:xNums (recN recs) (s.drop 1) with
 | inl z=>rw [hx] at h;cases h
 | inr r =>
  rw [hx] at h
  simp only at h
  split at h
  ·cases h
  split at h
  ·cases h
  injection h with h
  injection h with h1 h2
  have:padOf (s.length-r.length)<4:=by unfold padOf;omega
  omega
theorem footOf_nat (bs:List UInt8):∃ k n e:Nat,footOf bs=((k:Int),n,(e:Int)):=by
 unfold footOf
 repeat' split
 ·exact ⟨0,0,10,rfl⟩
 ·exact ⟨0,0,11,rfl⟩
 ·exact ⟨0,0,12,rfl⟩
 exact ⟨_,_,0,rfl⟩
section
variable (w : World) (rb fb eb cb bud un B0 N0 : Nat) (put hold : Value) (kind : Int) (M0 : Nat → Prop) (J : (Nat → Prop) → List UInt8 → World → Prop) (XE : List UInt8 × (Nat ⊕ (List (Nat × Nat) × List UInt8)))
structure RnI (recs:List (Nat×Nat)) (out src:List UInt8) (lv:Value) (M:Nat→Prop) (W:World):Prop where
 r:RxAt W rb fb bud put hold kind out.length lv
 o:OwnPr W 192 B0 lv recs
 v:∀ q,lv.ownBlock=some q→¬ M q∧w.heap.size≤q
 s:∃ A n c used,SrcAt W fb A n c used∧used+n=un∧BRow W B0 A src∧n=src.length∧n≤c∧c≤maxLen
 j:J M out W
 m:∀ q,M q→(M0 q∨w.heap.size≤q)∧q≠rb∧q≠fb∧q≠eb∧q≠cb
 e:Pts W eb #[.int .i64 0] 25
 c:Pts W cb #[.pointer (some ⟨rb,0,none⟩)] 89
 f:Frm (fun q=>M0 q∨q=fb) w W
 x:∃ f,src.length<f∧XE=xBlocks bud kind f recs out src
 l:out.length≤16777216∧recs.length+src.length≤N0
 b:Below B0 w W
def RnL (pre:List Fb) (W:World):Prop :=
 ∃ recs out src lv M,RnI w rb fb eb cb bud un B0 N0 put hold kind M0 J XE recs out src lv M W∧src.length+pre.length≤un∧∀ x∈pre,x.e=0∧x.b≠0
def RnX (cd:Code) (pre:List Fb) (W:World):Prop :=
 (cd=.ret∧∃ out M z,z≠0∧XE=(out,.inl z)∧J M out W∧(∀ q,M q→(M0 q∨w.heap.size≤q)∧q≠eb)∧Pts W eb #[.int .i64 (z:Int)] 25∧Frm (fun q=>M0 q∨q=fb) w W) ∨
 (cd=.exit 0∧∃ recs out src lv M,RnI w rb fb eb cb bud un B0 N0 put hold kind M0 J XE recs out src lv M W∧1≤src.length∧src.getD 0 0=0)
end
section
variable {w W W' : World} {rb fb eb cb bud un B0 N0 fput most : Nat} {lb : Array Value} {put hold : Value} {kind : Int} {M0 M : Nat → Prop} {J : (Nat → Prop) → List UInt8 → World → Prop} {XE : List UInt8 × (Nat ⊕ (List (Nat × Nat) × List UInt8))} {recs : List (Nat × Nat)} {out src : List UInt8} {lv : Value} {pre : List Fb}
theorem OwnPr.cellsX {T base:Nat} {v:Value} {l:List (Nat×Nat)} (h:OwnPr W T base v l) {q:Nat} (hq:v.ownBlock=some q):∃ c t f,W.heap[q]?=some (.cells c t f):=by
 rcases h.2 with ⟨h3,_⟩ | ⟨g,cap,cur,h3,_,hh,_⟩
 ·rw [h3] at hq;cases hq
 rw [h3] at hq
 injection hq with hq
 subst hq
 exact ⟨_,_,_,hh⟩
theorem RnI.keepF {S:Nat→Prop} (hp:PutOk Tryz.prog fput lb B0 most J) (h:RnI w rb fb eb cb bud un B0 N0 put hold kind M0 J XE recs out src lv M W) (hf:Frm S W W') (hS:∀ q,S q→w.heap.size≤q∧∀ c t f,W.heap[q]?≠some (.cells c t f)) (hB0:B0≤w.heap.size):RnI w rb fb eb cb bud un B0 N0 put hold kind M0 J XE recs out src lv M W':=by
 have hn:∀ {q:Nat} {c:Array Value} {t:TypeId},Pts W q c t→¬ S q:=fun hq hs=>(hS _ hs).2 _ _ _ hq
 obtain ⟨A,n,c,used,hs,h1,h2,h3⟩:=h.s
 have hBW:Below B0 W W':=hf.below (Nat.le_trans hB0 h.f.size) (fun q hq=>Nat.le_trans hB0 (hS q hq).1)
 exact ⟨Pts.frm h.r hf (hn h.r),h.o.frm hf (fun q hq hs=>by obtain ⟨c,t,f,hc⟩:=h.o.cellsX hq;exact (hS q hs).2 _ _ _ hc),h.v,⟨A,n,c,used,Pts.frm hs hf (hn hs),h1,h2.below hBW,h3⟩,
  hp.keep M _ W W' h.j (hf.mono fun q _ hq hm=>by obtain ⟨_,c,t,f,hc⟩:=hp.own M _ W h.j q hm;exact (hS q hq).2 _ _ _ hc),h.m,h.e.frm hf (hn h.e),h.c.frm hf (hn h.c),h.f.transW hf (fun q hq hlt=>by have:=(hS q hq).1;omega),h.x,h.l,h.b.trans hBW⟩
theorem frm_put {l:Nat} {o o':Obj} (ho:W.heap[l]?=some o) (hc:o.isCells=false) (hl:w.heap.size≤l):Frm (fun q=>q=l) W (W.putObj l o')∧∀ q,q=l→w.heap.size≤q∧∀ c t f,W.heap[q]?≠some (.cells c t f):=by
 refine ⟨(Frm.refl _ W).putObj (S:=fun q=>q=l) rfl o',fun q hq=>⟨by omega,fun c t f h=>?_⟩⟩
 subst hq
 rw [ho] at h
 injection h with h
 rw [h] at hc
 cases hc
theorem RnL.upd (hp:PutOk Tryz.prog fput lb B0 most J) (h:RnL w rb fb eb cb bud un B0 N0 put hold kind M0 J XE pre W) {l:Nat} {o o':Obj} (hl:w.heap.size≤l) (ho:W.heap[l]?=some o) (hc:o.isCells=false) (hB0:B0≤w.heap.size):RnL w rb fb eb cb bud un B0 N0 put hold kind M0 J XE pre (W.putObj l o'):=by
 obtain ⟨recs,out,src,lv,M,h1,h2,h3⟩:=h
 obtain ⟨k1,k2⟩:=frm_put (w:=w) (o':=o') ho hc hl
 exact ⟨recs,out,src,lv,M,h1.keepF hp k1 k2 hB0,h2,h3⟩
theorem RnL.alloc (hp:PutOk Tryz.prog fput lb B0 most J) (h:RnL w rb fb eb cb bud un B0 N0 put hold kind M0 J XE pre W) (o:Obj) (hB0:B0≤w.heap.size):RnL w rb fb eb cb bud un B0 N0 put hold kind M0 J XE pre (W.alloc o):=by
 obtain ⟨recs,out,src,lv,M,h1,h2,h3⟩:=h
 exact ⟨recs,out,src,lv,M,h1.keepF (S:=fun _=>False) hp ((Frm.refl _ W).alloc o) (fun _ h=>h.elim) hB0,h2,h3⟩
theorem RnX.upd (hp:PutOk Tryz.prog fput lb B0 most J) {cd:Code} (h:RnX w rb fb eb cb bud un B0 N0 put hold kind M0 J XE cd pre W) {l:Nat} {o o':Obj} (hl:w.heap.size≤l) (ho:W.heap[l]?=some o) (hc:o.isCells=false) (hB0:B0≤w.heap.size):RnX w rb fb eb cb bud un B0 N0 put hold kind M0 J XE cd pre (W.putObj l o'):=by
 obtain ⟨k1,k2⟩:=frm_put (w:=w) (o':=o') ho hc hl
 rcases h with ⟨e,out,M,z,h1,h2,h3,h4,h5,h6⟩ | ⟨e,recs,out,src,lv,M,h1,h2⟩
 ·refine .inl ⟨e,out,M,z,h1,h2,hp.keep M _ W _ h3 (k1.mono fun q _ hq hm=>?_),h4,h5.frm k1 (fun e=>(k2 _ e).2 _ _ _ h5),h6.transW k1 (fun q hq hlt=>by have:=(k2 q hq).1;omega)⟩
  obtain ⟨_,c,t,f,hcc⟩:=hp.own M _ W h3 q hm
  exact (k2 q hq).2 _ _ _ hcc
 exact .inr ⟨e,recs,out,src,lv,M,h1.keepF hp k1 k2 hB0,h2⟩
theorem RnL.k (h:RnL w rb fb eb cb bud un B0 N0 put hold kind M0 J XE pre W):FbK w rb fb B0 un pre W:=by
 obtain ⟨recs,out,src,lv,M,h1,h2,h3⟩:=h
 obtain ⟨A,n,c,used,hs,k1,k2,k3,k4,k5⟩:=h1.s
 exact ⟨h1.r.cells.1,⟨A,n,c,used,src,hs,k4,k2,k3,by omega⟩,h1.b⟩
theorem RnI.next (hp:PutOk Tryz.prog fput lb B0 most J) (h:RnI w rb fb eb cb bud un B0 N0 put hold kind M0 J XE recs out src lv M W) {e:Ending} (hB:BlkXEnd rb fb un B0 bud put hold kind J M lv recs out (xBlock bud kind out.length src) W e W') (hb:src.getD 0 0≠0) (h1:1≤src.length) (hB0:B0≤w.heap.size) (hrb:w.heap.size≤rb) (hfbB:B0≤fb) :
 (∀ q,q<W.heap.size→(∀ c t f,W.heap[q]?≠some (.cells c t f))→W'.heap[q]?=W.heap[q]?) ∧
 ((∃ z:Nat,z≠0∧e=.returned (.int .i64 (z:Int))∧Pts W' eb #[.int .i64 0] 25∧∃ out' M',XE=(out',.inl z)∧J M' out' W'∧(∀ q,M' q→(M0 q∨w.heap.size≤q)∧q≠eb)∧Frm (fun q=>M0 q∨q=fb) w W') ∨
  (e=.returned (.int .i64 0)∧∃ recs' out' src' lv' M',RnI w rb fb eb cb bud un B0 N0 put hold kind M0 J XE recs' out' src' lv' M' W'∧src'.length+1≤src.length)):=by
 obtain ⟨hf,M',hM',hE⟩:=hB
 obtain ⟨A,n,c,used,hs,k1,k2,k3,k4,k5⟩:=h.s
 have hcells:∀ q,(M q∨q=fb∨q=rb∨lv.ownBlock=some q)→∃ c t f,W.heap[q]?=some (.cells c t f):=fun q hq=>by
  rcases hq with e | e | e | e
  ·exact (hp.own M _ W h.j q e).2
  ·subst e;exact ⟨_,_,_,hs⟩
  ·subst e;exact ⟨_,_,_,h.r⟩
  exact h.o.cellsX e
 have hty:∀ {q:Nat} {c:Array Value} {T':TypeId},lv.ownBlock=some q→Pts W q c T'→(192:Nat)=T':=fun {q c T'} hq hpp=>by
  rcases h.o.2 with ⟨h3,_⟩ | ⟨g,cap,cur,h3,_,hh,_⟩
  ·rw [h3] at hq;cases hq
  rw [h3] at hq
  injection hq with hq
  subst hq
  have h9:W.heap[g]?=some (.cells cur 192 (0,0)):=hh
  unfold Pts at hpp
  rw [h9] at hpp
  injection hpp with hpp
  injection hpp
 have hne:¬ (M eb∨eb=fb∨eb=rb∨lv.ownBlock=some eb):=by
  rintro (e | e | e | e)
  ·exact (h.m _ e).2.2.2.1 rfl
  ·exact h.e.ne_of hs (by decide) e
  ·exact h.e.ne_of h.r (by decide) e
  exact absurd (hty e h.e) (by decide)
 have hnc:¬ (M cb∨cb=fb∨cb=rb∨lv.ownBlock=some cb):=by
  rintro (e | e | e | e)
  ·exact (h.m _ e).2.2.2.2 rfl
  ·exact h.c.ne_of hs (by decide) e
  ·exact h.c.ne_of h.r (by decide) e
  exact absurd (hty e h.c) (by decide)
 have he':=h.e.frm hf hne
 have hc':=h.c.frm hf hnc
 have hel:=h.e.lt
 have hcl:=h.c.lt
 have hrl:=Pts.lt h.r
 have hfl:=Pts.lt hs
 have hw:=h.f.size
 have hM2:∀ q,M' q→(M0 q∨w.heap.size≤q)∧q≠rb∧q≠fb∧q≠eb∧q≠cb:=fun q hq=>by
  rcases hM' q hq with e | e
  ·exact h.m q e
  exact ⟨.inr (by omega),by omega,by omega,by omega,by omega⟩
 have hfw:Frm (fun q=>M0 q∨q=fb) w W':=h.f.transW hf (fun q hq hlt=>by
  rcases hq with e | e | e | e
  ·rcases (h.m q e).1 with e2 | e2
   ·exact .inl e2
   omega
  ·exact .inr e
  ·omega
  have:=(h.v q e).2;omega)
 have hBW:Below B0 W W':=hf.below (Nat.le_trans hB0 hw) (fun q hq=>by
  rcases hq with e | e | e | e
  ·exact (hp.own M _ W h.j q e).1
  ·omega
  ·omega
  exact (h.o.lt e).1)
 refine ⟨fun q hq hnq=>hf.block q hq (fun hS=>by obtain ⟨c,t,f,hc⟩:=hcells q hS;exact hnq _ _ _ hc),?_⟩
 obtain ⟨f,hlf,hXE⟩:=h.x
 obtain ⟨f',rfl⟩:∃ f',f=f'+1:=⟨f-1,by omega⟩
 have hXE2:XE=match xBlock bud kind out.length src with
  | .err e o=>(out++o,.inl e)
  | .ok o r rest=>xBlocks bud kind f' (recs++[r]) (out++o) rest:=by
  rw [hXE]
  conv=>lhs;unfold xBlocks
  rw [if_neg (by omega),if_neg hb]
  cases xBlock bud kind out.length src <;> rfl
 cases hx:xBlock bud kind out.length src with
 | err z o =>
  rw [hx] at hE hXE2
  obtain ⟨hz,rfl,hj⟩:=hE
  exact .inl ⟨z,hz,rfl,he',out++o,M',hXE2,hj,fun q hq=>⟨(hM2 q hq).1,(hM2 q hq).2.2.2.1⟩,hfw⟩
 | ok o r rest =>
  rw [hx] at hE hXE2
  obtain ⟨rfl,hj,lv',hr',ho',hv',A',n',c',used',hs',g1,g2,g3,g4,g5⟩:=hE
  obtain ⟨m,hm1,hm2,hrest,_⟩:=xBlock_front hx
  have hrl2:rest.length=src.length-m:=by rw [hrest,List.length_drop]
  have hol:=xBlock_len hx
  refine .inr ⟨rfl,recs++[r],out++o,rest,lv',M',⟨hr',ho',fun q hq=>⟨(hv' q hq).1,?_⟩,⟨A',n',c',used',hs',g1,g2,g3,g4,g5⟩,hj,hM2,he',hc',hfw,⟨f',by omega,hXE2⟩,⟨?_,?_⟩,h.b.trans hBW⟩,by omega⟩
  ·rcases (hv' q hq).2 with e | e
   ·exact (h.v q e).2
   omega
  ·have:=h.l.1
   rw [List.length_append]
   rcases hol with e | e
   ·exact e
   rw [e];simp;omega
  have:=h.l.2
  rw [List.length_append]
  simp only [List.length_cons,List.length_nil]
  omega
end
open Go.RowKit Rng Win Lz Box
section
variable {w0 w w' : World} {K mb : Nat} {A : Option Addr} {bs : List UInt8} {c at' : Nat} {kind : Int} {recs : List (Nat × Nat)} {ov lv : Value} {out : List UInt8}
theorem numstep_d (want:Nat) (h:XmAt w0 w K mb A bs c at' kind recs ov lv out) (hrow:BRow w0 K A bs) (hcap:bs.length≤c∧bs.length≤1000000∧c≤maxLen) (hat:at'≤bs.length) :
 Calls Tryz.prog 96 #[.pointer (some ⟨mb,0,none⟩),.int .u64 (want:Int)] w fun e w'=>∃ z at2:Nat,e=.returned (.int .i64 (z:Int))∧XmAt w0 w' K mb A bs c at2 kind recs ov lv out∧at'≤at2∧at2≤bs.length ∧
  (z=0→xNum want (bs.drop at')=.inr (bs.drop at2))∧(z≠0→xNum want (bs.drop at')=.inl z):=by
 have hle:=fun hz=>(number_used (bs:=bs.drop at') hz).2
 refine (number_d want h hrow hcap hat hle).mono ?_
 rintro e w' (⟨z,h1,h2,rfl,h3⟩ | ⟨h1,h2,rfl,h3⟩ | ⟨h1,h2,rfl,h3⟩)
 ·have hn:=number_nat (s:=bs.drop at')
  refine ⟨(number (bs.drop at')).2.2.toNat,at',?_,h3,Nat.le_refl _,hat,fun k=>?_,fun _=>?_⟩
  ·rw [← hn,h1]
  ·exfalso
   rw [k] at hn
   exact h2 (by rw [← h1,hn];rfl)
  unfold xNum
  rw [if_pos (by rw [h1];exact h2)]
 ·refine ⟨11,at',rfl,h3,Nat.le_refl _,hat,fun k=>absurd k (by decide),fun _=>?_⟩
  unfold xNum
  rw [if_neg (fun k=>k h1),if_pos h2]
 refine ⟨0,_,rfl,h3,Nat.le_add_right _ _,?_,fun _=>?_,fun k=>absurd rfl k⟩
 ·have:=hle h1
  rw [List.length_drop] at this
  omega
 unfold xNum
 rw [if_neg (fun k=>k h1),if_neg (fun k=>k h2),List.drop_drop]
end
def IxD (w0:World) (K mb:Nat) (A:Option Addr) (bs:List UInt8) (c:Nat) (kind:Int) (recs:List (Nat×Nat)) (ov lv:Value) (out:List UInt8) (X:Nat ⊕ (Nat×List UInt8)) (e:Ending) (w':World):Prop :=
 match X with
 | .inl z=>z≠0∧e=.returned (.tuple #[.int .i64 0,.int .i64 (z:Int)])∧∃ at2,XmAt w0 w' K mb A bs c at2 kind recs ov lv out
 | .inr (size,r)=>e=.returned (.tuple #[.int .i64 (size:Int),.int .i64 0])∧size≤bs.length∧∃ at2,at2≤bs.length∧r=bs.drop at2∧XmAt w0 w' K mb A bs c at2 kind recs ov lv out
section
variable {w0 w w' : World} {K mb : Nat} {A : Option Addr} {bs : List UInt8} {c at' : Nat} {kind : Int} {recs : List (Nat × Nat)} {ov lv : Value} {out : List UInt8}
theorem ixd_err {at2 z:Nat} {X:Nat ⊕ (Nat×List UInt8)} (hX:X=.inl z) (hz:z≠0) (h:XmAt w0 w' K mb A bs c at2 kind recs ov lv out):IxD w0 K mb A bs c kind recs ov lv out X (.returned (.tuple #[.int .i64 0,.int .i64 (z:Int)])) w':=by
 subst hX
 exact ⟨hz,rfl,_,h⟩
theorem ixd_ok {at2 size:Nat} {X:Nat ⊕ (Nat×List UInt8)} (hX:X=.inr (size,bs.drop at2)) (h1:at2≤bs.length) (h2:size≤bs.length) (h:XmAt w0 w' K mb A bs c at2 kind recs ov lv out):IxD w0 K mb A bs c kind recs ov lv out X (.returned (.tuple #[.int .i64 (size:Int),.int .i64 0])) w':=by
 subst hX
 exact ⟨rfl,h2,_,h1,rfl,h⟩
theorem xIndex_num {recs:List (Nat×Nat)} {src:List UInt8} {z:Nat} (h:xNums (recN recs) (src.drop 1)=.inl z):xIndex recs src=.inl z:=by
 unfold xIndex
 rw [h]
def ixTail (bs:List UInt8) (at' at2 pad:Nat):Nat ⊕ (Nat×List UInt8) :=
 if bs.length-at2<pad+4 then .inl 10
 else if (bs.drop at2).take pad≠List.replicate pad 0∨sealedB ((bs.drop at').take (at2-at'+pad+4))≠true then .inl 11
 else .inr (at2-at'+pad+4,bs.drop (at2+pad+4))
theorem xIndex_tail {recs:List (Nat×Nat)} {at2:Nat} (h1:at'≤at2) (h2:at2≤bs.length) (h:xNums (recN recs) ((bs.drop at').drop 1)=.inr (bs.drop at2)):xIndex recs (bs.drop at')=ixTail bs at' at2 (padOf (at2-at')):=by
 unfold xIndex
 rw [h]
 simp only
 have e1:(bs.drop at').length-(bs.drop at2).length=at2-at':=by rw [List.length_drop,List.length_drop];omega
 rw [e1]
 obtain ⟨pad,hp⟩:∃ p,padOf (at2-at')=p:=⟨_,rfl⟩
 rw [hp]
 unfold ixTail
 rw [List.length_drop]
 by_cases hl:bs.length-at2<pad+4
 ·rw [if_pos hl,if_pos hl]
 rw [if_neg hl,if_neg hl]
 have hT:((bs.drop at').take (at2-at'+pad+4)).length=at2-at'+pad+4:=by rw [List.length_take,List.length_drop];omega
 have e2:sealedB ((bs.drop at').take (at2-at'+pad+4))=(sealB ((bs.drop at').take (at2-at'+pad))==((bs.drop at2).drop pad).take 4):=by
  unfold sealedB
  rw [hT,Nat.add_sub_cancel,List.take_take,Nat.min_eq_left (by omega)]
  congr 1
  rw [List.drop_take,List.drop_drop,List.drop_drop]
  congr 1
  ·omega
  congr 1;omega
 rw [e2]
 by_cases hs:sealB ((bs.drop at').take (at2-at'+pad))=((bs.drop at2).drop pad).take 4
 ·have e3:(sealB ((bs.drop at').take (at2-at'+pad))==((bs.drop at2).drop pad).take 4)=true:=beq_iff_eq.2 hs
  by_cases hpd:(bs.drop at2).take pad=List.replicate pad 0
  ·rw [if_neg (by rintro (k | k);exact k hpd;exact k hs),if_neg (by rintro (k | k);exact k hpd;exact k e3),List.drop_drop]
   rfl
  rw [if_pos (.inl hpd),if_pos (.inl hpd)]
 have e3:(sealB ((bs.drop at').take (at2-at'+pad))==((bs.drop at2).drop pad).take 4)≠true:=fun k=>hs (beq_iff_eq.1 k)
 rw [if_pos (.inr hs),if_pos (.inr e3)]
end
end Go.Proofs.YtffehfpbdcokbaaGreat
