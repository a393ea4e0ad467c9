import Derived.RangeFuncNested
import Derived.Test.YtffehfpbdcokbaaGreatFrm
import Derived.Test.YtffehfpbdcokbaaGreatBu19
set_option linter.unusedVariables false
set_option linter.unusedSimpArgs false
namespace Go.Proofs.YtffehfpbdcokbaaGreat
open Lib (hid)
open Go.RowKit
theorem Frm.putObj {S:Nat→Prop} {a w:World} (h:Frm S a w) {l:Nat} (hl:S l) (o:Obj):Frm S a (w.putObj l o) :=
 h.trans ⟨rfl,rfl,rfl,by simp,fun k _ hk=>World.putObj_heap_other (fun e=>hk (e▸hl))⟩
def AbN {α:Type} (J:(Nat→Prop)→List α→World→Prop):Prop:=∀ N N' pre A B,J N pre A→Frm N A B→(∀ q,N' q→N q∨(A.heap.size≤q∧q<B.heap.size))→J N' pre B
def AbL {α:Type} (D:Nat) (J:(Nat→Prop)→List α→World→Prop):Prop:=∀ N pre W l o o',D≤l→W.heap[l]?=some o→o.isCells=false→J N pre W→J N pre (W.putObj l o')
def SeqN {α:Type} (F:Fence) (n:Nat) (P:Program) (g:Nat) (bd:Array Value) (encs:α→Array Value) (Px:List α→α→World→Prop) (S:(Nat→Prop)→List α→World→Prop) (Sp:List α→Prop) (B0:Nat) (N0:Nat→Prop) (w:World):Prop :=
 ∀ (l:Nat) (J Jx:(Nat→Prop)→List α→World→Prop) (W:World),Frm (fun q=>¬ N0 q∧B0≤q) w W→AbN J →
  (∀ N pre x W1,J N pre W1→Px pre x W1→YieldAt F (n-1) P l (encs x) W1 fun e W' =>
    (e=.returned (.bool true)∧J N (pre++[x]) W'∧Frm (fun q=>¬ N q∧B0≤q) W1 W')∨(e=.returned (.bool false)∧Jx N (pre++[x]) W')) →
  J N0 [] W →
  CallsIn F n P g (bd++#[.func (.yield l) #[] #[]]) W fun e W'=>(∃ v,e=.returned v)∧((∃ N xs,S N xs W'∧J N xs W')∨(∃ N pre,Sp pre∧Jx N pre W'))
def ownPostN {α:Type} (D B0:Nat) (N:Nat→Prop) (I:(Nat→Prop)→List α→World→Prop) (Ix:Code→(Nat→Prop)→List α→World→Prop) (xs:List α) (W:World):Exit→Act→World→Prop
 | .normal,_,W'=>(W'.heap[D]?=W.heap[D]?∧W'.heap[D+1]?=W.heap[D+1]?)∧Frm (fun q=>¬ N q∧B0≤q) W W'∧I N xs W'
 | .ret,_,W'=>(W'.heap[D]?=W.heap[D]?∧W'.heap[D+1]?=W.heap[D+1]?)∧Ix .ret N xs W'
 | .exit id,_,W'=>(W'.heap[D]?=W.heap[D]?∧W'.heap[D+1]?=W.heap[D+1]?)∧Ix (.exit id) N xs W'
 | .goto t,_,W'=>(W'.heap[D]?=W.heap[D]?∧W'.heap[D+1]?=W.heap[D+1]?)∧Ix (.goto t) N xs W'
 | .panic _,_,_=>False
 | .outgrown,_,_=>False
variable {F : Fence} {n : Nat} {P : Program}
theorem wpIn_rangeFunc_ownW {α:Type} {g:Operand} {ps:Array Tmp} {assign body:Code} {Q:Exit→Act→World→Prop} {a:Act} {w:World}
 (hro:F.round=none) (h1:1≤n) {gf:Nat} {bd:Array Value} (hg:a.eval g=.func (.func gf) bd #[]) (hFg:F.fn gf) (eg:∀ args w,(callFunc gf args).run P w=.ok (.enter gf args) w)
 {encs:α→Array Value} {Px:List α→α→World→Prop} {S:(Nat→Prop)→List α→World→Prop} {Sp:List α→Prop} {B0:Nat} {N0:Nat→Prop} (hseq:SeqN F (n-1) P gf bd encs Px S Sp B0 N0 w)
 (hN0:∀ q,N0 q→q<w.heap.size) (hB0:B0≤w.heap.size) (hps:∀ x,(encs x).size=ps.size)
 (I:(Nat→Prop)→List α→World→Prop) (Ix:Code→(Nat→Prop)→List α→World→Prop) (hI:AbN I) (hS:AbL w.heap.size S) (hIl:AbL w.heap.size I) (hIxl:∀ c,AbL w.heap.size (Ix c)) (h0:I N0 [] ((w.alloc (.deferred (some []))).alloc (.loop default))) (a₁:α→Act)
 (hPx:∀ pre x W l o o',w.heap.size≤l→W.heap[l]?=some o→o.isCells=false→Px pre x W→Px pre x (W.putObj l o'))
 (hassign:∀ (l:Nat) (x:α) (W:World) (K:Act→World→Prop),K (a₁ x) W →
   assign.wpIn (F.inRound l) (n-1-1) P (Exit.then K (fun _ _ _=>False)) { tmps:=(ps.zip (encs x)).foldl (fun t (p,v)=>t.setIfInBounds p v) a.tmps,defers:=[] } W)
 (hbody:∀ (l:Nat) (N:Nat→Prop) (pre:List α) (x:α) (W:World),I N pre W→Px pre x W→¬ N w.heap.size→¬ N (w.heap.size+1)→W.heap[w.heap.size]?=some (.deferred (some []))→(∃ r,W.heap[w.heap.size+1]?=some (.loop r))→body.wpIn (F.inRound l) (n-1-1) P (ownPostN w.heap.size B0 N I Ix (pre++[x]) W) (a₁ x) W)
 (hdone:∀ (N:Nat→Prop) (xs:List α) (W:World),S N xs W→I N xs W→W.heap[w.heap.size]?=some (.deferred (some []))→Q .normal { a with defers:={ target:=.collected w.heap.size,args:=#[] }::a.defers } W)
 (hstop:∀ (c:Code) (N:Nat→Prop) (pre:List α) (W:World),Sp pre→Ix c N pre W→W.heap[w.heap.size]?=some (.deferred (some []))→c.wpIn F n P Q { a with defers:={ target:=.collected w.heap.size,args:=#[] }::a.defers } W) :
 (Code.rangeFunc g ps assign body).wpIn F n P Q a w:=by
 refine wpIn_rangeFunc ?_
 intro fn hfn
 rw [hro]
 obtain ⟨rec,hrec⟩:∃ rec:LoopState→Option Code→Loop,rec=fun st pe=>{ state:=st,pending:=pe,fn,tmps:=a.tmps,params:=ps,assign,body,defers:=w.heap.size }:=⟨_,rfl⟩
 obtain ⟨W1,hW1⟩:∃ W1,(w.alloc (.deferred (some []))).alloc (.loop (rec .ready none))=W1:=⟨_,rfl⟩
 have hL1:W1.heap[w.heap.size+1]?=some (.loop (rec .ready none)):=by
  rw [← hW1];have:=World.alloc_heap_new (w.alloc (.deferred (some []))) (.loop (rec .ready none));rwa [World.size_alloc] at this
 have hK1:W1.heap[w.heap.size]?=some (.deferred (some [])):=by
  rw [← hW1];exact (Below.heap_alloc _ _ _ (by simp)).trans (World.alloc_heap_new w _)
 have hI1:I N0 [] W1:=by
  have hL0:((w.alloc (.deferred (some []))).alloc (.loop default)).heap[w.heap.size+1]?=some (.loop default):=by
   have:=World.alloc_heap_new (w.alloc (.deferred (some []))) (.loop default);rwa [World.size_alloc] at this
  have h:=hIl N0 [] _ (w.heap.size+1) _ (.loop (rec .ready none)) (by omega) hL0 rfl h0
  have e:((w.alloc (.deferred (some []))).alloc (.loop default)).putObj (w.heap.size+1) (.loop (rec .ready none))=W1:=by
   rw [← hW1]
   simp only [World.putObj,World.alloc]
   congr 1
   apply Array.ext_getElem?
   intro i
   simp only [Array.getElem?_setIfInBounds,Array.getElem?_push,Array.size_push]
   repeat' split
   all_goals first | rfl | omega | simp_all
  rw [e] at h
  exact h
 have hb1:Frm (fun q=>¬ N0 q∧B0≤q) w W1:=by
  rw [← hW1];exact ((Frm.refl _ w).alloc _).alloc _
 refine ⟨w.heap.size+1,[{ target:=.collected w.heap.size,args:=#[] }],W1,{ target:=.fn (.func gf) #[],args:=bd++#[.func (.yield (w.heap.size+1)) #[] #[]] },W1,gf,
  bd++#[.func (.yield (w.heap.size+1)) #[] #[]],W1,?_,?_,?_,?_,fun _=>h1,?_⟩
 ·rw [← hW1,hrec];exact run_enterLoop_outer _ _ _ _ _
 ·simp only [resolve,hg]
  simp [go_sem]
 ·intro f' hf';simp [Target.leads] at hf';subst hf';exact hFg
 ·simp [invoke,go_sem,eg]
 refine (hseq (w.heap.size+1)
  (fun N pre W=>I N pre W∧¬ N w.heap.size∧¬ N (w.heap.size+1)∧W.heap[w.heap.size+1]?=some (.loop (rec .ready none))∧W.heap[w.heap.size]?=some (.deferred (some [])))
  (fun N pre W=>∃ c,Ix c N pre W∧¬ N w.heap.size∧¬ N (w.heap.size+1)∧W.heap[w.heap.size+1]?=some (.loop (rec .done (some c)))∧W.heap[w.heap.size]?=some (.deferred (some [])))
  W1 hb1 ?_ ?_ ⟨hI1,fun h=>by have:=hN0 _ h;omega,fun h=>by have:=hN0 _ h;omega,hL1,hK1⟩).mono ?_
 ·rintro N N' pre A B ⟨hi,hn1,hn2,hl,hk⟩ hf hN
  have l1:=(Array.getElem?_eq_some_iff.1 hl).1
  have l2:=(Array.getElem?_eq_some_iff.1 hk).1
  exact ⟨hI N N' pre A B hi hf hN,fun h=>by rcases hN _ h with h | h;exact hn1 h;omega,fun h=>by rcases hN _ h with h | h;exact hn2 h;omega,(hf.block _ l1 hn2).trans hl,(hf.block _ l2 hn1).trans hk⟩
 ·rintro N pre x W ⟨hi,hn1,hn2,hl,hk⟩ hpx
  have hlt:w.heap.size+1<W.heap.size:=(Array.getElem?_eq_some_iff.1 hl).1
  have hy:=run_yield (P:=P) (args:=encs x) hl (by rw [hrec];exact hps x)
  rw [hrec] at hy
  refine ⟨fn,_,assign,body,hy,roundIn_of_wpIn hfn (hassign _ x W _ ⟨_,run_beginRound hl (by rw [hrec]),?_⟩)⟩
  obtain ⟨W2,hW2⟩:∃ W2,W.putObj (w.heap.size+1) (.loop { rec .ready none with state:=.busy })=W2:=⟨_,rfl⟩
  have hl2:W2.heap[w.heap.size+1]?=some (.loop { rec .ready none with state:=.busy }):=by rw [← hW2];exact World.putObj_heap_same hlt
  have hk2:W2.heap[w.heap.size]?=some (.deferred (some [])):=by rw [← hW2];exact (World.putObj_heap_other (by omega)).trans hk
  have hf2:Frm (fun q=>¬ N q∧B0≤q) W W2:=by rw [← hW2];exact (Frm.refl _ W).putObj (S:=fun q=>¬ N q∧B0≤q) ⟨hn2,by omega⟩ _
  have hi2:I N pre W2:=by rw [← hW2];exact hIl N pre W _ _ _ (by omega) hl rfl hi
  have hp2:Px pre x W2:=by rw [← hW2];exact hPx pre x W _ _ _ (by omega) hl rfl hpx
  have hlt2:w.heap.size+1<W2.heap.size:=(Array.getElem?_eq_some_iff.1 hl2).1
  rw [hW2]
  refine wpIn_mono (hbody _ N pre x _ hi2 hp2 hn1 hn2 hk2 ⟨_,hl2⟩) ?_
  have fin:∀ (jump:Option Code) (W3:World),(W3.heap[w.heap.size]?=W2.heap[w.heap.size]?∧W3.heap[w.heap.size+1]?=W2.heap[w.heap.size+1]?) →
   (Instr.endRound (w.heap.size+1) jump).run P W3=.ok (.bool jump.isNone) (W3.putObj (w.heap.size+1) (.loop (rec (if jump.isNone then .ready else .done) jump))) ∧
   W3.heap[w.heap.size+1]?=some (.loop { rec .ready none with state:=.busy }) ∧
   (W3.putObj (w.heap.size+1) (.loop (rec (if jump.isNone then .ready else .done) jump))).heap[w.heap.size+1]?=some (.loop (rec (if jump.isNone then .ready else .done) jump)) ∧
   (W3.putObj (w.heap.size+1) (.loop (rec (if jump.isNone then .ready else .done) jump))).heap[w.heap.size]?=some (.deferred (some [])):=fun jump W3 hk3=>by
   have hl3:=hk3.2.trans hl2
   have:=run_endRound (P:=P) jump hl3
   rw [hrec] at this ⊢
   exact ⟨this,by rw [hrec] at hl3;exact hl3,World.putObj_heap_same (Array.getElem?_eq_some_iff.1 hl3).1,(World.putObj_heap_other (by omega)).trans (hk3.1.trans hk2)⟩
  rintro e a3 W3 hp
  cases e with
  | normal =>
   obtain ⟨hk3,hkp3,hi3⟩:=hp
   obtain ⟨hr,hl3,hl4,hk4⟩:=fin none W3 hk3
   exact ⟨_,_,hr,.inl ⟨rfl,⟨hIl _ _ _ _ _ _ (by omega) hl3 rfl hi3,hn1,hn2,hl4,hk4⟩,(hf2.trans hkp3).putObj (S:=fun q=>¬ N q∧B0≤q) ⟨hn2,by omega⟩ _⟩⟩
  | ret =>
   obtain ⟨hk3,hi3⟩:=hp
   obtain ⟨hr,hl3,hl4,hk4⟩:=fin (some .ret) W3 hk3
   exact ⟨_,_,hr,.inr ⟨rfl,.ret,hIxl _ _ _ _ _ _ _ (by omega) hl3 rfl hi3,hn1,hn2,hl4,hk4⟩⟩
  | exit id =>
   obtain ⟨hk3,hi3⟩:=hp
   obtain ⟨hr,hl3,hl4,hk4⟩:=fin (some (.exit id)) W3 hk3
   exact ⟨_,_,hr,.inr ⟨rfl,.exit id,hIxl _ _ _ _ _ _ _ (by omega) hl3 rfl hi3,hn1,hn2,hl4,hk4⟩⟩
  | goto t =>
   obtain ⟨hk3,hi3⟩:=hp
   obtain ⟨hr,hl3,hl4,hk4⟩:=fin (some (.goto t)) W3 hk3
   exact ⟨_,_,hr,.inr ⟨rfl,.goto t,hIxl _ _ _ _ _ _ _ (by omega) hl3 rfl hi3,hn1,hn2,hl4,hk4⟩⟩
  | panic ch=>exact hp.elim
  | outgrown=>exact hp.elim
 rintro e W2 ⟨⟨v,rfl⟩,(⟨N,xs,hSx,hi,hn1,hn2,hl,hk⟩ | ⟨N,pre,hSp,c,hi,hn1,hn2,hl,hk⟩)⟩
 ·exact ⟨none,_,by have:=run_endLoop (P:=P) hl (by rw [hrec];simp);rw [hrec] at this;exact this,hdone N xs _ (hS _ _ _ _ _ _ (by omega) hl rfl hSx) (hIl _ _ _ _ _ _ (by omega) hl rfl hi) ((World.putObj_heap_other (by omega)).trans hk)⟩
 exact ⟨some c,_,by have:=run_endLoop (P:=P) hl (by rw [hrec];simp);rw [hrec] at this;exact this,hstop c N pre _ hSp (hIxl _ _ _ _ _ _ _ (by omega) hl rfl hi) ((World.putObj_heap_other (by omega)).trans hk)⟩
open Go.RowKit Rng Win Lz
def evGo (S most:Nat):Nat→DS→Nat→List UInt8→List (List UInt8×Nat)×Option (List UInt8)
 | 0,_,_,_=>([([],10)],none)
 | f+1,x,told,src =>
  match one S x src with
  | .err e=>([([],e)],none)
  | .fin rest=>([],some rest)
  | .told b y rest=>if most<told+b.length then ([([],3)],none) else ((b,0)::(evGo S most f { y with total:=y.total+b.length } (told+b.length) rest).1,(evGo S most f { y with total:=y.total+b.length } (told+b.length) rest).2)
def evOut (l:List (List UInt8×Nat)):List UInt8:=(l.map (·.1)).flatten
def evErr (l:List (List UInt8×Nat)):Nat:=((l.map (·.2)).find? (· ≠ 0)).getD 0
theorem one_err {S:Nat} {x:DS} {src:List UInt8} {e:Nat} (h:one S x src=.err e):e≠0:=by
 unfold one oneBody oneLz at h
 repeat' split at h
 all_goals first | (cases h;done) | (injection h with h;omega)
theorem evGo_d2Go (S most:Nat):∀ (f:Nat) (x:DS) (out src:List UInt8),d2Go S most f x out src=(out++evOut (evGo S most f x out.length src).1,match (evGo S most f x out.length src).2 with | none=>.inl (evErr (evGo S most f x out.length src).1) | some r=>.inr r)
 | 0,x,out,src=>by simp [d2Go,evGo,evOut,evErr]
 | f+1,x,out,src=>by
  unfold d2Go evGo
  cases h:one S x src with
  | err e =>
   have:=one_err h
   simp [evOut,evErr,this]
  | fin rest=>simp [evOut]
  | told b y rest =>
   simp only
   by_cases hm:most<out.length+b.length
   ·simp [hm,evOut,evErr]
   rw [if_neg hm,if_neg hm]
   have ih:=evGo_d2Go S most f { y with total:=y.total+b.length } (out++b) rest
   rw [List.length_append] at ih
   rw [ih]
   simp [evOut,evErr]
theorem evGo_ok (S most:Nat):∀ (f:Nat) (x:DS) (told:Nat) (src:List UInt8),(∃ l b e,(evGo S most f x told src).1=l++[(b,e)]∧e≠0∧b=[]∧(evGo S most f x told src).2=none∧∀ p∈l,p.2=0)∨((∃ r,(evGo S most f x told src).2=some r)∧∀ p∈(evGo S most f x told src).1,p.2=0)
 | 0,_,_,_=>.inl ⟨[],[],10,rfl,by decide,rfl,rfl,fun _ h=>by cases h⟩
 | f+1,x,told,src=>by
  unfold evGo
  cases h:one S x src with
  | err e=>exact .inl ⟨[],[],e,rfl,one_err h,rfl,rfl,fun _ h=>by cases h⟩
  | fin rest=>exact .inr ⟨⟨rest,rfl⟩,fun _ h=>by cases h⟩
  | told b y rest =>
   simp only
   by_cases hm:most<told+b.length
   ·rw [if_pos hm]
    exact .inl ⟨[],[],3,rfl,by decide,rfl,rfl,fun _ h=>by cases h⟩
   rw [if_neg hm]
   rcases evGo_ok S most f { y with total:=y.total+b.length } (told+b.length) rest with ⟨l,b2,e2,h1,h2,h3,h4,h5⟩ | ⟨⟨r,h1⟩,h2⟩
   ·exact .inl ⟨(b,0)::l,b2,e2,by simp only [h1];rfl,h2,h3,h4,fun p hp=>by
     rcases List.mem_cons.1 hp with e | e
     ·rw [e]
     exact h5 p e⟩
   exact .inr ⟨⟨r,h1⟩,fun p hp=>by
    rcases List.mem_cons.1 hp with e | e
    ·rw [e]
    exact h2 p e⟩
theorem body_facts {S:Nat} {x y:DS} {c:Nat} {h r b rest:List UInt8} (hst:x.st<12∧∀ j,x.rep j<4294967296) (hb:oneBody S x c h r=.told b y rest):y.total≤x.total∧b.length≤2097152∧rest.length≤r.length:=by
 have hd:=dict_total x c
 unfold oneBody at hb
 split at hb
 ·split at hb
  ·cases hb
  injection hb with h1 h2 h3
  subst h1 h2 h3
  have:=twoB_le h 1
  refine ⟨hd,by rw [List.length_take];omega,by rw [List.length_drop];omega⟩
 split at hb
 ·cases hb
 split at hb
 ·cases hb
 unfold oneLz at hb
 have hs:∀ p,((x.dict c).set c p).st<12∧(∀ j,((x.dict c).set c p).rep j<4294967296)∧((x.dict c).set c p).total≤x.total:=by
  intro p
  unfold DS.set DS.dict DS.reset DS.clear
  repeat' split
  all_goals first | exact ⟨hst.1,hst.2,Nat.le_refl _⟩ | exact ⟨hst.1,hst.2,Nat.zero_le _⟩ | exact ⟨(show (0:Nat)<12 by decide),fun _=>(show (0:Nat)<4294967296 by decide),Nat.le_refl _⟩ | exact ⟨(show (0:Nat)<12 by decide),fun _=>(show (0:Nat)<4294967296 by decide),Nat.zero_le _⟩
 obtain ⟨s1,s2,s3⟩:=hs (h.getD 5 0).toNat
 split at hb
 ·cases hb
 rename_i t z hz
 injection hb with h1 h2 h3
 subst h1 h2 h3
 have hi:=chunkOf_inv s1 s2 hz
 have:=twoB_le h 1
 refine ⟨s3,by rw [hi.2];omega,by rw [List.length_drop];omega⟩
end Go.Proofs.YtffehfpbdcokbaaGreat
