import Derived.Defers
import Derived.Recover
import Derived.Test.YtablgjhnpphodaaGreatBu1
import Derived.Test.YtablgjhnpphodaaGreatBu3
import Derived.Test.YtablgjhnpphodaaGreatBu5
import Derived.Test.YtablgjhnpphodaaGreatBu6
set_option linter.unusedVariables false
set_option linter.unusedSimpArgs false
namespace Go.Proofs.YtablgjhnpphodaaGreat
open Lib (hid)
open Go.RowKit Box
namespace Box
def recsB (l:List (Nat×Nat)):List UInt8:=l.flatMap fun p=>put p.1++put p.2
theorem recsB_len:∀ l:List (Nat×Nat),(recsB l).length≤18*l.length
 | []=>by simp [recsB]
 | p::l=>by
  have h:=recsB_len l
  have h1:=put_len p.1
  have h2:=put_len p.2
  have e:recsB (p::l)=(put p.1++put p.2)++recsB l:=rfl
  rw [e,List.length_append,List.length_append,List.length_cons]
  omega
def headB (l:List (Nat×Nat)):List UInt8:=0::put l.length
def sealOn (p:List UInt8):List UInt8:=p++sealB p
theorem sealB_len (p:List UInt8):(sealB p).length=4:=rfl
theorem sealed_seal (p:List UInt8):sealedB (sealOn p)=true:=by
 unfold sealedB sealOn
 rw [List.length_append,sealB_len,Nat.add_sub_cancel,List.take_left,List.drop_left]
 simp
end Box
open Go.RowKit Rng Win Lz Box
theorem go_more_err (S most:Nat) (q:List UInt8) {e:Nat} (he:e≠10):∀ (f g:Nat) (x:DS) (out src:List UInt8) (T:List UInt8),src.length<f→src.length<g→d2Go S most f x out src=(T,.inl e)→d2Go S most g x out (src++q)=(T,.inl e)
 | 0,_,_,_,_,_,h,_,_=>absurd h (by omega)
 | _,0,_,_,_,_,_,h,_=>absurd h (by omega)
 | f+1,g+1,x,out,src,T,hf,hg,h=>by
  unfold d2Go at h ⊢
  have hm:=one_more S x src q
  cases ho:one S x src with
  | err z =>
   rw [ho] at h hm
   simp only [Prod.mk.injEq,Sum.inl.injEq] at h
   rw [hm (by simp only [ne_eq,OneR.err.injEq];omega)]
   simp only [OneR.more,Prod.mk.injEq,Sum.inl.injEq]
   exact h
  | fin rest =>
   rw [ho] at h
   simp only [Prod.mk.injEq,reduceCtorEq,and_false] at h
  | told b y rest =>
   obtain ⟨m,hm1,hm2,hr⟩:=(one_front S x src).1 b y rest ho
   rw [ho] at h hm
   rw [hm (by simp)]
   simp only [OneR.more] at h ⊢
   by_cases hl:most<out.length+b.length
   ·rw [if_pos hl] at h ⊢
    exact h
   rw [if_neg hl] at h ⊢
   have hrl:rest.length=src.length-m:=by rw [hr,List.length_drop]
   exact go_more_err S most q he f g _ _ rest T (by omega) (by omega) h
theorem go_fuel (S most:Nat):∀ (f g:Nat) (x:DS) (out src:List UInt8),src.length<f→src.length<g→d2Go S most f x out src=d2Go S most g x out src
 | 0,_,_,_,_,h,_=>absurd h (by omega)
 | _,0,_,_,_,_,h=>absurd h (by omega)
 | f+1,g+1,x,out,src,hf,hg=>by
  unfold d2Go
  cases ho:one S x src with
  | err z=>rfl
  | fin rest=>rfl
  | told b y rest =>
   obtain ⟨m,hm1,hm2,hr⟩:=(one_front S x src).1 b y rest ho
   simp only
   split
   ·rfl
   exact go_fuel S most f g _ _ rest (by rw [hr,List.length_drop];omega) (by rw [hr,List.length_drop];omega)
def sumMore (R:List UInt8×(Nat ⊕ List UInt8)) (q:List UInt8):List UInt8×(Nat ⊕ List UInt8) :=
 match R with
 | (T,.inl e)=>(T,.inl e)
 | (T,.inr r)=>(T,.inr (r++q))
theorem d2P_more (S most:Nat) (src q:List UInt8) (h:∀ T,d2P S most src≠(T,.inl 10)):d2P S most (src++q)=sumMore (d2P S most src) q:=by
 cases hd:d2P S most src with
 | mk T R =>
  cases R with
  | inl e =>
   have he:e≠10:=fun e2=>h T (by rw [hd,e2])
   exact go_more_err S most q he (src.length+1) ((src++q).length+1) newDS [] src T (by omega) (by rw [List.length_append];omega) hd
  | inr r=>exact go_more S most q (src.length+1) ((src++q).length+1) newDS [] src T r (by omega) (by rw [List.length_append];omega) hd
theorem d2P_front {S most:Nat} {src T r:List UInt8} (h:d2P S most src=(T,.inr r)):∃ p,src=p++r∧1≤p.length∧d2P S most p=(T,.inr []):=by
 obtain ⟨p,h1,h2,h3⟩:=go_exact S most (src.length+1) (src.length+1) newDS [] src T r (by omega) (by omega) h
 refine ⟨p,h1,h2,?_⟩
 unfold d2P
 have:=congrArg List.length h1
 rw [List.length_append] at this
 rw [go_fuel S most (p.length+1) (src.length+1) newDS [] p (by omega) (by omega)]
 exact h3
theorem d2Go_len (S most:Nat):∀ (f:Nat) (x:DS) (out src:List UInt8),out.length≤most→(d2Go S most f x out src).1.length≤most
 | 0,_,_,_,h=>h
 | f+1,x,out,src,h=>by
  unfold d2Go
  cases one S x src with
  | err z=>exact h
  | fin rest=>exact h
  | told b y rest =>
   simp only
   split
   ·exact h
   exact d2Go_len S most f _ _ rest (by rw [List.length_append];omega)
theorem d2P_len (S most:Nat) (src:List UInt8):(d2P S most src).1.length≤most:=d2Go_len S most _ _ _ _ (Nat.zero_le _)
def leB (x:Nat):Nat→List UInt8
 | 0=>[]
 | n+1=>UInt8.ofNat x::leB (x / 256) n
theorem leB_len:∀ (n x:Nat),(leB x n).length=n
 | 0,_=>rfl
 | n+1,x=>by unfold leB;rw [List.length_cons,leB_len]
def chkLen (k:Int):Nat:=if k=1 then 4 else if k=4 then 8 else 0
def chkB (k:Int) (bs:List UInt8):List UInt8:=if k=1 then leB (crc32 bs) 4 else if k=4 then leB (crc64 bs) 8 else []
theorem chkB_len (k:Int) (bs:List UInt8):(chkB k bs).length=chkLen k:=by
 unfold chkB chkLen
 repeat' split
 all_goals first | rfl | exact leB_len _ _
def padOf (n:Nat):Nat:=(4-n % 4) % 4
inductive BlkE
 | err (e:Nat) (out:List UInt8)
 | ok (out:List UInt8) (rec:Nat×Nat) (rest:List UInt8)
def hdLen (src:List UInt8):Nat:=((src.getD 0 0).toNat+1)*4
def xTail (R:BlkR) (kind:Int) (hl u:Nat) (out rest:List UInt8):BlkE :=
 if (R.2.2.1≠M64'∧R.2.2.1≠u)∨(R.2.2.2.1≠M64'∧R.2.2.2.1≠out.length) then .err 11 out
 else if rest.length<padOf (hl+u)+chkLen kind then .err 10 out
 else if rest.take (padOf (hl+u))≠List.replicate (padOf (hl+u)) 0∨(rest.drop (padOf (hl+u))).take (chkLen kind)≠chkB kind out then .err 11 out
 else .ok out (hl+u+chkLen kind,out.length) (rest.drop (padOf (hl+u)+chkLen kind))
def xBody (budget:Nat) (kind:Int) (told:Nat) (R:BlkR) (hl:Nat) (src:List UInt8):BlkE :=
 if R.2.2.2.2≠0 then .err R.2.2.2.2.toNat []
 else if (budget:Int)<R.1 then .err 40 []
 else match d2P (max R.1.toNat 4096) (16777216-told) src with
  | (out,.inl e)=>.err e out
  | (out,.inr rest)=>xTail R kind hl (src.length-rest.length) out rest
def xBlock (budget:Nat) (kind:Int) (told:Nat) (src:List UInt8):BlkE :=
 if src.length<hdLen src then .err 10 [] else xBody budget kind told (blockOf (src.take (hdLen src))) (hdLen src) (src.drop (hdLen src))
def xNum (want:Nat) (src:List UInt8):Nat ⊕ List UInt8 :=
 if (number src).2.2≠0 then .inl (number src).2.2.toNat else if (number src).1≠want then .inl 11 else .inr (src.drop (number src).2.1)
def xNums:List Nat→List UInt8→Nat ⊕ List UInt8
 | [],s=>.inr s
 | n::l,s=>match xNum n s with
  | .inl e=>.inl e
  | .inr r=>xNums l r
def recN (recs:List (Nat×Nat)):List Nat:=recs.length::recs.flatMap fun p=>[p.1,p.2]
def xIndex (recs:List (Nat×Nat)) (src:List UInt8):Nat ⊕ (Nat×List UInt8) :=
 match xNums (recN recs) (src.drop 1) with
 | .inl e=>.inl e
 | .inr r =>
  if r.length<padOf (src.length-r.length)+4 then .inl 10
  else if r.take (padOf (src.length-r.length))≠List.replicate (padOf (src.length-r.length)) 0∨sealB (src.take (src.length-r.length+padOf (src.length-r.length)))≠(r.drop (padOf (src.length-r.length))).take 4 then .inl 11
  else .inr (src.length-r.length+padOf (src.length-r.length)+4,r.drop (padOf (src.length-r.length)+4))
def xBlocks (budget:Nat) (kind:Int):Nat→List (Nat×Nat)→List UInt8→List UInt8→List UInt8×(Nat ⊕ (List (Nat×Nat)×List UInt8))
 | 0,_,out,_=>(out,.inl 10)
 | f+1,recs,out,src =>
  if src.length<1 then (out,.inl 10)
  else if src.getD 0 0=0 then (out,.inr (recs,src))
  else match xBlock budget kind out.length src with
   | .err e o=>(out++o,.inl e)
   | .ok o r rest=>xBlocks budget kind f (recs++[r]) (out++o) rest
def xEnd (kind:Int) (out:List UInt8) (recs:List (Nat×Nat)) (src:List UInt8):List UInt8×(Nat ⊕ List UInt8) :=
 match xIndex recs src with
 | .inl e=>(out,.inl e)
 | .inr (size,r) =>
  if r.length<12 then (out,.inl 10)
  else if (footOf (r.take 12)).2.2≠0 then (out,.inl (footOf (r.take 12)).2.2.toNat)
  else if (footOf (r.take 12)).1≠kind∨(footOf (r.take 12)).2.1≠size then (out,.inl 11)
  else (out,.inr (r.drop 12))
def xMem (budget:Nat) (src:List UInt8):List UInt8×(Nat ⊕ List UInt8) :=
 if src.length<12 then ([],.inl 10)
 else if (headOf (src.take 12)).2≠0 then ([],.inl (headOf (src.take 12)).2.toNat)
 else match xBlocks budget (headOf (src.take 12)).1 (src.length+1) [] [] (src.drop 12) with
  | (out,.inl e)=>(out,.inl e)
  | (out,.inr (recs,s))=>xEnd (headOf (src.take 12)).1 out recs s
def dropPad:Nat→List UInt8→List UInt8
 | 0,s=>s
 | f+1,s=>if 4≤s.length∧s.take 4=[0,0,0,0] then dropPad f (s.drop 4) else s
def xP (budget:Nat) (src:List UInt8):List UInt8×(Nat ⊕ List UInt8) :=
 match xMem budget src with
 | (out,.inl e)=>(out,.inl e)
 | (out,.inr r)=>(out,.inr (dropPad r.length r))
open Go.RowKit Rng Win Lz Box
theorem hdLen_pos (src:List UInt8):4≤hdLen src:=by unfold hdLen;omega
theorem scan_more (q:List UInt8):∀ (bs:List UInt8) (i n:Nat),(scan i n bs).2.2≠10→scan i n (bs++q)=scan i n bs
 | [],i,n,h=>absurd rfl h
 | c::r,i,n,h=>by
  rw [List.cons_append]
  unfold scan at h ⊢
  split
  ·rfl
  rename_i h1
  rw [if_neg h1] at h
  split
  ·rfl
  rename_i h2
  rw [if_neg h2] at h
  exact scan_more q r _ _ h
theorem number_more {bs:List UInt8} (q:List UInt8) (h:(number bs).2.2≠10):number (bs++q)=number bs:=scan_more q bs 0 0 h
theorem number_used {bs:List UInt8} (h:(number bs).2.2=0):1≤(number bs).2.1∧(number bs).2.1≤bs.length:=by
 obtain ⟨v,k,h1,h2,h3,h4,_⟩:=scan_back bs 0 0 (number bs).1 (number bs).2.1 (by omega) (by unfold number at h ⊢;rw [← h])
 omega
theorem xTail_front {R:BlkR} {kind:Int} {hl u:Nat} {out rest o rest':List UInt8} {r:Nat×Nat} (h:xTail R kind hl u out rest=.ok o r rest'):o=out∧r=(hl+u+chkLen kind,out.length)∧padOf (hl+u)+chkLen kind≤rest.length∧rest'=rest.drop (padOf (hl+u)+chkLen kind) ∧
 xTail R kind hl u out (rest.take (padOf (hl+u)+chkLen kind))=.ok out r []:=by
 unfold xTail at h ⊢
 by_cases h1:(R.2.2.1≠M64'∧R.2.2.1≠u)∨(R.2.2.2.1≠M64'∧R.2.2.2.1≠out.length)
 ·rw [if_pos h1] at h;cases h
 rw [if_neg h1] at h ⊢
 by_cases h2:rest.length<padOf (hl+u)+chkLen kind
 ·rw [if_pos h2] at h;cases h
 rw [if_neg h2] at h
 have hl2:(rest.take (padOf (hl+u)+chkLen kind)).length=padOf (hl+u)+chkLen kind:=by rw [List.length_take];omega
 rw [if_neg (by omega),List.take_take,List.drop_take,List.take_take,show min (padOf (hl+u)) (padOf (hl+u)+chkLen kind)=padOf (hl+u) by omega,show min (chkLen kind) (padOf (hl+u)+chkLen kind-padOf (hl+u))=chkLen kind by omega]
 by_cases h3:rest.take (padOf (hl+u))≠List.replicate (padOf (hl+u)) 0∨(rest.drop (padOf (hl+u))).take (chkLen kind)≠chkB kind out
 ·rw [if_pos h3] at h;cases h
 rw [if_neg h3] at h ⊢
 injection h with h4 h5 h6
 refine ⟨h4.symm,h5.symm,by omega,h6.symm,?_⟩
 rw [← h5,List.drop_of_length_le (by omega)]
theorem xBody_front {budget:Nat} {kind:Int} {told:Nat} {R:BlkR} {hl:Nat} {src o rest:List UInt8} {r:Nat×Nat} (h:xBody budget kind told R hl src=.ok o r rest):∃ m,1≤m∧m≤src.length∧rest=src.drop m∧xBody budget kind told R hl (src.take m)=.ok o r []:=by
 unfold xBody at h ⊢
 by_cases h1:R.2.2.2.2≠0
 ·rw [if_pos h1] at h;cases h
 rw [if_neg h1] at h
 by_cases h2:(budget:Int)<R.1
 ·rw [if_pos h2] at h;cases h
 rw [if_neg h2] at h
 cases hd:d2P (max R.1.toNat 4096) (16777216-told) src with
 | mk T Rr =>
  rw [hd] at h
  cases Rr with
  | inl e=>cases h
  | inr t =>
   simp only at h
   obtain ⟨p,p1,p2,p3⟩:=d2P_front hd
   have hl1:=congrArg List.length p1
   rw [List.length_append] at hl1
   rw [show src.length-t.length=p.length by omega] at h
   obtain ⟨e1,e2,e3,e4,e5⟩:=xTail_front h
   refine ⟨p.length+(padOf (hl+p.length)+chkLen kind),by omega,by omega,?_,?_⟩
   ·have hdp:p.drop (p.length+(padOf (hl+p.length)+chkLen kind))=[]:=List.drop_of_length_le (by omega)
    rw [e4,p1,List.drop_append,hdp,List.nil_append,Nat.add_sub_cancel_left]
   have ht:src.take (p.length+(padOf (hl+p.length)+chkLen kind))=p++t.take (padOf (hl+p.length)+chkLen kind):=by
    rw [p1,List.take_append,List.take_of_length_le (by omega),Nat.add_sub_cancel_left]
   rw [ht,if_neg h1,if_neg h2,d2P_more _ _ _ _ (fun T2 e=>by rw [p3] at e;simp at e),p3]
   simp only [sumMore,List.nil_append]
   rw [show (p++t.take (padOf (hl+p.length)+chkLen kind)).length-(t.take (padOf (hl+p.length)+chkLen kind)).length=p.length by rw [List.length_append];omega,e5,e1]
theorem xBlock_front {budget:Nat} {kind:Int} {told:Nat} {src o rest:List UInt8} {r:Nat×Nat} (h:xBlock budget kind told src=.ok o r rest):∃ m,1≤m∧m≤src.length∧rest=src.drop m∧xBlock budget kind told (src.take m)=.ok o r []:=by
 unfold xBlock at h
 by_cases h1:src.length<hdLen src
 ·rw [if_pos h1] at h;cases h
 rw [if_neg h1] at h
 have h4:=hdLen_pos src
 obtain ⟨m,m1,m2,m3,m4⟩:=xBody_front h
 rw [List.length_drop] at m2
 refine ⟨hdLen src+m,by omega,by omega,by rw [m3,List.drop_drop],?_⟩
 have e1:hdLen (src.take (hdLen src+m))=hdLen src:=by unfold hdLen;rw [getD_takeU src (by omega)]
 have e2:(src.take (hdLen src+m)).length=hdLen src+m:=by rw [List.length_take];omega
 unfold xBlock
 rw [e1,if_neg (by omega),List.take_take,show min (hdLen src) (hdLen src+m)=hdLen src by omega,List.drop_take,show hdLen src+m-hdLen src=m by omega]
 exact m4
open Go.RowKit Box
theorem xNums_cons (n:Nat) (l:List Nat) (s:List UInt8):xNums (n::l) s=match xNum n s with | .inl e=>(Sum.inl e:Nat ⊕ List UInt8) | .inr r=>xNums l r:=rfl
theorem xNums_one (n:Nat) (s:List UInt8):xNums [n] s=xNum n s:=by
 rw [xNums_cons]
 cases xNum n s <;> rfl
theorem xNums_snoc (n:Nat):∀ (l:List Nat) (s:List UInt8),xNums (l++[n]) s=match xNums l s with | .inl e=>(Sum.inl e:Nat ⊕ List UInt8) | .inr r=>xNum n r
 | [],s=>xNums_one n s
 | m::l,s=>by
  rw [List.cons_append,xNums_cons,xNums_cons]
  cases xNum m s with
  | inl e=>rfl
  | inr r=>exact xNums_snoc n l r
theorem xNums_stop {e:Nat}:∀ (l m:List Nat) (s:List UInt8),xNums l s=.inl e→xNums (l++m) s=.inl e
 | [],m,s,h=>by cases h
 | n::l,m,s,h=>by
  rw [List.cons_append,xNums_cons]
  rw [xNums_cons] at h
  cases hx:xNum n s with
  | inl z=>rw [hx] at h;exact h
  | inr r=>rw [hx] at h;exact xNums_stop l m r h
theorem recN_len (recs:List (Nat×Nat)):(recN recs).length=1+2*recs.length:=by
 unfold recN
 rw [List.length_cons]
 have:∀ l:List (Nat×Nat),(l.flatMap fun p=>[p.1,p.2]).length=2*l.length:=by
  intro l
  induction l with
  | nil=>rfl
  | cons a l ih=>rw [List.flatMap_cons,List.length_append,ih];simp;omega
 rw [this];omega
theorem recN_at:∀ (l:List (Nat×Nat)) (k:Nat),k<l.length→(l.flatMap fun p=>[p.1,p.2])[2*k]?=some (l.getD k (0,0)).1∧(l.flatMap fun p=>[p.1,p.2])[2*k+1]?=some (l.getD k (0,0)).2
 | [],k,h=>absurd h (by simp)
 | s::l,0,_=>by simp
 | s::l,k+1,h=>by
  have ih:=recN_at l k (by simpa using h)
  rw [show 2*(k+1)=2*k+1+1 by omega]
  simpa using ih
theorem recN_take (recs:List (Nat×Nat)) {k j:Nat} (hk:k<recs.length) (hj:j<2) {want:Nat} (hw:want=if j=0 then (recs.getD k (0,0)).1 else (recs.getD k (0,0)).2) :
 (recN recs).take (1+2*k+j+1)=(recN recs).take (1+2*k+j)++[want]:=by
 obtain ⟨h0,h1⟩:=recN_at recs k hk
 have hx:(recN recs)[1+2*k+j]?=some want:=by
  unfold recN
  rw [show 1+2*k+j=(2*k+j)+1 by omega,List.getElem?_cons_succ]
  by_cases h:j=0
  ·subst h;rw [if_pos rfl] at hw;rw [hw];exact h0
  rw [if_neg h] at hw
  obtain rfl:j=1:=by omega
  rw [hw];exact h1
 rw [List.take_add_one,hx]
 rfl
theorem xNum_z {want:Nat} {s:List UInt8} {e:Nat} (h:xNum want s=.inl e):e≠0:=by
 unfold xNum at h
 by_cases h0:(number s).2.2≠0
 ·rw [if_pos h0] at h
  injection h with h
  rcases number_err s with h1 | h1 | h1
  ·exact absurd h1 h0
  ·rw [h1] at h;rw [← h];decide
  rw [h1] at h;rw [← h];decide
 rw [if_neg h0] at h
 by_cases h1:(number s).1≠want
 ·rw [if_pos h1] at h;injection h with h;omega
 rw [if_neg h1] at h;cases h
structure IxR (w:World) (fb cb un B0:Nat) (bs got r:List UInt8) (v:Value) (W:World):Prop where
 s:∃ A n c used,SrcAt W fb A n c used∧used+n=un∧BRow W B0 A r∧n=r.length∧n≤c∧c≤maxLen
 p:Pts W cb #[v] 27
 o:OwnB W 5 w.heap.size v got
 f:Frm (· = fb) w W
 e:got++r=bs
theorem IxR.still {w W W':World} {fb cb un B0:Nat} {bs got r:List UInt8} {v:Value} (h:IxR w fb cb un B0 bs got r v W) (hB0:B0≤w.heap.size) (hb:Below W.heap.size W W'):IxR w fb cb un B0 bs got r v W':=by
 obtain ⟨A,n,c,used,h1,h2,h3,h4⟩:=h.s
 exact ⟨⟨A,n,c,used,Pts.below h1 hb (Pts.lt h1),h2,h3.below (hb.mono (Nat.le_trans hB0 h.f.size)),h4⟩,h.p.below hb h.p.lt,h.o.frm (S:=fun _=>False) (Frm.of_below hb) (fun _ _ h=>h),h.f.trans (Frm.of_below hb),h.e⟩
def NumEnd (w:World) (fb cb un B0:Nat) (bs r:List UInt8) (want:Nat) (e:Ending) (W':World):Prop :=
 ∃ z:Nat,e=.returned (.int .i64 (z:Int))∧(z=0→∃ got' r' v',xNum want r=.inr r'∧IxR w fb cb un B0 bs got' r' v' W')∧(z≠0→xNum want r=.inl z∧Frm (· = fb) w W')
theorem number_nat {s:List UInt8}:(number s).2.2=(((number s).2.2.toNat:Nat):Int):=by
 rcases number_err s with h1 | h1 | h1 <;> rw [h1] <;> rfl
theorem num_step (rb fb bud cb un B0:Nat) (put hold:Value) (kind:Int) (told:Nat) (lv v:Value) (want:Nat) (bs got r:List UInt8) (w W:World) (hr:RxAt w rb fb bud put hold kind told lv) (hne:rb≠fb)
 (hx:IxR w fb cb un B0 bs got r v W) (hB0:B0≤w.heap.size∧B0≤fb) (hcb:w.heap.size≤cb) (hub:un≤4611686018427387904) (hl:bs.length≤140737488355328) :
 Calls Tryz.prog 65 #[.pointer (some ⟨rb,0,none⟩),.pointer (some ⟨cb,0,none⟩),.int .u64 want] W (NumEnd w fb cb un B0 bs r want):=by
 obtain ⟨A,n,c,used,hs,hun,hrow,hn,hc,hcm⟩:=hx.s
 have hr':RxAt W rb fb bud put hold kind told lv:=Pts.frm hr hx.f hne
 have hcf:cb≠fb:=hx.p.ne_of hs (by decide)
 have hlen:=congrArg List.length hx.e
 rw [List.length_append] at hlen
 refine (xnumber_p rb fb bud cb w.heap.size B0 put hold kind told lv v A n c used want r got W hr' hs hn hrow ⟨Nat.le_trans hB0.1 hx.f.size,hB0.2⟩ hc hcm (by omega) hx.p hx.o hx.f.size hcf (by omega) ?_).mono ?_
 ·intro k hk
  have h:=number_more (r.drop k) hk
  rw [List.take_append_drop] at h
  exact h
 intro e W' hp
 unfold RnPost at hp
 have hxn:xNum want r=if (number r).2.2≠0 then .inl (number r).2.2.toNat else if (number r).1≠want then .inl 11 else .inr (r.drop (number r).2.1):=rfl
 by_cases h0:(number r).2.2≠0
 ·rw [if_pos h0] at hp hxn
  obtain ⟨rfl,rfl⟩:=hp
  refine ⟨(number r).2.2.toNat,by rw [← number_nat],fun h=>?_,fun _=>⟨hxn,hx.f⟩⟩
  have:=number_nat (s:=r)
  rw [h] at this
  exact absurd this h0
 rw [if_neg h0] at hp hxn
 by_cases h1:(number r).1≠want
 ·rw [if_pos h1] at hp hxn
  obtain ⟨rfl,rfl⟩:=hp
  exact ⟨11,rfl,⟨fun h=>absurd h (by decide),fun _=>⟨hxn,hx.f⟩⟩⟩
 rw [if_neg h1] at hp hxn
 obtain ⟨rfl,v',hs',hp',ho',hnew,hf⟩:=hp
 refine ⟨0,rfl,fun _=>?_,fun h=>absurd rfl h⟩
 have hm:=number_used (bs:=r) (by simpa using h0)
 refine ⟨got++r.take (number r).2.1,r.drop (number r).2.1,v',hxn,⟨_,_,_,_,hs',by omega,?_,by rw [List.length_drop];omega,by omega,by omega⟩,hp',ho',?_,?_⟩
 ·have h3:=BRow.drop hrow (k:=(number r).2.1) (cap:=c) (by omega)
  unfold takeA
  intro h4
  obtain ⟨b,off,h5,h6,h7⟩:=h3 h4
  refine ⟨b,off,h5,h6,fun k hk=>?_⟩
  have hnb:¬ (b=fb∨b=cb∨v.ownBlock=some b):=by
   rintro (e | e | e)
   ·omega
   ·omega
   have:=(hx.o.lt e).1;omega
  exact (World.cell?_of_block (hf.block b (by have:=hx.f.size;omega) hnb)).trans (h7 k hk)
 ·exact hx.f.transW hf fun q hq hlt=>by
   rcases hq with e | e | e
   ·exact e
   ·omega
   have:=(hx.o.lt e).1;omega
 rw [List.append_assoc,List.take_append_drop];exact hx.e
open Go.RowKit Box
theorem OwnPr.rowF {w:World} {T base fb:Nat} {lv:Value} {recs:List (Nat×Nat)} (h:OwnPr w T base lv recs) {c:Array Value} {T':TypeId} (hp:Pts w fb c T') (hT:T≠T') :
 ∃ A cap,lv=.slice A recs.length cap∧PrRow w w.heap.size A recs∧∀ ad,A=some ad→ad.block≠fb:=by
 obtain ⟨h1,h2⟩:=h
 obtain ⟨A,cap,e,_,_,hr⟩:=OwnPr.slice ⟨h1,h2⟩
 refine ⟨A,cap,e,hr,fun ad hA=>?_⟩
 rcases h2 with ⟨hv,_⟩ | ⟨g,cap',cur,hv,hb,hh,r⟩
 ·rw [hv] at e
  injection e with e1
  rw [← e1] at hA
  cases hA
 rw [hv] at e
 injection e with e1
 rw [← e1] at hA
 injection hA with hA
 rw [← hA]
 exact Pts.ne_of (show Pts w g cur T from hh) hp hT
def IndexEnd (fb un B0:Nat) (E:Nat ⊕ (Nat×List UInt8)) (w:World) (e:Ending) (w':World):Prop :=
 Frm (· = fb) w w'∧match E with
  | .inl z=>e=.returned (.tuple #[.int .i64 0,.int .i64 (z:Int)])
  | .inr (size,r)=>e=.returned (.tuple #[.int .i64 (size:Int),.int .i64 0])∧∃ A n c used,SrcAt w' fb A n c used∧used+n=un∧BRow w' B0 A r∧n=r.length∧n≤c∧c≤maxLen
theorem indexEnd_err {fb un B0 z:Nat} {E:Nat ⊕ (Nat×List UInt8)} {w w':World} (h:E=.inl z) (hf:Frm (· = fb) w w'):IndexEnd fb un B0 E w (.returned (.tuple #[.int .i64 0,.int .i64 (z:Int)])) w':=by
 subst h
 exact ⟨hf,rfl⟩
set_option maxRecDepth 100000 in
set_option maxHeartbeats 8000000 in
theorem xindex_p (rb fb bud un B0 base0:Nat) (put hold:Value) (kind:Int) (told:Nat) (lv:Value) (recs:List (Nat×Nat)) (A:Option Addr) (n c used:Nat) (bs:List UInt8) (w:World)
 (hr:RxAt w rb fb bud put hold kind told lv) (hne:rb≠fb) (h:SrcAt w fb A n c used) (hn:n=bs.length) (hb:BRow w B0 A bs) (hB0:B0≤w.heap.size∧B0≤fb) (hc:n≤c) (hcm:c≤maxLen) (hu:used+n=un) (hub:un≤4611686018427387904)
 (hl:n≤1000000000) (h1:1≤n) (ho:OwnPr w 121 base0 lv recs) (hrl:recs.length≤1000000000) :
 Calls Tryz.prog 43 #[.pointer (some ⟨rb,0,none⟩)] w (IndexEnd fb un B0 (xIndex recs bs) w):=by
 obtain ⟨Ar,kr,rfl,hpr,hprn⟩:=ho.rowF h (by decide)
 have hrc:=hr.cells.2.2.2.2.2.2
 have HRX:=hid (And.intro hr (And.intro hne h))
 have HPR:=hid (And.intro hpr hprn)
 have HB:Hid (BRow w B0 A bs∧(B0≤w.heap.size∧B0≤fb)∧n=bs.length∧n≤c∧c≤maxLen∧used+n=un∧un≤4611686018427387904∧n≤1000000000∧1≤n):=hid ⟨hb,hB0,hn,hc,hcm,hu,hub,hl,h1⟩
 obtain ⟨E,hE⟩:∃ E,xIndex recs bs=E:=⟨_,rfl⟩
 rw [hE]
 have HE:=hid hE
 have rb6:∀ W,Frm (· = fb) w W→W.cell? ⟨rb,6,none⟩=some (.slice Ar recs.length kr):=fun W hf=>by
  rw [(Pts.frm HRX.out.1 hf HRX.out.2.1).cell];rfl
 have RB6:=hid rb6
 have hwl:IntKind.u64.wrap (recs.length:Int)=(recs.length:Int):=Go.IntWalk.u64_in _ (by omega)
 obtain ⟨RL,hRL⟩:∃ RL,recs.length=RL:=⟨_,rfl⟩
 have HRL:=hid (And.intro hRL hrl)
 rw [hRL] at hwl
 rw [hRL] at hrc rb6 RB6 HRX
 have hfl:=Pts.lt h
 have hrl2:=Pts.lt hr
 have HLT:=hid (And.intro hfl hrl2)
 obtain ⟨W0,hW0⟩:∃ W,w.alloc (.cells #[.slice none 0 0] 27)=W:=⟨_,rfl⟩
 have hs0:W0.heap.size=w.heap.size+1:=by rw [← hW0];simp only [World.size_alloc]
 have hP0:Pts W0 w.heap.size #[.slice none 0 0] 27:=by rw [← hW0];exact Pts.new w _ _
 have hBe0:Below w.heap.size w W0:=by rw [← hW0];exact (Below.refl _ w).alloc (Nat.le_refl _) _
 have HT:=rtake_p rb fb bud put hold kind told (.slice Ar RL kr) A n c used 1 W0 (by rw [← hRL];exact Pts.below hr hBe0 hrl2) (Pts.below h hBe0 hfl) hc h1 (by omega)
 have HTT:=hid HT
 have HP0:=hid (And.intro hP0 (And.intro hBe0 hs0))
 have hp0c:W0.cell? ⟨w.heap.size,0,none⟩=some (.slice none 0 0):=by rw [hP0.cell];rfl
 clear hr hne h hn hb hB0 hc hcm hu hub hl h1 ho hrl hrc hE hpr hprn hRL hs0 hP0 hBe0 rb6 hfl hrl2 HT
 go_enter Tryz.func43,Tryz.ntmps43
 go_wp2_with fail
 try rw [hW0]
 refine HTT.out.mono ?_;rintro e w1 ⟨rfl,hs1,hf1⟩
 have hP1:=HP0.out.1.frm hf1 (by have:=HLT.out.1;omega)
 have hp1c:w1.cell? ⟨w.heap.size,0,none⟩=some (.slice none 0 0):=by rw [hP1.cell];rfl
 have hz1:=hP1.frozen 0
 have hF1:Frm (· = fb) w w1:=(Frm.of_below HP0.out.2.1).transW hf1 (fun q hq _=>hq)
 have hrow0:BRow w1 B0 A bs:=(HB.out.1.below (HP0.out.2.1.mono HB.out.2.1.1)).below (hf1.below (by have:=HB.out.2.1.1;have:=HP0.out.2.2;omega) (fun q hq=>by have:=HB.out.2.1.2;omega))
 have ht1:(bs.take 1).length=1:=by rw [List.length_take];have:=HB.out.2.2.1;have:=HB.out.2.2.2.2.2.2.2.2;omega
 have HW1:Hid (SrcAt w1 fb (takeA A c 1) (n-1) (c-1) (used+1)∧Pts w1 w.heap.size #[.slice none 0 0] 27∧Frm (· = fb) w w1∧BRow w1 B0 A bs):=hid ⟨hs1,hP1,hF1,hrow0⟩
 have HT1:=hid ht1
 clear hs1 hf1 hP1 hF1 hrow0 ht1 HTT HP0 hp0c hW0
 go_wp2_with (at_builtin;refine wpList_append_bytes _ rfl (.tmp 18) (.tmp 19) 27 rfl 5 w.heap.size Tryz.underlying27 Tryz.info_u8 (.slice none 0 0) [] rfl ?own1 A 1 1 B0 (bs.take 1) rfl ?lenn1 ?row1 ?len1 ?base1 ?next1)
 case own1=>exact OwnB.nil _ _ _
 case lenn1=>exact HT1.out.symm
 case row1=>exact HW1.out.2.2.2.take 1
 case len1=>rw [HT1.out];decide
 case base1=>exact HW1.out.2.2.1.size
 intro v2 w2 hown2 hfrm2 hnew2
 obtain ⟨A2,k2,hv2,-,-,-⟩:=hown2.slice
 rw [HT1.out] at hv2
 subst hv2
 have hfw:Frm (fun _=>False) w1 w2:=hfrm2.mono (fun q _ hq=>by cases hq)
 have hP2:=HW1.out.2.1.frm hfw (fun h=>h)
 have hp2c:w2.cell? ⟨w.heap.size,0,none⟩=some (.slice none 0 0):=by rw [hP2.cell];rfl
 have hz2:=hP2.frozen 0
 have hv2ne:(Value.slice A2 1 k2).ownBlock≠some w.heap.size:=by
  have:=HW1.out.2.1.lt
  rcases hnew2 with e | e
  ·rw [e];intro h;cases h
  rw [e];intro h;injection h with h;omega
 obtain ⟨W3,hW3⟩:∃ W,w2.setCell ⟨w.heap.size,0,none⟩ (.slice A2 1 k2)=W:=⟨_,rfl⟩
 have hf23:Frm (fun q=>q=w.heap.size) w2 W3:=by rw [← hW3];exact (Frm.refl (fun q=>q=w.heap.size) w2).setCell (p:=⟨w.heap.size,0,none⟩) rfl (.slice A2 1 k2)
 have hfne:fb≠w.heap.size:=by have:=HLT.out.1;omega
 have hx3:IxR w fb w.heap.size un B0 bs (bs.take 1) (bs.drop 1) (.slice A2 1 k2) W3:=by
  refine ⟨⟨_,_,_,_,(Pts.frm HW1.out.1 hfw (fun h=>h)).frm hf23 hfne,?_,?_,?_,?_,?_⟩,?_,?_,?_,List.take_append_drop 1 bs⟩
  ·have:=HB.out.2.2.2.2.2.1;have:=HB.out.2.2.2.2.2.2.2.2;omega
  ·have h3:=BRow.drop HW1.out.2.2.2 (k:=1) (cap:=c) (by have:=HB.out.2.2.1;have:=HB.out.2.2.2.1;omega)
   exact (h3.below (hfw.below (Nat.le_trans HB.out.2.1.1 HW1.out.2.2.1.size) (fun _ h=>h.elim))).below (hf23.below (by have:=hfw.size;have:=HW1.out.2.2.1.size;have:=HB.out.2.1.1;omega) (fun q hq=>by have:=HB.out.2.1.1;omega))
  ·rw [List.length_drop,HB.out.2.2.1]
  ·have:=HB.out.2.2.2.1;omega
  ·have:=HB.out.2.2.2.2.1;omega
  ·rw [← hW3];exact hP2.set 0 (.slice A2 1 k2)
  ·exact hown2.frm hf23 (fun k hk e=>hv2ne (by rw [hk,e]))
  exact (HW1.out.2.2.1.trans (hfw.mono (fun q _ h=>h.elim))).transW hf23 (fun q hq hlt=>by omega)
 have r63:=RB6.out W3 hx3.f
 have HX3:=hid hx3
 clear hown2 hfrm2 hnew2 hfw hP2 hv2ne hf23 hx3 HW1
 go_wp2_with fail
 try rw [hW3]
 clear hW3 hp2c hz2 hp1c hz1
 refine (num_step rb fb bud w.heap.size un B0 put hold kind told _ (.slice A2 1 k2) RL bs _ _ w W3 HRX.out.1 HRX.out.2.1 HX3.out HB.out.2.1 (Nat.le_refl _) HB.out.2.2.2.2.2.2.1 (by have:=HB.out.2.2.1;have:=HB.out.2.2.2.2.2.2.2.1;omega)).mono ?_
 rintro e w4 ⟨z,rfl,hz0,hzn⟩
 have hfr4:Frm (· = fb) w w4:=by
  by_cases hz:z=0
  ·obtain ⟨_,_,_,_,hx⟩:=hz0 hz;exact hx.f
  exact (hzn hz).2
 have r64:=RB6.out w4 hfr4
 have hst:Frm (· = fb) w w4∧(z=0→∃ got r v,xNums ((recN recs).take (1+2*0)) (bs.drop 1)=.inr r∧IxR w fb w.heap.size un B0 bs got r v w4)∧(z≠0→xNums (recN recs) (bs.drop 1)=.inl z):=by
  refine ⟨hfr4,fun hz=>?_,fun hz=>?_⟩
  ·obtain ⟨got',r',v',h3,h4⟩:=hz0 hz
   refine ⟨got',r',v',?_,h4⟩
   show xNums [recs.length] (bs.drop 1)=_
   rw [xNums_one,HRL.out.1,h3]
  show xNums (recs.length::_) (bs.drop 1)=_
  rw [xNums_cons,HRL.out.1,(hzn hz).1]
 have hrlb:RL≤1000000000:=by have:=HRL.out;omega
 have HST:=hid hst
 clear hz0 hzn hst HX3 r63 hfr4
 go_wp2
 go_loopw [6,36] (fun ev iv wr=>∃ (k z:Nat),ev=.int .i64 (z:Int)∧iv=.int .i64 (k:Int)∧k≤RL∧Frm (· = fb) w wr∧(z=0→∃ got r v,xNums ((recN recs).take (1+2*k)) (bs.drop 1)=.inr r∧IxR w fb w.heap.size un B0 bs got r v wr)∧(z≠0→xNums (recN recs) (bs.drop 1)=.inl z)) (fun _ iv _=>RL-(intOf iv).toNat)
 case atStart=>exact ⟨0,z,rfl,rfl,Nat.zero_le _,HST.out⟩
 obtain ⟨k,z,rfl,rfl,hk,hfr,hz0,hzn⟩:=hrel
 clear HST
 have HZ:=hid (And.intro hfr (And.intro hz0 hzn))
 clear hfr hz0 hzn
 by_cases hkl:k<RL
 ·have hkr:k<recs.length:=by have:=HRL.out.1;omega
  obtain ⟨ba,off,hArr,hba,hcell⟩:=HPR.out.1 (by omega)
  obtain ⟨k0,k1⟩:=hcell k hkr
  obtain ⟨⟨p,q⟩,hpq⟩:∃ pq,recs.getD k (0,0)=pq:=⟨_,rfl⟩
  rw [hpq] at k0 k1
  have hfk:=HZ.out.1.block ba hba (HPR.out.2 _ hArr)
  have d0:wr.cell? ⟨ba,off+k*2,none⟩=some (.int .u64 (p:Int)):=(World.cell?_of_block hfk).trans k0
  have d1:wr.cell? ⟨ba,off+k*2+1,none⟩=some (.int .u64 (q:Int)):=(World.cell?_of_block hfk).trans k1
  subst hArr
  have HPQ:=hid (And.intro hpq hkr)
  clear hpq hkr hcell k0 k1 hfk hba
  obtain ⟨W5,hW5⟩:∃ W,wr.alloc (.cells #[.int .u64 (p:Int),.int .u64 (q:Int)] 121)=W:=⟨_,rfl⟩
  have hb5:Below wr.heap.size wr W5:=by rw [← hW5];exact (Below.refl _ wr).alloc (Nat.le_refl _) _
  have hst5:Frm (· = fb) w W5∧(z=0→∃ got r v,xNums ((recN recs).take (1+2*k+0)) (bs.drop 1)=.inr r∧IxR w fb w.heap.size un B0 bs got r v W5)∧(z≠0→xNums (recN recs) (bs.drop 1)=.inl z):=by
   refine ⟨HZ.out.1.trans (Frm.of_below hb5),fun hz=>?_,HZ.out.2.2⟩
   obtain ⟨got,r,v,h3,h4⟩:=HZ.out.2.1 hz
   exact ⟨got,r,v,h3,h4.still HB.out.2.1.1 hb5⟩
  have HST5:=hid hst5
  have hp5:Pts W5 wr.heap.size #[.int .u64 (p:Int),.int .u64 (q:Int)] 121:=by rw [← hW5];exact Pts.new wr _ _
  have e0:W5.cell? ⟨wr.heap.size,0,none⟩=some (.int .u64 (p:Int)):=by rw [hp5.cell];rfl
  have e1:W5.cell? ⟨wr.heap.size,1,none⟩=some (.int .u64 (q:Int)):=by rw [hp5.cell];rfl
  clear hp5
  clear hst5 hb5 HZ
  go_wp2
  try rw [hW5]
  clear hW5
  go_loopw [6,41] (fun ev jv wx=>∃ (j z:Nat),ev=.int .i64 (z:Int)∧jv=.int .i64 (j:Int)∧j≤2∧Frm (· = fb) w wx∧(z=0→∃ got r v,xNums ((recN recs).take (1+2*k+j)) (bs.drop 1)=.inr r∧IxR w fb w.heap.size un B0 bs got r v wx)∧(z≠0→xNums (recN recs) (bs.drop 1)=.inl z)) (fun _ jv _=>2-(intOf jv).toNat)
  case atStart=>exact ⟨0,z,rfl,rfl,by decide,HST5.out⟩
  obtain ⟨j,z1,rfl,rfl,hj,hfr1,hz1,hzn1⟩:=hrel
  clear HST5
  have HZ1:=hid (And.intro hfr1 (And.intro hz1 hzn1))
  clear hfr1 hz1 hzn1 d0 d1 e0 e1
  by_cases hj2:j<2
  ·by_cases hz:z1=0
   ·subst hz
    obtain ⟨got,r,v,h3,h4⟩:=HZ1.out.2.1 rfl
    have HS1:Hid (∀ want,want=(if j=0 then (recs.getD k (0,0)).1 else (recs.getD k (0,0)).2)→Calls Tryz.prog 65 #[.pointer (some ⟨rb,0,none⟩),.pointer (some ⟨w.heap.size,0,none⟩),.int .u64 (want:Int)] wr (fun e w'=>∃ z2:Nat,e=.returned (.int .i64 (z2:Int))∧Frm (· = fb) w w'∧(z2=0→∃ got r v,xNums ((recN recs).take (1+2*k+(j+1))) (bs.drop 1)=.inr r∧IxR w fb w.heap.size un B0 bs got r v w')∧(z2≠0→xNums (recN recs) (bs.drop 1)=.inl z2))):=by
     refine hid fun want hw=>?_
     refine (num_step rb fb bud w.heap.size un B0 put hold kind told _ v want bs got r w wr HRX.out.1 HRX.out.2.1 h4 HB.out.2.1 (Nat.le_refl _) HB.out.2.2.2.2.2.2.1 (by have:=HB.out.2.2.1;have:=HB.out.2.2.2.2.2.2.2.1;omega)).mono ?_
     rintro e w6 ⟨z2,rfl,h5,h6⟩
     have htk:=recN_take recs HPQ.out.2 hj2 hw
     have hsn:=xNums_snoc want ((recN recs).take (1+2*k+j)) (bs.drop 1)
     rw [← htk,h3] at hsn
     refine ⟨z2,rfl,?_,fun hz=>?_,fun hz=>?_⟩
     ·by_cases hz:z2=0
      ·obtain ⟨_,_,_,_,h⟩:=h5 hz;exact h.f
      exact (h6 hz).2
     ·obtain ⟨g',r',v',h7,h8⟩:=h5 hz
      exact ⟨g',r',v',hsn.trans h7,h8⟩
     have h9:=xNums_stop _ ((recN recs).drop (1+2*k+j+1)) _ (hsn.trans (h6 hz).1)
     rwa [List.take_append_drop] at h9
    clear h3 h4 HZ1
    have hj01:j=0∨j=1:=by omega
    rcases hj01 with rfl | rfl
    ·have hix:∀ w,(Instr.index 121 (.agg #[.int .u64 (p:Int),.int .u64 (q:Int)]) (.int .i64 0)).run Tryz.prog w=.ok (.int .u64 (p:Int)) w:=fun _=>by kernel_rfl
     have HN:=HS1.out p (by rw [if_pos rfl,HPQ.out.1])
     have HNN:=hid HN
     clear HN HS1
     go_wp2_with fail
     refine HNN.out.mono ?_;rintro e w6 ⟨z2,rfl,h5⟩
     have HZ2:=hid h5
     clear h5
     go_wp2
     exact ⟨⟨1,z2,rfl,rfl,by decide,HZ2.out⟩,by simp [intOf]⟩
    have hix:∀ w,(Instr.index 121 (.agg #[.int .u64 (p:Int),.int .u64 (q:Int)]) (.int .i64 1)).run Tryz.prog w=.ok (.int .u64 (q:Int)) w:=fun _=>by kernel_rfl
    have HN:=HS1.out q (by rw [if_neg (by decide),HPQ.out.1])
    have HNN:=hid HN
    clear HN HS1
    go_wp2_with fail
    refine HNN.out.mono ?_;rintro e w6 ⟨z2,rfl,h5⟩
    have HZ2:=hid h5
    clear h5
    go_wp2
    exact ⟨⟨2,z2,rfl,rfl,by decide,HZ2.out⟩,by simp [intOf]⟩
   have qz:((z1:Int) != 0)=true:=bne_iff_ne.2 (by omega)
   have HEE:Hid (E=.inl z1):=hid (by rw [← HE.out];unfold xIndex;rw [HZ1.out.2.2 hz])
   clear hz
   have hj01:j=0∨j=1:=by omega
   rcases hj01 with rfl | rfl
   ·have hix:∀ w,(Instr.index 121 (.agg #[.int .u64 (p:Int),.int .u64 (q:Int)]) (.int .i64 0)).run Tryz.prog w=.ok (.int .u64 (p:Int)) w:=fun _=>by kernel_rfl
    go_wp2
    go_ret2
    exact indexEnd_err HEE.out HZ1.out.1
   have hix:∀ w,(Instr.index 121 (.agg #[.int .u64 (p:Int),.int .u64 (q:Int)]) (.int .i64 1)).run Tryz.prog w=.ok (.int .u64 (q:Int)) w:=fun _=>by kernel_rfl
   go_wp2
   go_ret2
   exact indexEnd_err HEE.out HZ1.out.1
  obtain rfl:j=2:=by omega
  clear hj2
  go_wp2
  exact ⟨⟨k+1,z1,rfl,by go_num,by omega,HZ1.out⟩,by simp [intOf];omega⟩
 obtain rfl:k=RL:=by omega
 clear hk hkl
 by_cases hz:z=0
 ·subst hz
  obtain ⟨got,r,v,h3,h4⟩:=HZ.out.2.1 rfl
  have hall:xNums (recN recs) (bs.drop 1)=.inr r:=by
   rw [← h3,List.take_of_length_le]
   rw [recN_len];have:=HRL.out.1;omega
  obtain ⟨Ag,kg,hv,-,-,hgr⟩:=h4.o.slice
  obtain ⟨U,hU⟩:∃ U,got.length=U:=⟨_,rfl⟩
  rw [hU] at hv
  subst hv
  have hgl:U+r.length=bs.length:=by rw [← hU,← h4.e,List.length_append]
  have hbl:=HB.out.2.2.1
  have hbl2:=HB.out.2.2.2.2.2.2.2.1
  have gc:wr.cell? ⟨w.heap.size,0,none⟩=some (.slice Ag U kg):=by rw [h4.p.cell];rfl
  have gz:=h4.p.frozen 0
  obtain ⟨pad,hpad⟩:∃ pad,padOf U=pad:=⟨_,rfl⟩
  have hp4:pad<4:=by rw [← hpad];unfold padOf;omega
  have huw:IntKind.i64.wrap (-(U:Int)) = -(U:Int):=Go.IntWalk.i64_in _ (by omega)
  have hp3:bits .and .i64 (-(U:Int)) 3=(pad:Int):=by rw [i64_and3,← hpad];unfold padOf;omega
  obtain ⟨q4,hq4⟩:∃ q4,pad+4=q4:=⟨_,rfl⟩
  have hp44:((pad:Int)+4)=(q4:Int):=by omega
  have hqw:IntKind.i64.wrap (q4:Int)=(q4:Int):=Go.IntWalk.i64_in _ (by omega)
  obtain ⟨A6,n6,c6,u6,hs6,hu6,hr6,hn6,hc6,hm6⟩:=h4.s
  have hxi:xIndex recs bs=if r.length<q4 then .inl 10 else if r.take pad≠List.replicate pad 0∨sealB (bs.take (U+pad))≠(r.drop pad).take 4 then .inl 11 else .inr (U+q4,r.drop q4):=by
   unfold xIndex
   rw [hall]
   simp only
   rw [show bs.length-r.length=U by omega,hpad,hq4,show U+pad+4=U+q4 by omega]
  rw [HE.out] at hxi
  have H4:=hid h4
  have HS6:Hid (SrcAt wr fb A6 n6 c6 u6∧u6+n6=un∧BRow wr B0 A6 r∧n6=r.length∧n6≤c6∧c6≤maxLen):=hid ⟨hs6,hu6,hr6,hn6,hc6,hm6⟩
  have HXI:=hid hxi
  have HGR:=hid (And.intro hgr (And.intro hgl (And.intro hU (And.intro hpad hq4))))
  have hRX:=(Pts.frm HRX.out.1 HZ.out.1 HRX.out.2.1:RxAt wr rb fb bud put hold kind told _)
  have HRW:=hid hRX
  clear h3 h4 hall hgr hU hgl hpad hq4 hs6 hu6 hr6 hc6 hm6 hxi hbl hRX
  by_cases hsh:n6<q4
  ·have HEE:Hid (E=.inl 10):=hid (by rw [HXI.out,if_pos (by omega)])
   have HTN:=hid (rtake_no rb fb bud put hold kind told _ A6 n6 c6 u6 q4 wr HRW.out HS6.out.1 hsh)
   clear hsh hn6
   go_wp2_with fail
   refine HTN.out.mono ?_;rintro e w7 ⟨rfl,rfl⟩
   go_wp2
   go_ret2
   exact indexEnd_err HEE.out HZ.out.1
  have HXJ:Hid (E=if r.take pad≠List.replicate pad 0∨sealB (bs.take (U+pad))≠(r.drop pad).take 4 then .inl 11 else .inr (U+q4,r.drop q4)):=hid (by rw [HXI.out,if_neg (by omega)])
  have HTP:=hid (rtake_p rb fb bud put hold kind told _ A6 n6 c6 u6 q4 wr HRW.out HS6.out.1 HS6.out.2.2.2.2.1 (by omega) (by have:=HS6.out.2.1;have:=HB.out.2.2.2.2.2.2.1;omega))
  have HN6:=hid (show q4≤n6 by omega)
  clear hsh hn6 HXI
  go_wp2_with fail
  refine HTP.out.mono ?_;rintro e w7 ⟨rfl,hs7,hf7⟩
  have hp7:=H4.out.p.frm hf7 (fun e=>hfne e.symm)
  have ho7:=H4.out.o.frm hf7 (fun k hk e=>by have:=(H4.out.o.lt hk).1;have:=HLT.out.1;omega)
  have hF7:Frm (· = fb) w w7:=HZ.out.1.trans hf7
  have hB07:B0≤w7.heap.size:=Nat.le_trans HB.out.2.1.1 hF7.size
  have hr7:BRow w7 B0 A6 r:=HS6.out.2.2.1.below (hf7.below (Nat.le_trans HB.out.2.1.1 HZ.out.1.size) (fun q hq=>by have:=HB.out.2.1.2;omega))
  have hrt:BRow w7 B0 A6 (r.take pad):=hr7.take pad
  have hrd:BRow w7 B0 (takeA A6 c6 q4) (r.drop q4):=hr7.drop (by have:=HS6.out.2.2.2.1;have:=HS6.out.2.2.2.2.1;omega)
  have hpq:pad+4=q4:=HGR.out.2.2.2.2
  have hr8:BRow w7 B0 (A6.map (·.add pad)) ((r.drop pad).take 4):=by
   have h8:=(hr7.take q4).drop (k:=pad) (cap:=q4) (by rw [List.length_take];omega)
   rw [if_neg (by omega),List.drop_take,show q4-pad=4 by omega] at h8
   exact h8
  obtain ⟨A8,hA8⟩:∃ A8,A6.map (·.add pad)=A8:=⟨_,rfl⟩
  rw [hA8] at hr8
  have hsl1:∀ w,(Instr.sliceAt 27 (.slice A6 q4 q4) none (some (.int .i64 (pad:Int))) none).run Tryz.prog w=.ok (.slice A6 pad q4) w:=fun w=>slice_toX A6 q4 q4 pad (by omega) (Nat.le_refl _) w
  have hsl2:∀ w,(Instr.sliceAt 27 (.slice A6 q4 q4) (some (.int .i64 (pad:Int))) none none).run Tryz.prog w=.ok (.slice A8 4 4) w:=fun w=>by
   have h8:=slice_fromX A6 q4 q4 pad (by omega) (Nat.le_refl _) w
   rw [if_neg (by omega),show q4-pad=4 by omega,hA8] at h8
   exact h8
  have hlt:(r.take pad).length=pad:=by rw [List.length_take];have:=HN6.out;have:=HS6.out.2.2.2.1;omega
  have hld:((r.drop pad).take 4).length=4:=by rw [List.length_take,List.length_drop];have:=HN6.out;have:=HS6.out.2.2.2.1;omega
  have hgt:got++r.take pad=bs.take (U+pad):=by
   rw [← H4.out.e,List.take_append,HGR.out.2.2.1,show U+pad-U=pad by omega,List.take_of_length_le (l:=got) (by rw [HGR.out.2.2.1];omega)]
  have gc7:w7.cell? ⟨w.heap.size,0,none⟩=some (.slice Ag U kg):=by rw [hp7.cell];rfl
  have H7:Hid (Pts w7 w.heap.size #[.slice Ag U kg] 27∧OwnB w7 5 w.heap.size (.slice Ag U kg) got∧Frm (· = fb) w w7∧B0≤w7.heap.size∧BRow w7 B0 A6 (r.take pad)∧BRow w7 B0 (takeA A6 c6 q4) (r.drop q4)∧BRow w7 B0 A8 ((r.drop pad).take 4)∧SrcAt w7 fb (takeA A6 c6 q4) (n6-q4) (c6-q4) (u6+q4)):=hid ⟨hp7,ho7,hF7,hB07,hrt,hrd,hr8,hs7⟩
  have HL7:=hid (And.intro hlt (And.intro hld hgt))
  have gz7:=hp7.frozen 0
  clear hp7 ho7 hF7 hB07 hr7 hrt hrd hr8 hs7 hf7 hlt hld hgt hA8 hpq HTP H4 HZ gc gz
  obtain ⟨P1,hP1⟩:∃ P1,r.take pad=P1:=⟨_,rfl⟩
  obtain ⟨P2,hP2⟩:∃ P2,(r.drop pad).take 4=P2:=⟨_,rfl⟩
  obtain ⟨T8,hT8⟩:∃ T8,bs.take (U+pad)=T8:=⟨_,rfl⟩
  rw [hP1,hP2] at H7
  rw [hP1,hP2,hT8] at HL7
  rw [hP1,hP2,hT8] at HXJ
  have HT8:=hid hT8
  clear hP1 hP2 hT8
  go_wp2
  refine QTail.wp_region_qtail_lit 4 (by kernel_rfl) (by kernel_rfl) ?_
  simp only [List.take_succ_cons,List.take_zero,List.drop_succ_cons,List.drop_zero]
  repeat (go_big_quiet_step (fail))
  refine wpQuiet_nil ?_
  rintro w' ⟨nq,rfl⟩
  go_wp2_with (at_builtin;refine wpList_append_bytes _ rfl (.tmp 69) (.tmp 72) 27 rfl 5 w.heap.size Tryz.underlying27 Tryz.info_u8 (.slice Ag U kg) got rfl ?own9 A6 pad q4 B0 P1 rfl ?lenn9 ?row9 ?len9 ?base9 ?next9)
  case own9=>exact H7.out.2.1.drewN nq
  case lenn9=>exact HL7.out.1.symm
  case row9=>exact H7.out.2.2.2.2.1.drewN nq
  case len9=>rw [HGR.out.2.2.1,HL7.out.1];have:=HGR.out.2.1;have:=HB.out.2.2.1;omega
  case base9=>exact H7.out.2.2.1.size
  intro v9 w9 hown9 hfrm9 hnew9
  rw [HL7.out.2.2] at hown9
  have hTl:T8.length=U+pad:=by rw [← HT8.out,List.length_take];have:=HGR.out.2.1;have:=HN6.out;have:=HS6.out.2.2.2.1;have:=HGR.out.2.2.2.2;omega
  obtain ⟨L8,hL8⟩:∃ L,U+pad=L:=⟨_,rfl⟩
  rw [hL8] at hTl
  obtain ⟨A9,k9,hv9,-,-,-⟩:=hown9.slice
  rw [hTl] at hv9
  subst hv9
  have hne9:(Value.slice A9 L8 k9).ownBlock≠some w.heap.size:=by
   have h1:=H7.out.1.lt
   have h2:(Value.slice Ag U kg).ownBlock≠some w.heap.size:=by
    intro hk
    rcases H7.out.2.1.form with ⟨h3,_⟩ | ⟨g,cap,cur,h3,_,hh,_⟩
    ·rw [h3] at hk;cases hk
    rw [h3] at hk
    injection hk with hk
    subst hk
    exact Pts.ne_of (show Pts w7 w.heap.size _ _ from hh) H7.out.1 (by decide) rfl
   rcases hnew9 with e | e
   ·rw [e];exact h2
   rw [e];intro h;injection h with h;have h5:w7.heap.size=w.heap.size:=h;omega
  have hg9:∀ q,(Value.slice Ag U kg).ownBlock=some q→w.heap.size≤q:=fun q hq=>(H7.out.2.1.lt hq).1
  have hp9:Pts w9 w.heap.size #[.slice Ag U kg] 27:=(H7.out.1.drewN nq).frm hfrm9 (fun hk=>by
   rcases H7.out.2.1.form with ⟨h3,_⟩ | ⟨g,cap,cur,h3,_,hh,_⟩
   ·rw [h3] at hk;cases hk
   rw [h3] at hk
   injection hk with hk
   subst hk
   exact Pts.ne_of (show Pts w7 w.heap.size _ _ from hh) H7.out.1 (by decide) rfl)
  have gc9:w9.cell? ⟨w.heap.size,0,none⟩=some (.slice Ag U kg):=by rw [hp9.cell];rfl
  have gz9:=hp9.frozen 0
  obtain ⟨W10,hW10⟩:∃ W,w9.setCell ⟨w.heap.size,0,none⟩ (.slice A9 L8 k9)=W:=⟨_,rfl⟩
  have hf10:Frm (fun q=>w.heap.size≤q) w7 W10:=by
   rw [← hW10]
   exact (((Frm.refl (fun q=>w.heap.size≤q) w7).drewN nq).trans (hfrm9.mono fun q _ hq=>hg9 q hq)).setCell (p:=⟨w.heap.size,0,none⟩) (Nat.le_refl _) _
  have hB10:∀ q,w.heap.size≤q→B0≤q:=fun q hq=>Nat.le_trans HB.out.2.1.1 hq
  have hp10:Pts W10 w.heap.size #[.slice A9 L8 k9] 27:=by rw [← hW10];exact hp9.set 0 _
  have ho10:OwnB W10 5 w.heap.size (.slice A9 L8 k9) T8:=by rw [← hW10];exact hown9.other (p:=⟨w.heap.size,0,none⟩) hne9 _
  have hr10:BRow W10 W10.heap.size A9 T8:=by
   obtain ⟨A',k',e',-,-,h⟩:=ho10.slice
   injection e' with e1
   rw [e1];exact h
  have gc10:W10.cell? ⟨w.heap.size,0,none⟩=some (.slice A9 L8 k9):=by rw [hp10.cell];rfl
  have hfb10:¬ (w.heap.size≤fb):=by have:=HLT.out.1;omega
  have H10:Hid (BRow W10 W10.heap.size A9 T8∧Frm (· = fb) w W10∧BRow W10 B0 A6 P1∧BRow W10 B0 A8 P2∧BRow W10 B0 (takeA A6 c6 q4) (r.drop q4)∧SrcAt W10 fb (takeA A6 c6 q4) (n6-q4) (c6-q4) (u6+q4)∧B0≤W10.heap.size∧T8.length=L8) :=
   hid ⟨hr10,H7.out.2.2.1.transW hf10 (fun q hq hlt=>by omega),H7.out.2.2.2.2.1.below (hf10.below H7.out.2.2.2.1 hB10),H7.out.2.2.2.2.2.2.1.below (hf10.below H7.out.2.2.2.1 hB10),H7.out.2.2.2.2.2.1.below (hf10.below H7.out.2.2.2.1 hB10),Pts.frm H7.out.2.2.2.2.2.2.2 hf10 hfb10,Nat.le_trans H7.out.2.2.2.1 hf10.size,hTl⟩
  have HL8:=hid hL8
  clear hown9 hfrm9 hnew9 hTl hL8 hne9 hg9 hp9 hf10 hB10 hp10 ho10 hr10 hfb10 gc7 gz7 H7
  have hmk:=made_bytes pad (by omega)
  obtain ⟨Wa,hWa⟩:∃ W,W10.drew.alloc (.cells (madeCells #[.int .u8 0] pad) 5)=W:=⟨_,rfl⟩
  have hba:Below W10.heap.size W10 Wa:=by rw [← hWa];exact ((Below.refl _ W10).drew).alloc (Nat.le_refl _) _
  have hza:BRow Wa Wa.heap.size (some ⟨W10.heap.size,0,none⟩) (List.replicate pad 0):=by rw [← hWa];exact noughts_row pad W10.drew
  have hEQ:=equal_p A6 (some ⟨W10.heap.size,0,none⟩) P1 (List.replicate pad 0) pad q4 pad pad Wa.heap.size Wa HL7.out.1.symm ((H10.out.2.2.1.below (hba.mono H10.out.2.2.2.2.2.2.1)).more (Nat.le_trans H10.out.2.2.2.2.2.2.1 hba.size)) (by simp) hza
  have gca:Wa.cell? ⟨w.heap.size,0,none⟩=some (.slice A9 L8 k9):=(hba.cell (p:=⟨w.heap.size,0,none⟩) (World.block_lt_of_cell? W10 ⟨w.heap.size,0,none⟩ gc10)).trans gc10
  obtain ⟨b1,hb1⟩:∃ b,(P1==List.replicate pad 0)=b:=⟨_,rfl⟩
  rw [hb1] at hEQ
  have HEQ:=hid hEQ
  have HBA:=hid hba
  have HB1:=hid hb1
  clear hba hza hEQ hb1
  cases b1 with
  | false =>
   have HEE:Hid (E=.inl 11):=hid (by rw [HXJ.out,if_pos (.inl (by simpa using HB1.out))])
   go_wp2
   refine wp_region_any (by kernel_rfl) ?_
   change wpAny _ _ _ _ _ _ _ (World.drew _)
   refine wpAny_take (i:=0) rfl (by kernel_rfl) (by kernel_rfl) (by kernel_rfl) (fun _ _ _ h=>h) (Or.inl ⟨by rfl,by (intro w;go_simp;try with_reducible rfl)⟩) ?_
   go_simp
   refine wpAny_take (i:=1) rfl (by kernel_rfl) (by kernel_rfl) (by kernel_rfl) (fun _ _ _ h=>h) (Or.inl ⟨by rfl,by (intro w;go_simp;try with_reducible rfl)⟩) ?_
   go_simp
   refine wpAny_take (i:=2) rfl (by kernel_rfl) (by kernel_rfl) (by kernel_rfl) (fun _ _ _ h=>h) (Or.inl ⟨by rfl,by (intro w;go_simp;try with_reducible rfl)⟩) ?_
   go_simp
   refine wpAny_take (i:=3) rfl (by kernel_rfl) (by kernel_rfl) (by kernel_rfl) (fun _ _ _ h=>h) (Or.inl ⟨by rfl,by (intro w;go_simp;try with_reducible rfl)⟩) ?_
   go_simp
   refine wpAny_ready (rs:=[4]) (by kernel_rfl) (by simp) ?_
   refine AllReady.cons rfl (fun K hK=>?_) AllReady.nil
   go_simp
   refine hK _ _ ?_;clear hK K
   refine wpAny_ready (rs:=[5]) (by kernel_rfl) (by simp) ?_
   refine AllReady.cons rfl (fun K hK=>?_) AllReady.nil
   go_simp
   go_wp2_with (go_at_call 46;refine HEQ.out.mono ?_;rintro e w11 ⟨rfl,rfl⟩)
   refine wpAny_take (i:=6) rfl (by kernel_rfl) (by kernel_rfl) (by kernel_rfl) (fun _ _ _ h=>h) (Or.inl ⟨by rfl,by (intro w;go_simp;try with_reducible rfl)⟩) ?_
   go_simp
   refine wpAny_take (i:=7) rfl (by kernel_rfl) (by kernel_rfl) (by kernel_rfl) (fun _ _ _ h=>h) (Or.inl ⟨by rfl,by (intro w;go_simp;try with_reducible rfl)⟩) ?_
   go_simp
   refine wpAny_take (i:=8) rfl (by kernel_rfl) (by kernel_rfl) (by kernel_rfl) (fun _ _ _ h=>h) (Or.inr ⟨by rfl,rfl⟩) ?_
   go_simp
   refine wpAny_take (i:=9) rfl (by kernel_rfl) (by kernel_rfl) (by kernel_rfl) (fun _ _ _ h=>h) (Or.inr ⟨by rfl,rfl⟩) ?_
   go_simp
   refine wpAny_take (i:=10) rfl (by kernel_rfl) (by kernel_rfl) (by kernel_rfl) (fun _ _ _ h=>h) (Or.inr ⟨by rfl,rfl⟩) ?_
   go_simp
   refine wpAny_take (i:=11) rfl (by kernel_rfl) (by kernel_rfl) (by kernel_rfl) (fun _ _ _ h=>h) (Or.inr ⟨by rfl,rfl⟩) ?_
   go_simp
   refine wpAny_take (i:=12) rfl (by kernel_rfl) (by kernel_rfl) (by kernel_rfl) (fun _ _ _ h=>h) (Or.inr ⟨by rfl,rfl⟩) ?_
   go_simp
   refine wpAny_take (i:=13) rfl (by kernel_rfl) (by kernel_rfl) (by kernel_rfl) (fun _ _ _ h=>h) (Or.inr ⟨by rfl,rfl⟩) ?_
   go_simp
   refine wpAny_take (i:=14) rfl (by kernel_rfl) (by kernel_rfl) (by kernel_rfl) (fun _ _ _ h=>h) (Or.inr ⟨by rfl,rfl⟩) ?_
   go_simp
   refine wpAny_take (i:=15) rfl (by kernel_rfl) (by kernel_rfl) (by kernel_rfl) (fun _ _ _ h=>h) (Or.inl ⟨by rfl,by (intro w;go_simp;try with_reducible rfl)⟩) ?_
   go_simp
   refine wpAny_done (by kernel_rfl) ?_ _
   go_wp2
   go_ret2
   exact indexEnd_err HEE.out (H10.out.2.1.transW (Frm.of_below (S:=fun _=>False) HBA.out) (fun _ h=>h.elim))
  | true =>
   have hSE:=seal_p A9 T8 L8 k9 Wa H10.out.2.2.2.2.2.2.2.symm ((H10.out.1.below HBA.out).more HBA.out.size) (by rw [H10.out.2.2.2.2.2.2.2];have:=HL8.out;have:=HGR.out.2.1;have:=HB.out.2.2.1;omega)
   have HSE:=hid hSE
   obtain ⟨b2,hb2⟩:∃ b,(sealB T8==P2)=b:=⟨_,rfl⟩
   have HB2:=hid hb2
   clear hSE hb2
   go_wp2
   refine wp_region_any (by kernel_rfl) ?_
   change wpAny _ _ _ _ _ _ _ (World.drew _)
   refine wpAny_take (i:=0) rfl (by kernel_rfl) (by kernel_rfl) (by kernel_rfl) (fun _ _ _ h=>h) (Or.inl ⟨by rfl,by (intro w;go_simp;try with_reducible rfl)⟩) ?_
   go_simp
   refine wpAny_take (i:=1) rfl (by kernel_rfl) (by kernel_rfl) (by kernel_rfl) (fun _ _ _ h=>h) (Or.inl ⟨by rfl,by (intro w;go_simp;try with_reducible rfl)⟩) ?_
   go_simp
   refine wpAny_take (i:=2) rfl (by kernel_rfl) (by kernel_rfl) (by kernel_rfl) (fun _ _ _ h=>h) (Or.inl ⟨by rfl,by (intro w;go_simp;try with_reducible rfl)⟩) ?_
   go_simp
   refine wpAny_take (i:=3) rfl (by kernel_rfl) (by kernel_rfl) (by kernel_rfl) (fun _ _ _ h=>h) (Or.inl ⟨by rfl,by (intro w;go_simp;try with_reducible rfl)⟩) ?_
   go_simp
   refine wpAny_ready (rs:=[4]) (by kernel_rfl) (by simp) ?_
   refine AllReady.cons rfl (fun K hK=>?_) AllReady.nil
   go_simp
   refine hK _ _ ?_;clear hK K
   refine wpAny_ready (rs:=[5]) (by kernel_rfl) (by simp) ?_
   refine AllReady.cons rfl (fun K hK=>?_) AllReady.nil
   go_simp
   go_wp2_with (go_at_call 46;refine HEQ.out.mono ?_;rintro e w11 ⟨rfl,rfl⟩)
   refine wpAny_take (i:=6) rfl (by kernel_rfl) (by kernel_rfl) (by kernel_rfl) (fun _ _ _ h=>h) (Or.inl ⟨by rfl,by (intro w;go_simp;try with_reducible rfl)⟩) ?_
   go_simp
   refine wpAny_take (i:=7) rfl (by kernel_rfl) (by kernel_rfl) (by kernel_rfl) (fun _ _ _ h=>h) (Or.inl ⟨by rfl,by (intro w;go_simp;try with_reducible rfl)⟩) ?_
   go_simp
   refine wpAny_take (i:=10) rfl (by kernel_rfl) (by kernel_rfl) (by kernel_rfl) (fun _ _ _ h=>h) (Or.inl ⟨by rfl,by (intro w;go_simp;try with_reducible rfl)⟩) ?_
   go_simp
   refine wpAny_take (i:=11) rfl (by kernel_rfl) (by kernel_rfl) (by kernel_rfl) (fun _ _ _ h=>h) (Or.inl ⟨by rfl,by (intro w;go_simp;try with_reducible rfl)⟩) ?_
   go_simp
   refine wpAny_take (i:=12) rfl (by kernel_rfl) (by kernel_rfl) (by kernel_rfl) (fun _ _ _ h=>h) (Or.inl ⟨by rfl,by (intro w;go_simp;try with_reducible rfl)⟩) ?_
   go_simp
   refine wpAny_ready (rs:=[8]) (by kernel_rfl) (by simp) ?_
   refine AllReady.cons rfl (fun K hK=>?_) AllReady.nil
   go_simp
   refine hK _ _ ?_;clear hK K
   refine wpAny_ready (rs:=[9]) (by kernel_rfl) (by simp) ?_
   refine AllReady.cons rfl (fun K hK=>?_) AllReady.nil
   go_simp
   go_wp2_with (go_at_call 31;refine HSE.out.mono ?_;rintro e w12 ⟨v12,rfl,ho12,hb12⟩;obtain ⟨A12,k12,rfl,-,-,hr12⟩:=ho12.slice;rw [sealB_len];have R12:=hid hr12;have B12:=hid hb12;clear ho12 hr12 hb12)
   refine wpAny_ready (rs:=[13]) (by kernel_rfl) (by simp) ?_
   refine AllReady.cons rfl (fun K hK=>?_) AllReady.nil
   go_simp
   go_wp2_with (go_at_call 46;have HE2:=equal_p A12 A8 (sealB T8) P2 4 k12 4 4 w12.heap.size w12 (sealB_len _).symm R12.out HL7.out.2.1.symm (((H10.out.2.2.2.1.below (HBA.out.mono H10.out.2.2.2.2.2.2.1)).below (B12.out.mono (Nat.le_trans H10.out.2.2.2.2.2.2.1 HBA.out.size))).more (Nat.le_trans H10.out.2.2.2.2.2.2.1 (Nat.le_trans HBA.out.size B12.out.size)));rw [HB2.out] at HE2;refine HE2.mono ?_;rintro e w13 ⟨rfl,rfl⟩)
   refine wpAny_take (i:=14) rfl (by kernel_rfl) (by kernel_rfl) (by kernel_rfl) (fun _ _ _ h=>h) (Or.inl ⟨by rfl,by (intro w;go_simp;try with_reducible rfl)⟩) ?_
   go_simp
   refine wpAny_take (i:=15) rfl (by kernel_rfl) (by kernel_rfl) (by kernel_rfl) (fun _ _ _ h=>h) (Or.inl ⟨by rfl,by (intro w;go_simp;try with_reducible rfl)⟩) ?_
   go_simp
   refine wpAny_done (by kernel_rfl) ?_ _
   have hbw:Below W10.heap.size W10 w12:=HBA.out.trans (B12.out.mono HBA.out.size)
   have hfw:Frm (· = fb) w w12:=H10.out.2.1.transW (Frm.of_below (S:=fun _=>False) hbw) (fun _ h=>h.elim)
   have gc12:w12.cell? ⟨w.heap.size,0,none⟩=some (.slice A9 L8 k9):=(hbw.cell (p:=⟨w.heap.size,0,none⟩) (World.block_lt_of_cell? W10 ⟨w.heap.size,0,none⟩ gc10)).trans gc10
   have HFW:=hid (And.intro hfw hbw)
   clear hfw hbw
   cases b2 with
   | false =>
    have HEE:Hid (E=.inl 11):=hid (by rw [HXJ.out,if_pos (.inr (by simpa using HB2.out))])
    go_wp2
    go_ret2
    exact indexEnd_err HEE.out HFW.out.1
   | true =>
    have HEE:Hid (E=.inr (U+q4,r.drop q4)):=hid (by
     rw [HXJ.out,if_neg]
     rintro (h | h)
     ·exact h (by simpa using HB1.out)
     exact h (by simpa using HB2.out))
    have hL4:((L8:Int)+4)=((U+q4:Nat):Int):=by have:=HL8.out;omega
    obtain ⟨N4,hN4⟩:∃ N,U+q4=N:=⟨_,rfl⟩
    rw [hN4] at hL4 HEE
    have hNw:IntKind.i64.wrap (N4:Int)=(N4:Int):=Go.IntWalk.i64_in _ (by have:=HGR.out.2.1;have:=HB.out.2.2.1;have:=HN6.out;have:=HS6.out.2.2.2.1;omega)
    clear hN4
    go_wp2
    go_ret2
    rw [HEE.out]
    refine ⟨HFW.out.1,rfl,_,_,_,_,H10.out.2.2.2.2.2.1.below HFW.out.2 (Pts.lt H10.out.2.2.2.2.2.1),by have:=HS6.out.2.1;have:=HN6.out;omega,H10.out.2.2.2.2.1.below (HFW.out.2.mono H10.out.2.2.2.2.2.2.1),by rw [List.length_drop,HS6.out.2.2.2.1],by have:=HS6.out.2.2.2.2.1;omega,by have:=HS6.out.2.2.2.2.2;omega⟩
 have qz:((z:Int) != 0)=true:=bne_iff_ne.2 (by omega)
 have HEE:Hid (E=.inl z):=hid (by rw [← HE.out];unfold xIndex;rw [HZ.out.2.2 hz])
 clear hz
 go_wp2
 go_ret2
 exact indexEnd_err HEE.out HZ.out.1
open Go.RowKit Rng Win Lz
theorem SumAt.frmX {w w':World} {s:Nat} {own:Nat→Prop} {kind:Int} {all:List UInt8} {S:Nat→Prop} (h:SumAt w s own kind all) (hf:Frm S w w') (hn:∀ k,own k→¬ S k):SumAt w' s own kind all:=by
 cases h with
 | crc32 c hk hs hc ho hne=>exact .crc32 c hk (hs.frm hf (hn _ ((ho _).2 (.inl rfl)))) (Pts.frm hc hf (hn _ ((ho _).2 (.inr rfl)))) ho hne
 | crc64 c hk hs hc ho hne=>exact .crc64 c hk (hs.frm hf (hn _ ((ho _).2 (.inl rfl)))) (Pts.frm hc hf (hn _ ((ho _).2 (.inr rfl)))) ho hne
 | xxh64 c v hk hs hc ho hne =>
  exact .xxh64 c v hk (hs.frm hf (hn _ ((ho _).2 (.inl rfl)))) ⟨hc.1.frm hf (hn _ ((ho _).2 (.inr (.inl rfl)))),hc.2.frm hf fun k hk=>hn _ ((ho _).2 (.inr (.inr hk)))⟩ ho hne
 | none hk hs ho=>exact .none hk (hs.frm hf (hn _ ((ho _).2 rfl))) ho
theorem SumAt.cellsX {w:World} {s:Nat} {own:Nat→Prop} {kind:Int} {all:List UInt8} (h:SumAt w s own kind all):∀ k,own k→∃ c t f,w.heap[k]?=some (.cells c t f):=by
 intro k hk
 cases h with
 | crc32 c _ hs hc ho hne=>rcases (ho k).1 hk with rfl | rfl;exact ⟨_,_,_,hs⟩;exact ⟨_,_,_,hc⟩
 | crc64 c _ hs hc ho hne=>rcases (ho k).1 hk with rfl | rfl;exact ⟨_,_,_,hs⟩;exact ⟨_,_,_,hc⟩
 | xxh64 c v _ hs hc ho hne =>
  rcases (ho k).1 hk with rfl | rfl | h1
  ·exact ⟨_,_,_,hs⟩
  ·exact ⟨_,_,_,hc.1⟩
  ·rcases hc.2.form with ⟨h2,_⟩ | ⟨g,cap,cur,h2,_,hh,_⟩
   ·rw [h2] at h1;cases h1
   ·rw [h2] at h1
    injection h1 with h1
    subst h1
    exact ⟨_,_,_,hh⟩
 | none _ hs ho=>rw [(ho k).1 hk];exact ⟨_,_,_,hs⟩
theorem lt_of_cells {w:World} {q:Nat} (h:∃ c t f,w.heap[q]?=some (.cells c t f)):q<w.heap.size:=by
 obtain ⟨_,_,_,h⟩:=h
 exact (Array.getElem?_eq_some_iff.1 h).1
theorem chkK_cases (k:Int):chkK k=1∨chkK k=2∨chkK k=0:=by
 unfold chkK
 repeat' split
 ·exact .inl rfl
 ·exact .inr (.inl rfl)
 exact .inr (.inr rfl)
section
variable (nb sc bx rb fb bud : Nat) (put hold : Value) (kind : Int) (told : Nat) (lv : Value) (out : List UInt8) (B0 : Nat) (J : (Nat → Prop) → List UInt8 → World → Prop)
structure JBx (Mi own:Nat→Prop) (sb:Nat) (T:List UInt8) (W:World):Prop where
 n:Pts W nb #[.int .i64 (T.length:Int)] 3
 s:Pts W sc #[.iface 42 (.pointer (some ⟨sb,0,none⟩))] 116
 x:Pts W bx #[.pointer (some ⟨rb,0,none⟩)] 76
 r:RxAt W rb fb bud put hold kind told lv
 u:SumAt W sb own (chkK kind) T
 j:J Mi (out++T) W
 o:∀ q,own q→B0≤q∧¬ Mi q∧q≠nb∧q≠sc∧q≠bx∧q≠rb
 m:∀ q,Mi q→q≠nb∧q≠sc∧q≠bx∧q≠rb
def JB (M:Nat→Prop) (T:List UInt8) (W:World):Prop :=
 ∃ Mi own sb,JBx nb sc bx rb fb bud put hold kind told lv out B0 J Mi own sb T W∧∀ q,M q↔(q=nb∨q=sc∨q=bx∨q=rb∨own q∨Mi q)
end
section
variable {nb sc bx rb fb bud : Nat} {put hold : Value} {kind : Int} {told : Nat} {lv : Value} {out : List UInt8} {B0 : Nat} {J : (Nat → Prop) → List UInt8 → World → Prop} {Mi own : Nat → Prop} {sb : Nat} {T : List UInt8} {W : World}
theorem JBx.ne (h:JBx nb sc bx rb fb bud put hold kind told lv out B0 J Mi own sb T W):nb≠sc∧nb≠bx∧nb≠rb∧sc≠bx∧sc≠rb∧bx≠rb :=
 ⟨h.n.ne_of h.s (by decide),h.n.ne_of h.x (by decide),h.n.ne_of h.r (by decide),h.s.ne_of h.x (by decide),h.s.ne_of h.r (by decide),h.x.ne_of h.r (by decide)⟩
end
theorem meth_sA (a : Addr) (w : World) : (method 371 42 (.pointer (some a)) "Add").run Tryz.prog w = .ok (20, .pointer (some a)) w := by kernel_rfl
theorem meth_sV (a : Addr) (w : World) : (method 371 42 (.pointer (some a)) "Value").run Tryz.prog w = .ok (28, .pointer (some a)) w := by kernel_rfl
theorem BRow.below' {w w':World} {B:Nat} {A:Option Addr} {bs:List UInt8} {N:Nat→Prop} (h:BRow w B A bs) (hf:Frm N w w') (hN:BOff N A bs):BRow w' B A bs:=by
 intro hn
 obtain ⟨c,off,rfl,hlt,hcell⟩:=h hn
 exact ⟨c,off,rfl,hlt,fun k hk=>(World.cell?_of_block (w:=w) (hf.block c (World.block_lt_of_cell? w ⟨c,off+k,none⟩ (hcell k hk)) (hN hn _ rfl))).trans (hcell k hk)⟩
theorem row_off {W:World} {B q:Nat} {Ab:Option Addr} {b:List UInt8} {c:Array Value} {t:TypeId} {f:Nat×Nat} (hr:BRow W B Ab b) (hq:W.heap[q]?=some (.cells c t f)) (hc:∀ (k:Nat) (z:Int),c[k]?≠some (Value.int .u8 z)):0<b.length→∀ ad,Ab=some ad→ad.block≠q:=by
 intro h0 ad hA e
 obtain ⟨bl,off,rfl,hlt,hcell⟩:=hr h0
 injection hA with hA
 subst hA
 have e:bl=q:=e
 subst e
 have h1:=hcell 0 h0
 unfold World.cell? at h1
 simp only [hq] at h1
 exact hc _ _ (by simpa [byteV] using h1)
theorem crcCells_u64 (n all:Int) (tab:Nat→Int):∀ (k:Nat) (z:Int),(crcCells n all tab)[k]?≠some (Value.int .u8 z):=by
 intro k z
 rcases Nat.lt_or_ge k 2 with h2 | h2
 ·have hk:k=0∨k=1:=by omega
  rcases hk with rfl | rfl
  ·rw [crcCells_0];simp
  rw [crcCells_1];simp
 obtain ⟨j,rfl⟩:∃ j,k=2+j:=⟨k-2,by omega⟩
 by_cases hk:j<256
 ·rw [crcCells_2 _ _ _ _ hk];simp
 intro h
 have:=(Array.getElem?_eq_some_iff.1 h).1
 simp [crcCells] at this
 omega
theorem one_no8 (v:Value) (hv:∀ z,v≠Value.int .u8 z):∀ (k:Nat) (z:Int),(#[v]:Array Value)[k]?≠some (Value.int .u8 z):=by
 intro k z h
 rcases Nat.eq_zero_or_pos k with rfl | hk
 ·injection h with h;exact hv z h
 have:=(Array.getElem?_eq_some_iff.1 h).1
 simp at this
 omega
theorem sum_off {W:World} {B s:Nat} {own:Nat→Prop} {kind:Int} {all b:List UInt8} {Ab:Option Addr} (hk:kind=1∨kind=2∨kind=0) (h:SumAt W s own kind all) (hr:BRow W B Ab b):BOff own Ab b:=by
 intro h0 ad hA hq
 cases h with
 | crc32 c hk hs hc ho hne =>
  rcases (ho _).1 hq with e | e
  ·exact row_off hr hs (one_no8 _ (fun z h=>by cases h)) h0 ad hA e
  ·exact row_off hr hc (crcCells_u64 _ _ _) h0 ad hA e
 | crc64 c hk hs hc ho hne =>
  rcases (ho _).1 hq with e | e
  ·exact row_off hr hs (one_no8 _ (fun z h=>by cases h)) h0 ad hA e
  ·exact row_off hr hc (crcCells_u64 _ _ _) h0 ad hA e
 | xxh64 c v hk2 hs hc ho hne=>omega
 | none hk hs ho=>exact row_off hr hs (one_no8 _ (fun z h=>by cases h)) h0 ad hA ((ho _).1 hq)
set_option maxRecDepth 100000 in
set_option maxHeartbeats 2000000 in
theorem blk1_p (nb sc bx rb fb bud fput B0 BO most:Nat) (lb:Array Value) (hold:Value) (kind:Int) (told:Nat) (lv:Value) (out T b:List UInt8) (J:(Nat→Prop)→List UInt8→World→Prop) (Mi own:Nat→Prop) (sb:Nat) (Ab:Option Addr) (cb:Nat) (W:World)
 (hp:PutOk Tryz.prog fput lb B0 most J) (h:JBx nb sc bx rb fb bud (.func (.func fput) #[] lb) hold kind told lv out BO J Mi own sb T W) (hr:BRow W W.heap.size Ab b) (hbc:b.length≤cb) (hcm:cb≤maxLen) (hl:out.length+(T.length+b.length)≤most) (hm:most≤16777216) (hB0:BO≤W.heap.size) :
 Calls Tryz.prog 64 #[.slice Ab b.length cb,.pointer (some ⟨nb,0,none⟩),.pointer (some ⟨sc,0,none⟩),.pointer (some ⟨bx,0,none⟩)] W fun e W'=>e=.returned (.bool true)∧∃ Mi' own',JBx nb sc bx rb fb bud (.func (.func fput) #[] lb) hold kind told lv out BO J Mi' own' sb (T++b) W' ∧
  Frm (fun q=>q=nb∨own q∨Mi q) W W'∧(∀ q,Mi' q→Mi q∨(W.heap.size≤q∧q<W'.heap.size))∧(∀ q,own' q→own q∨(W.heap.size≤q∧q<W'.heap.size)):=by
 have H:=hid h
 have HP:=hid hp
 have hoff1:BOff (fun q=>q=nb) Ab b:=fun h0 ad hA e=>row_off hr h.n (one_no8 _ (fun z h=>by cases h)) h0 ad hA e
 have hoff2:=sum_off (chkK_cases kind) h.u hr
 have HR:Hid (BRow W W.heap.size Ab b∧BOff (fun q=>q=nb) Ab b∧BOff own Ab b):=hid ⟨hr,hoff1,hoff2⟩
 have HH:Hid (b.length≤cb∧cb≤maxLen∧out.length+(T.length+b.length)≤most∧most≤16777216∧BO≤W.heap.size):=hid ⟨hbc,hcm,hl,hm,hB0⟩
 have cn:W.cell? ⟨nb,0,none⟩=some (.int .i64 (T.length:Int)):=by rw [h.n.cell];rfl
 have zn:=h.n.frozen 0
 obtain ⟨n1,n2,n3,n4,n5,n6⟩:=h.ne
 obtain ⟨W1,hW1⟩:∃ W1,W.setCell ⟨nb,0,none⟩ (.int .i64 ((T.length+b.length:Nat):Int))=W1:=⟨_,rfl⟩
 have hf1:Frm (fun q=>q=nb) W W1:=by rw [← hW1];exact (Frm.refl (fun q=>q=nb) W).setCell (p:=⟨nb,0,none⟩) rfl _
 have hz1:W1.heap.size=W.heap.size:=by rw [← hW1];simp [World.setCell]
 have hn1:Pts W1 nb #[.int .i64 ((T.length+b.length:Nat):Int)] 3:=by rw [← hW1];exact h.n.set 0 _
 have hs1:=h.s.frm hf1 (fun e=>n1 e.symm)
 have hx1:=h.x.frm hf1 (fun e=>n2 e.symm)
 have hr1:RxAt W1 rb fb bud (.func (.func fput) #[] lb) hold kind told lv:=Pts.frm h.r hf1 (fun e=>n3 e.symm)
 have hu1:=h.u.frmX hf1 (fun q hq e=>(h.o q hq).2.2.1 e)
 have hj1:=hp.keep Mi _ W W1 h.j (hf1.mono fun q _ e hm=>(h.m q hm).1 e)
 have hb1:BRow W1 W.heap.size Ab b:=hr.off hoff1 hf1
 have hs1c:W1.cell? ⟨sc,0,none⟩=some (.iface 42 (.pointer (some ⟨sb,0,none⟩))):=by rw [hs1.cell];rfl
 have HA:=hid (add_crc sb own (chkK kind) T Ab b b.length cb W.heap.size W1 hu1 (by unfold chkK;split <;> (try split) <;> decide) rfl hb1 hoff2 (by omega))
 have H1:Hid (Frm (fun q=>q=nb) W W1∧W1.heap.size=W.heap.size∧Pts W1 nb #[.int .i64 ((T.length+b.length:Nat):Int)] 3∧Pts W1 sc #[.iface 42 (.pointer (some ⟨sb,0,none⟩))] 116∧Pts W1 bx #[.pointer (some ⟨rb,0,none⟩)] 76∧RxAt W1 rb fb bud (.func (.func fput) #[] lb) hold kind told lv∧J Mi (out++T) W1∧BRow W1 W.heap.size Ab b):=hid ⟨hf1,hz1,hn1,hs1,hx1,hr1,hj1,hb1⟩
 have hi:IntKind.i64.wrap ((T.length:Int)+(b.length:Int))=((T.length+b.length:Nat):Int):=by rw [Go.IntWalk.i64_in _ (by omega)];omega
 obtain ⟨L,hL⟩:∃ L,T.length+b.length=L:=⟨_,rfl⟩
 have HL:=hid hL
 obtain ⟨tl,htl⟩:∃ tl,T.length=tl:=⟨_,rfl⟩
 rw [hL] at hi H1 hW1
 rw [htl] at hi cn
 have mA:=meth_sA
 obtain ⟨bl,hbl⟩:∃ bl,b.length=bl:=⟨_,rfl⟩
 have HBL:=hid (And.intro htl hbl)
 rw [hbl] at HA hi
 rw [hbl]
 clear h hp hr hoff1 hoff2 hbc hcm hl hm hB0 n1 n2 n3 n4 n5 n6 hf1 hz1 hn1 hs1 hx1 hr1 hu1 hj1 hb1 hL htl hbl
 go_enter Tryz.func64,Tryz.ntmps64
 go_wp2_with fail
 refine HA.out.mono ?_;rintro e w2 ⟨rfl,own',hu2,ho2,hf2⟩
 have hn2:=H1.out.2.2.1.frm hf2 (fun hq=>(H.out.o _ hq).2.2.1 rfl)
 have hs2:=H1.out.2.2.2.1.frm hf2 (fun hq=>(H.out.o _ hq).2.2.2.1 rfl)
 have hx2:=H1.out.2.2.2.2.1.frm hf2 (fun hq=>(H.out.o _ hq).2.2.2.2.1 rfl)
 have hr2:RxAt w2 rb fb bud (.func (.func fput) #[] lb) hold kind told lv:=Pts.frm H1.out.2.2.2.2.2.1 hf2 (fun hq=>(H.out.o _ hq).2.2.2.2.2 rfl)
 have hj2:=HP.out.keep Mi _ W1 w2 H1.out.2.2.2.2.2.2.1 (hf2.mono fun q _ hq hm=>(H.out.o q hq).2.1 hm)
 have hb2:BRow w2 w2.heap.size Ab b:=(H1.out.2.2.2.2.2.2.2.below' hf2 HR.out.2.2).more (by have:=hf2.size;have:=H1.out.2.1;omega)
 have hxc:w2.cell? ⟨bx,0,none⟩=some (.pointer (some ⟨rb,0,none⟩)):=by rw [hx2.cell];rfl
 have hrc:w2.cell? ⟨rb,2,none⟩=some (.func (.func fput) #[] lb):=hr2.cells.2.2.1
 have H2:Hid (Pts w2 nb #[.int .i64 (L:Int)] 3∧Pts w2 sc #[.iface 42 (.pointer (some ⟨sb,0,none⟩))] 116∧Pts w2 bx #[.pointer (some ⟨rb,0,none⟩)] 76∧RxAt w2 rb fb bud (.func (.func fput) #[] lb) hold kind told lv∧SumAt w2 sb own' (chkK kind) (T++b)∧(∀ k,own' k→own k∨W1.heap.size≤k)∧Frm own W1 w2):=hid ⟨hn2,hs2,hx2,hr2,hu2,ho2,hf2⟩
 have HC:=HP.out.call Mi (out++T) b Ab cb w2 hj2 hb2 HH.out.1 HH.out.2.1 (by rw [List.length_append];have:=HH.out.2.2.1;omega)
 rw [HBL.out.2] at HC
 have HCC:=hid HC
 have hent:=HP.out.ent
 clear hn2 hs2 hx2 hr2 hj2 hb2 hu2 ho2 hf2 HC HA
 go_wp2
 refine HCC.out.mono ?_;rintro e w3 ⟨rfl,Mi',hj3,hf3,hm3⟩
 have hm2:∀ q,Mi q→q<W1.heap.size:=HP.out.lt H1.out.2.2.2.2.2.2.1
 have ho1:∀ q,own q→q<W.heap.size:=fun q hq=>lt_of_cells (H.out.u.cellsX q hq)
 have ho2:∀ q,own' q→q<w2.heap.size:=fun q hq=>lt_of_cells (H2.out.2.2.2.2.1.cellsX q hq)
 have hz12:=H2.out.2.2.2.2.2.2.size
 have hz1:=H1.out.2.1
 have hz23:=hf3.size
 have hnl:=H.out.n.lt
 have hsl:=H.out.s.lt
 have hxl:=H.out.x.lt
 have hrl:=Pts.lt H.out.r
 have hoM:∀ q,own' q→¬ Mi q:=fun q hq hm=>by
  rcases H2.out.2.2.2.2.2.1 q hq with h1 | h1
  ·exact (H.out.o q h1).2.1 hm
  have:=hm2 q hm;omega
 have hJ3:JBx nb sc bx rb fb bud (.func (.func fput) #[] lb) hold kind told lv out BO J Mi' own' sb (T++b) w3:=by
  refine ⟨?_,H2.out.2.1.frm hf3 (fun hm=>(H.out.m _ hm).2.1 rfl),H2.out.2.2.1.frm hf3 (fun hm=>(H.out.m _ hm).2.2.1 rfl),Pts.frm H2.out.2.2.2.1 hf3 (fun hm=>(H.out.m _ hm).2.2.2 rfl),H2.out.2.2.2.2.1.frmX hf3 hoM,by rw [← List.append_assoc];exact hj3,fun q hq=>?_,fun q hq=>?_⟩
  ·have h3:=H2.out.1.frm hf3 (fun hm=>(H.out.m _ hm).1 rfl)
   rw [← HL.out,← List.length_append] at h3
   exact h3
  ·refine ⟨?_,fun hm=>?_,?_⟩
   ·rcases H2.out.2.2.2.2.2.1 q hq with h1 | h1
    ·exact (H.out.o q h1).1
    have:=HH.out.2.2.2.2;omega
   ·rcases hm3 q hm with h1 | h1
    ·exact hoM q hq h1
    have:=ho2 q hq;omega
   rcases H2.out.2.2.2.2.2.1 q hq with h1 | h1
   ·exact (H.out.o q h1).2.2
   exact ⟨by omega,by omega,by omega,by omega⟩
  rcases hm3 q hq with h1 | h1
  ·exact H.out.m q h1
  exact ⟨by omega,by omega,by omega,by omega⟩
 have hF3:Frm (fun q=>q=nb∨own q∨Mi q) W w3 :=
  ((H1.out.1.mono (S':=fun q=>q=nb∨own q∨Mi q) fun q _ h=>.inl h).trans (H2.out.2.2.2.2.2.2.mono fun q _ h=>.inr (.inl h))).trans (hf3.mono fun q _ h=>.inr (.inr h))
 have hM3:∀ q,Mi' q→Mi q∨(W.heap.size≤q∧q<w3.heap.size):=fun q hq=>(hm3 q hq).imp id (fun h=>⟨by omega,h.2⟩)
 have hO3:∀ q,own' q→own q∨(W.heap.size≤q∧q<w3.heap.size):=fun q hq=>(H2.out.2.2.2.2.2.1 q hq).imp id (fun h=>⟨by omega,by have:=ho2 q hq;omega⟩)
 have FIN:=hid (And.intro hJ3 (And.intro hF3 (And.intro hM3 hO3)))
 clear hJ3 hF3 hM3 hO3 hoM ho1 ho2 hm2 hm3 hf3 hj3 hent hxc hrc
 go_wp2
 go_ret
 exact ⟨rfl,Mi',own',FIN.out.1,FIN.out.2.1,FIN.out.2.2.1,FIN.out.2.2.2⟩
theorem blk1_ok (nb sc bx rb fb bud fput B0 BO most most':Nat) (lb:Array Value) (hold:Value) (kind:Int) (told:Nat) (lv:Value) (out:List UInt8) (J:(Nat→Prop)→List UInt8→World→Prop)
 (hp:PutOk Tryz.prog fput lb B0 most J) (hl:out.length+most'≤most) (hm:most≤16777216) (h0:B0≤BO) (h1:BO≤nb) (h2:B0≤sc) (h3:B0≤bx) (h4:B0≤rb) :
 PutOk Tryz.prog 64 #[.pointer (some ⟨nb,0,none⟩),.pointer (some ⟨sc,0,none⟩),.pointer (some ⟨bx,0,none⟩)] B0 most' (JB nb sc bx rb fb bud (.func (.func fput) #[] lb) hold kind told lv out BO J) where
 ent:=enters_of Tryz.func64 (by kernel_rfl) rfl
 keep:=by
  rintro M T W W' ⟨Mi,own,sb,h,hM⟩ hf
  have hk:∀ q,(q=nb∨q=sc∨q=bx∨q=rb∨own q∨Mi q)→¬ ¬ M q:=fun q hq hn=>hn ((hM q).2 hq)
  refine ⟨Mi,own,sb,⟨h.n.frm hf (hk _ (.inl rfl)),h.s.frm hf (hk _ (.inr (.inl rfl))),h.x.frm hf (hk _ (.inr (.inr (.inl rfl)))),Pts.frm h.r hf (hk _ (.inr (.inr (.inr (.inl rfl))))),h.u.frmX hf (fun q hq=>hk q (.inr (.inr (.inr (.inr (.inl hq)))))),hp.keep Mi _ W W' h.j (hf.mono fun q _ hn hm=>hn ((hM q).2 (.inr (.inr (.inr (.inr (.inr hm))))))),h.o,h.m⟩,hM⟩
 own:=by
  rintro M T W ⟨Mi,own,sb,h,hM⟩ q hq
  rcases (hM q).1 hq with e | e | e | e | e | e
  ·subst e;exact ⟨Nat.le_trans h0 h1,_,_,_,h.n⟩
  ·subst e;exact ⟨h2,_,_,_,h.s⟩
  ·subst e;exact ⟨h3,_,_,_,h.x⟩
  ·subst e;exact ⟨h4,_,_,_,h.r⟩
  ·exact ⟨Nat.le_trans h0 (h.o q e).1,h.u.cellsX q e⟩
  exact hp.own Mi _ W h.j q e
 call:=by
  rintro M T b Ab cb W ⟨Mi,own,sb,h,hM⟩ hr hbc hcm hl2
  refine (blk1_p nb sc bx rb fb bud fput B0 BO most lb hold kind told lv out T b J Mi own sb Ab cb W hp h hr hbc hcm (by omega) hm (by have:=h.n.lt;omega)).mono ?_
  rintro e W' ⟨rfl,Mi',own',h',hf,hm',ho'⟩
  refine ⟨rfl,fun q=>q=nb∨q=sc∨q=bx∨q=rb∨own' q∨Mi' q,⟨Mi',own',sb,h',fun q=>Iff.rfl⟩,hf.mono fun q _ hq=>(hM q).2 ?_,?_⟩
  ·rcases hq with e | e | e
   ·exact .inl e
   ·exact .inr (.inr (.inr (.inr (.inl e))))
   exact .inr (.inr (.inr (.inr (.inr e))))
  rintro q (e | e | e | e | e | e)
  ·exact .inl ((hM q).2 (.inl e))
  ·exact .inl ((hM q).2 (.inr (.inl e)))
  ·exact .inl ((hM q).2 (.inr (.inr (.inl e))))
  ·exact .inl ((hM q).2 (.inr (.inr (.inr (.inl e)))))
  ·exact (ho' q e).imp (fun h=>(hM q).2 (.inr (.inr (.inr (.inr (.inl h)))))) id
  exact (hm' q e).imp (fun h=>(hM q).2 (.inr (.inr (.inr (.inr (.inr h)))))) id
open Go.RowKit Box
section
variable {w0 w : World} {s : Int} {n p q : Nat}
theorem BkAt.drew (S:BkAt w0 w s n p q):BkAt w0 w.drew s n p q:=⟨S.ps.drew,S.pn.drew,S.pp.drew,S.pq.drew,S.pe.drew,S.be.drew⟩
theorem BkAt.put0 (S:BkAt w0 w s n p q):BkAt w0 (w.setCell ⟨w0.heap.size,0,none⟩ (.int .i64 s)) s n p q :=
 ⟨S.ps.set 0 _,S.pn.other (p:=⟨w0.heap.size,0,none⟩) (by show w0.heap.size+1≠w0.heap.size;omega) _,S.pp.other (p:=⟨w0.heap.size,0,none⟩) (by show w0.heap.size+2≠w0.heap.size;omega) _,S.pq.other (p:=⟨w0.heap.size,0,none⟩) (by show w0.heap.size+3≠w0.heap.size;omega) _,S.pe.other (p:=⟨w0.heap.size,0,none⟩) (by show w0.heap.size+4≠w0.heap.size;omega) _,S.be.setCell (p:=⟨w0.heap.size,0,none⟩) (show w0.heap.size≤w0.heap.size by omega) _⟩
theorem BkAt.put1 (S:BkAt w0 w s n p q):BkAt w0 (w.setCell ⟨w0.heap.size+1,0,none⟩ (.int .i64 (n:Int))) s n p q :=
 ⟨S.ps.other (p:=⟨w0.heap.size+1,0,none⟩) (by show w0.heap.size≠w0.heap.size+1;omega) _,S.pn.set 0 _,S.pp.other (p:=⟨w0.heap.size+1,0,none⟩) (by show w0.heap.size+2≠w0.heap.size+1;omega) _,S.pq.other (p:=⟨w0.heap.size+1,0,none⟩) (by show w0.heap.size+3≠w0.heap.size+1;omega) _,S.pe.other (p:=⟨w0.heap.size+1,0,none⟩) (by show w0.heap.size+4≠w0.heap.size+1;omega) _,S.be.setCell (p:=⟨w0.heap.size+1,0,none⟩) (show w0.heap.size≤w0.heap.size+1 by omega) _⟩
theorem BkAt.put2 (S:BkAt w0 w s n p q):BkAt w0 (w.setCell ⟨w0.heap.size+2,0,none⟩ (.int .u64 (p:Int))) s n p q :=
 ⟨S.ps.other (p:=⟨w0.heap.size+2,0,none⟩) (by show w0.heap.size≠w0.heap.size+2;omega) _,S.pn.other (p:=⟨w0.heap.size+2,0,none⟩) (by show w0.heap.size+1≠w0.heap.size+2;omega) _,S.pp.set 0 _,S.pq.other (p:=⟨w0.heap.size+2,0,none⟩) (by show w0.heap.size+3≠w0.heap.size+2;omega) _,S.pe.other (p:=⟨w0.heap.size+2,0,none⟩) (by show w0.heap.size+4≠w0.heap.size+2;omega) _,S.be.setCell (p:=⟨w0.heap.size+2,0,none⟩) (show w0.heap.size≤w0.heap.size+2 by omega) _⟩
theorem BkAt.put3 (S:BkAt w0 w s n p q):BkAt w0 (w.setCell ⟨w0.heap.size+3,0,none⟩ (.int .u64 (q:Int))) s n p q :=
 ⟨S.ps.other (p:=⟨w0.heap.size+3,0,none⟩) (by show w0.heap.size≠w0.heap.size+3;omega) _,S.pn.other (p:=⟨w0.heap.size+3,0,none⟩) (by show w0.heap.size+1≠w0.heap.size+3;omega) _,S.pp.other (p:=⟨w0.heap.size+3,0,none⟩) (by show w0.heap.size+2≠w0.heap.size+3;omega) _,S.pq.set 0 _,S.pe.other (p:=⟨w0.heap.size+3,0,none⟩) (by show w0.heap.size+4≠w0.heap.size+3;omega) _,S.be.setCell (p:=⟨w0.heap.size+3,0,none⟩) (show w0.heap.size≤w0.heap.size+3 by omega) _⟩
theorem BkAt.put4 (S:BkAt w0 w s n p q):BkAt w0 (w.setCell ⟨w0.heap.size+4,0,none⟩ (.int .i64 0)) s n p q :=
 ⟨S.ps.other (p:=⟨w0.heap.size+4,0,none⟩) (by show w0.heap.size≠w0.heap.size+4;omega) _,S.pn.other (p:=⟨w0.heap.size+4,0,none⟩) (by show w0.heap.size+1≠w0.heap.size+4;omega) _,S.pp.other (p:=⟨w0.heap.size+4,0,none⟩) (by show w0.heap.size+2≠w0.heap.size+4;omega) _,S.pq.other (p:=⟨w0.heap.size+4,0,none⟩) (by show w0.heap.size+3≠w0.heap.size+4;omega) _,S.pe.set 0 _,S.be.setCell (p:=⟨w0.heap.size+4,0,none⟩) (show w0.heap.size≤w0.heap.size+4 by omega) _⟩
end
set_option maxRecDepth 100000 in
set_option maxHeartbeats 600000 in
theorem block_p (A:Option Addr) (bs:List UInt8) (n c:Nat) (w:World) (hn:n=bs.length) (hc:n≤c) (hcm:c≤maxLen) (hr:BRow w w.heap.size A bs) :
 Calls Tryz.prog 34 #[.slice A n c] w (BlkPost (blockOf bs) w):=by
 subst hn
 have hmf:∀ (fn:Fn) (first cap:Array Value) (w:World),(Instr.makeFunc fn first cap).run Tryz.prog w=.ok (.func fn first cap) w:=fun _ _ _ _=>rfl
 have s1:∃ w1,(((((w.alloc (.cells #[.int .i64 0] 3)).alloc (.cells #[.int .i64 0] 3)).alloc (.cells #[.int .u64 0] 46)).alloc (.cells #[.int .u64 0] 46)).alloc (.cells #[.int .i64 0] 32)).alloc (.cells #[.slice A bs.length c,.int .i64 0] 96)=w1∧BkAt w w1 0 0 0 0∧CurAt w1 (w.heap.size+5) w.heap.size bs 0:=by
  have sz1:(w.alloc (.cells #[.int .i64 0] 3)).heap.size=w.heap.size+1:=by show (w.heap.push _).size=_;rw [Array.size_push]
  have q1:=Pts.new w #[.int .i64 0] 3
  have b1:Below w.heap.size w _:=(Below.refl _ w).alloc (Nat.le_refl _) (.cells #[.int .i64 0] 3)
  generalize w.alloc (.cells #[.int .i64 0] 3)=x1 at *
  have sz2:(x1.alloc (.cells #[.int .i64 0] 3)).heap.size=w.heap.size+2:=by show (x1.heap.push _).size=_;rw [Array.size_push,sz1]
  have q2:=Pts.new x1 #[.int .i64 0] 3
  have q1:=q1.alloc (.cells #[.int .i64 0] 3)
  have b2:=b1.alloc b1.size (.cells #[.int .i64 0] 3)
  rw [sz1] at q2
  generalize x1.alloc (.cells #[.int .i64 0] 3)=x2 at *
  have sz3:(x2.alloc (.cells #[.int .u64 0] 46)).heap.size=w.heap.size+3:=by show (x2.heap.push _).size=_;rw [Array.size_push,sz2]
  have q3:=Pts.new x2 #[.int .u64 0] 46
  have q1:=q1.alloc (.cells #[.int .u64 0] 46)
  have q2:=q2.alloc (.cells #[.int .u64 0] 46)
  have b3:=b2.alloc b2.size (.cells #[.int .u64 0] 46)
  rw [sz2] at q3
  generalize x2.alloc (.cells #[.int .u64 0] 46)=x3 at *
  have sz4:(x3.alloc (.cells #[.int .u64 0] 46)).heap.size=w.heap.size+4:=by show (x3.heap.push _).size=_;rw [Array.size_push,sz3]
  have q4:=Pts.new x3 #[.int .u64 0] 46
  have q1:=q1.alloc (.cells #[.int .u64 0] 46)
  have q2:=q2.alloc (.cells #[.int .u64 0] 46)
  have q3:=q3.alloc (.cells #[.int .u64 0] 46)
  have b4:=b3.alloc b3.size (.cells #[.int .u64 0] 46)
  rw [sz3] at q4
  generalize x3.alloc (.cells #[.int .u64 0] 46)=x4 at *
  have sz5:(x4.alloc (.cells #[.int .i64 0] 32)).heap.size=w.heap.size+5:=by show (x4.heap.push _).size=_;rw [Array.size_push,sz4]
  have q5:=Pts.new x4 #[.int .i64 0] 32
  have q1:=q1.alloc (.cells #[.int .i64 0] 32)
  have q2:=q2.alloc (.cells #[.int .i64 0] 32)
  have q3:=q3.alloc (.cells #[.int .i64 0] 32)
  have q4:=q4.alloc (.cells #[.int .i64 0] 32)
  have b5:=b4.alloc b4.size (.cells #[.int .i64 0] 32)
  rw [sz4] at q5
  generalize x4.alloc (.cells #[.int .i64 0] 32)=x5 at *
  have q6:=CurAt.fresh (w:=x5) w hc hcm hr b5 b5.size
  rw [sz5] at q6
  exact ⟨_,rfl,⟨q1.alloc _,q2.alloc _,q3.alloc _,q4.alloc _,q5.alloc _,b5.alloc b5.size _⟩,q6⟩
 obtain ⟨w1,hw1,s1,c1⟩:=s1
 have S1:=hid s1
 have C1:=hid c1
 have CAP:=hid hc
 have ROW:=hid hr
 clear s1 c1 hr
 obtain ⟨R,hR⟩:∃ R,blockOf bs=R:=⟨_,rfl⟩
 rw [hR]
 cases bs with
 | nil =>
  have hR:(0,0,0,0,10)=R:=hR
  subst hR
  simp only [List.length_nil] at hw1
  clear hc
  go_enter_defers Tryz.func34,Tryz.ntmps34
  go_wp2_with fail
  refine (must_bad _ _ _).mono ?_;rintro r w2 ⟨rfl,rfl⟩
  go_wp2
  exact bk_door _ (by decide) _ _ _ _ w w1 S1.out _ rfl rfl rfl rfl rfl
 | cons b r0 =>
  have hRb:=hR
  unfold blockOf at hRb
  simp only at hRb
  obtain ⟨bs,hbs⟩:∃ bs,b::r0=bs:=⟨_,rfl⟩
  have hb0:bs.getD 0 0=b:=by rw [← hbs];rfl
  have hl1:1≤bs.length:=by rw [← hbs];simp
  rw [hbs] at hRb hw1 CAP ROW hc C1 ⊢
  obtain ⟨b0,off,rfl,hbl,hcell⟩:=ROW.out (by omega)
  have k0:w1.cell? ⟨b0,off,none⟩=some (.int .u8 (b.toNat:Int)):=by
   have:=hcell 0 (by omega)
   rw [hb0] at this
   exact (S1.out.be.cell (p:=⟨b0,off+0,none⟩) hbl).trans this
  have hbn:=b.toNat_lt
  obtain ⟨N,hN⟩:∃ N,(b.toNat+1)*4=N:=⟨_,rfl⟩
  rw [hN] at hRb
  have hbz:b=0↔b.toNat=0:=⟨fun e=>by rw [e];rfl,fun e=>by rw [← UInt8.ofNat_toNat (x:=b),e];rfl⟩
  obtain ⟨bn,hbb⟩:∃ bn,b.toNat=bn:=⟨_,rfl⟩
  rw [hbb] at k0 hbn hN hbz
  have hNi:((bn:Int)+1)*4=(N:Int):=by omega
  have hNb:4≤N∧N≤1024:=by omega
  have HRB:=hid hRb
  have HBZ:=hid hbz
  have HN4:=hid hN
  have hl1i:decide (0<bs.length)=true:=decide_eq_true (by omega)
  clear hR hRb hbz hcell hbs hb0 hbb hc hN
  by_cases hsh:bs.length<N
  ·have hR:=HRB.out
   rw [if_pos hsh] at hR
   subst hR
   have HSH:=hid hsh
   clear HRB hsh
   go_enter_defers Tryz.func34,Tryz.ntmps34
   go_wp2_with fail
   refine (must_ok _ _ _).mono ?_;rintro r w2 ⟨rfl,rfl⟩
   go_wp2_with fail
   refine (take_bad (w.heap.size+5) w.heap.size N 0 10 bs w1 C1.out HSH.out).mono ?_;rintro r w2 ⟨rfl,rfl⟩
   go_wp2
   exact bk_door _ (by decide) _ _ _ _ w w1 S1.out _ rfl rfl rfl rfl rfl
  have hR:=HRB.out
  rw [if_neg hsh] at hR
  have HSH:=hid hsh
  have HT:=hid (take_ok (w.heap.size+5) w.heap.size N 0 10 bs w1 C1.out (by omega) (by omega))
  clear HRB hsh
  have lH:(bs.take N).length=N:=by rw [List.length_take];have:=HSH.out;omega
  obtain ⟨H,hH⟩:∃ H,bs.take N=H:=⟨_,rfl⟩
  rw [hH] at hR lH HT
  have LH:=hid lH
  clear hH lH
  by_cases hz:b=0
  ·rw [if_pos hz] at hR
   subst hR
   have hbn0:bn=0:=HBZ.out.1 hz
   have hbq:((bn:Int) != 0)=false:=by rw [hbn0];rfl
   clear hz hbn0
   go_enter_defers Tryz.func34,Tryz.ntmps34
   go_wp2_with fail
   refine (must_ok _ _ _).mono ?_;rintro r w2 ⟨rfl,rfl⟩
   go_wp2_with fail
   refine HT.out.mono ?_;rintro r w2 ⟨A2,c2,rfl,hr2,hc2,hm2,hcu2,hf2⟩
   have S2:=hid (S1.out.frm hf2 (fun k hk=>by omega))
   have k2:w2.cell? ⟨b0,off,none⟩=some (.int .u8 (bn:Int)):=(World.cell?_of_block (w:=w1) (hf2.block b0 (by have:=S1.out.be.size;omega) (by show ¬ _=_;omega))).trans k0
   have C2:=hid hcu2
   have R2:=hid hr2
   have HC2:=hid hc2
   have HM2:=hid hm2
   clear hr2 hc2 hm2 hcu2 hf2
   go_wp2_with fail
   refine (must_bad _ _ _).mono ?_;rintro r w3 ⟨rfl,rfl⟩
   go_wp2
   exact bk_door _ (by decide) _ _ _ _ w w2 S2.out _ rfl rfl rfl rfl rfl
  rw [if_neg hz] at hR
  have hbn0:¬ bn=0:=fun e=>hz (HBZ.out.2 e)
  have hbq:((bn:Int) != 0)=true:=by simp;omega
  have hN8:8≤N:=by have:=HN4.out;omega
  clear hz hbn0
  have HRR:=hid hR
  clear hR
  go_enter_defers Tryz.func34,Tryz.ntmps34
  go_wp2_with fail
  refine (must_ok _ _ _).mono ?_;rintro r w2 ⟨rfl,rfl⟩
  go_wp2_with fail
  refine HT.out.mono ?_;rintro r w2 ⟨A2,c2,rfl,hr2,hc2,hm2,hcu2,hf2⟩
  have S2:=hid (S1.out.frm hf2 (fun k hk=>by omega))
  have k2:w2.cell? ⟨b0,off,none⟩=some (.int .u8 (bn:Int)):=(World.cell?_of_block (w:=w1) (hf2.block b0 (by have:=S1.out.be.size;omega) (by show ¬ _=_;omega))).trans k0
  have C2:=hid hcu2
  have R2:=hid hr2
  have HC2:=hid hc2
  have HM2:=hid hm2
  clear hr2 hc2 hm2 hcu2 hf2
  go_wp2_with fail
  refine (sealed_p A2 H N c2 w2 LH.out.symm (by omega) HC2.out ((R2.out).more S2.out.be.size) (by rw [LH.out];omega)).mono ?_;rintro r w3 ⟨rfl,hb3⟩
  have S3:=hid (S2.out.still hb3)
  have C3:=hid (C2.out.frm (S:=fun _=>False) (Frm.of_below hb3) (fun h=>h) (fun k h=>h.elim))
  have R3:=hid (R2.out.below (hb3.mono S2.out.be.size))
  have hR:=HRR.out
  clear hb3 HRR
  by_cases hse:sealedB H=true
  ·rw [if_neg (fun h=>h hse)] at hR
   rw [hse]
   clear hse
   go_wp2_with fail
   refine (must_ok _ _ _).mono ?_;rintro r w4 ⟨rfl,rfl⟩
   have hs9:∀ w,(Instr.sliceAt 27 (.slice A2 N c2) (some (.int .i64 1)) (some (.int .i64 ((N-4:Nat):Int))) none).run Tryz.prog w=.ok (.slice (A2.map (·.add 1)) (N-4-1) (c2-1)) w:=fun w=>slice_midX A2 N c2 1 (N-4) (by omega) (by omega) HC2.out (by have:=HC2.out;omega) w
   have hrm:=R3.out.mid (f:=1) (t:=N-5) (c:=c2) (by rw [LH.out];exact HC2.out) (by have:=HC2.out;omega)
   obtain ⟨A9,hA9⟩:∃ A9,A2.map (·.add 1)=A9:=⟨_,rfl⟩
   rw [hA9] at hs9 hrm
   obtain ⟨N4,hN4⟩:∃ N4,N-4=N4:=⟨_,rfl⟩
   have hN4i:(N:Int)-4=(N4:Int):=by omega
   obtain ⟨N5,hN5⟩:∃ N5,N4-1=N5:=⟨_,rfl⟩
   rw [hN4,hN5] at hs9
   have hN55:N-5=N5:=by omega
   rw [hN55] at hrm hR
   have hwN4:IntKind.i64.wrap (N4:Int)=(N4:Int):=Go.IntWalk.i64_in _ (by omega)
   obtain ⟨B5,hB5⟩:∃ B5,(H.drop 1).take N5=B5:=⟨_,rfl⟩
   have lB5:N5=B5.length:=by rw [← hB5,List.length_take,List.length_drop,LH.out];omega
   rw [hB5] at hrm hR
   obtain ⟨c9,hc9⟩:∃ c9,c2-1=c9:=⟨_,rfl⟩
   rw [hc9] at hs9
   have hc9b:N5≤c9∧c9≤maxLen:=by have:=HC2.out;have:=HM2.out;omega
   obtain ⟨Ax,cx,hpx,_,_,_,_⟩:=C3.out
   have cx0:w3.cell? ⟨w.heap.size+5,0,none⟩=some (.slice Ax (bs.drop N).length cx):=hpx.cell 0
   have zx0:=hpx.frozen 0
   have hp4:=hpx.set 0 (.slice A9 N5 c9)
   have hf4:Frm (· = w.heap.size+5) w3 (w3.setCell ⟨w.heap.size+5,0,none⟩ (.slice A9 N5 c9)):=(Frm.refl _ w3).setCell (by rfl) _
   have hc4:CurAt (w3.setCell ⟨w.heap.size+5,0,none⟩ (.slice A9 N5 c9)) (w.heap.size+5) w.heap.size B5 (0+N):=by
    rw [lB5] at hp4 hf4 ⊢
    exact ⟨A9,c9,hp4,hrm.frm hf4 S3.out.be.size (fun k hk=>by omega),by omega,hc9b.2,by omega⟩
   have S4:=hid (S3.out.frm hf4 (fun k hk=>by omega))
   have C4:=hid hc4
   have LB:=hid (show 0+N+B5.length≤1000000 by omega)
   have HR9:=hid hR
   generalize hw4:w3.setCell ⟨w.heap.size+5,0,none⟩ (.slice A9 N5 c9)=w4 at *
   have n4:w4.cell? ⟨w.heap.size+1,0,none⟩=some (.int .i64 0):=S4.out.pn.cell 0
   have zn4:=S4.out.pn.frozen 0
   have S5:=hid (show BkAt w (w4.setCell ⟨w.heap.size+1,0,none⟩ (.int .i64 (N:Int))) 0 N 0 0 from
    ⟨S4.out.ps.other (p:=⟨w.heap.size+1,0,none⟩) (by show w.heap.size≠w.heap.size+1;omega) _,S4.out.pn.set 0 _,S4.out.pp.other (p:=⟨w.heap.size+1,0,none⟩) (by show w.heap.size+2≠w.heap.size+1;omega) _,S4.out.pq.other (p:=⟨w.heap.size+1,0,none⟩) (by show w.heap.size+3≠w.heap.size+1;omega) _,S4.out.pe.other (p:=⟨w.heap.size+1,0,none⟩) (by show w.heap.size+4≠w.heap.size+1;omega) _,S4.out.be.setCell (p:=⟨w.heap.size+1,0,none⟩) (show w.heap.size≤w.heap.size+1 by omega) _⟩)
   have hc5:CurAt (w4.setCell ⟨w.heap.size+1,0,none⟩ (.int .i64 (N:Int))) (w.heap.size+5) w.heap.size B5 (0+N):=by
    obtain ⟨A',c',hp',hr',h1',h2',h3'⟩:=C4.out
    have hb':Below w.heap.size w4 (w4.setCell ⟨w.heap.size+1,0,none⟩ (.int .i64 (N:Int))):=(Below.refl _ w4).setCell (p:=⟨w.heap.size+1,0,none⟩) (show w.heap.size≤w.heap.size+1 by omega) _
    exact ⟨A',c',hp'.other (p:=⟨w.heap.size+1,0,none⟩) (by show w.heap.size+5≠w.heap.size+1;omega) _,hr'.below hb',h1',h2',h3'⟩
   have C5:=hid hc5
   clear hR hB5 hA9 hN4 hN5 hN55 hrm hc9 hc4 hc5 hp4 hf4 hpx lB5 hc9b
   generalize hw5:w4.setCell ⟨w.heap.size+1,0,none⟩ (.int .i64 (N:Int))=w5 at *
   go_wp2_with fail
   refine (cblock_p (w.heap.size+5) w.heap.size (0+N) B5 w5 C5.out LB.out).mono ?_;rintro r w6 ⟨hbk,hf6⟩
   have S6:=hid (S5.out.frm hf6 (fun k hk=>by omega))
   clear hf6
   obtain ⟨Q,hQ⟩:∃ Q,bkBody B5=Q:=⟨_,rfl⟩
   rw [hQ] at hbk
   have hR:=HR9.out
   rw [hQ] at hR
   clear HR9 hQ
   match Q,hbk,hR with
   | .error x,hbk,hR =>
    obtain ⟨hx0,rfl⟩:=hbk
    have hR:(0,0,0,0,x)=R:=hR
    subst hR
    have HX0:=hid hx0
    clear hx0
    go_wp2
    exact bk_door _ HX0.out _ _ _ _ w w6 S6.out _ rfl rfl rfl rfl rfl
   | .ok (s,p,q),hbk,hR =>
    have hbk:r=.returned (.tuple #[.int .i64 s,.int .u64 (p:Int),.int .u64 (q:Int)]):=hbk
    subst hbk
    have hR:(s,N,p,q,0)=R:=hR
    subst hR
    have m0:w6.cell? ⟨w.heap.size,0,none⟩=some (.int .i64 0):=S6.out.ps.cell 0
    have zm0:=S6.out.ps.frozen 0
    have m2:w6.cell? ⟨w.heap.size+2,0,none⟩=some (.int .u64 0):=S6.out.pp.cell 0
    have zm2:=S6.out.pp.frozen 0
    have m3:w6.cell? ⟨w.heap.size+3,0,none⟩=some (.int .u64 0):=S6.out.pq.cell 0
    have zm3:=S6.out.pq.frozen 0
    have S7:=hid (show BkAt w (((w6.setCell ⟨w.heap.size,0,none⟩ (.int .i64 s)).setCell ⟨w.heap.size+2,0,none⟩ (.int .u64 (p:Int))).setCell ⟨w.heap.size+3,0,none⟩ (.int .u64 (q:Int))) s N p q from
     ⟨((S6.out.ps.set 0 _).other (p:=⟨w.heap.size+2,0,none⟩) (by show w.heap.size≠w.heap.size+2;omega) _).other (p:=⟨w.heap.size+3,0,none⟩) (by show w.heap.size≠w.heap.size+3;omega) _,
      ((S6.out.pn.other (p:=⟨w.heap.size,0,none⟩) (by show w.heap.size+1≠w.heap.size;omega) _).other (p:=⟨w.heap.size+2,0,none⟩) (by show w.heap.size+1≠w.heap.size+2;omega) _).other (p:=⟨w.heap.size+3,0,none⟩) (by show w.heap.size+1≠w.heap.size+3;omega) _,
      ((S6.out.pp.other (p:=⟨w.heap.size,0,none⟩) (by show w.heap.size+2≠w.heap.size;omega) _).set 0 _).other (p:=⟨w.heap.size+3,0,none⟩) (by show w.heap.size+2≠w.heap.size+3;omega) _,
      ((S6.out.pq.other (p:=⟨w.heap.size,0,none⟩) (by show w.heap.size+3≠w.heap.size;omega) _).other (p:=⟨w.heap.size+2,0,none⟩) (by show w.heap.size+3≠w.heap.size+2;omega) _).set 0 _,
      ((S6.out.pe.other (p:=⟨w.heap.size,0,none⟩) (by show w.heap.size+4≠w.heap.size;omega) _).other (p:=⟨w.heap.size+2,0,none⟩) (by show w.heap.size+4≠w.heap.size+2;omega) _).other (p:=⟨w.heap.size+3,0,none⟩) (by show w.heap.size+4≠w.heap.size+3;omega) _,
      ((S6.out.be.setCell (p:=⟨w.heap.size,0,none⟩) (Nat.le_refl _) _).setCell (p:=⟨w.heap.size+2,0,none⟩) (show w.heap.size≤w.heap.size+2 by omega) _).setCell (p:=⟨w.heap.size+3,0,none⟩) (show w.heap.size≤w.heap.size+3 by omega) _⟩)
    generalize hw7:((w6.setCell ⟨w.heap.size,0,none⟩ (.int .i64 s)).setCell ⟨w.heap.size+2,0,none⟩ (.int .u64 (p:Int))).setCell ⟨w.heap.size+3,0,none⟩ (.int .u64 (q:Int))=w7 at *
    go_wp2
    have d0:w7.cell? ⟨w.heap.size,0,none⟩=some (.int .i64 s):=S7.out.ps.cell 0
    have y0:=S7.out.ps.frozen 0
    have d1:w7.cell? ⟨w.heap.size+1,0,none⟩=some (.int .i64 (N:Int)):=S7.out.pn.cell 0
    have y1:=S7.out.pn.frozen 0
    have d2:w7.cell? ⟨w.heap.size+2,0,none⟩=some (.int .u64 (p:Int)):=S7.out.pp.cell 0
    have y2:=S7.out.pp.frozen 0
    have d3:w7.cell? ⟨w.heap.size+3,0,none⟩=some (.int .u64 (q:Int)):=S7.out.pq.cell 0
    have y3:=S7.out.pq.frozen 0
    have d4:w7.cell? ⟨w.heap.size+4,0,none⟩=some (.int .i64 0):=S7.out.pe.cell 0
    have y4:=S7.out.pe.frozen 0
    have A4:=S7.out.put0
    have A5:=A4.put1
    have A6:=A5.put2
    have A7:=A6.put3
    have A8:=A7.put4
    have E8:RowKit.Hid (BkAt w (((((w7.setCell ⟨w.heap.size,0,none⟩ (.int .i64 s)).setCell ⟨w.heap.size+1,0,none⟩ (.int .i64 (N:Int))).setCell ⟨w.heap.size+1+1,0,none⟩ (.int .u64 (p:Int))).setCell ⟨w.heap.size+1+1+1,0,none⟩ (.int .u64 (q:Int))).setCell ⟨w.heap.size+1+1+1+1,0,none⟩ (.int .i64 0)).drew s N p q):=hid A8.drew
    have e4:(w7.setCell ⟨w.heap.size,0,none⟩ (.int .i64 s)).cell? ⟨w.heap.size,0,none⟩=some (.int .i64 s):=A4.ps.cell 0
    have e5:((w7.setCell ⟨w.heap.size,0,none⟩ (.int .i64 s)).setCell ⟨w.heap.size+1,0,none⟩ (.int .i64 (N:Int))).cell? ⟨w.heap.size+1,0,none⟩=some (.int .i64 (N:Int)):=A5.pn.cell 0
    have e6:(((w7.setCell ⟨w.heap.size,0,none⟩ (.int .i64 s)).setCell ⟨w.heap.size+1,0,none⟩ (.int .i64 (N:Int))).setCell ⟨w.heap.size+1+1,0,none⟩ (.int .u64 (p:Int))).cell? ⟨w.heap.size+1+1,0,none⟩=some (.int .u64 (p:Int)):=A6.pp.cell 0
    have e7:((((w7.setCell ⟨w.heap.size,0,none⟩ (.int .i64 s)).setCell ⟨w.heap.size+1,0,none⟩ (.int .i64 (N:Int))).setCell ⟨w.heap.size+1+1,0,none⟩ (.int .u64 (p:Int))).setCell ⟨w.heap.size+1+1+1,0,none⟩ (.int .u64 (q:Int))).cell? ⟨w.heap.size+1+1+1,0,none⟩=some (.int .u64 (q:Int)):=A7.pq.cell 0
    have n2:¬ (w.heap.size=w.heap.size+1+1):=by omega
    have n3:¬ (w.heap.size=w.heap.size+1+1+1):=by omega
    have n4:¬ (w.heap.size=w.heap.size+1+1+1+1):=by omega
    have n2':¬ (w.heap.size+1+1=w.heap.size):=by omega
    have n3':¬ (w.heap.size+1+1+1=w.heap.size):=by omega
    have n4':¬ (w.heap.size+1+1+1+1=w.heap.size):=by omega
    clear A4 A5 A6 A7 A8
    go_region_held3 (fun w'=>w'.cell? ⟨w.heap.size,0,none⟩=some (.int .i64 s)∧w'.cell? ⟨w.heap.size+1,0,none⟩=some (.int .i64 (N:Int))∧w'.cell? ⟨w.heap.size+2,0,none⟩=some (.int .u64 (p:Int))∧w'.cell? ⟨w.heap.size+3,0,none⟩=some (.int .u64 (q:Int))) (first | with_reducible exact ⟨d0,d1,d2,d3⟩ | go_keep) (first | (go_at_call 51))
    all_goals
     go_wp2
     exact bk_end _ _ _ _ w _ E8.out _ rfl rfl rfl rfl rfl
  rw [if_pos hse] at hR
  subst hR
  have hse:sealedB H=false:=by simpa using hse
  rw [hse]
  clear hse
  go_wp2_with fail
  refine (must_bad _ _ _).mono ?_;rintro r w4 ⟨rfl,rfl⟩
  go_wp2
  exact bk_door _ (by decide) _ _ _ _ w w3 S3.out _ rfl rfl rfl rfl rfl
open Go.RowKit Rng Win Lz Box
def bkIn (R:BkR):Prop :=
 match R with
 | .ok (s,_,_)=>0≤s∧s≤4294967295
 | .error x=>x=11∨x=12
theorem winOf_in {c:Nat} (h:c≤40):0≤winOf c∧winOf c≤4294967295:=by
 unfold winOf
 by_cases h4:c=40
 ·rw [if_pos h4];omega
 rw [if_neg h4]
 have:=win_in (m:=c) (by omega)
 omega
theorem bkFilter_in (r:List UInt8) (p w:Nat):bkIn (bkFilter r p w):=by
 unfold bkFilter
 cases r with
 | nil=>exact .inl rfl
 | cons c t =>
  simp only
  split
  ·exact .inr rfl
  split
  ·exact .inl rfl
  split
  ·exact .inl rfl
  exact winOf_in (by omega)
theorem bkSet_in (r:List UInt8) (p w:Nat):bkIn (bkSet r p w):=by
 unfold bkSet
 split
 ·exact .inl rfl
 split
 ·exact .inl rfl
 exact bkFilter_in _ _ _
theorem bkKind_in (r:List UInt8) (p w:Nat):bkIn (bkKind r p w):=by
 unfold bkKind
 split
 ·exact .inl rfl
 split
 ·exact .inr rfl
 exact bkSet_in _ _ _
theorem bkWhole_in (f:Nat) (r:List UInt8) (p:Nat):bkIn (bkWhole f r p):=by
 unfold bkWhole
 split
 ·split
  ·exact .inl rfl
  exact bkKind_in _ _ _
 exact bkKind_in _ _ _
theorem bkPacked_in (f:Nat) (r:List UInt8):bkIn (bkPacked f r):=by
 unfold bkPacked
 split
 ·split
  ·exact .inl rfl
  split
  ·exact .inl rfl
  exact bkWhole_in _ _ _
 exact bkWhole_in _ _ _
theorem bkBody_in (r:List UInt8):bkIn (bkBody r):=by
 unfold bkBody
 cases r with
 | nil=>exact .inl rfl
 | cons f t =>
  simp only
  split
  ·exact .inr rfl
  exact bkPacked_in _ _
theorem blockOf_in (bs:List UInt8):∃ s n p q er:Nat,blockOf bs=((s:Int),n,p,q,(er:Int)):=by
 unfold blockOf
 cases bs with
 | nil=>exact ⟨0,0,0,0,10,rfl⟩
 | cons b r =>
  simp only
  split
  ·exact ⟨0,0,0,0,10,rfl⟩
  split
  ·exact ⟨0,0,0,0,11,rfl⟩
  split
  ·exact ⟨0,0,0,0,11,rfl⟩
  obtain ⟨R,hR⟩:∃ R,bkBody ((((b::r).take ((b.toNat+1)*4)).drop 1).take ((b.toNat+1)*4-5))=R:=⟨_,rfl⟩
  have h:=bkBody_in ((((b::r).take ((b.toNat+1)*4)).drop 1).take ((b.toNat+1)*4-5))
  rw [hR] at h ⊢
  cases R with
  | ok x =>
   obtain ⟨s,p,q⟩:=x
   have h:0≤s∧s≤4294967295:=h
   exact ⟨s.toNat,_,p,q,0,by unfold blkOf;simp only;rw [Int.toNat_of_nonneg h.1];rfl⟩
  | error x =>
   rcases h with rfl | rfl
   ·exact ⟨0,0,0,0,11,rfl⟩
   exact ⟨0,0,0,0,12,rfl⟩
theorem hold_d (n:Int) (w:World):CallsD Tryz.prog 24 #[.int .i64 n] .returning w fun e u' w'=>u'=.returning∧e=.returned (.tuple #[])∧w=w':=by
 refine (callsD_of_wp (R:=fun e w'=>e=.returned (.tuple #[])∧w=w') Tryz.func24 rfl ?_)
 simp only [Tryz.ntmps24,List.size_toArray,List.length_cons,List.length_nil,Nat.reduceAdd,Nat.reduceSub,Array.replicate_succ,Array.replicate_zero,List.push_toArray,List.append_toArray,List.nil_append,List.cons_append]
 go_wp2
 go_end0
 exact ⟨rfl,rfl⟩
theorem hold_leave {fn:Func} {tmps:Array Value} {R:Ending→World→Prop} {w:World} {v:Value} {n:Int} (hr:(results fn tmps).run Tryz.prog w=.ok v w) (hR:R (.returned v) w) :
 Leaves Tryz.prog fn tmps R [{ target:=.fn (.func 24) #[],args:=#[.int .i64 n] }] .returning w:=by
 refine leaves_cons (f:=24) (args:=#[.int .i64 n]) (by simp) (by simp [go_sem]) ?_
 refine (hold_d n w).mono ?_
 rintro e u' w' ⟨rfl,rfl,rfl⟩
 exact ⟨v,hr,hR⟩
def BlkXEnd (rb fb un B0 bud:Nat) (put hold:Value) (kind:Int) (J:(Nat→Prop)→List UInt8→World→Prop) (M:Nat→Prop) (lv:Value) (recs:List (Nat×Nat)) (out:List UInt8) (E:BlkE) (w:World) (e:Ending) (w':World):Prop :=
 Frm (fun q=>M q∨q=fb∨q=rb∨lv.ownBlock=some q) w w'∧∃ M',(∀ q,M' q→M q∨w.heap.size≤q)∧match E with
 | .err z o=>z≠0∧e=.returned (.int .i64 (z:Int))∧J M' (out++o) w'
 | .ok o r rest=>e=.returned (.int .i64 0)∧J M' (out++o) w'∧∃ lv',RxAt w' rb fb bud put hold kind (out++o).length lv'∧OwnPr w' 121 B0 lv' (recs++[r])∧(∀ q,lv'.ownBlock=some q→¬ M' q∧(lv.ownBlock=some q∨w.heap.size≤q)) ∧
  ∃ A n c used,SrcAt w' fb A n c used∧used+n=un∧BRow w' B0 A rest∧n=rest.length∧n≤c∧c≤maxLen
open Go.RowKit Rng Win Lz Box
theorem chkN_len (k:Int):chkN k=chkLen k:=rfl
theorem leB_snoc:∀ (n X:Nat),leB X (n+1)=leB X n++[UInt8.ofNat (X / 256 ^ n)]
 | 0,X=>by simp [leB]
 | n+1,X=>by
  show UInt8.ofNat X::leB (X / 256) (n+1)=UInt8.ofNat X::leB (X / 256) n++_
  rw [leB_snoc n (X / 256),Nat.div_div_eq_div_mul,Nat.pow_succ,Nat.mul_comm]
  rfl
def wcells (l:List UInt8):Array Value:=((l++List.replicate (8-l.length) 0).map byteV).toArray
theorem wcells_at (l:List UInt8) (hl:l.length≤8) {k:Nat} (hk:k<l.length):(wcells l)[k]?=some (byteV (l.getD k 0)):=by
 unfold wcells
 simp only [List.getElem?_toArray,List.getElem?_map]
 rw [List.getElem?_append_left hk]
 simp [List.getD,hk]
theorem wcells_set (l:List UInt8) (y:UInt8) (hl:l.length<8):(wcells l).setIfInBounds l.length (byteV y)=wcells (l++[y]):=by
 unfold wcells
 have e:List.replicate (8-l.length) (0:UInt8)=0::List.replicate (8-(l++[y]).length) 0:=by
  rw [List.length_append,show 8-l.length=(8-(l.length+[y].length))+1 by simp;omega,List.replicate_succ]
 rw [e]
 simp only [List.setIfInBounds_toArray,List.map_append,List.map_cons]
 congr 1
 simp [List.set_append]
theorem wcells_nil:wcells []=#[.int .u8 0,.int .u8 0,.int .u8 0,.int .u8 0,.int .u8 0,.int .u8 0,.int .u8 0,.int .u8 0]:=rfl
theorem wcells_row {W:World} {b:Nat} {l:List UInt8} {T:TypeId} (h:Pts W b (wcells l) T) (hl:l.length≤8):BRow W W.heap.size (some ⟨b,0,none⟩) l:=by
 intro h0
 refine ⟨b,0,rfl,h.lt,fun k hk=>?_⟩
 rw [Nat.zero_add,h.cell]
 exact wcells_at l hl hk
theorem chk_sum (k:Int) (bs:List UInt8):∃ X:Nat,sumOf (chkK k) bs=(X:Int)∧X<18446744073709551616∧chkB k bs=leB X (chkLen k):=by
 unfold chkK chkB chkLen
 by_cases h1:k=1
 ·rw [if_pos h1,if_pos h1,if_pos h1]
  exact ⟨crc32 bs,sumOf_1 bs,Nat.lt_of_lt_of_le (c32_lt32 bs) (by decide),rfl⟩
 rw [if_neg h1,if_neg h1,if_neg h1]
 by_cases h4:k=4
 ·rw [if_pos h4,if_pos h4,if_pos h4]
  exact ⟨crc64 bs,sumOf_2 bs,c64_lt64 bs,rfl⟩
 rw [if_neg h4,if_neg h4,if_neg h4]
 exact ⟨0,rfl,by decide,rfl⟩
theorem chkLen_le (k:Int):chkLen k≤8:=by
 unfold chkLen
 repeat' split
 all_goals omega
theorem u8_wrap_nat (x:Nat):IntKind.u8.wrap (x:Int)=((UInt8.ofNat x).toNat:Int):=by
 rw [UInt8.toNat_ofNat']
 show _=(((x % 256:Nat)):Int)
 rw [IntKind.wrap_u8]
 omega
theorem slice_arr8 (b n:Nat) (hn:n≤8) (w:World) :
 (Instr.sliceAt 120 (.pointer (some ⟨b,0,none⟩)) none (some (.int .i64 (n:Int))) none).run Tryz.prog w=.ok (.slice (some ⟨b,0,none⟩) n 8) w:=by
 unfold Instr.sliceAt
 simp [go_sem]
 first | done | omega | (intro h;omega)
open Go.RowKit Rng Win Lz Box
section
variable (rb fb bx bud B0 : Nat) (put hold : Value) (kind : Int) (lv : Value) (recs : List (Nat × Nat)) (J : (Nat → Prop) → List UInt8 → World → Prop) (M : Nat → Prop) (out : List UInt8) (w : World)
structure XB (A:Option Addr) (n c used:Nat) (src:List UInt8) (W:World):Prop where
 x:Pts W bx #[.pointer (some ⟨rb,0,none⟩)] 76
 r:RxAt W rb fb bud put hold kind out.length lv
 s:SrcAt W fb A n c used
 b:BRow W B0 A src
 o:OwnPr W 121 B0 lv recs
 j:J M out W
 f:Frm (fun q=>q=fb) w W
end
section
variable {rb fb bx bud B0 fput most : Nat} {lb : Array Value} {put hold : Value} {kind : Int} {lv : Value} {recs : List (Nat × Nat)} {J : (Nat → Prop) → List UInt8 → World → Prop} {M : Nat → Prop} {out : List UInt8} {w W W' : World} {A A' : Option Addr} {n c used n' c' used' : Nat} {src src' : List UInt8}
theorem XB.still (hp:PutOk Tryz.prog fput lb B0 most J) (h:XB rb fb bx bud B0 put hold kind lv recs J M out w A n c used src W) (hb:Below W.heap.size W W') (hB0:B0≤w.heap.size):XB rb fb bx bud B0 put hold kind lv recs J M out w A n c used src W' :=
 ⟨h.x.below hb h.x.lt,Pts.below h.r hb (Pts.lt h.r),Pts.below h.s hb (Pts.lt h.s),h.b.below (hb.mono (Nat.le_trans hB0 h.f.size)),h.o.frm (S:=fun _=>False) (Frm.of_below hb) (fun _ _ h=>h),hp.keep M _ W W' h.j (Frm.of_below hb),h.f.trans (Frm.of_below hb)⟩
theorem XB.takes (hp:PutOk Tryz.prog fput lb B0 most J) (h:XB rb fb bx bud B0 put hold kind lv recs J M out w A n c used src W) (hM:¬ M fb) (hs:SrcAt W' fb A' n' c' used') (hf:Frm (· = fb) W W') (hb:BRow W' B0 A' src'):XB rb fb bx bud B0 put hold kind lv recs J M out w A' n' c' used' src' W' :=
 ⟨h.x.frm hf (h.x.ne_of h.s (by decide)),Pts.frm h.r hf (Pts.ne_of h.r h.s (by decide)),hs,hb,h.o.frm hf (fun k hk e=>by
  rcases h.o.2 with ⟨h2,_⟩ | ⟨g,cap,cur,h2,_,hh,_⟩
  ·rw [h2] at hk;cases hk
  rw [h2] at hk
  injection hk with hk
  exact Pts.ne_of (show Pts W g cur _ from hh) h.s (by decide) (hk.trans e)),hp.keep M _ W W' h.j (hf.mono fun q _ e hm=>hM (e▸hm)),h.f.trans hf⟩
theorem XB.cells (h:XB rb fb bx bud B0 put hold kind lv recs J M out w A n c used src W):W.cell? ⟨bx,0,none⟩=some (.pointer (some ⟨rb,0,none⟩))∧W.cell? ⟨rb,0,none⟩=some (.pointer (some ⟨fb,0,none⟩))∧W.cell? ⟨rb,1,none⟩=some (.int .i64 bud)∧W.cell? ⟨rb,3,none⟩=some hold∧W.cell? ⟨rb,4,none⟩=some (.int .i64 kind)∧W.cell? ⟨rb,5,none⟩=some (.int .i64 (out.length:Int))∧W.cell? ⟨rb,6,none⟩=some lv :=
 ⟨by rw [h.x.cell];rfl,h.r.cells.1,h.r.cells.2.1,h.r.cells.2.2.2.1,h.r.cells.2.2.2.2.1,h.r.cells.2.2.2.2.2.1,h.r.cells.2.2.2.2.2.2⟩
end
structure XC (rb fb bx bud B0 nb sc:Nat) (put hold:Value) (kind:Int) (lv:Value) (recs:List (Nat×Nat)) (J:(Nat→Prop)→List UInt8→World→Prop) (M:Nat→Prop) (out:List UInt8) (w:World) (Mi own:Nat→Prop) (sb:Nat) (T:List UInt8) (W:World):Prop where
 n:Pts W nb #[.int .i64 (T.length:Int)] 3
 s:Pts W sc #[.iface 42 (.pointer (some ⟨sb,0,none⟩))] 116
 x:Pts W bx #[.pointer (some ⟨rb,0,none⟩)] 76
 r:RxAt W rb fb bud put hold kind (out++T).length lv
 u:SumAt W sb own (chkK kind) T
 o:OwnPr W 121 B0 lv recs
 j:J Mi (out++T) W
 f:Frm (fun q=>M q∨q=fb∨q=rb) w W
 m:∀ q,Mi q→(M q∨w.heap.size≤q)∧q≠rb∧q≠fb∧lv.ownBlock≠some q
 w:∀ q,own q→w.heap.size≤q
section
variable {rb fb bx bud B0 nb sc fput most : Nat} {lb : Array Value} {put hold : Value} {kind : Int} {lv : Value} {recs : List (Nat × Nat)} {J : (Nat → Prop) → List UInt8 → World → Prop} {M Mi own : Nat → Prop} {sb : Nat} {out T : List UInt8} {w W W' : World}
theorem XC.cells (h:XC rb fb bx bud B0 nb sc put hold kind lv recs J M out w Mi own sb T W):W.cell? ⟨nb,0,none⟩=some (.int .i64 (T.length:Int))∧W.cell? ⟨sc,0,none⟩=some (.iface 42 (.pointer (some ⟨sb,0,none⟩)))∧W.cell? ⟨bx,0,none⟩=some (.pointer (some ⟨rb,0,none⟩))∧W.cell? ⟨rb,0,none⟩=some (.pointer (some ⟨fb,0,none⟩))∧W.cell? ⟨rb,5,none⟩=some (.int .i64 ((out++T).length:Int))∧W.cell? ⟨rb,6,none⟩=some lv∧W.frozen? ⟨rb,6,none⟩=false :=
 ⟨by rw [h.n.cell];rfl,by rw [h.s.cell];rfl,by rw [h.x.cell];rfl,h.r.cells.1,h.r.cells.2.2.2.2.2.1,h.r.cells.2.2.2.2.2.2,Pts.frozen h.r 6⟩
theorem XC.still (hp:PutOk Tryz.prog fput lb B0 most J) (h:XC rb fb bx bud B0 nb sc put hold kind lv recs J M out w Mi own sb T W) (hb:Below W.heap.size W W'):XC rb fb bx bud B0 nb sc put hold kind lv recs J M out w Mi own sb T W' :=
 ⟨h.n.below hb h.n.lt,h.s.below hb h.s.lt,h.x.below hb h.x.lt,Pts.below h.r hb (Pts.lt h.r),h.u.frmX (S:=fun _=>False) (Frm.of_below hb) (fun _ _ h=>h),h.o.frm (S:=fun _=>False) (Frm.of_below hb) (fun _ _ h=>h),hp.keep Mi _ W W' h.j (Frm.of_below hb),h.f.trans (Frm.of_below hb),h.m,h.w⟩
theorem XC.takes (hp:PutOk Tryz.prog fput lb B0 most J) (h:XC rb fb bx bud B0 nb sc put hold kind lv recs J M out w Mi own sb T W) {A:Option Addr} {n c used:Nat} (hs:SrcAt W fb A n c used) (hfl:fb<w.heap.size) (hf:Frm (· = fb) W W'):XC rb fb bx bud B0 nb sc put hold kind lv recs J M out w Mi own sb T W' :=
 ⟨h.n.frm hf (h.n.ne_of hs (by decide)),h.s.frm hf (h.s.ne_of hs (by decide)),h.x.frm hf (h.x.ne_of hs (by decide)),Pts.frm h.r hf (Pts.ne_of h.r hs (by decide)),h.u.frmX hf (fun q hq e=>by have:=h.w q hq;omega),h.o.frm hf (fun k hk e=>by
  rcases h.o.2 with ⟨h2,_⟩ | ⟨g,cap,cur,h2,_,hh,_⟩
  ·rw [h2] at hk;cases hk
  rw [h2] at hk
  injection hk with hk
  exact Pts.ne_of (show Pts W g cur _ from hh) hs (by decide) (hk.trans e)),hp.keep Mi _ W W' h.j (hf.mono fun q _ e hm=>(h.m q hm).2.2.1 e),h.f.trans (hf.mono fun q _ e=>.inr (.inl e)),h.m,h.w⟩
end
theorem xblock_err2 {rb fb un B0 bud bx nb sc sb:Nat} {put hold:Value} {kind:Int} {J:(Nat→Prop)→List UInt8→World→Prop} {M Mi own:Nat→Prop} {lv:Value} {recs:List (Nat×Nat)} {out T:List UInt8} {E:BlkE} {w w':World} {z:Nat} (hE:E=.err z T) (hz:z≠0) (h:XC rb fb bx bud B0 nb sc put hold kind lv recs J M out w Mi own sb T w') :
 BlkXEnd rb fb un B0 bud put hold kind J M lv recs out E w (.returned (.int .i64 (z:Int))) w':=by
 subst hE
 exact ⟨h.f.mono fun q _ e=>by rcases e with e | e | e;exact .inl e;exact .inr (.inl e);exact .inr (.inr (.inl e)),Mi,fun q hq=>(h.m q hq).1,hz,rfl,h.j⟩
def LoB (bx rb fb nb tl:Nat) (w':World):Prop:=w'.cell? ⟨bx,0,none⟩=some (.pointer (some ⟨rb,0,none⟩))∧w'.cell? ⟨rb,0,none⟩=some (.pointer (some ⟨fb,0,none⟩))∧w'.cell? ⟨nb,0,none⟩=some (.int .i64 (tl:Int))
theorem cell_alloc {w:World} (o:Obj) {p:Addr} {v:Value} (hp:w.cell? p=some v):(w.alloc o).cell? p=some v:=by
 rw [World.cell?_of_block (w:=w)]
 ·exact hp
 exact Below.heap_alloc _ _ _ (World.block_lt_of_cell? w p hp)
theorem LoB.alloc {bx rb fb nb tl:Nat} {w:World} (h:LoB bx rb fb nb tl w) (o:Obj):LoB bx rb fb nb tl (w.alloc o):=⟨cell_alloc o h.1,cell_alloc o h.2.1,cell_alloc o h.2.2⟩
theorem Frm.undrew {S:Nat→Prop} {a b:World} (h:Frm S a.drew b):Frm S a b:=⟨h.os,h.tape,h.output,h.size,h.block⟩
theorem xblock_err {rb fb un B0 bud:Nat} {put hold:Value} {kind:Int} {J:(Nat→Prop)→List UInt8→World→Prop} {M:Nat→Prop} {lv:Value} {recs:List (Nat×Nat)} {out:List UInt8} {E:BlkE} {w w':World} {z:Nat} (hE:E=.err z []) (hz:z≠0) (hf:Frm (fun q=>q=fb) w w') (hj:J M out w') :
 BlkXEnd rb fb un B0 bud put hold kind J M lv recs out E w (.returned (.int .i64 (z:Int))) w':=by
 subst hE
 exact ⟨hf.mono fun q _ e=>.inr (.inl e),M,fun q h=>.inl h,hz,rfl,by rw [List.append_nil];exact hj⟩
theorem xblock_ok {rb fb un B0 bud bx nb sc sb fput most:Nat} {lb:Array Value} {put hold:Value} {kind:Int} {J:(Nat→Prop)→List UInt8→World→Prop} {M Mi own:Nat→Prop} {lv v12:Value} {recs:List (Nat×Nat)} {out T rest:List UInt8} {rc:Nat×Nat} {E:BlkE} {w Wa w12:World} {o:Obj} {A:Option Addr} {n c used:Nat}
 (hp:PutOk Tryz.prog fput lb B0 most J) (h:XC rb fb bx bud B0 nb sc put hold kind lv recs J M out w Mi own sb T Wa) (hown:OwnPr w12 121 B0 v12 (recs++[rc])) (hf:Frm (fun k=>lv.ownBlock=some k) (Wa.alloc o) w12) (hnew:v12.ownBlock=lv.ownBlock∨v12.ownBlock=some (Wa.alloc o).heap.size)
 (hs:SrcAt Wa fb A n c used) (hun:used+n=un) (hr:BRow Wa B0 A rest) (hn:n=rest.length) (hc:n≤c) (hcm:c≤maxLen) (hE:E=.ok T rc rest) (hB0:B0≤w.heap.size) (hlo:LoB bx rb fb nb T.length Wa) (hBr:B0≤rb) :
 LoB bx rb fb nb T.length w12∧LoB bx rb fb nb T.length (w12.setCell ⟨rb,6,none⟩ v12)∧w12.cell? ⟨rb,6,none⟩=some lv∧w12.frozen? ⟨rb,6,none⟩=false∧BlkXEnd rb fb un B0 bud put hold kind J M lv recs out E w (.returned (.int .i64 0)) (w12.setCell ⟨rb,6,none⟩ v12):=by
 have hty:∀ {q:Nat} {c:Array Value} {T':TypeId},lv.ownBlock=some q→Pts Wa q c T'→(121:Nat)=T':=fun {q c T'} hq hpp=>by
  rcases h.o.2 with ⟨h3,_⟩ | ⟨g,cap,cur,h3,_,hh,_⟩
  ·rw [h3] at hq;cases hq
  rw [h3] at hq
  injection hq with hq
  subst hq
  have h9:Wa.heap[g]?=some (.cells cur 121 (0,0)):=hh
  unfold Pts at hpp
  rw [h9] at hpp
  injection hpp with hpp
  injection hpp
 have k1:lv.ownBlock≠some bx:=fun e=>absurd (hty e h.x) (by decide)
 have k2:lv.ownBlock≠some rb:=fun e=>absurd (hty e h.r) (by decide)
 have k3:lv.ownBlock≠some nb:=fun e=>absurd (hty e h.n) (by decide)
 have k4:lv.ownBlock≠some fb:=fun e=>absurd (hty e hs) (by decide)
 have hx:=(h.x.alloc o).frm hf k1
 have hrr:RxAt w12 rb fb bud put hold kind (out++T).length lv:=Pts.frm (Pts.alloc h.r o) hf k2
 have hnn:=(h.n.alloc o).frm hf k3
 have hsz:(Wa.alloc o).heap.size=Wa.heap.size+1:=by simp only [World.size_alloc]
 have hw:w.heap.size≤Wa.heap.size:=h.f.size
 have hf1:Frm (fun k=>lv.ownBlock=some k) Wa w12:=((Frm.refl _ Wa).alloc o).trans hf
 have hf2:Frm (fun k=>lv.ownBlock=some k∨k=rb) Wa (w12.setCell ⟨rb,6,none⟩ v12):=(hf1.mono fun q _ e=>.inl e).setCell (p:=⟨rb,6,none⟩) (.inr rfl) v12
 have hv12:∀ q,v12.ownBlock=some q→lv.ownBlock=some q∨q=Wa.heap.size+1:=fun q hq=>by
  rcases hnew with e | e
  ·exact .inl (e▸hq)
  rw [e,hsz] at hq
  injection hq with hq
  exact .inr hq.symm
 have hlo2:=hlo.alloc o
 have hx2:Pts (w12.setCell ⟨rb,6,none⟩ v12) bx _ _:=hx.other (p:=⟨rb,6,none⟩) (h.x.ne_of h.r (by decide)) v12
 have hn2:Pts (w12.setCell ⟨rb,6,none⟩ v12) nb _ _:=hnn.other (p:=⟨rb,6,none⟩) (h.n.ne_of h.r (by decide)) v12
 have hr2:RxAt (w12.setCell ⟨rb,6,none⟩ v12) rb fb bud put hold kind (out++T).length v12:=Pts.set hrr 6 v12
 refine ⟨⟨by rw [hx.cell];rfl,hrr.cells.1,by rw [hnn.cell];rfl⟩,⟨by rw [hx2.cell];rfl,hr2.cells.1,by rw [hn2.cell];rfl⟩,hrr.cells.2.2.2.2.2.2,Pts.frozen hrr 6,?_⟩
 subst hE
 refine ⟨?_,Mi,fun q hq=>(h.m q hq).1,rfl,hp.keep Mi _ Wa _ h.j (hf2.mono fun q _ e hm=>?_),v12,?_,?_,fun q hq=>⟨fun hm=>?_,?_⟩,A,n,c,used,Pts.frm hs hf2 ?_,hun,hr.below (hf2.below (Nat.le_trans hB0 hw) fun k hk=>?_),hn,hc,hcm⟩
 ·refine (h.f.mono fun q _ e=>?_).trans (hf2.mono fun q _ e=>?_)
  ·rcases e with e | e | e
   ·exact .inl e
   ·exact .inr (.inl e)
   exact .inr (.inr (.inl e))
  rcases e with e | e
  ·exact .inr (.inr (.inr e))
  exact .inr (.inr (.inl e))
 ·rcases e with e | e
  ·exact (h.m q hm).2.2.2 e
  exact (h.m q hm).2.1 e
 ·exact Pts.set hrr 6 v12
 ·refine hown.frm (S:=fun k=>k=rb) ((Frm.refl (fun k=>k=rb) w12).setCell (p:=⟨rb,6,none⟩) rfl v12) fun q hq e=>?_
  have hrl:=Pts.lt h.r
  rcases hv12 q hq with e2 | e2
  ·exact k2 (e▸e2)
  omega
 ·rcases hv12 q hq with e2 | e2
  ·exact (h.m q hm).2.2.2 e2
  have:=hp.lt h.j q hm;omega
 ·rcases hv12 q hq with e2 | e2
  ·exact .inl e2
  exact .inr (by omega)
 ·rintro (e | e)
  ·exact k4 e
  exact Pts.ne_of hs h.r (by decide) e
 rcases hk with e | e
 ·exact (h.o.lt e).1
 omega
end Go.Proofs.YtablgjhnpphodaaGreat
namespace Go.Proofs.YtablgjhnpphodaaGreat.Fnd
open Go.RowKit
structure Sq where
 lits:Int
 mat:Int
 back:Int
instance:Inhabited Sq:=⟨⟨0,0,0⟩⟩
inductive Tale
 | arg
 | malformed
 | ok (out:List UInt8)
def SqRow (w:World) (B:Nat) (A:Option Addr) (l:List Sq):Prop :=
 0<l.length→∃ b off,A=some ⟨b,off,none⟩∧b<B∧∀ k,k<l.length →
  w.cell? ⟨b,off+k*3,none⟩=some (.int .i64 (l.getD k default).lits)∧w.cell? ⟨b,off+k*3+1,none⟩=some (.int .i64 (l.getD k default).mat)∧w.cell? ⟨b,off+k*3+2,none⟩=some (.int .i64 (l.getD k default).back)
def Sq.fits (s:Sq):Prop:=(-9223372036854775808≤s.lits∧s.lits≤9223372036854775807)∧(-9223372036854775808≤s.mat∧s.mat≤9223372036854775807)∧(-9223372036854775808≤s.back∧s.back≤9223372036854775807)
theorem min2_int {P:Program} (ts:Array TypeId) (t:TypeId) (x y n:Int) (h:min x y=n) (w:World):(Builtin.min_ ts t #[.int .i64 x,.int .i64 y]).run P w=.ok (.int .i64 n) w:=by
 have e:(if y<x then y else x)=n:=by split <;> omega
 rw [← e]
 simp [Builtin.min_,Builtin.min2]
theorem max2_int {P:Program} (ts:Array TypeId) (t:TypeId) (x y n:Int) (h:max x y=n) (w:World):(Builtin.max_ ts t #[.int .i64 x,.int .i64 y]).run P w=.ok (.int .i64 n) w:=by
 have e:(if x<y then y else x)=n:=by split <;> omega
 rw [← e]
 simp [Builtin.max_,Builtin.max2]
end Go.Proofs.YtablgjhnpphodaaGreat.Fnd
