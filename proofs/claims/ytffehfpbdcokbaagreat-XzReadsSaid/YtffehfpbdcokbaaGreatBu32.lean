import Derived.Test.YtffehfpbdcokbaaGreatBu13
import Derived.Test.YtffehfpbdcokbaaGreatBu23
import Derived.Test.YtffehfpbdcokbaaGreatBu24
import Derived.Test.YtffehfpbdcokbaaGreatBu27
import Derived.Test.YtffehfpbdcokbaaGreatBu28
import Derived.Test.YtffehfpbdcokbaaGreatBu29
import Derived.Test.YtffehfpbdcokbaaGreatBu30
import Derived.Test.YtffehfpbdcokbaaGreatBu31
set_option linter.unusedVariables false
set_option linter.unusedSimpArgs false
namespace Go.Proofs.YtffehfpbdcokbaaGreat
open Lib (hid)
open Go.RowKit Rng Win Lz Box
theorem go_more_err (S most:Nat) (q:List UInt8) {e:Nat} (he:e≠10):∀ (f g:Nat) (x:DS) (out src:List UInt8) (T:List UInt8),src.length<f→src.length<g→d2Go S most f x out src=(T,.inl e)→d2Go S most g x out (src++q)=(T,.inl e)
 | 0,_,_,_,_,_,h,_,_=>absurd h (by omega)
 | _,0,_,_,_,_,_,h,_=>absurd h (by omega)
 | f+1,g+1,x,out,src,T,hf,hg,h=>by
  unfold d2Go at h ⊢
  have hm:=one_more S x src q
  cases ho:one S x src with
  | err z =>
   rw [ho] at h hm
   simp only [Prod.mk.injEq,Sum.inl.injEq] at h
   rw [hm (by simp only [ne_eq,OneR.err.injEq];omega)]
   simp only [OneR.more,Prod.mk.injEq,Sum.inl.injEq]
   exact h
  | fin rest =>
   rw [ho] at h
   simp only [Prod.mk.injEq,reduceCtorEq,and_false] at h
  | told b y rest =>
   obtain ⟨m,hm1,hm2,hr⟩:=(one_front S x src).1 b y rest ho
   rw [ho] at h hm
   rw [hm (by simp)]
   simp only [OneR.more] at h ⊢
   by_cases hl:most<out.length+b.length
   ·rw [if_pos hl] at h ⊢
    exact h
   rw [if_neg hl] at h ⊢
   have hrl:rest.length=src.length-m:=by rw [hr,List.length_drop]
   exact go_more_err S most q he f g _ _ rest T (by omega) (by omega) h
theorem go_fuel (S most:Nat):∀ (f g:Nat) (x:DS) (out src:List UInt8),src.length<f→src.length<g→d2Go S most f x out src=d2Go S most g x out src
 | 0,_,_,_,_,h,_=>absurd h (by omega)
 | _,0,_,_,_,_,h=>absurd h (by omega)
 | f+1,g+1,x,out,src,hf,hg=>by
  unfold d2Go
  cases ho:one S x src with
  | err z=>rfl
  | fin rest=>rfl
  | told b y rest =>
   obtain ⟨m,hm1,hm2,hr⟩:=(one_front S x src).1 b y rest ho
   simp only
   split
   ·rfl
   exact go_fuel S most f g _ _ rest (by rw [hr,List.length_drop];omega) (by rw [hr,List.length_drop];omega)
def sumMore (R:List UInt8×(Nat ⊕ List UInt8)) (q:List UInt8):List UInt8×(Nat ⊕ List UInt8) :=
 match R with
 | (T,.inl e)=>(T,.inl e)
 | (T,.inr r)=>(T,.inr (r++q))
theorem d2P_more (S most:Nat) (src q:List UInt8) (h:∀ T,d2P S most src≠(T,.inl 10)):d2P S most (src++q)=sumMore (d2P S most src) q:=by
 cases hd:d2P S most src with
 | mk T R =>
  cases R with
  | inl e =>
   have he:e≠10:=fun e2=>h T (by rw [hd,e2])
   exact go_more_err S most q he (src.length+1) ((src++q).length+1) newDS [] src T (by omega) (by rw [List.length_append];omega) hd
  | inr r=>exact go_more S most q (src.length+1) ((src++q).length+1) newDS [] src T r (by omega) (by rw [List.length_append];omega) hd
theorem d2P_front {S most:Nat} {src T r:List UInt8} (h:d2P S most src=(T,.inr r)):∃ p,src=p++r∧1≤p.length∧d2P S most p=(T,.inr []):=by
 obtain ⟨p,h1,h2,h3⟩:=go_exact S most (src.length+1) (src.length+1) newDS [] src T r (by omega) (by omega) h
 refine ⟨p,h1,h2,?_⟩
 unfold d2P
 have:=congrArg List.length h1
 rw [List.length_append] at this
 rw [go_fuel S most (p.length+1) (src.length+1) newDS [] p (by omega) (by omega)]
 exact h3
theorem d2Go_len (S most:Nat):∀ (f:Nat) (x:DS) (out src:List UInt8),out.length≤most→(d2Go S most f x out src).1.length≤most
 | 0,_,_,_,h=>h
 | f+1,x,out,src,h=>by
  unfold d2Go
  cases one S x src with
  | err z=>exact h
  | fin rest=>exact h
  | told b y rest =>
   simp only
   split
   ·exact h
   exact d2Go_len S most f _ _ rest (by rw [List.length_append];omega)
theorem d2P_len (S most:Nat) (src:List UInt8):(d2P S most src).1.length≤most:=d2Go_len S most _ _ _ _ (Nat.zero_le _)
def leB (x:Nat):Nat→List UInt8
 | 0=>[]
 | n+1=>UInt8.ofNat x::leB (x / 256) n
theorem leB_len:∀ (n x:Nat),(leB x n).length=n
 | 0,_=>rfl
 | n+1,x=>by unfold leB;rw [List.length_cons,leB_len]
def chkLen (k:Int):Nat:=if k=1 then 4 else if k=4 then 8 else 0
def chkB (k:Int) (bs:List UInt8):List UInt8:=if k=1 then leB (crc32 bs) 4 else if k=4 then leB (crc64 bs) 8 else []
theorem chkB_len (k:Int) (bs:List UInt8):(chkB k bs).length=chkLen k:=by
 unfold chkB chkLen
 repeat' split
 all_goals first | rfl | exact leB_len _ _
def padOf (n:Nat):Nat:=(4-n % 4) % 4
inductive BlkE
 | err (e:Nat) (out:List UInt8)
 | ok (out:List UInt8) (rec:Nat×Nat) (rest:List UInt8)
def hdLen (src:List UInt8):Nat:=((src.getD 0 0).toNat+1)*4
def xTail (R:BlkR) (kind:Int) (hl u:Nat) (out rest:List UInt8):BlkE :=
 if (R.2.2.1≠M64'∧R.2.2.1≠u)∨(R.2.2.2.1≠M64'∧R.2.2.2.1≠out.length) then .err 11 out
 else if rest.length<padOf (hl+u)+chkLen kind then .err 10 out
 else if rest.take (padOf (hl+u))≠List.replicate (padOf (hl+u)) 0∨(rest.drop (padOf (hl+u))).take (chkLen kind)≠chkB kind out then .err 11 out
 else .ok out (hl+u+chkLen kind,out.length) (rest.drop (padOf (hl+u)+chkLen kind))
def xBody (budget:Nat) (kind:Int) (told:Nat) (R:BlkR) (hl:Nat) (src:List UInt8):BlkE :=
 if R.2.2.2.2≠0 then .err R.2.2.2.2.toNat []
 else if (budget:Int)<R.1 then .err 40 []
 else match d2P (max R.1.toNat 4096) (16777216-told) src with
  | (out,.inl e)=>.err e out
  | (out,.inr rest)=>xTail R kind hl (src.length-rest.length) out rest
def xBlock (budget:Nat) (kind:Int) (told:Nat) (src:List UInt8):BlkE :=
 if src.length<hdLen src then .err 10 [] else xBody budget kind told (blockOf (src.take (hdLen src))) (hdLen src) (src.drop (hdLen src))
def xNum (want:Nat) (src:List UInt8):Nat ⊕ List UInt8 :=
 if (number src).2.2≠0 then .inl (number src).2.2.toNat else if (number src).1≠want then .inl 11 else .inr (src.drop (number src).2.1)
def xNums:List Nat→List UInt8→Nat ⊕ List UInt8
 | [],s=>.inr s
 | n::l,s=>match xNum n s with
  | .inl e=>.inl e
  | .inr r=>xNums l r
def recN (recs:List (Nat×Nat)):List Nat:=recs.length::recs.flatMap fun p=>[p.1,p.2]
def xIndex (recs:List (Nat×Nat)) (src:List UInt8):Nat ⊕ (Nat×List UInt8) :=
 match xNums (recN recs) (src.drop 1) with
 | .inl e=>.inl e
 | .inr r =>
  if r.length<padOf (src.length-r.length)+4 then .inl 10
  else if r.take (padOf (src.length-r.length))≠List.replicate (padOf (src.length-r.length)) 0∨sealB (src.take (src.length-r.length+padOf (src.length-r.length)))≠(r.drop (padOf (src.length-r.length))).take 4 then .inl 11
  else .inr (src.length-r.length+padOf (src.length-r.length)+4,r.drop (padOf (src.length-r.length)+4))
def xBlocks (budget:Nat) (kind:Int):Nat→List (Nat×Nat)→List UInt8→List UInt8→List UInt8×(Nat ⊕ (List (Nat×Nat)×List UInt8))
 | 0,_,out,_=>(out,.inl 10)
 | f+1,recs,out,src =>
  if src.length<1 then (out,.inl 10)
  else if src.getD 0 0=0 then (out,.inr (recs,src))
  else match xBlock budget kind out.length src with
   | .err e o=>(out++o,.inl e)
   | .ok o r rest=>xBlocks budget kind f (recs++[r]) (out++o) rest
def xEnd (kind:Int) (out:List UInt8) (recs:List (Nat×Nat)) (src:List UInt8):List UInt8×(Nat ⊕ List UInt8) :=
 match xIndex recs src with
 | .inl e=>(out,.inl e)
 | .inr (size,r) =>
  if r.length<12 then (out,.inl 10)
  else if (footOf (r.take 12)).2.2≠0 then (out,.inl (footOf (r.take 12)).2.2.toNat)
  else if (footOf (r.take 12)).1≠kind∨(footOf (r.take 12)).2.1≠size then (out,.inl 11)
  else (out,.inr (r.drop 12))
def xMem (budget:Nat) (src:List UInt8):List UInt8×(Nat ⊕ List UInt8) :=
 if src.length<12 then ([],.inl 10)
 else if (headOf (src.take 12)).2≠0 then ([],.inl (headOf (src.take 12)).2.toNat)
 else match xBlocks budget (headOf (src.take 12)).1 (src.length+1) [] [] (src.drop 12) with
  | (out,.inl e)=>(out,.inl e)
  | (out,.inr (recs,s))=>xEnd (headOf (src.take 12)).1 out recs s
def dropPad:Nat→List UInt8→List UInt8
 | 0,s=>s
 | f+1,s=>if 4≤s.length∧s.take 4=[0,0,0,0] then dropPad f (s.drop 4) else s
def xP (budget:Nat) (src:List UInt8):List UInt8×(Nat ⊕ List UInt8) :=
 match xMem budget src with
 | (out,.inl e)=>(out,.inl e)
 | (out,.inr r)=>(out,.inr (dropPad r.length r))
open Go.RowKit Rng Win Lz Box
theorem leB_snocD:∀ (n X:Nat),leB X (n+1)=leB X n++[UInt8.ofNat (X / 256 ^ n)]
 | 0,X=>by simp [leB]
 | n+1,X=>by
  show UInt8.ofNat X::leB (X / 256) (n+1)=UInt8.ofNat X::leB (X / 256) n++_
  rw [leB_snocD n (X / 256),Nat.div_div_eq_div_mul,Nat.pow_succ,Nat.mul_comm]
  rfl
set_option maxRecDepth 8000 in
set_option maxHeartbeats 1000000 in
theorem least_d (x n base:Nat) (w:World) (hx:x<18446744073709551616) (hn:n≤8) (hb:base≤w.heap.size) :
 Calls Tryz.prog 131 #[.int .u64 x,.int .i64 n] w fun e w'=>∃ v,e=.returned v∧OwnB w' 5 base v (leB x n)∧Below w.heap.size w w':=by
 have HX:=hid (And.intro hx (And.intro hn hb))
 clear hx hb
 go_enter Tryz.func131,Tryz.ntmps131
 go_wp2
 go_loopw [5,6] (fun v iv wr=>∃ (i:Nat),iv=.int .i64 (i:Int)∧i≤n∧Hid (OwnB wr 5 base v (leB x i)∧(∀ q,v.ownBlock=some q→w.heap.size≤q)∧Below w.heap.size w wr)) (fun _ iv _=>n-(intOf iv).toNat)
 case atStart=>exact ⟨0,rfl,Nat.zero_le _,hid ⟨OwnB.nil _ _ _,(fun q h=>absurd (show (none:Option Nat)=some q from h) (fun h2=>by cases h2)),Below.refl _ _⟩⟩
 case round =>
 obtain ⟨i,rfl,hi,HO⟩:=hrel
 by_cases hlt:i<n
 ·have q1:(i:Int)<(n:Int):=by omega
  have a1:IntKind.i64.wrap (8*(i:Int))=8*(i:Int):=Go.IntWalk.i64_in _ (by omega)
  have a5:0≤8*(i:Int):=by omega
  have a6:¬ 8*(i:Int)<0:=by omega
  have a7:IntKind.i64.wrap ((i:Int)+1)=(i:Int)+1:=Go.IntWalk.i64_in _ (by omega)
  obtain ⟨A0,c0,e0,-,-,-⟩:=HO.out.1.slice
  rw [leB_len] at e0
  subst e0
  have HV:Hid ((x:Int) / 2 ^ (8*i) % 256=((UInt8.ofNat (x / 256 ^ i)).toNat:Int)):=hid (by
   have h1:(2:Int) ^ (8*i)=((256 ^ i:Nat):Int):=by
    rw [Int.pow_mul,Int.natCast_pow]
    rfl
   rw [h1,UInt8.toNat_ofNat']
   show _=((x / 256 ^ i % 256:Nat):Int)
   rw [Int.natCast_emod,Int.natCast_ediv]
   rfl)
  go_wp2_with (at_builtin;refine wpList_append_bytes _ rfl (.tmp 12) (.tmp 18) 22 rfl 5 base Tryz.underlying22 Tryz.info_u8 (.slice A0 i c0) (leB x i) rfl ?own1 (some ⟨wr.heap.size,0,none⟩) 1 1 (wr.heap.size+1) [UInt8.ofNat (x / 256 ^ i)] rfl rfl ?row1 ?len1 ?base1 ?next1)
  case own1=>exact HO.out.1.frm (S:=fun _=>False) ((Frm.refl _ wr).alloc _) (fun _ _ h=>h)
  case row1=>rw [HV.out];exact BRow.oneW wr _ _
  case len1=>rw [leB_len];omega
  case base1=>have h1:=HX.out.2.2;have h2:=HO.out.2.2.size;omega
  case next1 =>
  intro v4 w4 hown4 hfrm4 hnew4
  have hb4:Below w.heap.size w w4:=(HO.out.2.2.trans ((below_alloc wr _).mono HO.out.2.2.size)).trans (hfrm4.below (by have h2:=HO.out.2.2.size;rw [World.size_alloc];omega) (fun q hq=>HO.out.2.1 q hq))
  have HO4:Hid (OwnB w4 5 base v4 (leB x (i+1))∧(∀ q,v4.ownBlock=some q→w.heap.size≤q)∧Below w.heap.size w w4):=hid ⟨by rw [leB_snocD];exact hown4,fun q hq=>by
   rcases hnew4 with e | e
   ·rw [e] at hq;exact HO.out.2.1 q hq
   rw [e] at hq
   have e2:wr.heap.size+1=q:=Option.some.inj hq
   have h2:=HO.out.2.2.size
   omega,hb4⟩
  have hii:IntKind.i64.wrap ((i:Int)+1)=((i+1:Nat):Int):=by rw [a7];rfl
  clear hown4 hfrm4 hnew4 hb4 a7
  go_wp2
  first
   | exact ⟨⟨i+1,rfl,hlt,HO4⟩,by show n-(i+1)<n-i;omega⟩
   | (trace_state;sorry)
 have q1:(n:Int)≤(i:Int):=by omega
 obtain rfl:i=n:=by omega
 clear hlt
 go_wp2
 go_ret
 exact ⟨_,rfl,HO.out.1,HO.out.2.2⟩
theorem msum_d (mb base:Nat) (kind:Int) (A:Option Addr) (bs:List UInt8) (n c:Nat) (w:World) (h2:w.cell? ⟨mb,2,none⟩=some (.int .i64 kind)) (hn:n=bs.length) (hr:BRow w w.heap.size A bs) (hlen:bs.length≤140737488355328) (hb:base≤w.heap.size) :
 Calls Tryz.prog 95 #[.pointer (some ⟨mb,0,none⟩),.slice A n c] w fun e w'=>∃ v,e=.returned v∧OwnB w' 5 base v (chkB kind bs)∧Below w.heap.size w w':=by
 have HH:=hid (And.intro hn (And.intro hr (And.intro hlen hb)))
 clear hn hr hlen hb
 by_cases h1:kind=1
 ·subst h1
  have HL:=hid (least_d (crc32 bs) 4 base w (Nat.lt_of_lt_of_le (c32_lt32 bs) (by decide)) (by omega) HH.out.2.2.2)
  have hw:IntKind.u64.wrap ((crc32 bs:Nat):Int)=((crc32 bs:Nat):Int):=Go.IntWalk.u64_in _ (by have h:=c32_lt32 bs;unfold Num.M32 at h;omega)
  go_enter Tryz.func95,Tryz.ntmps95
  go_wp2_with fail
  refine (rcrc32_any' A bs n c _ w HH.out.1 HH.out.2.1 HH.out.2.2.1).mono ?_;rintro e w1 ⟨rfl,rfl⟩
  go_wp2_with fail
  refine HL.out.mono ?_;rintro e w1 ⟨v,rfl,ho,hb⟩
  have HO:=hid (And.intro ho hb)
  clear ho hb
  go_wp2
  go_ret
  exact ⟨v,rfl,HO.out.1,HO.out.2⟩
 by_cases h4:kind=4
 ·subst h4
  have HL:=hid (least_d (crc64 bs) 8 base w (c64_lt64 bs) (by omega) HH.out.2.2.2)
  go_enter Tryz.func95,Tryz.ntmps95
  go_wp2_with fail
  refine (rcrc64_any' A bs n c _ w HH.out.1 HH.out.2.1 HH.out.2.2.1).mono ?_;rintro e w1 ⟨rfl,rfl⟩
  go_wp2_with fail
  refine HL.out.mono ?_;rintro e w1 ⟨v,rfl,ho,hb⟩
  have HO:=hid (And.intro ho hb)
  clear ho hb
  go_wp2
  go_ret
  exact ⟨v,rfl,HO.out.1,HO.out.2⟩
 have q1:(kind==1)=false:=beq_eq_false_iff_ne.2 h1
 have q4:(kind==4)=false:=beq_eq_false_iff_ne.2 h4
 go_enter Tryz.func95,Tryz.ntmps95
 go_wp2
 go_ret
 refine ⟨_,rfl,?_,Below.refl _ _⟩
 unfold chkB
 rw [if_neg h1,if_neg h4]
 exact OwnB.nil _ _ _
open Go.RowKit Rng Win Lz Box
structure XmAt (w0 w:World) (K mb:Nat) (A:Option Addr) (bs:List UInt8) (c at':Nat) (kind:Int) (recs:List (Nat×Nat)) (ov lv:Value) (out:List UInt8):Prop where
 p:Pts w mb #[.slice A bs.length c,.int .i64 at',.int .i64 kind,ov,lv] 48
 o:OwnB w 5 K ov out
 l:OwnPr w 192 K lv recs
 ne:∀ q,ov.ownBlock=some q→lv.ownBlock≠some q
 nb:ov.ownBlock≠some mb∧lv.ownBlock≠some mb
 ge:K≤mb
 b:Below K w0 w
 kz:K≤w.heap.size
 om:out.length≤16777216
section
variable {w0 w w' : World} {K mb : Nat} {A : Option Addr} {bs : List UInt8} {c at' : Nat} {kind : Int} {recs : List (Nat × Nat)} {ov lv : Value} {out : List UInt8}
theorem XmAt.drewN (h:XmAt w0 w K mb A bs c at' kind recs ov lv out) (n:Nat):XmAt w0 (w.drewN n) K mb A bs c at' kind recs ov lv out :=
 ⟨h.p.drewN n,h.o.drewN n,h.l.frm (S:=fun _=>False) ((Frm.refl _ w).drewN n) (fun _ _ h=>h),h.ne,h.nb,h.ge,below_drewN h.b n,h.kz,h.om⟩
theorem XmAt.cells (h:XmAt w0 w K mb A bs c at' kind recs ov lv out):w.cell? ⟨mb,0,none⟩=some (.slice A bs.length c)∧w.cell? ⟨mb,1,none⟩=some (.int .i64 at')∧w.cell? ⟨mb,2,none⟩=some (.int .i64 kind)∧w.cell? ⟨mb,3,none⟩=some ov∧w.cell? ⟨mb,4,none⟩=some lv:=by
 have e:=fun o=>h.p.cell o
 exact ⟨e 0,e 1,e 2,e 3,e 4⟩
theorem XmAt.fz (h:XmAt w0 w K mb A bs c at' kind recs ov lv out) (o:Nat):w.frozen? ⟨mb,o,none⟩=false:=h.p.frozen o
theorem XmAt.move (h:XmAt w0 w K mb A bs c at' kind recs ov lv out) (at2:Nat):XmAt w0 (w.setCell ⟨mb,1,none⟩ (.int .i64 (at2:Int))) K mb A bs c at2 kind recs ov lv out:=by
 have hf:Frm (· = mb) w (w.setCell ⟨mb,1,none⟩ (.int .i64 (at2:Int))):=(Frm.refl (· = mb) w).setCell (p:=⟨mb,1,none⟩) rfl _
 exact ⟨h.p.set 1 _,h.o.frm hf (fun q hq e=>h.nb.1 (e▸hq)),h.l.frm hf (fun q hq e=>h.nb.2 (e▸hq)),h.ne,h.nb,h.ge,h.b.trans (hf.below h.kz (fun q e=>by rw [e];exact h.ge)),Nat.le_trans h.kz hf.size,h.om⟩
theorem XmAt.still (h:XmAt w0 w K mb A bs c at' kind recs ov lv out) (hb:Below w.heap.size w w'):XmAt w0 w' K mb A bs c at' kind recs ov lv out :=
 ⟨h.p.below hb h.p.lt,h.o.frm (S:=fun _=>False) (Frm.of_below hb) (fun _ _ h=>h),h.l.frm (S:=fun _=>False) (Frm.of_below hb) (fun _ _ h=>h),h.ne,h.nb,h.ge,h.b.trans (hb.mono h.kz),Nat.le_trans h.kz hb.size,h.om⟩
end
open Go.RowKit Rng Win Lz Box
theorem slice_dropD (A:Option Addr) (n c f m:Nat) (h1:f+m=n) (hn:n≤c) (w:World) :
 (Instr.sliceAt 22 (.slice A n c) (some (.int .i64 (f:Int))) none none).run Tryz.prog w=.ok (.slice (if c=f then A else A.map (·.add f)) m (c-f)) w:=by
 have h3:n-f=m:=by omega
 have h4:f≤n:=by omega
 by_cases h:c=f <;> simp [go_sem,h,h3,h4]
section
variable {w0 w : World} {K mb : Nat} {A : Option Addr} {bs : List UInt8} {c at' : Nat} {kind : Int} {recs : List (Nat × Nat)} {ov lv : Value} {out : List UInt8}
set_option maxRecDepth 100000 in
set_option maxHeartbeats 2000000 in
theorem number_d (want:Nat) (h:XmAt w0 w K mb A bs c at' kind recs ov lv out) (hrow:BRow w0 K A bs) (hcap:bs.length≤c∧bs.length≤1000000∧c≤maxLen) (hat:at'≤bs.length) (hnu:(number (bs.drop at')).2.2=0→(number (bs.drop at')).2.1≤(bs.drop at').length) :
 Calls Tryz.prog 96 #[.pointer (some ⟨mb,0,none⟩),.int .u64 want] w fun e w' =>
  (∃ z:Int,(number (bs.drop at')).2.2=z∧z≠0∧e=.returned (.int .i64 z)∧XmAt w0 w' K mb A bs c at' kind recs ov lv out) ∨
  ((number (bs.drop at')).2.2=0∧(number (bs.drop at')).1≠want∧e=.returned (.int .i64 11)∧XmAt w0 w' K mb A bs c at' kind recs ov lv out) ∨
  ((number (bs.drop at')).2.2=0∧(number (bs.drop at')).1=want∧e=.returned (.int .i64 0)∧XmAt w0 w' K mb A bs c (at'+(number (bs.drop at')).2.1) kind recs ov lv out):=by
 obtain ⟨LB,hLB⟩:∃ L,bs.length=L:=⟨_,rfl⟩
 obtain ⟨m,hm⟩:∃ m,LB-at'=m:=⟨_,rfl⟩
 have hdl:(bs.drop at').length=m:=by rw [List.length_drop,hLB];exact hm
 rw [hLB] at hcap hat
 have hsl:=fun w=>slice_dropD A LB c at' m (by omega) hcap.1 w
 have hr2:BRow w K (if c=at' then A else A.map (·.add at')) (bs.drop at'):=(hrow.below h.b).drop (by omega)
 obtain ⟨A2,hA2⟩:∃ a,(if c=at' then A else A.map (·.add at'))=a:=⟨_,rfl⟩
 rw [hA2] at hsl hr2
 have HNUM:=hid (fun (d:Nat)=>rnumber_p A2 (bs.drop at') m (c-at') K (w.drewN d) hdl.symm (hr2.drewN d) (by unfold maxLen;omega))
 obtain ⟨⟨x,u,z⟩,hx⟩:∃ t,number (bs.drop at')=t:=⟨_,rfl⟩
 rw [hx] at HNUM hnu ⊢
 unfold errOf at HNUM
 obtain ⟨c1,hc1⟩:∃ a,c-at'=a:=⟨_,rfl⟩
 rw [hc1] at HNUM hsl
 obtain ⟨d0,d1,-,-,-⟩:=h.cells
 rw [hLB] at d0
 have f1:=h.fz 1
 have HH:=hid h
 have HB:=hid (And.intro hnu (And.intro hcap (And.intro hat (And.intro hdl hm))))
 clear h hrow hcap hat hnu hLB hm hdl hr2 hA2 hx hc1
 by_cases hz:z=0
 ·subst hz
  have hu:u≤m:=by have:=HB.out.1 rfl;have:=HB.out.2.2.2.1;dsimp only at *;omega
  obtain ⟨a2,ha2⟩:∃ a,at'+u=a:=⟨_,rfl⟩
  have y1:(at':Int)+(u:Int)=(a2:Int):=by omega
  have y2:IntKind.i64.wrap (a2:Int)=(a2:Int):=Go.IntWalk.i64_in _ (by have:=HB.out.2;omega)
  have HM:Hid (XmAt w0 (w.drew.setCell ⟨mb,1,none⟩ (.int .i64 (a2:Int))) K mb A bs c a2 kind recs ov lv out):=hid ((HH.out.drewN 1).move a2)
  have HA:=hid ha2
  clear ha2 hu
  by_cases hw:x=want
  ·subst hw
   go_enter Tryz.func96,Tryz.ntmps96
   go_upto_region 1 with fail
   refine wp_region_stc 9 (by kernel_rfl) (by kernel_rfl) ?_
   simp only [List.take_succ_cons,List.take_zero,List.drop_succ_cons,List.drop_zero]
   repeat still_step
   refine wpStill_nil ?_
   change wpList _ _ _ _ _ w.drew
   go_wp2_with fail
   refine (HNUM.out 1).mono ?_;rintro e w2 ⟨rfl,rfl⟩
   go_wp2_with fail
   change wpStill _ _ _ _ _ _
   repeat still_step
   refine wpStill_nil ?_
   go_wp2
   go_ret
   refine .inr (.inr ⟨trivial,trivial,rfl,?_⟩)
   show XmAt _ _ _ _ _ _ _ (at'+u) _ _ _ _ _
   rw [HA.out]
   exact HM.out
  have qw:((x:Int)==(want:Int))=false:=beq_eq_false_iff_ne.2 (by omega)
  go_enter Tryz.func96,Tryz.ntmps96
  go_upto_region 1 with fail
  refine wp_region_stc 9 (by kernel_rfl) (by kernel_rfl) ?_
  simp only [List.take_succ_cons,List.take_zero,List.drop_succ_cons,List.drop_zero]
  repeat still_step
  refine wpStill_nil ?_
  change wpList _ _ _ _ _ w.drew
  go_wp2_with fail
  refine (HNUM.out 1).mono ?_;rintro e w2 ⟨rfl,rfl⟩
  go_wp2_with fail
  change wpStill _ _ _ _ _ _
  repeat still_step
  refine wpStill_nil ?_
  go_wp2
  go_ret
  exact .inr (.inl ⟨trivial,hw,rfl,HH.out.drewN 1⟩)
 have qz:(z==0)=false:=beq_eq_false_iff_ne.2 hz
 go_enter Tryz.func96,Tryz.ntmps96
 go_upto_region 1 with fail
 refine wp_region_stc 9 (by kernel_rfl) (by kernel_rfl) ?_
 simp only [List.take_succ_cons,List.take_zero,List.drop_succ_cons,List.drop_zero]
 repeat still_step
 refine wpStill_nil ?_
 change wpList _ _ _ _ _ w.drew
 go_wp2_with fail
 refine (HNUM.out 1).mono ?_;rintro e w2 ⟨rfl,rfl⟩
 go_wp2_with fail
 change wpStill _ _ _ _ _ _
 repeat still_step
 refine wpStill_nil ?_
 go_wp2
 go_ret
 exact .inl ⟨z,rfl,hz,rfl,HH.out.drewN 1⟩
end
open Go.RowKit Rng Win Lz Box
theorem hdLen_pos (src:List UInt8):4≤hdLen src:=by unfold hdLen;omega
theorem scan_more (q:List UInt8):∀ (bs:List UInt8) (i n:Nat),(scan i n bs).2.2≠10→scan i n (bs++q)=scan i n bs
 | [],i,n,h=>absurd rfl h
 | c::r,i,n,h=>by
  rw [List.cons_append]
  unfold scan at h ⊢
  split
  ·rfl
  rename_i h1
  rw [if_neg h1] at h
  split
  ·rfl
  rename_i h2
  rw [if_neg h2] at h
  exact scan_more q r _ _ h
theorem number_more {bs:List UInt8} (q:List UInt8) (h:(number bs).2.2≠10):number (bs++q)=number bs:=scan_more q bs 0 0 h
theorem number_used {bs:List UInt8} (h:(number bs).2.2=0):1≤(number bs).2.1∧(number bs).2.1≤bs.length:=by
 obtain ⟨v,k,h1,h2,h3,h4,_⟩:=scan_back bs 0 0 (number bs).1 (number bs).2.1 (by omega) (by unfold number at h ⊢;rw [← h])
 omega
theorem xTail_front {R:BlkR} {kind:Int} {hl u:Nat} {out rest o rest':List UInt8} {r:Nat×Nat} (h:xTail R kind hl u out rest=.ok o r rest'):o=out∧r=(hl+u+chkLen kind,out.length)∧padOf (hl+u)+chkLen kind≤rest.length∧rest'=rest.drop (padOf (hl+u)+chkLen kind) ∧
 xTail R kind hl u out (rest.take (padOf (hl+u)+chkLen kind))=.ok out r []:=by
 unfold xTail at h ⊢
 by_cases h1:(R.2.2.1≠M64'∧R.2.2.1≠u)∨(R.2.2.2.1≠M64'∧R.2.2.2.1≠out.length)
 ·rw [if_pos h1] at h;cases h
 rw [if_neg h1] at h ⊢
 by_cases h2:rest.length<padOf (hl+u)+chkLen kind
 ·rw [if_pos h2] at h;cases h
 rw [if_neg h2] at h
 have hl2:(rest.take (padOf (hl+u)+chkLen kind)).length=padOf (hl+u)+chkLen kind:=by rw [List.length_take];omega
 rw [if_neg (by omega),List.take_take,List.drop_take,List.take_take,show min (padOf (hl+u)) (padOf (hl+u)+chkLen kind)=padOf (hl+u) by omega,show min (chkLen kind) (padOf (hl+u)+chkLen kind-padOf (hl+u))=chkLen kind by omega]
 by_cases h3:rest.take (padOf (hl+u))≠List.replicate (padOf (hl+u)) 0∨(rest.drop (padOf (hl+u))).take (chkLen kind)≠chkB kind out
 ·rw [if_pos h3] at h;cases h
 rw [if_neg h3] at h ⊢
 injection h with h4 h5 h6
 refine ⟨h4.symm,h5.symm,by omega,h6.symm,?_⟩
 rw [← h5,List.drop_of_length_le (by omega)]
theorem xBody_front {budget:Nat} {kind:Int} {told:Nat} {R:BlkR} {hl:Nat} {src o rest:List UInt8} {r:Nat×Nat} (h:xBody budget kind told R hl src=.ok o r rest):∃ m,1≤m∧m≤src.length∧rest=src.drop m∧xBody budget kind told R hl (src.take m)=.ok o r []:=by
 unfold xBody at h ⊢
 by_cases h1:R.2.2.2.2≠0
 ·rw [if_pos h1] at h;cases h
 rw [if_neg h1] at h
 by_cases h2:(budget:Int)<R.1
 ·rw [if_pos h2] at h;cases h
 rw [if_neg h2] at h
 cases hd:d2P (max R.1.toNat 4096) (16777216-told) src with
 | mk T Rr =>
  rw [hd] at h
  cases Rr with
  | inl e=>cases h
  | inr t =>
   simp only at h
   obtain ⟨p,p1,p2,p3⟩:=d2P_front hd
   have hl1:=congrArg List.length p1
   rw [List.length_append] at hl1
   rw [show src.length-t.length=p.length by omega] at h
   obtain ⟨e1,e2,e3,e4,e5⟩:=xTail_front h
   refine ⟨p.length+(padOf (hl+p.length)+chkLen kind),by omega,by omega,?_,?_⟩
   ·have hdp:p.drop (p.length+(padOf (hl+p.length)+chkLen kind))=[]:=List.drop_of_length_le (by omega)
    rw [e4,p1,List.drop_append,hdp,List.nil_append,Nat.add_sub_cancel_left]
   have ht:src.take (p.length+(padOf (hl+p.length)+chkLen kind))=p++t.take (padOf (hl+p.length)+chkLen kind):=by
    rw [p1,List.take_append,List.take_of_length_le (by omega),Nat.add_sub_cancel_left]
   rw [ht,if_neg h1,if_neg h2,d2P_more _ _ _ _ (fun T2 e=>by rw [p3] at e;simp at e),p3]
   simp only [sumMore,List.nil_append]
   rw [show (p++t.take (padOf (hl+p.length)+chkLen kind)).length-(t.take (padOf (hl+p.length)+chkLen kind)).length=p.length by rw [List.length_append];omega,e5,e1]
theorem xBlock_front {budget:Nat} {kind:Int} {told:Nat} {src o rest:List UInt8} {r:Nat×Nat} (h:xBlock budget kind told src=.ok o r rest):∃ m,1≤m∧m≤src.length∧rest=src.drop m∧xBlock budget kind told (src.take m)=.ok o r []:=by
 unfold xBlock at h
 by_cases h1:src.length<hdLen src
 ·rw [if_pos h1] at h;cases h
 rw [if_neg h1] at h
 have h4:=hdLen_pos src
 obtain ⟨m,m1,m2,m3,m4⟩:=xBody_front h
 rw [List.length_drop] at m2
 refine ⟨hdLen src+m,by omega,by omega,by rw [m3,List.drop_drop],?_⟩
 have e1:hdLen (src.take (hdLen src+m))=hdLen src:=by unfold hdLen;rw [getD_takeU src (by omega)]
 have e2:(src.take (hdLen src+m)).length=hdLen src+m:=by rw [List.length_take];omega
 unfold xBlock
 rw [e1,if_neg (by omega),List.take_take,show min (hdLen src) (hdLen src+m)=hdLen src by omega,List.drop_take,show hdLen src+m-hdLen src=m by omega]
 exact m4
end Go.Proofs.YtffehfpbdcokbaaGreat
