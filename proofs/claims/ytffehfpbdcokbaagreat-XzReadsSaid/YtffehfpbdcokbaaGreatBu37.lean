import Derived.OrdersHeld
import Derived.Test.YtffehfpbdcokbaaGreatBu1
import Derived.Test.YtffehfpbdcokbaaGreatBu17
import Derived.Test.YtffehfpbdcokbaaGreatBu36
set_option linter.unusedVariables false
set_option linter.unusedSimpArgs false
namespace Go.Proofs.YtffehfpbdcokbaaGreat
open Lib (hid)
open Go.RowKit Box
namespace Box
def stick (e:Int) (t:List UInt8):Int:=if e=0∧¬ (∀ x∈t,x=0) then 11 else e
theorem stick_nil (e:Int):stick e []=e:=by unfold stick;simp
theorem stick_yes {e:Int} {t:List UInt8} (h:∀ x∈t,x=0):stick e t=e:=by unfold stick;rw [if_neg (fun k=>k.2 h)]
theorem stick_no {t:List UInt8} (h:¬ ∀ x∈t,x=0):stick 0 t=11:=by unfold stick;rw [if_pos ⟨rfl,h⟩]
theorem stick_err {e:Int} {t:List UInt8} (h:¬ e=0):stick e t=e:=by unfold stick;rw [if_neg (fun k=>h k.1)]
theorem bxMust_err {e x:Int} {β:Bool} (h:¬ e=0):bxMust e β x=e:=by unfold bxMust;rw [if_neg (fun k=>h k.1)]
theorem bxMust_yes {e x:Int}:bxMust e true x=e:=by unfold bxMust;rw [if_neg (fun k=>nomatch k.2)]
theorem bxMust_no {x:Int}:bxMust 0 false x=x:=by unfold bxMust;rw [if_pos ⟨rfl,rfl⟩]
theorem stick_snoc (e:Int) (t:List UInt8) (x:UInt8) (γ:Bool) (h:γ=true↔x=0):bxMust (stick e t) γ 11=stick e (t++[x]):=by
 by_cases he:e=0
 ·subst he
  by_cases ht:∀ x∈t,x=0
  ·rw [stick_yes ht]
   cases γ with
   | true =>
    have hx:=h.1 rfl
    rw [bxMust_yes,stick_yes (fun y hy=>by rcases List.mem_append.1 hy with k | k;exact ht y k;rw [List.mem_singleton.1 k];exact hx)]
   | false =>
    have hx:¬ x=0:=fun k=>nomatch h.2 k
    rw [bxMust_no,stick_no (fun k=>hx (k x (by simp)))]
  rw [stick_no ht,bxMust_err (by decide),stick_no (fun k=>ht fun y hy=>k y (by simp [hy]))]
 rw [stick_err he,stick_err he,bxMust_err he]
theorem stick_zero {e:Int} {t:List UInt8} (h:stick e t=0):e=0∧∀ x∈t,x=0:=by
 unfold stick at h
 split at h
 ·cases h
 rename_i hn
 refine ⟨h,?_⟩
 have:=not_and.1 hn h
 simpa using this
def rfil (e3:Int) (F:Nat) (t:List UInt8) (n p q:Nat):BlkR:=if stick e3 t=0 then (winOf F,n,p,q,0) else (0,0,0,0,stick e3 t)
theorem rfil_ok (c:UInt8) (t:List UInt8) (n p q:Nat) (β2 β3:Bool) (h2:decide (c.toNat<64)=β2) (h3:decide (c.toNat≤40)=β3):rfil (bxMust (bxMust 0 β2 12) β3 11) c.toNat t n p q=blkOf (bkFilter (c::t) p q) n:=by
 unfold rfil bkFilter
 simp only
 cases β2 with
 | true =>
  have h2:=of_decide_eq_true h2
  rw [bxMust_yes,if_neg (show ¬ ¬ c.toNat<64 from fun k=>k h2)]
  cases β3 with
  | true =>
   have h3:=of_decide_eq_true h3
   rw [bxMust_yes,if_neg (show ¬ 40<c.toNat by omega)]
   by_cases ht:∀ x∈t,x=0
   ·rw [stick_yes ht,if_pos rfl,if_neg (show ¬ ¬ (∀ x∈t,x=0) from fun k=>k ht)];rfl
   ·rw [stick_no ht,if_neg (by decide),if_pos ht];rfl
  | false =>
   have h3:=of_decide_eq_false h3
   rw [bxMust_no,if_pos (show 40<c.toNat by omega),stick_err (by decide),if_neg (by decide)];rfl
 | false =>
  have h2:=of_decide_eq_false h2
  rw [bxMust_no,bxMust_err (by decide),if_pos (show ¬ c.toNat<64 from h2),stick_err (by decide),if_neg (by decide)];rfl
end Box
theorem results_tmp5' {fn:Func} {t u v x y:Tmp} (h:fn.results=#[.tmp t,.tmp u,.tmp v,.tmp x,.tmp y]) (tmps:Array Value) (P:Program) (w:World) :
 (results fn tmps).run P w=.ok (.tuple #[tmps.getD t undef,tmps.getD u undef,tmps.getD v undef,tmps.getD x undef,tmps.getD y undef]) w:=by
 simp [results,h]
set_option maxRecDepth 100000 in
theorem rfilter_bad (xb B n p q:Nat) (r:List UInt8) (e:Int) (w0 w:World) (h:BoxW w0 w xb B r e) (he:¬ e=0) :
 Calls Tryz.prog 68 #[.pointer (some ⟨xb,0,none⟩),.int .i64 (n:Int),.int .u64 (p:Int),.int .u64 (q:Int)] w fun o w'=>o=.returned (blkV (0,0,0,0,e))∧Below B w0 w':=by
 have c1:=h.cell1
 have H:=hid h
 obtain ⟨A,c,hp,_⟩:=h.p
 have c0:=hp.cell 0
 have hm:∀ β,bxMust e β 11=e:=by intro β;unfold bxMust;simp [he]
 have HM:=hid hm
 have hq:(e != 0)=true:=by simp [he]
 obtain ⟨L,hL⟩:∃ L,r.length=L:=⟨_,rfl⟩
 rw [hL] at c0
 clear h hp hm he hL
 go_enter Tryz.func68,Tryz.ntmps68
 go_wp2_with fail
 refine (rmust_p xb B r e 11 _ w0 w H.out).mono ?_;rintro o w1 ⟨rfl,h1⟩
 rw [HM.out] at h1
 have c1:=h1.cell1
 have H1:=hid h1
 clear h1
 go_wp2
 go_quiet (fail)
 go_wp2
 refine bodyPost_ret (results_tmp5' rfl _ _ _) rfl ?_
 exact ⟨rfl,by first | exact H1.out.f | exact below_drewN H1.out.f _⟩
set_option maxRecDepth 100000 in
theorem rfilter_nil (xb B n p q:Nat) (w0 w:World) (h:BoxW w0 w xb B [] 0) :
 Calls Tryz.prog 68 #[.pointer (some ⟨xb,0,none⟩),.int .i64 (n:Int),.int .u64 (p:Int),.int .u64 (q:Int)] w fun o w'=>o=.returned (blkV (0,0,0,0,11))∧Below B w0 w':=by
 have c1:=h.cell1
 have H:=hid h
 obtain ⟨A,c,hp,_⟩:=h.p
 have c0:w.cell? ⟨xb,0,none⟩=some (.slice A 0 c):=hp.cell 0
 clear h hp
 go_enter Tryz.func68,Tryz.ntmps68
 go_wp2_with fail
 refine (rmust_p xb B [] 0 11 false w0 w H.out).mono ?_;rintro o w1 ⟨rfl,h1⟩
 rw [show bxMust 0 false 11=11 from rfl] at h1
 have c1:=h1.cell1
 have H1:=hid h1
 clear h1
 go_wp2
 go_quiet (fail)
 go_wp2
 refine bodyPost_ret (results_tmp5' rfl _ _ _) rfl ?_
 exact ⟨rfl,by first | exact H1.out.f | exact below_drewN H1.out.f _⟩
set_option maxRecDepth 100000 in
set_option maxHeartbeats 1000000 in
theorem rfilter_cons (xb B n p q:Nat) (c:UInt8) (t:List UInt8) (w0 w:World) (h:BoxW w0 w xb B (c::t) 0) (hlen:(c::t).length≤1000000) :
 Calls Tryz.prog 68 #[.pointer (some ⟨xb,0,none⟩),.int .i64 (n:Int),.int .u64 (p:Int),.int .u64 (q:Int)] w fun o w'=>o=.returned (blkV (blkOf (bkFilter (c::t) p q) n))∧Below B w0 w':=by
 obtain ⟨β2,h2⟩:∃ β,decide (c.toNat<64)=β:=⟨_,rfl⟩
 obtain ⟨β3,h3⟩:∃ β,decide (c.toNat≤40)=β:=⟨_,rfl⟩
 rw [← rfil_ok c t n p q β2 β3 h2 h3]
 have hcl:=c.toNat_lt
 have H3:=hid h3
 have hz:stick (bxMust (bxMust 0 β2 12) β3 11) t=0→c.toNat≤40:=by
  intro hs
  have:=(stick_zero hs).1
  unfold bxMust at this
  cases β3 with
  | true=>exact of_decide_eq_true h3
  | false=>exfalso;revert this;cases β2 <;> simp
 obtain ⟨F,hF⟩:∃ F,c.toNat=F:=⟨_,rfl⟩
 obtain ⟨e3,he3⟩:∃ e,bxMust (bxMust 0 β2 12) β3 11=e:=⟨_,rfl⟩
 rw [hF] at h2 h3 hcl
 have h3i:decide ((F:Int)≤40)=β3:=by rw [← h3];exact decide_eq_decide.2 (by omega)
 have f192:(bits .and .u8 (F:Int) 192==0)=β2:=(and_facts hcl).2.2.2.1.trans h2
 have HZ:=hid hz
 obtain ⟨rest,hrest⟩:∃ l,c::t=l:=⟨_,rfl⟩
 have hl1:1≤rest.length:=by rw [← hrest];simp
 have hl0:decide (0<rest.length)=true:=decide_eq_true (by omega)
 have ht:t=rest.drop 1:=by rw [← hrest];rfl
 have hc0:rest.getD 0 0=c:=by rw [← hrest];rfl
 rw [hrest] at h hlen
 have HT:=hid ht
 have HC0:=hid hc0
 have HE3:=hid he3
 have HF:=hid hF
 have c1:=h.cell1
 obtain ⟨A,k,hp,_⟩:=h.p
 have c0:w.cell? ⟨xb,0,none⟩=some (.slice A rest.length k):=hp.cell 0
 have H:=hid h
 clear h hp hz hrest ht hc0 h2 he3 hF
 rw [HE3.out,HF.out]
 go_enter Tryz.func68,Tryz.ntmps68
 go_wp2_with fail
 refine (rmust_p xb B rest 0 11 true w0 w H.out).mono ?_;rintro o w1 ⟨rfl,g1⟩
 rw [show bxMust 0 true 11=0 from rfl] at g1
 have c1:=g1.cell1
 obtain ⟨A1,k1,hp1,_,_,hr1⟩:=g1.p
 have c0:w1.cell? ⟨xb,0,none⟩=some (.slice A1 rest.length k1):=hp1.cell 0
 obtain ⟨b0,off,rfl,_,hcell⟩:=hr1 (by omega)
 have cc:w1.cell? ⟨b0,off,none⟩=some (.int .u8 (F:Int)):=by have:=hcell 0 (by omega);rw [HC0.out] at this;rw [← HF.out];exact this
 have H1:=hid g1
 clear g1 hp1 hr1 hcell
 go_wp2_with fail
 refine (rmust_p xb B rest 0 12 β2 w0 w1 H1.out).mono ?_;rintro o w2 ⟨rfl,g2⟩
 have H2:=hid g2
 clear g2
 go_wp2_with fail
 refine (rmust_p xb B rest _ 11 β3 w0 w2 H2.out).mono ?_;rintro o w3 ⟨rfl,g3⟩
 rw [HE3.out] at g3
 have H3:=hid g3
 clear g3
 go_wp2
 go_loopw [14] (fun iv wr=>∃ (i:Nat),iv=.int .i64 i∧1≤i∧i≤rest.length∧BoxW w0 wr xb B rest (stick e3 ((rest.take i).drop 1))) (fun iv _=>rest.length-(intOf iv).toNat)
 case atStart =>
  refine ⟨1,rfl,by omega,by omega,?_⟩
  rw [show (rest.take 1).drop 1=[] by rw [List.drop_eq_nil_iff,List.length_take];omega,stick_nil]
  exact H3.out
 case round =>
 obtain ⟨i,rfl,hi1,hi,hbx⟩:=hrel
 obtain ⟨A2,k2,hp2,_,_,hr2⟩:=hbx.p
 have d0:wr.cell? ⟨xb,0,none⟩=some (.slice A2 rest.length k2):=hp2.cell 0
 have d1:=hbx.cell1
 have BX:=hid hbx
 by_cases hlt:i<rest.length
 ·obtain ⟨b2,off2,rfl,_,hcell⟩:=hr2 (by omega)
  obtain ⟨x,hx⟩:∃ x,rest.getD i 0=x:=⟨_,rfl⟩
  have cx:wr.cell? ⟨b2,off2+i,none⟩=some (.int .u8 (x.toNat:Int)):=by have:=hcell i hlt;rw [hx] at this;exact this
  obtain ⟨γ,hγ⟩:∃ γ,((x.toNat:Int)==0)=γ:=⟨_,rfl⟩
  have hγx:γ=true↔x=0:=by rw [← hγ];simp [UInt8.toNat_inj,← UInt8.toNat_inj]
  have hst:bxMust (stick e3 ((rest.take i).drop 1)) γ 11=stick e3 ((rest.take (i+1)).drop 1):=by
   rw [stick_snoc e3 _ x γ hγx]
   congr 1
   rw [List.take_succ_eq_append_getElem hlt,List.drop_append_of_le_length (by rw [List.length_take];omega)]
   congr 2
   rw [← hx];simp [List.getD,List.getElem?_eq_getElem hlt]
  have HST:=hid hst
  clear hst hγx hbx hp2 hr2 hcell hx
  obtain ⟨ei,hei⟩:∃ ei,stick e3 ((rest.take i).drop 1)=ei:=⟨_,rfl⟩
  rw [hei] at d1 BX HST
  clear hei
  go_wp2_with fail
  refine (rmust_p xb B rest ei 11 γ w0 wr BX.out).mono ?_;rintro o w4 ⟨rfl,g4⟩
  rw [HST.out] at g4
  have H4:=hid g4
  clear g4
  go_wp2
  exact ⟨⟨i+1,by go_num,by omega,by omega,H4.out⟩,by simp [intOf];omega⟩
 obtain rfl:i=rest.length:=by omega
 have htt:(rest.take rest.length).drop 1=t:=by rw [List.take_length,← HT.out]
 rw [htt] at d1 BX
 clear htt hbx hp2 hr2
 by_cases hs:stick e3 t=0
 ·rw [hs] at d1 BX
  have hF40:F≤40:=by have:=HZ.out (by rw [HE3.out];exact hs);rw [HF.out] at this;exact this
  have hR:rfil e3 F t n p q=(winOf F,n,p,q,0):=by unfold rfil;rw [if_pos hs]
  have HR:=hid hR
  have HW:=hid (window_p F wr hF40)
  clear hs hR hF40
  go_wp2_with fail
  refine HW.out.mono ?_;rintro o w4 ⟨rfl,rfl⟩
  go_wp2
  refine bodyPost_ret (results_tmp5' rfl _ _ _) rfl ?_
  exact ⟨by rw [HR.out];rfl,BX.out.f⟩
 have hR:rfil e3 F t n p q=(0,0,0,0,stick e3 t):=by unfold rfil;rw [if_neg hs]
 have HR:=hid hR
 obtain ⟨e4,he4⟩:∃ e,stick e3 t=e:=⟨_,rfl⟩
 rw [he4] at d1 BX hs HR
 have hq:(e4 != 0)=true:=by simp [hs]
 clear hs he4 hR
 go_wp2
 go_quiet (fail)
 go_wp2
 refine bodyPost_ret (results_tmp5' rfl _ _ _) rfl ?_
 exact ⟨by rw [HR.out];rfl,by first | exact BX.out.f | exact below_drewN BX.out.f _⟩
open Go.RowKit Box
namespace Box
def Goes (R K:BkR) (e:Int):Prop:=(e=0→K=R)∧(¬ e=0→R=.error e)
theorem goes_num {R K:BkR} {r:List UInt8} {e:Int} {F:Nat→List UInt8→BkR} (h:Goes R K e) (hK:K=if ¬ (number r).2.2=0 then .error 11 else F (number r).1 (r.drop (number r).2.1)) :
 Goes R (F (bxNum r e).1 (bxNum r e).2.1) (bxNum r e).2.2:=by
 by_cases he:e=0
 ·have h1:=h.1 he
  by_cases hn:(number r).2.2=0
  ·have hb:bxNum r e=((number r).1,r.drop (number r).2.1,0):=by unfold bxNum;rw [if_neg (fun k=>k he),if_neg (fun k=>k hn)]
   rw [hb]
   rw [if_neg (fun k=>k hn)] at hK
   exact ⟨fun _=>by rw [← h1,hK],fun k=>absurd rfl k⟩
  have hb:bxNum r e=(0,r,11):=by unfold bxNum;rw [if_neg (fun k=>k he),if_pos hn]
  rw [hb]
  rw [if_pos hn] at hK
  exact ⟨fun k=>absurd (show (11:Int)=0 from k) (by decide),fun _=>by rw [← h1,hK]⟩
 have hb:bxNum r e=(0,r,e):=by unfold bxNum;rw [if_pos he]
 rw [hb]
 exact ⟨fun k=>absurd k he,h.2⟩
theorem goes_must {R K K':BkR} {e x:Int} {β:Bool} {c:Prop} [Decidable c] (h:Goes R K e) (hx:¬ x=0) (hβ:β=true↔c) (hK:K=if ¬ c then .error x else K'):Goes R K' (bxMust e β x):=by
 by_cases he:e=0
 ·have h1:=h.1 he
  subst he
  cases β with
  | true =>
   rw [bxMust_yes]
   rw [if_neg (fun k=>k (hβ.1 rfl))] at hK
   exact ⟨fun _=>by rw [← h1,hK],fun k=>absurd rfl k⟩
  | false =>
   rw [bxMust_no]
   rw [if_pos (fun k=>nomatch hβ.2 k)] at hK
   exact ⟨fun k=>absurd k hx,fun _=>by rw [← h1,hK]⟩
 rw [bxMust_err he]
 exact ⟨fun k=>absurd k he,h.2⟩
theorem bxNum_len (r:List UInt8) (e:Int):(bxNum r e).2.1.length≤r.length:=by
 unfold bxNum
 split
 ·exact Nat.le_refl _
 split
 ·exact Nat.le_refl _
 show (r.drop _).length≤_
 rw [List.length_drop];omega
theorem blk_body {bs:List UInt8} {N:Nat} (h:8≤N) (hl:N≤bs.length):((bs.take N).drop 1).take (N-5)=bs.getD 1 0::(bs.drop 2).take (N-6):=by
 match bs,hl with
 | [],hl=>exact absurd hl (by simp;omega)
 | [_],hl=>exact absurd hl (by simp;omega)
 | a::b::t,hl =>
  obtain ⟨M,rfl⟩:∃ M,N=M+8:=⟨N-8,by omega⟩
  show ((a::b::t.take (M+6)).drop 1).take (M+2+1)=b::(t.take (M+2))
  rw [List.drop_succ_cons,List.drop_zero,List.take_succ_cons,List.take_take]
  congr 2
  omega
end Box
theorem rnum_g (xb B:Nat) (r:List UInt8) (e:Int) (R K:BkR) (w0 w:World) (h:BoxW w0 w xb B r e) (hlen:r.length≤1000000) (hg:Goes R K e) :
 Calls Tryz.prog 66 #[.pointer (some ⟨xb,0,none⟩)] w fun o w'=>∃ (y:Nat) (r':List UInt8) (e':Int),o=.returned (.int .u64 (y:Int))∧BoxW w0 w' xb B r' e'∧r'.length≤1000000 ∧
  ∀ F:Nat→List UInt8→BkR,(K=if ¬ (number r).2.2=0 then .error 11 else F (number r).1 (r.drop (number r).2.1))→Goes R (F y r') e':=by
 refine (rnum_p xb B r e w0 w h hlen).mono ?_
 rintro o w' ⟨rfl,h1⟩
 exact ⟨_,_,_,rfl,h1,Nat.le_trans (bxNum_len r e) hlen,fun F hK=>goes_num hg hK⟩
theorem rmust_g (xb B:Nat) (r:List UInt8) (e x:Int) (β:Bool) (R K:BkR) (w0 w:World) (h:BoxW w0 w xb B r e) (hg:Goes R K e) (hx:¬ x=0) :
 Calls Tryz.prog 67 #[.pointer (some ⟨xb,0,none⟩),.bool β,.int .i64 x] w fun o w'=>∃ e',o=.returned (.tuple #[])∧BoxW w0 w' xb B r e' ∧
  ∀ (K':BkR) (c:Prop) [Decidable c],(β=true↔c)→(K=if ¬ c then .error x else K')→Goes R K' e':=by
 refine (rmust_p xb B r e x β w0 w h).mono ?_
 rintro o w' ⟨rfl,h1⟩
 exact ⟨_,rfl,h1,fun K' c _ hβ hK=>goes_must hg hx hβ hK⟩
theorem rfilter_p (xb B n p q:Nat) (r:List UInt8) (e:Int) (R:BkR) (w0 w:World) (h:BoxW w0 w xb B r e) (hlen:r.length≤1000000) (hg:Goes R (bkFilter r p q) e) :
 Calls Tryz.prog 68 #[.pointer (some ⟨xb,0,none⟩),.int .i64 (n:Int),.int .u64 (p:Int),.int .u64 (q:Int)] w fun o w'=>o=.returned (blkV (blkOf R n))∧Below B w0 w':=by
 by_cases he:e=0
 ·subst he
  rw [← hg.1 rfl]
  cases r with
  | nil=>exact rfilter_nil xb B n p q w0 w h
  | cons c t=>exact rfilter_cons xb B n p q c t w0 w h hlen
 rw [hg.2 he]
 exact rfilter_bad xb B n p q r e w0 w h he
theorem BoxW.fresh {w:World} {A:Option Addr} {r:List UInt8} {n c:Nat} (hn:n=r.length) (hc:n≤c) (hm:c≤maxLen) (hr:BRow w w.heap.size A r) :
 BoxW w (w.alloc (.cells #[.slice A n c,.int .i64 0] 113)) w.heap.size w.heap.size r 0:=by
 subst hn
 have hb:=(Below.refl w.heap.size w).alloc (Nat.le_refl _) (.cells #[.slice A r.length c,.int .i64 0] 113)
 exact ⟨⟨A,c,Pts.new w _ _,hc,hm,hr.below hb⟩,Nat.le_refl _,hb⟩
set_option maxRecDepth 100000 in
set_option maxHeartbeats 2000000 in
theorem rblock_p (A:Option Addr) (bs:List UInt8) (n c:Nat) (w:World) (hn:n=bs.length) (hc:n≤c) (hcm:c≤maxLen) (hr:BRow w w.heap.size A bs) :
 Calls Tryz.prog 29 #[.slice A n c] w (BlkPost (blockOf bs) w):=by
 subst hn
 have CAP:=hid hc
 have ROW:=hid hr
 clear hr
 obtain ⟨R,hR⟩:∃ R,blockOf bs=R:=⟨_,rfl⟩
 rw [hR]
 cases bs with
 | nil =>
  have hR:(0,0,0,0,10)=R:=hR
  subst hR
  clear hc
  simp only [List.length_nil]
  go_enter Tryz.func29,Tryz.ntmps29
  go_wp2
  refine bodyPost_ret (results_tmp5' rfl _ _ _) rfl ?_
  exact ⟨rfl,Below.refl _ _⟩
 | cons b r0 =>
  have hRb:=hR
  unfold blockOf at hRb
  simp only at hRb
  obtain ⟨bs,hbs⟩:∃ bs,b::r0=bs:=⟨_,rfl⟩
  have hb0:bs.getD 0 0=b:=by rw [← hbs];rfl
  have hl1:1≤bs.length:=by rw [← hbs];simp
  rw [hbs] at hRb CAP ROW hc ⊢
  obtain ⟨b0,off,rfl,hbl,hcell⟩:=ROW.out (by omega)
  have HBL:=hid hbl
  have k0:w.cell? ⟨b0,off,none⟩=some (.int .u8 (b.toNat:Int)):=by
   have:=hcell 0 (by omega)
   rw [hb0] at this
   exact this
  have hbn:=b.toNat_lt
  obtain ⟨N,hN⟩:∃ N,(b.toNat+1)*4=N:=⟨_,rfl⟩
  rw [hN] at hRb
  have hbz:b=0↔b.toNat=0:=⟨fun e=>by rw [e];rfl,fun e=>by rw [← UInt8.ofNat_toNat (x:=b),e];rfl⟩
  obtain ⟨bn,hbb⟩:∃ bn,b.toNat=bn:=⟨_,rfl⟩
  rw [hbb] at k0 hbn hN hbz
  have hNi:((bn:Int)+1)*4=(N:Int):=by omega
  have hNb:4≤N∧N≤1024:=by omega
  have HRB:=hid hRb
  have HBZ:=hid hbz
  have HN4:=hid hN
  have HCELL:=hid hcell
  have hl1i:(bs.length==0)=false:=by rw [beq_eq_false_iff_ne];omega
  have hl1j:((bs.length:Int)==0)=false:=by rw [beq_eq_false_iff_ne];omega
  clear hR hRb hbz hcell hbs hb0 hbb hc hN hbl
  by_cases hsh:bs.length<N
  ·have hR:=HRB.out
   rw [if_pos hsh] at hR
   subst hR
   have hshi:(bs.length:Int)<(N:Int):=by omega
   clear HRB
   go_enter Tryz.func29,Tryz.ntmps29
   go_wp2
   refine bodyPost_ret (results_tmp5' rfl _ _ _) rfl ?_
   exact ⟨rfl,Below.refl _ _⟩
  have hR:=HRB.out
  rw [if_neg hsh] at hR
  have HSH:=hid hsh
  clear HRB
  have lH:N=(bs.take N).length:=by rw [List.length_take];omega
  have hrs:=rsealed_p (some ⟨b0,off,none⟩) (bs.take N) N c w.heap.size w lH (by omega) (by have:=CAP.out;omega) (ROW.out.take N) (by rw [← lH];omega)
  have hts:∀ w,(Instr.sliceAt 22 (.slice (some ⟨b0,off,none⟩) bs.length c) none (some (.int .i64 (N:Int))) none).run Tryz.prog w=.ok (.slice (some ⟨b0,off,none⟩) N c) w:=fun w=>slice_toX _ bs.length c N (by omega) CAP.out w
  clear lH
  by_cases hz:b=0
  ·rw [if_pos hz] at hR
   subst hR
   obtain rfl:bn=0:=HBZ.out.1 hz
   clear hz hrs
   go_enter Tryz.func29,Tryz.ntmps29
   go_wp2
   refine bodyPost_ret (results_tmp5' rfl _ _ _) rfl ?_
   exact ⟨rfl,Below.refl _ _⟩
  rw [if_neg hz] at hR
  have hbn0:¬ bn=0:=fun e=>hz (HBZ.out.2 e)
  have hbq:((bn:Int)==0)=false:=by rw [beq_eq_false_iff_ne];omega
  have hN8:8≤N:=by have:=HN4.out;omega
  clear hz hbn0
  by_cases hse:sealedB (bs.take N)=true
  ·rw [if_neg (fun h=>h hse),blk_body hN8 (by omega)] at hR
   rw [hse] at hrs
   clear hse
   have HRS:=hid hrs
   obtain ⟨f,hf⟩:∃ f,bs.getD 1 0=f:=⟨_,rfl⟩
   have k1:w.cell? ⟨b0,off+1,none⟩=some (.int .u8 (f.toNat:Int)):=by
    have:=HCELL.out 1 (by omega)
    rw [hf] at this
    exact this
   rw [hf] at hR
   clear hf hrs
   have hF:=f.toNat_lt
   unfold bkBody at hR
   simp only at hR
   obtain ⟨F,hFF⟩:∃ F,f.toNat=F:=⟨_,rfl⟩
   rw [hFF] at hR hF k1
   clear hFF
   obtain ⟨f63,f64,f128,_,_⟩:=and_facts hF
   have F64:=hid f64
   have F128:=hid f128
   clear f64 f128
   by_cases h63:F % 64=0
   ·rw [if_neg (fun h=>h h63)] at hR
    have g63:((F:Int) % 64 != 0)=false:=by have:(F:Int) % 64=0:=by omega
                                           rw [this];rfl
    have g63b:(bits .and .u8 (F:Int) 63 != 0)=false:=by rw [bne,f63,decide_eq_true h63];rfl
    clear h63 f63
    obtain ⟨r,hrr⟩:∃ r,(bs.drop 2).take (N-6)=r:=⟨_,rfl⟩
    rw [hrr] at hR
    have hrm:=ROW.out.mid (f:=2) (t:=N-6) (c:=c) CAP.out (by have:=CAP.out;omega)
    rw [hrr] at hrm
    have lr:N-6=r.length:=by rw [← hrr,List.length_take,List.length_drop];omega
    obtain ⟨A9,hA9⟩:∃ A9,(some (⟨b0,off,none⟩:Addr)).map (·.add 2)=A9:=⟨_,rfl⟩
    rw [hA9] at hrm
    obtain ⟨N4,hN4⟩:∃ N4,N-4=N4:=⟨_,rfl⟩
    have hN4i:(N:Int)-4=(N4:Int):=by omega
    have hwN4:IntKind.i64.wrap (N4:Int)=(N4:Int):=Go.IntWalk.i64_in _ (by omega)
    obtain ⟨N6,hN6⟩:∃ N6,N-6=N6:=⟨_,rfl⟩
    have hN66:N4-2=N6:=by omega
    rw [hN6] at lr
    obtain ⟨c9,hc9⟩:∃ c9,c-2=c9:=⟨_,rfl⟩
    have hs9:∀ w,(Instr.sliceAt 22 (.slice (some ⟨b0,off,none⟩) bs.length c) (some (.int .i64 2)) (some (.int .i64 (N4:Int))) none).run Tryz.prog w=.ok (.slice A9 N6 c9) w:=fun w=>by
     have:=slice_midX (some ⟨b0,off,none⟩) bs.length c 2 N4 (by omega) (by omega) CAP.out (by have:=CAP.out;omega) w
     rw [hA9,hN66,hc9] at this
     exact this
    have hBox:=BoxW.fresh (c:=c9) lr (by have:=CAP.out;omega) (by omega) hrm
    obtain ⟨w1,hw1⟩:∃ w1,w.alloc (.cells #[.slice A9 N6 c9,.int .i64 0] 113)=w1:=⟨_,rfl⟩
    rw [hw1] at hBox
    have LR:=hid (show r.length≤1000000 by omega)
    have BX:=hid hBox
    obtain ⟨K,hK⟩:∃ K,bkPacked F r=K:=⟨_,rfl⟩
    rw [hK] at hR
    have HK:=hid hK
    clear hBox hrr hrm lr hA9 hN4 hN6 hN66 hc9 hK
    have k1':w1.cell? ⟨b0,off+1,none⟩=some (.int .u8 (F:Int)):=(BX.out.f.cell (p:=⟨b0,off+1,none⟩) HBL.out).trans k1
    subst hR
    go_enter Tryz.func29,Tryz.ntmps29
    go_wp2_with fail
    refine HRS.out.mono ?_;rintro o wz ⟨rfl,rfl⟩
    go_upto_if 55 with fail
    go_cut [4] from 11 (fun s4 wx=>∃ (p:Nat) (r1:List UInt8) (e1:Int),s4=.int .u64 p∧BoxW w wx w.heap.size w.heap.size r1 e1∧r1.length≤1000000∧Goes K (bkWhole F r1 p) e1)
    case first =>
     by_cases h64:F / 64 % 2=1
     ·have f64:=F64.out.trans (decide_eq_true h64)
      have HK2:=HK.out
      unfold bkPacked at HK2
      rw [if_pos h64] at HK2
      have HNUM:=hid (rnum_g w.heap.size w.heap.size r 0 K _ w w1 BX.out LR.out ⟨fun _=>HK2,fun k=>absurd rfl k⟩)
      clear h64
      go_wp2_with fail
      refine HNUM.out.mono ?_;rintro o w2 ⟨y,r1,e1,rfl,h1,l1,hg⟩
      have hg:=hg (fun y r'=>if y=0 then .error 11 else bkWhole F r' y) rfl
      have HG:=hid hg
      have H1:=hid h1
      have L1:=hid l1
      clear h1 l1 hg HNUM HK2
      go_wp2_with fail
      refine (rmust_g w.heap.size w.heap.size r1 e1 11 _ K _ w w2 H1.out HG.out (by decide)).mono ?_;rintro o w3 ⟨e2,rfl,h2,hg⟩
      have hg:=hg (bkWhole F r1 y) (¬ y=0) (by simp <;> omega) (by by_cases hy:y=0 <;> simp [hy])
      have HG2:=hid hg
      have H2:=hid h2
      clear h2 hg
      go_wp2
      go_meet
      case rel=>exact ⟨y,r1,e2,rfl,H2.out,L1.out,HG2.out⟩
     have f64:=F64.out.trans (decide_eq_false h64)
     have HK2:=HK.out
     unfold bkPacked at HK2
     rw [if_neg h64] at HK2
     have HG2:=hid HK2
     clear h64 HK2
     go_wp2
     go_meet
     case rel=>exact ⟨M64',r,0,rfl,BX.out,LR.out,⟨fun _=>HG2.out,fun k=>absurd rfl k⟩⟩
    case rest =>
    obtain ⟨p,r1,e1,rfl,h1,l1,hg⟩:=hcut
    have H1:=hid h1
    have L1:=hid l1
    have HG:=hid hg
    have k2:=(h1.f.cell (p:=⟨b0,off+1,none⟩) HBL.out).trans k1
    clear h1 l1 hg
    go_upto_if 66 with fail
    go_cut [5] from 11 (fun s5 wy=>∃ (q:Nat) (r2:List UInt8) (e2:Int),s5=.int .u64 q∧BoxW w wy w.heap.size w.heap.size r2 e2∧r2.length≤1000000∧Goes K (bkKind r2 p q) e2)
    case first =>
     by_cases h128:128≤F
     ·have f128:=F128.out.trans (decide_eq_true h128)
      have HG2:=HG.out
      unfold bkWhole at HG2
      rw [if_pos h128] at HG2
      have HNUM:=hid (rnum_g w.heap.size w.heap.size r1 e1 K _ w _ H1.out L1.out HG2)
      clear h128 HG2
      go_wp2_with fail
      refine HNUM.out.mono ?_;rintro o w2 ⟨y,r2,e2,rfl,h2,l2,hg⟩
      have hg:=hg (fun y r'=>bkKind r' p y) rfl
      have HG3:=hid hg
      have H2:=hid h2
      have L2:=hid l2
      clear h2 l2 hg HNUM
      go_wp2
      go_meet
      case rel=>exact ⟨y,r2,e2,rfl,H2.out,L2.out,HG3.out⟩
     have f128:=F128.out.trans (decide_eq_false h128)
     have HG2:=HG.out
     unfold bkWhole at HG2
     rw [if_neg h128] at HG2
     have HG3:=hid HG2
     clear h128 HG2
     go_wp2
     go_meet
     case rel=>exact ⟨M64',r1,e1,rfl,H1.out,L1.out,HG3.out⟩
    case rest =>
    obtain ⟨q,r2,e2,rfl,h2,l2,hg⟩:=hcut
    unfold bkKind at hg
    have HN3:=hid (rnum_g w.heap.size w.heap.size r2 e2 K _ w _ h2 l2 hg)
    clear h2 l2 hg HG H1 L1
    go_wp2_with fail
    refine HN3.out.mono ?_;rintro o w3 ⟨y,r3,e3,rfl,h3,l3,hg⟩
    have HG3:=hid (hg (fun y r'=>if ¬ y=33 then .error 12 else bkSet r' p q) rfl)
    have H3:=hid h3
    have L3:=hid l3
    clear h3 l3 hg HN3
    go_wp2_with fail
    refine (rmust_g w.heap.size w.heap.size r3 e3 12 _ K _ w w3 H3.out HG3.out (by decide)).mono ?_;rintro o w4 ⟨e4,rfl,h4,hg⟩
    have hg:=hg (bkSet r3 p q) (y=33) (by simp <;> omega) rfl
    unfold bkSet at hg
    have HN4:=hid (rnum_g w.heap.size w.heap.size r3 e4 K _ w w4 h4 L3.out hg)
    clear h4 hg HG3 H3 L3
    go_wp2_with fail
    refine HN4.out.mono ?_;rintro o w5 ⟨z,r5,e5,rfl,h5,l5,hg⟩
    have HG5:=hid (hg (fun y r'=>if ¬ y=1 then .error 11 else bkFilter r' p q) rfl)
    have H5:=hid h5
    have L5:=hid l5
    clear h5 l5 hg HN4
    go_wp2_with fail
    refine (rmust_g w.heap.size w.heap.size r5 e5 11 _ K _ w w5 H5.out HG5.out (by decide)).mono ?_;rintro o w6 ⟨e6,rfl,h6,hg⟩
    have hg:=hg (bkFilter r5 p q) (z=1) (by simp <;> omega) rfl
    have HF:=hid (rfilter_p w.heap.size w.heap.size N p q r5 e6 K w w6 h6 L5.out hg)
    clear h6 hg HG5 H5 L5
    go_wp2_with fail
    refine HF.out.mono ?_;rintro o w7 ⟨rfl,hb⟩
    have HB:=hid hb
    clear hb
    unfold blkV
    go_wp2
    refine bodyPost_ret (results_tmp5' rfl _ _ _) rfl ?_
    exact ⟨rfl,HB.out⟩
   rw [if_pos h63] at hR
   subst hR
   have g63:((F:Int) % 64 != 0)=true:=by rw [bne_iff_ne];omega
   have g63b:(bits .and .u8 (F:Int) 63 != 0)=true:=by rw [bne,f63,decide_eq_false h63];rfl
   clear h63 f63
   go_enter Tryz.func29,Tryz.ntmps29
   go_wp2_with fail
   refine HRS.out.mono ?_;rintro o wz ⟨rfl,rfl⟩
   go_wp2
   refine bodyPost_ret (results_tmp5' rfl _ _ _) rfl ?_
   exact ⟨rfl,Below.refl _ _⟩
  rw [if_pos hse] at hR
  subst hR
  have hse:sealedB (bs.take N)=false:=by simpa using hse
  rw [hse] at hrs
  have HRS:=hid hrs
  clear hse hrs
  go_enter Tryz.func29,Tryz.ntmps29
  go_wp2_with fail
  refine HRS.out.mono ?_;rintro o wz ⟨rfl,rfl⟩
  go_wp2
  refine bodyPost_ret (results_tmp5' rfl _ _ _) rfl ?_
  exact ⟨rfl,Below.refl _ _⟩
open Go
section
variable {P : Program} {ops : Array Oper} {md : Region.Mode} {S : World → Prop}
def tailH (P:Program) (ops:Array Oper) (Q:Exit→Act→World→Prop) (l:List Oper):Exit→Act→World→Prop
 | .normal,a,w=>wpList P ops Q l a w
 | e,a,w=>Q e a w
theorem wp_of_tailH {Q:Exit→Act→World→Prop} {o:Oper} {a:Act} {w:World} {K:Act→World→Prop} {l:List Oper} (h:o.wp P a w K (tailH P ops Q l)):o.wp P a w K Q:=by
 unfold Oper.wp at *
 generalize (execOp a.eval o).run P w=r at *
 cases r with
 | ok n w' =>
  cases n <;> simp only [Oper.upon] at h ⊢
  case enter f args=>exact Calls.mono h (fun e w'' he=>by cases e <;> exact he)
  all_goals exact h
 | halt x w'=>cases x <;> simp only [Oper.upon] at h ⊢ <;> exact h
theorem wpOp_tailH {Q:Exit→Act→World→Prop} {i:Nat} {a:Act} {w:World} {K:Act→World→Prop} {l:List Oper} (h:wpOp P ops (tailH P ops Q l) i K a w):wpOp P ops Q i K a w:=by
 unfold wpOp at *
 cases ho:ops[i]? with
 | none=>simp only [ho] at h ⊢;exact h
 | some o =>
  simp only [ho] at h ⊢
  split
  ·rename_i hw
   simp only [hw,if_true] at h
   exact h.imp wp_of_tailH (fun h2=>⟨h2.1,h2.2⟩)
  rename_i hw
  simp only [hw] at h
  exact h
theorem head_anyH {n g:Nat} {Q:Exit→Act→World→Prop} {l:List Oper} (hf:fwdB md ops=true) (hs:Region.sinkB md ops n=true) (hc:Region.chainB md ops n=true) (hn:n<ops.size)
 (hE:∀ a w,wpList P ops Q l a w→wpAny P md ops Q g (firstN ops.size n) a w) :
 ∀ (f:Nat) (listed l1:Array Bool) (a:Act) (w:World),HeadInv md ops n listed→l1.size=ops.size→(∀ j d,j<n→l1.getD j d=listed.getD j d)→(∀ j,n≤j→l1.getD j true=true) →
  wpAnyH P md ops (tailH P ops Q l) S f l1 a w→wpAny P md ops Q (f+g) listed a w:=by
 have same:∀ (listed l1:Array Bool),HeadInv md ops n listed→(∀ j d,j<n→l1.getD j d=listed.getD j d)→(∀ j,n≤j→l1.getD j true=true) →
  ∀ i,(i<n∧i∈Region.ready md ops listed↔i∈Region.ready md ops l1):=by
  intro listed l1 inv h1 h2 i
  constructor
  ·rintro ⟨hi,hm⟩
   obtain ⟨hu,o,ho,hall⟩:=mem_ready.1 hm
   exact mem_ready.2 ⟨(h1 i true hi).trans hu,o,ho,fun e he hb=>(h1 e.on false (by have:=fwdB_spec hf ho he hb;omega)).trans (hall e he hb)⟩
  intro hm
  obtain ⟨hu,o,ho,hall⟩:=mem_ready.1 hm
  have hi:i<n:=by
   rcases Nat.lt_or_ge i n with h | h
   ·exact h
   rw [h2 i h] at hu;cases hu
  exact ⟨hi,mem_ready.2 ⟨(h1 i true hi).symm.trans hu,o,ho,fun e he hb=>(h1 e.on false (by have:=fwdB_spec hf ho he hb;omega)).symm.trans (hall e he hb)⟩⟩
 have done:∀ (listed l1:Array Bool),HeadInv md ops n listed→(∀ j d,j<n→l1.getD j d=listed.getD j d)→(∀ j,n≤j→l1.getD j true=true) →
  Region.ready md ops l1=[]→listed=firstN ops.size n:=by
  intro listed l1 inv h1 h2 he
  have all:∀ d i,i=d→i<n→listed.getD i false=true:=by
   intro d
   induction d using Nat.strongRecOn with
   | _ d ih =>
    intro i hd hi
    cases hl:listed.getD i true with
    | true =>
     have hlt:i<listed.size:=by rw [inv.size];omega
     simp [hlt] at hl ⊢
     exact hl
    | false =>
     exfalso
     have hlt:i<ops.size:=by omega
     have hm:=mem_ready.2 ⟨(h1 i true hi).trans hl,ops[i],Array.getElem?_eq_getElem hlt,fun e he hb=>by
      have hlt2:=fwdB_spec hf (Array.getElem?_eq_getElem hlt) he hb
      exact (h1 e.on false (by omega)).trans (ih e.on (by omega) e.on rfl (by omega))⟩
     rw [he] at hm
     cases hm
  apply Array.ext
  ·simp [firstN,inv.size]
  intro i hi1 hi2
  simp only [firstN,Array.getElem_ofFn]
  rcases Nat.lt_or_ge i n with h | h
  ·have:=all i i rfl h
   simp [hi1] at this
   simp [this,h]
  have:=inv.tail i h (by rw [← inv.size];exact hi1)
  simp [hi1] at this
  rw [this]
  simp only [Bool.false_eq,decide_eq_false_iff_not]
  omega
 intro f
 induction f with
 | zero =>
  intro listed l1 a w inv hsz h1 h2 h
  rw [done listed l1 inv h1 h2 h.1,Nat.zero_add]
  exact hE a w h.2
 | succ f ih =>
  intro listed l1 a w inv hsz h1 h2 h
  cases hrl:Region.ready md ops l1 with
  | nil =>
   rw [done listed l1 inv h1 h2 hrl]
   exact wpAny_plus (hE a w (h.1 hrl)) _
  | cons x xs =>
   have hx:x∈Region.ready md ops l1:=by rw [hrl];exact List.mem_cons_self
   have hx2:=(same listed l1 inv h1 h2 x).2 hx
   have hxu:=(mem_ready.1 hx2.2).1
   rw [show f+1+g=(f+g)+1 by omega]
   refine ⟨fun h0=>by rw [h0] at hx2;exact absurd hx2.2 (by simp),fun i hi=>?_⟩
   have hin:i<n:=by
    rcases Nat.lt_or_ge i n with h3 | h3
    ·exact h3
    exact absurd hi (tail_waits hs hc hn inv _ x rfl hx2.1 hxu i h3)
   have hil:=(same listed l1 inv h1 h2 i).1 ⟨hin,hi⟩
   refine wpOp_mono (fun a' w' h'=>ih (listed.setIfInBounds i true) (l1.setIfInBounds i true) a' w' (inv.set hi hin) (by simp [hsz]) ?_ ?_ h'.2) (wpOp_tailH (h.2 i hil))
   ·intro j d hj
    by_cases hij:i=j
    ·subst hij
     have e1:i<l1.size:=by omega
     have e2:i<listed.size:=by rw [inv.size];omega
     simp [e1,e2]
    rw [getD_set_ne d hij,getD_set_ne d hij];exact h1 j d hj
   intro j hj
   rw [getD_set_ne true (by omega)]
   exact h2 j hj
def headTB (md:Region.Mode) (ops:Array Oper) (n:Nat):Bool :=
 decide (n<ops.size) && fwdB md ops && Region.sinkB md ops n && Region.chainB md ops n && Region.seqB md ops (ops.size-n) n (firstN ops.size n)
theorem wp_region_headH {id:Nat} {Q:Exit→Act→World→Prop} {a:Act} {w:World} {l:List Oper} (n:Nat) (S:World→Prop) (hm:P.follows .mixedOrders=true) (hB:headTB .any l.toArray n=true)
 (h:wpAnyH P .any l.toArray (tailH P l.toArray Q (l.drop n)) S n (lastN' l.toArray.size n) a w.drew):(Code.region id l.toArray true).wp P Q a w:=by
 simp only [headTB,Bool.and_eq_true,decide_eq_true_eq] at hB
 obtain ⟨⟨⟨⟨hn,hf⟩,hs⟩,hc⟩,hseq⟩:=hB
 have hn':n<l.length:=by simpa using hn
 have hdl:(l.drop n).length=l.toArray.size-n:=by simp
 refine wp_region_any hm ?_
 have inv0:HeadInv .any l.toArray n (Array.replicate l.toArray.size false) :=
  ⟨by simp,fun j oj _ hl=>(by rw [getD_replicate_false] at hl;cases hl),fun t _ ht=>getD_in (by simpa using ht) (getD_replicate_false _ _)⟩
 have G:=head_anyH (P:=P) (Q:=Q) (S:=S) (l:=l.drop n) (g:=l.toArray.size-n) hf hs hc hn (fun a' w' h'=>by
  have:=wpAny_of_seq (md:=.any) (Q':=Q) (l.drop n) n (firstN l.toArray.size n) a' w' (fun j=>by simp [List.getElem?_drop]) (by rw [hdl];exact hseq) h'
  rwa [hdl] at this) n (Array.replicate l.toArray.size false) (lastN' l.toArray.size n) a w.drew inv0 (by simp [lastN']) ?_ ?_ h
 ·rw [show n+(l.toArray.size-n)=l.toArray.size by omega] at G
  exact G
 ·intro j d hj
  have h1:j<l.length:=by omega
  simp [lastN',h1]
  omega
 intro j hj
 by_cases h1:j<l.length
 ·simp [lastN',h1]
  omega
 simp [lastN',h1]
end
end Go.Proofs.YtffehfpbdcokbaaGreat
namespace Go.Proofs.YtffehfpbdcokbaaGreat.Fnd
open Go.RowKit
inductive Tale
 | arg
 | malformed
 | ok (out:List UInt8)
theorem min2_int {P:Program} (ts:Array TypeId) (t:TypeId) (x y n:Int) (h:min x y=n) (w:World):(Builtin.min_ ts t #[.int .i64 x,.int .i64 y]).run P w=.ok (.int .i64 n) w:=by
 have e:(if y<x then y else x)=n:=by split <;> omega
 rw [← e]
 simp [Builtin.min_,Builtin.min2]
theorem max2_int {P:Program} (ts:Array TypeId) (t:TypeId) (x y n:Int) (h:max x y=n) (w:World):(Builtin.max_ ts t #[.int .i64 x,.int .i64 y]).run P w=.ok (.int .i64 n) w:=by
 have e:(if x<y then y else x)=n:=by split <;> omega
 rw [← e]
 simp [Builtin.max_,Builtin.max2]
end Go.Proofs.YtffehfpbdcokbaaGreat.Fnd
