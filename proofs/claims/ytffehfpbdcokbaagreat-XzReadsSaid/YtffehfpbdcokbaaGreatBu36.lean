import Derived.Defers
import Derived.Recover
import Derived.Test.YtffehfpbdcokbaaGreatBu32
import Derived.Test.YtffehfpbdcokbaaGreatBu33
import Derived.Test.YtffehfpbdcokbaaGreatBu35
set_option linter.unusedVariables false
set_option linter.unusedSimpArgs false
namespace Go.Proofs.YtffehfpbdcokbaaGreat
open Lib (hid)
open Go.RowKit Rng Win Lz Box
def bkIn (R:BkR):Prop :=
 match R with
 | .ok (s,_,_)=>0≤s∧s≤4294967295
 | .error x=>x=11∨x=12
theorem winOf_in {c:Nat} (h:c≤40):0≤winOf c∧winOf c≤4294967295:=by
 unfold winOf
 by_cases h4:c=40
 ·rw [if_pos h4];omega
 rw [if_neg h4]
 have:=win_in (m:=c) (by omega)
 omega
theorem bkFilter_in (r:List UInt8) (p w:Nat):bkIn (bkFilter r p w):=by
 unfold bkFilter
 cases r with
 | nil=>exact .inl rfl
 | cons c t =>
  simp only
  split
  ·exact .inr rfl
  split
  ·exact .inl rfl
  split
  ·exact .inl rfl
  exact winOf_in (by omega)
theorem bkSet_in (r:List UInt8) (p w:Nat):bkIn (bkSet r p w):=by
 unfold bkSet
 split
 ·exact .inl rfl
 split
 ·exact .inl rfl
 exact bkFilter_in _ _ _
theorem bkKind_in (r:List UInt8) (p w:Nat):bkIn (bkKind r p w):=by
 unfold bkKind
 split
 ·exact .inl rfl
 split
 ·exact .inr rfl
 exact bkSet_in _ _ _
theorem bkWhole_in (f:Nat) (r:List UInt8) (p:Nat):bkIn (bkWhole f r p):=by
 unfold bkWhole
 split
 ·split
  ·exact .inl rfl
  exact bkKind_in _ _ _
 exact bkKind_in _ _ _
theorem bkPacked_in (f:Nat) (r:List UInt8):bkIn (bkPacked f r):=by
 unfold bkPacked
 split
 ·split
  ·exact .inl rfl
  split
  ·exact .inl rfl
  exact bkWhole_in _ _ _
 exact bkWhole_in _ _ _
theorem bkBody_in (r:List UInt8):bkIn (bkBody r):=by
 unfold bkBody
 cases r with
 | nil=>exact .inl rfl
 | cons f t =>
  simp only
  split
  ·exact .inr rfl
  exact bkPacked_in _ _
theorem blockOf_in (bs:List UInt8):∃ s n p q er:Nat,blockOf bs=((s:Int),n,p,q,(er:Int)):=by
 unfold blockOf
 cases bs with
 | nil=>exact ⟨0,0,0,0,10,rfl⟩
 | cons b r =>
  simp only
  split
  ·exact ⟨0,0,0,0,10,rfl⟩
  split
  ·exact ⟨0,0,0,0,11,rfl⟩
  split
  ·exact ⟨0,0,0,0,11,rfl⟩
  obtain ⟨R,hR⟩:∃ R,bkBody ((((b::r).take ((b.toNat+1)*4)).drop 1).take ((b.toNat+1)*4-5))=R:=⟨_,rfl⟩
  have h:=bkBody_in ((((b::r).take ((b.toNat+1)*4)).drop 1).take ((b.toNat+1)*4-5))
  rw [hR] at h ⊢
  cases R with
  | ok x =>
   obtain ⟨s,p,q⟩:=x
   have h:0≤s∧s≤4294967295:=h
   exact ⟨s.toNat,_,p,q,0,by unfold blkOf;simp only;rw [Int.toNat_of_nonneg h.1];rfl⟩
  | error x =>
   rcases h with rfl | rfl
   ·exact ⟨0,0,0,0,11,rfl⟩
   exact ⟨0,0,0,0,12,rfl⟩
theorem hold_d (n:Int) (w:World):CallsD Tryz.prog 24 #[.int .i64 n] .returning w fun e u' w'=>u'=.returning∧e=.returned (.tuple #[])∧w=w':=by
 refine (callsD_of_wp (R:=fun e w'=>e=.returned (.tuple #[])∧w=w') Tryz.func24 rfl ?_)
 simp only [Tryz.ntmps24,List.size_toArray,List.length_cons,List.length_nil,Nat.reduceAdd,Nat.reduceSub,Array.replicate_succ,Array.replicate_zero,List.push_toArray,List.append_toArray,List.nil_append,List.cons_append]
 go_wp2
 go_end0
 exact ⟨rfl,rfl⟩
theorem hold_leave {fn:Func} {tmps:Array Value} {R:Ending→World→Prop} {w:World} {v:Value} {n:Int} (hr:(results fn tmps).run Tryz.prog w=.ok v w) (hR:R (.returned v) w) :
 Leaves Tryz.prog fn tmps R [{ target:=.fn (.func 24) #[],args:=#[.int .i64 n] }] .returning w:=by
 refine leaves_cons (f:=24) (args:=#[.int .i64 n]) (by simp) (by simp [go_sem]) ?_
 refine (hold_d n w).mono ?_
 rintro e u' w' ⟨rfl,rfl,rfl⟩
 exact ⟨v,hr,hR⟩
def BlkXEnd (rb fb un B0 bud:Nat) (put hold:Value) (kind:Int) (J:(Nat→Prop)→List UInt8→World→Prop) (M:Nat→Prop) (lv:Value) (recs:List (Nat×Nat)) (out:List UInt8) (E:BlkE) (w:World) (e:Ending) (w':World):Prop :=
 Frm (fun q=>M q∨q=fb∨q=rb∨lv.ownBlock=some q) w w'∧∃ M',(∀ q,M' q→M q∨w.heap.size≤q)∧match E with
 | .err z o=>z≠0∧e=.returned (.int .i64 (z:Int))∧J M' (out++o) w'
 | .ok o r rest=>e=.returned (.int .i64 0)∧J M' (out++o) w'∧∃ lv',RxAt w' rb fb bud put hold kind (out++o).length lv'∧OwnPr w' 192 B0 lv' (recs++[r])∧(∀ q,lv'.ownBlock=some q→¬ M' q∧(lv.ownBlock=some q∨w.heap.size≤q)) ∧
  ∃ A n c used,SrcAt w' fb A n c used∧used+n=un∧BRow w' B0 A rest∧n=rest.length∧n≤c∧c≤maxLen
open Go.RowKit Rng Win Lz Box
theorem hdLen_cons (c:UInt8) (r:List UInt8):hdLen (c::r)=(c.toNat+1)*4:=rfl
theorem blockOf_takeD {src:List UInt8} (h:hdLen src≤src.length):blockOf (src.take (hdLen src))=blockOf src:=by
 cases src with
 | nil=>exact absurd h (by unfold hdLen;simp)
 | cons c r =>
  rw [hdLen_cons] at h ⊢
  obtain ⟨m,hm⟩:∃ m,(c.toNat+1)*4=m+1:=⟨(c.toNat+1)*4-1,by omega⟩
  rw [hm,List.take_succ_cons]
  unfold blockOf
  simp only
  rw [hm]
  rw [hm] at h
  have e1:(c::r.take m).length=m+1:=by
   rw [List.length_cons,List.length_take]
   rw [List.length_cons] at h
   omega
  have e2:(c::r.take m).take (m+1)=(c::r).take (m+1):=by
   rw [List.take_succ_cons,List.take_succ_cons,List.take_take,Nat.min_self]
  rw [e1,e2,if_neg (Nat.lt_irrefl _)]
  conv=>rhs;rw [if_neg (by omega)]
theorem blockOf_shortD {src:List UInt8} (h:src.length<hdLen src):blockOf src=(0,0,0,0,10):=by
 cases src with
 | nil=>rfl
 | cons c r =>
  rw [hdLen_cons] at h
  unfold blockOf
  simp only
  rw [if_pos h]
theorem blockOf_okD {src:List UInt8} (h:(blockOf src).2.2.2.2=0):(blockOf src).2.1=hdLen src∧hdLen src≤src.length:=by
 cases src with
 | nil=>exact absurd h (by unfold blockOf;simp)
 | cons c r =>
  rw [hdLen_cons]
  unfold blockOf at h ⊢
  simp only at h ⊢
  split at h
  ·exact absurd h (by simp)
  rename_i h1
  rw [if_neg h1]
  split at h
  ·exact absurd h (by simp)
  rename_i h2
  rw [if_neg h2]
  split at h
  ·exact absurd h (by simp)
  rename_i h3
  rw [if_neg h3]
  refine ⟨?_,by omega⟩
  obtain ⟨R,hR⟩:∃ R,bkBody ((((c::r).take ((c.toNat+1)*4)).drop 1).take ((c.toNat+1)*4-5))=R:=⟨_,rfl⟩
  have hin:=bkBody_in ((((c::r).take ((c.toNat+1)*4)).drop 1).take ((c.toNat+1)*4-5))
  rw [hR] at h hin ⊢
  cases R with
  | ok x=>obtain ⟨s,p,q⟩:=x;rfl
  | error x =>
   have hx:x=0:=h
   rcases hin with rfl | rfl
   ·exact absurd hx (by decide)
   exact absurd hx (by decide)
theorem xBlock_err {budget:Nat} {kind:Int} {told:Nat} {src:List UInt8} {z:Nat} (h:(blockOf src).2.2.2.2=(z:Int)) (hz:z≠0):xBlock budget kind told src=.err z []:=by
 unfold xBlock
 by_cases hl:src.length<hdLen src
 ·rw [if_pos hl]
  rw [blockOf_shortD hl] at h
  have h:(10:Int)=(z:Int):=h
  obtain rfl:z=10:=by omega
  rfl
 rw [if_neg hl,blockOf_takeD (by omega)]
 unfold xBody
 rw [h,if_pos (by omega)]
 rfl
theorem xBlock_ok {budget:Nat} {kind:Int} {told:Nat} {src:List UInt8} (h:(blockOf src).2.2.2.2=0):xBlock budget kind told src=xBody budget kind told (blockOf src) (hdLen src) (src.drop (hdLen src)):=by
 have hl:=(blockOf_okD h).2
 unfold xBlock
 rw [if_neg (by omega),blockOf_takeD hl]
theorem xBody_budD {budget:Nat} {kind:Int} {told:Nat} {R:BlkR} {hl:Nat} {src:List UInt8} (h:R.2.2.2.2=0) (hb:(budget:Int)<R.1):xBody budget kind told R hl src=.err 40 []:=by
 unfold xBody
 rw [if_neg (fun k=>k h),if_pos hb]
theorem xBody_d2 {budget:Nat} {kind:Int} {told:Nat} {R:BlkR} {hl:Nat} {src:List UInt8} (h:R.2.2.2.2=0) (hb:¬ (budget:Int)<R.1):xBody budget kind told R hl src=match d2P (max R.1.toNat 4096) (16777216-told) src with
 | (out,.inl e)=>BlkE.err e out
 | (out,.inr rest)=>xTail R kind hl (src.length-rest.length) out rest:=by
 unfold xBody
 rw [if_neg (fun k=>k h),if_neg hb]
 cases d2P (max R.1.toNat 4096) (16777216-told) src with
 | mk T X=>cases X <;> rfl
theorem take_zero {l:List UInt8} {i p:Nat} (h:l.take i=List.replicate i 0) (hi:i<p) (hl:p≤l.length) (hb:l.getD i 0=0):l.take (i+1)=List.replicate (i+1) 0:=by
 rw [List.take_succ_eq_append_getElem (by omega),h]
 have:l[i]'(by omega)=0:=by
  rw [← hb]
  simp [List.getD,List.getElem?_eq_getElem (show i<l.length by omega)]
 rw [this,List.replicate_succ']
theorem take_zero_no {l:List UInt8} {i p:Nat} (hi:i<p) (hl:p≤l.length) (hb:l.getD i 0≠0):l.take p≠List.replicate p 0:=by
 intro e
 apply hb
 have h1:(l.take p)[i]?=(List.replicate p (0:UInt8))[i]?:=by rw [e]
 rw [List.getElem?_take,if_pos hi,List.getElem?_replicate,if_pos hi] at h1
 simp [List.getD,h1]
theorem take_alike {l s:List UInt8} {i:Nat} (h:l.take i=s.take i) (hi:i<s.length) (hl:s.length≤l.length) (hb:l.getD i 0=s.getD i 0):l.take (i+1)=s.take (i+1):=by
 rw [List.take_succ_eq_append_getElem (by omega),List.take_succ_eq_append_getElem hi,h]
 have e1:l.getD i 0=l[i]'(by omega):=by simp [List.getD,List.getElem?_eq_getElem (show i<l.length by omega)]
 have e2:s.getD i 0=s[i]:=by simp [List.getD,List.getElem?_eq_getElem hi]
 rw [← e1,← e2,hb]
theorem take_alike_no {l s:List UInt8} {i:Nat} (hi:i<s.length) (hl:s.length≤l.length) (hb:l.getD i 0≠s.getD i 0):l.take s.length≠s:=by
 intro e
 apply hb
 have h1:(l.take s.length)[i]?=s[i]?:=by rw [e]
 rw [List.getElem?_take,if_pos hi] at h1
 simp [List.getD,h1]
theorem getD_dropD (l:List UInt8) (a i:Nat):(l.drop a).getD i 0=l.getD (a+i) 0:=by simp [List.getD,List.getElem?_drop]
open Go.RowKit Rng Win Lz Box
theorem chkN_len (k:Int):chkN k=chkLen k:=rfl
theorem leB_snoc:∀ (n X:Nat),leB X (n+1)=leB X n++[UInt8.ofNat (X / 256 ^ n)]
 | 0,X=>by simp [leB]
 | n+1,X=>by
  show UInt8.ofNat X::leB (X / 256) (n+1)=UInt8.ofNat X::leB (X / 256) n++_
  rw [leB_snoc n (X / 256),Nat.div_div_eq_div_mul,Nat.pow_succ,Nat.mul_comm]
  rfl
def wcells (l:List UInt8):Array Value:=((l++List.replicate (8-l.length) 0).map byteV).toArray
theorem wcells_at (l:List UInt8) (hl:l.length≤8) {k:Nat} (hk:k<l.length):(wcells l)[k]?=some (byteV (l.getD k 0)):=by
 unfold wcells
 simp only [List.getElem?_toArray,List.getElem?_map]
 rw [List.getElem?_append_left hk]
 simp [List.getD,hk]
theorem wcells_set (l:List UInt8) (y:UInt8) (hl:l.length<8):(wcells l).setIfInBounds l.length (byteV y)=wcells (l++[y]):=by
 unfold wcells
 have e:List.replicate (8-l.length) (0:UInt8)=0::List.replicate (8-(l++[y]).length) 0:=by
  rw [List.length_append,show 8-l.length=(8-(l.length+[y].length))+1 by simp;omega,List.replicate_succ]
 rw [e]
 simp only [List.setIfInBounds_toArray,List.map_append,List.map_cons]
 congr 1
 simp [List.set_append]
theorem wcells_nil:wcells []=#[.int .u8 0,.int .u8 0,.int .u8 0,.int .u8 0,.int .u8 0,.int .u8 0,.int .u8 0,.int .u8 0]:=rfl
theorem wcells_row {W:World} {b:Nat} {l:List UInt8} {T:TypeId} (h:Pts W b (wcells l) T) (hl:l.length≤8):BRow W W.heap.size (some ⟨b,0,none⟩) l:=by
 intro h0
 refine ⟨b,0,rfl,h.lt,fun k hk=>?_⟩
 rw [Nat.zero_add,h.cell]
 exact wcells_at l hl hk
theorem chk_sum (k:Int) (bs:List UInt8):∃ X:Nat,sumOf (chkK k) bs=(X:Int)∧X<18446744073709551616∧chkB k bs=leB X (chkLen k):=by
 unfold chkK chkB chkLen
 by_cases h1:k=1
 ·rw [if_pos h1,if_pos h1,if_pos h1]
  exact ⟨crc32 bs,sumOf_1 bs,Nat.lt_of_lt_of_le (c32_lt32 bs) (by decide),rfl⟩
 rw [if_neg h1,if_neg h1,if_neg h1]
 by_cases h4:k=4
 ·rw [if_pos h4,if_pos h4,if_pos h4]
  exact ⟨crc64 bs,sumOf_2 bs,c64_lt64 bs,rfl⟩
 rw [if_neg h4,if_neg h4,if_neg h4]
 exact ⟨0,rfl,by decide,rfl⟩
theorem chkLen_le (k:Int):chkLen k≤8:=by
 unfold chkLen
 repeat' split
 all_goals omega
theorem u8_wrap_nat (x:Nat):IntKind.u8.wrap (x:Int)=((UInt8.ofNat x).toNat:Int):=by
 rw [UInt8.toNat_ofNat']
 show _=(((x % 256:Nat)):Int)
 rw [IntKind.wrap_u8]
 omega
theorem slice_arr8 (b n:Nat) (hn:n≤8) (w:World) :
 (Instr.sliceAt 191 (.pointer (some ⟨b,0,none⟩)) none (some (.int .i64 (n:Int))) none).run Tryz.prog w=.ok (.slice (some ⟨b,0,none⟩) n 8) w:=by
 unfold Instr.sliceAt
 simp [go_sem]
 first | done | omega | (intro h;omega)
open Go.RowKit Rng Win Lz Box
section
variable (rb fb bx bud B0 : Nat) (put hold : Value) (kind : Int) (lv : Value) (recs : List (Nat × Nat)) (J : (Nat → Prop) → List UInt8 → World → Prop) (M : Nat → Prop) (out : List UInt8) (w : World)
structure XB (A:Option Addr) (n c used:Nat) (src:List UInt8) (W:World):Prop where
 x:Pts W bx #[.pointer (some ⟨rb,0,none⟩)] 89
 r:RxAt W rb fb bud put hold kind out.length lv
 s:SrcAt W fb A n c used
 b:BRow W B0 A src
 o:OwnPr W 192 B0 lv recs
 j:J M out W
 f:Frm (fun q=>q=fb) w W
end
section
variable {rb fb bx bud B0 fput most : Nat} {lb : Array Value} {put hold : Value} {kind : Int} {lv : Value} {recs : List (Nat × Nat)} {J : (Nat → Prop) → List UInt8 → World → Prop} {M : Nat → Prop} {out : List UInt8} {w W W' : World} {A A' : Option Addr} {n c used n' c' used' : Nat} {src src' : List UInt8}
theorem XB.still (hp:PutOk Tryz.prog fput lb B0 most J) (h:XB rb fb bx bud B0 put hold kind lv recs J M out w A n c used src W) (hb:Below W.heap.size W W') (hB0:B0≤w.heap.size):XB rb fb bx bud B0 put hold kind lv recs J M out w A n c used src W' :=
 ⟨h.x.below hb h.x.lt,Pts.below h.r hb (Pts.lt h.r),Pts.below h.s hb (Pts.lt h.s),h.b.below (hb.mono (Nat.le_trans hB0 h.f.size)),h.o.frm (S:=fun _=>False) (Frm.of_below hb) (fun _ _ h=>h),hp.keep M _ W W' h.j (Frm.of_below hb),h.f.trans (Frm.of_below hb)⟩
theorem XB.takes (hp:PutOk Tryz.prog fput lb B0 most J) (h:XB rb fb bx bud B0 put hold kind lv recs J M out w A n c used src W) (hM:¬ M fb) (hs:SrcAt W' fb A' n' c' used') (hf:Frm (· = fb) W W') (hb:BRow W' B0 A' src'):XB rb fb bx bud B0 put hold kind lv recs J M out w A' n' c' used' src' W' :=
 ⟨h.x.frm hf (h.x.ne_of h.s (by decide)),Pts.frm h.r hf (Pts.ne_of h.r h.s (by decide)),hs,hb,h.o.frm hf (fun k hk e=>by
  rcases h.o.2 with ⟨h2,_⟩ | ⟨g,cap,cur,h2,_,hh,_⟩
  ·rw [h2] at hk;cases hk
  rw [h2] at hk
  injection hk with hk
  exact Pts.ne_of (show Pts W g cur _ from hh) h.s (by decide) (hk.trans e)),hp.keep M _ W W' h.j (hf.mono fun q _ e hm=>hM (e▸hm)),h.f.trans hf⟩
theorem XB.cells (h:XB rb fb bx bud B0 put hold kind lv recs J M out w A n c used src W):W.cell? ⟨bx,0,none⟩=some (.pointer (some ⟨rb,0,none⟩))∧W.cell? ⟨rb,0,none⟩=some (.pointer (some ⟨fb,0,none⟩))∧W.cell? ⟨rb,1,none⟩=some (.int .i64 bud)∧W.cell? ⟨rb,3,none⟩=some hold∧W.cell? ⟨rb,4,none⟩=some (.int .i64 kind)∧W.cell? ⟨rb,5,none⟩=some (.int .i64 (out.length:Int))∧W.cell? ⟨rb,6,none⟩=some lv :=
 ⟨by rw [h.x.cell];rfl,h.r.cells.1,h.r.cells.2.1,h.r.cells.2.2.2.1,h.r.cells.2.2.2.2.1,h.r.cells.2.2.2.2.2.1,h.r.cells.2.2.2.2.2.2⟩
end
structure XC (rb fb bx bud B0 nb sc:Nat) (put hold:Value) (kind:Int) (lv:Value) (recs:List (Nat×Nat)) (J:(Nat→Prop)→List UInt8→World→Prop) (M:Nat→Prop) (out:List UInt8) (w:World) (Mi own:Nat→Prop) (sb:Nat) (T:List UInt8) (W:World):Prop where
 n:Pts W nb #[.int .i64 (T.length:Int)] 3
 s:Pts W sc #[.iface 223 (.pointer (some ⟨sb,0,none⟩))] 187
 x:Pts W bx #[.pointer (some ⟨rb,0,none⟩)] 89
 r:RxAt W rb fb bud put hold kind (out++T).length lv
 u:SumAt W sb own (chkK kind) T
 o:OwnPr W 192 B0 lv recs
 j:J Mi (out++T) W
 f:Frm (fun q=>M q∨q=fb∨q=rb) w W
 m:∀ q,Mi q→(M q∨w.heap.size≤q)∧q≠rb∧q≠fb∧lv.ownBlock≠some q
 w:∀ q,own q→w.heap.size≤q
section
variable {rb fb bx bud B0 nb sc fput most : Nat} {lb : Array Value} {put hold : Value} {kind : Int} {lv : Value} {recs : List (Nat × Nat)} {J : (Nat → Prop) → List UInt8 → World → Prop} {M Mi own : Nat → Prop} {sb : Nat} {out T : List UInt8} {w W W' : World}
theorem XC.cells (h:XC rb fb bx bud B0 nb sc put hold kind lv recs J M out w Mi own sb T W):W.cell? ⟨nb,0,none⟩=some (.int .i64 (T.length:Int))∧W.cell? ⟨sc,0,none⟩=some (.iface 223 (.pointer (some ⟨sb,0,none⟩)))∧W.cell? ⟨bx,0,none⟩=some (.pointer (some ⟨rb,0,none⟩))∧W.cell? ⟨rb,0,none⟩=some (.pointer (some ⟨fb,0,none⟩))∧W.cell? ⟨rb,5,none⟩=some (.int .i64 ((out++T).length:Int))∧W.cell? ⟨rb,6,none⟩=some lv∧W.frozen? ⟨rb,6,none⟩=false :=
 ⟨by rw [h.n.cell];rfl,by rw [h.s.cell];rfl,by rw [h.x.cell];rfl,h.r.cells.1,h.r.cells.2.2.2.2.2.1,h.r.cells.2.2.2.2.2.2,Pts.frozen h.r 6⟩
theorem XC.still (hp:PutOk Tryz.prog fput lb B0 most J) (h:XC rb fb bx bud B0 nb sc put hold kind lv recs J M out w Mi own sb T W) (hb:Below W.heap.size W W'):XC rb fb bx bud B0 nb sc put hold kind lv recs J M out w Mi own sb T W' :=
 ⟨h.n.below hb h.n.lt,h.s.below hb h.s.lt,h.x.below hb h.x.lt,Pts.below h.r hb (Pts.lt h.r),h.u.frmX (S:=fun _=>False) (Frm.of_below hb) (fun _ _ h=>h),h.o.frm (S:=fun _=>False) (Frm.of_below hb) (fun _ _ h=>h),hp.keep Mi _ W W' h.j (Frm.of_below hb),h.f.trans (Frm.of_below hb),h.m,h.w⟩
theorem XC.takes (hp:PutOk Tryz.prog fput lb B0 most J) (h:XC rb fb bx bud B0 nb sc put hold kind lv recs J M out w Mi own sb T W) {A:Option Addr} {n c used:Nat} (hs:SrcAt W fb A n c used) (hfl:fb<w.heap.size) (hf:Frm (· = fb) W W'):XC rb fb bx bud B0 nb sc put hold kind lv recs J M out w Mi own sb T W' :=
 ⟨h.n.frm hf (h.n.ne_of hs (by decide)),h.s.frm hf (h.s.ne_of hs (by decide)),h.x.frm hf (h.x.ne_of hs (by decide)),Pts.frm h.r hf (Pts.ne_of h.r hs (by decide)),h.u.frmX hf (fun q hq e=>by have:=h.w q hq;omega),h.o.frm hf (fun k hk e=>by
  rcases h.o.2 with ⟨h2,_⟩ | ⟨g,cap,cur,h2,_,hh,_⟩
  ·rw [h2] at hk;cases hk
  rw [h2] at hk
  injection hk with hk
  exact Pts.ne_of (show Pts W g cur _ from hh) hs (by decide) (hk.trans e)),hp.keep Mi _ W W' h.j (hf.mono fun q _ e hm=>(h.m q hm).2.2.1 e),h.f.trans (hf.mono fun q _ e=>.inr (.inl e)),h.m,h.w⟩
end
theorem xblock_err2 {rb fb un B0 bud bx nb sc sb:Nat} {put hold:Value} {kind:Int} {J:(Nat→Prop)→List UInt8→World→Prop} {M Mi own:Nat→Prop} {lv:Value} {recs:List (Nat×Nat)} {out T:List UInt8} {E:BlkE} {w w':World} {z:Nat} (hE:E=.err z T) (hz:z≠0) (h:XC rb fb bx bud B0 nb sc put hold kind lv recs J M out w Mi own sb T w') :
 BlkXEnd rb fb un B0 bud put hold kind J M lv recs out E w (.returned (.int .i64 (z:Int))) w':=by
 subst hE
 exact ⟨h.f.mono fun q _ e=>by rcases e with e | e | e;exact .inl e;exact .inr (.inl e);exact .inr (.inr (.inl e)),Mi,fun q hq=>(h.m q hq).1,hz,rfl,h.j⟩
def LoB (bx rb fb nb tl:Nat) (w':World):Prop:=w'.cell? ⟨bx,0,none⟩=some (.pointer (some ⟨rb,0,none⟩))∧w'.cell? ⟨rb,0,none⟩=some (.pointer (some ⟨fb,0,none⟩))∧w'.cell? ⟨nb,0,none⟩=some (.int .i64 (tl:Int))
theorem cell_alloc {w:World} (o:Obj) {p:Addr} {v:Value} (hp:w.cell? p=some v):(w.alloc o).cell? p=some v:=by
 rw [World.cell?_of_block (w:=w)]
 ·exact hp
 exact Below.heap_alloc _ _ _ (World.block_lt_of_cell? w p hp)
theorem LoB.alloc {bx rb fb nb tl:Nat} {w:World} (h:LoB bx rb fb nb tl w) (o:Obj):LoB bx rb fb nb tl (w.alloc o):=⟨cell_alloc o h.1,cell_alloc o h.2.1,cell_alloc o h.2.2⟩
theorem Frm.undrew {S:Nat→Prop} {a b:World} (h:Frm S a.drew b):Frm S a b:=⟨h.os,h.tape,h.output,h.size,h.block⟩
theorem xblock_err {rb fb un B0 bud:Nat} {put hold:Value} {kind:Int} {J:(Nat→Prop)→List UInt8→World→Prop} {M:Nat→Prop} {lv:Value} {recs:List (Nat×Nat)} {out:List UInt8} {E:BlkE} {w w':World} {z:Nat} (hE:E=.err z []) (hz:z≠0) (hf:Frm (fun q=>q=fb) w w') (hj:J M out w') :
 BlkXEnd rb fb un B0 bud put hold kind J M lv recs out E w (.returned (.int .i64 (z:Int))) w':=by
 subst hE
 exact ⟨hf.mono fun q _ e=>.inr (.inl e),M,fun q h=>.inl h,hz,rfl,by rw [List.append_nil];exact hj⟩
theorem xblock_ok {rb fb un B0 bud bx nb sc sb fput most:Nat} {lb:Array Value} {put hold:Value} {kind:Int} {J:(Nat→Prop)→List UInt8→World→Prop} {M Mi own:Nat→Prop} {lv v12:Value} {recs:List (Nat×Nat)} {out T rest:List UInt8} {rc:Nat×Nat} {E:BlkE} {w Wa w12:World} {o:Obj} {A:Option Addr} {n c used:Nat}
 (hp:PutOk Tryz.prog fput lb B0 most J) (h:XC rb fb bx bud B0 nb sc put hold kind lv recs J M out w Mi own sb T Wa) (hown:OwnPr w12 192 B0 v12 (recs++[rc])) (hf:Frm (fun k=>lv.ownBlock=some k) (Wa.alloc o) w12) (hnew:v12.ownBlock=lv.ownBlock∨v12.ownBlock=some (Wa.alloc o).heap.size)
 (hs:SrcAt Wa fb A n c used) (hun:used+n=un) (hr:BRow Wa B0 A rest) (hn:n=rest.length) (hc:n≤c) (hcm:c≤maxLen) (hE:E=.ok T rc rest) (hB0:B0≤w.heap.size) (hlo:LoB bx rb fb nb T.length Wa) (hBr:B0≤rb) :
 LoB bx rb fb nb T.length w12∧LoB bx rb fb nb T.length (w12.setCell ⟨rb,6,none⟩ v12)∧w12.cell? ⟨rb,6,none⟩=some lv∧w12.frozen? ⟨rb,6,none⟩=false∧BlkXEnd rb fb un B0 bud put hold kind J M lv recs out E w (.returned (.int .i64 0)) (w12.setCell ⟨rb,6,none⟩ v12):=by
 have hty:∀ {q:Nat} {c:Array Value} {T':TypeId},lv.ownBlock=some q→Pts Wa q c T'→(192:Nat)=T':=fun {q c T'} hq hpp=>by
  rcases h.o.2 with ⟨h3,_⟩ | ⟨g,cap,cur,h3,_,hh,_⟩
  ·rw [h3] at hq;cases hq
  rw [h3] at hq
  injection hq with hq
  subst hq
  have h9:Wa.heap[g]?=some (.cells cur 192 (0,0)):=hh
  unfold Pts at hpp
  rw [h9] at hpp
  injection hpp with hpp
  injection hpp
 have k1:lv.ownBlock≠some bx:=fun e=>absurd (hty e h.x) (by decide)
 have k2:lv.ownBlock≠some rb:=fun e=>absurd (hty e h.r) (by decide)
 have k3:lv.ownBlock≠some nb:=fun e=>absurd (hty e h.n) (by decide)
 have k4:lv.ownBlock≠some fb:=fun e=>absurd (hty e hs) (by decide)
 have hx:=(h.x.alloc o).frm hf k1
 have hrr:RxAt w12 rb fb bud put hold kind (out++T).length lv:=Pts.frm (Pts.alloc h.r o) hf k2
 have hnn:=(h.n.alloc o).frm hf k3
 have hsz:(Wa.alloc o).heap.size=Wa.heap.size+1:=by simp only [World.size_alloc]
 have hw:w.heap.size≤Wa.heap.size:=h.f.size
 have hf1:Frm (fun k=>lv.ownBlock=some k) Wa w12:=((Frm.refl _ Wa).alloc o).trans hf
 have hf2:Frm (fun k=>lv.ownBlock=some k∨k=rb) Wa (w12.setCell ⟨rb,6,none⟩ v12):=(hf1.mono fun q _ e=>.inl e).setCell (p:=⟨rb,6,none⟩) (.inr rfl) v12
 have hv12:∀ q,v12.ownBlock=some q→lv.ownBlock=some q∨q=Wa.heap.size+1:=fun q hq=>by
  rcases hnew with e | e
  ·exact .inl (e▸hq)
  rw [e,hsz] at hq
  injection hq with hq
  exact .inr hq.symm
 have hlo2:=hlo.alloc o
 have hx2:Pts (w12.setCell ⟨rb,6,none⟩ v12) bx _ _:=hx.other (p:=⟨rb,6,none⟩) (h.x.ne_of h.r (by decide)) v12
 have hn2:Pts (w12.setCell ⟨rb,6,none⟩ v12) nb _ _:=hnn.other (p:=⟨rb,6,none⟩) (h.n.ne_of h.r (by decide)) v12
 have hr2:RxAt (w12.setCell ⟨rb,6,none⟩ v12) rb fb bud put hold kind (out++T).length v12:=Pts.set hrr 6 v12
 refine ⟨⟨by rw [hx.cell];rfl,hrr.cells.1,by rw [hnn.cell];rfl⟩,⟨by rw [hx2.cell];rfl,hr2.cells.1,by rw [hn2.cell];rfl⟩,hrr.cells.2.2.2.2.2.2,Pts.frozen hrr 6,?_⟩
 subst hE
 refine ⟨?_,Mi,fun q hq=>(h.m q hq).1,rfl,hp.keep Mi _ Wa _ h.j (hf2.mono fun q _ e hm=>?_),v12,?_,?_,fun q hq=>⟨fun hm=>?_,?_⟩,A,n,c,used,Pts.frm hs hf2 ?_,hun,hr.below (hf2.below (Nat.le_trans hB0 hw) fun k hk=>?_),hn,hc,hcm⟩
 ·refine (h.f.mono fun q _ e=>?_).trans (hf2.mono fun q _ e=>?_)
  ·rcases e with e | e | e
   ·exact .inl e
   ·exact .inr (.inl e)
   exact .inr (.inr (.inl e))
  rcases e with e | e
  ·exact .inr (.inr (.inr e))
  exact .inr (.inr (.inl e))
 ·rcases e with e | e
  ·exact (h.m q hm).2.2.2 e
  exact (h.m q hm).2.1 e
 ·exact Pts.set hrr 6 v12
 ·refine hown.frm (S:=fun k=>k=rb) ((Frm.refl (fun k=>k=rb) w12).setCell (p:=⟨rb,6,none⟩) rfl v12) fun q hq e=>?_
  have hrl:=Pts.lt h.r
  rcases hv12 q hq with e2 | e2
  ·exact k2 (e▸e2)
  omega
 ·rcases hv12 q hq with e2 | e2
  ·exact (h.m q hm).2.2.2 e2
  have:=hp.lt h.j q hm;omega
 ·rcases hv12 q hq with e2 | e2
  ·exact .inl e2
  exact .inr (by omega)
 ·rintro (e | e)
  ·exact k4 e
  exact Pts.ne_of hs h.r (by decide) e
 rcases hk with e | e
 ·exact (h.o.lt e).1
 omega
open Go.RowKit Box
namespace Box
def bxNum (r:List UInt8) (e:Int):Nat×List UInt8×Int :=
 if ¬ e=0 then (0,r,e) else if ¬ (number r).2.2=0 then (0,r,11) else ((number r).1,r.drop (number r).2.1,0)
def bxMust (e:Int) (β:Bool) (x:Int):Int:=if e=0∧β=false then x else e
end Box
structure BoxW (w0 w:World) (xb B:Nat) (r:List UInt8) (e:Int):Prop where
 p:∃ A c,Pts w xb #[.slice A r.length c,.int .i64 e] 113∧r.length≤c∧c≤maxLen∧BRow w B A r
 hB:B≤xb
 f:Below B w0 w
section
variable {w0 w : World} {xb B : Nat} {r : List UInt8} {e : Int}
theorem BoxW.cell1 (h:BoxW w0 w xb B r e):w.cell? ⟨xb,1,none⟩=some (.int .i64 e):=by
 obtain ⟨A,c,hp,_⟩:=h.p
 exact hp.cell 1
theorem BoxW.setE (h:BoxW w0 w xb B r e) (x:Int):BoxW w0 (w.setCell ⟨xb,1,none⟩ (.int .i64 x)) xb B r x:=by
 obtain ⟨A,c,hp,h1,h2,h3⟩:=h.p
 have hb:=(Below.refl B w).setCell (p:=⟨xb,1,none⟩) h.hB (.int .i64 x)
 exact ⟨⟨A,c,hp.set 1 _,h1,h2,h3.below hb⟩,h.hB,h.f.trans hb⟩
end
theorem rmust_p (xb B:Nat) (r:List UInt8) (e x:Int) (β:Bool) (w0 w:World) (h:BoxW w0 w xb B r e) :
 Calls Tryz.prog 67 #[.pointer (some ⟨xb,0,none⟩),.bool β,.int .i64 x] w fun o w'=>o=.returned (.tuple #[])∧BoxW w0 w' xb B r (bxMust e β x):=by
 have c1:=h.cell1
 have H:=hid h
 have fz:w.frozen? ⟨xb,1,none⟩=false:=by obtain ⟨A,c,hp,_⟩:=h.p;exact hp.frozen 1
 by_cases he:e=0
 ·cases β with
  | true =>
   have hm:bxMust e true x=e:=by unfold bxMust;simp
   rw [hm]
   clear h hm
   subst he
   go_enter Tryz.func67,Tryz.ntmps67
   go_wp2
   go_end0
   exact ⟨rfl,H.out⟩
  | false =>
   have hm:bxMust e false x=x:=by unfold bxMust;simp [he]
   rw [hm]
   have H2:=hid (h.setE x)
   clear h hm
   subst he
   go_enter Tryz.func67,Tryz.ntmps67
   go_wp2
   go_end0
   exact ⟨rfl,H2.out⟩
 have hm:bxMust e β x=e:=by unfold bxMust;simp [he]
 rw [hm]
 have hq:(e==0)=false:=by rw [beq_eq_false_iff_ne];exact he
 clear h hm he
 go_enter Tryz.func67,Tryz.ntmps67
 go_wp2
 go_end0
 exact ⟨rfl,H.out⟩
set_option maxRecDepth 100000 in
theorem rnum_p (xb B:Nat) (r:List UInt8) (e:Int) (w0 w:World) (h:BoxW w0 w xb B r e) (hlen:r.length≤1000000) :
 Calls Tryz.prog 66 #[.pointer (some ⟨xb,0,none⟩)] w fun o w'=>o=.returned (.int .u64 ((bxNum r e).1:Int))∧BoxW w0 w' xb B (bxNum r e).2.1 (bxNum r e).2.2:=by
 have c1:=h.cell1
 have H:=hid h
 by_cases he:e=0
 ·obtain ⟨A,c,hp,hc,hcm,hr⟩:=h.p
  have hn:=rnumber_p A r r.length c B w rfl hr (Nat.le_trans hlen (by decide))
  have c0:=hp.cell 0
  have z1:=hp.frozen 1
  have z0:=hp.frozen 0
  rcases num_cases r with ⟨hnum,hne⟩ | ⟨y,m,hnum,hy,hm⟩
  ·have hb:bxNum r e=(0,r,11):=by unfold bxNum;rw [if_neg (by simp [he]),if_pos hne]
   rw [hb]
   rw [hnum] at hn
   obtain ⟨x,hx⟩:∃ x,(number r).2.2=x:=⟨_,rfl⟩
   rw [hx] at hn hne
   have hq:(x != 0)=true:=by simp [hne]
   unfold errOf at hn
   have HN:=hid hn
   have H2:=hid (h.setE 11)
   clear h hb hn hp hr hcm hnum hne hx hc
   subst he
   go_enter Tryz.func66,Tryz.ntmps66
   go_wp2_with fail
   refine HN.out.mono ?_;rintro o w1 ⟨rfl,rfl⟩
   go_wp2
   go_ret
   exact ⟨rfl,H2.out⟩
  have hb:bxNum r e=(y,r.drop m,0):=by unfold bxNum;rw [if_neg (by simp [he]),hnum];simp
  rw [hb]
  rw [hnum] at hn
  unfold errOf at hn
  have HN:=hid hn
  have hs:=fun w=>slice_fromX A r.length c m hm hc w
  have hr2:=hr.drop (k:=m) hc
  obtain ⟨A2,hA2⟩:∃ A2,(if c=m then A else A.map (·.add m))=A2:=⟨_,rfl⟩
  rw [hA2] at hs hr2
  have hb1:=(Below.refl B w).setCell (p:=⟨xb,0,none⟩) h.hB (.slice A2 (r.length-m) (c-m))
  have H2:RowKit.Hid (BoxW w0 (w.setCell ⟨xb,0,none⟩ (.slice A2 (r.length-m) (c-m))) xb B (r.drop m) 0) :=
   hid ⟨⟨A2,c-m,by have:=hp.set 0 (.slice A2 (r.length-m) (c-m));rw [he] at this;rw [List.length_drop];exact this,by rw [List.length_drop];omega,by omega,hr2.below hb1⟩,h.hB,h.f.trans hb1⟩
  clear h hb hn hp hr hcm hnum hc hA2 hr2 hb1 hm
  subst he
  go_enter Tryz.func66,Tryz.ntmps66
  go_wp2_with fail
  refine HN.out.mono ?_;rintro o w1 ⟨rfl,rfl⟩
  go_wp2
  go_ret
  exact ⟨rfl,H2.out⟩
 have hb:bxNum r e=(0,r,e):=by unfold bxNum;rw [if_pos he]
 rw [hb]
 have hq:(e != 0)=true:=by simp [he]
 clear h hb he
 go_enter Tryz.func66,Tryz.ntmps66
 go_wp2
 go_ret
 exact ⟨rfl,H.out⟩
end Go.Proofs.YtffehfpbdcokbaaGreat
