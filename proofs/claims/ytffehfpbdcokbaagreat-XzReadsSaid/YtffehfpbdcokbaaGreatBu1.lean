import Derived.WalkKit
import Derived.Test.YtffehfpbdcokbaaGreatFrm
import Derived.Test.YtffehfpbdcokbaaGreatOpen
import Derived.Maps.AppendAt
import Derived.Deep.AppendLies
import Derived.Laws.BytesArg
import Derived.StillTail
import Derived.Deep.QuietTactic
import Derived.BigQuiet
import Derived.Test.YtffehfpbdcokbaaGreatChecked
import Derived.OwnWalk
import Derived.Lib.Hide
import Derived.StillTailTactics
import Derived.Deep.LoopGhost
import Derived.Deep.RegionWith
import Derived.Deep.CutBlock
set_option linter.unusedVariables false
set_option linter.unusedSimpArgs false
namespace Go.Proofs.YtffehfpbdcokbaaGreat
open Lib (hid)
open Go.RowKit
theorem wpList_build {P:Program} {ops:Array Oper} {Q:Exit→Act→World→Prop} {a:Act} {w:World} {rest:List Oper} {o:Oper}
 (T:TypeId) (parts:Array (Nat×Operand)) (hg:o.guard=none) (hop:o.op=.build T parts) (v:Value)
 (ps:Array (Nat×Value)) (hps:(parts.map fun (i,x)=>(i,a.eval x))=ps) (hrun:(Instr.build T ps).run P w=.ok v w) (h:wpList P ops Q rest (a.put o.dst v) w):wpList P ops Q (o::rest) a w :=
 wpList_plain hg fun K hK=>by
  unfold Oper.wp execOp
  simp only [hop,hps,Sem.run_bind,hrun,Result.andThen_ok,Sem.run_pure]
  exact hK _ _ h
open Go.RowKit
def byteV (u:UInt8):Value:=.int .u8 (u.toNat:Int)
def BRow (w:World) (B:Nat) (A:Option Addr) (bs:List UInt8):Prop :=
 0<bs.length→∃ b off,A=some ⟨b,off,none⟩∧b<B∧∀ k,k<bs.length→w.cell? ⟨b,off+k,none⟩=some (byteV (bs.getD k 0))
section
variable {w w' : World} {B B' : Nat} {A : Option Addr} {bs : List UInt8}
theorem BRow.nil (w:World) (B:Nat) (A:Option Addr):BRow w B A []:=fun h=>absurd h (by simp)
theorem BRow.keep (h:BRow w B A bs) (hk:∀ b,b<B→w'.heap[b]?=w.heap[b]?):BRow w' B A bs:=by
 intro hn
 obtain ⟨b,off,rfl,hlt,hc⟩:=h hn
 exact ⟨b,off,rfl,hlt,fun k hk'=>by rw [World.cell?_of_block (hk b hlt)];exact hc k hk'⟩
theorem BRow.below (h:BRow w B A bs) (hb:Below B w w'):BRow w' B A bs:=h.keep fun b hb'=>hb.block b hb'
theorem BRow.more (h:BRow w B A bs) (hB:B≤B'):BRow w B' A bs:=by
 intro hn
 obtain ⟨b,off,rfl,hlt,hc⟩:=h hn
 exact ⟨b,off,rfl,by omega,hc⟩
theorem BRow.drop (h:BRow w B A bs) {k cap:Nat} (hc:bs.length≤cap):BRow w B (if cap=k then A else A.map (·.add k)) (bs.drop k):=by
 intro hn
 rw [List.length_drop] at hn
 obtain ⟨b,off,rfl,hlt,hcell⟩:=h (by omega)
 rw [if_neg (by omega)]
 refine ⟨b,off+k,by simp [Opn.add_at],hlt,fun j hj=>?_⟩
 rw [List.length_drop] at hj
 have:=hcell (k+j) (by omega)
 rw [show off+k+j=off+(k+j) by omega,this]
 simp [List.getD]
theorem BRow.take (h:BRow w B A bs) (k:Nat):BRow w B A (bs.take k):=by
 intro hn
 rw [List.length_take] at hn
 obtain ⟨b,off,rfl,hlt,hcell⟩:=h (by omega)
 refine ⟨b,off,rfl,hlt,fun j hj=>?_⟩
 rw [List.length_take] at hj
 rw [hcell j (by omega)]
 simp only [List.getD,List.getElem?_take]
 rw [if_pos (by omega)]
def BOff (N:Nat→Prop) (A:Option Addr) (bs:List UInt8):Prop:=0<bs.length→∀ ad,A=some ad→¬ N ad.block
theorem BOff.of_row {N:Nat→Prop} (h:BRow w B A bs) (hN:∀ k,N k→B≤k):BOff N A bs:=by
 intro hn ad e hk
 obtain ⟨b,off,rfl,hlt,_⟩:=h hn
 injection e with e
 subst e
 have:=hN _ hk
 exact Nat.lt_irrefl _ (Nat.lt_of_lt_of_le hlt this)
theorem BRow.off (h:BRow w B A bs) {b:Nat} (hA:BOff (· = b) A bs) (hf:Frm (· = b) w w'):BRow w' B A bs:=by
 intro hn
 obtain ⟨c,off,rfl,hlt,hcell⟩:=h hn
 exact ⟨c,off,rfl,hlt,fun k hk=>(World.cell?_of_block (w:=w) (hf.block c (World.block_lt_of_cell? w ⟨c,off+k,none⟩ (hcell k hk)) (hA hn _ rfl))).trans (hcell k hk)⟩
theorem BRow.drewN (h:BRow w B A bs) (n:Nat):BRow (w.drewN n) B A bs:=h
theorem BRow.addr {b off:Nat} (h:BRow w B (some ⟨b,off,none⟩) bs) {k:Nat} (hk:k<bs.length):w.cell? ⟨b,off+k,none⟩=some (byteV (bs.getD k 0)):=by
 obtain ⟨b',off',e,_,hc⟩:=h (by omega)
 injection e with e;injection e with e1 e2
 subst e1;subst e2
 exact hc k hk
end
theorem BRow.of_row {w:World} {B n:Nat} {A:Option Addr} {f:Nat→Int} (h:Opn.RowAt w B A n (fun i=>.int .u8 (f i))) (hf:∀ i,i<n→0≤f i∧f i≤255) :
 ∃ bs:List UInt8,bs.length=n∧BRow w B A bs:=by
 refine ⟨(List.range n).map fun i=>UInt8.ofNat (f i).toNat,by simp,fun hn=>?_⟩
 obtain ⟨b,off,rfl,hlt,hc⟩:=h (by simpa using hn)
 refine ⟨b,off,rfl,hlt,fun k hk=>?_⟩
 have hk':k<n:=by simpa using hk
 rw [hc k hk']
 obtain ⟨h0,h1⟩:=hf k hk'
 have e:((UInt8.ofNat (f k).toNat).toNat:Int)=f k:=by
  rw [UInt8.toNat_ofNat']
  omega
 simp only [byteV,List.getD,List.getElem?_map,List.getElem?_range hk',Option.map_some,Option.getD_some,e]
def OwnB (w:World) (T base:Nat) (v:Value) (bs:List UInt8):Prop:=w.ownsRow base T 1 v bs.length (bs.map byteV)
section
variable {w w' : World} {T base : Nat} {v : Value} {bs : List UInt8}
theorem OwnB.nil (w:World) (T base:Nat):OwnB w T base (.slice none 0 0) []:=World.ownsRow_nil w base T 1
theorem OwnB.form (h:OwnB w T base v bs):(v=.slice none 0 0∧bs=[])∨∃ g cap cur,v=.slice (some ⟨g,0,none⟩) bs.length cap∧base≤g∧Pts w g cur T∧bs.length≤cap∧cap≤maxLen∧cur.size=cap∧∀ k,k<bs.length→cur[k]?=some (byteV (bs.getD k 0)):=by
 obtain ⟨h1,h2⟩:=h
 rcases h2 with ⟨rfl,hn⟩ | ⟨g,cap,cur,rfl,hb,hh,hnc,hcm,hcs,ht⟩
 ·exact .inl ⟨rfl,List.eq_nil_of_length_eq_zero hn⟩
 refine .inr ⟨g,cap,cur,rfl,hb,hh,hnc,hcm,by simpa using hcs,fun k hk=>?_⟩
 have:=congrArg (fun l:List Value=>l[k]?) ht
 simp only [Nat.mul_one,List.getElem?_take,hk,if_true,List.getElem?_map] at this
 rw [Array.getElem?_toList] at this
 rw [this]
 simp [List.getD,hk]
theorem OwnB.slice (h:OwnB w T base v bs):∃ A cap,v=.slice A bs.length cap∧bs.length≤cap∧cap≤maxLen∧BRow w w.heap.size A bs:=by
 rcases h.form with ⟨rfl,rfl⟩ | ⟨g,cap,cur,rfl,_,hp,hnc,hcm,_,hc⟩
 ·exact ⟨none,0,rfl,Nat.le_refl _,Nat.zero_le _,BRow.nil _ _ _⟩
 refine ⟨_,cap,rfl,hnc,hcm,fun _=>⟨g,0,rfl,hp.lt,fun k hk=>?_⟩⟩
 rw [Nat.zero_add,hp.cell]
 exact hc k hk
theorem OwnB.lt (h:OwnB w T base v bs) {k:Nat} (hk:v.ownBlock=some k):base≤k∧k<w.heap.size:=World.ownsRow.lt h k hk
theorem OwnB.frm {S:Nat→Prop} (h:OwnB w T base v bs) (hf:Frm S w w') (hn:∀ k,v.ownBlock=some k→¬ S k):OwnB w' T base v bs:=by
 refine ⟨h.1,?_⟩
 rcases h.2 with h2 | ⟨g,cap,cur,rfl,hb,hh,r⟩
 ·exact .inl h2
 exact .inr ⟨g,cap,cur,rfl,hb,(hf.block g (Pts.lt hh) (hn g rfl)).trans hh,r⟩
theorem OwnB.alloc (h:OwnB w T base v bs) (o:Obj):OwnB (w.alloc o) T base v bs:=World.ownsRow.alloc h o
theorem OwnB.drewN (h:OwnB w T base v bs) (n:Nat):OwnB (w.drewN n) T base v bs:=h
theorem OwnB.other (h:OwnB w T base v bs) {p:Addr} (hp:v.ownBlock≠some p.block) (u:Value):OwnB (w.setCell p u) T base v bs :=
 h.frm (S:=fun k=>k=p.block) ((Frm.refl _ _).setCell (p:=p) (by rfl) u) fun k hk e=>hp (by rw [hk,e])
theorem OwnB.cut {A:Option Addr} {n c:Nat} (h:OwnB w T base (.slice A n c) bs) {k:Nat} (hk:k≤bs.length):OwnB w T base (.slice A k c) (bs.take k):=by
 obtain ⟨h1,h2⟩:=h
 refine ⟨by simp,?_⟩
 rcases h2 with ⟨hv,hn⟩ | ⟨g,cap,cur,hv,hb,hh,hnc,hcm,hcs,ht⟩
 ·injection hv with e1 e2 e3
  subst e1;subst e3
  have:k=0:=by omega
  subst this
  exact .inl ⟨rfl,by simp⟩
 injection hv with e1 e2 e3
 subst e1;subst e3
 refine .inr ⟨g,c,cur,by rw [List.length_take,Nat.min_eq_left hk],hb,hh,by rw [List.length_take];omega,hcm,hcs,?_⟩
 rw [List.map_take,← ht,List.take_take]
 congr 1
 rw [List.length_take];omega
end
theorem oneCell_byte (bs:List UInt8):∀ u∈bs.map byteV,u.oneCell'=true:=by
 intro u hu
 obtain ⟨x,_,rfl⟩:=List.mem_map.1 hu
 rfl
section
variable {P : Program} (w : World)
theorem run_append_bytes (t ty T base:Nat) (ht:P.underlying t=some (.slice T)) (hinfo:(P.info? T).map (fun i=>(i.zero,i.size,i.bytes))=some (some (.int .u8 0),1,1))
 (v:Value) (bs:List UInt8) (hown:OwnB w T base v bs) (A:Option Addr) (c B:Nat) (news:List UInt8) (hnews:BRow w B A news)
 (hlen:bs.length+news.length≤140737488355328) (hbase:base≤w.heap.size) :
 ∃ v' w',(Builtin.append_ #[t,t] ty #[v,.slice A news.length c]).run P w=.ok v' w'∧OwnB w' T base v' (bs++news)∧Frm (fun k=>v.ownBlock=some k) w w' ∧
  (v'.ownBlock=v.ownBlock∨v'.ownBlock=some w.heap.size):=by
 obtain ⟨i,hi,hzz⟩:=Option.map_eq_some_iff.1 hinfo
 simp only [Prod.mk.injEq] at hzz
 obtain ⟨hz,hs,hby⟩:=hzz
 cases A with
 | none =>
  have hn:news=[]:=by
   cases news with
   | nil=>rfl
   | cons x l =>
    obtain ⟨b,off,e,_⟩:=hnews (by simp)
    cases e
  subst hn
  refine ⟨v,w,?_,by simpa using hown,Frm.refl _ _,.inl rfl⟩
  rcases hown.form with ⟨rfl,_⟩ | ⟨g,cap,cur,rfl,_,_,hnc,_⟩
  ·simp [Builtin.append_,run_underlying ht,sizeOf,typeInfo,hi,Builtin.lenOf,Builtin.firstCells]
  ·simp [Builtin.append_,run_underlying ht,sizeOf,typeInfo,hi,Builtin.lenOf,Builtin.firstCells,hnc,storeCells]
 | some ad =>
  have hcells:∀ j u,(news.map byteV)[j]?=some u→w.cell? (ad.add j)=some u:=by
   intro j u hu
   rw [List.getElem?_map] at hu
   obtain ⟨x,hx,rfl⟩:=Option.map_eq_some_iff.1 hu
   have hj:j<news.length:=(List.getElem?_eq_some_iff.1 hx).1
   obtain ⟨b,off,e,_,hc⟩:=hnews (by omega)
   injection e with e
   subst e
   rw [Opn.add_at,hc j hj]
   simp [List.getD,hx]
  obtain ⟨v',w',hrun,h2,h3,_,h5⟩:=run_append_own_at (P:=P) w base t ty T i (.int .u8 0) 1 1 ht hi hz hs hby rfl (by omega) v bs.length (bs.map byteV) hown ad news.length c (news.map byteV) (by simp) hcells (oneCell_byte news) (by unfold maxLen;omega) (by omega) hbase
  refine ⟨v',w',hrun,?_,⟨h3.os,h3.tape,h3.output,h3.size,fun k hk hn=>h3.block k hk (fun e=>hn e.symm)⟩,h5⟩
  unfold OwnB
  rw [List.length_append,List.map_append]
  exact h2
theorem wp_append_bytes {o:Oper} {a:Act} {K:Act→World→Prop} {Q:Exit→Act→World→Prop} (s x:Operand) (t:TypeId)
 (ho:o.op=.call { callee:=.builtin .append,args:=#[s,x],argTypes:=#[t,t] })
 (T base:Nat) (ht:P.underlying t=some (.slice T)) (hinfo:(P.info? T).map (fun i=>(i.zero,i.size,i.bytes))=some (some (.int .u8 0),1,1))
 (v:Value) (bs:List UInt8) (hs:a.eval s=v) (hown:OwnB w T base v bs) (A:Option Addr) (m c B:Nat) (news:List UInt8) (hx:a.eval x=.slice A m c) (hm:m=news.length) (hnews:BRow w B A news)
 (hlen:bs.length+news.length≤140737488355328) (hbase:base≤w.heap.size)
 (h:∀ v' w',OwnB w' T base v' (bs++news)→Frm (fun k=>v.ownBlock=some k) w w'→(v'.ownBlock=v.ownBlock∨v'.ownBlock=some w.heap.size)→K (a.put o.dst v') w'):o.wp P a w K Q:=by
 subst hm
 obtain ⟨v',w',hrun,h2,h3,h4⟩:=run_append_bytes (P:=P) w t o.type T base ht hinfo v bs hown A c B news hnews hlen hbase
 unfold Oper.wp execOp
 simp only [ho,resolve,invoke,builtin,Sem.run_bind,Sem.run_pure,Result.andThen_ok,List.map_toArray,List.map_cons,List.map_nil,hs,hx,hrun]
 exact h v' w' h2 h3 h4
theorem wpList_append_bytes {ops:Array Oper} {rest:List Oper} {o:Oper} {a:Act} {Q:Exit→Act→World→Prop} (hgd:o.guard=none) (s x:Operand) (t:TypeId)
 (ho:o.op=.call { callee:=.builtin .append,args:=#[s,x],argTypes:=#[t,t] })
 (T base:Nat) (ht:P.underlying t=some (.slice T)) (hinfo:(P.info? T).map (fun i=>(i.zero,i.size,i.bytes))=some (some (.int .u8 0),1,1))
 (v:Value) (bs:List UInt8) (hs:a.eval s=v) (hown:OwnB w T base v bs) (A:Option Addr) (m c B:Nat) (news:List UInt8) (hx:a.eval x=.slice A m c) (hm:m=news.length) (hnews:BRow w B A news)
 (hlen:bs.length+news.length≤140737488355328) (hbase:base≤w.heap.size)
 (h:∀ v' w',OwnB w' T base v' (bs++news)→Frm (fun k=>v.ownBlock=some k) w w'→(v'.ownBlock=v.ownBlock∨v'.ownBlock=some w.heap.size)→wpList P ops Q rest (a.put o.dst v') w'):wpList P ops Q (o::rest) a w :=
 wpList_plain hgd fun _ hK=>wp_append_bytes w s x t ho T base ht hinfo v bs hs hown A m c B news hx hm hnews hlen hbase fun v' w' h2 h3 h4=>hK _ _ (h v' w' h2 h3 h4)
end
theorem run_conv_bytes {P:Program} (w:World) (src dst e:TypeId) (hs:P.underlying src=some (.slice e)) (he:P.underlying e=some (.int .u8)) (hd:P.underlying dst=some .string)
 (A:Option Addr) (n c B:Nat) (bs:List UInt8) (hn:n=bs.length) (hr:BRow w B A bs):(convert src dst (.slice A n c)).run P w=.ok (.string ⟨bs.toArray⟩) w:=by
 subst hn
 have hnum:strOfNums (bs.map fun u=>(u.toNat:Int))=⟨bs.toArray⟩:=by
  unfold strOfNums
  congr 2
  rw [List.map_map]
  conv=>rhs;rw [← List.map_id bs]
  apply List.map_congr_left
  intro u _
  simp
 by_cases h0:0<bs.length
 ·obtain ⟨b,off,rfl,_,hc⟩:=hr h0
  rw [← hnum]
  refine run_convert_bytes_arg (P:=P) w src e hs he b off bs.length c (bs.map fun u=>(u.toNat:Int)) (by simp) (fun i hi=>?_) dst hd
  rw [hc i hi]
  simp [byteV,List.getD,hi]
 have hb:bs=[]:=List.eq_nil_of_length_eq_zero (by omega)
 subst hb
 cases A with
 | none=>rw [List.length_nil,run_convert_bytes_nil (P:=P) w src e hs he 0 c dst hd];rfl
 | some a =>
  have hl:(loadCells a 0).run P w=.ok (([]:List Int).map (Value.int .u8)).toArray w:=by simp [loadCells,loadCellsFrom]
  rw [List.length_nil,run_convert_bytes_string w src dst e _ 0 c hs he hd,run_bytesToString w a 0 c [] hl]
  rfl
theorem OwnB.made (w:World) (T base:Nat) (hb:base≤w.heap.size):OwnB (w.alloc (.cells #[] T)) T base (.slice (some ⟨w.heap.size,0,none⟩) 0 0) [] :=
 World.ownsRow_made w #[] 0 hb (Nat.zero_le _) rfl
theorem OwnB.set {w:World} {T base g n cap:Nat} {bs:List UInt8} (h:OwnB w T base (.slice (some ⟨g,0,none⟩) n cap) bs) (k:Nat) (hk:k<bs.length) (y:UInt8) :
 OwnB (w.setCell ⟨g,k,none⟩ (byteV y)) T base (.slice (some ⟨g,0,none⟩) n cap) (bs.set k y):=by
 obtain ⟨h1,h2⟩:=h
 rcases h2 with ⟨hv,_⟩ | ⟨g',cap',cur,hv,hb,hh,hnc,hcm,hcs,ht⟩
 ·cases hv
 injection hv with e1 e2 e3
 injection e1 with e1
 injection e1 with e1
 subst e1;subst e2;subst e3
 refine ⟨by simp,.inr ⟨g,cap,cur.setIfInBounds k (byteV y),by rw [List.length_set],hb,Pts.set (w:=w) (b:=g) hh k (byteV y),by rw [List.length_set];exact hnc,hcm,by rw [Array.size_setIfInBounds];exact hcs,?_⟩⟩
 rw [List.length_set,Array.toList_setIfInBounds,List.take_set,ht,List.map_set]
end Go.Proofs.YtffehfpbdcokbaaGreat
namespace Go.Proofs.YtffehfpbdcokbaaGreat.Num
open Go.RowKit
def M64:Nat:=18446744073709551616
def M32:Nat:=4294967296
theorem M64_eq:M64=2 ^ 64:=rfl
theorem M32_eq:M32=2 ^ 32:=rfl
theorem xor64 {a b:Nat} (ha:a<M64) (hb:b<M64):bits .xor .u64 (a:Int) (b:Int)=((a ^^^ b:Nat):Int):=by
 unfold M64 at *;exact u64_xor_nat a b ha hb
theorem and64 {a b:Nat} (ha:a<M64) (hb:b<M64):bits .and .u64 (a:Int) (b:Int)=((a &&& b:Nat):Int):=by
 unfold M64 at *;exact u64_and_nat a b ha hb
theorem or64 {a b:Nat} (ha:a<M64) (hb:b<M64):bits .or .u64 (a:Int) (b:Int)=((a ||| b:Nat):Int):=by
 unfold M64 at *;exact u64_or_nat a b ha hb
theorem xor8 {a b:Nat} (ha:a<256) (hb:b<256):bits .xor .u8 (a:Int) (b:Int)=((a ^^^ b:Nat):Int):=u8_xor_nat a b ha hb
theorem xor32 {a b:Nat} (ha:a<M32) (hb:b<M32):bits .xor .u32 (a:Int) (b:Int)=((a ^^^ b:Nat):Int):=by
 unfold M32 at *;exact u32_xor_nat a b ha hb
theorem and32 {a b:Nat} (ha:a<M32) (hb:b<M32):bits .and .u32 (a:Int) (b:Int)=((a &&& b:Nat):Int):=by
 unfold M32 at *;exact u32_and_nat a b ha hb
theorem or32 {a b:Nat} (ha:a<M32) (hb:b<M32):bits .or .u32 (a:Int) (b:Int)=((a ||| b:Nat):Int):=by
 unfold M32 at *;exact u32_or_nat a b ha hb
theorem and64_1 {a:Nat} (ha:a<M64):bits .and .u64 (a:Int) 1=((a % 2:Nat):Int):=by
 have:=and64 (b:=1) ha (by unfold M64;omega)
 rw [nat_mask1] at this
 exact this
theorem and32_1 {a:Nat} (ha:a<M32):bits .and .u32 (a:Int) 1=((a % 2:Nat):Int):=by
 have:=and32 (b:=1) ha (by unfold M32;omega)
 rw [nat_mask1] at this
 exact this
theorem xor_lt64 {a b:Nat} (ha:a<M64) (hb:b<M64):a ^^^ b<M64:=by rw [M64_eq] at *;exact Nat.xor_lt_two_pow ha hb
theorem xor_lt32 {a b:Nat} (ha:a<M32) (hb:b<M32):a ^^^ b<M32:=by rw [M32_eq] at *;exact Nat.xor_lt_two_pow ha hb
theorem xor_lt8 {a b:Nat} (ha:a<256) (hb:b<256):a ^^^ b<256:=Nat.xor_lt_two_pow (n:=8) ha hb
theorem wrap8 (a:Nat):IntKind.u8.wrap (a:Int)=((a % 256:Nat):Int):=by rw [IntKind.wrap_u8'];omega
theorem wrap32 (a:Nat):IntKind.u32.wrap (a:Int)=((a % M32:Nat):Int):=by rw [IntKind.wrap_u32'];unfold M32;omega
end Go.Proofs.YtffehfpbdcokbaaGreat.Num
namespace Go.Proofs.YtffehfpbdcokbaaGreat.Rng
open Go.RowKit
theorem or_byte {k x:Nat} (hk:k % 256=0) (hx:x<256):k ||| x=k+x:=by
 have h:=Nat.shiftLeft_add_eq_or_of_lt (a:=k / 256) (b:=x) (i:=8) hx
 have e:(k / 256) <<< 8=k:=by rw [Nat.shiftLeft_eq];omega
 rw [e] at h
 exact h.symm
theorem or_raw {k x:Nat} (h1:k % 256=0) (h2:k<4294967296) (hx:x<256):bits .or .u32 (k:Int) (x:Int)=((k+x:Nat):Int):=by
 have e1:k<Num.M32:=h2
 have e2:x<Num.M32:=by show x<4294967296;omega
 rw [Num.or32 e1 e2,or_byte h1 hx]
def fair (p:Nat):Nat:=max 31 (min p 2017)
def learn (c:Nat) (one:Bool):Nat:=if one then c-c / 32 else c+(2048-c) / 32
theorem fair_bd (p:Nat):31≤fair p∧fair p≤2017:=by unfold fair;omega
theorem learn_bd {c:Nat} (h:c≤2017) (one:Bool):learn c one≤2048:=by unfold learn;split <;> omega
def bitV (one:Bool):Int:=if one then 1 else 0
structure Dec where
 rest:List UInt8
 size:Nat
 code:Nat
 want:Bool
def Dec.order (d:Dec):Dec :=
 if 16777216≤d.size then d else
 match d.rest with
 | []=>⟨[],d.size*256,d.code*256 % 4294967296,true⟩
 | x::r=>⟨r,d.size*256,d.code*256 % 4294967296+x.toNat,d.want⟩
def Dec.bit (d:Dec) (c:Nat):Bool×Dec :=
 let d:=d.order
 if d.code<d.size / 2048*c then (false,⟨d.rest,d.size / 2048*c,d.code,d.want⟩)
 else (true,⟨d.rest,d.size-d.size / 2048*c,d.code-d.size / 2048*c,d.want⟩)
def Dec.one (d:Dec):Bool×Dec :=
 let d:=d.order
 if d.code<d.size / 2 then (false,⟨d.rest,d.size / 2,d.code,d.want⟩)
 else (true,⟨d.rest,d.size / 2,d.code-d.size / 2,d.want⟩)
def Dec.direct:Nat→Nat→Dec→Nat×Dec
 | 0,x,d=>(x,d)
 | n+1,x,d=>Dec.direct n (x*2 % 4294967296+(if d.one.1 then 1 else 0)) d.one.2
def count (n:Int):Nat:=(min (max n 0) 32).toNat
structure Dec.Fits (d:Dec):Prop where
 s:d.size<4294967296
 c:d.code<4294967296
theorem Dec.Fits.order {d:Dec} (h:d.Fits):d.order.Fits:=by
 unfold Dec.order
 have h1:=h.s
 have h2:=h.c
 split
 ·exact h
 cases hr:d.rest with
 | nil=>exact ⟨by simp only;omega,by simp only;omega⟩
 | cons x r =>
  have:=x.toNat_lt
  exact ⟨by simp only;omega,by simp only;omega⟩
theorem bound_le (s c:Nat) (h:c≤2017):s / 2048*c≤s:=by
 have h1:s / 2048*c≤s / 2048*2048:=Nat.mul_le_mul_left _ (by omega)
 have h2:=Nat.div_mul_le_self s 2048
 omega
theorem Dec.Fits.bit {d:Dec} (h:d.Fits) {c:Nat} (hc:c≤2017):(d.bit c).2.Fits:=by
 have ho:=h.order
 have h1:=ho.s
 have h2:=ho.c
 have hb:=bound_le d.order.size c hc
 unfold Dec.bit
 simp only
 split
 ·exact ⟨by simp only;omega,by simp only;omega⟩
 exact ⟨by simp only;omega,by simp only;omega⟩
theorem Dec.Fits.one {d:Dec} (h:d.Fits):d.one.2.Fits:=by
 have ho:=h.order
 have h1:=ho.s
 have h2:=ho.c
 unfold Dec.one
 simp only
 split
 ·exact ⟨by simp only;omega,by simp only;omega⟩
 exact ⟨by simp only;omega,by simp only;omega⟩
def Dec.fin (d:Dec):Nat×Nat:=if d.order.want then (0,10) else if d.order.code≠0 then (0,11) else (d.order.rest.length,0)
end Go.Proofs.YtffehfpbdcokbaaGreat.Rng
namespace Go.Proofs.YtffehfpbdcokbaaGreat.Win
open Go.RowKit
def lastN (n:Nat) (l:List UInt8):List UInt8:=l.drop (l.length-n)
def content (R:List UInt8) (a:Nat):List UInt8:=R.drop a++R.take a
theorem content_zero (R:List UInt8):content R 0=R:=by simp [content]
theorem content_length (R:List UInt8) (a:Nat):(content R a).length=R.length:=by
 unfold content;rw [List.length_append,List.length_drop,List.length_take];omega
theorem lastN_length (n:Nat) (l:List UInt8):(lastN n l).length=min n l.length:=by
 unfold lastN;rw [List.length_drop];omega
theorem lastN_all {n:Nat} {l:List UInt8} (h:l.length≤n):lastN n l=l:=by
 unfold lastN;rw [show l.length-n=0 by omega,List.drop_zero]
theorem lastN_lastN (n:Nat) (x y:List UInt8):lastN n (lastN n x++y)=lastN n (x++y):=by
 unfold lastN
 rw [List.length_append,List.length_append,List.length_drop]
 by_cases h:x.length≤n
 ·rw [show x.length-n=0 by omega,List.drop_zero];congr 1
 by_cases hy:y.length≤n
 ·rw [List.drop_append_of_le_length (by rw [List.length_drop];omega),List.drop_append_of_le_length (by omega),List.drop_drop]
  congr 2;omega
 have e1:(x.drop (x.length-n)++y).drop (x.length-(x.length-n)+y.length-n)=y.drop (y.length-n):=by
  rw [List.drop_append,List.drop_of_length_le (by rw [List.length_drop];omega),List.nil_append,List.length_drop]
  congr 1;omega
 have e2:(x++y).drop (x.length+y.length-n)=y.drop (y.length-n):=by
  rw [List.drop_append,List.drop_of_length_le (by omega),List.nil_append]
  congr 1;omega
 rw [e1,e2]
theorem put_big {C b:List UInt8} {S:Nat} (h:S≤b.length):lastN S (C++b)=b.drop (b.length-S):=by
 unfold lastN
 rw [List.length_append,List.drop_append,List.drop_of_length_le (by omega),List.nil_append]
 congr 1;omega
def over (R b:List UInt8) (a n:Nat):List UInt8:=R.take a++b.take n++R.drop (a+n)
theorem over_length {R b:List UInt8} {a n:Nat} (h1:a+n≤R.length) (h2:n≤b.length):(over R b a n).length=R.length:=by
 unfold over;simp only [List.length_append,List.length_take,List.length_drop];omega
theorem over_content {R b:List UInt8} {a n:Nat} (h1:a+n≤R.length) (h2:n≤b.length) (ha:a<R.length) (hn:n≤R.length):content (over R b a n) ((a+n) % R.length)=lastN R.length (content R a++b.take n):=by
 have lb:(b.take n).length=n:=by rw [List.length_take];omega
 have la:(R.take a).length=a:=by rw [List.length_take];omega
 have hr:lastN R.length (content R a++b.take n)=R.drop (a+n)++(R.take a++b.take n):=by
  unfold lastN content
  have e:(R.drop a++R.take a++b.take n).length-R.length=n:=by
   simp only [List.length_append,List.length_drop,la,lb];omega
  rw [e,List.append_assoc,List.drop_append_of_le_length (by rw [List.length_drop];omega),List.drop_drop]
 rw [hr]
 by_cases he:a+n=R.length
 ·rw [he,Nat.mod_self,content_zero,over,he]
  simp
 rw [Nat.mod_eq_of_lt (by omega),content,over]
 have e1:(R.take a++b.take n).length=a+n:=by rw [List.length_append,la,lb]
 have e2:(R.take a++b.take n++R.drop (a+n)).drop (a+n)=R.drop (a+n):=by rw [← e1,List.drop_left]
 have e3:(R.take a++b.take n++R.drop (a+n)).take (a+n)=R.take a++b.take n:=by rw [← e1,List.take_left]
 rw [e2,e3]
theorem content_at {R:List UInt8} {a back:Nat} (ha:a≤R.length) (h1:1≤back) (h2:back≤R.length):R.getD ((a+R.length-back) % R.length) 0=(content R a).getD (R.length-back) 0:=by
 unfold content
 simp only [List.getD]
 congr 1
 by_cases h:back≤a
 ·rw [List.getElem?_append_right (by rw [List.length_drop];omega),List.length_drop,List.getElem?_take,if_pos (by omega)]
  have e:(a+R.length-back) % R.length=a-back:=by
   rw [show a+R.length-back=(a-back)+R.length by omega,Nat.add_mod_right,Nat.mod_eq_of_lt (by omega)]
  rw [e];congr 1;omega
 rw [List.getElem?_append_left (by rw [List.length_drop];omega),List.getElem?_drop,Nat.mod_eq_of_lt (by omega)]
 congr 1;omega
end Go.Proofs.YtffehfpbdcokbaaGreat.Win
namespace Go.Proofs.YtffehfpbdcokbaaGreat.Lz
open Go.RowKit Rng Win
structure Cod (σ:Type) where
 bit:σ→Nat→Nat→Bool×σ
 dir:σ→Nat→Nat→Nat×σ
def outC:Cod Dec:=⟨fun d c _=>d.bit c,fun d _ n=>d.direct n 0⟩
def b2n (b:Bool):Nat:=if b then 1 else 0
abbrev Pr:=Nat→Nat
def upd (p:Pr) (i v:Nat):Pr:=fun j=>if j=i then v else p j
theorem upd_ne (p:Pr) {i j:Nat} (v:Nat) (h:j≠i):upd p i v j=p j:=if_neg h
structure CP (σ:Type) where
 d:σ
 pr:Pr
section
variable {σ : Type} (co : Cod σ)
def bitAt (i x:Nat) (s:CP σ):Nat×CP σ :=
 let b:=co.bit s.d (fair (s.pr i)) x
 (b2n b.1,⟨b.2,upd s.pr i (learn (fair (s.pr i)) b.1)⟩)
def treeGo (base x:Nat):Nat→Nat→CP σ→Nat×CP σ
 | 0,m,s=>(m,s)
 | n+1,m,s=>treeGo base x n (2*m+(bitAt co (base+m) (x / 2 ^ n % 2) s).1) (bitAt co (base+m) (x / 2 ^ n % 2) s).2
def treeAt (base n x:Nat) (s:CP σ):Nat×CP σ:=((treeGo co base x n 1 s).1-2 ^ n,(treeGo co base x n 1 s).2)
def backGo (base x n:Nat):Nat→Nat→Nat→CP σ→Nat×CP σ
 | 0,_,o,s=>(o,s)
 | k+1,m,o,s=>backGo base x n k (2*m+(bitAt co (base+m) (x / 2 ^ (n-(k+1)) % 2) s).1) (o+(bitAt co (base+m) (x / 2 ^ (n-(k+1)) % 2) s).1*2 ^ (n-(k+1))) (bitAt co (base+m) (x / 2 ^ (n-(k+1)) % 2) s).2
def backAt (base n x:Nat) (s:CP σ):Nat×CP σ:=backGo co base x n n 1 0 s
def lenAt (base n p:Nat) (s:CP σ):Nat×CP σ :=
 let a:=bitAt co base (b2n (10≤n)) s
 if a.1=0 then
  let t:=treeAt co (base+2+p*8) 3 (n-2) a.2
  (2+t.1,t.2)
 else
  let c:=bitAt co (base+1) (b2n (18≤n)) a.2
  if c.1=0 then
   let t:=treeAt co (base+130+p*8) 3 (n-10) c.2
   (10+t.1,t.2)
  else
   let t:=treeAt co (base+258) 8 (n-18) c.2
   (18+t.1,t.2)
def slotOf (d:Nat):Nat:=if d<4 then d else 2*Nat.log2 d+d / 2 ^ (Nat.log2 d-1) % 2
def distAt (d size:Nat) (s:CP σ):Nat×CP σ :=
 let t:=treeAt co (440+(min size 5-2)*64) 6 (slotOf d) s
 if t.1<4 then (t.1,t.2) else
 let k:=t.1 / 2-1
 let base:=(2+t.1 % 2)*2 ^ k
 if t.1<14 then
  let u:=backAt co (696+base-t.1) k (d-base) t.2
  (base+u.1,u.2)
 else
  let v:=co.dir t.2.d ((d-base) / 16) (k-4)
  let u:=backAt co 824 4 (d % 16) ⟨v.2,t.2.pr⟩
  ((base+v.1*16+u.1) % 4294967296,u.2)
def farGo (base x far:Nat):Nat→Nat→CP σ→Nat×CP σ
 | 0,m,s=>(m,s)
 | n+1,m,s =>
  let want:=far / 2 ^ n % 2
  let b:=bitAt co (base+(1+want)*256+m) (x / 2 ^ n % 2) s
  if b.1=want then farGo base x far n (2*m+b.1) b.2 else treeGo co base x n (2*m+b.1) b.2
end
end Go.Proofs.YtffehfpbdcokbaaGreat.Lz
namespace Go.Proofs.YtffehfpbdcokbaaGreat.QTail
section
variable {P : Program} {ops : Array Oper} {md : Region.Mode} {C : World → Prop}
def anyHead (P:Program) (md:Region.Mode) (ops:Array Oper) (C:World→Prop) (n:Nat) (L:Array Bool→Act→Prop):Nat→Array Bool→Act→Prop
 | 0,listed,a=>L listed a
 | f+1,listed,a =>
  Region.ready md ops listed≠[]∧∀ i∈Region.ready md ops listed,i<n∧qOp P ops C i (anyHead P md ops C n L f (listed.setIfInBounds i true)) a
theorem any_of_head {n g:Nat} {L:Array Bool→Act→Prop} {Q':Exit→Act→World→Prop} (hL:∀ listed a w,C w→L listed a→wpAny P md ops Q' g listed a w) :
 ∀ (f:Nat) (listed:Array Bool) (a:Act) (w:World),C w→anyHead P md ops C n L f listed a→wpAny P md ops Q' (f+g) listed a w
 | 0,listed,a,w,hw,h=>by rw [Nat.zero_add];exact hL _ _ _ hw h
 | f+1,listed,a,w,hw,h=>by
  rw [show f+1+g=(f+g)+1 by omega]
  exact ⟨fun h0=>absurd h0 h.1,fun i hi=>wpOp_of_qOp hw (fun a' w' hw' h'=>any_of_head hL f _ a' w' hw' h') (h.2 i hi).2⟩
theorem head_first {n i:Nat} {oi:Oper} {v:Value} {L:Array Bool→Act→Prop} (hi:ops[i]?=some oi) (hsel:∀ (j:Nat) (o:Oper) cs b,ops[j]?=some o→o.op≠.select cs b)
 (hs:Region.sinkB md ops n=true) (hc:Region.chainB md ops n=true) (hn:n<ops.size) (hin:i<n)
 (hdone:∀ listed a,L listed a→∀ j∈Region.ready md ops listed,n≤j) :
 ∀ (f:Nat) (listed:Array Bool) (a:Act),HeadInv md ops n listed →
  (∀ j oj,ops[j]?=some oj→j≠i→listed.getD j true=false→(∀ e∈oj.after,Region.binds md e=true→e.on≠i)→oi.apart ops oj=true) →
  i∈Region.ready md ops listed→YieldsIn P ops C oi v a →
  anyHead P md ops C n L f (listed.setIfInBounds i true) (a.put oi.dst v)→anyHead P md ops C n L (f+1) listed a:=by
 intro f
 induction f with
 | zero =>
  intro listed a inv _ hr hy H
  have hun:=(mem_ready.1 hr).1
  refine ⟨fun h=>(by rw [h] at hr;cases hr),fun j hj=>?_⟩
  have hjn:j<n:=by
   rcases Nat.lt_or_ge j n with h | h
   ·exact h
   exact absurd hj (tail_waits hs hc hn inv _ i rfl hin hun j h)
  refine ⟨hjn,?_⟩
  by_cases hji:j=i
  ·subst hji;exact hy.qOp hi H
  ·have:=hdone _ _ H j (ready_mono hj hji)
   omega
 | succ f ih =>
  intro listed a inv hfree hr hy H
  have hun:=(mem_ready.1 hr).1
  refine ⟨fun h=>(by rw [h] at hr;cases hr),fun j hj=>?_⟩
  have hjn:j<n:=by
   rcases Nat.lt_or_ge j n with h | h
   ·exact h
   exact absurd hj (tail_waits hs hc hn inv _ i rfl hin hun j h)
  refine ⟨hjn,?_⟩
  by_cases hji:j=i
  ·subst hji;exact hy.qOp hi H
  have h1:=(H.2 j (ready_mono hj hji)).2
  obtain ⟨hjun,oj,hoj,hall⟩:=mem_ready.1 hj
  have hnot:∀ e∈oj.after,Region.binds md e=true→e.on≠i:=fun e he hb heq=>by
   have h1:=hall e he hb
   have h0:=hun
   rw [heq] at h1
   rcases Nat.lt_or_ge i listed.size with h' | h'
   ·simp [h'] at h0 h1;rw [h0] at h1;cases h1
   simp [Array.getElem?_eq_none h'] at h1
  have h2:=qOp_put hoj (hfree j oj hoj hji hjun hnot) (fun cs b=>hsel i oi cs b hi) (fun cs b=>hsel j oj cs b hoj) hy h1
  have hfree':∀ k ok,ops[k]?=some ok→k≠i→(listed.setIfInBounds j true).getD k true=false →
   (∀ e∈ok.after,Region.binds md e=true→e.on≠i)→oi.apart ops ok=true:=fun k ok hk hki hun hno=>by
   refine hfree k ok hk hki ?_ hno
   by_cases hjk:j=k
   ·subst hjk;exact hjun
   rw [getD_set_ne true hjk] at hun;exact hun
  refine qOp_mono (fun a' h3=>ih (listed.setIfInBounds j true) a' (inv.set hj hjn) hfree' (ready_mono hr (Ne.symm hji)) h3.1 ?_) h2
  rw [Array.setIfInBounds_comm _ _ hji]
  exact h3.2
theorem head_lex {n g:Nat} {Lq:Act→Prop} (hsel:Region.noSelect ops=true) (hs:Region.sinkB md ops n=true) (hc:Region.chainB md ops n=true) (hn:n<ops.size) :
 ∀ (l:List Oper) (k:Nat) (listed:Array Bool) (a:Act),(∀ j,j<l.length→l[j]?=ops[k+j]?)→k+l.length=n→HeadInv md ops n listed →
 Region.lexHead md ops g l.length k listed=true→wpQuiet P ops C Lq l a →
 anyHead P md ops C n (fun listed' a'=>Region.seqB md ops g n listed'=true∧Lq a') l.length listed a
 | [],k,listed,a,_,hk,_,hB,h=>by
  have:k=n:=by simpa using hk
  subst this
  exact ⟨by simpa [Region.lexHead] using hB,h⟩
 | o::l,k,listed,a,hl,hk,inv,hB,h=>by
  have h0:ops[k]?=some o:=by simpa using (hl 0 (by simp)).symm
  simp only [List.length_cons,Region.lexHead,Bool.and_eq_true] at hB
  obtain ⟨⟨hr,hf⟩,hB'⟩:=hB
  have hkn:k<n:=by simp only [List.length_cons] at hk;omega
  have hr':k∈Region.ready md ops listed:=by simpa using hr
  have hst:qOp P ops C k (wpQuiet P ops C Lq l) a:=by unfold qOp;simp only [h0];exact h
  obtain ⟨v,hy,hK⟩:=yieldsIn_of_qOp h0 hst
  exact head_first h0 (Region.noSelect_spec hsel) hs hc hn hkn (fun listed' a' hL=>seqB_ready hL.1) l.length listed a inv (Region.free_spec h0 hf) hr' hy
   (head_lex hsel hs hc hn l (k+1) _ _ (fun j hj=>by have:=hl (j+1) (by simp;omega);simpa [Nat.add_assoc,Nat.add_comm 1 j] using this) (by simp only [List.length_cons] at hk;omega) (inv.set hr' hkn) hB' hK)
theorem wp_region_qtail {id:Nat} {Q:Exit→Act→World→Prop} {a:Act} {w:World} {l:List Oper} (n:Nat) (hm:P.follows .mixedOrders=true) (hB:Region.lexTailB .any l.toArray n=true) (hC:C { w with drawn:=w.drawn+1 })
 (h:wpQuiet P l.toArray C (fun a'=>∀ w',C w'→wpList P l.toArray Q (l.drop n) a' w') (l.take n) a):(Code.region id l.toArray true).wp P Q a w:=by
 simp only [Region.lexTailB,Bool.and_eq_true,decide_eq_true_eq] at hB
 obtain ⟨⟨⟨⟨hsel,hn⟩,hs⟩,hc⟩,hlex⟩:=hB
 have hn':n<l.length:=by simpa using hn
 have htl:(l.take n).length=n:=by simp;omega
 have hdl:(l.drop n).length=l.toArray.size-n:=by simp
 have inv0:HeadInv .any l.toArray n (Array.replicate l.toArray.size false) :=
  ⟨by simp,fun j oj _ hl=>(by rw [getD_replicate_false] at hl;cases hl),fun t _ ht=>getD_in (by simpa using ht) (getD_replicate_false _ _)⟩
 have H:=head_lex (md:=.any) (g:=l.toArray.size-n) hsel hs hc hn (l.take n) 0 _ a (fun j hj=>by
  have hj':j<n:=by rw [htl] at hj;exact hj
  simp [hj']) (by simpa using htl) inv0 (by rw [htl];exact hlex) h
 refine wp_region_any hm ?_
 have:=any_of_head (Q':=Q) (g:=l.toArray.size-n) (fun listed a' w' hw' hL=>by
  have:=wpAny_of_seq (md:=.any) (Q':=Q) (l.drop n) n listed a' w' (fun j=>by simp [List.getElem?_drop]) (by rw [hdl];exact hL.1) (hL.2 w' hw')
  rwa [hdl] at this) _ _ _ _ hC H
 rw [htl,show n+(l.toArray.size-n)=l.toArray.size by omega] at this
 exact this
theorem wp_region_qtail_lit {id:Nat} {Q:Exit→Act→World→Prop} {a:Act} {w:World} {l:List Oper} (n:Nat) (hm:P.follows .mixedOrders=true) (hB:Region.lexTailB .any l.toArray n=true)
 (h:wpQuiet P l.toArray (fun w'=>∃ n,w'=w.drewN n) (fun a'=>∀ w',(∃ n,w'=w.drewN n)→wpList P l.toArray Q (l.drop n) a' w') (l.take n) a):(Code.region id l.toArray true).wp P Q a w :=
 wp_region_qtail n hm hB ⟨1,rfl⟩ h
end
section
variable {P : Program} {C : World → Prop} {o : Oper} {a : Act} {K : Act → Prop}
end
end Go.Proofs.YtffehfpbdcokbaaGreat.QTail
namespace Go.Proofs.YtffehfpbdcokbaaGreat
open Lib (hid)
open Go.RowKit Rng
structure DecAt (w:World) (T b rb:Nat) (d:Dec):Prop where
 h:∃ A c,Pts w b #[.slice A d.rest.length c,.int .u32 d.size,.int .u32 d.code,.bool d.want] T∧BRow w w.heap.size A d.rest∧BOff (· ≠ rb) A d.rest∧d.rest.length≤c∧c≤maxLen
 f:d.Fits
 n:rb≠b
theorem BOff.of_ne {A:Option Addr} {bs:List UInt8} {rb b:Nat} (h:BOff (· ≠ rb) A bs) (hn:rb≠b):BOff (· = b) A bs:=fun h0 ad e hk=>h h0 ad e (fun e2=>hn (e2.symm.trans hk))
set_option maxRecDepth 100000 in
set_option maxHeartbeats 1000000 in
theorem dorder_p (b rb:Nat) (d:Dec) (w:World) (hd:DecAt w 265 b rb d) :
 Calls Tryz.prog 159 #[.pointer (some ⟨b,0,none⟩)] w fun e w'=>e=.returned (.tuple #[])∧DecAt w' 265 b rb d.order∧Frm (· = b) w w':=by
 obtain ⟨⟨A,c,hp,hr,hoff0,hc,hcm⟩,hf,hrb⟩:=hd
 have hoff:=hoff0.of_ne hrb
 obtain ⟨rest,s,k,wt⟩:=d
 obtain ⟨hs,hk⟩:=hf
 simp only at *
 have c0:w.cell? ⟨b,0,none⟩=some (.slice A rest.length c):=by rw [hp.cell];rfl
 have c1:w.cell? ⟨b,1,none⟩=some (.int .u32 s):=by rw [hp.cell];rfl
 have c2:w.cell? ⟨b,2,none⟩=some (.int .u32 k):=by rw [hp.cell];rfl
 have c3:w.cell? ⟨b,3,none⟩=some (.bool wt):=by rw [hp.cell];rfl
 have f0:=hp.frozen 0
 have f1:=hp.frozen 1
 have f2:=hp.frozen 2
 have f3:=hp.frozen 3
 have HP:=hid hp
 have HR:=hid hr
 have HO:=hid hoff
 have HN0:=hid hoff0
 have HRB:=hid hrb
 have HS:=hid hs
 have HK:=hid hk
 have hs':(s:Int)<4294967296:=by omega
 have hk':(k:Int)<4294967296:=by omega
 clear hp hr hoff hs hk hoff0 hrb
 by_cases h1:16777216≤s
 ·have H1:=hid h1
  have h1':(16777216:Int)≤s:=by omega
  clear h1
  go_enter Tryz.func159,Tryz.ntmps159
  go_wp2
  refine bodyPost_ret (results_none rfl _ _ _) rfl ?_
  have e:Dec.order ⟨rest,s,k,wt⟩=⟨rest,s,k,wt⟩:=if_pos H1.out
  rw [e]
  exact ⟨rfl,⟨⟨A,c,HP.out,HR.out,HN0.out,hc,hcm⟩,⟨HS.out,HK.out⟩,HRB.out⟩,Frm.refl _ _⟩
 have hd:decide ((16777216:Int)≤s)=false:=by simp;omega
 obtain ⟨s2,hs2⟩:∃ s2:Nat,s*256=s2:=⟨_,rfl⟩
 obtain ⟨k2,hk2⟩:∃ k2:Nat,k*256 % 4294967296=k2:=⟨_,rfl⟩
 have hw1:IntKind.u32.wrap ((s:Int)*256)=(s2:Int):=by rw [IntKind.wrap_u32'];omega
 have hw2:IntKind.u32.wrap ((k:Int)*256)=(k2:Int):=by rw [IntKind.wrap_u32'];omega
 have H1:=hid h1
 have HS2:=hid hs2
 have HK2:=hid hk2
 clear h1 hs' hk' hs2 hk2
 cases rest with
 | nil =>
  go_enter Tryz.func159,Tryz.ntmps159
  go_wp2
  refine bodyPost_ret (results_none rfl _ _ _) rfl ?_
  have e:Dec.order ⟨[],s,k,wt⟩=⟨[],s2,k2,true⟩:=by rw [← HS2.out,← HK2.out];exact if_neg H1.out
  have hfit:Dec.Fits ⟨[],s2,k2,true⟩:=by rw [← e];exact (show Dec.Fits ⟨[],s,k,wt⟩ from ⟨HS.out,HK.out⟩).order
  rw [e]
  exact ⟨rfl,⟨⟨A,c,((HP.out.set 1 _).set 2 _).set 3 _,BRow.nil _ _ _,fun h=>absurd h (by simp),hc,hcm⟩,hfit,HRB.out⟩,(((Frm.refl (· = b) w).setCell (by rfl) _).setCell (by rfl) _).setCell (by rfl) _⟩
 | cons x r =>
  obtain ⟨ab,aoff,rfl,hab,hcell⟩:=HR.out (by simp)
  have hne:ab≠b:=HO.out (by simp) _ rfl
  have x0:w.cell? ⟨ab,aoff,none⟩=some (.int .u8 (x.toNat:Int)):=by have h:=hcell 0 (by simp);simpa [byteV] using h
  have hx8:=x.toNat_lt
  have hor:bits .or .u32 (k2:Int) (x.toNat:Int)=((k2+x.toNat:Nat):Int):=or_raw (by have:=HK2.out;omega) (by have:=HK2.out;omega) hx8
  obtain ⟨k3,hk3⟩:∃ k3,k2+x.toNat=k3:=⟨_,rfl⟩
  rw [hk3] at hor
  have HK3:=hid hk3
  obtain ⟨A2,hA2⟩:∃ A2:Option Addr,(if c=1 then some ⟨ab,aoff,none⟩ else (some (⟨ab,aoff,none⟩:Addr)).map (·.add 1))=A2:=⟨_,rfl⟩
  have hrow2:BRow w w.heap.size A2 r:=by
   have h:=HR.out.drop (k:=1) (cap:=c) hc
   rw [hA2] at h
   exact h
  have hneN:¬ (ab≠rb):=HN0.out (by simp) _ rfl
  have hoff2:BOff (· ≠ rb) A2 r:=by
   intro h0 ad e
   rw [← hA2] at e
   split at e <;> (simp [Addr.add] at e;rw [← e];exact hneN)
  have hc1:r.length≤c-1∧c-1≤maxLen:=by simp at hc;omega
  have HA2:=hid hA2
  have HR2:=hid hrow2
  have HO2:=hid hoff2
  have HC1:=hid hc1
  have hwx:IntKind.u32.wrap (x.toNat:Int)=(x.toNat:Int):=by rw [IntKind.wrap_u32'];omega
  generalize hxx:x.toNat=xn at *
  clear hcell hk3 hA2 hrow2 hx8 hoff2 hc1 hneN
  have hcc:c=1∨¬ c=1:=by omega
  rcases hcc with hcc | hcc
  all_goals
   go_enter Tryz.func159,Tryz.ntmps159
   go_wp2
   have P2:=(HP.out.set 1 (.int .u32 s2)).set 2 (.int .u32 k2)
   have F2:=((Frm.refl (· = b) w).setCell (p:=⟨b,1,none⟩) (by rfl) (.int .u32 s2)).setCell (p:=⟨b,2,none⟩) (by rfl) (.int .u32 k2)
   have hsz:((w.setCell ⟨b,1,none⟩ (.int .u32 s2)).setCell ⟨b,2,none⟩ (.int .u32 k2)).heap.size=w.heap.size:=by simp
   have x2:((w.setCell ⟨b,1,none⟩ (.int .u32 s2)).setCell ⟨b,2,none⟩ (.int .u32 k2)).cell? ⟨ab,aoff,none⟩=some (.int .u8 (xn:Int)):=by
    rw [World.cell?_of_block (F2.block ab hab hne)];exact x0
   generalize (w.setCell ⟨b,1,none⟩ (.int .u32 s2)).setCell ⟨b,2,none⟩ (.int .u32 k2)=w2 at *
   have d0:w2.cell? ⟨b,0,none⟩=some (.slice (some ⟨ab,aoff,none⟩) (r.length+1) c):=by rw [P2.cell];rfl
   have d2:w2.cell? ⟨b,2,none⟩=some (.int .u32 k2):=by rw [P2.cell];rfl
   have g0:=P2.frozen 0
   have g2:=P2.frozen 2
   have PP2:=hid P2
   have FF2:=hid F2
   clear P2 F2 c0 c1 c2 c3 f0 f1 f2 f3 x0
   go_still_tail 14,(by kernel_rfl)
   change wpList _ _ _ _ _ w2.drew
   go_wp2
   go_end0
   have e:Dec.order ⟨x::r,s,k,wt⟩=⟨r,s2,k3,wt⟩:=by rw [← HS2.out,← HK3.out,← HK2.out,← hxx];exact if_neg H1.out
   have hfit:Dec.Fits ⟨r,s2,k3,wt⟩:=by rw [← e];exact (show Dec.Fits ⟨x::r,s,k,wt⟩ from ⟨HS.out,HK.out⟩).order
   rw [e]
   have h2:=HA2.out
   first
    | (rw [if_pos hcc] at h2)
    | rw [if_neg hcc,Option.map_some,Opn.add_at] at h2
   subst h2
   have F4:=fun v=>((FF2.out.setCell (p:=⟨b,2,none⟩) (by rfl) (.int .u32 k3)).setCell (p:=⟨b,0,none⟩) (by rfl) v).drew
   refine ⟨rfl,⟨⟨_,_,((PP2.out.set 2 (.int .u32 k3)).set 0 _).drew,?_,HO2.out,by have:=HC1.out;simp only;omega,by have:=HC1.out;omega⟩,hfit,HRB.out⟩,F4 _⟩
   exact (HR2.out.off (HO2.out.of_ne HRB.out) (F4 _)).more (F4 _).size
set_option maxRecDepth 100000 in
set_option maxHeartbeats 1000000 in
theorem dorder_r (b rb:Nat) (d:Dec) (w:World) (hd:DecAt w 268 b rb d) :
 Calls Tryz.prog 167 #[.pointer (some ⟨b,0,none⟩)] w fun e w'=>e=.returned (.tuple #[])∧DecAt w' 268 b rb d.order∧Frm (· = b) w w':=by
 obtain ⟨⟨A,c,hp,hr,hoff0,hc,hcm⟩,hf,hrb⟩:=hd
 have hoff:=hoff0.of_ne hrb
 obtain ⟨rest,s,k,wt⟩:=d
 obtain ⟨hs,hk⟩:=hf
 simp only at *
 have c0:w.cell? ⟨b,0,none⟩=some (.slice A rest.length c):=by rw [hp.cell];rfl
 have c1:w.cell? ⟨b,1,none⟩=some (.int .u32 s):=by rw [hp.cell];rfl
 have c2:w.cell? ⟨b,2,none⟩=some (.int .u32 k):=by rw [hp.cell];rfl
 have c3:w.cell? ⟨b,3,none⟩=some (.bool wt):=by rw [hp.cell];rfl
 have f0:=hp.frozen 0
 have f1:=hp.frozen 1
 have f2:=hp.frozen 2
 have f3:=hp.frozen 3
 have HP:=hid hp
 have HR:=hid hr
 have HO:=hid hoff
 have HN0:=hid hoff0
 have HRB:=hid hrb
 have HS:=hid hs
 have HK:=hid hk
 have hs':(s:Int)<4294967296:=by omega
 have hk':(k:Int)<4294967296:=by omega
 clear hp hr hoff hs hk hoff0 hrb
 by_cases h1:16777216≤s
 ·have H1:=hid h1
  have h1':(16777216:Int)≤s:=by omega
  clear h1
  go_enter Tryz.func167,Tryz.ntmps167
  go_wp2
  refine bodyPost_ret (results_none rfl _ _ _) rfl ?_
  have e:Dec.order ⟨rest,s,k,wt⟩=⟨rest,s,k,wt⟩:=if_pos H1.out
  rw [e]
  exact ⟨rfl,⟨⟨A,c,HP.out,HR.out,HN0.out,hc,hcm⟩,⟨HS.out,HK.out⟩,HRB.out⟩,Frm.refl _ _⟩
 have hd:decide ((16777216:Int)≤s)=false:=by simp;omega
 obtain ⟨s2,hs2⟩:∃ s2:Nat,s*256=s2:=⟨_,rfl⟩
 obtain ⟨k2,hk2⟩:∃ k2:Nat,k*256 % 4294967296=k2:=⟨_,rfl⟩
 have hw1:IntKind.u32.wrap ((s:Int)*256)=(s2:Int):=by rw [IntKind.wrap_u32'];omega
 have hw2:IntKind.u32.wrap ((k:Int)*256)=(k2:Int):=by rw [IntKind.wrap_u32'];omega
 have H1:=hid h1
 have HS2:=hid hs2
 have HK2:=hid hk2
 clear h1 hs' hk' hs2 hk2
 cases rest with
 | nil =>
  go_enter Tryz.func167,Tryz.ntmps167
  go_wp2
  refine bodyPost_ret (results_none rfl _ _ _) rfl ?_
  have e:Dec.order ⟨[],s,k,wt⟩=⟨[],s2,k2,true⟩:=by rw [← HS2.out,← HK2.out];exact if_neg H1.out
  have hfit:Dec.Fits ⟨[],s2,k2,true⟩:=by rw [← e];exact (show Dec.Fits ⟨[],s,k,wt⟩ from ⟨HS.out,HK.out⟩).order
  rw [e]
  exact ⟨rfl,⟨⟨A,c,((HP.out.set 1 _).set 2 _).set 3 _,BRow.nil _ _ _,fun h=>absurd h (by simp),hc,hcm⟩,hfit,HRB.out⟩,(((Frm.refl (· = b) w).setCell (by rfl) _).setCell (by rfl) _).setCell (by rfl) _⟩
 | cons x r =>
  obtain ⟨ab,aoff,rfl,hab,hcell⟩:=HR.out (by simp)
  have hne:ab≠b:=HO.out (by simp) _ rfl
  have x0:w.cell? ⟨ab,aoff,none⟩=some (.int .u8 (x.toNat:Int)):=by have h:=hcell 0 (by simp);simpa [byteV] using h
  have hx8:=x.toNat_lt
  have hor:bits .or .u32 (k2:Int) (x.toNat:Int)=((k2+x.toNat:Nat):Int):=or_raw (by have:=HK2.out;omega) (by have:=HK2.out;omega) hx8
  obtain ⟨k3,hk3⟩:∃ k3,k2+x.toNat=k3:=⟨_,rfl⟩
  rw [hk3] at hor
  have HK3:=hid hk3
  obtain ⟨A2,hA2⟩:∃ A2:Option Addr,(if c=1 then some ⟨ab,aoff,none⟩ else (some (⟨ab,aoff,none⟩:Addr)).map (·.add 1))=A2:=⟨_,rfl⟩
  have hrow2:BRow w w.heap.size A2 r:=by
   have h:=HR.out.drop (k:=1) (cap:=c) hc
   rw [hA2] at h
   exact h
  have hneN:¬ (ab≠rb):=HN0.out (by simp) _ rfl
  have hoff2:BOff (· ≠ rb) A2 r:=by
   intro h0 ad e
   rw [← hA2] at e
   split at e <;> (simp [Addr.add] at e;rw [← e];exact hneN)
  have hc1:r.length≤c-1∧c-1≤maxLen:=by simp at hc;omega
  have HA2:=hid hA2
  have HR2:=hid hrow2
  have HO2:=hid hoff2
  have HC1:=hid hc1
  have hwx:IntKind.u32.wrap (x.toNat:Int)=(x.toNat:Int):=by rw [IntKind.wrap_u32'];omega
  generalize hxx:x.toNat=xn at *
  clear hcell hk3 hA2 hrow2 hx8 hoff2 hc1 hneN
  have hcc:c=1∨¬ c=1:=by omega
  rcases hcc with hcc | hcc
  all_goals
   go_enter Tryz.func167,Tryz.ntmps167
   go_wp2
   have P2:=(HP.out.set 1 (.int .u32 s2)).set 2 (.int .u32 k2)
   have F2:=((Frm.refl (· = b) w).setCell (p:=⟨b,1,none⟩) (by rfl) (.int .u32 s2)).setCell (p:=⟨b,2,none⟩) (by rfl) (.int .u32 k2)
   have hsz:((w.setCell ⟨b,1,none⟩ (.int .u32 s2)).setCell ⟨b,2,none⟩ (.int .u32 k2)).heap.size=w.heap.size:=by simp
   have x2:((w.setCell ⟨b,1,none⟩ (.int .u32 s2)).setCell ⟨b,2,none⟩ (.int .u32 k2)).cell? ⟨ab,aoff,none⟩=some (.int .u8 (xn:Int)):=by
    rw [World.cell?_of_block (F2.block ab hab hne)];exact x0
   generalize (w.setCell ⟨b,1,none⟩ (.int .u32 s2)).setCell ⟨b,2,none⟩ (.int .u32 k2)=w2 at *
   have d0:w2.cell? ⟨b,0,none⟩=some (.slice (some ⟨ab,aoff,none⟩) (r.length+1) c):=by rw [P2.cell];rfl
   have d2:w2.cell? ⟨b,2,none⟩=some (.int .u32 k2):=by rw [P2.cell];rfl
   have g0:=P2.frozen 0
   have g2:=P2.frozen 2
   have PP2:=hid P2
   have FF2:=hid F2
   clear P2 F2 c0 c1 c2 c3 f0 f1 f2 f3 x0
   go_still_tail 15,(by kernel_rfl)
   change wpList _ _ _ _ _ w2.drew
   go_wp2
   go_end0
   have e:Dec.order ⟨x::r,s,k,wt⟩=⟨r,s2,k3,wt⟩:=by rw [← HS2.out,← HK3.out,← HK2.out,← hxx];exact if_neg H1.out
   have hfit:Dec.Fits ⟨r,s2,k3,wt⟩:=by rw [← e];exact (show Dec.Fits ⟨x::r,s,k,wt⟩ from ⟨HS.out,HK.out⟩).order
   rw [e]
   have h2:=HA2.out
   first
    | (rw [if_pos hcc] at h2)
    | rw [if_neg hcc,Option.map_some,Opn.add_at] at h2
   subst h2
   have F4:=fun v=>((FF2.out.setCell (p:=⟨b,2,none⟩) (by rfl) (.int .u32 k3)).setCell (p:=⟨b,0,none⟩) (by rfl) v).drew
   refine ⟨rfl,⟨⟨_,_,((PP2.out.set 2 (.int .u32 k3)).set 0 _).drew,?_,HO2.out,by have:=HC1.out;simp only;omega,by have:=HC1.out;omega⟩,hfit,HRB.out⟩,F4 _⟩
   exact (HR2.out.off (HO2.out.of_ne HRB.out) (F4 _)).more (F4 _).size
open Go.RowKit Rng
theorem ret_num {k:IntKind} {x y:Int} (h:x=y):Ending.returned (.int k x)=Ending.returned (.int k y):=by rw [h]
theorem min2_num {P:Program} (k:IntKind) (ts:Array TypeId) (t:TypeId) (x y n:Int) (h:min x y=n) (w:World):(Builtin.min_ ts t #[.int k x,.int k y]).run P w=.ok (.int k n) w:=by
 have e:(if y<x then y else x)=n:=by split <;> omega
 rw [← e]
 simp [Builtin.min_,Builtin.min2]
theorem max2_num {P:Program} (k:IntKind) (ts:Array TypeId) (t:TypeId) (x y n:Int) (h:max x y=n) (w:World):(Builtin.max_ ts t #[.int k x,.int k y]).run P w=.ok (.int k n) w:=by
 have e:(if x<y then y else x)=n:=by split <;> omega
 rw [← e]
 simp [Builtin.max_,Builtin.max2]
theorem BRow.setU16 {w:World} {B:Nat} {A:Option Addr} {bs:List UInt8} {p:Addr} {z:Int} (h:BRow w B A bs) (hp:w.cell? p=some (.int .u16 z)) (v:Value):BRow (w.setCell p v) B A bs:=by
 intro h0
 obtain ⟨b,off,rfl,hb,hc⟩:=h h0
 refine ⟨b,off,rfl,hb,fun k hk=>?_⟩
 rw [World.cell?_setCell_other]
 ·exact hc k hk
 intro e
 rw [e,hc k hk] at hp
 simp [byteV] at hp
theorem Frm.setBoth {N:Nat→Prop} {w w':World} {p:Addr} (h:Frm N w w') (hp:¬ N p.block) (hl:p.block<w.heap.size) (v:Value):Frm N (w.setCell p v) (w'.setCell p v):=by
 refine ⟨h.os,h.tape,h.output,?_,fun i hi hn=>?_⟩
 ·show (w.heap.modify _ _).size≤(w'.heap.modify _ _).size
  simp only [Array.size_modify];exact h.size
 have hi':i<w.heap.size:=by
  have:(w.setCell p v).heap.size=w.heap.size:=by show (w.heap.modify _ _).size=_;simp only [Array.size_modify]
  omega
 by_cases e:i=p.block
 ·subst e
  show (w'.heap.modify _ _)[p.block]?=(w.heap.modify _ _)[p.block]?
  simp only [Array.getElem?_modify,if_true]
  rw [h.block _ hl hp]
 show (w'.heap.modify _ _)[i]?=(w.heap.modify _ _)[i]?
 simp only [Array.getElem?_modify]
 rw [if_neg (fun h=>e h.symm),if_neg (fun h=>e h.symm),h.block i hi' hn]
theorem bit_lt {d:Dec} {c:Nat} (h:d.order.code<d.order.size / 2048*c):d.bit c=(false,⟨d.order.rest,d.order.size / 2048*c,d.order.code,d.order.want⟩):=by unfold Dec.bit;simp only;rw [if_pos h]
theorem bit_ge {d:Dec} {c:Nat} (h:¬ d.order.code<d.order.size / 2048*c):d.bit c=(true,⟨d.order.rest,d.order.size-d.order.size / 2048*c,d.order.code-d.order.size / 2048*c,d.order.want⟩):=by unfold Dec.bit;simp only;rw [if_neg h]
theorem DecAt.frm {N:Nat→Prop} {w w':World} {T b rb:Nat} {d:Dec} (h:DecAt w T b rb d) (hf:Frm N w w') (hb:¬ N b) (hr:¬ N rb):DecAt w' T b rb d:=by
 obtain ⟨⟨A,c,hp,hrow,ho,hc,hm⟩,hfit,hn⟩:=h
 refine ⟨⟨A,c,hp.frm hf hb,?_,ho,hc,hm⟩,hfit,hn⟩
 intro h0
 obtain ⟨ab,off,rfl,hab,hcell⟩:=hrow h0
 have hNab:¬ N ab:=by
  have h9:=ho h0 _ rfl
  have e:ab=rb:=Decidable.byContradiction h9
  rw [e];exact hr
 exact ⟨ab,off,rfl,Nat.lt_of_lt_of_le hab hf.size,fun k hk=>(World.cell?_of_block (w:=w) (hf.block ab hab hNab)).trans (hcell k hk)⟩
theorem DecAt.store {w w1 w2:World} {T b rb pb po cp s k:Nat} {A:Option Addr} {rest:List UInt8} {wt:Bool} {z:Int} (hpt2:Pts w2 b #[.slice A rest.length cp,.int .u32 s,.int .u32 k,.bool wt] T) (hf12:Frm (· = b) w1 w2) (hf:Frm (· = b) w w1)
 (hrow:BRow w1 w1.heap.size A rest) (hoff0:BOff (· ≠ rb) A rest) (hrb:rb≠b) (hp:w.cell? ⟨pb,po,none⟩=some (.int .u16 z)) (hne:pb≠b) (hfit:Dec.Fits ⟨rest,s,k,wt⟩) (hcp:rest.length≤cp∧cp≤maxLen) (v:Value) :
 DecAt (w2.setCell ⟨pb,po,none⟩ v) T b rb ⟨rest,s,k,wt⟩∧Frm (· = b) (w.setCell ⟨pb,po,none⟩ v) (w2.setCell ⟨pb,po,none⟩ v):=by
 have hoff:=hoff0.of_ne hrb
 have hlt:=World.block_lt_of_cell? w ⟨pb,po,none⟩ hp
 have hf2:=hf.trans hf12
 have hp2:w2.cell? ⟨pb,po,none⟩=some (.int .u16 z):=by rw [World.cell?_of_block (hf2.block pb hlt hne)];exact hp
 have hsz:(w2.setCell ⟨pb,po,none⟩ v).heap.size=w2.heap.size:=by show (w2.heap.modify _ _).size=_;simp only [Array.size_modify]
 refine ⟨⟨⟨A,cp,hpt2.other (fun e=>hne e.symm) v,?_,hoff0,hcp.1,hcp.2⟩,hfit,hrb⟩,hf2.setBoth hne hlt v⟩
 rw [hsz]
 exact ((hrow.off hoff hf12).more hf12.size).setU16 hp2 v
theorem fair_p (p:Nat) (w:World) (hp:p<65536):Calls Tryz.prog 152 #[.int .u16 p] w fun e w'=>e=.returned (.int .u16 (fair p))∧w=w':=by
 obtain ⟨x,hx⟩:∃ x:Nat,max p 31=x:=⟨_,rfl⟩
 obtain ⟨y,hy⟩:∃ y:Nat,min x 2017=y:=⟨_,rfl⟩
 have f1:=fun w=>max2_num (P:=Tryz.prog) .u16 #[117,117] 117 p 31 x (by omega) w
 have f2:=fun w=>min2_num (P:=Tryz.prog) .u16 #[117,117] 117 x 2017 y (by omega) w
 have hf:fair p=y:=by unfold fair;omega
 rw [hf]
 clear hp hx hy hf
 go_enter Tryz.func152,Tryz.ntmps152
 go_wp2
 go_ret
 exact ⟨rfl,rfl⟩
theorem fair_r (p:Nat) (w:World) (hp:p<65536):Calls Tryz.prog 172 #[.int .u16 p] w fun e w'=>e=.returned (.int .u16 (fair p))∧w=w':=by
 obtain ⟨x,hx⟩:∃ x:Nat,min p 2017=x:=⟨_,rfl⟩
 obtain ⟨y,hy⟩:∃ y:Nat,max 31 x=y:=⟨_,rfl⟩
 have f1:=fun w=>min2_num (P:=Tryz.prog) .u16 #[117,117] 117 p 2017 x (by omega) w
 have f2:=fun w=>max2_num (P:=Tryz.prog) .u16 #[117,117] 117 31 x y (by omega) w
 have hf:fair p=y:=by unfold fair;omega
 rw [hf]
 clear hp hx hy hf
 go_enter Tryz.func172,Tryz.ntmps172
 go_wp2
 go_ret
 exact ⟨rfl,rfl⟩
theorem learn_p (c:Nat) (bit:Int) (one:Bool) (w:World) (hc:c≤2017) (hb:one=decide (bit≠0)):Calls Tryz.prog 153 #[.int .u16 c,.int .i64 bit] w fun e w'=>e=.returned (.int .u16 (learn c one))∧w=w':=by
 have h1:IntKind.u16.wrap (2048-(c:Int))=((2048-c:Nat):Int):=by rw [Go.IntWalk.u16_in _ (by omega)];omega
 have h2:IntKind.u16.wrap ((c:Int)+((2048-c) / 32:Nat))=((c+(2048-c) / 32:Nat):Int):=by rw [Go.IntWalk.u16_in _ (by omega)];omega
 have h3:IntKind.u16.wrap ((c:Int)-(c / 32:Nat))=((c-c / 32:Nat):Int):=by rw [Go.IntWalk.u16_in _ (by omega)];omega
 by_cases h:bit=0
 ·subst h
  obtain rfl:one=false:=by rw [hb];rfl
  have e:learn c false=c+(2048-c) / 32:=rfl
  rw [e]
  go_enter Tryz.func153,Tryz.ntmps153
  go_wp2
  go_ret
  exact ⟨rfl,rfl⟩
 obtain rfl:one=true:=by rw [hb];simpa using h
 have e:learn c true=c-c / 32:=rfl
 rw [e]
 go_enter Tryz.func153,Tryz.ntmps153
 go_wp2
 go_ret
 exact ⟨ret_num (by omega),rfl⟩
theorem learn_r (c:Nat) (bit:Int) (one:Bool) (w:World) (hc:c≤2017) (hb:one=decide (bit≠0)):Calls Tryz.prog 173 #[.int .u16 c,.int .i64 bit] w fun e w'=>e=.returned (.int .u16 (learn c one))∧w=w':=by
 have h1:IntKind.u16.wrap (2048-(c:Int))=((2048-c:Nat):Int):=by rw [Go.IntWalk.u16_in _ (by omega)];omega
 have h2:IntKind.u16.wrap ((c:Int)+((2048-c) / 32:Nat))=((c+(2048-c) / 32:Nat):Int):=by rw [Go.IntWalk.u16_in _ (by omega)];omega
 have h3:IntKind.u16.wrap ((c:Int)-(c / 32:Nat))=((c-c / 32:Nat):Int):=by rw [Go.IntWalk.u16_in _ (by omega)];omega
 by_cases h:bit=0
 ·subst h
  obtain rfl:one=false:=by rw [hb];rfl
  have e:learn c false=c+(2048-c) / 32:=rfl
  rw [e]
  go_enter Tryz.func173,Tryz.ntmps173
  go_wp2
  go_ret
  exact ⟨rfl,rfl⟩
 obtain rfl:one=true:=by rw [hb];simpa using h
 have e:learn c true=c-c / 32:=rfl
 rw [e]
 go_enter Tryz.func173,Tryz.ntmps173
 go_wp2
 go_ret
 exact ⟨ret_num (by omega),rfl⟩
set_option maxRecDepth 100000 in
set_option maxHeartbeats 1000000 in
theorem dbit_p (b rb pb po pv:Nat) (d:Dec) (w:World) (hd:DecAt w 265 b rb d) (hp:w.cell? ⟨pb,po,none⟩=some (.int .u16 pv)) (hfz:w.frozen? ⟨pb,po,none⟩=false) (hne:pb≠b) (hpv:pv<65536) :
 Calls Tryz.prog 170 #[.pointer (some ⟨b,0,none⟩),.pointer (some ⟨pb,po,none⟩)] w fun e w'=>e=.returned (.int .i64 (bitV (d.bit (fair pv)).1))∧DecAt w' 265 b rb (d.bit (fair pv)).2 ∧
  Frm (· = b) (w.setCell ⟨pb,po,none⟩ (.int .u16 (learn (fair pv) (d.bit (fair pv)).1))) w':=by
 have HD:=hid hd
 have hfb:=fair_bd pv
 obtain ⟨c,hcd⟩:∃ c,fair pv=c:=⟨_,rfl⟩
 rw [hcd] at hfb
 have HPV:=hid hpv
 have HC:=hid hcd
 rw [hcd]
 clear hd hpv hcd
 go_enter Tryz.func170,Tryz.ntmps170
 go_wp2_with fail
 refine (fair_p pv _ HPV.out).mono ?_;rintro e w1 ⟨rfl,rfl⟩
 rw [HC.out]
 go_wp2_with fail
 refine (dorder_p b rb d _ HD.out).mono ?_;rintro e w1 ⟨rfl,hd1,hf1⟩
 have hfit:=(HD.out.f.bit (c:=c) (by omega))
 have hblt:d.order.code<d.order.size / 2048*c∨¬ d.order.code<d.order.size / 2048*c:=by omega
 have hbe:=hblt.imp (fun h=>And.intro h (bit_lt h)) (fun h=>And.intro h (bit_ge h))
 have hlt:=World.block_lt_of_cell? w ⟨pb,po,none⟩ hp
 have hp1:w1.cell? ⟨pb,po,none⟩=some (.int .u16 pv):=by rw [World.cell?_of_block (hf1.block pb hlt hne)];exact hp
 have hfz1:w1.frozen? ⟨pb,po,none⟩=false:=by rw [World.frozen?_of_block (hf1.block pb hlt hne)];exact hfz
 obtain ⟨⟨A,cp,hpt,hrow,hoff,hcp,hcm⟩,⟨hs,hk⟩,hrb⟩:=hd1
 have hbl:=bound_le d.order.size c hfb.2
 obtain ⟨o,ho⟩:∃ o,d.order=o:=⟨_,rfl⟩
 rw [ho] at hblt hbe hpt hrow hoff hcp hs hk hbl
 obtain ⟨rest,s,k,wt⟩:=o
 simp only at hblt hbe hpt hrow hoff hcp hs hk hbl
 obtain ⟨q,hq⟩:∃ q:Nat,s / 2048=q:=⟨_,rfl⟩
 obtain ⟨bd,hbd⟩:∃ bd:Nat,q*c=bd:=⟨_,rfl⟩
 rw [hq,hbd] at hblt hbe hbl
 have hq1:(s:Int) / 2048=(q:Int):=by omega
 have hm1:IntKind.u32.wrap ((q:Int)*(c:Int))=(bd:Int):=by
  have e:(q:Int)*(c:Int)=(bd:Int):=by rw [← hbd];simp
  rw [e,Go.IntWalk.u32_in _ (by omega)]
 have hwc:IntKind.u32.wrap (c:Int)=(c:Int):=by rw [Go.IntWalk.u32_in _ (by omega)]
 have hwq:IntKind.u32.wrap (q:Int)=(q:Int):=by rw [Go.IntWalk.u32_in _ (by omega)]
 have hm2:IntKind.u32.wrap ((s:Int)-bd)=((s-bd:Nat):Int):=by rw [Go.IntWalk.u32_in _ (by omega)];omega
 have d1:w1.cell? ⟨b,1,none⟩=some (.int .u32 s):=by rw [hpt.cell];rfl
 have d2:w1.cell? ⟨b,2,none⟩=some (.int .u32 k):=by rw [hpt.cell];rfl
 have g1:=hpt.frozen 1
 have g2:=hpt.frozen 2
 have HP1:=hid hpt
 have HROW:=hid hrow
 have HOFF:=hid hoff
 have HRB:=hid hrb
 have HF1:=hid hf1
 have HCP:=hid (And.intro hcp hcm)
 have HFIT:=hid hfit
 have HLT:=hid hlt
 have hc17:=hfb.2
 clear hpt hrow hoff hf1 hcp hcm hfit hq hbd hfb hs hlt ho hrb
 obtain ⟨s3,hs3⟩:∃ s3:Nat,s-bd=s3:=⟨_,rfl⟩
 rw [hs3] at hm2 hbe
 have hk3:¬ k<bd→IntKind.u32.wrap ((k:Int)-bd)=((k-bd:Nat):Int):=fun h=>by rw [Go.IntWalk.u32_in _ (by omega)];omega
 obtain ⟨k3,hk3e⟩:∃ k3:Nat,k-bd=k3:=⟨_,rfl⟩
 rw [hk3e] at hk3 hbe
 rcases hbe with ⟨h1,hbe⟩ | ⟨h1,hbe⟩
 ·have hcc:(k:Int)<(bd:Int):=by omega
  rw [hbe] at HFIT
  have HBE:=hid hbe
  clear hbe hk3 hk3e hblt h1 hk hbl hs3 hm2
  go_wp2_with fail
  refine (learn_p c 0 false _ (by omega) rfl).mono ?_;rintro e w2 ⟨rfl,rfl⟩
  go_wp2
  go_ret
  have h9:=DecAt.store (HP1.out.set 1 (.int .u32 bd)) ((Frm.refl (· = b) w1).setCell (p:=⟨b,1,none⟩) (by rfl) (.int .u32 bd)) HF1.out HROW.out HOFF.out HRB.out hp hne HFIT.out HCP.out (.int .u16 (learn c false))
  rw [HBE.out]
  exact ⟨rfl,h9.1,h9.2⟩
 have hcc:¬ ((k:Int)<(bd:Int)):=by omega
 have hw3:=hk3 h1
 rw [hbe] at HFIT
 have HBE:=hid hbe
 clear hbe hk3 hk3e hblt h1 hk hbl hs3
 go_wp2_with fail
 refine (learn_p c 1 true _ (by omega) rfl).mono ?_;rintro e w2 ⟨rfl,rfl⟩
 go_wp2
 go_ret
 have h9:=DecAt.store ((HP1.out.set 1 (.int .u32 s3)).set 2 (.int .u32 k3)) (((Frm.refl (· = b) w1).setCell (p:=⟨b,1,none⟩) (by rfl) (.int .u32 s3)).setCell (p:=⟨b,2,none⟩) (by rfl) (.int .u32 k3)) HF1.out HROW.out HOFF.out HRB.out hp hne HFIT.out HCP.out (.int .u16 (learn c true))
 rw [HBE.out]
 exact ⟨rfl,h9.1,h9.2⟩
set_option maxRecDepth 100000 in
set_option maxHeartbeats 1000000 in
theorem dbit_r (b rb pb po pv:Nat) (d:Dec) (w:World) (hd:DecAt w 268 b rb d) (hp:w.cell? ⟨pb,po,none⟩=some (.int .u16 pv)) (hfz:w.frozen? ⟨pb,po,none⟩=false) (hne:pb≠b) (hpv:pv<65536) :
 Calls Tryz.prog 160 #[.pointer (some ⟨b,0,none⟩),.pointer (some ⟨pb,po,none⟩)] w fun e w'=>e=.returned (.int .i64 (bitV (d.bit (fair pv)).1))∧DecAt w' 268 b rb (d.bit (fair pv)).2 ∧
  Frm (· = b) (w.setCell ⟨pb,po,none⟩ (.int .u16 (learn (fair pv) (d.bit (fair pv)).1))) w':=by
 have HD:=hid hd
 have hfb:=fair_bd pv
 obtain ⟨c,hcd⟩:∃ c,fair pv=c:=⟨_,rfl⟩
 rw [hcd] at hfb
 have HPV:=hid hpv
 have HC:=hid hcd
 rw [hcd]
 clear hd hpv hcd
 go_enter Tryz.func160,Tryz.ntmps160
 go_wp2_with fail
 refine (fair_r pv _ HPV.out).mono ?_;rintro e w1 ⟨rfl,rfl⟩
 rw [HC.out]
 go_wp2_with fail
 refine (dorder_r b rb d _ HD.out).mono ?_;rintro e w1 ⟨rfl,hd1,hf1⟩
 have hfit:=(HD.out.f.bit (c:=c) (by omega))
 have hblt:d.order.code<d.order.size / 2048*c∨¬ d.order.code<d.order.size / 2048*c:=by omega
 have hbe:=hblt.imp (fun h=>And.intro h (bit_lt h)) (fun h=>And.intro h (bit_ge h))
 have hlt:=World.block_lt_of_cell? w ⟨pb,po,none⟩ hp
 have hp1:w1.cell? ⟨pb,po,none⟩=some (.int .u16 pv):=by rw [World.cell?_of_block (hf1.block pb hlt hne)];exact hp
 have hfz1:w1.frozen? ⟨pb,po,none⟩=false:=by rw [World.frozen?_of_block (hf1.block pb hlt hne)];exact hfz
 obtain ⟨⟨A,cp,hpt,hrow,hoff,hcp,hcm⟩,⟨hs,hk⟩,hrb⟩:=hd1
 have hbl:=bound_le d.order.size c hfb.2
 obtain ⟨o,ho⟩:∃ o,d.order=o:=⟨_,rfl⟩
 rw [ho] at hblt hbe hpt hrow hoff hcp hs hk hbl
 obtain ⟨rest,s,k,wt⟩:=o
 simp only at hblt hbe hpt hrow hoff hcp hs hk hbl
 obtain ⟨q,hq⟩:∃ q:Nat,s / 2048=q:=⟨_,rfl⟩
 obtain ⟨bd,hbd⟩:∃ bd:Nat,q*c=bd:=⟨_,rfl⟩
 rw [hq,hbd] at hblt hbe hbl
 have hq1:(s:Int) / 2048=(q:Int):=by omega
 have hm1:IntKind.u32.wrap ((q:Int)*(c:Int))=(bd:Int):=by
  have e:(q:Int)*(c:Int)=(bd:Int):=by rw [← hbd];simp
  rw [e,Go.IntWalk.u32_in _ (by omega)]
 have hwc:IntKind.u32.wrap (c:Int)=(c:Int):=by rw [Go.IntWalk.u32_in _ (by omega)]
 have hwq:IntKind.u32.wrap (q:Int)=(q:Int):=by rw [Go.IntWalk.u32_in _ (by omega)]
 have hm2:IntKind.u32.wrap ((s:Int)-bd)=((s-bd:Nat):Int):=by rw [Go.IntWalk.u32_in _ (by omega)];omega
 have d1:w1.cell? ⟨b,1,none⟩=some (.int .u32 s):=by rw [hpt.cell];rfl
 have d2:w1.cell? ⟨b,2,none⟩=some (.int .u32 k):=by rw [hpt.cell];rfl
 have g1:=hpt.frozen 1
 have g2:=hpt.frozen 2
 have HP1:=hid hpt
 have HROW:=hid hrow
 have HOFF:=hid hoff
 have HRB:=hid hrb
 have HF1:=hid hf1
 have HCP:=hid (And.intro hcp hcm)
 have HFIT:=hid hfit
 have HLT:=hid hlt
 have hc17:=hfb.2
 clear hpt hrow hoff hf1 hcp hcm hfit hq hbd hfb hs hlt ho hrb
 obtain ⟨s3,hs3⟩:∃ s3:Nat,s-bd=s3:=⟨_,rfl⟩
 rw [hs3] at hm2 hbe
 have hk3:¬ k<bd→IntKind.u32.wrap ((k:Int)-bd)=((k-bd:Nat):Int):=fun h=>by rw [Go.IntWalk.u32_in _ (by omega)];omega
 obtain ⟨k3,hk3e⟩:∃ k3:Nat,k-bd=k3:=⟨_,rfl⟩
 rw [hk3e] at hk3 hbe
 rcases hbe with ⟨h1,hbe⟩ | ⟨h1,hbe⟩
 ·have hcc:(k:Int)<(bd:Int):=by omega
  rw [hbe] at HFIT
  have HBE:=hid hbe
  clear hbe hk3 hk3e hblt h1 hk hbl hs3 hm2
  go_wp2_with fail
  refine (learn_r c 0 false _ (by omega) rfl).mono ?_;rintro e w2 ⟨rfl,rfl⟩
  go_wp2
  go_ret
  have h9:=DecAt.store (HP1.out.set 1 (.int .u32 bd)) ((Frm.refl (· = b) w1).setCell (p:=⟨b,1,none⟩) (by rfl) (.int .u32 bd)) HF1.out HROW.out HOFF.out HRB.out hp hne HFIT.out HCP.out (.int .u16 (learn c false))
  rw [HBE.out]
  exact ⟨rfl,h9.1,h9.2⟩
 have hcc:¬ ((k:Int)<(bd:Int)):=by omega
 have hw3:=hk3 h1
 rw [hbe] at HFIT
 have HBE:=hid hbe
 clear hbe hk3 hk3e hblt h1 hk hbl hs3
 go_wp2_with fail
 refine (learn_r c 1 true _ (by omega) rfl).mono ?_;rintro e w2 ⟨rfl,rfl⟩
 go_wp2
 go_ret
 have h9:=DecAt.store ((HP1.out.set 1 (.int .u32 s3)).set 2 (.int .u32 k3)) (((Frm.refl (· = b) w1).setCell (p:=⟨b,1,none⟩) (by rfl) (.int .u32 s3)).setCell (p:=⟨b,2,none⟩) (by rfl) (.int .u32 k3)) HF1.out HROW.out HOFF.out HRB.out hp hne HFIT.out HCP.out (.int .u16 (learn c true))
 rw [HBE.out]
 exact ⟨rfl,h9.1,h9.2⟩
open Go.RowKit Rng Lz
structure LK where
 sb:Nat
 lb:Nat
 lc:Nat
 lp:Nat
 pb:Nat
def LK.L (k:LK):Nat:=768*2 ^ (k.lc+k.lp)
structure LK.Ok (k:LK):Prop where
 a:k.lc+k.lp≤4
 b:k.pb≤4
def mcell (k:LK) (st:Nat) (rep:Nat→Nat) (pr:Pr) (i:Nat):Value :=
 if i=0 then .int .i64 k.lc else if i=1 then .int .i64 k.lp else if i=2 then .int .i64 k.pb else if i=3 then .int .i64 st else if i<8 then .int .u32 (rep (i-4))
 else if i<1868 then .int .u16 (pr i) else .slice (some ⟨k.lb,0,none⟩) k.L k.L
def mcells (k:LK) (st:Nat) (rep:Nat→Nat) (pr:Pr):Array Value:=Array.ofFn (n:=1869) fun i=>mcell k st rep pr i.val
def lcells (k:LK) (pr:Pr):Array Value:=Array.ofFn (n:=k.L) fun j=>.int .u16 (pr (4096+j.val))
theorem mcells_get (k:LK) (st:Nat) (rep:Nat→Nat) (pr:Pr) {i:Nat} (h:i<1869):(mcells k st rep pr)[i]?=some (mcell k st rep pr i):=by
 unfold mcells
 rw [Array.getElem?_ofFn]
 simp [h]
theorem lcells_get (k:LK) (pr:Pr) {j:Nat} (h:j<k.L):(lcells k pr)[j]?=some (.int .u16 (pr (4096+j))):=by
 unfold lcells
 rw [Array.getElem?_ofFn]
 simp [h]
theorem mcells_set {k:LK} {st st':Nat} {rep rep':Nat→Nat} {pr pr':Pr} {i:Nat} {v:Value} (h:∀ j,j<1869→mcell k st' rep' pr' j=if j=i then v else mcell k st rep pr j) :
 (mcells k st rep pr).setIfInBounds i v=mcells k st' rep' pr':=by
 apply Array.ext
 ·simp [mcells]
 intro j h1 h2
 have hj:j<1869:=by simpa [mcells] using h2
 rw [Array.getElem_setIfInBounds (by simpa [mcells] using hj)]
 have e:=h j hj
 simp only [mcells,Array.getElem_ofFn]
 rw [e]
 by_cases hji:j=i
 ·rw [if_pos hji,if_pos hji.symm]
 rw [if_neg hji,if_neg (fun h=>hji h.symm)]
theorem mcells_pr (k:LK) (st:Nat) (rep:Nat→Nat) (pr:Pr) {i:Nat} (h1:8≤i) (h2:i<1868) (v:Nat):(mcells k st rep pr).setIfInBounds i (.int .u16 (v:Int))=mcells k st rep (upd pr i v):=by
 refine mcells_set fun j hj=>?_
 unfold mcell upd
 by_cases e:j=i
 ·subst e
  rw [if_pos rfl,if_neg (by omega),if_neg (by omega),if_neg (by omega),if_neg (by omega),if_neg (by omega),if_pos h2,if_pos rfl]
 rw [if_neg e]
 simp only [if_neg e]
theorem mcells_st (k:LK) (st st':Nat) (rep:Nat→Nat) (pr:Pr):(mcells k st rep pr).setIfInBounds 3 (.int .i64 (st':Int))=mcells k st' rep pr:=by
 refine mcells_set fun j hj=>?_
 unfold mcell
 by_cases e:j=3
 ·subst e;rfl
 rw [if_neg e]
 simp only [if_neg e]
theorem mcells_rep (k:LK) (st:Nat) (rep:Nat→Nat) (pr:Pr) {i:Nat} (h:i<4) (v:Nat):(mcells k st rep pr).setIfInBounds (4+i) (.int .u32 (v:Int))=mcells k st (fun j=>if j=i then v else rep j) pr:=by
 refine mcells_set fun j hj=>?_
 unfold mcell
 by_cases e:j=4+i
 ·subst e
  rw [if_pos rfl,if_neg (by omega),if_neg (by omega),if_neg (by omega),if_neg (by omega),if_pos (by omega)]
  simp
 rw [if_neg e]
 by_cases h0:j=0
 ·rw [if_pos h0,if_pos h0]
 rw [if_neg h0,if_neg h0]
 by_cases h1:j=1
 ·rw [if_pos h1,if_pos h1]
 rw [if_neg h1,if_neg h1]
 by_cases h2:j=2
 ·rw [if_pos h2,if_pos h2]
 rw [if_neg h2,if_neg h2]
 by_cases h3:j=3
 ·rw [if_pos h3,if_pos h3]
 rw [if_neg h3,if_neg h3]
 by_cases h4:j<8
 ·rw [if_pos h4,if_pos h4]
  have:¬ j-4=i:=by omega
  simp only [if_neg this]
 rw [if_neg h4,if_neg h4]
theorem mcells_up (k:LK) (st:Nat) (rep:Nat→Nat) (pr:Pr) {i:Nat} (h:4096≤i) (v:Nat):mcells k st rep (upd pr i v)=mcells k st rep pr:=by
 unfold mcells
 congr 1
 funext j
 unfold mcell upd
 have:=j.isLt
 have e:¬ j.val=i:=by omega
 simp only [if_neg e]
theorem lcells_up (k:LK) (pr:Pr) {i:Nat} (h:i<4096) (v:Nat):lcells k (upd pr i v)=lcells k pr:=by
 unfold lcells
 congr 1
 funext j
 rw [upd_ne _ _ (by omega)]
theorem lcells_pr (k:LK) (pr:Pr) (j v:Nat):(lcells k pr).setIfInBounds j (.int .u16 (v:Int))=lcells k (upd pr (4096+j) v):=by
 apply Array.ext
 ·simp [lcells]
 intro i h1 h2
 have hi:i<k.L:=by simpa [lcells] using h2
 rw [Array.getElem_setIfInBounds (by simpa [lcells] using hi)]
 simp only [lcells,Array.getElem_ofFn]
 unfold upd
 by_cases e:j=i
 ·subst e;simp
 rw [if_neg e,if_neg (by omega)]
structure LzAt {σ:Type} (CA:World→σ→Prop) (own:Nat→Prop) (T:TypeId) (w:World) (k:LK) (st:Nat) (rep:Nat→Nat) (s:CP σ):Prop where
 c:CA w s.d
 m:Pts w k.sb (mcells k st rep s.pr) T
 l:Pts w k.lb (lcells k s.pr) 117
 fit:∀ i,s.pr i<65536
 ne:¬ own k.sb∧¬ own k.lb∧k.sb≠k.lb
def plA (k:LK) (i:Nat):Nat×Nat:=if i<4096 then (k.sb,i) else (k.lb,i-4096)
def Place (k:LK) (i:Nat):Prop:=(8≤i∧i<1868)∨(4096≤i∧i<4096+k.L)
def Wr (own:Nat→Prop) (k:LK) (q:Nat):Prop:=own q∨q=k.sb∨q=k.lb
section
variable {σ : Type} {CA : World → σ → Prop} {own : Nat → Prop} {T : TypeId} {w w' : World} {k : LK} {st : Nat} {rep : Nat → Nat} {s : CP σ}
theorem LzAt.cell (h:LzAt CA own T w k st rep s) {i tb tq9:Nat} (hp:Place k i) (he:plA k i=(tb,tq9)):w.cell? ⟨tb,tq9,none⟩=some (.int .u16 (s.pr i))∧w.frozen? ⟨tb,tq9,none⟩=false∧¬ own tb∧Wr own k tb∧tb<w.heap.size:=by
 unfold plA at he
 by_cases h4:i<4096
 ·rw [if_pos h4] at he
  injection he with e1 e2
  subst e1;subst e2
  have hi:8≤i∧i<1868:=by rcases hp with h | h <;> omega
  refine ⟨?_,h.m.frozen _,h.ne.1,.inr (.inl rfl),h.m.lt⟩
  rw [h.m.cell,mcells_get _ _ _ _ (by omega)]
  unfold mcell
  rw [if_neg (by omega),if_neg (by omega),if_neg (by omega),if_neg (by omega),if_neg (by omega),if_pos hi.2]
 rw [if_neg h4] at he
 injection he with e1 e2
 subst e1;subst e2
 have hi:4096≤i∧i<4096+k.L:=by rcases hp with h | h <;> omega
 refine ⟨?_,h.l.frozen _,h.ne.2.1,.inr (.inr rfl),h.l.lt⟩
 rw [h.l.cell,lcells_get _ _ (by omega),show 4096+(i-4096)=i by omega]
theorem LzAt.learnt (h:LzAt CA own T w k st rep s) {i tb tq9 v:Nat} {d:σ} (hp:Place k i) (he:plA k i=(tb,tq9)) (hv:v<65536) (hc:CA w' d) (hf:Frm own (w.setCell ⟨tb,tq9,none⟩ (.int .u16 (v:Int))) w') :
 LzAt CA own T w' k st rep ⟨d,upd s.pr i v⟩∧Frm (Wr own k) w w':=by
 have hc0:=h.cell hp he
 have hf2:Frm (Wr own k) w w':=((Frm.refl (Wr own k) w).setCell (p:=⟨tb,tq9,none⟩) hc0.2.2.2.1 (.int .u16 (v:Int))).trans (hf.mono fun q _ hq=>.inl hq)
 have hfit:∀ j,upd s.pr i v j<65536:=by
  intro j
  unfold upd
  split
  ·exact hv
  exact h.fit j
 unfold plA at he
 by_cases h4:i<4096
 ·rw [if_pos h4] at he
  injection he with e1 e2
  subst e1;subst e2
  have hi:8≤i∧i<1868:=by rcases hp with h | h <;> omega
  have hm:=(h.m.set i (.int .u16 (v:Int))).frm hf h.ne.1
  rw [mcells_pr _ _ _ _ hi.1 hi.2] at hm
  have hl:=(h.l.other (p:=⟨k.sb,i,none⟩) (fun e=>h.ne.2.2 e.symm) (.int .u16 (v:Int))).frm hf h.ne.2.1
  rw [← lcells_up k s.pr (i:=i) h4 v] at hl
  exact ⟨⟨hc,hm,hl,hfit,h.ne⟩,hf2⟩
 rw [if_neg h4] at he
 injection he with e1 e2
 subst e1;subst e2
 have hi:4096≤i∧i<4096+k.L:=by rcases hp with h | h <;> omega
 have hl:=(h.l.set (i-4096) (.int .u16 (v:Int))).frm hf h.ne.2.1
 rw [lcells_pr,show 4096+(i-4096)=i by omega] at hl
 have hm:=(h.m.other (p:=⟨k.lb,i-4096,none⟩) h.ne.2.2 (.int .u16 (v:Int))).frm hf h.ne.1
 rw [← mcells_up k st rep s.pr (i:=i) (by omega) v] at hm
 exact ⟨⟨hc,hm,hl,hfit,h.ne⟩,hf2⟩
end
def KeepOK {σ:Type} (CA:World→σ→Prop) (own:Nat→Prop):Prop:=∀ (N:Nat→Prop) (w w':World) (s:σ),CA w s→Frm N w w'→(∀ q,own q→¬ N q)→CA w' s
theorem LzAt.frm {σ:Type} {CA:World→σ→Prop} {own N:Nat→Prop} {T:TypeId} {w w':World} {k:LK} {st:Nat} {rep:Nat→Nat} {s:CP σ} (hk:KeepOK CA own) (h:LzAt CA own T w k st rep s) (hf:Frm N w w') (hN:∀ q,Wr own k q→¬ N q):LzAt CA own T w' k st rep s :=
 ⟨hk N w w' _ h.c hf (fun q hq=>hN q (.inl hq)),h.m.frm hf (hN _ (.inr (.inl rfl))),h.l.frm hf (hN _ (.inr (.inr rfl))),h.fit,h.ne⟩
theorem LzAt.later {σ:Type} {CA:World→σ→Prop} {own:Nat→Prop} {T:TypeId} {w w':World} {k:LK} {st:Nat} {rep:Nat→Nat} {s:CP σ} (hk:KeepOK CA own) (h:LzAt CA own T w k st rep s) (hf:Frm (fun _=>False) w w'):LzAt CA own T w' k st rep s:=h.frm hk hf (fun _ _ h=>h)
def BitOK {σ:Type} (co:Cod σ) (CA:World→σ→Prop) (own:Nat→Prop) (f:FuncId) (cv:Value) (rel:Int→Nat→Prop):Prop :=
 ∀ (w:World) (s:σ) (pb po pv:Nat) (xi:Int) (x:Nat),rel xi x→CA w s→w.cell? ⟨pb,po,none⟩=some (.int .u16 pv)→w.frozen? ⟨pb,po,none⟩=false→¬ own pb→pv<65536 →
  Calls Tryz.prog f #[cv,.pointer (some ⟨pb,po,none⟩),.int .i64 xi] w fun e w'=>e=.returned (.int .i64 (b2n (co.bit s (fair pv) x).1:Nat))∧CA w' (co.bit s (fair pv) x).2 ∧
   Frm own (w.setCell ⟨pb,po,none⟩ (.int .u16 (learn (fair pv) (co.bit s (fair pv) x).1))) w'
theorem lz_bit {σ:Type} {co:Cod σ} {CA:World→σ→Prop} {own:Nat→Prop} {T:TypeId} {f:FuncId} {cv:Value} {rel:Int→Nat→Prop} (hb:BitOK co CA own f cv rel) {w:World} {k:LK} {st:Nat} {rep:Nat→Nat} {s:CP σ} (h:LzAt CA own T w k st rep s)
 (i tb tq9:Nat) (x:Nat) (xi:Int) (hr:rel xi x) (hp:Place k i) (he:plA k i=(tb,tq9)) :
 Calls Tryz.prog f #[cv,.pointer (some ⟨tb,tq9,none⟩),.int .i64 xi] w fun e w'=>e=.returned (.int .i64 ((bitAt co i x s).1:Nat))∧LzAt CA own T w' k st rep (bitAt co i x s).2∧Frm (Wr own k) w w':=by
 have hc:=h.cell hp he
 refine (hb w s.d tb tq9 (s.pr i) xi x hr h.c hc.1 hc.2.1 hc.2.2.1 (h.fit i)).mono ?_
 rintro e w' ⟨rfl,h1,h2⟩
 have hl:=h.learnt hp he (Nat.lt_of_le_of_lt (learn_bd (fair_bd (s.pr i)).2 _) (by omega)) h1 h2
 exact ⟨rfl,hl.1,hl.2⟩
theorem bitAt_le {σ:Type} (co:Cod σ) (i x:Nat) (s:CP σ):(bitAt co i x s).1≤1:=by
 unfold bitAt b2n;simp only;split <;> omega
open Go.RowKit Rng Lz
theorem nil_out (v : Value) (w : World) : (nilAhead 409 244 v "Bit").run Tryz.prog w = .ok (some false) w := by kernel_rfl
theorem meth_bit (v : Value) (w : World) : (method 409 244 v "Bit").run Tryz.prog w = .ok (155, v) w := by kernel_rfl
theorem meth_dir (v : Value) (w : World) : (method 409 244 v "Direct").run Tryz.prog w = .ok (200, v) w := by kernel_rfl
def DC (db rb:Nat) (w:World) (d:Dec):Prop:=DecAt w 265 db rb d∨(rb=db∧d.rest=[]∧∃ r,DecAt w 265 db r d)
def DO (db rb:Nat) (q:Nat):Prop:=q=db∨q=rb
def outV (db:Nat):Value:=.agg #[.pointer (some ⟨db,0,none⟩)]
theorem DC.pts {db rb:Nat} {w:World} {d:Dec} (h:DC db rb w d):∃ c,Pts w db c 265:=by
 rcases h with h | ⟨_,_,r,h⟩
 all_goals
  obtain ⟨⟨A,c,hp,_⟩,_,_⟩:=h
  exact ⟨_,hp⟩
theorem DC.dec {db rb:Nat} {w:World} {d:Dec} (h:DC db rb w d):∃ r,DecAt w 265 db r d∧∀ (w':World) (d':Dec),(d.rest=[]→d'.rest=[])→DecAt w' 265 db r d'→DC db rb w' d':=by
 rcases h with h | ⟨rfl,h0,r,h⟩
 ·exact ⟨rb,h,fun w' d' _ h'=>.inl h'⟩
 exact ⟨r,h,fun w' d' hr h'=>.inr ⟨rfl,hr h0,r,h'⟩⟩
theorem DC.keep (db rb:Nat):KeepOK (DC db rb) (DO db rb):=by
 intro N w w' s h hf hN
 rcases h with h | ⟨rfl,h0,r,h⟩
 ·exact .inl (DecAt.frm h hf (hN db (.inl rfl)) (hN rb (.inr rfl)))
 obtain ⟨⟨A,c,hp,hrow,ho,hc,hm⟩,hfit,hn⟩:=h
 refine .inr ⟨rfl,h0,r,⟨A,c,hp.frm hf (hN rb (.inl rfl)),?_,ho,hc,hm⟩,hfit,hn⟩
 rw [h0]
 exact BRow.nil _ _ _
theorem Dec.order_nil {d:Dec} (h:d.rest=[]):d.order.rest=[]:=by
 unfold Dec.order
 split
 ·exact h
 rw [h]
theorem Dec.bit_nil {d:Dec} (c:Nat) (h:d.rest=[]):(d.bit c).2.rest=[]:=by
 unfold Dec.bit
 simp only
 split <;> exact Dec.order_nil h
theorem Dec.one_nil {d:Dec} (h:d.rest=[]):d.one.2.rest=[]:=by
 unfold Dec.one
 simp only
 split <;> exact Dec.order_nil h
theorem Dec.direct_nil:∀ (n x:Nat) {d:Dec},d.rest=[]→(d.direct n x).2.rest=[]
 | 0,_,_,h=>h
 | n+1,x,d,h=>Dec.direct_nil n _ (Dec.one_nil h)
theorem obit_any (db rb:Nat):BitOK outC (DC db rb) (DO db rb) 155 (outV db) (fun _ _=>True):=by
 intro w s pb po pv xi x _ hd0 hc hfz ho hpv
 obtain ⟨r,hd,hback⟩:=hd0.dec
 have hlt:=World.block_lt_of_cell? w ⟨pb,po,none⟩ hc
 have HD:=hid hd
 have HO:=hid ho
 have HC:=hid hc
 have HF:=hid hfz
 have HBK:=hid hback
 clear hd ho hc hfz hback hd0
 unfold outV
 go_enter Tryz.func155,Tryz.ntmps155
 go_wp2_with fail
 obtain ⟨X,hX⟩:∃ X,Obj.cells #[.pointer (some ⟨db,0,none⟩)] 244=X:=⟨_,rfl⟩
 rw [hX]
 have hfr:=(Frm.refl (fun _=>False) w).alloc X
 have hb:=hfr.block pb hlt id
 refine (dbit_p db r pb po pv s (w.alloc X) (DecAt.frm HD.out hfr id id) (by rw [World.cell?_of_block hb];exact HC.out) (by rw [World.frozen?_of_block hb];exact HF.out) (fun e=>HO.out (.inl e)) hpv).mono ?_
 rintro e w1 ⟨rfl,h1,h2⟩
 have H1:=hid h1
 have H2:=hid h2
 clear h1 h2 hX hfr hb
 go_wp2
 go_ret
 refine ⟨?_,HBK.out _ _ (fun h=>Dec.bit_nil _ h) H1.out,(((Frm.refl (DO db rb) w).alloc X).setBoth HO.out hlt _).trans (H2.out.mono fun q _ hq=>.inl hq)⟩
 show Ending.returned (.int .i64 (bitV _))=_
 unfold bitV b2n outC
 simp only
 split <;> rfl
theorem ret_int' {k:IntKind} {a b:Int} (h:a=b):Ending.returned (.int k a)=.returned (.int k b):=by rw [h]
theorem or_i64 {a b:Nat} (ha:a<4611686018427387904) (hb:b<4611686018427387904):bits .or .i64 (a:Int) (b:Int)=((a ||| b:Nat):Int):=by
 have hx:a ||| b<2 ^ 62:=Nat.or_lt_two_pow (by omega) (by omega)
 show IntKind.i64.wrap ((BitVec.ofInt 64 (a:Int) ||| BitVec.ofInt 64 (b:Int)).toNat:Int)=_
 rw [BitVec.toNat_or,ofInt_u64 a (by omega),ofInt_u64 b (by omega)]
 exact Go.IntWalk.i64_in _ (by omega)
theorem and_i64 {a b:Nat} (ha:a<4611686018427387904) (hb:b<4611686018427387904):bits .and .i64 (a:Int) (b:Int)=((a &&& b:Nat):Int):=by
 have hx:a &&& b<2 ^ 62:=Nat.and_lt_two_pow _ (by omega)
 show IntKind.i64.wrap ((BitVec.ofInt 64 (a:Int) &&& BitVec.ofInt 64 (b:Int)).toNat:Int)=_
 rw [BitVec.toNat_and,ofInt_u64 a (by omega),ofInt_u64 b (by omega)]
 exact Go.IntWalk.i64_in _ (by omega)
theorem or_bit {m b:Nat} (hm:m<1000000) (hb:b≤1):bits .or .i64 ((m:Int)*2) (b:Int)=((2*m+b:Nat):Int):=by
 have h:=or_i64 (a:=m*2) (b:=b) (by omega) (by omega)
 have e:(m*2) ||| b=2*m+b:=by rw [nat_join1 _ _ (by omega) (by omega)];omega
 rw [e] at h
 rw [← h]
 congr 1
set_option maxRecDepth 100000 in
set_option maxHeartbeats 1000000 in
theorem tree_p (db rb:Nat) (T:TypeId) (k:LK) (st:Nat) (rep:Nat→Nat) (s:CP Dec) (tb tq9 base n len cap:Nat) (x:Int) (w:World) (h:LzAt (DC db rb) (DO db rb) T w k st rep s) (hn:n≤8) (hlen:2 ^ n≤len) (hlc:len≤cap)
 (hpl:∀ j,1≤j→j<2 ^ n→Place k (base+j)∧plA k (base+j)=(tb,tq9+j)) :
 Calls Tryz.prog 134 #[.slice (some ⟨tb,tq9,none⟩) len cap,.iface 244 (outV db),.int .i64 x,.int .i64 n] w fun e w'=>e=.returned (.int .i64 ((treeAt outC base n 0 s).1:Nat)) ∧
  LzAt (DC db rb) (DO db rb) T w' k st rep (treeAt outC base n 0 s).2∧Frm (Wr (DO db rb) k) w w':=by
 obtain ⟨R,hR⟩:∃ R,treeGo outC base 0 n 1 s=R:=⟨_,rfl⟩
 unfold treeAt
 rw [hR]
 have HZ:=hid h
 have HR:=hid hR
 have HPL:=hid hpl
 clear h hR hpl
 go_enter Tryz.func134,Tryz.ntmps134
 go_wp2
 go_loopw [9,10] (fun mv iv wr=>∃ (r m:Nat) (i:Int) (s':CP Dec),mv=.int .i64 m∧iv=.int .i64 i∧i=(r:Int)-1∧r≤n∧2 ^ (n-r)≤m∧m<2 ^ (n-r+1)∧treeGo outC base 0 r m s'=R∧LzAt (DC db rb) (DO db rb) T wr k st rep s'∧Frm (Wr (DO db rb) k) w wr) (fun _ iv _=>(intOf iv+1).toNat)
 case atStart=>exact ⟨n,1,(n:Int)-1,s,rfl,by go_num,rfl,Nat.le_refl _,by simp,by simp,HR.out,HZ.out,Frm.refl _ _⟩
 case round =>
 obtain ⟨r,m,i,s',rfl,rfl,hi,hr,hm1,hm2,hgo,hat,hfr⟩:=hrel
 have GO:=hid hgo
 have AT:=hid hat
 have FR:=hid hfr
 clear hgo hat hfr
 cases r with
 | zero =>
  obtain rfl:i = -1:=by omega
  clear hi
  have hn256:2 ^ n≤2 ^ 8:=Nat.pow_le_pow_right (by omega) hn
  have hmn:2 ^ n≤m:=by simpa using hm1
  have hmm:m<2 ^ n*2:=by rw [← Nat.pow_succ];simpa using hm2
  obtain ⟨N2,hN2⟩:∃ N2:Nat,2 ^ n=N2:=⟨_,rfl⟩
  have hN3:(2:Int) ^ n=(N2:Int):=by rw [← hN2];simp
  rw [hN2] at hmn hmm hn256
  have GO2:(m,s')=R:=GO.out
  clear hm1 hm2
  go_wp2
  go_ret
  rw [hN2,← GO2]
  refine ⟨ret_int' ?_,AT.out,FR.out⟩
  show (m:Int)-(N2:Int)=((m-N2:Nat):Int)
  omega
 | succ q =>
  obtain rfl:i=(q:Int):=by omega
  clear hi
  have hpow:m<2 ^ n:=Nat.lt_of_lt_of_le hm2 (Nat.pow_le_pow_right (by omega) (by omega))
  have hml:m<len:=by omega
  have hm256:2 ^ n≤2 ^ 8:=Nat.pow_le_pow_right (by omega) hn
  have hmb:m<256:=by omega
  have hpos:1≤m:=Nat.le_trans (Nat.one_le_two_pow) hm1
  have HP:=hid (HPL.out m hpos hpow)
  have HM1:=hid hm1
  have HM2:=hid hm2
  clear hm1 hm2 hpow hm256 hlen
  go_wp2
  have hno:=nil_out (outV db)
  have hme:=meth_bit (outV db)
  have ATD:=hid (AT.out.later (DC.keep db rb) ((Frm.refl _ wr).drew))
  have hbl:=bitAt_le outC (base+m) 0 s'
  obtain ⟨bb,hbb⟩:∃ bb,(bitAt outC (base+m) 0 s').1=bb:=⟨_,rfl⟩
  rw [hbb] at hbl
  have hob:=or_bit (m:=m) (b:=bb) (by omega) hbl
  have HBB:=hid hbb
  have hmw:IntKind.i64.wrap ((m:Int)*2)=(m:Int)*2:=Go.IntWalk.i64_in _ (by omega)
  clear hbb
  go_region_with (first
   | (go_at_call 155;refine (lz_bit (obit_any db rb) ATD.out (base+m) tb (tq9+m) 0 _ trivial HP.out.1 HP.out.2).mono ?_;rintro e w2 ⟨rfl,h2,f2⟩;rw [HBB.out]))
  have H2:=hid h2
  have F2:=hid ((FR.out.drew).trans f2)
  clear h2 f2
  go_wp2
  refine ⟨⟨q,2*m+bb,(q:Int)-1,_,rfl,by go_num,rfl,by omega,?_,?_,?_,H2.out,F2.out⟩,by simp [intOf]⟩
  ·have:=HM1.out
   rw [show n-q=n-(q+1)+1 by omega,Nat.pow_succ];omega
  ·have:=HM2.out
   rw [show n-q+1=n-(q+1)+1+1 by omega,Nat.pow_succ];omega
  rw [← GO.out]
  show _=treeGo outC base 0 q (2*m+(bitAt outC (base+m) (0 / 2 ^ q % 2) s').1) (bitAt outC (base+m) (0 / 2 ^ q % 2) s').2
  rw [Nat.zero_div,Nat.zero_mod,HBB.out]
open Go.RowKit Rng Lz
theorem or_hi_lz {o b c C2:Nat} (hC:2 ^ c=C2) (ho:o<C2) (hc:C2≤256) (hb:b≤1):bits .or .i64 (o:Int) (wrap64 ((b:Int)*(C2:Int)))=((o+b*C2:Nat):Int):=by
 have hy:b*C2≤256:=by
  have h:b=0∨b=1:=by omega
  rcases h with rfl | rfl <;> omega
 have e1:wrap64 ((b:Int)*(C2:Int))=((b*C2:Nat):Int):=by
  have e:(b:Int)*(C2:Int)=((b*C2:Nat):Int):=by simp
  rw [e]
  unfold wrap64
  omega
 rw [e1,or_i64 (by omega) (by omega),Nat.or_comm]
 have h3:=Nat.shiftLeft_add_eq_or_of_lt (a:=b) (b:=o) (i:=c) (by rw [hC];exact ho)
 rw [Nat.shiftLeft_eq,hC] at h3
 rw [← h3,Nat.add_comm]
set_option maxRecDepth 100000 in
set_option maxHeartbeats 1000000 in
theorem back_p (db rb:Nat) (T:TypeId) (k:LK) (st:Nat) (rep:Nat→Nat) (s:CP Dec) (tb tq9 base n len cap:Nat) (x:Int) (w:World) (h:LzAt (DC db rb) (DO db rb) T w k st rep s) (hn:n≤8) (hlen:2 ^ n≤len) (hlc:len≤cap)
 (hpl:∀ j,1≤j→j<2 ^ n→Place k (base+j)∧plA k (base+j)=(tb,tq9+j)) :
 Calls Tryz.prog 136 #[.slice (some ⟨tb,tq9,none⟩) len cap,.iface 244 (outV db),.int .i64 x,.int .i64 n] w fun e w'=>e=.returned (.int .i64 ((backAt outC base n 0 s).1:Nat)) ∧
  LzAt (DC db rb) (DO db rb) T w' k st rep (backAt outC base n 0 s).2∧Frm (Wr (DO db rb) k) w w':=by
 obtain ⟨R,hR⟩:∃ R,backGo outC base 0 n n 1 0 s=R:=⟨_,rfl⟩
 unfold backAt
 rw [hR]
 have HZ:=hid h
 have HR:=hid hR
 have HPL:=hid hpl
 clear h hR hpl
 go_enter Tryz.func136,Tryz.ntmps136
 go_wp2
 go_loopw [8,9,13] (fun ov mv cv wr=>∃ (r m o c:Nat) (s':CP Dec),ov=.int .i64 o∧mv=.int .i64 m∧cv=.int .i64 c∧c+r=n∧2 ^ c≤m∧m<2 ^ (c+1)∧o<2 ^ c∧backGo outC base 0 n r m o s'=R∧LzAt (DC db rb) (DO db rb) T wr k st rep s'∧Frm (Wr (DO db rb) k) w wr) (fun _ _ cv _=>n-(intOf cv).toNat)
 case atStart=>exact ⟨n,1,0,0,s,rfl,rfl,rfl,by omega,by simp,by simp,by simp,HR.out,HZ.out,Frm.refl _ _⟩
 case round =>
 obtain ⟨r,m,o,c,s',rfl,rfl,rfl,hcr,hm1,hm2,ho,hgo,hat,hfr⟩:=hrel
 have GO:=hid hgo
 have AT:=hid hat
 have FR:=hid hfr
 clear hgo hat hfr
 cases r with
 | zero =>
  obtain rfl:c=n:=by omega
  have GO2:(o,s')=R:=GO.out
  clear hcr hm1 hm2 ho
  go_wp2
  go_ret
  rw [← GO2]
  exact ⟨rfl,AT.out,FR.out⟩
 | succ q =>
  have hcn:c<n:=by omega
  have hpow:m<2 ^ n:=Nat.lt_of_lt_of_le hm2 (Nat.pow_le_pow_right (by omega) (by omega))
  have hml:m<len:=by omega
  have hm256:2 ^ n≤2 ^ 8:=Nat.pow_le_pow_right (by omega) hn
  have hmb:m<256:=by omega
  have hpos:1≤m:=Nat.le_trans (Nat.one_le_two_pow) hm1
  have hob:o<256:=by have:2 ^ c≤2 ^ n:=Nat.pow_le_pow_right (by omega) (by omega);omega
  have HP:=hid (HPL.out m hpos hpow)
  have HM1:=hid hm1
  have HM2:=hid hm2
  have HO:=hid ho
  have hc2:2 ^ c≤2 ^ 8:=Nat.pow_le_pow_right (by omega) (by omega)
  obtain ⟨C2,hC2⟩:∃ C2:Nat,2 ^ c=C2:=⟨_,rfl⟩
  have hC3:(2:Int) ^ c=(C2:Int):=by rw [← hC2];simp
  have HC2:=hid hC2
  rw [hC2] at hc2
  have hno:=nil_out (outV db)
  have hme:=meth_bit (outV db)
  have ATD:=hid (AT.out.later (DC.keep db rb) ((Frm.refl _ wr).drew))
  have hbl:=bitAt_le outC (base+m) 0 s'
  obtain ⟨bb,hbb⟩:∃ bb,(bitAt outC (base+m) 0 s').1=bb:=⟨_,rfl⟩
  rw [hbb] at hbl
  have hob:=or_bit (m:=m) (b:=bb) (by omega) hbl
  have HBB:=hid hbb
  have hmw:IntKind.i64.wrap ((m:Int)*2)=(m:Int)*2:=Go.IntWalk.i64_in _ (by omega)
  clear hm1 hm2 hpow hm256 hlen ho hbb hC2
  go_wp2
  go_region_with (first
   | (go_at_call 155;refine (lz_bit (obit_any db rb) ATD.out (base+m) tb (tq9+m) 0 _ trivial HP.out.1 HP.out.2).mono ?_;rintro e w2 ⟨rfl,h2,f2⟩;rw [HBB.out]))
  have H2:=hid h2
  have F2:=hid ((FR.out.drew).trans f2)
  clear h2 f2
  go_wp2
  have ho9:=HO.out
  rw [HC2.out] at ho9
  have hv:=or_hi_lz HC2.out ho9 hc2 hbl
  refine ⟨⟨q,2*m+bb,o+bb*C2,c+1,_,by rw [hv],by go_num,by go_num,by omega,?_,?_,?_,?_,H2.out,F2.out⟩,by simp [intOf];omega⟩
  ·have:=HM1.out
   rw [Nat.pow_succ];omega
  ·have:=HM2.out
   rw [Nat.pow_succ];omega
  ·have h1:bb*C2≤C2:=by
    have h:bb=0∨bb=1:=by omega
    rcases h with rfl | rfl <;> omega
   rw [Nat.pow_succ,HC2.out];omega
  rw [← GO.out]
  have e:n-(q+1)=c:=by omega
  show _=backGo outC base 0 n q (2*m+(bitAt outC (base+m) (0 / 2 ^ (n-(q+1)) % 2) s').1) (o+(bitAt outC (base+m) (0 / 2 ^ (n-(q+1)) % 2) s').1*2 ^ (n-(q+1))) (bitAt outC (base+m) (0 / 2 ^ (n-(q+1)) % 2) s').2
  rw [Nat.zero_div,Nat.zero_mod,HBB.out,e,HC2.out]
open Go.RowKit Rng Lz
theorem plm (k:LK) {i:Nat} (h1:8≤i) (h2:i<1868):Place k i∧plA k i=(k.sb,i):=⟨.inl ⟨h1,h2⟩,by unfold plA;rw [if_pos (by omega)]⟩
theorem pll (k:LK) {j:Nat} (h:j<k.L):Place k (4096+j)∧plA k (4096+j)=(k.lb,j):=⟨.inr ⟨by omega,by omega⟩,by unfold plA;rw [if_neg (show ¬ 4096+j<4096 by omega),Nat.add_sub_cancel_left]⟩
theorem treeGo_lt {σ:Type} (co:Cod σ) (base x:Nat):∀ (n m:Nat) (s:CP σ),(treeGo co base x n m s).1<2 ^ n*(m+1)
 | 0,m,s=>by show m<2 ^ 0*(m+1);omega
 | n+1,m,s=>by
  have h:=treeGo_lt co base x n (2*m+(bitAt co (base+m) (x / 2 ^ n % 2) s).1) (bitAt co (base+m) (x / 2 ^ n % 2) s).2
  have hb:=bitAt_le co (base+m) (x / 2 ^ n % 2) s
  show (treeGo co base x n _ _).1<_
  refine Nat.lt_of_lt_of_le h ?_
  rw [Nat.pow_succ,Nat.mul_assoc]
  exact Nat.mul_le_mul_left _ (by omega)
theorem treeAt_lt {σ:Type} (co:Cod σ) (base n x:Nat) (s:CP σ) (hn:n≤8):(treeAt co base n x s).1<256:=by
 have h:=treeGo_lt co base x n 1 s
 have h2:2 ^ n≤2 ^ 8:=Nat.pow_le_pow_right (by omega) hn
 unfold treeAt
 simp only
 omega
theorem tree_num (db rb:Nat) (T:TypeId) (k:LK) (st:Nat) (rep:Nat→Nat) (s:CP Dec) (R:Nat×CP Dec) (tb tq base n len cap:Nat) (x z:Int) (w:World) (h:LzAt (DC db rb) (DO db rb) T w k st rep s) (hn:n≤8) (hz:z=(n:Int)) (hlen:2 ^ n≤len) (hlc:len≤cap)
 (hpl:∀ j,1≤j→j<2 ^ n→Place k (base+j)∧plA k (base+j)=(tb,tq+j)) (hR:treeAt outC base n 0 s=R) :
 Calls Tryz.prog 134 #[.slice (some ⟨tb,tq,none⟩) len cap,.iface 244 (outV db),.int .i64 x,.int .i64 z] w fun e w'=>e=.returned (.int .i64 (R.1:Nat)) ∧
  LzAt (DC db rb) (DO db rb) T w' k st rep R.2∧Frm (Wr (DO db rb) k) w w':=by
 subst hz;subst hR
 exact tree_p db rb T k st rep s tb tq base n len cap x w h hn hlen hlc hpl
theorem bool01_any (y:Bool) (w:World):Calls Tryz.prog 133 #[.bool y] w fun e w'=>e=.returned (.int .i64 (b2n y:Nat))∧w=w':=by
 cases y
 all_goals
  go_enter Tryz.func133,Tryz.ntmps133
  go_wp2
  go_ret
  exact ⟨rfl,rfl⟩
set_option maxRecDepth 100000 in
set_option maxHeartbeats 1000000 in
theorem lens_p (db rb:Nat) (T:TypeId) (k:LK) (st:Nat) (rep:Nat→Nat) (s:CP Dec) (base p:Nat) (w:World) (h:LzAt (DC db rb) (DO db rb) T w k st rep s) (hb:base=840∨base=1354) (hp:p<16) :
 Calls Tryz.prog 110 #[.pointer (some ⟨k.sb,base,none⟩),.iface 244 (outV db),.int .i64 2,.int .i64 p] w fun e w'=>e=.returned (.int .i64 ((lenAt outC base 2 p s).1:Nat)) ∧
  LzAt (DC db rb) (DO db rb) T w' k st rep (lenAt outC base 2 p s).2∧Frm (Wr (DO db rb) k) w w':=by
 obtain ⟨R,hR⟩:∃ R,lenAt outC base 2 p s=R:=⟨_,rfl⟩
 rw [hR]
 unfold lenAt at hR
 simp only [show b2n (decide (10≤2))=0 by rfl,show b2n (decide (18≤2))=0 by rfl,Nat.sub_self,show 2-10=0 by rfl,show 2-18=0 by rfl] at hR
 have AT:=hid h
 have ATD:=hid (h.later (DC.keep db rb) ((Frm.refl _ w).drew))
 have HB:=hid hb
 have P0:=hid (plm k (i:=base) (by omega) (by omega))
 have P1:=hid (plm k (i:=base+1) (by omega) (by omega))
 have hno:=nil_out (outV db)
 have hme:=meth_bit (outV db)
 have hpi:(p:Int)<16:=by omega
 obtain ⟨⟨a,sa⟩,ha⟩:∃ x,bitAt outC base 0 s=x:=⟨_,rfl⟩
 have hal:a≤1:=by have:=bitAt_le outC base 0 s;rw [ha] at this;exact this
 rw [ha] at hR
 have HA:=hid ha
 have HRR:=hid hR
 clear h hb hR ha
 obtain ⟨T0,hT0⟩:∃ x,base+2+p*8=x:=⟨_,rfl⟩
 obtain ⟨T1,hT1⟩:∃ x,base+130+p*8=x:=⟨_,rfl⟩
 obtain ⟨T2,hT2⟩:∃ x,base+258=x:=⟨_,rfl⟩
 have PL0:=hid (fun (j:Nat) (h1:1≤j) (h2:j<2 ^ 3)=>plm k (i:=T0+j) (by have:=HB.out;omega) (by have:=HB.out;omega))
 have PL1:=hid (fun (j:Nat) (h1:1≤j) (h2:j<2 ^ 3)=>plm k (i:=T1+j) (by have:=HB.out;omega) (by have:=HB.out;omega))
 have PL2:=hid (fun (j:Nat) (h1:1≤j) (h2:j<2 ^ 8)=>plm k (i:=T2+j) (by have:=HB.out;omega) (by have:=HB.out;omega))
 rw [hT0,hT1,hT2] at HRR
 go_enter Tryz.func110,Tryz.ntmps110
 go_upto_region 2 with fail
 go_cut [23] from 11 (fun v wx=>∃ β:Bool,v=.bool β∧(β=true↔a=0)∧LzAt (DC db rb) (DO db rb) T wx k st rep sa∧Frm (Wr (DO db rb) k) w wx)
 case first =>
  go_region_with (first
   | (go_at_call 133;refine (bool01_any _ _).mono ?_;rintro e w2 ⟨rfl,rfl⟩)
   | (go_at_call 155;refine (lz_bit (obit_any db rb) ATD.out base k.sb base 0 _ trivial P0.out.1 P0.out.2).mono ?_;rintro e w2 ⟨rfl,h2,f2⟩;rw [HA.out] at h2 ⊢))
  all_goals
   have H2:=hid h2
   have F2:=hid (((Frm.refl _ w).drew).trans f2)
   clear h2 f2
   go_wp2
   go_meet
   case rel=>exact ⟨_,rfl,by simp,H2.out,F2.out⟩
 case rest =>
 obtain ⟨β,rfl,hβ,h2,f2⟩:=hcut
 have H2:=hid h2
 have F2:=hid f2
 clear h2 f2 AT ATD
 by_cases ha0:a=0
 ·obtain rfl:β=true:=hβ.2 ha0
  have hR:=HRR.out
  rw [if_pos ha0] at hR
  clear hβ ha0 HRR
  go_wp2_with fail
  obtain ⟨⟨u,su⟩,hu⟩:∃ x,treeAt outC T0 3 0 sa=x:=⟨_,rfl⟩
  rw [hu] at hR
  refine (tree_num db rb T k st rep _ _ k.sb T0 T0 3 _ _ _ _ _ H2.out (by omega) rfl (by omega) (Nat.le_refl _) PL0.out hu).mono ?_;rintro e w4 ⟨rfl,h4,f4⟩
  have H4:=hid h4
  have F4:=hid (F2.out.trans f4)
  have hul:u<256:=by have:=treeAt_lt outC T0 3 0 sa (by omega);rw [hu] at this;exact this
  have HRR:=hid hR
  clear h4 f4 hu hR
  go_wp2
  go_ret
  rw [← HRR.out]
  refine ⟨ret_int' ?_,H4.out,F4.out⟩
  show _=((2+u:Nat):Int)
  first | omega | (unfold wrap64;omega)
 obtain rfl:β=false:=by cases β;rfl;exact absurd (hβ.1 rfl) ha0
 have hR:=HRR.out
 rw [if_neg ha0] at hR
 clear hβ ha0 HRR
 obtain ⟨⟨c,sc⟩,hc⟩:∃ x,bitAt outC (base+1) 0 sa=x:=⟨_,rfl⟩
 rw [hc] at hR
 have HC:=hid hc
 have HRR:=hid hR
 have ATD:=hid (H2.out.later (DC.keep db rb) ((Frm.refl _ _).drew))
 clear hc hR
 go_upto_region 4 with fail
 go_cut [46] from 11 (fun v wx=>∃ β:Bool,v=.bool β∧(β=true↔c=0)∧LzAt (DC db rb) (DO db rb) T wx k st rep sc∧Frm (Wr (DO db rb) k) w wx)
 case first =>
  go_region_with (first
   | (go_at_call 133;refine (bool01_any _ _).mono ?_;rintro e w2 ⟨rfl,rfl⟩)
   | (go_at_call 155;refine (lz_bit (obit_any db rb) ATD.out (base+1) k.sb (base+1) 0 _ trivial P1.out.1 P1.out.2).mono ?_;rintro e w2 ⟨rfl,h2,f2⟩;rw [HC.out] at h2 ⊢))
  all_goals
   have H3:=hid h2
   have F3:=hid ((F2.out.drew).trans f2)
   clear h2 f2
   go_wp2
   go_meet
   case rel=>exact ⟨_,rfl,by simp,H3.out,F3.out⟩
 case rest =>
 obtain ⟨β,rfl,hβ,h2,f2⟩:=hcut
 have H3:=hid h2
 have F3:=hid f2
 clear h2 f2 H2 F2 ATD
 by_cases hc0:c=0
 ·obtain rfl:β=true:=hβ.2 hc0
  have hR:=HRR.out
  rw [if_pos hc0] at hR
  clear hβ hc0 HRR
  go_wp2_with fail
  obtain ⟨⟨u,su⟩,hu⟩:∃ x,treeAt outC T1 3 0 sc=x:=⟨_,rfl⟩
  rw [hu] at hR
  refine (tree_num db rb T k st rep _ _ k.sb T1 T1 3 _ _ _ _ _ H3.out (by omega) rfl (by omega) (Nat.le_refl _) PL1.out hu).mono ?_;rintro e w4 ⟨rfl,h4,f4⟩
  have H4:=hid h4
  have F4:=hid (F3.out.trans f4)
  have hul:u<256:=by have:=treeAt_lt outC T1 3 0 sc (by omega);rw [hu] at this;exact this
  have HRR:=hid hR
  clear h4 f4 hu hR
  go_wp2
  go_ret
  rw [← HRR.out]
  refine ⟨ret_int' ?_,H4.out,F4.out⟩
  show _=((10+u:Nat):Int)
  first | omega | (unfold wrap64;omega)
 obtain rfl:β=false:=by cases β;rfl;exact absurd (hβ.1 rfl) hc0
 have hR:=HRR.out
 rw [if_neg hc0] at hR
 clear hβ hc0 HRR
 go_wp2_with fail
 obtain ⟨⟨u,su⟩,hu⟩:∃ x,treeAt outC T2 8 0 sc=x:=⟨_,rfl⟩
 rw [hu] at hR
 refine (tree_num db rb T k st rep _ _ k.sb T2 T2 8 _ _ _ _ _ H3.out (by omega) rfl (by omega) (Nat.le_refl _) PL2.out hu).mono ?_;rintro e w4 ⟨rfl,h4,f4⟩
 have H4:=hid h4
 have F4:=hid (F3.out.trans f4)
 have hul:u<256:=by have:=treeAt_lt outC T2 8 0 sc (by omega);rw [hu] at this;exact this
 have HRR:=hid hR
 clear h4 f4 hu hR
 go_wp2
 go_ret
 rw [← HRR.out]
 refine ⟨ret_int' ?_,H4.out,F4.out⟩
 show _=((18+u:Nat):Int)
 first | omega | (unfold wrap64;omega)
end Go.Proofs.YtffehfpbdcokbaaGreat
