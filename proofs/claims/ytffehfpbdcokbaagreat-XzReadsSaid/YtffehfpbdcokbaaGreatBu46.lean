import Derived.Test.YtffehfpbdcokbaaGreatRows
import Derived.Deep.Matrix
import Derived.Test.YtffehfpbdcokbaaGreatBu1
import Derived.Test.YtffehfpbdcokbaaGreatBu27
import Derived.Test.YtffehfpbdcokbaaGreatBu45
set_option linter.unusedVariables false
set_option linter.unusedSimpArgs false
namespace Go.Proofs.YtffehfpbdcokbaaGreat
open Lib (hid)
open Go.ChangeShapes Go.WideShapes Go.Deep Go.RowKit
structure ByteRow where
 A:Option Addr
 bs:List UInt8
 cap:Nat
instance:Inhabited ByteRow:=⟨⟨none,[],0⟩⟩
def ByteRow.v (r:ByteRow):Value:=.slice r.A r.bs.length r.cap
theorem bulk_one_le {H:Type} (d:DataW H):1≤Rows.uptoBulk d:=by
 cases d with
 | lit l=>cases l <;> simp [Rows.uptoBulk]
 | nil=>simp [Rows.uptoBulk]
 | ptr d=>simp [Rows.uptoBulk]
 | slice elems spare=>simp [Rows.uptoBulk]
 | agg parts=>simp [Rows.uptoBulk]
 | iface t d=>simp [Rows.uptoBulk]
 | map entries=>simp [Rows.uptoBulk]
 | held h=>simp [Rows.uptoBulk]
theorem bulk_part_le {H:Type} {d:DataW H} {l:List (DataW H)} (h:d∈l):Rows.uptoBulk d≤Rows.uptoBulkAll l:=by
 induction l with
 | nil=>cases h
 | cons x r ih =>
  simp only [Rows.uptoBulkAll]
  cases List.mem_cons.1 h with
  | inl e=>subst e;omega
  | inr e=>have:=ih e;omega
theorem bulk_length_le {H:Type} (l:List (DataW H)):l.length≤Rows.uptoBulkAll l:=by
 induction l with
 | nil=>simp [Rows.uptoBulkAll]
 | cons x r ih=>have:=bulk_one_le x;simp only [Rows.uptoBulkAll,List.length_cons];omega
theorem bulk_small {H:Type} {l:List (DataW H)} (hk:Rows.uptoSmall H l=true):Rows.uptoBulkAll l≤1048576:=of_decide_eq_true hk
section
variable {H : Type} {enc : TypeId × Value → H} {P : Program} {w : World}
theorem open_byte_rows {t e q:TypeId} {A:Option Addr} {len cap:Nat} {d:DataW H} {p:List MemPlace} (ht:P.underlying t=some (.slice e)) (he:P.underlying e=some (.slice q)) (hq:P.underlying q=some (.int .u8))
 (ce:P.cellsOf e=1) (cq:P.cellsOf q=1) (h:DataW.Trod enc P w 0 (fun _=>true) true t (.slice A len cap) d p) :
 len≤cap∧cap≤maxLen∧∃ R:Nat→ByteRow,Opn.RowAt w w.heap.size A len (fun i=>(R i).v) ∧
  (∀ i,i<len→(R i).bs.length≤(R i).cap∧(R i).cap≤maxLen∧BRow w w.heap.size (R i).A (R i).bs)∧len≤Rows.uptoBulk d∧∀ i,i<len→(R i).bs.length≤Rows.uptoBulk d:=by
 obtain ⟨fuel,hf⟩:=h
 rcases open_int_rows ht he hq ce cq hf with ⟨hcs,_⟩ | ⟨x,l,c,AA,L,C,Z,hcs,_,hl,hm,hx,hr⟩
 ·simp [Value.cells] at hcs
  obtain ⟨rfl,rfl,rfl⟩:=hcs
  exact ⟨Nat.le_refl _,Nat.zero_le _,fun _=>default,fun h=>absurd h (by omega),fun i h=>absurd h (by omega),Nat.zero_le _,fun i h=>absurd h (by omega)⟩
 simp [Value.cells] at hcs
 obtain ⟨rfl,rfl,rfl⟩:=hcs
 simp only [Prod.mk.injEq] at hx
 obtain ⟨hd,_⟩:=hx
 have key:∀ i,i<len→∃ r:ByteRow,r.A=AA i∧r.bs.length=L i∧r.cap=C i∧BRow w w.heap.size r.A r.bs:=by
  intro i hi
  obtain ⟨_,hLC,_,hZ,hwz,_,hcell⟩:=hr i (by omega)
  have hrow:Opn.RowAt w w.heap.size (AA i) (L i) (fun k=>.int .u8 ((Z i).getD k 0)):=by
   intro h0
   cases hA:AA i with
   | none =>
    obtain ⟨_,_,_,_,_,hn,_⟩:=hr i (by omega)
    have:=hn hA
    omega
   | some a' =>
    have hc:=(hcell a' hA).2
    have h1:=hc 0 (by omega)
    have hx:=Opn.add_plain h1
    refine ⟨a'.block,a'.off,by rw [← hx],Opn.lt_of_cell (a:=a') (by simpa [Addr.add] using h1),fun k hk=>?_⟩
    have:=hc k (by omega)
    rw [hx,Opn.add_at] at this
    exact this
  obtain ⟨bs,hbl,hb⟩:=BRow.of_row hrow (fun k hk=>bounds_u8 (hwz _ (by
   have:k<(Z i).length:=by omega
   simp [List.getD,List.getElem?_eq_getElem this])))
  exact ⟨⟨AA i,bs,C i⟩,rfl,hbl,rfl,hb⟩
 obtain ⟨R,hR⟩:=Opn.pick key
 refine ⟨hl,hm,R,fun h0=>?_,fun i hi=>?_,?_,fun i hi=>?_⟩
 ·have h1:=(hr 0 (by omega)).1
  have hx:=Opn.add_plain h1
  refine ⟨x.block,x.off,by rw [← hx],Opn.lt_of_cell (a:=x) (by simpa [Addr.add] using h1),fun k hk=>?_⟩
  have:=(hr k (by omega)).1
  rw [hx,Opn.add_at] at this
  obtain ⟨e1,e2,e3,_⟩:=hR k hk
  show w.cell? _=some (.slice (R k).A (R k).bs.length (R k).cap)
  rw [e1,e2,e3]
  exact this
 ·obtain ⟨e1,e2,e3,hb⟩:=hR i hi
  obtain ⟨_,hLC,hC,_⟩:=hr i (by omega)
  exact ⟨by omega,by omega,hb⟩
 ·rw [hd]
  simp only [Rows.uptoBulk]
  have:=bulk_length_le ((List.range len).map fun r=>intRow (H:=H) IntKind.u8 (AA r) (L r) (Z r))
  simp only [List.length_map,List.length_range] at this
  omega
 rw [hd]
 simp only [Rows.uptoBulk]
 have h1:=bulk_part_le (List.mem_map.2 ⟨i,List.mem_range.2 hi,rfl⟩:intRow (H:=H) IntKind.u8 (AA i) (L i) (Z i)∈(List.range len).map fun r=>intRow (H:=H) IntKind.u8 (AA r) (L r) (Z r))
 obtain ⟨e1,e2,e3,hb⟩:=hR i hi
 obtain ⟨_,hLC,_,hZ,_,hn,_⟩:=hr i (by omega)
 have h2:L i≤Rows.uptoBulk (intRow (H:=H) IntKind.u8 (AA i) (L i) (Z i)):=by
  cases hA:AA i with
  | none=>have:=hn hA;omega
  | some a' =>
   simp only [intRow,Rows.uptoBulk]
   have:=bulk_length_le (lits (H:=H) IntKind.u8 ((Z i).take (L i)))
   have h3:(lits (H:=H) IntKind.u8 ((Z i).take (L i))).length=L i:=by simp [lits];omega
   omega
 omega
end
open Go.RowKit Rng Win Lz Box
theorem OwnB.rowZ {w:World} {T base:Nat} {A:Option Addr} {n c:Nat} {bs:List UInt8} (h:OwnB w T base (.slice A n c) bs):BRow w w.heap.size A bs:=by
 obtain ⟨A',c',e,_,_,hr⟩:=h.slice
 injection e with e1 e2 e3
 subst e1
 exact hr
theorem OwnB.lowZ {w:World} {T base base':Nat} {v:Value} {bs:List UInt8} (h:OwnB w T base v bs) (hb:base'≤base):OwnB w T base' v bs:=by
 refine ⟨h.1,?_⟩
 rcases h.2 with h2 | ⟨g,cap,cur,rfl,hb2,r⟩
 ·exact .inl h2
 exact .inr ⟨g,cap,cur,rfl,by omega,r⟩
theorem OwnB.keepZ {w w':World} {T base:Nat} {v:Value} {bs:List UInt8} (h:OwnB w T base v bs) (hb:Below w.heap.size w w'):OwnB w' T base v bs :=
 h.frm (S:=fun _=>False) (Frm.of_below hb) (fun _ _ h=>h)
structure Two (T:Nat) (w0 w:World) (vo vi:Value) (o i:List UInt8):Prop where
 oo:OwnB w T w0.heap.size vo o
 oi:OwnB w T w0.heap.size vi i
 ne:∀ q,vo.ownBlock=some q→vi.ownBlock≠some q
 be:Below w0.heap.size w0 w
theorem Two.drew {T:Nat} {w0 w:World} {vo vi:Value} {o i:List UInt8} (h:Two T w0 w vo vi o i):Two T w0 w.drew vo vi o i:=⟨h.oo,h.oi,h.ne,h.be.drew⟩
theorem Two.keep {T:Nat} {w0 w w':World} {vo vi:Value} {o i:List UInt8} (h:Two T w0 w vo vi o i) (hb:Below w.heap.size w w'):Two T w0 w' vo vi o i :=
 ⟨h.oo.keepZ hb,h.oi.keepZ hb,h.ne,h.be.trans (hb.mono h.be.size)⟩
theorem Two.start {T:Nat} {w0 w w':World} {vo vi:Value} {o i:List UInt8} (ho:OwnB w T w0.heap.size vo o) (hi:OwnB w' T w.heap.size vi i) (hb:Below w.heap.size w w') (be:Below w0.heap.size w0 w):Two T w0 w' vo vi o i :=
 ⟨ho.keepZ hb,hi.lowZ be.size,fun q h1 h2=>by have:=(ho.lt h1).2;have:=(hi.lt h2).1;omega,be.trans (hb.mono be.size)⟩
theorem Two.swap {T:Nat} {w0 w:World} {vo vi:Value} {o i:List UInt8} (h:Two T w0 w vo vi o i):Two T w0 w vi vo i o:=⟨h.oi,h.oo,fun q h1 h2=>h.ne q h2 h1,h.be⟩
theorem Two.idx {T:Nat} {w0 w w':World} {vo vi v':Value} {o i i':List UInt8} (h:Two T w0 w vo vi o i) (hown:OwnB w' T w0.heap.size v' i') (hfrm:Frm (fun k=>vi.ownBlock=some k) w w') (hnew:v'.ownBlock=vi.ownBlock∨v'.ownBlock=some w.heap.size):Two T w0 w' vo v' o i' :=
 ⟨h.oo.frm hfrm (fun k hk hS=>h.ne k hk hS),hown,fun q h1 h2=>by
  rcases hnew with hn | hn
  ·exact h.ne q h1 (by rw [← hn];exact h2)
  rw [hn] at h2
  obtain rfl:=Option.some.inj h2
  exact absurd (h.oo.lt h1).2 (Nat.lt_irrefl _),h.be.trans (hfrm.below h.be.size (fun q hq=>(h.oi.lt hq).1))⟩
theorem Two.out {T:Nat} {w0 w w':World} {vo vi v':Value} {o i o':List UInt8} (h:Two T w0 w vo vi o i) (hown:OwnB w' T w0.heap.size v' o') (hfrm:Frm (fun k=>vo.ownBlock=some k) w w') (hnew:v'.ownBlock=vo.ownBlock∨v'.ownBlock=some w.heap.size):Two T w0 w' v' vi o' i :=
 (h.swap.idx hown hfrm hnew).swap
theorem Two.set {T:Nat} {w0 w:World} {vo:Value} {g n cap:Nat} {o i:List UInt8} (h:Two T w0 w vo (.slice (some ⟨g,0,none⟩) n cap) o i) (k:Nat) (hk:k<i.length) (y:UInt8) :
 Two T w0 (w.setCell ⟨g,k,none⟩ (byteV y)) vo (.slice (some ⟨g,0,none⟩) n cap) o (i.set k y) :=
 ⟨h.oo.other (fun e=>h.ne g e rfl) _,h.oi.set k hk y,h.ne,h.be.setCell (h.oi.lt (k:=g) rfl).1 _⟩
theorem num_two {w0 W:World} {vo vi:Value} {o i:List UInt8} (m L:Nat) (hm:m<9223372036854775808) (hL:(put m).length=L) (h:Two 5 w0 W vo vi o i) :
 Calls Tryz.prog 43 #[.int .u64 (m:Int)] W fun e w'=>∃ A c,e=.returned (.slice A L c)∧BRow w' w'.heap.size A (put m)∧Two 5 w0 w' vo vi o i:=by
 refine (number20_p m W hm).mono ?_;rintro e w' ⟨v,rfl,h1,h2⟩
 obtain ⟨A,c,rfl,-,-,hr⟩:=h1.slice
 exact ⟨A,c,by rw [hL],hr,h.keep h2⟩
def rowsL (R:Nat→ByteRow):Nat→List (List UInt8)
 | 0=>[]
 | k+1=>rowsL R k++[(R k).bs]
theorem rowsL_len (R:Nat→ByteRow):∀ k,(rowsL R k).length=k
 | 0=>rfl
 | k+1=>by rw [rowsL,List.length_append,rowsL_len R k];rfl
theorem rowsL_all {R:Nat→ByteRow} {p:List UInt8→Prop}:∀ {k:Nat},(∀ i,i<k→p (R i).bs)→∀ b∈rowsL R k,p b
 | 0,_,b,hb=>by simp [rowsL] at hb
 | k+1,h,b,hb=>by
  rw [rowsL,List.mem_append] at hb
  rcases hb with hb | hb
  ·exact rowsL_all (fun i hi=>h i (by omega)) b hb
  rw [List.mem_singleton.1 hb]
  exact h k (by omega)
theorem blocksB_snoc (kind:Int) (numbers:Bool) (code:UInt8) (l:List (List UInt8)) (b:List UInt8):blocksB kind numbers code (l++[b])=blocksB kind numbers code l++blockB kind numbers b code:=by
 unfold blocksB
 simp [List.flatMap_append]
theorem recsX_snoc (kind:Int) (numbers:Bool) (code:UInt8) (l:List (List UInt8)) (b:List UInt8):recsX kind numbers code (l++[b])=recsX kind numbers code l++[recB kind numbers b code]:=by
 unfold recsX
 simp
theorem recsB_snocX (l:List (Nat×Nat)) (p:Nat×Nat):recsB (l++[p])=recsB l++(put p.1++put p.2):=by
 unfold recsB
 simp [List.flatMap_append]
theorem pad_step {L j:Nat} (hj:j≤padOf L) (h:(L+j) % 4≠0):j+1≤padOf L:=by
 have h2:j≠padOf L:=fun e=>h (by rw [e];exact padOf_mod L)
 omega
theorem pad_done {L j:Nat} (hj:j≤padOf L) (h:(L+j) % 4=0):j=padOf L:=by
 unfold padOf at *
 omega
end Go.Proofs.YtffehfpbdcokbaaGreat
