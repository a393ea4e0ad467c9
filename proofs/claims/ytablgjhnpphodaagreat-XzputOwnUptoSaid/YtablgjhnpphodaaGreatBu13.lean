import Derived.Lib.SlBytesConst
import Derived.Test.YtablgjhnpphodaaGreatBu1
import Derived.Test.YtablgjhnpphodaaGreatBu3
import Derived.Test.YtablgjhnpphodaaGreatBu7
import Derived.Test.YtablgjhnpphodaaGreatBu11
import Derived.Test.YtablgjhnpphodaaGreatBu12
set_option linter.unusedVariables false
set_option linter.unusedSimpArgs false
namespace Go.Proofs.YtablgjhnpphodaaGreat
open Lib (hid)
open Go.RowKit Rng Win Lz
structure PS where
 pos:Nat
 st:Nat
 rep:Nat→Nat
 s:CP Enc
def wOp (k:LK) (bs:List UInt8) (fr total:Nat) (x:PS):Option (Nat×Nat)→PS
 | none=>⟨x.pos+1,behS x.st 0,x.rep,putLit k bs (total+(x.pos-fr)) x.pos x.st x.rep x.s⟩
 | some m=>⟨x.pos+m.1,(putMatch k (total+(x.pos-fr)) m.1 m.2 x.st x.rep x.s).1,(putMatch k (total+(x.pos-fr)) m.1 m.2 x.st x.rep x.s).2.1,(putMatch k (total+(x.pos-fr)) m.1 m.2 x.st x.rep x.s).2.2⟩
def wOps (k:LK) (bs:List UInt8) (fr total:Nat) (l:List (Option (Nat×Nat))) (x:PS):PS:=l.foldl (wOp k bs fr total) x
def OkOps (bs:List UInt8):Nat→List (Option (Nat×Nat))→Prop
 | pos,[]=>pos=bs.length
 | pos,none::l=>pos<bs.length∧OkOps bs (pos+1) l
 | pos,some m::l=>2≤m.1∧m.1≤273∧pos+m.1≤bs.length∧m.2+1≤pos∧(∀ i,i<m.1→bs.getD (pos+i) 0=bs.getD (pos+i-(m.2+1)) 0)∧OkOps bs (pos+m.1) l
section
variable {β : Enc → Prop}
theorem stays_putRep (K:Stays inC β) (st p size j:Nat) {s:CP Enc} (h:β s.d):β (putRep inC st p size j s).d:=by
 unfold putRep
 simp only
 refine stays_lenAt K _ _ _ ?_
 split
 ·exact stays_bitAt K _ _ (stays_bitAt K _ _ h)
 split
 ·exact stays_bitAt K _ _ (stays_bitAt K _ _ h)
 exact stays_bitAt K _ _ (stays_bitAt K _ _ (stays_bitAt K _ _ h))
theorem stays_putMatch (K:Stays inC β) (k:LK) (tot size d st:Nat) (rep:Nat→Nat) {s:CP Enc} (h:β s.d):β (putMatch k tot size d st rep s).2.2.d:=by
 unfold putMatch
 simp only
 split
 ·exact stays_distAt K _ _ (stays_lenAt K _ _ _ (stays_bitAt K _ _ (stays_bitAt K _ _ h)))
 exact stays_putRep K _ _ _ _ (stays_bitAt K _ _ (stays_bitAt K _ _ h))
theorem stays_putLit (K:Stays inC β) (k:LK) (bs:List UInt8) (tot pos st:Nat) (rep:Nat→Nat) {s:CP Enc} (h:β s.d):β (putLit k bs tot pos st rep s).d:=stays_litAt K _ _ _ _ _ _ _ (stays_bitAt K _ _ h)
set_option maxRecDepth 100000 in
theorem stays_wOp (K:Stays inC β) (k:LK) (bs:List UInt8) (fr total:Nat) (o:Option (Nat×Nat)) {x:PS} (h:β x.s.d):β (wOp k bs fr total x o).s.d:=by
 cases o with
 | none=>exact stays_putLit K _ _ _ _ _ _ h
 | some m=>exact stays_putMatch K _ _ _ _ _ _ h
theorem stays_wOps (K:Stays inC β) (k:LK) (bs:List UInt8) (fr total:Nat):∀ (l:List (Option (Nat×Nat))) {x:PS},β x.s.d→β (wOps k bs fr total l x).s.d
 | [],_,h=>h
 | o::l,x,h=>stays_wOps K k bs fr total l (stays_wOp K k bs fr total o h)
end
theorem sub_bitAt {B:List UInt8} {F:Enc} (ht:Rng.Told B F) (i x:Nat) {s:CP Enc} (h:EncI s.d) (hg:Sub (bitAt inC i x s).2.d F):Sub s.d F:=(stays_bitAt (since_stays (ranges_back ht) s.d) i x (Since.refl h)).2 hg
theorem sub_lenAt {B:List UInt8} {F:Enc} (ht:Rng.Told B F) (b n p:Nat) {s:CP Enc} (h:EncI s.d) (hg:Sub (lenAt inC b n p s).2.d F):Sub s.d F:=(stays_lenAt (since_stays (ranges_back ht) s.d) b n p (Since.refl h)).2 hg
theorem sub_distAt {B:List UInt8} {F:Enc} (ht:Rng.Told B F) (d n:Nat) {s:CP Enc} (h:EncI s.d) (hg:Sub (distAt inC d n s).2.d F):Sub s.d F:=(stays_distAt (since_stays (ranges_back ht) s.d) d n (Since.refl h)).2 hg
theorem sub_litAt {B:List UInt8} {F:Enc} (ht:Rng.Told B F) (lc lp st total ahead far x:Nat) {s:CP Enc} (h:EncI s.d) (hg:Sub (litAt inC lc lp st total ahead far x s).2.d F):Sub s.d F:=(stays_litAt (since_stays (ranges_back ht) s.d) lc lp st total ahead far x (Since.refl h)).2 hg
theorem sub_wOps {B:List UInt8} {F:Enc} (ht:Rng.Told B F) (k:LK) (bs:List UInt8) (fr total:Nat) (l:List (Option (Nat×Nat))) {x:PS} (h:EncI x.s.d) (hg:Sub (wOps k bs fr total l x).s.d F):Sub x.s.d F:=(stays_wOps (since_stays (ranges_back ht) x.s.d) k bs fr total l (Since.refl h)).2 hg
theorem rep_back {B:List UInt8} {F:Enc} (ht:Rng.Told B F) (st p size j:Nat) (rep:Nat→Nat) {s:CP Enc} {t:CP Dec} (hI:EncI s.d) (hp:Pair (RD B) s t) (hj:j<4) (h2:2≤size) (hs:size≤273) (hg:Sub (putRep inC st p size j s).d F) :
 ∃ t',repOf outC st p rep t=(size,behS st 2,(if j=0 then rep else takeS rep j),t')∧Pair (RD B) (putRep inC st p size j s) t':=by
 have K:=ranges_back ht
 unfold putRep at hg ⊢
 simp only at hg ⊢
 unfold repOf
 simp only
 by_cases h0:j=0
 ·subst h0
  rw [if_pos rfl,if_pos rfl] at hg ⊢
  have i1:=stays_bitAt K.inv (212+st) 0 hI
  have i2:=stays_bitAt K.inv (248+st*16+p) 1 i1
  have g2:=sub_lenAt ht _ _ _ i2 hg
  have g1:=sub_bitAt ht _ _ i1 g2
  obtain ⟨a1,a2⟩:=back_bitAt K (212+st) 0 0 hI hp g1
  obtain ⟨b1,b2⟩:=back_bitAt K (248+st*16+p) 1 0 i1 a2 g2
  obtain ⟨c1,c2⟩:=back_lenAt K 1354 size 2 p i2 b2 hg
  rw [bitIn_val _ _ _ (by omega)] at a1 b1
  rw [lenAt_in _ _ _ _ h2 hs] at c1
  rw [← a1,if_pos rfl,← b1,if_neg (by omega),← c1,if_pos rfl]
  exact ⟨_,rfl,c2⟩
 rw [if_neg h0,if_neg h0] at hg ⊢
 have i1:=stays_bitAt K.inv (212+st) 1 hI
 by_cases h1:j=1
 ·subst h1
  rw [if_pos rfl,if_pos rfl] at hg ⊢
  have i2:=stays_bitAt K.inv (224+st) 0 i1
  have g2:=sub_lenAt ht _ _ _ i2 hg
  have g1:=sub_bitAt ht _ _ i1 g2
  obtain ⟨a1,a2⟩:=back_bitAt K (212+st) 1 0 hI hp g1
  obtain ⟨b1,b2⟩:=back_bitAt K (224+st) 0 0 i1 a2 g2
  obtain ⟨c1,c2⟩:=back_lenAt K 1354 size 2 p i2 b2 hg
  rw [bitIn_val _ _ _ (by omega)] at a1 b1
  rw [lenAt_in _ _ _ _ h2 hs] at c1
  rw [← a1,if_neg (by omega),← b1,if_neg (by omega),← c1,if_neg (by omega)]
  exact ⟨_,rfl,c2⟩
 rw [if_neg h1,if_neg h1] at hg ⊢
 have i2:=stays_bitAt K.inv (224+st) 1 i1
 have i3:=stays_bitAt K.inv (236+st) (j-2) i2
 have g3:=sub_lenAt ht _ _ _ i3 hg
 have g2:=sub_bitAt ht _ _ i2 g3
 have g1:=sub_bitAt ht _ _ i1 g2
 obtain ⟨a1,a2⟩:=back_bitAt K (212+st) 1 0 hI hp g1
 obtain ⟨b1,b2⟩:=back_bitAt K (224+st) 1 0 i1 a2 g2
 obtain ⟨d1,d2⟩:=back_bitAt K (236+st) (j-2) 0 i2 b2 g3
 obtain ⟨c1,c2⟩:=back_lenAt K 1354 size 2 p i3 d2 hg
 rw [bitIn_val _ _ _ (by omega)] at a1 b1 d1
 rw [lenAt_in _ _ _ _ h2 hs] at c1
 rw [← a1,if_neg (by omega),← b1,if_pos rfl,← c1,← d1,if_neg h0]
 refine ⟨_,?_,c2⟩
 rw [show 2+(j-2)=j by omega]
theorem match_back {B:List UInt8} {F:Enc} (ht:Rng.Told B F) (k:LK) (tot size d st:Nat) (rep:Nat→Nat) {s:CP Enc} {t:CP Dec} (hI:EncI s.d) (hp:Pair (RD B) s t) (h2:2≤size) (hs:size≤273) (hd:d<4294967296) (hg:Sub (putMatch k tot size d st rep s).2.2.d F) :
 ∃ t',(bitAt outC (8+st*16+tot % 2 ^ k.pb) 0 t).1=1∧opOf outC st (tot % 2 ^ k.pb) rep (bitAt outC (8+st*16+tot % 2 ^ k.pb) 0 t).2=(size,(putMatch k tot size d st rep s).1,(putMatch k tot size d st rep s).2.1,t')∧(putMatch k tot size d st rep s).2.1 0=d∧Pair (RD B) (putMatch k tot size d st rep s).2.2 t':=by
 have K:=ranges_back ht
 obtain ⟨j,hj⟩:∃ j,idxOf rep d=j:=⟨_,rfl⟩
 have hm:putMatch k tot size d st rep s=putMatch k tot size d st rep s:=rfl
 unfold putMatch at hg ⊢
 simp only at hg ⊢
 rw [hj] at hg ⊢
 have i1:=stays_bitAt K.inv (8+st*16+tot % 2 ^ k.pb) 1 hI
 by_cases h4:j=4
 ·subst h4
  rw [if_pos rfl] at hg ⊢
  have i2:=stays_bitAt K.inv (200+st) 0 i1
  have i3:=stays_lenAt K.inv 840 size (tot % 2 ^ k.pb) i2
  have g3:=sub_distAt ht _ _ i3 hg
  have g2:=sub_lenAt ht _ _ _ i2 g3
  have g1:=sub_bitAt ht _ _ i1 g2
  obtain ⟨a1,a2⟩:=back_bitAt K (8+st*16+tot % 2 ^ k.pb) 1 0 hI hp g1
  obtain ⟨b1,b2⟩:=back_bitAt K (200+st) 0 0 i1 a2 g2
  obtain ⟨c1,c2⟩:=back_lenAt K 840 size 2 (tot % 2 ^ k.pb) i2 b2 g3
  obtain ⟨e1,e2⟩:=back_distAt K d 0 size i3 c2 (by rw [treeAt_in _ _ _ _ (slot_lt hd)];exact slot_lt hd) hg
  rw [bitIn_val _ _ _ (by omega)] at a1 b1
  rw [lenAt_in _ _ _ _ h2 hs] at c1
  rw [distAt_in _ _ _ hd] at e1
  unfold opOf
  simp only
  rw [← a1,← b1,if_neg (by omega),← c1,← e1]
  exact ⟨_,rfl,rfl,rfl,e2⟩
 rw [if_neg h4] at hg ⊢
 have hj4:j<4:=by have:=idxOf_le rep d;omega
 have i2:=stays_bitAt K.inv (200+st) 1 i1
 have hr:rep j=d:=by rw [← hj];exact idxOf_rep (by omega)
 have g2:Sub (bitAt inC (200+st) 1 (bitAt inC (8+st*16+tot % 2 ^ k.pb) 1 s).2).2.d F:=(stays_putRep (since_stays K _) _ _ _ _ (Since.refl i2)).2 hg
 have g1:=sub_bitAt ht _ _ i1 g2
 obtain ⟨a1,a2⟩:=back_bitAt K (8+st*16+tot % 2 ^ k.pb) 1 0 hI hp g1
 obtain ⟨b1,b2⟩:=back_bitAt K (200+st) 1 0 i1 a2 g2
 obtain ⟨t',c1,c2⟩:=rep_back ht st (tot % 2 ^ k.pb) size j rep i2 b2 hj4 h2 hs hg
 rw [bitIn_val _ _ _ (by omega)] at a1 b1
 refine ⟨t',a1.symm,?_,?_,c2⟩
 ·unfold opOf
  simp only
  rw [← b1,if_pos rfl,c1]
 show (if j=0 then rep else takeS rep j) 0=d
 by_cases h0:j=0
 ·rw [if_pos h0,← hr,h0]
 rw [if_neg h0]
 unfold takeS
 rw [if_pos rfl,hr]
theorem atB_take (bs:List UInt8) {pos back:Nat} (h1:1≤back) (hp:pos≤bs.length):atB (bs.take pos) back=if back≤pos then bs.getD (pos-back) 0 else 0:=by
 unfold atB
 have hl:(bs.take pos).length=pos:=by rw [List.length_take];omega
 rw [hl]
 by_cases hb:back≤pos
 ·rw [if_pos ⟨h1,hb⟩,if_pos hb,List.getD_eq_getElem?_getD,List.getD_eq_getElem?_getD,List.getElem?_take,if_pos (by omega)]
 rw [if_neg (fun h=>hb h.2),if_neg hb]
theorem getD_take (bs:List UInt8) {pos i:Nat} (h:i<pos):(bs.take pos).getD i 0=bs.getD i 0:=by
 rw [List.getD_eq_getElem?_getD,List.getD_eq_getElem?_getD,List.getElem?_take,if_pos h]
theorem cyc_text {bs:List UInt8} {pos d:Nat} (hp:d+1≤pos):∀ (n:Nat),pos+n≤bs.length→(∀ i,i<n→bs.getD (pos+i) 0=bs.getD (pos+i-(d+1)) 0)→∀ i,i<n→bs.getD (pos-(d+1)+i % (d+1)) 0=bs.getD (pos+i) 0:=by
 intro n hn h i hi
 induction i using Nat.strongRecOn with
 | ind i ih =>
  rw [h i hi]
  by_cases hlt:i<d+1
  ·rw [Nat.mod_eq_of_lt hlt,show pos-(d+1)+i=pos+i-(d+1) by omega]
  have e:=ih (i-(d+1)) (by omega) (by omega)
  rw [show i % (d+1)=(i-(d+1)) % (d+1) by rw [Nat.mod_eq_sub_mod (by omega)],e,show pos+(i-(d+1))=pos+i-(d+1) by omega]
theorem cyc_row {bs:List UInt8} {pos d n:Nat} (hp:d+1≤pos) (hn:pos+n≤bs.length) (h:∀ i,i<n→bs.getD (pos+i) 0=bs.getD (pos+i-(d+1)) 0):cyc (bs.take pos) (d+1) n=(bs.drop pos).take n:=by
 have hl:(bs.take pos).length=pos:=by rw [List.length_take];omega
 apply List.ext_getElem?
 intro i
 by_cases hi:i<n
 ·unfold cyc
  rw [List.getElem?_map,List.getElem?_range hi,List.getElem?_take,if_pos hi,List.getElem?_drop]
  have hlt:pos+i<bs.length:=by omega
  rw [List.getElem?_eq_getElem hlt]
  simp only [Option.map_some]
  rw [hl,getD_take bs (by have:=Nat.mod_lt i (show 0<d+1 by omega);omega),cyc_text hp n hn h i hi,List.getD_eq_getElem?_getD,List.getElem?_eq_getElem hlt]
  rfl
 rw [List.getElem?_eq_none (by rw [cyc_length];omega),List.getElem?_eq_none (by rw [List.length_take];omega)]
theorem litOf_take {σ:Type} (co:Cod σ) (k:LK) (st tot:Nat) (rep:Nat→Nat) (bs:List UInt8) (pos:Nat) (s:CP σ) (hp:pos≤bs.length) (hb:bs.length≤16777216) :
 litOf co k st tot rep (bs.take pos) s=litAt co k.lc k.lp st tot (if 0<tot∧0<pos then (bs.getD (pos-1) 0).toNat else 0) (if rep 0+1≤pos then (bs.getD (pos-(rep 0+1)) 0).toNat else 0) 0 s:=by
 unfold litOf
 have e1:(if 0<tot then (atB (bs.take pos) 1).toNat else 0)=(if 0<tot∧0<pos then (bs.getD (pos-1) 0).toNat else 0):=by
  rw [atB_take bs (by omega) hp]
  by_cases h0:0<tot
  ·by_cases h1:0<pos
   ·rw [if_pos h0,if_pos (show 1≤pos from h1),if_pos ⟨h0,h1⟩]
   rw [if_pos h0,if_neg (show ¬ 1≤pos from h1),if_neg (fun h=>h1 h.2)]
   rfl
  rw [if_neg h0,if_neg (fun h=>h0 h.1)]
 have e2:(if rep 0<16777216 then (atB (bs.take pos) (rep 0+1)).toNat else 0)=(if rep 0+1≤pos then (bs.getD (pos-(rep 0+1)) 0).toNat else 0):=by
  rw [atB_take bs (by omega) hp]
  by_cases h1:rep 0+1≤pos
  ·rw [if_pos (show rep 0<16777216 by omega),if_pos h1,if_pos h1]
  rw [if_neg h1,if_neg h1]
  split <;> rfl
 rw [e1,e2]
theorem take_snoc (bs:List UInt8) {pos:Nat} (h:pos<bs.length):bs.take pos++[bs.getD pos 0]=bs.take (pos+1):=by
 rw [List.take_add_one,List.getD_eq_getElem?_getD,List.getElem?_eq_getElem h]
 rfl
theorem told_more (bs:List UInt8) {fr pos n:Nat} (hf:fr≤pos) (h:pos+n≤bs.length):(bs.take pos).drop fr++(bs.drop pos).take n=(bs.take (pos+n)).drop fr:=by
 rw [List.take_add,List.drop_append,List.length_take,Nat.min_eq_left (by omega),show fr-pos=0 by omega,List.drop_zero]
theorem take_more (bs:List UInt8) (pos n:Nat):bs.take pos++(bs.drop pos).take n=bs.take (pos+n):=by
 rw [List.take_add]
structure Both (B bs:List UInt8) (fr:Nat) (x:PS) (y:RS) (told:List UInt8):Prop where
 i:EncI x.s.d
 p:Pair (RD B) x.s y.s
 st:y.st=x.st
 rep:y.rep=x.rep
 c:y.C=bs.take x.pos
 t:told=(bs.take x.pos).drop fr
 f:fr≤x.pos
 n:x.pos≤bs.length
theorem Both.len {B bs:List UInt8} {fr:Nat} {x:PS} {y:RS} {told:List UInt8} (h:Both B bs fr x y told):told.length=x.pos-fr:=by
 rw [h.t,List.length_drop,List.length_take,Nat.min_eq_left h.n]
set_option maxRecDepth 100000 in
theorem op_lit {B bs:List UInt8} {F:Enc} (ht:Rng.Told B F) (k:LK) (S fr total room:Nat) {x:PS} {y:RS} {told:List UInt8} (h:Both B bs fr x y told) (hS:bs.length≤S) (hb:bs.length≤16777216) (hlt:x.pos<bs.length)
 (hg:Sub (wOp k bs fr total x none).s.d F):∃ b y',stepOf k S (total+told.length) room y=some (b,y')∧b.length=1∧Both B bs fr (wOp k bs fr total x none) y' (told++b):=by
 have K:=ranges_back ht
 have hlen:=h.len
 obtain ⟨hI,hp,h1,h2,h3,h4,h5,h6⟩:=h
 obtain ⟨yst,yrep,ys,yC⟩:=y
 obtain ⟨pos,st,rep,s⟩:=x
 simp only at hI hp h1 h2 h3 h4 h5 h6 hlt hlen
 subst h1;subst h2;subst h3
 unfold wOp at hg ⊢
 simp only at hg ⊢
 rw [hlen]
 unfold putLit at hg ⊢
 generalize hT:total+(pos-fr)=T at *
 have i1:=stays_bitAt K.inv (8+yst*16+T % 2 ^ k.pb) 0 hI
 have g1:=sub_litAt ht _ _ _ _ _ _ _ i1 hg
 obtain ⟨a1,a2⟩:=back_bitAt K (8+yst*16+T % 2 ^ k.pb) 0 0 hI hp g1
 obtain ⟨b1,b2⟩:=back_litAt K k.lc k.lp yst T (if 0<T∧0<pos then (bs.getD (pos-1) 0).toNat else 0) (if yrep 0+1≤pos then (bs.getD (pos-(yrep 0+1)) 0).toNat else 0) (bs.getD pos 0).toNat 0 i1 a2 hg
 rw [bitIn_val _ _ _ (by omega)] at a1
 rw [litIn_any] at b1
 unfold stepOf
 simp only
 rw [← a1,if_pos rfl,litOf_take _ _ _ _ _ _ _ _ (by omega) hb,← b1,UInt8.ofNat_toNat]
 refine ⟨_,_,rfl,rfl,?_⟩
 refine ⟨stays_litAt K.inv _ _ _ _ _ _ _ i1,b2,rfl,rfl,?_,?_,by simp only;omega,by simp only;omega⟩
 ·simp only
  rw [take_snoc bs hlt,lastN_all (by rw [List.length_take];omega)]
 simp only
 rw [h4,← take_snoc bs hlt,List.drop_append,List.length_take,Nat.min_eq_left (by omega),show fr-pos=0 by omega]
 rfl
set_option maxRecDepth 100000 in
theorem op_match {B bs:List UInt8} {F:Enc} (ht:Rng.Told B F) (k:LK) (S fr total room:Nat) (m:Nat×Nat) {x:PS} {y:RS} {told:List UInt8} (h:Both B bs fr x y told) (hS:bs.length≤S) (hb:bs.length≤16777216) (h2:2≤m.1) (hs:m.1≤273) (hn:x.pos+m.1≤bs.length) (hroom:m.1≤room) (hd:m.2+1≤x.pos)
 (he:∀ i,i<m.1→bs.getD (x.pos+i) 0=bs.getD (x.pos+i-(m.2+1)) 0)
 (hg:Sub (wOp k bs fr total x (some m)).s.d F):∃ b y',stepOf k S (total+told.length) room y=some (b,y')∧b.length=m.1∧Both B bs fr (wOp k bs fr total x (some m)) y' (told++b):=by
 have K:=ranges_back ht
 have hlen:=h.len
 obtain ⟨hI,hp,h1,h2',h3,h4,h5,h6⟩:=h
 obtain ⟨yst,yrep,ys,yC⟩:=y
 obtain ⟨pos,st,rep,s⟩:=x
 obtain ⟨size,d⟩:=m
 simp only at hI hp h1 h2' h3 h4 h5 h6 hlen h2 hs hn hroom hd he
 subst h1;subst h2';subst h3
 unfold wOp at hg ⊢
 simp only at hg ⊢
 rw [hlen]
 generalize hT:total+(pos-fr)=T at *
 obtain ⟨t',a1,a2,a3,a4⟩:=match_back ht k T size d yst yrep hI hp h2 hs (by omega) hg
 unfold stepOf
 simp only
 rw [a1,if_neg (by omega),a2]
 simp only
 rw [a3]
 have hl:(bs.take pos).length=pos:=by rw [List.length_take];omega
 rw [hl,if_pos ⟨hroom,hd⟩,cyc_row hd hn he]
 refine ⟨_,_,rfl,by rw [List.length_take,List.length_drop];omega,?_⟩
 refine ⟨stays_putMatch K.inv _ _ _ _ _ _ hI,a4,rfl,rfl,?_,?_,by simp only;omega,by simp only;omega⟩
 ·simp only
  rw [take_more,lastN_all (by rw [List.length_take];omega)]
 simp only
 rw [h4]
 exact told_more bs h5 hn
set_option maxRecDepth 100000 in
theorem ops_back {B bs:List UInt8} {F:Enc} (ht:Rng.Told B F) (k:LK) (S fr total n:Nat) (hS:bs.length≤S) (hb:bs.length≤16777216) (hn:n=bs.length-fr):∀ (l:List (Option (Nat×Nat))) (f:Nat) {x:PS} {y:RS} {told:List UInt8},Both B bs fr x y told→OkOps bs x.pos l→n<f+told.length→(wOps k bs fr total l x).s.d=F →
 ∃ y',chunkGo k S total n f told y=some (bs.drop fr,y')∧Both B bs fr (wOps k bs fr total l x) y' (bs.drop fr)
 | [],f,x,y,told,h,hok,hf,hF=>by
  have hpos:x.pos=bs.length:=hok
  have hlen:=h.len
  have htd:told=bs.drop fr:=by rw [h.t,hpos,List.take_length]
  have hnt:n≤told.length:=by omega
  cases f with
  | zero=>omega
  | succ f =>
   unfold chunkGo
   rw [if_pos hnt,htd]
   exact ⟨y,rfl,htd▸h⟩
 | o::l,f,x,y,told,h,hok,hf,hF=>by
  have hlen:=h.len
  have hF':(wOps k bs fr total l (wOp k bs fr total x o)).s.d=F:=hF
  have hi2:=stays_wOp (ranges_back ht).inv k bs fr total o h.i
  have hg:=sub_wOps ht k bs fr total l hi2 (by rw [hF'];exact Sub.refl _)
  have hh:x.pos<bs.length∧∃ b y',stepOf k S (total+told.length) (n-told.length) y=some (b,y')∧1≤b.length∧Both B bs fr (wOp k bs fr total x o) y' (told++b)∧OkOps bs (wOp k bs fr total x o).pos l:=by
   cases o with
   | none =>
    obtain ⟨a,c⟩:=hok
    obtain ⟨b,y',e1,e2,e3⟩:=op_lit ht k S fr total (n-told.length) h hS hb a hg
    exact ⟨a,b,y',e1,by omega,e3,c⟩
   | some m =>
    obtain ⟨a1,a2,a3,a4,a5,c⟩:=hok
    obtain ⟨b,y',e1,e2,e3⟩:=op_match ht k S fr total (n-told.length) m h hS hb a1 a2 a3 (by have:=h.f;omega) a4 a5 hg
    exact ⟨by omega,b,y',e1,by omega,e3,c⟩
  obtain ⟨hlt,b,y',e1,e2,e3,e4⟩:=hh
  cases f with
  | zero=>have:=h.f;omega
  | succ f =>
   obtain ⟨z,z1,z2⟩:=ops_back ht k S fr total n hS hb hn l f e3 e4 (by rw [List.length_append];omega) hF'
   unfold chunkGo
   rw [if_neg (by have:=h.f;omega),e1]
   exact ⟨z,z1,z2⟩
def opsB (k:LK) (bs:List UInt8) (fr total st:Nat) (rep:Nat→Nat) (pr:Pr) (l:List (Option (Nat×Nat))):List UInt8:=(wOps k bs fr (totOf total) l ⟨fr,st,rep,⟨newEnc,pr⟩⟩).s.d.close.out
open Go.RowKit Fnd
def RB1 (s:Sq) (rest:Nat):Prop:=s.lits<0∨s.mat<0∨s.mat=1∨273<s.mat∨(rest:Int)<s.lits
def RB2 (s:Sq) (len a:Nat):Prop:=((len-a:Nat):Int)<s.mat∨s.back<1∨(a:Int)<s.back
instance (s:Sq) (n:Nat):Decidable (RB1 s n):=by unfold RB1;infer_instance
instance (s:Sq) (n a:Nat):Decidable (RB2 s n a):=by unfold RB2;infer_instance
def Same (bs:List UInt8) (a n k:Nat):Prop:=∀ i,i<n→bs.getD (a+i) 0=bs.getD (a+i-k) 0
instance (bs:List UInt8) (a n k:Nat):Decidable (Same bs a n k):=by unfold Same;infer_instance
def rightGo (bs:List UInt8):List Sq→Nat→Option Nat
 | [],a=>some a
 | s::l,a =>
  if RB1 s (bs.length-a) then none
  else if s.mat=0 then rightGo bs l (a+s.lits.toNat)
  else if RB2 s bs.length (a+s.lits.toNat) then none
  else if Same bs (a+s.lits.toNat) s.mat.toNat s.back.toNat then rightGo bs l (a+s.lits.toNat+s.mat.toNat)
  else none
def rightEnd (n fr:Nat):Option Nat→Bool
 | none=>false
 | some a=>decide (a=n∧fr<a)
def rightP (bs:List UInt8) (fr:Nat) (l:List Sq):Bool:=rightEnd bs.length fr (rightGo bs l fr)
set_option maxRecDepth 100000 in
set_option maxHeartbeats 4000000 in
theorem right_p (A:Option Addr) (bs:List UInt8) (n c fr:Nat) (B:Option Addr) (l:List Sq) (m d:Nat) (w:World) (hn:n=bs.length) (hc:bs.length≤c) (hr:BRow w w.heap.size A bs) (hlen:bs.length≤140737488355328)
 (hm:m=l.length) (hmd:l.length≤d) (hl:SqRow w w.heap.size B l) (hml:l.length≤140737488355328) (hfit:∀ s∈l,s.fits) (hfr:fr≤bs.length) :
 Calls Tryz.prog 75 #[.slice A n c,.int .i64 fr,.slice B m d] w fun e w'=>e=.returned (.bool (rightP bs fr l))∧Below w.heap.size w w':=by
 subst hn;subst hm
 obtain ⟨β,hβ⟩:∃ β,rightP bs fr l=β:=⟨_,rfl⟩
 rw [hβ]
 obtain ⟨res,hres⟩:∃ res,rightGo bs l fr=res:=⟨_,rfl⟩
 have hβ2:rightEnd bs.length fr res=β:=by rw [← hβ,← hres];rfl
 have HR:=hid hr
 have HL:=hid hl
 have HF:=hid hfit
 have HRES:=hid hres
 have HE:=hid hβ2
 have HFR:=hid hfr
 clear hr hl hfit hβ hβ2 hres
 go_enter Tryz.func75,Tryz.ntmps75
 go_wp2
 go_loopw [1,14] (fun av iv wr=>∃ k a:Nat,k≤l.length∧iv=.int .i64 k∧av=.int .i64 a∧a≤bs.length∧rightGo bs (l.drop k) a=res∧Below w.heap.size w wr) (fun _ iv _=>l.length-(intOf iv).toNat)
 case atStart=>exact ⟨0,fr,by omega,rfl,rfl,HFR.out,HRES.out,Below.refl _ _⟩
 obtain ⟨k,a,hk,rfl,rfl,ha,hgo,hbel⟩:=hrel
 have HGO:=hid hgo
 have HB:=hid hbel
 clear hgo hbel
 by_cases hkl:k<l.length
 ·obtain ⟨b,off,hB,hb,hcell⟩:=HL.out (by omega)
  subst hB
  obtain ⟨c0,c1,c2⟩:=hcell k hkl
  have hs:∃ s,l.getD k default=s:=⟨_,rfl⟩
  obtain ⟨s,hs⟩:=hs
  rw [hs] at c0 c1 c2
  have hdrop:l.drop k=s::l.drop (k+1):=by
   rw [List.drop_eq_getElem_cons hkl,← hs]
   simp [List.getD,hkl]
  have x0:=(HB.out.cell (p:=⟨b,off+k*3,none⟩) hb).trans c0
  have x1:=(HB.out.cell (p:=⟨b,off+k*3+1,none⟩) hb).trans c1
  have x2:=(HB.out.cell (p:=⟨b,off+k*3+2,none⟩) hb).trans c2
  obtain ⟨⟨s0,s1⟩,⟨s2,s3⟩,s4,s5⟩:=HF.out s (by rw [← hs];simp [List.getD,hkl])
  have HDR:=hid hdrop
  clear hcell c0 c1 c2 hs hdrop
  obtain ⟨sl,sm,sb⟩:=s
  simp only at x0 x1 x2 s0 s1 s2 s3 s4 s5
  obtain ⟨mn,hmn⟩:∃ mn,min sl sm=mn:=⟨_,rfl⟩
  have hmin:=fun w=>min2_int (P:=Tryz.prog) #[3,3] 3 sl sm mn hmn w
  have hg:=HGO.out
  rw [HDR.out,rightGo] at hg
  clear HGO HDR
  obtain ⟨r,hr⟩:∃ r,bs.length-a=r:=⟨_,rfl⟩
  rw [hr] at hg
  have hri:(bs.length:Int)-(a:Int)=(r:Int):=by omega
  have hrw:IntKind.i64.wrap (r:Int)=(r:Int):=Go.IntWalk.i64_in _ (by omega)
  have HBX:=hid (HB.out.alloc HB.out.size (.cells #[.int .i64 sl,.int .i64 sm,.int .i64 sb] 152))
  by_cases hbad:RB1 ⟨sl,sm,sb⟩ r
  ·rw [if_pos hbad] at hg
   have hβf:β=false:=by rw [← HE.out,← hg];rfl
   subst hβf
   unfold RB1 at hbad
   simp only at hbad
   clear hg hr
   have hcase:mn<0∨(0≤mn∧sm=1)∨(0≤mn∧(sm==1)=false∧273<sm)∨(0≤mn∧(sm==1)=false∧sm≤273∧(r:Int)<sl):=by
    by_cases h1:sm=1
    ·by_cases h0:mn<0
     ·exact .inl h0
     exact .inr (.inl ⟨by omega,h1⟩)
    have e:(sm==1)=false:=beq_eq_false_iff_ne.2 h1
    by_cases h0:mn<0
    ·exact .inl h0
    by_cases h2:273<sm
    ·exact .inr (.inr (.inl ⟨by omega,e,h2⟩))
    exact .inr (.inr (.inr ⟨by omega,e,by omega,by omega⟩))
   clear hmn hbad
   rcases hcase with h0 | ⟨h0,h1⟩ | ⟨h0,h1,h2⟩ | ⟨h0,h1,h2,h3⟩
   ·go_wp2
    go_ret
    exact ⟨rfl,HBX.out⟩
   ·subst h1
    go_wp2
    go_ret
    exact ⟨rfl,HBX.out⟩
   ·go_wp2
    go_ret
    exact ⟨rfl,HBX.out⟩
   go_wp2
   go_ret
   exact ⟨rfl,HBX.out⟩
  rw [if_neg hbad] at hg
  unfold RB1 at hbad
  simp only at hbad hg
  obtain ⟨L,rfl⟩:∃ L:Nat,sl=L:=⟨sl.toNat,by omega⟩
  obtain ⟨M,rfl⟩:∃ M:Nat,sm=M:=⟨sm.toNat,by omega⟩
  have h0:0≤mn:=by omega
  have h1:((M:Int)==1)=false:=beq_eq_false_iff_ne.2 (by omega)
  have h2:(M:Int)≤273:=by omega
  have h3:(L:Int)≤(r:Int):=by omega
  simp only [Int.toNat_natCast] at hg
  obtain ⟨a1,ha1⟩:∃ a1,a+L=a1:=⟨_,rfl⟩
  rw [ha1] at hg
  have ha1i:(a:Int)+(L:Int)=(a1:Int):=by omega
  have ha1w:IntKind.i64.wrap (a1:Int)=(a1:Int):=Go.IntWalk.i64_in _ (by omega)
  have hal:a1≤bs.length:=by omega
  have HM1:=hid (show M≠1 by omega)
  clear hmn hbad ha1
  by_cases hM0:M=0
  ·have hMe:((M:Int)==0)=true:=by rw [hM0];rfl
   rw [if_pos (by omega)] at hg
   have HG:=hid hg
   clear hg hr hM0
   go_wp2
   exact ⟨⟨k+1,a1,by omega,by go_num,by first | rfl | trivial,hal,HG.out,HBX.out⟩,by simp [intOf];omega⟩
  have hMe:((M:Int)==0)=false:=beq_eq_false_iff_ne.2 (by omega)
  rw [if_neg (by omega)] at hg
  obtain ⟨r1,hr1⟩:∃ r1,bs.length-a1=r1:=⟨_,rfl⟩
  have hr1i:(bs.length:Int)-(a1:Int)=(r1:Int):=by omega
  have hr1w:IntKind.i64.wrap (r1:Int)=(r1:Int):=Go.IntWalk.i64_in _ (by omega)
  by_cases hbad2:RB2 ⟨L,M,sb⟩ bs.length a1
  ·rw [if_pos hbad2] at hg
   have hβf:β=false:=by rw [← HE.out,← hg];rfl
   subst hβf
   unfold RB2 at hbad2
   simp only at hbad2
   rw [hr1] at hbad2
   clear hg hr hr1 hM0
   have hcase:(r1:Int)<(M:Int)∨((M:Int)≤(r1:Int)∧sb<1)∨((M:Int)≤(r1:Int)∧1≤sb∧(a1:Int)<sb):=by omega
   clear hbad2
   rcases hcase with g0 | ⟨g0,g1⟩ | ⟨g0,g1,g2⟩
   ·go_wp2
    go_ret
    exact ⟨rfl,HBX.out⟩
   ·go_wp2
    go_ret
    exact ⟨rfl,HBX.out⟩
   go_wp2
   go_ret
   exact ⟨rfl,HBX.out⟩
  rw [if_neg hbad2] at hg
  unfold RB2 at hbad2
  simp only at hbad2 hg
  rw [hr1] at hbad2
  obtain ⟨K,rfl⟩:∃ K:Nat,sb=K:=⟨sb.toNat,by omega⟩
  simp only [Int.toNat_natCast] at hg
  have g0:(M:Int)≤(r1:Int):=by omega
  have g1:(1:Int)≤(K:Int):=by omega
  have g2:(K:Int)≤(a1:Int):=by omega
  have HG:=hid hg
  have HM0:=hid hM0
  have HN:=hid (show a1+M≤bs.length by omega)
  have HP:=hid (Pts.new wr #[.int .i64 (L:Int),.int .i64 (M:Int),.int .i64 (K:Int)] 152)
  clear hg hbad2 hr hr1 hM0
  go_wp2_with fail
  obtain ⟨wo,rfl⟩:∃ wo:World,wo=wr:=⟨_,rfl⟩
  go_loopw [70] (fun iv wq=>∃ t:Nat,t≤M∧iv=.int .i64 t∧(∀ j,j<t→bs.getD (a1+j) 0=bs.getD (a1+j-K) 0)∧Pts wq wo.heap.size #[.int .i64 (L:Int),.int .i64 (M:Int),.int .i64 (K:Int)] 152∧Below w.heap.size w wq) (fun iv _=>M-(intOf iv).toNat)
  case atStart=>exact ⟨0,by omega,rfl,fun j hj=>absurd hj (by omega),HP.out,HBX.out⟩
  obtain ⟨t,ht,rfl,hsame,hp2,hb2⟩:=hrel
  have z1:wr.cell? ⟨wo.heap.size,1,none⟩=some (.int .i64 (M:Int)):=by rw [hp2.cell];rfl
  have z2:wr.cell? ⟨wo.heap.size,2,none⟩=some (.int .i64 (K:Int)):=by rw [hp2.cell];rfl
  have HS:=hid hsame
  have HP2:=hid hp2
  have HB2:=hid hb2
  clear hsame hp2 hb2
  by_cases htM:t<M
  ·obtain ⟨bb,bo,hA,hbb,hbc⟩:=HR.out (by have:=HN.out;omega)
   subst hA
   obtain ⟨q1,hq1⟩:∃ q1,a1+t=q1:=⟨_,rfl⟩
   obtain ⟨q2,hq2⟩:∃ q2,q1-K=q2:=⟨_,rfl⟩
   have hq1i:(a1:Int)+(t:Int)=(q1:Int):=by omega
   have hq2i:(q1:Int)-(K:Int)=(q2:Int):=by omega
   have hq1w:IntKind.i64.wrap (q1:Int)=(q1:Int):=Go.IntWalk.i64_in _ (by have:=HN.out;omega)
   have hq2w:IntKind.i64.wrap (q2:Int)=(q2:Int):=Go.IntWalk.i64_in _ (by have:=HN.out;omega)
   have hq1b:q1<bs.length:=by have:=HN.out;omega
   have hq2b:q2<bs.length:=by omega
   have kk1:=(HB2.out.cell (p:=⟨bb,bo+q1,none⟩) hbb).trans (hbc q1 hq1b)
   have kk2:=(HB2.out.cell (p:=⟨bb,bo+q2,none⟩) hbb).trans (hbc q2 hq2b)
   obtain ⟨u1,hu1⟩:∃ u1,bs.getD q1 0=u1:=⟨_,rfl⟩
   obtain ⟨u2,hu2⟩:∃ u2,bs.getD q2 0=u2:=⟨_,rfl⟩
   have HU:=hid (And.intro hq1 (And.intro hq2 (And.intro hu1 hu2)))
   obtain ⟨v1,hv1⟩:∃ v1,u1.toNat=v1:=⟨_,rfl⟩
   obtain ⟨v2,hv2⟩:∃ v2,u2.toNat=v2:=⟨_,rfl⟩
   have k1:wr.cell? ⟨bb,bo+q1,none⟩=some (.int .u8 (v1:Int)):=by rw [kk1,hu1,← hv1];rfl
   have k2:wr.cell? ⟨bb,bo+q2,none⟩=some (.int .u8 (v2:Int)):=by rw [kk2,hu2,← hv2];rfl
   clear kk1 kk2 hbc hq1 hq2 hu1 hu2 x0 x1 x2
   by_cases hev:u1=u2
   ·have hne:((v1:Int) != (v2:Int))=false:=by rw [← hv1,← hv2,hev];simp
    have HEV:=hid hev
    clear hev hv1 hv2
    go_wp2
    go_quiet (fail)
    go_wp2
    refine ⟨⟨t+1,by omega,by go_num,fun j hj=>?_,HP2.out.drewN _,below_drewN HB2.out _⟩,by simp [intOf];omega⟩
    by_cases hjt:j=t
    ·subst hjt
     rw [HU.out.1,HU.out.2.1,HU.out.2.2.1,HU.out.2.2.2]
     exact HEV.out
    exact HS.out j (by omega)
   have hne:((v1:Int) != (v2:Int))=true:=by
    rw [bne_iff_ne]
    intro e
    apply hev
    apply UInt8.toNat_inj.1
    omega
   have hns:¬ Same bs a1 M K:=by
    intro h
    apply hev
    have h1:=h t htM
    rw [HU.out.1,HU.out.2.1,HU.out.2.2.1,HU.out.2.2.2] at h1
    exact h1
   have hg:=HG.out
   rw [if_neg hns] at hg
   have hβf:β=false:=by rw [← HE.out,← hg];rfl
   subst hβf
   clear hev hv1 hv2 hns hg
   go_wp2
   go_quiet (fail)
   go_wp2
   go_ret
   exact ⟨rfl,below_drewN HB2.out _⟩
  obtain rfl:t=M:=by omega
  have hg:=HG.out
  rw [if_pos (show Same bs a1 t K from HS.out)] at hg
  have HG2:=hid hg
  obtain ⟨a2,ha2⟩:∃ a2,a1+t=a2:=⟨_,rfl⟩
  have ha2i:(a1:Int)+(t:Int)=(a2:Int):=by omega
  have hN:=HN.out
  have ha2w:IntKind.i64.wrap (a2:Int)=(a2:Int):=Go.IntWalk.i64_in _ (by omega)
  have HA2:=hid ha2
  clear hg ha2 hN x0 x1 x2
  go_wp2
  exact ⟨⟨k+1,a2,by omega,by go_num,by first | rfl | trivial,by have:=HN.out;have:=HA2.out;omega,by rw [← HA2.out];exact HG2.out,HB2.out⟩,by simp [intOf];omega⟩
 obtain rfl:k=l.length:=by omega
 have hg:=HGO.out
 rw [List.drop_length,rightGo] at hg
 have hβe:decide (a=bs.length∧fr<a)=β:=by
  have h:=HE.out
  rw [← hg] at h
  exact h
 clear hg HGO
 by_cases he:a=bs.length
 ·subst he
  have he2:((bs.length:Int)==(bs.length:Int))=true:=by simp
  by_cases hf:fr<bs.length
  ·rw [decide_eq_true ⟨rfl,hf⟩] at hβe
   subst hβe
   have hfi:(fr:Int)<(bs.length:Int):=by omega
   go_wp2
   go_ret
   exact ⟨by first | rfl | simp [hf],HB.out⟩
  rw [decide_eq_false (show ¬ (bs.length=bs.length∧fr<bs.length) from fun h=>hf h.2)] at hβe
  subst hβe
  go_wp2
  go_ret
  exact ⟨by first | rfl | simp [hf],HB.out⟩
 rw [decide_eq_false (show ¬ (a=bs.length∧fr<a) from fun h=>he h.1)] at hβe
 subst hβe
 have he2:((a:Int)==(bs.length:Int))=false:=beq_eq_false_iff_ne.2 (by omega)
 go_wp2
 go_ret
 exact ⟨rfl,HB.out⟩
open Go.RowKit Rng Lz Win Fnd
theorem putmatch_p (O:Nat→Prop) (w:World) (k:LK) (g:WB) (A:Option Addr) (c:Nat) (bs:List UInt8) (shift:Int) (pos tot st:Nat) (rep:Nat→Nat) (s:CP Enc) (h:WrAt O w k g A c bs shift pos st rep s) (hk:k.Ok) (htot:(pos:Int)+shift=(tot:Int)) (ht:tot<4611686018427387904)
 (size back d:Nat) (h2:2≤size) (hs:size≤273) (hbd:back=d+1) (hd:d<4294967296) (hpos:pos+size≤140737488355328) (hst:st<12) (hrep:∀ j,rep j<4294967296) (hc:s.d.cnt+100<1000000) :
 Calls Tryz.prog 78 #[.pointer (some ⟨g.xb,0,none⟩),.int .i64 size,.int .i64 back] w fun e w'=>e=.returned (.tuple #[])∧WrAt O w' k g A c bs shift (pos+size) (putMatch k tot size d st rep s).1 (putMatch k tot size d st rep s).2.1 (putMatch k tot size d st rep s).2.2∧Frm (WZ k O g) w w':=by
 have h4:=idxOf_le rep d
 obtain ⟨J,hJ⟩:∃ J,idxOf rep d=J:=⟨_,rfl⟩
 rw [hJ] at h4
 have hcase:J=4∨J=0∨J=1∨(J=2∨J=3):=by omega
 rcases hcase with rfl | rfl | rfl | e
 ·exact putmatch_fresh O w k g A c bs shift pos tot st rep s h hk htot ht size back d h2 hs hbd hd hpos hst hrep hc hJ
 ·exact putmatch_zero O w k g A c bs shift pos tot st rep s h hk htot ht size back d h2 hs hbd hd hpos hst hrep hc hJ
 ·exact putmatch_one O w k g A c bs shift pos tot st rep s h hk htot ht size back d h2 hs hbd hd hpos hst hrep hc hJ
 exact putmatch_two O w k g A c bs shift pos tot st rep s h hk htot ht size back d h2 hs hbd hd hpos hst hrep hc J e hJ
theorem cnt_farIn (base x far:Nat):∀ (n m:Nat) (s:CP Enc),(farGo inC base x far n m s).2.d.cnt≤s.d.cnt+n
 | 0,m,s=>Nat.le_refl _
 | n+1,m,s=>by
  unfold farGo
  have h2:=cnt_bitIn1 (base+(1+far / 2 ^ n % 2)*256+m) (x / 2 ^ n % 2) s
  simp only
  split
  ·have h1:=cnt_farIn base x far n (2*m+(bitAt inC (base+(1+far / 2 ^ n % 2)*256+m) (x / 2 ^ n % 2) s).1) (bitAt inC (base+(1+far / 2 ^ n % 2)*256+m) (x / 2 ^ n % 2) s).2
   omega
  have h1:=cnt_treeIn base x n (2*m+(bitAt inC (base+(1+far / 2 ^ n % 2)*256+m) (x / 2 ^ n % 2) s).1) (bitAt inC (base+(1+far / 2 ^ n % 2)*256+m) (x / 2 ^ n % 2) s).2
  omega
theorem cnt_litIn (lc lp st total ahead far x:Nat) (s:CP Enc):(litAt inC lc lp st total ahead far x s).2.d.cnt≤s.d.cnt+8:=by
 unfold litAt
 simp only
 split
 ·exact cnt_farIn _ _ _ 8 1 s
 exact cnt_treeIn _ _ 8 1 s
theorem cnt_distIn (d size:Nat) (s:CP Enc) (hd:d<4294967296):(distAt inC d size s).2.d.cnt≤s.d.cnt+50:=by
 have ht:=treeAt_in (440+(min size 5-2)*64) 6 (slotOf d) s (slot_lt hd)
 have hc:=cnt_treeAt (440+(min size 5-2)*64) 6 (slotOf d) s
 have hs:=slot_lt hd
 unfold distAt
 simp only
 generalize treeAt inC (440+(min size 5-2)*64) 6 (slotOf d) s=T at *
 rw [ht]
 split
 ·simp only;omega
 split
 ·rename_i h1 h2
  have h3:=cnt_backIn (696+(2+slotOf d % 2)*2 ^ (slotOf d / 2-1)-slotOf d) (d-(2+slotOf d % 2)*2 ^ (slotOf d / 2-1)) (slotOf d / 2-1) (slotOf d / 2-1) 1 0 T.2
  unfold backAt
  simp only
  omega
 have h3:=cnt_backIn 824 (d % 16) 4 4 1 0 ⟨Enc.direct ((d-(2+slotOf d % 2)*2 ^ (slotOf d / 2-1)) / 16) (slotOf d / 2-1-4) T.2.d,T.2.pr⟩
 have h4:(Enc.direct ((d-(2+slotOf d % 2)*2 ^ (slotOf d / 2-1)) / 16) (slotOf d / 2-1-4) T.2.d).cnt≤T.2.d.cnt+(slotOf d / 2-1-4):=Enc.direct_cnt
 unfold backAt
 exact Nat.le_trans h3 (by simp only;omega)
def costOp:Option (Nat×Nat)→Nat
 | none=>9
 | some _=>100
def costOps:List (Option (Nat×Nat))→Nat
 | []=>0
 | o::l=>costOp o+costOps l
theorem costOps_append (l m:List (Option (Nat×Nat))):costOps (l++m)=costOps l+costOps m:=by
 induction l with
 | nil=>simp [costOps]
 | cons o l ih=>simp only [List.cons_append,costOps,ih];omega
theorem costOps_lits (n:Nat):costOps (List.replicate n none)=9*n:=by
 induction n with
 | zero=>rfl
 | succ n ih=>rw [List.replicate_succ,costOps,ih];show 9+9*n=9*(n+1);omega
theorem cnt_putLit (k:LK) (bs:List UInt8) (tot pos st:Nat) (rep:Nat→Nat) (s:CP Enc):(putLit k bs tot pos st rep s).d.cnt≤s.d.cnt+9:=by
 unfold putLit
 refine Nat.le_trans (cnt_litIn _ _ _ _ _ _ _ _) ?_
 have:=cnt_bitIn1 (8+st*16+tot % 2 ^ k.pb) 0 s
 omega
theorem cnt_putRep (st p size j:Nat) (s:CP Enc):(putRep inC st p size j s).d.cnt≤s.d.cnt+13:=by
 unfold putRep
 simp only
 refine Nat.le_trans (cnt_len _ _ _ _) ?_
 have h1:=fun x=>cnt_bitIn1 (212+st) x s
 split
 ·have h2:=cnt_bitIn1 (248+st*16+p) 1 (bitAt inC (212+st) 0 s).2
  have:=h1 0
  omega
 have h2:=fun x=>cnt_bitIn1 (224+st) x (bitAt inC (212+st) 1 s).2
 have h4:=h1 1
 split
 ·have:=h2 0
  omega
 have h3:=cnt_bitIn1 (236+st) (j-2) (bitAt inC (224+st) 1 (bitAt inC (212+st) 1 s).2).2
 have:=h2 1
 omega
theorem cnt_putMatch (k:LK) (tot size d st:Nat) (rep:Nat→Nat) (s:CP Enc) (hd:d<4294967296):(putMatch k tot size d st rep s).2.2.d.cnt≤s.d.cnt+100:=by
 unfold putMatch
 simp only
 have h1:=cnt_bitIn1 (8+st*16+tot % 2 ^ k.pb) 1 s
 split
 ·refine Nat.le_trans (cnt_distIn _ _ _ hd) ?_
  have h2:=cnt_bitIn1 (200+st) 0 (bitAt inC (8+st*16+tot % 2 ^ k.pb) 1 s).2
  have h3:=cnt_len 840 size (tot % 2 ^ k.pb) (bitAt inC (200+st) 0 (bitAt inC (8+st*16+tot % 2 ^ k.pb) 1 s).2).2
  omega
 refine Nat.le_trans (cnt_putRep _ _ _ _ _) ?_
 have h2:=cnt_bitIn1 (200+st) 1 (bitAt inC (8+st*16+tot % 2 ^ k.pb) 1 s).2
 omega
theorem putMatch_inv (k:LK) (tot size d st:Nat) (rep:Nat→Nat) (s:CP Enc) (hst:st<12) (hrep:∀ j,rep j<4294967296) (hd:d<4294967296):(putMatch k tot size d st rep s).1<12∧∀ j,(putMatch k tot size d st rep s).2.1 j<4294967296:=by
 unfold putMatch
 simp only
 split
 ·refine ⟨show behS st 1<12 from behS_lt hst,fun j=>?_⟩
  show (if j=0 then d else shiftN rep 3 j)<_
  split
  ·exact hd
  exact shiftN_lt hrep 3 j
 refine ⟨show behS st 2<12 from behS_lt hst,fun j=>?_⟩
 show (if idxOf rep d=0 then rep else takeS rep (idxOf rep d)) j<_
 split
 ·exact hrep j
 exact takeS_lt hrep _ j
def opsSq (s:Sq):List (Option (Nat×Nat)):=List.replicate s.lits.toNat none++(if 0<s.mat then [some (s.mat.toNat,s.back.toNat-1)] else [])
def opsOf:List Sq→List (Option (Nat×Nat))
 | []=>[]
 | s::l=>opsSq s++opsOf l
theorem okOps_lits {bs:List UInt8} (l:List (Option (Nat×Nat))):∀ (n a:Nat),a+n≤bs.length→OkOps bs (a+n) l→OkOps bs a (List.replicate n none++l)
 | 0,a,_,h=>h
 | n+1,a,hn,h=>by
  rw [List.replicate_succ]
  exact ⟨by omega,okOps_lits l n (a+1) (by omega) (by rw [show a+1+n=a+(n+1) by omega];exact h)⟩
theorem right_ops {bs:List UInt8}:∀ (l:List Sq) (a:Nat),a≤bs.length→rightGo bs l a=some bs.length→OkOps bs a (opsOf l)
 | [],a,_,h=>by
  unfold rightGo at h
  exact Option.some.inj h
 | s::l,a,ha,h=>by
  unfold rightGo at h
  by_cases h1:RB1 s (bs.length-a)
  ·rw [if_pos h1] at h;cases h
  rw [if_neg h1] at h
  unfold RB1 at h1
  have hl:a+s.lits.toNat≤bs.length:=by omega
  unfold opsOf opsSq
  rw [List.append_assoc]
  refine okOps_lits _ _ _ hl ?_
  by_cases h2:s.mat=0
  ·rw [if_pos h2] at h
   rw [if_neg (by omega)]
   exact right_ops l _ hl h
  rw [if_neg h2] at h
  by_cases h3:RB2 s bs.length (a+s.lits.toNat)
  ·rw [if_pos h3] at h;cases h
  rw [if_neg h3] at h
  unfold RB2 at h3
  by_cases h4:Same bs (a+s.lits.toNat) s.mat.toNat s.back.toNat
  ·rw [if_pos h4] at h
   rw [if_pos (by omega)]
   refine ⟨by simp only;omega,by simp only;omega,by simp only;omega,by simp only;omega,?_,?_⟩
   ·intro i hi
    simp only at hi ⊢
    rw [show s.back.toNat-1+1=s.back.toNat by omega]
    exact h4 i hi
   exact right_ops l _ (by simp only;omega) h
  rw [if_neg h4] at h;cases h
theorem wOps_cons (k:LK) (bs:List UInt8) (fr total:Nat) (o:Option (Nat×Nat)) (l:List (Option (Nat×Nat))) (x:PS):wOps k bs fr total (o::l) x=wOps k bs fr total l (wOp k bs fr total x o):=rfl
open Go.RowKit Rng Lz Win Fnd
structure PAt (w:World) (k:LK) (st:Nat) (rep:Nat→Nat) (pr:Pr):Prop where
 m:Pts w k.sb (mcells k st rep pr) 150
 l:Pts w k.lb (lcells k pr) 131
 fit:∀ i,pr i<65536
 ne:k.sb≠k.lb
theorem PAt.frm {w w':World} {k:LK} {st:Nat} {rep:Nat→Nat} {pr:Pr} {N:Nat→Prop} (h:PAt w k st rep pr) (hf:Frm N w w') (h1:¬ N k.sb) (h2:¬ N k.lb):PAt w' k st rep pr:=⟨h.m.frm hf h1,h.l.frm hf h2,h.fit,h.ne⟩
theorem PAt.later {w w':World} {k:LK} {st:Nat} {rep:Nat→Nat} {pr:Pr} (h:PAt w k st rep pr) (hb:Below w.heap.size w w'):PAt w' k st rep pr:=h.frm (Frm.of_below (S:=fun _=>False) hb) id id
def KZ (k:LK) (q:Nat):Prop:=q=k.sb∨q=k.lb
theorem OwnB.low {w:World} {T base base':Nat} {v:Value} {bs:List UInt8} (h:OwnB w T base v bs) (hb:base'≤base):OwnB w T base' v bs:=by
 refine ⟨h.1,?_⟩
 rcases h.2 with h2 | ⟨g,cap,cur,rfl,hb2,r⟩
 ·exact .inl h2
 exact .inr ⟨g,cap,cur,rfl,by omega,r⟩
theorem WrAt.start {w w2:World} {k:LK} {st eb:Nat} {rep:Nat→Nat} {pr:Pr} {A:Option Addr} {c fr:Nat} {bs:List UInt8} {sh:Int} (hs:PAt w k st rep pr) (hr:BRow w w.heap.size A bs) (hoff:BOff (KZ k) A bs) (h1:Below w.heap.size w w2) (he:EncAt w2 191 0 eb eb (.slice none 0 0) newEnc) (heb:w.heap.size≤eb) :
 WrAt (fun q=>q=eb∨w2.heap.size+1≤q) (w2.alloc (.cells #[.pointer (some ⟨k.sb,0,none⟩),.pointer (some ⟨eb,0,none⟩),.slice A bs.length c,.int .i64 fr,.int .i64 sh] 171)) k ⟨eb,w2.heap.size⟩ A c bs sh fr st rep ⟨newEnc,pr⟩:=by
 have s2:=hs.later h1
 have e1:=hs.m.lt
 have e2:=hs.l.lt
 have e3:=he.p.lt
 have e4:=h1.size
 have hsz:(w2.alloc (.cells #[.pointer (some ⟨k.sb,0,none⟩),.pointer (some ⟨eb,0,none⟩),.slice A bs.length c,.int .i64 fr,.int .i64 sh] 171)).heap.size=w2.heap.size+1:=by show (w2.heap.push _).size=_;rw [Array.size_push]
 refine ⟨⟨⟨⟨.slice none 0 0,⟨he.p.alloc _,OwnB.nil _ _ _,he.k⟩,fun q hq=>by cases hq⟩,.inl rfl,fun q hq=>.inr (by omega),encI_new⟩,s2.m.alloc _,s2.l.alloc _,s2.fit,?_,?_,s2.ne⟩,Pts.new _ _ _,?_,?_,?_⟩
 ·rintro (e | e) <;> omega
 ·rintro (e | e) <;> omega
 ·intro h0
  obtain ⟨b,off,rfl,hlt,hc⟩:=hr h0
  have hb:Below w.heap.size w (w2.alloc (.cells #[.pointer (some ⟨k.sb,0,none⟩),.pointer (some ⟨eb,0,none⟩),.slice (some ⟨b,off,none⟩) bs.length c,.int .i64 fr,.int .i64 sh] 171)):=h1.alloc h1.size _
  exact ⟨b,off,rfl,by omega,fun j hj=>(hb.cell (p:=⟨b,off+j,none⟩) hlt).trans (hc j hj)⟩
 ·intro h0 ad e hz
  obtain ⟨b,off,e6,hlt,hc⟩:=hr h0
  have e7:=hoff h0 ad e
  rw [e] at e6
  injection e6 with e6
  subst e6
  rcases hz with (e8 | e8) | e8
  ·rcases e8 with e8 | e8
   ·simp only at e8;omega
   simp only at e8;omega
  ·exact e7 e8
  simp only at e8;omega
 rintro (e | e)
 ·simp only at e;omega
 simp only at e;omega
set_option maxRecDepth 100000 in
set_option maxHeartbeats 8000000 in
theorem putchunk_main (k:LK) (st:Nat) (rep:Nat→Nat) (pr:Pr) (A:Option Addr) (bs:List UInt8) (n c fr total:Nat) (B:Option Addr) (l:List Sq) (m d:Nat) (w:World)
 (hs:PAt w k st rep pr) (hk:k.Ok) (hst:st<12) (hrep:∀ j,rep j<4294967296) (hn:n=bs.length) (hc:bs.length≤c) (hr:BRow w w.heap.size A bs) (hoff:BOff (KZ k) A bs) (hlen:bs.length≤16777216)
 (hm:m=l.length) (hmd:l.length≤d) (hl:SqRow w w.heap.size B l) (hlo:∀ ad,B=some ad→¬ KZ k ad.block) (hml:l.length≤140737488355328) (hfit:∀ s∈l,s.fits) (hfr:fr≤bs.length) (h21:bs.length-fr≤2097152) (ht:total<9223372036854775808)
 (hright:rightP bs fr l=true) (hcost:costOps (opsOf l)+110≤1000000) :
 Calls Tryz.prog 61 #[.pointer (some ⟨k.sb,0,none⟩),.slice A n c,.int .i64 fr,.int .i64 total,.slice B m d] w fun e w'=>∃ v,e=.returned (.tuple #[v,.int .i64 0])∧OwnB w' 5 w.heap.size v (opsB k bs fr total st rep pr (opsOf l)) ∧
  PAt w' k (wOps k bs fr (totOf total) (opsOf l) ⟨fr,st,rep,⟨newEnc,pr⟩⟩).st (wOps k bs fr (totOf total) (opsOf l) ⟨fr,st,rep,⟨newEnc,pr⟩⟩).rep (wOps k bs fr (totOf total) (opsOf l) ⟨fr,st,rep,⟨newEnc,pr⟩⟩).s.pr∧Frm (KZ k) w w':=by
 subst hn;subst hm
 unfold opsB
 obtain ⟨T,hT⟩:∃ T,totOf total=T:=⟨_,rfl⟩
 rw [hT]
 have hTb:T<1099511627792:=by rw [← hT];exact totOf_lt total
 obtain ⟨X,hX⟩:∃ X,wOps k bs fr T (opsOf l) ⟨fr,st,rep,⟨newEnc,pr⟩⟩=X:=⟨_,rfl⟩
 rw [hX]
 have hgo:rightGo bs l fr=some bs.length∧fr<bs.length:=by
  unfold rightP rightEnd at hright
  cases hg:rightGo bs l fr with
  | none=>rw [hg] at hright;cases hright
  | some a =>
   rw [hg] at hright
   obtain ⟨e1,e2⟩:=of_decide_eq_true hright
   subst e1
   exact ⟨rfl,e2⟩
 obtain ⟨sh,hsh⟩:∃ sh:Int,(T:Int)-(fr:Int)=sh:=⟨_,rfl⟩
 have hshw:IntKind.i64.wrap sh=sh:=Go.IntWalk.i64_in _ (by omega)
 have HR1:=hid (right_p A bs bs.length c fr B l l.length d w rfl hc hr (by omega) rfl hmd hl hml hfit hfr)
 rw [hright] at HR1
 obtain ⟨r,hr2⟩:∃ r,bs.length-fr=r:=⟨_,rfl⟩
 have hri:(bs.length:Int)-(fr:Int)=(r:Int):=by omega
 have hrw:IntKind.i64.wrap (r:Int)=(r:Int):=Go.IntWalk.i64_in _ (by omega)
 have hr21:(r:Int)≤2097152:=by omega
 have hf1:(0:Int)≤(fr:Int):=by omega
 have hf2:(fr:Int)≤(bs.length:Int):=by omega
 have ht1:(0:Int)≤(total:Int):=by omega
 have HS:=hid hs
 have HK:=hid hk
 have HREP:=hid hrep
 have HR:=hid hr
 have HOFF:=hid hoff
 have HL:=hid hl
 have HLO:=hid hlo
 have HF:=hid hfit
 have HT:=hid hT
 have HX:=hid hX
 have HGO:=hid hgo
 have HCO:=hid hcost
 have HSH:=hid hsh
 have HN:=hid (And.intro hlen (And.intro hfr hTb))
 clear hs hk hrep hr hoff hl hlo hfit hT hX hgo hcost hright hr2 h21 hfr
 go_enter Tryz.func61,Tryz.ntmps61
 go_wp2_with fail
 refine HR1.out.mono ?_;rintro e w1 ⟨rfl,b1⟩
 have B1:=hid b1
 clear b1 HR1
 go_upto_if 45 with fail
 go_cut [3] from 46 (fun v wx=>v=.int .i64 T∧wx=w1)
 case first =>
  by_cases hbig:1099511627776<total
  ·have hi:(1099511627776:Int)<(total:Int):=by omega
   have ha:=and15 total ht
   obtain ⟨m,hm⟩:∃ m,total % 16=m:=⟨_,rfl⟩
   have hTe:=HT.out
   unfold totOf at hTe
   rw [if_pos hbig,hm] at hTe
   rw [hm] at ha
   have hmb:m<16:=by omega
   have hTi:(1099511627776:Int)+(m:Int)=(T:Int):=by omega
   have hTw:IntKind.i64.wrap (T:Int)=(T:Int):=Go.IntWalk.i64_in _ (by omega)
   clear hm hTe hbig hmb
   go_wp2
   go_meet
   case rel=>exact ⟨rfl,rfl⟩
  have hi:(total:Int)≤1099511627776:=by omega
  have hTe:=HT.out
  unfold totOf at hTe
  rw [if_neg hbig] at hTe
  subst hTe
  clear hbig
  go_wp2
  go_meet
  case rel=>exact ⟨rfl,rfl⟩
 obtain ⟨rfl,hwx⟩:=hcut
 subst hwx
 go_wp2_with fail
 refine (enew_p wc).mono ?_;rintro e w2 ⟨rfl,h2,b2⟩
 have B2:=hid (B1.out.trans (b2.mono B1.out.size))
 have E2:=hid h2
 have HST:=hid (WrAt.start (fr:=fr) (sh:=sh) (c:=c) HS.out HR.out HOFF.out B2.out E2.out B1.out.size)
 have hsb:=HSH.out
 obtain ⟨eb,heb⟩:∃ eb,wc.heap.size=eb:=⟨_,rfl⟩
 have hebw:w.heap.size≤eb:=by have:=B1.out.size;omega
 rw [heb] at HST ⊢
 have HEB:=hid hebw
 clear h2 b2 heb hebw
 go_upto_region 13 with fail
 have HB3:=hid (B2.out.alloc B2.out.size (.cells #[.pointer (some ⟨k.sb,0,none⟩),.pointer (some ⟨eb,0,none⟩),.slice A bs.length c,.int .i64 fr,.int .i64 sh] 171))
 obtain ⟨w3,hw3⟩:∃ w3,w2.alloc (.cells #[.pointer (some ⟨k.sb,0,none⟩),.pointer (some ⟨eb,0,none⟩),.slice A bs.length c,.int .i64 fr,.int .i64 sh] 171)=w3:=⟨_,rfl⟩
 obtain ⟨O,hO⟩:∃ O:Nat→Prop,(fun q=>q=eb∨w2.heap.size+1≤q)=O:=⟨_,rfl⟩
 have hxb2:=B2.out.size
 have HO:Hid (∀ q,O q→w.heap.size≤q):=hid (fun q hq=>by
  rw [← hO] at hq
  rcases hq with e | e
  ·have:=HEB.out;omega
  omega)
 obtain ⟨xb,hxb⟩:∃ xb,w2.heap.size=xb:=⟨_,rfl⟩
 rw [hw3,hO,hxb] at HST
 rw [hw3] at HB3
 rw [hw3,hxb]
 rw [hxb] at hxb2
 have HXB:=hid hxb2
 clear hw3 hO hxb hxb2 hsb B1 B2 E2
 have hlen2:(l.length:Int)≤140737488355328:=by omega
 go_wp2
 go_loopw [64] (fun iv wr=>∃ (j:Nat) (x:PS),iv=.int .i64 j∧j≤l.length∧WrAt O wr k ⟨eb,xb⟩ A c bs sh x.pos x.st x.rep x.s∧rightGo bs (l.drop j) x.pos=some bs.length∧wOps k bs fr T (opsOf (l.drop j)) x=X∧x.s.d.cnt+costOps (opsOf (l.drop j))+110≤1000000∧x.st<12∧(∀ i,x.rep i<4294967296)∧fr≤x.pos∧x.pos≤bs.length∧Frm (KZ k) w wr) (fun iv _=>l.length-(intOf iv).toNat)
 case atStart=>exact ⟨0,⟨fr,st,rep,⟨newEnc,pr⟩⟩,rfl,by omega,HST.out,HGO.out.1,HX.out,by have:=HCO.out;have h0:newEnc.cnt=0:=rfl;simp only [List.drop_zero];omega,hst,HREP.out,Nat.le_refl _,HN.out.2.1,Frm.of_below HB3.out⟩
 obtain ⟨j,x,rfl,hj,hwr,hgo,hX,hcost,hxst,hxrep,hxf,hxl,hfr⟩:=hrel
 have HWR:=hid hwr
 have HGO2:=hid hgo
 have HX2:=hid hX
 have HCO2:=hid hcost
 have HXR:=hid hxrep
 have HXF:=hid (And.intro hxf hxl)
 have HFR:=hid hfr
 have hbnd:=hwr.p.lt
 simp only at hbnd
 have HBND:=hid hbnd
 clear hwr hgo hX hcost hxrep hxf hxl hfr hbnd HST HB3
 by_cases hjl:j<l.length
 ·obtain ⟨b,off,hB,hb,hcell⟩:=HL.out (by omega)
  subst hB
  obtain ⟨c0,c1,c2⟩:=hcell j hjl
  obtain ⟨s,hs⟩:∃ s,l.getD j default=s:=⟨_,rfl⟩
  rw [hs] at c0 c1 c2
  have hdrop:l.drop j=s::l.drop (j+1):=by
   rw [List.drop_eq_getElem_cons hjl,← hs]
   simp [List.getD,hjl]
  have hbk:¬ KZ k b:=HLO.out ⟨b,off,none⟩ rfl
  have hbl:=HFR.out.block b hb hbk
  have x0:=(World.cell?_of_block (a:=⟨b,off+j*3,none⟩) hbl).trans c0
  have x1:=(World.cell?_of_block (a:=⟨b,off+j*3+1,none⟩) hbl).trans c1
  have x2:=(World.cell?_of_block (a:=⟨b,off+j*3+2,none⟩) hbl).trans c2
  obtain ⟨⟨s0,s1⟩,⟨s2,s3⟩,s4,s5⟩:=HF.out s (by rw [← hs];simp [List.getD,hjl])
  have HDR:=hid hdrop
  clear hcell c0 c1 c2 hs hdrop hbl hbk
  obtain ⟨sl,sm,sb⟩:=s
  simp only at x0 x1 x2 s0 s1 s2 s3 s4 s5
  have hg:=HGO2.out
  have hX:=HX2.out
  have hco:=HCO2.out
  rw [HDR.out] at hg hX hco
  rw [rightGo] at hg
  unfold opsOf opsSq at hX hco
  by_cases hbad:RB1 ⟨sl,sm,sb⟩ (bs.length-x.pos)
  ·rw [if_pos hbad] at hg;cases hg
  rw [if_neg hbad] at hg
  unfold RB1 at hbad
  simp only at hbad hg hX hco
  obtain ⟨L,rfl⟩:∃ L:Nat,sl=L:=⟨sl.toNat,by omega⟩
  obtain ⟨M,rfl⟩:∃ M:Nat,sm=M:=⟨sm.toNat,by omega⟩
  simp only [Int.toNat_natCast] at hg hX hco
  rw [List.append_assoc] at hX hco
  obtain ⟨R1,hR1⟩:∃ R1,(if 0<(M:Int) then [some (M,sb.toNat-1)] else [])++opsOf (l.drop (j+1))=R1:=⟨_,rfl⟩
  rw [hR1] at hX hco
  rw [costOps_append,costOps_lits] at hco
  have hL1:x.pos+L≤bs.length:=by have:=HXF.out;omega
  have HG:=hid hg
  have HX3:=hid hX
  have HCO3:=hid hco
  have HR1:=hid hR1
  have HL1:=hid hL1
  have HM:=hid (show M≠1∧M≤273 by omega)
  have hLi:(L:Int)≤16777216:=by have:=HN.out.1;omega
  have H1:=hid (HWR.out.narrow ((Frm.refl (fun _=>False) wr).alloc (.cells #[.int .i64 (L:Int),.int .i64 (M:Int),.int .i64 sb] 152)) (fun q=>q=wr.heap.size) (fun q e=>by
   have:(wr.alloc (.cells #[.int .i64 (L:Int),.int .i64 (M:Int),.int .i64 sb] 152)).heap.size=wr.heap.size+1:=by show (wr.heap.push _).size=_;rw [Array.size_push]
   omega))
  have HP:=hid (Pts.new wr #[.int .i64 (L:Int),.int .i64 (M:Int),.int .i64 sb] 152)
  have HF1:=hid (HFR.out.alloc (.cells #[.int .i64 (L:Int),.int .i64 (M:Int),.int .i64 sb] 152))
  clear hg hX hco hR1 hL1 hbad
  go_wp2_with fail
  obtain ⟨wo,rfl⟩:∃ wo:World,wo=wr:=⟨_,rfl⟩
  obtain ⟨yb,hyb⟩:∃ yb,wo.heap.size=yb:=⟨_,rfl⟩
  rw [hyb] at H1 HP HBND ⊢
  obtain ⟨O1,hO1⟩:∃ O1:Nat→Prop,(fun q=>O q∧¬ q=yb)=O1:=⟨_,rfl⟩
  rw [hO1] at H1
  have HO1:Hid ((∀ q,O1 q→O q)∧¬ O1 yb):=hid ⟨fun q hq=>by rw [← hO1] at hq;exact hq.1,fun hq=>by rw [← hO1] at hq;exact hq.2 rfl⟩
  have HWB:Hid (w.heap.size≤yb):=hid (by have:=HFR.out.size;omega)
  have HSL:Hid (k.sb<yb∧k.lb<yb):=hid ⟨by have:=HWR.out.lz.m.lt;omega,by have:=HWR.out.lz.l.lt;omega⟩
  clear hO1 x0 x1 x2
  go_loopw [70] (fun iv wq=>∃ (t:Nat) (y:PS),iv=.int .i64 t∧t≤L∧WrAt O1 wq k ⟨eb,xb⟩ A c bs sh y.pos y.st y.rep y.s∧y.pos=x.pos+t∧wOps k bs fr T (List.replicate (L-t) none++R1) y=X∧y.s.d.cnt+(9*(L-t)+costOps R1)+110≤1000000∧y.st<12∧(∀ i,y.rep i<4294967296)∧Pts wq yb #[.int .i64 (L:Int),.int .i64 (M:Int),.int .i64 sb] 152∧Frm (KZ k) w wq) (fun iv _=>L-(intOf iv).toNat)
  case atStart=>exact ⟨0,x,rfl,by omega,H1.out,rfl,HX3.out,HCO3.out,hxst,HXR.out,HP.out,HF1.out⟩
  obtain ⟨t,y,rfl,ht,hw1,hyp,hyX,hyc,hyst,hyrep,hpy,hfy⟩:=hrel
  have HW1:=hid hw1
  have HYP:=hid hyp
  have HYX:=hid hyX
  have HYC:=hid hyc
  have HYR:=hid hyrep
  have HPY:=hid hpy
  have HFY:=hid hfy
  have z1:wr.cell? ⟨yb,1,none⟩=some (.int .i64 (M:Int)):=by rw [hpy.cell];rfl
  have z2:wr.cell? ⟨yb,2,none⟩=some (.int .i64 sb):=by rw [hpy.cell];rfl
  clear hw1 hyp hyX hyc hyrep hpy hfy H1 HP
  have htot:(y.pos:Int)+sh=((T+(y.pos-fr):Nat):Int):=by have:=HSH.out;have:=HYP.out;have:=HXF.out;omega
  have HTOT:=hid htot
  clear htot
  by_cases htL:t<L
  ·go_wp2_with fail
   refine (putlit_p O1 wr k ⟨eb,xb⟩ A c bs sh y.pos (T+(y.pos-fr)) y.st y.rep y.s HW1.out HK.out HTOT.out (by have:=HN.out;have:=HYP.out;have:=HL1.out;omega) (by have:=HYP.out;have:=HL1.out;omega) (by have:=HN.out;omega) hyst (HYR.out 0) (by have:=HYC.out;omega)).mono ?_;rintro e w4 ⟨rfl,h4,f4⟩
   have H4:=hid h4
   have P4:=hid (HPY.out.frm f4 (by
    rintro ((e | e | e) | e)
    ·exact HO1.out.2 e
    ·have:=HSL.out;omega
    ·have:=HSL.out;omega
    have:=HBND.out;simp only at e;omega))
   have F4:=hid (HFY.out.transR f4 (fun q hq e=>by
    rcases e with (e | e | e) | e
    ·have:=HO.out q (HO1.out.1 q e);omega
    ·exact .inl e
    ·exact .inr e
    have:=HXB.out;simp only at e;omega))
   have hX5:wOps k bs fr T (List.replicate (L-(t+1)) none++R1) (wOp k bs fr T y none)=X:=by
    have h:=HYX.out
    rw [show L-t=(L-(t+1))+1 by omega,List.replicate_succ,List.cons_append,wOps_cons] at h
    exact h
   have hc5:(wOp k bs fr T y none).s.d.cnt+(9*(L-(t+1))+costOps R1)+110≤1000000:=by
    have h1:=cnt_putLit k bs (T+(y.pos-fr)) y.pos y.st y.rep y.s
    have h2:=HYC.out
    show (putLit k bs (T+(y.pos-fr)) y.pos y.st y.rep y.s).d.cnt+_+110≤1000000
    omega
   have HX5:=hid hX5
   have HC5:=hid hc5
   clear h4 f4 hX5 hc5 z1 z2
   go_wp2
   exact ⟨⟨t+1,wOp k bs fr T y none,by go_num,by omega,H4.out,by show y.pos+1=_;have:=HYP.out;omega,HX5.out,HC5.out,show behS y.st 0<12 from behS_lt hyst,HYR.out,P4.out,F4.out⟩,by simp [intOf];omega⟩
  obtain rfl:t=L:=by omega
  have hg:=HG.out
  have hX6:=HYX.out
  rw [Nat.sub_self,List.replicate_zero,List.nil_append] at hX6
  have hpy:=HYP.out
  rw [← hpy] at hg
  by_cases hM0:M=0
  ·subst hM0
   rw [if_pos (show ((0:Nat):Int)=0 from rfl)] at hg
   have hR1:=HR1.out
   rw [if_neg (show ¬ (0:Int)<((0:Nat):Int) by omega),List.nil_append] at hR1
   rw [← hR1] at hX6
   have hc6:y.s.d.cnt+costOps (opsOf (l.drop (j+1)))+110≤1000000:=by have:=HYC.out;rw [hR1];omega
   have HC6:=hid hc6
   have HG6:=hid hg
   have HX6:=hid hX6
   have HW6:=hid (HW1.out.widen HWR.out HO1.out.1 (by have:=HPY.out.lt;omega))
   have hM1:((0:Nat):Int)≤0:=by omega
   clear hg hX6 hpy hR1 hc6
   go_wp2
   exact ⟨⟨j+1,y,by go_num,by omega,HW6.out,HG6.out,HX6.out,HC6.out,hyst,HYR.out,by have:=HXF.out;have:=HYP.out;omega,by have:=HL1.out;have:=HYP.out;omega,HFY.out⟩,by simp [intOf];omega⟩
  rw [if_neg (show ¬ ((M:Nat):Int)=0 by omega)] at hg
  by_cases hbad2:RB2 ⟨t,M,sb⟩ bs.length y.pos
  ·rw [if_pos hbad2] at hg;cases hg
  rw [if_neg hbad2] at hg
  unfold RB2 at hbad2
  simp only at hbad2 hg
  obtain ⟨K,rfl⟩:∃ K:Nat,sb=K:=⟨sb.toNat,by omega⟩
  simp only [Int.toNat_natCast] at hg
  by_cases hsm:Same bs y.pos M K
  ·rw [if_pos hsm] at hg
   have hR1:=HR1.out
   rw [if_pos (show (0:Int)<(M:Int) by omega)] at hR1
   rw [← hR1] at hX6
   simp only [Int.toNat_natCast,List.cons_append,List.nil_append] at hX6
   rw [wOps_cons] at hX6
   have hyc2:y.s.d.cnt+(100+costOps (opsOf (l.drop (j+1))))+110≤1000000:=by
    have h1:=HYC.out
    rw [← hR1] at h1
    simp only [Nat.sub_self,Nat.mul_zero,Nat.zero_add,List.cons_append,List.nil_append,costOps,costOp] at h1
    exact h1
   obtain ⟨D,hD⟩:∃ D,K-1=D:=⟨_,rfl⟩
   rw [hD] at hX6
   have hK1:K=D+1:=by omega
   have hDb:D<4294967296:=by have:=HN.out;omega
   have HG6:=hid hg
   have HX6:=hid hX6
   have HC6:=hid hyc2
   have HD:=hid (And.intro hK1 hDb)
   have HB2:=hid (show y.pos+M≤bs.length by omega)
   have hM1:(0:Int)<(M:Int):=by omega
   have HM2:=hid (show 2≤M by have:=HM.out;omega)
   clear hg hX6 hyc2 hD hK1 hDb hR1 hpy hsm hbad2 hM0
   go_wp2_with fail
   refine (putmatch_p O1 wr k ⟨eb,xb⟩ A c bs sh y.pos (T+(y.pos-fr)) y.st y.rep y.s HW1.out HK.out HTOT.out (by have:=HN.out;have:=HB2.out;omega) M K D HM2.out HM.out.2 HD.out.1 HD.out.2 (by have:=HN.out;have:=HB2.out;omega) hyst HYR.out (by have:=HC6.out;omega)).mono ?_;rintro e w4 ⟨rfl,h4,f4⟩
   have F4:=hid (HFY.out.transR f4 (fun q hq e=>by
    rcases e with (e | e | e) | e
    ·have:=HO.out q (HO1.out.1 q e);omega
    ·exact .inl e
    ·exact .inr e
    have:=HXB.out;simp only at e;omega))
   have H4:=hid (h4.widen HWR.out HO1.out.1 (by have:=HPY.out.lt;have:=f4.size;omega))
   have hinv:=putMatch_inv k (T+(y.pos-fr)) M D y.st y.rep y.s hyst HYR.out HD.out.2
   have hcn:=cnt_putMatch k (T+(y.pos-fr)) M D y.st y.rep y.s HD.out.2
   have HINV:=hid hinv
   have HCN:Hid ((wOp k bs fr T y (some (M,D))).s.d.cnt+costOps (opsOf (l.drop (j+1)))+110≤1000000):=hid (by
    have h1:=HC6.out
    show (putMatch k (T+(y.pos-fr)) M D y.st y.rep y.s).2.2.d.cnt+_+110≤1000000
    omega)
   clear h4 f4 z1 z2 hinv hcn
   go_wp2
   exact ⟨⟨j+1,wOp k bs fr T y (some (M,D)),by go_num,by omega,H4.out,HG6.out,HX6.out,HCN.out,HINV.out.1,HINV.out.2,by show fr≤y.pos+M;have:=HXF.out;have:=HYP.out;omega,HB2.out,F4.out⟩,by simp [intOf];omega⟩
  rw [if_neg hsm] at hg;cases hg
 obtain rfl:j=l.length:=by omega
 have hX:=HX2.out
 rw [List.drop_length] at hX
 have hX2:x=X:=hX
 subst hX2
 have hco:=HCO2.out
 have HC7:Hid (x.s.d.cnt+5<1000000):=hid (by omega)
 clear hX hco
 obtain ⟨⟨v,hv,hvo⟩,hob,hoz,hI⟩:=HWR.out.lz.c
 have HV:=hid hv
 have HVO:=hid (And.intro hvo hob)
 clear hv hvo hob hoz hI
 go_wp2_with fail
 refine (eclose_p eb 0 v x.s.d wr HV.out (Nat.zero_le _) HC7.out).mono ?_;rintro e w5 ⟨v',rv,rfl,h5,f5,m5,o5,n5⟩
 have F5:=hid (HFR.out.transR f5 (fun q hq e=>by
  rcases e with e | e
  ·have:=HEB.out;omega
  have:=HO.out q (HVO.out.1 q e);omega))
 have S5:Hid (PAt w5 k x.st x.rep x.s.pr):=hid (by
  have hne:∀ q,KZ k q→¬ (q=eb∨v.ownBlock=some q):=by
   intro q hq e
   have hoq:O q:=by
    rcases e with e | e
    ·rw [e];exact HVO.out.2
    exact HVO.out.1 q e
   rcases hq with e2 | e2
   ·exact HWR.out.lz.ne.1 (e2▸hoq)
   exact HWR.out.lz.ne.2.1 (e2▸hoq)
  exact ⟨HWR.out.lz.m.frm f5 (hne _ (.inl rfl)),HWR.out.lz.l.frm f5 (hne _ (.inr rfl)),HWR.out.lz.fit,HWR.out.lz.ne.2.2⟩)
 have O5:=hid (o5.low (base':=w.heap.size) HFR.out.size)
 clear h5 f5 m5 o5 n5
 go_wp2
 go_ret2
 exact ⟨rv,rfl,O5.out,S5.out,F5.out⟩
open Go.RowKit Rng Win Lz Fnd
open Go.RowKit Rng Win Lz Fnd
set_option maxRecDepth 100000 in
theorem cnt_ops (k:LK) (bs:List UInt8) (fr T:Nat) (hb:bs.length≤16777216):∀ (l:List (Option (Nat×Nat))) (x:PS),OkOps bs x.pos l→(wOps k bs fr T l x).s.d.cnt≤x.s.d.cnt+costOps l
 | [],x,_=>Nat.le_refl _
 | none::l,x,h=>by
  rw [wOps_cons]
  have h1:=cnt_ops k bs fr T hb l (wOp k bs fr T x none) h.2
  have h2:(wOp k bs fr T x none).s.d.cnt≤x.s.d.cnt+9:=cnt_putLit _ _ _ _ _ _ _
  show _≤x.s.d.cnt+(_+costOps l)
  unfold costOp
  simp only
  omega
 | some m::l,x,h=>by
  obtain ⟨a1,a2,a3,a4,a5,a6⟩:=h
  rw [wOps_cons]
  have h1:=cnt_ops k bs fr T hb l (wOp k bs fr T x (some m)) a6
  have h2:(wOp k bs fr T x (some m)).s.d.cnt≤x.s.d.cnt+100:=cnt_putMatch _ _ _ _ _ _ _ (by omega)
  show _≤x.s.d.cnt+(_+costOps l)
  unfold costOp
  simp only
  omega
theorem pnew_p (lc lp pb:Nat) (h1:lc+lp≤4) (h2:pb≤4) (w:World):Calls Tryz.prog 58 #[.int .i64 lc,.int .i64 lp,.int .i64 pb] w fun e w'=>∃ b lb,e=.returned (.tuple #[.pointer (some ⟨b,0,none⟩),.int .i64 0])∧w.heap.size≤b∧w.heap.size≤lb∧PAt w' ⟨b,lb,lc,lp,pb⟩ 0 (fun _=>0) (fun _=>1024)∧Below w.heap.size w w':=by
 refine (putnew_p lc lp pb h1 h2 w).mono ?_
 rintro e w' ⟨b,lb,rfl,h3,h4,h5,h6,h7,h8⟩
 exact ⟨b,lb,rfl,h3,h4,⟨h6,h7,fun _=>(by decide:1024<65536),h5⟩,h8⟩
theorem pnew32 (w:World):Calls Tryz.prog 58 #[.int .i64 3,.int .i64 0,.int .i64 2] w fun e w'=>∃ b lb,e=.returned (.tuple #[.pointer (some ⟨b,0,none⟩),.int .i64 0])∧w.heap.size≤b∧w.heap.size≤lb∧PAt w' (newK b lb) 0 (fun _=>0) (fun _=>1024)∧Below w.heap.size w w':=pnew_p 3 0 2 (by omega) (by omega) w
end Go.Proofs.YtablgjhnpphodaaGreat
