import Derived.Test.YtffehfpbdcokbaaGreatBu1
import Derived.Test.YtffehfpbdcokbaaGreatBu31
import Derived.Test.YtffehfpbdcokbaaGreatBu33
import Derived.Test.YtffehfpbdcokbaaGreatBu34
set_option linter.unusedVariables false
set_option linter.unusedSimpArgs false
namespace Go.Proofs.YtffehfpbdcokbaaGreat
open Lib (hid)
open Go.RowKit Rng Win Lz
structure PS where
 pos:Nat
 st:Nat
 rep:Nat→Nat
 s:CP Enc
def wOp (k:LK) (bs:List UInt8) (fr total:Nat) (x:PS):Option (Nat×Nat)→PS
 | none=>⟨x.pos+1,behS x.st 0,x.rep,putLit k bs (total+(x.pos-fr)) x.pos x.st x.rep x.s⟩
 | some m=>⟨x.pos+m.1,(putMatch k (total+(x.pos-fr)) m.1 m.2 x.st x.rep x.s).1,(putMatch k (total+(x.pos-fr)) m.1 m.2 x.st x.rep x.s).2.1,(putMatch k (total+(x.pos-fr)) m.1 m.2 x.st x.rep x.s).2.2⟩
def wOps (k:LK) (bs:List UInt8) (fr total:Nat) (l:List (Option (Nat×Nat))) (x:PS):PS:=l.foldl (wOp k bs fr total) x
def OkOps (bs:List UInt8):Nat→List (Option (Nat×Nat))→Prop
 | pos,[]=>pos=bs.length
 | pos,none::l=>pos<bs.length∧OkOps bs (pos+1) l
 | pos,some m::l=>2≤m.1∧m.1≤273∧pos+m.1≤bs.length∧m.2+1≤pos∧(∀ i,i<m.1→bs.getD (pos+i) 0=bs.getD (pos+i-(m.2+1)) 0)∧OkOps bs (pos+m.1) l
section
variable {β : Enc → Prop}
theorem stays_putRep (K:Stays inC β) (st p size j:Nat) {s:CP Enc} (h:β s.d):β (putRep inC st p size j s).d:=by
 unfold putRep
 simp only
 refine stays_lenAt K _ _ _ ?_
 split
 ·exact stays_bitAt K _ _ (stays_bitAt K _ _ h)
 split
 ·exact stays_bitAt K _ _ (stays_bitAt K _ _ h)
 exact stays_bitAt K _ _ (stays_bitAt K _ _ (stays_bitAt K _ _ h))
theorem stays_putMatch (K:Stays inC β) (k:LK) (tot size d st:Nat) (rep:Nat→Nat) {s:CP Enc} (h:β s.d):β (putMatch k tot size d st rep s).2.2.d:=by
 unfold putMatch
 simp only
 split
 ·exact stays_distAt K _ _ (stays_lenAt K _ _ _ (stays_bitAt K _ _ (stays_bitAt K _ _ h)))
 exact stays_putRep K _ _ _ _ (stays_bitAt K _ _ (stays_bitAt K _ _ h))
theorem stays_putLit (K:Stays inC β) (k:LK) (bs:List UInt8) (tot pos st:Nat) (rep:Nat→Nat) {s:CP Enc} (h:β s.d):β (putLit k bs tot pos st rep s).d:=stays_litAt K _ _ _ _ _ _ _ (stays_bitAt K _ _ h)
set_option maxRecDepth 100000 in
theorem stays_wOp (K:Stays inC β) (k:LK) (bs:List UInt8) (fr total:Nat) (o:Option (Nat×Nat)) {x:PS} (h:β x.s.d):β (wOp k bs fr total x o).s.d:=by
 cases o with
 | none=>exact stays_putLit K _ _ _ _ _ _ h
 | some m=>exact stays_putMatch K _ _ _ _ _ _ h
theorem stays_wOps (K:Stays inC β) (k:LK) (bs:List UInt8) (fr total:Nat):∀ (l:List (Option (Nat×Nat))) {x:PS},β x.s.d→β (wOps k bs fr total l x).s.d
 | [],_,h=>h
 | o::l,x,h=>stays_wOps K k bs fr total l (stays_wOp K k bs fr total o h)
end
theorem sub_bitAt {B:List UInt8} {F:Enc} (ht:Rng.Told B F) (i x:Nat) {s:CP Enc} (h:EncI s.d) (hg:Sub (bitAt inC i x s).2.d F):Sub s.d F:=(stays_bitAt (since_stays (ranges_back ht) s.d) i x (Since.refl h)).2 hg
theorem sub_lenAt {B:List UInt8} {F:Enc} (ht:Rng.Told B F) (b n p:Nat) {s:CP Enc} (h:EncI s.d) (hg:Sub (lenAt inC b n p s).2.d F):Sub s.d F:=(stays_lenAt (since_stays (ranges_back ht) s.d) b n p (Since.refl h)).2 hg
theorem sub_distAt {B:List UInt8} {F:Enc} (ht:Rng.Told B F) (d n:Nat) {s:CP Enc} (h:EncI s.d) (hg:Sub (distAt inC d n s).2.d F):Sub s.d F:=(stays_distAt (since_stays (ranges_back ht) s.d) d n (Since.refl h)).2 hg
theorem sub_litAt {B:List UInt8} {F:Enc} (ht:Rng.Told B F) (lc lp st total ahead far x:Nat) {s:CP Enc} (h:EncI s.d) (hg:Sub (litAt inC lc lp st total ahead far x s).2.d F):Sub s.d F:=(stays_litAt (since_stays (ranges_back ht) s.d) lc lp st total ahead far x (Since.refl h)).2 hg
theorem sub_wOps {B:List UInt8} {F:Enc} (ht:Rng.Told B F) (k:LK) (bs:List UInt8) (fr total:Nat) (l:List (Option (Nat×Nat))) {x:PS} (h:EncI x.s.d) (hg:Sub (wOps k bs fr total l x).s.d F):Sub x.s.d F:=(stays_wOps (since_stays (ranges_back ht) x.s.d) k bs fr total l (Since.refl h)).2 hg
theorem rep_back {B:List UInt8} {F:Enc} (ht:Rng.Told B F) (st p size j:Nat) (rep:Nat→Nat) {s:CP Enc} {t:CP Dec} (hI:EncI s.d) (hp:Pair (RD B) s t) (hj:j<4) (h2:2≤size) (hs:size≤273) (hg:Sub (putRep inC st p size j s).d F) :
 ∃ t',repOf outC st p rep t=(size,behS st 2,(if j=0 then rep else takeS rep j),t')∧Pair (RD B) (putRep inC st p size j s) t':=by
 have K:=ranges_back ht
 unfold putRep at hg ⊢
 simp only at hg ⊢
 unfold repOf
 simp only
 by_cases h0:j=0
 ·subst h0
  rw [if_pos rfl,if_pos rfl] at hg ⊢
  have i1:=stays_bitAt K.inv (212+st) 0 hI
  have i2:=stays_bitAt K.inv (248+st*16+p) 1 i1
  have g2:=sub_lenAt ht _ _ _ i2 hg
  have g1:=sub_bitAt ht _ _ i1 g2
  obtain ⟨a1,a2⟩:=back_bitAt K (212+st) 0 0 hI hp g1
  obtain ⟨b1,b2⟩:=back_bitAt K (248+st*16+p) 1 0 i1 a2 g2
  obtain ⟨c1,c2⟩:=back_lenAt K 1354 size 2 p i2 b2 hg
  rw [bitIn_val _ _ _ (by omega)] at a1 b1
  rw [lenAt_in _ _ _ _ h2 hs] at c1
  rw [← a1,if_pos rfl,← b1,if_neg (by omega),← c1,if_pos rfl]
  exact ⟨_,rfl,c2⟩
 rw [if_neg h0,if_neg h0] at hg ⊢
 have i1:=stays_bitAt K.inv (212+st) 1 hI
 by_cases h1:j=1
 ·subst h1
  rw [if_pos rfl,if_pos rfl] at hg ⊢
  have i2:=stays_bitAt K.inv (224+st) 0 i1
  have g2:=sub_lenAt ht _ _ _ i2 hg
  have g1:=sub_bitAt ht _ _ i1 g2
  obtain ⟨a1,a2⟩:=back_bitAt K (212+st) 1 0 hI hp g1
  obtain ⟨b1,b2⟩:=back_bitAt K (224+st) 0 0 i1 a2 g2
  obtain ⟨c1,c2⟩:=back_lenAt K 1354 size 2 p i2 b2 hg
  rw [bitIn_val _ _ _ (by omega)] at a1 b1
  rw [lenAt_in _ _ _ _ h2 hs] at c1
  rw [← a1,if_neg (by omega),← b1,if_neg (by omega),← c1,if_neg (by omega)]
  exact ⟨_,rfl,c2⟩
 rw [if_neg h1,if_neg h1] at hg ⊢
 have i2:=stays_bitAt K.inv (224+st) 1 i1
 have i3:=stays_bitAt K.inv (236+st) (j-2) i2
 have g3:=sub_lenAt ht _ _ _ i3 hg
 have g2:=sub_bitAt ht _ _ i2 g3
 have g1:=sub_bitAt ht _ _ i1 g2
 obtain ⟨a1,a2⟩:=back_bitAt K (212+st) 1 0 hI hp g1
 obtain ⟨b1,b2⟩:=back_bitAt K (224+st) 1 0 i1 a2 g2
 obtain ⟨d1,d2⟩:=back_bitAt K (236+st) (j-2) 0 i2 b2 g3
 obtain ⟨c1,c2⟩:=back_lenAt K 1354 size 2 p i3 d2 hg
 rw [bitIn_val _ _ _ (by omega)] at a1 b1 d1
 rw [lenAt_in _ _ _ _ h2 hs] at c1
 rw [← a1,if_neg (by omega),← b1,if_pos rfl,← c1,← d1,if_neg h0]
 refine ⟨_,?_,c2⟩
 rw [show 2+(j-2)=j by omega]
theorem match_back {B:List UInt8} {F:Enc} (ht:Rng.Told B F) (k:LK) (tot size d st:Nat) (rep:Nat→Nat) {s:CP Enc} {t:CP Dec} (hI:EncI s.d) (hp:Pair (RD B) s t) (h2:2≤size) (hs:size≤273) (hd:d<4294967296) (hg:Sub (putMatch k tot size d st rep s).2.2.d F) :
 ∃ t',(bitAt outC (8+st*16+tot % 2 ^ k.pb) 0 t).1=1∧opOf outC st (tot % 2 ^ k.pb) rep (bitAt outC (8+st*16+tot % 2 ^ k.pb) 0 t).2=(size,(putMatch k tot size d st rep s).1,(putMatch k tot size d st rep s).2.1,t')∧(putMatch k tot size d st rep s).2.1 0=d∧Pair (RD B) (putMatch k tot size d st rep s).2.2 t':=by
 have K:=ranges_back ht
 obtain ⟨j,hj⟩:∃ j,idxOf rep d=j:=⟨_,rfl⟩
 have hm:putMatch k tot size d st rep s=putMatch k tot size d st rep s:=rfl
 unfold putMatch at hg ⊢
 simp only at hg ⊢
 rw [hj] at hg ⊢
 have i1:=stays_bitAt K.inv (8+st*16+tot % 2 ^ k.pb) 1 hI
 by_cases h4:j=4
 ·subst h4
  rw [if_pos rfl] at hg ⊢
  have i2:=stays_bitAt K.inv (200+st) 0 i1
  have i3:=stays_lenAt K.inv 840 size (tot % 2 ^ k.pb) i2
  have g3:=sub_distAt ht _ _ i3 hg
  have g2:=sub_lenAt ht _ _ _ i2 g3
  have g1:=sub_bitAt ht _ _ i1 g2
  obtain ⟨a1,a2⟩:=back_bitAt K (8+st*16+tot % 2 ^ k.pb) 1 0 hI hp g1
  obtain ⟨b1,b2⟩:=back_bitAt K (200+st) 0 0 i1 a2 g2
  obtain ⟨c1,c2⟩:=back_lenAt K 840 size 2 (tot % 2 ^ k.pb) i2 b2 g3
  obtain ⟨e1,e2⟩:=back_distAt K d 0 size i3 c2 (by rw [treeAt_in _ _ _ _ (slot_lt hd)];exact slot_lt hd) hg
  rw [bitIn_val _ _ _ (by omega)] at a1 b1
  rw [lenAt_in _ _ _ _ h2 hs] at c1
  rw [distAt_in _ _ _ hd] at e1
  unfold opOf
  simp only
  rw [← a1,← b1,if_neg (by omega),← c1,← e1]
  exact ⟨_,rfl,rfl,rfl,e2⟩
 rw [if_neg h4] at hg ⊢
 have hj4:j<4:=by have:=idxOf_le rep d;omega
 have i2:=stays_bitAt K.inv (200+st) 1 i1
 have hr:rep j=d:=by rw [← hj];exact idxOf_rep (by omega)
 have g2:Sub (bitAt inC (200+st) 1 (bitAt inC (8+st*16+tot % 2 ^ k.pb) 1 s).2).2.d F:=(stays_putRep (since_stays K _) _ _ _ _ (Since.refl i2)).2 hg
 have g1:=sub_bitAt ht _ _ i1 g2
 obtain ⟨a1,a2⟩:=back_bitAt K (8+st*16+tot % 2 ^ k.pb) 1 0 hI hp g1
 obtain ⟨b1,b2⟩:=back_bitAt K (200+st) 1 0 i1 a2 g2
 obtain ⟨t',c1,c2⟩:=rep_back ht st (tot % 2 ^ k.pb) size j rep i2 b2 hj4 h2 hs hg
 rw [bitIn_val _ _ _ (by omega)] at a1 b1
 refine ⟨t',a1.symm,?_,?_,c2⟩
 ·unfold opOf
  simp only
  rw [← b1,if_pos rfl,c1]
 show (if j=0 then rep else takeS rep j) 0=d
 by_cases h0:j=0
 ·rw [if_pos h0,← hr,h0]
 rw [if_neg h0]
 unfold takeS
 rw [if_pos rfl,hr]
theorem atB_take (bs:List UInt8) {pos back:Nat} (h1:1≤back) (hp:pos≤bs.length):atB (bs.take pos) back=if back≤pos then bs.getD (pos-back) 0 else 0:=by
 unfold atB
 have hl:(bs.take pos).length=pos:=by rw [List.length_take];omega
 rw [hl]
 by_cases hb:back≤pos
 ·rw [if_pos ⟨h1,hb⟩,if_pos hb,List.getD_eq_getElem?_getD,List.getD_eq_getElem?_getD,List.getElem?_take,if_pos (by omega)]
 rw [if_neg (fun h=>hb h.2),if_neg hb]
theorem getD_take (bs:List UInt8) {pos i:Nat} (h:i<pos):(bs.take pos).getD i 0=bs.getD i 0:=by
 rw [List.getD_eq_getElem?_getD,List.getD_eq_getElem?_getD,List.getElem?_take,if_pos h]
theorem cyc_text {bs:List UInt8} {pos d:Nat} (hp:d+1≤pos):∀ (n:Nat),pos+n≤bs.length→(∀ i,i<n→bs.getD (pos+i) 0=bs.getD (pos+i-(d+1)) 0)→∀ i,i<n→bs.getD (pos-(d+1)+i % (d+1)) 0=bs.getD (pos+i) 0:=by
 intro n hn h i hi
 induction i using Nat.strongRecOn with
 | ind i ih =>
  rw [h i hi]
  by_cases hlt:i<d+1
  ·rw [Nat.mod_eq_of_lt hlt,show pos-(d+1)+i=pos+i-(d+1) by omega]
  have e:=ih (i-(d+1)) (by omega) (by omega)
  rw [show i % (d+1)=(i-(d+1)) % (d+1) by rw [Nat.mod_eq_sub_mod (by omega)],e,show pos+(i-(d+1))=pos+i-(d+1) by omega]
theorem cyc_row {bs:List UInt8} {pos d n:Nat} (hp:d+1≤pos) (hn:pos+n≤bs.length) (h:∀ i,i<n→bs.getD (pos+i) 0=bs.getD (pos+i-(d+1)) 0):cyc (bs.take pos) (d+1) n=(bs.drop pos).take n:=by
 have hl:(bs.take pos).length=pos:=by rw [List.length_take];omega
 apply List.ext_getElem?
 intro i
 by_cases hi:i<n
 ·unfold cyc
  rw [List.getElem?_map,List.getElem?_range hi,List.getElem?_take,if_pos hi,List.getElem?_drop]
  have hlt:pos+i<bs.length:=by omega
  rw [List.getElem?_eq_getElem hlt]
  simp only [Option.map_some]
  rw [hl,getD_take bs (by have:=Nat.mod_lt i (show 0<d+1 by omega);omega),cyc_text hp n hn h i hi,List.getD_eq_getElem?_getD,List.getElem?_eq_getElem hlt]
  rfl
 rw [List.getElem?_eq_none (by rw [cyc_length];omega),List.getElem?_eq_none (by rw [List.length_take];omega)]
theorem litOf_take {σ:Type} (co:Cod σ) (k:LK) (st tot:Nat) (rep:Nat→Nat) (bs:List UInt8) (pos:Nat) (s:CP σ) (hp:pos≤bs.length) (hb:bs.length≤16777216) :
 litOf co k st tot rep (bs.take pos) s=litAt co k.lc k.lp st tot (if 0<tot∧0<pos then (bs.getD (pos-1) 0).toNat else 0) (if rep 0+1≤pos then (bs.getD (pos-(rep 0+1)) 0).toNat else 0) 0 s:=by
 unfold litOf
 have e1:(if 0<tot then (atB (bs.take pos) 1).toNat else 0)=(if 0<tot∧0<pos then (bs.getD (pos-1) 0).toNat else 0):=by
  rw [atB_take bs (by omega) hp]
  by_cases h0:0<tot
  ·by_cases h1:0<pos
   ·rw [if_pos h0,if_pos (show 1≤pos from h1),if_pos ⟨h0,h1⟩]
   rw [if_pos h0,if_neg (show ¬ 1≤pos from h1),if_neg (fun h=>h1 h.2)]
   rfl
  rw [if_neg h0,if_neg (fun h=>h0 h.1)]
 have e2:(if rep 0<16777216 then (atB (bs.take pos) (rep 0+1)).toNat else 0)=(if rep 0+1≤pos then (bs.getD (pos-(rep 0+1)) 0).toNat else 0):=by
  rw [atB_take bs (by omega) hp]
  by_cases h1:rep 0+1≤pos
  ·rw [if_pos (show rep 0<16777216 by omega),if_pos h1,if_pos h1]
  rw [if_neg h1,if_neg h1]
  split <;> rfl
 rw [e1,e2]
theorem take_snoc (bs:List UInt8) {pos:Nat} (h:pos<bs.length):bs.take pos++[bs.getD pos 0]=bs.take (pos+1):=by
 rw [List.take_add_one,List.getD_eq_getElem?_getD,List.getElem?_eq_getElem h]
 rfl
theorem told_more (bs:List UInt8) {fr pos n:Nat} (hf:fr≤pos) (h:pos+n≤bs.length):(bs.take pos).drop fr++(bs.drop pos).take n=(bs.take (pos+n)).drop fr:=by
 rw [List.take_add,List.drop_append,List.length_take,Nat.min_eq_left (by omega),show fr-pos=0 by omega,List.drop_zero]
theorem take_more (bs:List UInt8) (pos n:Nat):bs.take pos++(bs.drop pos).take n=bs.take (pos+n):=by
 rw [List.take_add]
structure Both (B bs:List UInt8) (fr:Nat) (x:PS) (y:RS) (told:List UInt8):Prop where
 i:EncI x.s.d
 p:Pair (RD B) x.s y.s
 st:y.st=x.st
 rep:y.rep=x.rep
 c:y.C=bs.take x.pos
 t:told=(bs.take x.pos).drop fr
 f:fr≤x.pos
 n:x.pos≤bs.length
theorem Both.len {B bs:List UInt8} {fr:Nat} {x:PS} {y:RS} {told:List UInt8} (h:Both B bs fr x y told):told.length=x.pos-fr:=by
 rw [h.t,List.length_drop,List.length_take,Nat.min_eq_left h.n]
set_option maxRecDepth 100000 in
theorem op_lit {B bs:List UInt8} {F:Enc} (ht:Rng.Told B F) (k:LK) (S fr total room:Nat) {x:PS} {y:RS} {told:List UInt8} (h:Both B bs fr x y told) (hS:bs.length≤S) (hb:bs.length≤16777216) (hlt:x.pos<bs.length)
 (hg:Sub (wOp k bs fr total x none).s.d F):∃ b y',stepOf k S (total+told.length) room y=some (b,y')∧b.length=1∧Both B bs fr (wOp k bs fr total x none) y' (told++b):=by
 have K:=ranges_back ht
 have hlen:=h.len
 obtain ⟨hI,hp,h1,h2,h3,h4,h5,h6⟩:=h
 obtain ⟨yst,yrep,ys,yC⟩:=y
 obtain ⟨pos,st,rep,s⟩:=x
 simp only at hI hp h1 h2 h3 h4 h5 h6 hlt hlen
 subst h1;subst h2;subst h3
 unfold wOp at hg ⊢
 simp only at hg ⊢
 rw [hlen]
 unfold putLit at hg ⊢
 generalize hT:total+(pos-fr)=T at *
 have i1:=stays_bitAt K.inv (8+yst*16+T % 2 ^ k.pb) 0 hI
 have g1:=sub_litAt ht _ _ _ _ _ _ _ i1 hg
 obtain ⟨a1,a2⟩:=back_bitAt K (8+yst*16+T % 2 ^ k.pb) 0 0 hI hp g1
 obtain ⟨b1,b2⟩:=back_litAt K k.lc k.lp yst T (if 0<T∧0<pos then (bs.getD (pos-1) 0).toNat else 0) (if yrep 0+1≤pos then (bs.getD (pos-(yrep 0+1)) 0).toNat else 0) (bs.getD pos 0).toNat 0 i1 a2 hg
 rw [bitIn_val _ _ _ (by omega)] at a1
 rw [litIn_any] at b1
 unfold stepOf
 simp only
 rw [← a1,if_pos rfl,litOf_take _ _ _ _ _ _ _ _ (by omega) hb,← b1,UInt8.ofNat_toNat]
 refine ⟨_,_,rfl,rfl,?_⟩
 refine ⟨stays_litAt K.inv _ _ _ _ _ _ _ i1,b2,rfl,rfl,?_,?_,by simp only;omega,by simp only;omega⟩
 ·simp only
  rw [take_snoc bs hlt,lastN_all (by rw [List.length_take];omega)]
 simp only
 rw [h4,← take_snoc bs hlt,List.drop_append,List.length_take,Nat.min_eq_left (by omega),show fr-pos=0 by omega]
 rfl
set_option maxRecDepth 100000 in
theorem op_match {B bs:List UInt8} {F:Enc} (ht:Rng.Told B F) (k:LK) (S fr total room:Nat) (m:Nat×Nat) {x:PS} {y:RS} {told:List UInt8} (h:Both B bs fr x y told) (hS:bs.length≤S) (hb:bs.length≤16777216) (h2:2≤m.1) (hs:m.1≤273) (hn:x.pos+m.1≤bs.length) (hroom:m.1≤room) (hd:m.2+1≤x.pos)
 (he:∀ i,i<m.1→bs.getD (x.pos+i) 0=bs.getD (x.pos+i-(m.2+1)) 0)
 (hg:Sub (wOp k bs fr total x (some m)).s.d F):∃ b y',stepOf k S (total+told.length) room y=some (b,y')∧b.length=m.1∧Both B bs fr (wOp k bs fr total x (some m)) y' (told++b):=by
 have K:=ranges_back ht
 have hlen:=h.len
 obtain ⟨hI,hp,h1,h2',h3,h4,h5,h6⟩:=h
 obtain ⟨yst,yrep,ys,yC⟩:=y
 obtain ⟨pos,st,rep,s⟩:=x
 obtain ⟨size,d⟩:=m
 simp only at hI hp h1 h2' h3 h4 h5 h6 hlen h2 hs hn hroom hd he
 subst h1;subst h2';subst h3
 unfold wOp at hg ⊢
 simp only at hg ⊢
 rw [hlen]
 generalize hT:total+(pos-fr)=T at *
 obtain ⟨t',a1,a2,a3,a4⟩:=match_back ht k T size d yst yrep hI hp h2 hs (by omega) hg
 unfold stepOf
 simp only
 rw [a1,if_neg (by omega),a2]
 simp only
 rw [a3]
 have hl:(bs.take pos).length=pos:=by rw [List.length_take];omega
 rw [hl,if_pos ⟨hroom,hd⟩,cyc_row hd hn he]
 refine ⟨_,_,rfl,by rw [List.length_take,List.length_drop];omega,?_⟩
 refine ⟨stays_putMatch K.inv _ _ _ _ _ _ hI,a4,rfl,rfl,?_,?_,by simp only;omega,by simp only;omega⟩
 ·simp only
  rw [take_more,lastN_all (by rw [List.length_take];omega)]
 simp only
 rw [h4]
 exact told_more bs h5 hn
set_option maxRecDepth 100000 in
theorem ops_back {B bs:List UInt8} {F:Enc} (ht:Rng.Told B F) (k:LK) (S fr total n:Nat) (hS:bs.length≤S) (hb:bs.length≤16777216) (hn:n=bs.length-fr):∀ (l:List (Option (Nat×Nat))) (f:Nat) {x:PS} {y:RS} {told:List UInt8},Both B bs fr x y told→OkOps bs x.pos l→n<f+told.length→(wOps k bs fr total l x).s.d=F →
 ∃ y',chunkGo k S total n f told y=some (bs.drop fr,y')∧Both B bs fr (wOps k bs fr total l x) y' (bs.drop fr)
 | [],f,x,y,told,h,hok,hf,hF=>by
  have hpos:x.pos=bs.length:=hok
  have hlen:=h.len
  have htd:told=bs.drop fr:=by rw [h.t,hpos,List.take_length]
  have hnt:n≤told.length:=by omega
  cases f with
  | zero=>omega
  | succ f =>
   unfold chunkGo
   rw [if_pos hnt,htd]
   exact ⟨y,rfl,htd▸h⟩
 | o::l,f,x,y,told,h,hok,hf,hF=>by
  have hlen:=h.len
  have hF':(wOps k bs fr total l (wOp k bs fr total x o)).s.d=F:=hF
  have hi2:=stays_wOp (ranges_back ht).inv k bs fr total o h.i
  have hg:=sub_wOps ht k bs fr total l hi2 (by rw [hF'];exact Sub.refl _)
  have hh:x.pos<bs.length∧∃ b y',stepOf k S (total+told.length) (n-told.length) y=some (b,y')∧1≤b.length∧Both B bs fr (wOp k bs fr total x o) y' (told++b)∧OkOps bs (wOp k bs fr total x o).pos l:=by
   cases o with
   | none =>
    obtain ⟨a,c⟩:=hok
    obtain ⟨b,y',e1,e2,e3⟩:=op_lit ht k S fr total (n-told.length) h hS hb a hg
    exact ⟨a,b,y',e1,by omega,e3,c⟩
   | some m =>
    obtain ⟨a1,a2,a3,a4,a5,c⟩:=hok
    obtain ⟨b,y',e1,e2,e3⟩:=op_match ht k S fr total (n-told.length) m h hS hb a1 a2 a3 (by have:=h.f;omega) a4 a5 hg
    exact ⟨by omega,b,y',e1,by omega,e3,c⟩
  obtain ⟨hlt,b,y',e1,e2,e3,e4⟩:=hh
  cases f with
  | zero=>have:=h.f;omega
  | succ f =>
   obtain ⟨z,z1,z2⟩:=ops_back ht k S fr total n hS hb hn l f e3 e4 (by rw [List.length_append];omega) hF'
   unfold chunkGo
   rw [if_neg (by have:=h.f;omega),e1]
   exact ⟨z,z1,z2⟩
def opsB (k:LK) (bs:List UInt8) (fr total st:Nat) (rep:Nat→Nat) (pr:Pr) (l:List (Option (Nat×Nat))):List UInt8:=(wOps k bs fr (totOf total) l ⟨fr,st,rep,⟨newEnc,pr⟩⟩).s.d.close.out
end Go.Proofs.YtffehfpbdcokbaaGreat
namespace Go.Proofs.YtffehfpbdcokbaaGreat.Fnd
open Go.RowKit
structure Sq where
 lits:Int
 mat:Int
 back:Int
instance:Inhabited Sq:=⟨⟨0,0,0⟩⟩
inductive Tale
 | arg
 | malformed
 | ok (out:List UInt8)
def SqRow (w:World) (B:Nat) (A:Option Addr) (l:List Sq):Prop :=
 0<l.length→∃ b off,A=some ⟨b,off,none⟩∧b<B∧∀ k,k<l.length →
  w.cell? ⟨b,off+k*3,none⟩=some (.int .i64 (l.getD k default).lits)∧w.cell? ⟨b,off+k*3+1,none⟩=some (.int .i64 (l.getD k default).mat)∧w.cell? ⟨b,off+k*3+2,none⟩=some (.int .i64 (l.getD k default).back)
def Sq.fits (s:Sq):Prop:=(-9223372036854775808≤s.lits∧s.lits≤9223372036854775807)∧(-9223372036854775808≤s.mat∧s.mat≤9223372036854775807)∧(-9223372036854775808≤s.back∧s.back≤9223372036854775807)
theorem min2_int {P:Program} (ts:Array TypeId) (t:TypeId) (x y n:Int) (h:min x y=n) (w:World):(Builtin.min_ ts t #[.int .i64 x,.int .i64 y]).run P w=.ok (.int .i64 n) w:=by
 have e:(if y<x then y else x)=n:=by split <;> omega
 rw [← e]
 simp [Builtin.min_,Builtin.min2]
theorem max2_int {P:Program} (ts:Array TypeId) (t:TypeId) (x y n:Int) (h:max x y=n) (w:World):(Builtin.max_ ts t #[.int .i64 x,.int .i64 y]).run P w=.ok (.int .i64 n) w:=by
 have e:(if x<y then y else x)=n:=by split <;> omega
 rw [← e]
 simp [Builtin.max_,Builtin.max2]
end Go.Proofs.YtffehfpbdcokbaaGreat.Fnd
