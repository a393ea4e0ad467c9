import Derived.Test.YtffehfpbdcokbaaGreatBu11
import Derived.Test.YtffehfpbdcokbaaGreatBu13
import Derived.Test.YtffehfpbdcokbaaGreatBu25
import Derived.Test.YtffehfpbdcokbaaGreatBu36
import Derived.Test.YtffehfpbdcokbaaGreatBu43
import Derived.Test.YtffehfpbdcokbaaGreatBu44
set_option linter.unusedVariables false
set_option linter.unusedSimpArgs false
namespace Go.Proofs.YtffehfpbdcokbaaGreat
open Lib (hid)
open Go.RowKit Rng Win Lz Box
theorem two_numX {m:Nat} (h:m<65536):(UInt8.ofNat (m / 256)).toNat*256+(UInt8.ofNat m).toNat=m:=by
 rw [UInt8.toNat_ofNat',UInt8.toNat_ofNat']
 omega
def bodyB (b:List UInt8):List UInt8:=if b.length=0 then [0] else 1::UInt8.ofNat ((b.length-1) / 256)::UInt8.ofNat (b.length-1)::(b++[0])
set_option maxRecDepth 8000 in
theorem bodyB_read (S most:Nat) (b r:List UInt8) (hb:b.length≤65536) (hm:b.length≤most):d2P S most (bodyB b++r)=(b,.inr r):=by
 unfold bodyB
 by_cases h0:b.length=0
 ·rw [if_pos h0]
  have:b=[]:=List.eq_nil_of_length_eq_zero h0
  subst this
  have e:one S newDS ([0]++r)=.fin r:=by
   unfold one
   rw [if_neg (by simp)]
   rfl
  unfold d2P d2Go
  rw [e]
 rw [if_neg h0]
 have hl:b.length-1<65536:=by omega
 have htw:=two_numX hl
 have e1:∃ y,one S newDS (1::UInt8.ofNat ((b.length-1) / 256)::UInt8.ofNat (b.length-1)::(b++[0])++r)=.told b y ([0]++r):=by
  have e0:(1::UInt8.ofNat ((b.length-1) / 256)::UInt8.ofNat (b.length-1)::(b++[0])++r).getD 0 0=1:=rfl
  have hh:headN (1:UInt8).toNat=3:=by decide
  have hbad:¬ badHead newDS (1:UInt8).toNat:=by
   unfold badHead
   rintro (e | e)
   ·exact e.2.1 rfl
   exact absurd e.1 (by decide)
  have e2:twoB ((1::UInt8.ofNat ((b.length-1) / 256)::UInt8.ofNat (b.length-1)::(b++[0])++r).take 3) 1+1=b.length:=by
   show (UInt8.ofNat ((b.length-1) / 256)).toNat*256+(UInt8.ofNat (b.length-1)).toNat+1=_
   omega
  have e3:(1::UInt8.ofNat ((b.length-1) / 256)::UInt8.ofNat (b.length-1)::(b++[0])++r).drop 3=b++([0]++r):=by
   show (b++[0])++r=_
   rw [List.append_assoc]
  apply Exists.intro
  unfold one
  rw [e0,hh,if_neg (by simp),if_neg (by omega),if_neg (by simp),if_neg (by omega),if_neg hbad]
  unfold oneBody
  rw [if_pos (by decide),e2,e3,if_neg (by rw [List.length_append];omega),List.take_append_of_le_length (Nat.le_refl _),List.take_length,List.drop_append_of_le_length (Nat.le_refl _),List.drop_length,List.nil_append]
 obtain ⟨y,hy⟩:=e1
 have e4:∀ x:DS,one S x ([0]++r)=.fin r:=by
  intro x
  unfold one
  rw [if_neg (by simp)]
  rfl
 unfold d2P d2Go
 rw [hy]
 simp only
 rw [if_neg (by simp only [List.length_nil];omega)]
 cases hf:(1::UInt8.ofNat ((b.length-1) / 256)::UInt8.ofNat (b.length-1)::(b++[0])++r).length with
 | zero=>simp at hf
 | succ f =>
  unfold d2Go
  rw [e4]
  rfl
def hdRaw (numbers:Bool) (b:List UInt8) (code:UInt8):List UInt8:=(if numbers then 192::(put (bodyB b).length++put b.length) else [0])++[33,1,code]
def zs (n:Nat):List UInt8:=List.replicate (padOf n) 0
def hdPad (numbers:Bool) (b:List UInt8) (code:UInt8):List UInt8:=hdRaw numbers b code++zs (1+(hdRaw numbers b code).length)
def hdB (numbers:Bool) (b:List UInt8) (code:UInt8):List UInt8:=sealOn (UInt8.ofNat ((1+(hdPad numbers b code).length) / 4)::hdPad numbers b code)
theorem padOf_lt (n:Nat):padOf n<4:=by unfold padOf;omega
theorem padOf_mod (n:Nat):(n+padOf n) % 4=0:=by unfold padOf;omega
theorem zs_len (n:Nat):(zs n).length=padOf n:=by unfold zs;simp
theorem hdRaw_len (numbers:Bool) (b:List UInt8) (code:UInt8):(hdRaw numbers b code).length≤22:=by
 have h1:=(put_len (bodyB b).length).2
 have h2:=(put_len b.length).2
 unfold hdRaw
 cases numbers
 ·simp
 simp only [if_true,List.length_append,List.length_cons,List.length_nil]
 omega
theorem hdPad_len (numbers:Bool) (b:List UInt8) (code:UInt8):(1+(hdPad numbers b code).length) % 4=0∧(hdPad numbers b code).length≤25∧3≤(hdPad numbers b code).length:=by
 have h1:=hdRaw_len numbers b code
 have h2:=padOf_mod (1+(hdRaw numbers b code).length)
 have h3:=padOf_lt (1+(hdRaw numbers b code).length)
 have h4:4≤(hdRaw numbers b code).length:=by unfold hdRaw;simp only [List.length_append,List.length_cons,List.length_nil];split <;> simp
 unfold hdPad
 rw [List.length_append,zs_len]
 omega
theorem hdB_len (numbers:Bool) (b:List UInt8) (code:UInt8):(hdB numbers b code).length=(hdPad numbers b code).length+5:=by
 unfold hdB sealOn
 rw [List.length_append,sealB_len,List.length_cons]
theorem hdLen_hdB (numbers:Bool) (b r:List UInt8) (code:UInt8):hdLen (hdB numbers b code++r)=(hdB numbers b code).length:=by
 have h:=hdPad_len numbers b code
 rw [hdB_len]
 unfold hdLen
 have e:(hdB numbers b code++r).getD 0 0=UInt8.ofNat ((1+(hdPad numbers b code).length) / 4):=rfl
 rw [e,UInt8.toNat_ofNat']
 omega
theorem bkFilter_code {code:UInt8} (h:code.toNat≤40) (z p w:Nat):bkFilter (code::List.replicate z 0) p w=.ok (winOf code.toNat,p,w):=by
 unfold bkFilter
 simp only
 rw [if_neg (by omega),if_neg (by omega),if_neg (by intro h2;exact h2 (fun x hx=>(List.mem_replicate.1 hx).2))]
theorem number_one (r:List UInt8):number (1::r)=(1,1,0):=number_put (n:=1) (by decide) r
theorem number_33 (r:List UInt8):number (33::r)=(33,1,0):=number_put (n:=33) (by decide) r
theorem bkKind_code {code:UInt8} (h:code.toNat≤40) (z p w:Nat):bkKind ([33,1,code]++List.replicate z 0) p w=.ok (winOf code.toNat,p,w):=by
 unfold bkKind
 rw [show ([33,1,code]++List.replicate z 0:List UInt8)=33::1::code::List.replicate z 0 from rfl,number_33]
 rw [if_neg (by simp),if_neg (by simp)]
 unfold bkSet
 rw [show (33::1::code::List.replicate z 0:List UInt8).drop 1=1::code::List.replicate z 0 from rfl,number_one]
 rw [if_neg (by simp),if_neg (by simp)]
 exact bkFilter_code h z p w
theorem bkBody_hd (numbers:Bool) (b:List UInt8) {code:UInt8} (h:code.toNat≤40) (hb:b.length≤65536) :
 bkBody (hdPad numbers b code)=.ok (winOf code.toNat,if numbers then (bodyB b).length else M64',if numbers then b.length else M64'):=by
 have hbl:1≤(bodyB b).length∧(bodyB b).length≤65540:=by
  unfold bodyB
  split
  ·simp
  simp only [List.length_cons,List.length_append,List.length_nil];omega
 unfold hdPad zs
 generalize padOf (1+(hdRaw numbers b code).length)=z
 unfold hdRaw
 cases numbers with
 | false =>
  show bkBody (0::([33,1,code]++List.replicate z 0))=_
  unfold bkBody
  simp only
  rw [if_neg (by simp)]
  unfold bkPacked
  rw [if_neg (by simp)]
  unfold bkWhole
  rw [if_neg (by simp)]
  exact bkKind_code h z _ _
 | true =>
  have e:((if true=true then 192::(put (bodyB b).length++put b.length) else [0])++[33,1,code])++List.replicate z 0=192::(put (bodyB b).length++(put b.length++([33,1,code]++List.replicate z 0))):=by
   simp
  rw [e]
  have n1:=number_put (n:=(bodyB b).length) (by omega) (put b.length++([33,1,code]++List.replicate z 0))
  have n2:=number_put (n:=b.length) (by omega) ([33,1,code]++List.replicate z 0)
  unfold bkBody
  simp only
  rw [if_neg (by decide)]
  unfold bkPacked
  rw [if_pos (by decide),n1]
  rw [if_neg (by simp),if_neg (by simp only;omega)]
  unfold bkWhole
  simp only
  rw [List.drop_append_of_le_length (Nat.le_refl _),List.drop_length,List.nil_append,if_pos (by decide),n2,if_neg (by simp)]
  simp only
  rw [List.drop_append_of_le_length (Nat.le_refl _),List.drop_length,List.nil_append]
  exact bkKind_code h z _ _
theorem blockOf_hd (numbers:Bool) (b:List UInt8) {code:UInt8} (h:code.toNat≤40) (hb:b.length≤65536) :
 blockOf (hdB numbers b code)=(winOf code.toNat,(hdB numbers b code).length,if numbers then (bodyB b).length else M64',if numbers then b.length else M64',0):=by
 have hp:=hdPad_len numbers b code
 have hl:=hdB_len numbers b code
 obtain ⟨L,hL⟩:∃ L,UInt8.ofNat ((1+(hdPad numbers b code).length) / 4)=L:=⟨_,rfl⟩
 have hLn:(L.toNat+1)*4=(hdB numbers b code).length:=by
  rw [← hL,UInt8.toNat_ofNat',hl]
  omega
 have hc:hdB numbers b code=L::(hdPad numbers b code++sealB (L::hdPad numbers b code)):=by
  unfold hdB sealOn
  rw [hL]
  rfl
 have hlen:(L::(hdPad numbers b code++sealB (L::hdPad numbers b code))).length=(hdB numbers b code).length:=by rw [← hc]
 have hs:=sealed_seal (L::hdPad numbers b code)
 have hs2:sealedB (hdB numbers b code)=true:=by unfold hdB;rw [hL];exact hs
 rw [hc] at hs2
 conv=>lhs;rw [hc]
 unfold blockOf
 simp only
 rw [hlen,hLn,if_neg (by omega)]
 have hL0:¬ L=0:=by
  intro e
  rw [e] at hLn
  have:(0:UInt8).toNat=0:=rfl
  omega
 have ht:(L::(hdPad numbers b code++sealB (L::hdPad numbers b code))).take (hdB numbers b code).length=L::(hdPad numbers b code++sealB (L::hdPad numbers b code)):=List.take_of_length_le (by omega)
 rw [if_neg hL0,ht,if_neg (by rw [hs2];simp)]
 have hd:((L::(hdPad numbers b code++sealB (L::hdPad numbers b code))).drop 1).take ((hdB numbers b code).length-5)=hdPad numbers b code:=by
  show (hdPad numbers b code++sealB (L::hdPad numbers b code)).take _=_
  rw [hl,Nat.add_sub_cancel,List.take_append_of_le_length (Nat.le_refl _),List.take_length]
 rw [hd,bkBody_hd numbers b h hb]
 rfl
open Go.RowKit Rng Win Lz Box
def blockB (kind:Int) (numbers:Bool) (b:List UInt8) (code:UInt8):List UInt8:=hdB numbers b code++(bodyB b++(zs ((hdB numbers b code).length+(bodyB b).length)++chkB kind b))
def recB (kind:Int) (numbers:Bool) (b:List UInt8) (code:UInt8):Nat×Nat:=((hdB numbers b code).length+(bodyB b).length+chkLen kind,b.length)
theorem bodyB_len {b:List UInt8} (hb:b.length≤65536):1≤(bodyB b).length∧(bodyB b).length≤65540:=by
 unfold bodyB
 split
 ·simp
 simp only [List.length_cons,List.length_append,List.length_nil];omega
theorem zs_take (n:Nat) (r:List UInt8):(zs n++r).take (padOf n)=List.replicate (padOf n) 0:=by
 rw [List.take_append_of_le_length (by rw [zs_len];omega)]
 exact List.take_of_length_le (by rw [zs_len];omega)
theorem zs_drop (n:Nat) (r:List UInt8):(zs n++r).drop (padOf n)=r:=by
 have h:(zs n).drop (padOf n)=[]:=List.drop_of_length_le (by rw [zs_len];omega)
 rw [List.drop_append_of_le_length (by rw [zs_len];omega),h,List.nil_append]
theorem xTail_made (kind:Int) (numbers:Bool) {code:UInt8} (h:code.toNat≤40) {b:List UInt8} (hb:b.length≤65536) (r:List UInt8) :
 xTail (blockOf (hdB numbers b code)) kind (hdB numbers b code).length (bodyB b).length b (zs ((hdB numbers b code).length+(bodyB b).length)++(chkB kind b++r))=.ok b (recB kind numbers b code) r:=by
 rw [blockOf_hd numbers b h hb]
 have hl:=bodyB_len hb
 have hc:=chkB_len kind b
 unfold xTail
 rw [if_neg (by
  simp only
  cases numbers <;> simp [M64'])]
 unfold recB
 generalize (hdB numbers b code).length=H
 generalize hn:H+(bodyB b).length=n
 rw [if_neg (by rw [List.length_append,List.length_append,zs_len];omega),zs_take,zs_drop,List.take_append_of_le_length (by omega),List.take_of_length_le (by omega),if_neg (by simp)]
 have e:(zs n++(chkB kind b++r)).drop (padOf n+chkLen kind)=r:=by
  rw [← List.drop_drop,zs_drop,List.drop_append_of_le_length (by omega),List.drop_of_length_le (by omega),List.nil_append]
 rw [e]
theorem xBlock_made (budget:Nat) (kind:Int) (told:Nat) (numbers:Bool) {code:UInt8} (h:code.toNat≤40) {b:List UInt8} (hb:b.length≤65536) (hw:winOf code.toNat≤budget) (ht:told+b.length≤16777216) (r:List UInt8) :
 xBlock budget kind told (blockB kind numbers b code++r)=.ok b (recB kind numbers b code) r:=by
 have hc:blockB kind numbers b code++r=hdB numbers b code++(bodyB b++(zs ((hdB numbers b code).length+(bodyB b).length)++(chkB kind b++r))):=by
  unfold blockB
  simp only [List.append_assoc]
 rw [hc]
 unfold xBlock
 rw [hdLen_hdB,if_neg (by rw [List.length_append];omega),List.take_append_of_le_length (Nat.le_refl _),List.take_length,List.drop_append_of_le_length (Nat.le_refl _),List.drop_length,List.nil_append]
 have hm:=xTail_made kind numbers h hb r
 have hbo:=blockOf_hd numbers b h hb
 unfold xBody
 rw [show (blockOf (hdB numbers b code)).2.2.2.2=0 by rw [hbo],show (blockOf (hdB numbers b code)).1=winOf code.toNat by rw [hbo],if_neg (by simp),if_neg (by omega),bodyB_read _ _ b _ hb (by omega)]
 simp only
 rw [show (bodyB b++(zs ((hdB numbers b code).length+(bodyB b).length)++(chkB kind b++r))).length-(zs ((hdB numbers b code).length+(bodyB b).length)++(chkB kind b++r)).length=(bodyB b).length by rw [List.length_append];omega]
 exact hm
def blocksB (kind:Int) (numbers:Bool) (code:UInt8) (l:List (List UInt8)):List UInt8:=l.flatMap fun b=>blockB kind numbers b code
def recsX (kind:Int) (numbers:Bool) (code:UInt8) (l:List (List UInt8)):List (Nat×Nat):=l.map fun b=>recB kind numbers b code
theorem blockB_head (kind:Int) (numbers:Bool) (b r:List UInt8) (code:UInt8):(blockB kind numbers b code++r).getD 0 0≠0∧1≤(blockB kind numbers b code).length:=by
 have hp:=hdPad_len numbers b code
 have e:(blockB kind numbers b code++r).getD 0 0=UInt8.ofNat ((1+(hdPad numbers b code).length) / 4):=rfl
 refine ⟨?_,?_⟩
 ·rw [e]
  intro h
  have:=congrArg UInt8.toNat h
  rw [UInt8.toNat_ofNat'] at this
  have h0:(0:UInt8).toNat=0:=rfl
  omega
 unfold blockB
 rw [List.length_append,hdB_len]
 omega
theorem xBlocks_made (budget:Nat) (kind:Int) (numbers:Bool) {code:UInt8} (h:code.toNat≤40) (hw:winOf code.toNat≤budget) (s:List UInt8) (hs:1≤s.length) (hs0:s.getD 0 0=0):∀ (l:List (List UInt8)) (f:Nat) (recs:List (Nat×Nat)) (out:List UInt8),(∀ b∈l,b.length≤65536)→out.length+l.flatten.length≤16777216→(blocksB kind numbers code l++s).length<f →
 xBlocks budget kind f recs out (blocksB kind numbers code l++s)=(out++l.flatten,.inr (recs++recsX kind numbers code l,s))
 | [],0,_,_,_,_,hf=>absurd hf (by omega)
 | [],f+1,recs,out,_,_,hf=>by
  show xBlocks budget kind (f+1) recs out s=_
  unfold xBlocks
  rw [if_neg (by omega),if_pos hs0]
  simp [recsX]
 | b::l,0,_,_,_,_,hf=>absurd hf (by omega)
 | b::l,f+1,recs,out,hl,ho,hf=>by
  have hb:=hl b (by simp)
  have hc:blocksB kind numbers code (b::l)++s=blockB kind numbers b code++(blocksB kind numbers code l++s):=by
   unfold blocksB
   rw [List.flatMap_cons,List.append_assoc]
  rw [hc] at hf ⊢
  obtain ⟨h1,h2⟩:=blockB_head kind numbers b (blocksB kind numbers code l++s) code
  rw [List.flatten_cons,List.length_append] at ho
  unfold xBlocks
  rw [if_neg (by rw [List.length_append];omega),if_neg h1,xBlock_made budget kind out.length numbers h hb hw (by omega)]
  simp only
  rw [xBlocks_made budget kind numbers h hw s hs hs0 l f _ _ (fun c hc=>hl c (List.mem_cons_of_mem _ hc)) (by rw [List.length_append];omega) (by rw [List.length_append] at hf;omega)]
  simp [recsX]
open Go.RowKit Rng Win Lz Box
def fits63 (l:List (Nat×Nat)):Prop:=∀ p∈l,p.1<9223372036854775808∧p.2<9223372036854775808
theorem xNum_put {n:Nat} (h:n<9223372036854775808) (r:List UInt8):xNum n (put n++r)=.inr r:=by
 unfold xNum
 rw [number_put h r,if_neg (by simp),if_neg (by simp),List.drop_append_of_le_length (Nat.le_refl _),List.drop_length,List.nil_append]
theorem xNums_recs (r:List UInt8):∀ (l:List (Nat×Nat)),fits63 l→xNums (l.flatMap fun p=>[p.1,p.2]) (recsB l++r)=.inr r
 | [],_=>rfl
 | p::l,h=>by
  have hp:=h p (by simp)
  have e1:(p::l).flatMap (fun p=>[p.1,p.2])=p.1::p.2::l.flatMap (fun p=>[p.1,p.2]):=rfl
  have e2:recsB (p::l)++r=put p.1++(put p.2++(recsB l++r)):=by
   unfold recsB
   rw [List.flatMap_cons]
   simp only [List.append_assoc]
  rw [e1,e2]
  unfold xNums
  rw [xNum_put hp.1]
  simp only
  unfold xNums
  rw [xNum_put hp.2]
  exact xNums_recs r l (fun q hq=>h q (List.mem_cons_of_mem _ hq))
def idxRaw (recs:List (Nat×Nat)):List UInt8:=headB recs++recsB recs
def idxPad (recs:List (Nat×Nat)):List UInt8:=idxRaw recs++zs (idxRaw recs).length
def idxB (recs:List (Nat×Nat)):List UInt8:=sealOn (idxPad recs)
theorem idxRaw_len (recs:List (Nat×Nat)):2≤(idxRaw recs).length∧(idxRaw recs).length≤10+18*recs.length:=by
 have h1:=put_len recs.length
 have h2:=recsB_len recs
 unfold idxRaw headB
 rw [List.length_append,List.length_cons]
 omega
theorem idxB_len (recs:List (Nat×Nat)):(idxB recs).length=(idxRaw recs).length+padOf (idxRaw recs).length+4∧(idxB recs).length % 4=0:=by
 have h:=padOf_mod (idxRaw recs).length
 unfold idxB sealOn idxPad
 rw [List.length_append,List.length_append,zs_len,sealB_len]
 omega
theorem xIndex_made (recs:List (Nat×Nat)) (hn:recs.length<9223372036854775808) (hf:fits63 recs) (r:List UInt8):xIndex recs (idxB recs++r)=.inr ((idxB recs).length,r):=by
 have hl:=idxRaw_len recs
 have hb:=idxB_len recs
 have hc:idxB recs++r=0::(put recs.length++(recsB recs++(zs (idxRaw recs).length++(sealB (idxPad recs)++r)))):=by
  have hi:idxPad recs=0::(put recs.length++(recsB recs++zs (idxRaw recs).length)):=by
   show (0::put recs.length)++recsB recs++zs (idxRaw recs).length=_
   simp only [List.append_assoc,List.cons_append]
  have h2:idxB recs++r=idxPad recs++(sealB (idxPad recs)++r):=by
   show (idxPad recs++sealB (idxPad recs))++r=_
   rw [List.append_assoc]
  refine h2.trans ((congrArg (· ++ (sealB (idxPad recs)++r)) hi).trans ?_)
  simp only [List.append_assoc,List.cons_append]
 have hlen:(idxB recs++r).length-(zs (idxRaw recs).length++(sealB (idxPad recs)++r)).length=(idxRaw recs).length:=by
  rw [List.length_append,List.length_append,List.length_append,zs_len,sealB_len]
  omega
 have htake:(idxB recs++r).take ((idxRaw recs).length+padOf (idxRaw recs).length)=idxPad recs:=by
  have hpl:(idxPad recs).length=(idxRaw recs).length+padOf (idxRaw recs).length:=by unfold idxPad;rw [List.length_append,zs_len]
  unfold idxB sealOn
  rw [List.append_assoc,List.take_append_of_le_length (by omega)]
  exact List.take_of_length_le (by omega)
 unfold xIndex recN
 have hd:(idxB recs++r).drop 1=put recs.length++(recsB recs++(zs (idxRaw recs).length++(sealB (idxPad recs)++r))):=by rw [hc];rfl
 rw [hd]
 unfold xNums
 rw [xNum_put hn]
 simp only
 rw [xNums_recs _ recs hf]
 simp only
 rw [hlen,if_neg (by rw [List.length_append,List.length_append,zs_len,sealB_len];omega),zs_take,zs_drop,htake,List.take_append_of_le_length (by rw [sealB_len];omega),List.take_of_length_le (by rw [sealB_len];omega),if_neg (by simp)]
 have e:(zs (idxRaw recs).length++(sealB (idxPad recs)++r)).drop (padOf (idxRaw recs).length+4)=r:=by
  rw [← List.drop_drop,zs_drop,List.drop_append_of_le_length (by rw [sealB_len];omega),List.drop_of_length_le (by rw [sealB_len];omega),List.nil_append]
 rw [e,hb.1]
def headM (kc:UInt8):List UInt8:=magic++sealOn [0,kc]
theorem headM_ok {kc:UInt8} (h:kc=0∨kc=1∨kc=4):headOf (headM kc)=((kc.toNat:Int),0)∧(headM kc).length=12:=by
 have hl:(headM kc).length=12:=rfl
 refine ⟨?_,hl⟩
 have hs:=sealed_seal [0,kc]
 unfold headOf
 rw [if_neg (by omega)]
 have e1:(headM kc).take 6=magic:=rfl
 have e2:((headM kc).take 12).drop 6=sealOn [0,kc]:=rfl
 have e3:(headM kc).getD 6 0=0:=rfl
 have e4:(headM kc).getD 7 0=kc:=rfl
 rw [e1,e2,e3,e4,if_neg (by rw [hs];simp),if_neg (by unfold flagsOk;simp [h])]
def footM (k:Nat) (kc:UInt8):List UInt8:=sealB (four k++[0,kc])++(four k++[0,kc])++[89,90]
theorem footM_ok {kc:UInt8} (h:kc=0∨kc=1∨kc=4) {k:Nat} (hk:k<4294967296):footOf (footM k kc)=((kc.toNat:Int),(k+1)*4,0)∧(footM k kc).length=12:=by
 have hl:(footM k kc).length=12:=rfl
 refine ⟨?_,hl⟩
 unfold footOf
 rw [if_neg (by omega)]
 have e1:((footM k kc).drop 4).take 6=four k++[0,kc]:=rfl
 have e2:(footM k kc).take 4=sealB (four k++[0,kc]):=rfl
 have e3:((footM k kc).take 12).drop 10=[89,90]:=rfl
 have e4:(footM k kc).getD 8 0=0:=rfl
 have e5:(footM k kc).getD 9 0=kc:=rfl
 have e6:hiNum (footM k kc) 4=((((0*256+(UInt8.ofNat (k / 16777216)).toNat)*256+(UInt8.ofNat (k / 65536)).toNat)*256+(UInt8.ofNat (k / 256)).toNat)*256+(UInt8.ofNat k).toNat):=rfl
 have e7:hiNum (footM k kc) 4=k:=by
  rw [e6,UInt8.toNat_ofNat',UInt8.toNat_ofNat',UInt8.toNat_ofNat',UInt8.toNat_ofNat']
  omega
 rw [e1,e2,e3,e4,e5,e7,if_neg (by simp),if_neg (by unfold flagsOk;simp [h])]
def madeX (kc:UInt8) (numbers:Bool) (code:UInt8) (l:List (List UInt8)):List UInt8 :=
 headM kc++(blocksB (kc.toNat:Int) numbers code l++(idxB (recsX (kc.toNat:Int) numbers code l)++footM ((idxB (recsX (kc.toNat:Int) numbers code l)).length / 4-1) kc))
theorem recsX_fits (kind:Int) (numbers:Bool) (code:UInt8) (l:List (List UInt8)) (hl:∀ b∈l,b.length≤65536):fits63 (recsX kind numbers code l):=by
 intro p hp
 obtain ⟨b,hb,rfl⟩:=List.mem_map.1 hp
 have h1:=hl b hb
 have h2:=hdB_len numbers b code
 have h3:=hdPad_len numbers b code
 have h4:=bodyB_len h1
 have h5:chkLen kind≤8:=by
  unfold chkLen
  split
  ·omega
  split <;> omega
 unfold recB
 simp only
 omega
theorem idxB_head (recs:List (Nat×Nat)) (r:List UInt8):(idxB recs++r).getD 0 0=0:=rfl
theorem madeX_read {kc:UInt8} (hk:kc=0∨kc=1∨kc=4) (numbers:Bool) {code:UInt8} (h:code.toNat≤40) {budget:Nat} {l:List (List UInt8)} (hw:l=[]∨winOf code.toNat≤budget) (hl:∀ b∈l,b.length≤65536) (ht:l.flatten.length≤16777216) (hn:l.length≤1000) (r:List UInt8) :
 xMem budget (madeX kc numbers code l++r)=(l.flatten,.inr r):=by
 obtain ⟨h1,h2⟩:=headM_ok hk
 obtain ⟨R,hR⟩:∃ R,recsX (kc.toNat:Int) numbers code l=R:=⟨_,rfl⟩
 have hRl:R.length=l.length:=by rw [← hR];unfold recsX;rw [List.length_map]
 have hRf:fits63 R:=by rw [← hR];exact recsX_fits _ _ _ _ hl
 have hi1:=idxB_len R
 have hi2:=idxRaw_len R
 obtain ⟨s,hs⟩:∃ s,idxB R++(footM ((idxB R).length / 4-1) kc++r)=s:=⟨_,rfl⟩
 have hs1:1≤s.length:=by rw [← hs,List.length_append];omega
 have hs0:s.getD 0 0=0:=by rw [← hs];exact idxB_head R _
 have hc:madeX kc numbers code l++r=headM kc++(blocksB (kc.toNat:Int) numbers code l++s):=by
  unfold madeX
  rw [hR,← hs]
  simp only [List.append_assoc]
 rw [hc]
 unfold xMem
 rw [if_neg (by rw [List.length_append];omega),List.take_append_of_le_length (by omega),List.take_of_length_le (by omega),h1,if_neg (by simp),List.drop_append_of_le_length (by omega),List.drop_of_length_le (by omega),List.nil_append]
 have hx:xBlocks budget (kc.toNat:Int) ((headM kc++(blocksB (kc.toNat:Int) numbers code l++s)).length+1) [] [] (blocksB (kc.toNat:Int) numbers code l++s)=(l.flatten,.inr (R,s)):=by
  rcases hw with rfl | hw
  ·have hR0:R=[]:=by rw [← hR];rfl
   subst hR0
   show xBlocks budget (kc.toNat:Int) _ [] [] s=_
   unfold xBlocks
   rw [if_neg (by omega),if_pos hs0]
   rfl
  rw [xBlocks_made budget (kc.toNat:Int) numbers h hw s hs1 hs0 l _ [] [] hl (by simpa using ht) (by rw [@List.length_append _ (headM kc)];omega),hR]
  rfl
 rw [hx]
 simp only
 unfold xEnd
 rw [← hs,xIndex_made R (by omega) hRf]
 simp only
 obtain ⟨k,hk2⟩:∃ k,(idxB R).length / 4-1=k:=⟨_,rfl⟩
 rw [hk2]
 have hpl:=padOf_lt (idxRaw R).length
 obtain ⟨f1,f2⟩:=footM_ok hk (k:=k) (by omega)
 rw [if_neg (by rw [List.length_append];omega),List.take_append_of_le_length (by omega),List.take_of_length_le (by omega),f1,if_neg (by simp),if_neg (by simp only;omega),List.drop_append_of_le_length (by omega),List.drop_of_length_le (by omega),List.nil_append]
open Go.RowKit Rng Win Lz Box
theorem row_cellsX (w:World) (T:TypeId) (bs:List UInt8) (cs:Array Value) (h:cs=(bs.map byteV).toArray):BRow (w.alloc (.cells cs T)) (w.heap.size+1) (some ⟨w.heap.size,0,none⟩) bs:=by
 intro _
 subst h
 refine ⟨w.heap.size,0,rfl,Nat.lt_succ_self _,fun j hj=>?_⟩
 have hp:=Pts.new w (bs.map byteV).toArray T
 rw [hp.cell,Nat.zero_add,List.getElem?_toArray,List.getElem?_map,List.getElem?_eq_getElem hj,List.getD_eq_getElem?_getD,List.getElem?_eq_getElem hj]
 rfl
theorem number20_p (m:Nat) (w:World) (hm:m<9223372036854775808):Calls Tryz.prog 43 #[.int .u64 (m:Int)] w fun e w'=>∃ v,e=.returned v∧OwnB w' 5 w.heap.size v (put m)∧Below w.heap.size w w':=by
 have HN:=hid (rputNumber_p m w (by omega))
 have HM:=hid hm
 clear hm
 go_enter Tryz.func43,Tryz.ntmps43
 go_wp2_with fail
 refine HN.out.mono ?_;rintro e w1 ⟨h1,h2,h3⟩
 obtain ⟨v,rfl,ho⟩:=h1 HM.out
 have HO:=hid (And.intro ho h3)
 clear h1 h2 h3 ho
 go_wp2
 go_ret
 exact ⟨_,rfl,HO.out.1,HO.out.2⟩
set_option maxHeartbeats 1000000 in
theorem chunks_p (A:Option Addr) (bs:List UInt8) (n c B:Nat) (w:World) (hn:n=bs.length) (hr:BRow w B A bs) (hB:B≤w.heap.size) (hc:n≤c) (hl:n≤65536) :
 Calls Tryz.prog 44 #[.slice A n c] w fun e w'=>∃ v,e=.returned v∧OwnB w' 5 w.heap.size v (bodyB bs)∧Below w.heap.size w w':=by
 by_cases h0:n=0
 ·have hbs:bs=[]:=List.eq_nil_of_length_eq_zero (by omega)
  subst h0
  subst hbs
  clear hn hr hc hl
  go_enter Tryz.func44,Tryz.ntmps44
  go_wp2
  refine wp_loop_rounds 1 ?_
  rw [rounds_succ]
  go_wp2_with (at_builtin;refine wpList_append_bytes _ rfl (.tmp 31) (.tmp 32) 22 rfl 5 w.heap.size Tryz.underlying22 Tryz.info_u8 (.slice none 0 0) [] rfl ?own1 (some ⟨w.heap.size,0,none⟩) 1 1 (w.heap.size+1) [0] rfl rfl ?row1 ?len1 ?base1 ?next1)
  case own1=>exact OwnB.nil _ _ _
  case row1=>exact BRow.oneB w _ 0
  case len1=>decide
  case base1=>simp
  case next1 =>
  intro v1 w1 hown1 hfrm1 hnew1
  have H1:Hid (OwnB w1 5 w.heap.size v1 ([]++[0])∧Below w.heap.size w w1):=hid ⟨hown1,((Below.refl _ w).alloc (Nat.le_refl _) _).trans (hfrm1.below (by simp) (fun q hq=>by cases hq))⟩
  clear hown1 hfrm1 hnew1
  go_wp2
  go_ret
  exact ⟨_,rfl,H1.out.1,H1.out.2⟩
 obtain ⟨N1,hN1⟩:∃ N1,n-1=N1:=⟨_,rfl⟩
 have hn1:(n:Int)-1=(N1:Int):=by omega
 have hn1w:IntKind.i64.wrap (N1:Int)=(N1:Int):=Go.IntWalk.i64_in _ (by omega)
 obtain ⟨h1,hh1⟩:∃ x,UInt8.ofNat (N1 / 256)=x:=⟨_,rfl⟩
 obtain ⟨h2,hh2⟩:∃ x,UInt8.ofNat N1=x:=⟨_,rfl⟩
 have sh:(N1:Int) / 256=((N1 / 256:Nat):Int):=by omega
 have b1:=u8_wrap_nat (N1 / 256)
 have b2:=u8_wrap_nat N1
 rw [hh1,← sh] at b1
 rw [hh2] at b2
 have hBB:bodyB bs=1::h1::h2::(bs++[0]):=by
  unfold bodyB
  rw [if_neg (by omega),show bs.length-1=N1 by omega,hh1,hh2]
 have hmin:min (n:Int) 65536=(n:Int):=by omega
 have f1:=fun w=>Fnd.min2_int (P:=Tryz.prog) #[3,3] 3 _ _ _ hmin w
 have hnp:(0:Int)<(n:Int):=by omega
 have hs1:=fun w=>slice_toX A n c n (Nat.le_refl _) hc w
 have hs2:=fun w=>slice_fromX A n c n (Nat.le_refl _) hc w
 rw [Nat.sub_self] at hs2
 obtain ⟨A',hA'⟩:∃ A',(if c=n then A else A.map (·.add n))=A':=⟨_,rfl⟩
 obtain ⟨c',hc'⟩:∃ c',c-n=c':=⟨_,rfl⟩
 simp only [hA',hc'] at hs2
 have HR:=hid hr
 have HBB:=hid hBB
 have HN:=hid (And.intro hn (And.intro hB hl))
 clear hr hBB hn hB sh hh1 hh2 hN1 hA' hc' h0 hmin hc
 go_enter Tryz.func44,Tryz.ntmps44
 go_wp2
 refine wp_loop_rounds 2 ?_
 rw [rounds_succ]
 go_wp2_with (at_builtin;refine wpList_append_bytes _ rfl (.tmp 12) (.tmp 21) 22 rfl 5 w.heap.size Tryz.underlying22 Tryz.info_u8 (.slice none 0 0) [] rfl ?own1 (some ⟨w.heap.size,0,none⟩) 3 3 (w.heap.size+1) [1,h1,h2] rfl rfl ?row1 ?len1 ?base1 ?next1)
 case own1=>exact OwnB.nil _ _ _
 case row1=>exact row_cellsX w _ [1,h1,h2] _ rfl
 case len1=>simp
 case base1=>simp
 case next1 =>
 intro v1 w1 hown1 hfrm1 hnew1
 have hb1:Below w.heap.size w w1:=((Below.refl _ w).alloc (Nat.le_refl _) _).trans (hfrm1.below (by simp) (fun q hq=>by cases hq))
 obtain ⟨A3,k3,rfl,-,-,-⟩:=hown1.slice
 have O1:=hid hown1
 have B1:=hid hb1
 clear hown1 hfrm1 hnew1 hb1
 go_wp2_with (at_builtin;refine wpList_append_bytes _ rfl (.tmp 23) (.tmp 26) 22 rfl 5 w.heap.size Tryz.underlying22 Tryz.info_u8 _ ([]++[1,h1,h2]) rfl ?own2 A n c B bs rfl ?lenn ?row2 ?len2 ?base2 ?next2)
 case own2=>exact O1.out
 case lenn=>exact HN.out.1
 case row2=>exact HR.out.below (B1.out.mono HN.out.2.1)
 case len2=>have:=HN.out.1;have:=HN.out.2.2;simp;omega
 case base2=>exact B1.out.size
 case next2 =>
 intro v2 w2 hown2 hfrm2 hnew2
 have hb2:Below w.heap.size w w2:=B1.out.trans (hfrm2.below B1.out.size (fun q hq=>(O1.out.lt hq).1))
 obtain ⟨A4,k4,rfl,-,-,-⟩:=hown2.slice
 have O2:=hid hown2
 have B2:=hid hb2
 clear hown2 hfrm2 hnew2 hb2
 go_wp2
 rw [rounds_succ]
 go_wp2_with (at_builtin;refine wpList_append_bytes _ rfl (.tmp 31) (.tmp 32) 22 rfl 5 w.heap.size Tryz.underlying22 Tryz.info_u8 _ ([]++[1,h1,h2]++bs) rfl ?own3 (some ⟨w2.heap.size,0,none⟩) 1 1 (w2.heap.size+1) [0] rfl rfl ?row3 ?len3 ?base3 ?next3)
 case own3=>exact O2.out.alloc _
 case row3=>exact BRow.oneB w2 _ 0
 case len3=>have:=HN.out.1;have:=HN.out.2.2;simp;omega
 case base3=>have:=B2.out.size;simp;omega
 case next3 =>
 intro v3 w3 hown3 hfrm3 hnew3
 have H3:Hid (OwnB w3 5 w.heap.size v3 (bodyB bs)∧Below w.heap.size w w3):=hid ⟨by rw [HBB.out];simpa [List.append_assoc] using hown3,(B2.out.alloc B2.out.size _).trans (hfrm3.below (by have:=B2.out.size;simp;omega) (fun q hq=>(O2.out.lt hq).1))⟩
 clear hown3 hfrm3 hnew3
 go_wp2
 go_ret
 exact ⟨_,rfl,H3.out.1,H3.out.2⟩
theorem chk_sum2 (k:Int) (bs:List UInt8):∃ X:Nat,X<18446744073709551616∧chkB k bs=leB X (chkLen k)∧((k=1∧chkLen k=4∧X=crc32 bs)∨(k=4∧chkLen k=8∧X=crc64 bs)∨(k≠1∧k≠4∧chkLen k=0∧X=0)):=by
 unfold chkB chkLen
 by_cases h1:k=1
 ·rw [if_pos h1,if_pos h1]
  exact ⟨crc32 bs,Nat.lt_of_lt_of_le (c32_lt32 bs) (by decide),rfl,.inl ⟨h1,rfl,rfl⟩⟩
 rw [if_neg h1,if_neg h1]
 by_cases h4:k=4
 ·rw [if_pos h4,if_pos h4]
  exact ⟨crc64 bs,c64_lt64 bs,rfl,.inr (.inl ⟨h4,rfl,rfl⟩)⟩
 rw [if_neg h4,if_neg h4]
 exact ⟨0,by decide,rfl,.inr (.inr ⟨h1,h4,rfl,rfl⟩)⟩
set_option maxHeartbeats 2000000 in
theorem sum20_p (k:Int) (A:Option Addr) (bs:List UInt8) (n c B:Nat) (w:World) (hn:n=bs.length) (hr:BRow w B A bs) (hl:bs.length≤140737488355328) :
 Calls Tryz.prog 45 #[.int .i64 k,.slice A n c] w fun e w'=>∃ v,e=.returned v∧OwnB w' 5 w.heap.size v (chkB k bs)∧Below w.heap.size w w':=by
 obtain ⟨X,hX,hchk,hcase⟩:=chk_sum2 k bs
 obtain ⟨N,hN⟩:∃ N,chkLen k=N:=⟨_,rfl⟩
 rw [hN] at hchk hcase
 rw [hchk]
 have H32:=hid (rcrc32_any' A bs n c B w hn hr hl)
 have H64:=hid (rcrc64_any' A bs n c B w hn hr hl)
 have HX:=hid hX
 have hN8:N≤8:=by rw [← hN];exact chkLen_le k
 clear hn hr hl hN hchk hX
 go_enter Tryz.func45,Tryz.ntmps45
 iterate 40 (first | (with_reducible show Code.wp _ (Code.block 0 _) _ _ _) | go_values | go_guarded | go_step | go_upon | go_at_K | skip)
 go_cut [5,6] from 9 to 19 (fun nv xv wx=>nv=.int .i64 (N:Int)∧xv=.int .u64 (X:Int)∧wx=w)
 case first =>
  rcases hcase with ⟨rfl,rfl,rfl⟩ | ⟨rfl,rfl,rfl⟩ | ⟨h1,h4,rfl,rfl⟩
  ·have hw:IntKind.u64.wrap (crc32 bs:Int)=(crc32 bs:Int):=Go.IntWalk.u64_in _ (by have:=HX.out;omega)
   go_wp2_with (go_at_call 87;refine H32.out.mono ?_;rintro e w1 ⟨rfl,rfl⟩)
   go_meet
   case rel=>exact ⟨rfl,rfl,rfl⟩
  ·go_wp2_with (go_at_call 89;refine H64.out.mono ?_;rintro e w1 ⟨rfl,rfl⟩)
   go_meet
   case rel=>exact ⟨rfl,rfl,rfl⟩
  have q1:(k==1)=false:=beq_eq_false_iff_ne.2 h1
  have q4:(k==4)=false:=beq_eq_false_iff_ne.2 h4
  clear h1 h4
  go_wp2
  go_meet
  case rel=>exact ⟨rfl,rfl,rfl⟩
 case rest =>
 obtain ⟨rfl,rfl,hwx⟩:=hcut
 rw [hwx]
 clear hcase H32 H64 hwx
 go_wp2
 go_loopw [7,8] (fun vv iv wr=>∃ i:Nat,iv=.int .i64 (i:Int)∧i≤N∧OwnB wr 5 w.heap.size vv (leB X i)∧Below w.heap.size w wr) (fun _ iv _=>N-(intOf iv).toNat)
 case atStart=>exact ⟨0,rfl,Nat.zero_le _,OwnB.nil _ _ _,Below.refl _ _⟩
 case round =>
 obtain ⟨i,rfl,hi,ho,hb⟩:=hrel
 obtain ⟨Av,kv,rfl,-,-,-⟩:=ho.slice
 have HO:=hid (And.intro ho hb)
 clear ho hb
 by_cases hlt:i<N
 ·have i8:(8:Int)*(i:Int)=((8*i:Nat):Int):=by omega
  obtain ⟨I8,hI8⟩:∃ I8,8*i=I8:=⟨_,rfl⟩
  rw [hI8] at i8
  have i8w:IntKind.i64.wrap (I8:Int)=(I8:Int):=Go.IntWalk.i64_in _ (by omega)
  have i8n:(I8:Int).toNat=I8:=by omega
  obtain ⟨y,hy⟩:∃ y,UInt8.ofNat (X / 256 ^ i)=y:=⟨_,rfl⟩
  have hyv:(X:Int) / 2 ^ I8 % 256=((y.toNat:Nat):Int):=by
   have q:(UInt8.ofNat (X / 256 ^ i)).toNat=X / 2 ^ I8 % 256:=by
    rw [← hI8,Nat.pow_mul]
    simp
   rw [← hy,q]
   simp
  obtain ⟨yn,hyn⟩:∃ yn,y.toNat=yn:=⟨_,rfl⟩
  rw [hyn] at hyv
  have hls:=leB_snoc i X
  rw [hy] at hls
  have HLS:=hid hls
  clear hls
  obtain ⟨L,hL⟩:∃ L,(leB X i).length=L:=⟨_,rfl⟩
  have hL':L=i:=by rw [← hL];exact leB_len i X
  go_wp2_with (at_builtin;refine wpList_append_bytes _ rfl (.tmp 24) (.tmp 30) 22 rfl 5 w.heap.size Tryz.underlying22 Tryz.info_u8 (.slice Av (leB X i).length kv) (leB X i) rfl ?own (some ⟨wr.heap.size,0,none⟩) 1 1 (wr.heap.size+1) [y] rfl rfl ?row ?len ?base ?next)
  case own=>exact HO.out.1.alloc _
  case row=>rw [← hyn];exact BRow.oneB wr _ y
  case len=>rw [leB_len];simp;omega
  case base=>have:=HO.out.2.size;simp;omega
  case next =>
  intro v4 w4 hown4 hfrm4 hnew4
  have H4:Hid (OwnB w4 5 w.heap.size v4 (leB X (i+1))∧Below w.heap.size w w4):=hid ⟨by rw [HLS.out];exact hown4,(HO.out.2.alloc HO.out.2.size _).trans (hfrm4.below (by have:=HO.out.2.size;simp;omega) (fun q hq=>(HO.out.1.lt (by rw [leB_len];exact hq)).1))⟩
  clear hown4 hfrm4 hnew4
  go_wp2
  exact ⟨⟨i+1,rfl,by omega,H4.out.1,H4.out.2⟩,by simp only [intOf];omega⟩
 obtain rfl:i=N:=by omega
 clear hlt hi
 go_wp2
 go_ret
 exact ⟨_,rfl,HO.out.1,HO.out.2⟩
end Go.Proofs.YtffehfpbdcokbaaGreat
