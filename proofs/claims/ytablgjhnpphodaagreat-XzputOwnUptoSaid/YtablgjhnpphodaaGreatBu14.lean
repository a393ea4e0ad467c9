import Derived.Test.YtablgjhnpphodaaGreatChecked
import Derived.WalkKit
import Derived.Lib.Hide
import Derived.BigQuiet
import Derived.Deep.QuietTactic
import Derived.RegionTactic
import Derived.StillTailTactics
import Derived.OwnWalk
import Derived.Lib.SliceRun
import Derived.Maps.OwnSet
import Derived.Maps.Views
import Derived.Maps.AppendAt
import Derived.WalkMore
import Derived.Deep.LoopGhost
import Derived.Deep.DeepCutAuto
import Derived.Deep.CutRange
import Derived.Deep.RegionHeld3
import Derived.Test.YtablgjhnpphodaaGreatBu1
import Derived.Test.YtablgjhnpphodaaGreatBu3
import Derived.Test.YtablgjhnpphodaaGreatBu5
import Derived.Test.YtablgjhnpphodaaGreatBu7
import Derived.Test.YtablgjhnpphodaaGreatBu9
import Derived.Test.YtablgjhnpphodaaGreatBu13
set_option linter.unusedVariables false
set_option linter.unusedSimpArgs false
namespace Go.Proofs.YtablgjhnpphodaaGreat
open Lib (hid)
open Go.RowKit Rng Win Lz Fnd
theorem ops_read2 (k:LK) (S:Nat) (bs:List UInt8) (fr total st:Nat) (rep:Nat→Nat) (pr:Pr) (l:List (Option (Nat×Nat))) (hok:OkOps bs fr l) (hf:fr≤bs.length) (hS:bs.length≤S) (hb:bs.length≤16777216) :
 ∃ y,chunkOf k S total (bs.length-fr) st rep pr (bs.take fr) (opsB k bs fr total st rep pr l)=some (bs.drop fr,y)∧y.C=bs:=by
 have hI:EncI (wOps k bs fr (totOf total) l ⟨fr,st,rep,⟨newEnc,pr⟩⟩).s.d:=stays_wOps encI_stays k bs fr (totOf total) l (x:=⟨fr,st,rep,⟨newEnc,pr⟩⟩) encI_new
 have ht:=told_close hI
 have hsub:Sub newEnc (wOps k bs fr (totOf total) l ⟨fr,st,rep,⟨newEnc,pr⟩⟩).s.d:=sub_wOps ht k bs fr (totOf total) l (x:=⟨fr,st,rep,⟨newEnc,pr⟩⟩) encI_new (Sub.refl _)
 obtain ⟨h1,h2⟩:=told_head ht hsub
 unfold chunkOf opsB
 have h1':¬ newErr (wOps k bs fr (totOf total) l ⟨fr,st,rep,⟨newEnc,pr⟩⟩).s.d.close.out≠0:=fun h=>h h1
 rw [if_neg h1']
 obtain ⟨y,h3,h4⟩:=ops_back ht k S fr (totOf total) (bs.length-fr) hS hb rfl l (bs.length-fr+1) (x:=⟨fr,st,rep,⟨newEnc,pr⟩⟩) (y:=⟨st,rep,⟨newDec _,pr⟩,bs.take fr⟩) (told:=[]) ⟨encI_new,⟨h2,rfl⟩,rfl,rfl,rfl,by simp only;rw [List.drop_of_length_le (by rw [List.length_take];omega)],Nat.le_refl _,hf⟩ hok (by simp) rfl
 rw [h3]
 simp only
 rw [if_pos (Lz.told_end ht h4.p.1)]
 refine ⟨y,rfl,?_⟩
 have hl:=h4.len
 rw [List.length_drop] at hl
 have hn:=h4.n
 have hff:=h4.f
 rw [h4.c,List.take_of_length_le (by omega)]
def lenB (b:List UInt8) (fr:Nat):Nat:=b.length-fr-1
def encPlain (b:List UInt8) (fr:Nat):List UInt8:=(if fr=0 then 1 else 2)::UInt8.ofNat (lenB b fr / 256)::UInt8.ofNat (lenB b fr)::b.drop fr
def encLz (b:List UInt8) (fr:Nat) (c:List UInt8):List UInt8:=(if fr=0 then 224 else 192)::UInt8.ofNat (lenB b fr / 256)::UInt8.ofNat (lenB b fr)::UInt8.ofNat ((c.length-1) / 256)::UInt8.ofNat (c.length-1)::93::c
def lzB (b:List UInt8) (fr:Nat) (l:List Sq):List UInt8:=opsB (newK 0 0) b fr fr 0 (fun _=>0) (fun _=>1024) (opsOf l)
def IsEnc (b:List UInt8) (fr:Nat) (x:List UInt8):Prop:=(fr=b.length∧x=[])∨(fr<b.length∧x=encPlain b fr)∨(fr<b.length∧∃ l,rightGo b l fr=some b.length∧(lzB b fr l).length+6<b.length-fr+3∧x=encLz b fr (lzB b fr l))
theorem two_num {m:Nat} (h:m<65536):(UInt8.ofNat (m / 256)).toNat*256+(UInt8.ofNat m).toNat=m:=by
 rw [UInt8.toNat_ofNat',UInt8.toNat_ofNat']
 omega
structure At (b:List UInt8) (fr:Nat) (x:DS):Prop where
 c:x.C=b.take fr
 t:x.total=fr
 g:x.begun=true∨fr=0
theorem plain_one (S:Nat) {b:List UInt8} {fr:Nat} {x:DS} (h:At b fr x) (hf:fr<b.length) (hS:b.length≤S) (hb:b.length≤65536) (rest:List UInt8) :
 ∃ y,one S x (encPlain b fr++rest)=.told (b.drop fr) y rest∧y.C=b∧y.total=fr∧y.begun=true:=by
 obtain ⟨xC,xlc,xlp,xpb,xst,xrep,xpr,xtot,xbeg,xprops⟩:=x
 obtain ⟨h1,h2,h3⟩:=h
 simp only at h1 h2 h3
 subst h1;subst h2
 have hl:lenB b xtot<65536:=by unfold lenB;omega
 have htw:=two_num hl
 have hdl:(b.drop xtot).length=b.length-xtot:=List.length_drop
 have key:∀ (c:UInt8) (z:DS),c.toNat<3→1≤c.toNat→¬ badHead ⟨b.take xtot,xlc,xlp,xpb,xst,xrep,xpr,xtot,xbeg,xprops⟩ c.toNat→DS.dict ⟨b.take xtot,xlc,xlp,xpb,xst,xrep,xpr,xtot,xbeg,xprops⟩ c.toNat=z→z.C=b.take xtot →
  one S ⟨b.take xtot,xlc,xlp,xpb,xst,xrep,xpr,xtot,xbeg,xprops⟩ (c::UInt8.ofNat (lenB b xtot / 256)::UInt8.ofNat (lenB b xtot)::b.drop xtot++rest)=.told (b.drop xtot) { z with C:=b } rest:=by
  intro c z hc3 hc1 hbad hz hzc
  have hh:headN c.toNat=3:=by unfold headN;rw [if_neg (by omega),if_pos hc3]
  have e0:(c::UInt8.ofNat (lenB b xtot / 256)::UInt8.ofNat (lenB b xtot)::b.drop xtot++rest).getD 0 0=c:=rfl
  unfold one
  rw [e0,hh]
  rw [if_neg (by simp),if_neg (by omega),if_neg (by simp),if_neg (by omega),if_neg hbad]
  unfold oneBody
  rw [if_pos hc3,hz]
  have e1:twoB ((c::UInt8.ofNat (lenB b xtot / 256)::UInt8.ofNat (lenB b xtot)::b.drop xtot++rest).take 3) 1+1=(b.drop xtot).length:=by
   show (UInt8.ofNat (lenB b xtot / 256)).toNat*256+(UInt8.ofNat (lenB b xtot)).toNat+1=_
   rw [htw,hdl]
   unfold lenB
   omega
  have e2:(c::UInt8.ofNat (lenB b xtot / 256)::UInt8.ofNat (lenB b xtot)::b.drop xtot++rest).drop 3=b.drop xtot++rest:=rfl
  rw [e1,e2,if_neg (by rw [List.length_append];omega),List.take_append_of_le_length (Nat.le_refl _),List.take_length,List.drop_append_of_le_length (Nat.le_refl _),List.drop_length,List.nil_append,hzc,List.take_append_drop,lastN_all hS]
 by_cases h0:xtot=0
 ·subst h0
  refine ⟨{ ({ DS.clear ⟨b.take 0,xlc,xlp,xpb,xst,xrep,xpr,0,xbeg,xprops⟩ with props:=false }:DS) with C:=b },?_,rfl,rfl,?_⟩
  ·unfold encPlain
   rw [if_pos rfl]
   exact key 1 { DS.clear ⟨b.take 0,xlc,xlp,xpb,xst,xrep,xpr,0,xbeg,xprops⟩ with props:=false } (by decide) (by decide) (by unfold badHead;rintro (e | e);exact e.2.1 rfl;exact absurd e.1 (by decide)) rfl rfl
  rfl
 have hg:xbeg=true:=h3.resolve_right h0
 subst hg
 refine ⟨{ (⟨b.take xtot,xlc,xlp,xpb,xst,xrep,xpr,xtot,true,xprops⟩:DS) with C:=b },?_,rfl,rfl,?_⟩
 ·unfold encPlain
  rw [if_neg h0]
  exact key 2 ⟨b.take xtot,xlc,xlp,xpb,xst,xrep,xpr,xtot,true,xprops⟩ (by decide) (by decide) (by unfold badHead;rintro (e | e);exact absurd e.1 (by simp);exact absurd e.1 (by decide)) rfl rfl
 rfl
theorem lz_one (S:Nat) {b:List UInt8} {fr:Nat} {x:DS} {l:List Sq} (h:At b fr x) (hf:fr<b.length) (hS:b.length≤S) (hb:b.length≤65536) (hl:rightGo b l fr=some b.length) (hc:(lzB b fr l).length+6<b.length-fr+3) (rest:List UInt8) :
 ∃ y,one S x (encLz b fr (lzB b fr l)++rest)=.told (b.drop fr) y rest∧y.C=b∧y.total=fr∧y.begun=true:=by
 obtain ⟨y0,hy,hyC⟩:=ops_read2 (newK 0 0) S b fr fr 0 (fun _=>0) (fun _=>1024) (opsOf l) (right_ops l fr (by omega) hl) (by omega) hS (by omega)
 have hne:1≤(lzB b fr l).length:=by
  have hI:EncI (wOps (newK 0 0) b fr (totOf fr) (opsOf l) ⟨fr,0,fun _=>0,⟨newEnc,fun _=>1024⟩⟩).s.d:=stays_wOps encI_stays (newK 0 0) b fr (totOf fr) (opsOf l) (x:=⟨fr,0,fun _=>0,⟨newEnc,fun _=>1024⟩⟩) encI_new
  have:=(told_close hI).l
  unfold lzB opsB
  omega
 change chunkOf (newK 0 0) S fr (b.length-fr) 0 (fun _=>0) (fun _=>1024) (b.take fr) (lzB b fr l)=some (b.drop fr,y0) at hy
 generalize lzB b fr l=c at *
 obtain ⟨xC,xlc,xlp,xpb,xst,xrep,xpr,xtot,xbeg,xprops⟩:=x
 obtain ⟨h1,h2,h3⟩:=h
 simp only at h1 h2 h3
 subst h1;subst h2
 have hlb:lenB b xtot<65536:=by unfold lenB;omega
 have htw:=two_num hlb
 have htc:=two_num (show c.length-1<65536 by omega)
 have hn:lenB b xtot+1=b.length-xtot:=by unfold lenB;omega
 have key:∀ (q:UInt8) (z:DS),192≤q.toNat→q.toNat % 32=0→¬ badHead ⟨b.take xtot,xlc,xlp,xpb,xst,xrep,xpr,xtot,xbeg,xprops⟩ q.toNat→DS.dict ⟨b.take xtot,xlc,xlp,xpb,xst,xrep,xpr,xtot,xbeg,xprops⟩ q.toNat=z→z.C=b.take xtot→z.total=xtot →
  one S ⟨b.take xtot,xlc,xlp,xpb,xst,xrep,xpr,xtot,xbeg,xprops⟩ (q::UInt8.ofNat (lenB b xtot / 256)::UInt8.ofNat (lenB b xtot)::UInt8.ofNat ((c.length-1) / 256)::UInt8.ofNat (c.length-1)::93::c++rest)=.told (b.drop xtot) ⟨y0.C,3,0,2,y0.st,y0.rep,y0.s.pr,xtot,z.begun,true⟩ rest:=by
  intro q z hq hq32 hbad hz hzc hzt
  have hh:headN q.toNat=6:=by unfold headN;rw [if_neg (by omega),if_neg (by omega),if_neg (by omega),if_neg (by omega)]
  have e0:(q::UInt8.ofNat (lenB b xtot / 256)::UInt8.ofNat (lenB b xtot)::UInt8.ofNat ((c.length-1) / 256)::UInt8.ofNat (c.length-1)::93::c++rest).getD 0 0=q:=rfl
  unfold one
  rw [e0,hh]
  rw [if_neg (by simp),if_neg (by omega),if_neg (by simp),if_neg (by omega),if_neg hbad]
  unfold oneBody
  rw [if_neg (by omega),hz]
  have e1:twoB ((q::UInt8.ofNat (lenB b xtot / 256)::UInt8.ofNat (lenB b xtot)::UInt8.ofNat ((c.length-1) / 256)::UInt8.ofNat (c.length-1)::93::c++rest).take 6) 1+1=b.length-xtot:=by
   show (UInt8.ofNat (lenB b xtot / 256)).toNat*256+(UInt8.ofNat (lenB b xtot)).toNat+1=_
   rw [htw,hn]
  have e2:twoB ((q::UInt8.ofNat (lenB b xtot / 256)::UInt8.ofNat (lenB b xtot)::UInt8.ofNat ((c.length-1) / 256)::UInt8.ofNat (c.length-1)::93::c++rest).take 6) 3+1=c.length:=by
   show (UInt8.ofNat ((c.length-1) / 256)).toNat*256+(UInt8.ofNat (c.length-1)).toNat+1=_
   rw [htc]
   omega
  have e3:(q::UInt8.ofNat (lenB b xtot / 256)::UInt8.ofNat (lenB b xtot)::UInt8.ofNat ((c.length-1) / 256)::UInt8.ofNat (c.length-1)::93::c++rest).drop 6=c++rest:=rfl
  have e4:(((q::UInt8.ofNat (lenB b xtot / 256)::UInt8.ofNat (lenB b xtot)::UInt8.ofNat ((c.length-1) / 256)::UInt8.ofNat (c.length-1)::93::c++rest).take 6).getD 5 0).toNat=93:=rfl
  rw [e1,e2,e3,e4,if_neg (by rw [List.length_append];omega),if_neg (by rintro ⟨_,e⟩;revert e;decide),List.take_append_of_le_length (Nat.le_refl _),List.take_length,List.drop_append_of_le_length (Nat.le_refl _),List.drop_length,List.nil_append,hq32,Nat.zero_mul,Nat.add_zero]
  unfold DS.set DS.reset
  rw [if_pos hq]
  unfold oneLz
  simp only
  rw [hzc,hzt]
  have e5:chunkOf ⟨0,0,93 % 9,93 / 9 % 5,93 / 45⟩ S xtot (b.length-xtot) 0 (fun _=>0) (fun _=>1024) (b.take xtot) c=some (b.drop xtot,y0):=hy
  rw [e5]
 by_cases h0:xtot=0
 ·subst h0
  refine ⟨⟨y0.C,3,0,2,y0.st,y0.rep,y0.s.pr,0,true,true⟩,?_,hyC,rfl,?_⟩
  ·unfold encLz
   rw [if_pos rfl]
   exact key 224 (DS.clear ⟨b.take 0,xlc,xlp,xpb,xst,xrep,xpr,0,xbeg,xprops⟩) (by decide) (by decide) (by unfold badHead;rintro (e | e);exact absurd e.2.2 (by decide);exact absurd e.1 (by decide)) rfl rfl rfl
  rfl
 have hg:xbeg=true:=h3.resolve_right h0
 subst hg
 refine ⟨⟨y0.C,3,0,2,y0.st,y0.rep,y0.s.pr,xtot,true,true⟩,?_,hyC,rfl,?_⟩
 ·unfold encLz
  rw [if_neg h0]
  exact key 192 ⟨b.take xtot,xlc,xlp,xpb,xst,xrep,xpr,xtot,true,xprops⟩ (by decide) (by decide) (by unfold badHead;rintro (e | e);exact absurd e.1 (by simp);exact absurd e.1 (by decide)) rfl rfl rfl
 rfl
def Pieces (b:List UInt8):Nat→List (List UInt8)→Prop
 | a,[]=>a=b.length
 | a,x::xs=>∃ e,a≤e∧e≤b.length∧IsEnc (b.take e) a x∧Pieces b e xs
theorem pieces_go (S most:Nat) {b:List UInt8} (hS:b.length≤S) (hb:b.length≤65536) (hm:b.length≤most):∀ (xs:List (List UInt8)) (a f:Nat) (x:DS),Pieces b a xs→a≤b.length→At b a x→xs.flatten.length+1<f→d2Go S most f x (b.take a) (xs.flatten++[0])=(b,.inr [])
 | [],a,0,x,h,ha,hx,hf=>absurd hf (by omega)
 | [],a,f+1,x,h,ha,hx,hf=>by
  have h:a=b.length:=h
  subst h
  have e:one S x ([].flatten++[0])=.fin []:=rfl
  unfold d2Go
  rw [e,List.take_length]
 | t::xs,a,f,x,h,ha,hx,hf=>by
  obtain ⟨e,h1,h2,h3,h4⟩:=h
  have hel:(b.take e).length=e:=by rw [List.length_take];omega
  have hAt:At (b.take e) a x:=⟨by rw [hx.c,List.take_take,Nat.min_eq_left h1],hx.t,hx.g⟩
  have step:∀ (t:List UInt8),a<e→(∃ y,one S x (t++(xs.flatten++[0]))=.told ((b.take e).drop a) y (xs.flatten++[0])∧y.C=b.take e∧y.total=a∧y.begun=true)→xs.flatten.length+2<f→d2Go S most f x (b.take a) (t++(xs.flatten++[0]))=(b,.inr []):=by
   intro t hae ⟨y,k1,k2,k3,k4⟩ hf2
   obtain ⟨g,rfl⟩:∃ g,f=g+1:=⟨f-1,by omega⟩
   unfold d2Go
   rw [k1]
   simp only
   have hdl:((b.take e).drop a).length=e-a:=by rw [List.length_drop,hel]
   have htl:(b.take a).length=a:=by rw [List.length_take];omega
   rw [if_neg (by omega)]
   have htx:b.take a++(b.take e).drop a=b.take e:=by
    have:b.take a=(b.take e).take a:=by rw [List.take_take,Nat.min_eq_left h1]
    rw [this,List.take_append_drop]
   rw [htx]
   exact pieces_go S most hS hb hm xs e g { y with total:=y.total+((b.take e).drop a).length } h4 h2 ⟨k2,by simp only;omega,.inl k4⟩ (by omega)
  rw [List.flatten_cons,List.append_assoc]
  rw [List.flatten_cons,List.length_append] at hf
  rcases h3 with ⟨g1,g2⟩ | ⟨g1,g2⟩ | ⟨g1,l,g2,g3,g4⟩
  ·subst g2
   rw [hel] at g1
   subst g1
   rw [List.nil_append]
   exact pieces_go S most hS hb hm xs a f x h4 ha hx (by rw [List.length_nil] at hf;omega)
  ·rw [hel] at g1
   have hl:2≤t.length:=by rw [g2];unfold encPlain;simp
   rw [g2]
   exact step _ g1 (plain_one S hAt (by omega) (by omega) (by omega) _) (by omega)
  rw [hel] at g1
  have hl:2≤t.length:=by rw [g4];unfold encLz;simp
  rw [g4]
  exact step _ g1 (lz_one S hAt (by omega) (by omega) (by omega) g2 g3 _) (by omega)
theorem pieces_read (S most:Nat) {b:List UInt8} (hS:b.length≤S) (hb:b.length≤65536) (hm:b.length≤most) (xs:List (List UInt8)) (h:Pieces b 0 xs):d2P S most (xs.flatten++[0])=(b,.inr []) :=
 pieces_go S most hS hb hm xs 0 _ newDS h (Nat.zero_le _) ⟨rfl,rfl,.inr rfl⟩ (by rw [List.length_append];simp)
theorem isEnc_len {b:List UInt8} {fr:Nat} {x:List UInt8} (h:IsEnc b fr x):x.length≤b.length-fr+3∧((x.length=0)↔fr=b.length):=by
 rcases h with ⟨g1,g2⟩ | ⟨g1,g2⟩ | ⟨g1,l,g2,g3,g4⟩
 ·subst g2;exact ⟨by simp,by simp [g1]⟩
 ·subst g2
  unfold encPlain
  simp only [List.length_cons,List.length_drop]
  omega
 subst g4
 unfold encLz
 simp only [List.length_cons]
 omega
open Go.RowKit Rng Win Lz Box
def Strs (b:List UInt8):Nat→Nat→List (List UInt8)→Prop
 | a,e,[]=>a=e
 | a,e,x::xs=>∃ m,a≤m∧m≤b.length∧IsEnc (b.take m) a x∧Strs b m e xs
theorem strs_snoc {b:List UInt8} {e m:Nat} {y:List UInt8} (h1:e≤m) (h2:m≤b.length) (hy:IsEnc (b.take m) e y):∀ (xs:List (List UInt8)) (a:Nat),Strs b a e xs→Strs b a m (xs++[y])
 | [],a,h=>by
  have h:a=e:=h
  subst h
  exact ⟨m,h1,h2,hy,rfl⟩
 | x::xs,a,⟨k,k1,k2,k3,k4⟩=>⟨k,k1,k2,k3,strs_snoc h1 h2 hy xs k k4⟩
theorem strs_more {b:List UInt8} (c:List UInt8) {e:Nat}:∀ (xs:List (List UInt8)) (a:Nat),Strs b a e xs→Strs (b++c) a e xs
 | [],a,h=>h
 | x::xs,a,⟨k,k1,k2,k3,k4⟩=>⟨k,k1,by rw [List.length_append];omega,by rw [List.take_append_of_le_length k2];exact k3,strs_more c xs k k4⟩
theorem strs_le {b:List UInt8} {e:Nat}:∀ (xs:List (List UInt8)) (a:Nat),a≤b.length→Strs b a e xs→a≤e∧e≤b.length
 | [],a,h,q=>by
  have q:a=e:=q
  omega
 | x::xs,a,h,⟨k,k1,k2,k3,k4⟩=>by
  have:=strs_le xs k k2 k4
  omega
theorem strs_take {b:List UInt8} {e:Nat}:∀ (xs:List (List UInt8)) (a:Nat),a≤b.length→Strs b a e xs→Strs (b.take e) a e xs
 | [],a,h,q=>q
 | x::xs,a,h,⟨k,k1,k2,k3,k4⟩=>by
  have hk:=strs_le xs k k2 k4
  exact ⟨k,k1,by rw [List.length_take];omega,by rw [List.take_take,Nat.min_eq_left hk.1];exact k3,strs_take xs k k2 k4⟩
theorem strs_pieces {b:List UInt8}:∀ (xs:List (List UInt8)) (a:Nat),Strs b a b.length xs→Pieces b a xs
 | [],a,h=>h
 | x::xs,a,⟨k,k1,k2,k3,k4⟩=>⟨k,k1,k2,k3,strs_pieces xs k k4⟩
theorem strs_len {b:List UInt8} {e:Nat}:∀ (xs:List (List UInt8)) (a:Nat),a≤b.length→Strs b a e xs→xs.flatten.length≤(e-a)+3*xs.length
 | [],a,h,q=>by simp
 | x::xs,a,h,⟨k,k1,k2,k3,k4⟩=>by
  have hk:=strs_le xs k k2 k4
  have hl:=(isEnc_len k3).1
  have ht:=strs_len xs k k2 k4
  rw [List.length_take] at hl
  rw [List.flatten_cons,List.length_append,List.length_cons]
  omega
theorem pieces_goQ (S most:Nat) {b:List UInt8} (hS:b.length≤S) (hb:b.length≤65536) (hm:b.length≤most):∀ (xs:List (List UInt8)) (a f:Nat) (x:DS),Pieces b a xs→a≤b.length→At b a x→xs.flatten.length+1<f→d2Go S most f x (b.take a) xs.flatten=(b,.inl 10)
 | [],a,0,x,h,ha,hx,hf=>absurd hf (by omega)
 | [],a,f+1,x,h,ha,hx,hf=>by
  have h:a=b.length:=h
  subst h
  have e:one S x ([]:List (List UInt8)).flatten=.err 10:=rfl
  unfold d2Go
  rw [e,List.take_length]
 | t::xs,a,f,x,h,ha,hx,hf=>by
  obtain ⟨e,h1,h2,h3,h4⟩:=h
  have hel:(b.take e).length=e:=by rw [List.length_take];omega
  have hAt:At (b.take e) a x:=⟨by rw [hx.c,List.take_take,Nat.min_eq_left h1],hx.t,hx.g⟩
  have step:∀ (t:List UInt8),a<e→(∃ y,one S x (t++xs.flatten)=.told ((b.take e).drop a) y xs.flatten∧y.C=b.take e∧y.total=a∧y.begun=true)→xs.flatten.length+2<f→d2Go S most f x (b.take a) (t++xs.flatten)=(b,.inl 10):=by
   intro t hae ⟨y,k1,k2,k3,k4⟩ hf2
   obtain ⟨g,rfl⟩:∃ g,f=g+1:=⟨f-1,by omega⟩
   unfold d2Go
   rw [k1]
   simp only
   have hdl:((b.take e).drop a).length=e-a:=by rw [List.length_drop,hel]
   have htl:(b.take a).length=a:=by rw [List.length_take];omega
   rw [if_neg (by omega)]
   have htx:b.take a++(b.take e).drop a=b.take e:=by
    have:b.take a=(b.take e).take a:=by rw [List.take_take,Nat.min_eq_left h1]
    rw [this,List.take_append_drop]
   rw [htx]
   exact pieces_goQ S most hS hb hm xs e g { y with total:=y.total+((b.take e).drop a).length } h4 h2 ⟨k2,by simp only;omega,.inl k4⟩ (by omega)
  rw [List.flatten_cons]
  rw [List.flatten_cons,List.length_append] at hf
  rcases h3 with ⟨g1,g2⟩ | ⟨g1,g2⟩ | ⟨g1,l,g2,g3,g4⟩
  ·subst g2
   rw [hel] at g1
   subst g1
   rw [List.nil_append]
   exact pieces_goQ S most hS hb hm xs a f x h4 ha hx (by rw [List.length_nil] at hf;omega)
  ·rw [hel] at g1
   have hl:2≤t.length:=by rw [g2];unfold encPlain;simp
   rw [g2]
   exact step _ g1 (plain_one S hAt (by omega) (by omega) (by omega) _) (by omega)
  rw [hel] at g1
  have hl:2≤t.length:=by rw [g4];unfold encLz;simp
  rw [g4]
  exact step _ g1 (lz_one S hAt (by omega) (by omega) (by omega) g2 g3 _) (by omega)
theorem pieces_open (S most:Nat) {b:List UInt8} (hS:b.length≤S) (hb:b.length≤65536) (hm:b.length≤most) (xs:List (List UInt8)) (h:Pieces b 0 xs):d2P S most xs.flatten=(b,.inl 10):=by
 have q:=pieces_goQ S most hS hb hm xs 0 (xs.flatten.length+2) newDS h (Nat.zero_le _) ⟨rfl,rfl,.inr rfl⟩ (by omega)
 have e:d2P S most xs.flatten=d2Go S most (xs.flatten.length+1) newDS [] xs.flatten:=rfl
 rw [e,go_fuel S most (xs.flatten.length+1) (xs.flatten.length+2) newDS [] xs.flatten (by omega) (by omega)]
 exact q
def oneX (code:UInt8) (y t:List UInt8):List UInt8 :=
 headM 4++(hdB false [] code++(y++(zs (12+y.length)++(chkB 4 t++(idxB [(12+y.length+8,t.length)]++footM ((idxB [(12+y.length+8,t.length)]).length / 4-1) 4)))))
theorem hdB_eq (code:UInt8):hdB false [] code=[2,0,33,1,code,0,0,0]++sealB [2,0,33,1,code,0,0,0]:=by
 have h:hdPad false [] code=[0,33,1,code,0,0,0]:=by simp [hdPad,hdRaw,zs,padOf]
 have h2:UInt8.ofNat ((1+([0,33,1,code,0,0,0]:List UInt8).length) / 4)=2:=by simp
 unfold hdB
 rw [h,h2]
 rfl
theorem hdB_12 (code:UInt8):(hdB false [] code).length=12:=by
 rw [hdB_eq]
 rfl
theorem hdB_head (code:UInt8) (r:List UInt8):(hdB false [] code++r).getD 0 0=2:=by
 rw [hdB_eq]
 rfl
theorem hdLen_one (code:UInt8) (r:List UInt8):hdLen (hdB false [] code++r)=12:=by
 unfold hdLen
 rw [hdB_head]
 rfl
theorem xBlock_any (budget told:Nat) {code:UInt8} (h:code.toNat≤40) (hw:winOf code.toNat≤budget) {y t:List UInt8} (hd:∀ r,d2P (max (winOf code.toNat).toNat 4096) (16777216-told) (y++r)=(t,.inr r)) (r:List UInt8) :
 xBlock budget 4 told (hdB false [] code++(y++(zs (12+y.length)++(chkB 4 t++r))))=.ok t (12+y.length+8,t.length) r:=by
 have hl:=hdB_12 code
 have hbo:=blockOf_hd false [] h (by simp)
 rw [hl] at hbo
 have hc:=chkB_len 4 t
 have hc8:chkLen 4=8:=rfl
 have hh:hdLen (hdB false [] code++(y++(zs (12+y.length)++(chkB 4 t++r))))=12:=hdLen_one _ _
 unfold xBlock
 rw [hh,if_neg (by rw [List.length_append];omega),List.take_append_of_le_length (by omega),List.take_of_length_le (by omega),List.drop_append_of_le_length (by omega),List.drop_of_length_le (by omega),List.nil_append,hbo]
 unfold xBody
 simp only
 rw [if_neg (by simp),if_neg (by omega),hd]
 simp only
 rw [show (y++(zs (12+y.length)++(chkB 4 t++r))).length-(zs (12+y.length)++(chkB 4 t++r)).length=y.length by rw [List.length_append];omega]
 unfold xTail
 rw [if_neg (by simp)]
 generalize hn:12+y.length=n
 rw [if_neg (by rw [List.length_append,List.length_append,zs_len];omega),zs_take,zs_drop,List.take_append_of_le_length (by omega),List.take_of_length_le (by omega),if_neg (by simp)]
 have e:(zs n++(chkB 4 t++r)).drop (padOf n+chkLen 4)=r:=by
  rw [← List.drop_drop,zs_drop,List.drop_append_of_le_length (by omega),List.drop_of_length_le (by omega),List.nil_append]
 rw [e,hc8]
theorem oneX_read {code:UInt8} (h:code.toNat≤40) {budget:Nat} (hw:winOf code.toNat≤budget) {y t:List UInt8} (hd:∀ r,d2P (max (winOf code.toNat).toNat 4096) 16777216 (y++r)=(t,.inr r)) (hy:y.length≤1000000) (ht:t.length≤1000000) :
 xP budget (oneX code y t)=(t,.inr []):=by
 obtain ⟨h1,h2⟩:=headM_ok (kc:=4) (.inr (.inr rfl))
 obtain ⟨R,hR⟩:∃ R,[(12+y.length+8,t.length)]=R:=⟨_,rfl⟩
 have hRl:R.length=1:=by rw [← hR];rfl
 have hRf:fits63 R:=by
  rw [← hR]
  intro p hp
  obtain rfl:=List.mem_singleton.1 hp
  exact ⟨by simp only;omega,by simp only;omega⟩
 have hi1:=idxB_len R
 have hi2:=idxRaw_len R
 obtain ⟨s,hs⟩:∃ s,idxB R++footM ((idxB R).length / 4-1) 4=s:=⟨_,rfl⟩
 have hs1:1≤s.length:=by rw [← hs,List.length_append];omega
 have hs0:s.getD 0 0=0:=by rw [← hs];exact idxB_head R _
 have hc:oneX code y t=headM 4++(hdB false [] code++(y++(zs (12+y.length)++(chkB 4 t++s)))):=by
  unfold oneX
  rw [hR,hs]
 obtain ⟨X,hX⟩:∃ X,hdB false [] code++(y++(zs (12+y.length)++(chkB 4 t++s)))=X:=⟨_,rfl⟩
 have hX1:12≤X.length:=by rw [← hX,List.length_append,hdB_12];omega
 have hX0:X.getD 0 0=2:=by rw [← hX];exact hdB_head _ _
 have hXs:s.length≤X.length:=by rw [← hX];simp only [List.length_append];omega
 have hxm:xMem budget (headM 4++X)=(t,.inr []):=by
  unfold xMem
  rw [if_neg (by rw [List.length_append];omega),List.take_append_of_le_length (by omega),List.take_of_length_le (by omega),h1,if_neg (by simp),List.drop_append_of_le_length (by omega),List.drop_of_length_le (by omega),List.nil_append]
  obtain ⟨g,hg⟩:∃ g,(headM 4++X).length=g+1:=⟨(headM 4++X).length-1,by rw [List.length_append];omega⟩
  have hgs:1≤g:=by rw [List.length_append] at hg;omega
  rw [hg]
  have hb:=xBlock_any budget 0 h hw hd s
  rw [hX] at hb
  have hx:xBlocks budget (((4:UInt8).toNat:Nat):Int) (g+1+1) [] [] X=(t,.inr (R,s)):=by
   unfold xBlocks
   rw [if_neg (by omega),hX0,if_neg (by decide)]
   rw [show (((4:UInt8).toNat:Nat):Int)=4 from rfl,List.length_nil,hb]
   simp only
   unfold xBlocks
   rw [if_neg (by omega),if_pos hs0,← hR]
   rfl
  rw [hx]
  simp only
  unfold xEnd
  rw [← hs,xIndex_made R (by omega) hRf]
  simp only
  obtain ⟨k,hk2⟩:∃ k,(idxB R).length / 4-1=k:=⟨_,rfl⟩
  rw [hk2]
  have hpl:=padOf_lt (idxRaw R).length
  obtain ⟨f1,f2⟩:=footM_ok (kc:=4) (.inr (.inr rfl)) (k:=k) (by omega)
  rw [if_neg (by omega),List.take_of_length_le (by omega),f1,if_neg (by simp),if_neg (by simp only;omega),List.drop_of_length_le (by omega)]
 rw [hc,hX]
 unfold xP
 rw [hxm]
 rfl
theorem openX_read {code:UInt8} (h:code.toNat≤40) {budget:Nat} (hw:winOf code.toNat≤budget) {y t:List UInt8} (hd:d2P (max (winOf code.toNat).toNat 4096) 16777216 y=(t,.inl 10)) :
 xP budget (headM 4++(hdB false [] code++y))=(t,.inl 10):=by
 obtain ⟨h1,h2⟩:=headM_ok (kc:=4) (.inr (.inr rfl))
 have hl:=hdB_12 code
 have hbo:=blockOf_hd false [] h (by simp)
 have hxm:xMem budget (headM 4++(hdB false [] code++y))=(t,.inl 10):=by
  unfold xMem
  rw [if_neg (by rw [List.length_append];omega),List.take_append_of_le_length (by omega),List.take_of_length_le (by omega),h1,if_neg (by simp),List.drop_append_of_le_length (by omega),List.drop_of_length_le (by omega),List.nil_append]
  have hx:xBlocks budget (((4:UInt8).toNat:Nat):Int) ((headM 4++(hdB false [] code++y)).length+1) [] [] (hdB false [] code++y)=(t,.inl 10):=by
   unfold xBlocks
   rw [if_neg (by rw [List.length_append];omega),hdB_head,if_neg (by decide)]
   have hh:hdLen (hdB false [] code++y)=12:=hdLen_one _ _
   unfold xBlock
   rw [hh,if_neg (by rw [List.length_append];omega),List.take_append_of_le_length (by omega),List.take_of_length_le (by omega),List.drop_append_of_le_length (by omega),List.drop_of_length_le (by omega),List.nil_append,hbo]
   unfold xBody
   simp only
   rw [if_neg (by simp),if_neg (by omega),List.length_nil,Nat.sub_zero,hd]
   rfl
  rw [hx]
 unfold xP
 rw [hxm]
open Go.RowKit Rng Win Lz Box
def codeOf (lv:Nat):UInt8:=UInt8.ofNat (8+4*lv)
theorem codeOf_win {lv:Nat} (h:lv≤3):(codeOf lv).toNat=8+4*lv∧(codeOf lv).toNat≤40∧winOf (codeOf lv).toNat=((2 ^ (16+2*lv):Nat):Int):=by
 rcases (by omega:lv=0∨lv=1∨lv=2∨lv=3) with rfl | rfl | rfl | rfl <;> exact ⟨by decide,by decide,by decide⟩
def outS (lv:Nat) (xs:List (List UInt8)):List UInt8:=if xs=[] then [] else headM 4++(hdB false [] (codeOf lv)++xs.flatten)
def endS (lv:Nat) (xs:List (List UInt8)) (txt:List UInt8):List UInt8:=if xs=[] then madeX 4 false (codeOf lv) [] else oneX (codeOf lv) (xs.flatten++[0]) txt
theorem win_ge {lv:Nat} (h:lv≤3):65536≤2 ^ (16+2*lv)∧2 ^ (16+2*lv)≤4194304:=by
 rcases (by omega:lv=0∨lv=1∨lv=2∨lv=3) with rfl | rfl | rfl | rfl <;> decide
theorem outS_len {lv:Nat} {txt:List UInt8} {xs:List (List UInt8)} {done:Nat} (hs:Strs txt 0 done xs):(outS lv xs).length≤24+done+3*xs.length:=by
 have hl:=strs_len xs 0 (Nat.zero_le _) hs
 unfold outS
 split
 ·simp
 rw [List.length_append,List.length_append,hdB_12]
 have:(headM 4).length=12:=rfl
 omega
theorem idx1_len (p:Nat×Nat):(idxB [p]).length≤35:=by
 have h1:=idxB_len [p]
 have h2:=(idxRaw_len [p]).2
 have h3:=padOf_lt (idxRaw [p]).length
 have:[p].length=1:=rfl
 omega
theorem endS_len {lv:Nat} {txt:List UInt8} {xs:List (List UInt8)} (hs:Strs txt 0 txt.length xs):(endS lv xs txt).length≤95+txt.length+3*xs.length:=by
 have hl:=strs_len xs 0 (Nat.zero_le _) hs
 unfold endS
 split
 ·have:(madeX 4 false (codeOf lv) []).length=32:=rfl
  omega
 unfold oneX
 have h1:(headM 4).length=12:=rfl
 have h2:=padOf_lt (12+(xs.flatten++[0]).length)
 have h3:=idx1_len (12+(xs.flatten++[0]).length+8,txt.length)
 have h4:∀ k,(footM k 4).length=12:=fun k=>rfl
 have h5:(xs.flatten++[0]).length=xs.flatten.length+1:=by simp
 have h6:chkLen 4=8:=rfl
 simp only [List.length_append (bs:=_),hdB_12,zs_len,chkB_len,h1,h4,h6] at *
 omega
open Go.RowKit Rng Win Lz
open Go.RowKit Rng Win Lz Fnd
open Go.RowKit Fnd
open Go.RowKit Rng Win Lz Fnd
open Go.RowKit Fnd
def sqCells (l:List Sq):List Value:=l.flatMap fun s=>[.int .i64 s.lits,.int .i64 s.mat,.int .i64 s.back]
theorem sqCells_at:∀ (l:List Sq) (k:Nat),k<l.length→(sqCells l)[k*3]?=some (.int .i64 (l.getD k default).lits)∧(sqCells l)[k*3+1]?=some (.int .i64 (l.getD k default).mat)∧(sqCells l)[k*3+2]?=some (.int .i64 (l.getD k default).back)
 | [],k,h=>absurd h (by simp)
 | s::l,0,_=>by simp [sqCells]
 | s::l,k+1,h=>by
  have ih:=sqCells_at l k (by simpa using h)
  have e:sqCells (s::l)=.int .i64 s.lits::.int .i64 s.mat::.int .i64 s.back::sqCells l:=rfl
  rw [e,show (k+1)*3=k*3+1+1+1 by omega]
  simpa using ih
theorem sqCells_append (l m:List Sq):sqCells (l++m)=sqCells l++sqCells m:=by simp [sqCells]
def OwnSq (w:World) (T base:Nat) (v:Value) (l:List Sq):Prop:=w.ownsRow base T 3 v l.length (sqCells l)
section
variable {w w' : World} {T base : Nat} {v : Value} {l : List Sq}
theorem OwnSq.nil (w:World) (T base:Nat):OwnSq w T base (.slice none 0 0) []:=World.ownsRow_nil w base T 3
theorem OwnSq.slice (h:OwnSq w T base v l):∃ A cap,v=.slice A l.length cap∧l.length≤cap∧cap≤maxLen∧SqRow w w.heap.size A l:=by
 obtain ⟨h1,h2⟩:=h
 rcases h2 with ⟨rfl,hn⟩ | ⟨g,cap,cur,rfl,hb,hh,hnc,hcm,hcs,ht⟩
 ·obtain rfl:l=[]:=List.eq_nil_of_length_eq_zero hn
  exact ⟨none,0,rfl,Nat.le_refl _,Nat.zero_le _,fun h=>absurd h (by simp)⟩
 have hp:Pts w g cur T:=hh
 refine ⟨_,cap,rfl,hnc,hcm,fun _=>⟨g,0,rfl,hp.lt,fun k hk=>?_⟩⟩
 obtain ⟨c0,c1,c2⟩:=sqCells_at l k hk
 have hx:∀ j,j<l.length*3→cur[j]?=(sqCells l)[j]?:=by
  intro j hj
  rw [← ht,List.getElem?_take,if_pos hj,Array.getElem?_toList]
 rw [hp.cell,hp.cell,hp.cell,hx _ (by omega),hx _ (by omega),hx _ (by omega)]
 simpa using ⟨c0,c1,c2⟩
theorem OwnSq.lt (h:OwnSq w T base v l) {k:Nat} (hk:v.ownBlock=some k):base≤k∧k<w.heap.size:=World.ownsRow.lt h k hk
theorem OwnSq.frm {S:Nat→Prop} (h:OwnSq w T base v l) (hf:Frm S w w') (hn:∀ k,v.ownBlock=some k→¬ S k):OwnSq w' T base v l:=by
 refine ⟨h.1,?_⟩
 rcases h.2 with h2 | ⟨g,cap,cur,rfl,hb,hh,r⟩
 ·exact .inl h2
 exact .inr ⟨g,cap,cur,rfl,hb,(hf.block g (Pts.lt hh) (hn g rfl)).trans hh,r⟩
theorem OwnSq.alloc (h:OwnSq w T base v l) (o:Obj):OwnSq (w.alloc o) T base v l:=World.ownsRow.alloc h o
theorem OwnSq.one (w:World) (T base:Nat) (hb:base≤w.heap.size) (s:Sq):OwnSq (w.alloc (.cells #[.int .i64 s.lits,.int .i64 s.mat,.int .i64 s.back] T)) T base (.slice (some ⟨w.heap.size,0,none⟩) 1 1) [s] :=
 World.ownsRow_lit w #[.int .i64 s.lits,.int .i64 s.mat,.int .i64 s.back] 1 hb (by decide) rfl
end
section
variable {P : Program} (w : World)
theorem run_append_sq (t ty T base:Nat) (ht:P.underlying t=some (.slice T)) (hinfo:(P.info? T).map (fun i=>(i.zero,i.size,i.bytes))=some (some (.agg #[.int .i64 0,.int .i64 0,.int .i64 0]),3,24))
 (v:Value) (l:List Sq) (hown:OwnSq w T base v l) (g c:Nat) (s:Sq) (hnews:Pts w g #[.int .i64 s.lits,.int .i64 s.mat,.int .i64 s.back] T)
 (hlen:l.length+1≤1000000000) (hbase:base≤w.heap.size) :
 ∃ v' w',(Builtin.append_ #[t,t] ty #[v,.slice (some ⟨g,0,none⟩) 1 c]).run P w=.ok v' w'∧OwnSq w' T base v' (l++[s])∧Frm (fun k=>v.ownBlock=some k) w w' ∧
  (v'.ownBlock=v.ownBlock∨v'.ownBlock=some w.heap.size):=by
 obtain ⟨i,hi,hzz⟩:=Option.map_eq_some_iff.1 hinfo
 simp only [Prod.mk.injEq] at hzz
 obtain ⟨hz,hs,hby⟩:=hzz
 have hcells:∀ j u,(sqCells [s])[j]?=some u→w.cell? ((⟨g,0,none⟩:Addr).add j)=some u:=by
  intro j u hu
  rw [Opn.add_at,Nat.zero_add,hnews.cell,← hu]
  show #[Value.int IntKind.i64 s.lits,.int .i64 s.mat,.int .i64 s.back][j]?=[Value.int IntKind.i64 s.lits,.int .i64 s.mat,.int .i64 s.back][j]?
  simp
 obtain ⟨v',w',hrun,h2,h3,_,h5⟩:=run_append_own_at (P:=P) w base t ty T i (.agg #[.int .i64 0,.int .i64 0,.int .i64 0]) 3 24 ht hi hz hs hby rfl (by omega) v l.length (sqCells l) hown ⟨g,0,none⟩ 1 c (sqCells [s]) (by simp [sqCells]) hcells (by intro u hu;simp [sqCells] at hu;rcases hu with rfl | rfl | rfl <;> rfl) (by unfold maxLen;omega) (by omega) hbase
 refine ⟨v',w',hrun,?_,⟨h3.os,h3.tape,h3.output,h3.size,fun k hk hn=>h3.block k hk (fun e=>hn e.symm)⟩,h5⟩
 unfold OwnSq
 rw [List.length_append,sqCells_append]
 exact h2
theorem wpList_append_sq {ops:Array Oper} {rest:List Oper} {o:Oper} {a:Act} {Q:Exit→Act→World→Prop} (hgd:o.guard=none) (u x:Operand) (t:TypeId)
 (ho:o.op=.call { callee:=.builtin .append,args:=#[u,x],argTypes:=#[t,t] })
 (T base:Nat) (ht:P.underlying t=some (.slice T)) (hinfo:(P.info? T).map (fun i=>(i.zero,i.size,i.bytes))=some (some (.agg #[.int .i64 0,.int .i64 0,.int .i64 0]),3,24))
 (v:Value) (l:List Sq) (hs:a.eval u=v) (hown:OwnSq w T base v l) (g c:Nat) (s:Sq) (hx:a.eval x=.slice (some ⟨g,0,none⟩) 1 c) (hnews:Pts w g #[.int .i64 s.lits,.int .i64 s.mat,.int .i64 s.back] T)
 (hlen:l.length+1≤1000000000) (hbase:base≤w.heap.size)
 (h:∀ v' w',OwnSq w' T base v' (l++[s])→Frm (fun k=>v.ownBlock=some k) w w'→(v'.ownBlock=v.ownBlock∨v'.ownBlock=some w.heap.size)→wpList P ops Q rest (a.put o.dst v') w'):wpList P ops Q (o::rest) a w :=
 wpList_plain hgd fun K' hK'=>by
  obtain ⟨v',w',hrun,h2,h3,h4⟩:=run_append_sq (P:=P) w t o.type T base ht hinfo v l hown g c s hnews hlen hbase
  unfold Oper.wp execOp
  simp only [ho,resolve,invoke,builtin,Sem.run_bind,Sem.run_pure,Result.andThen_ok,List.map_toArray,List.map_cons,List.map_nil,hs,hx,hrun]
  exact hK' _ _ (h v' w' h2 h3 h4)
end
def keyStep (y:Nat) (x:UInt8):Nat:=(y*256 % Num.M32) ||| (x.toNat % Num.M32)
def keyFold (l:List UInt8):Nat:=l.foldl keyStep 0
theorem keyStep_lt (y:Nat) (x:UInt8):keyStep y x<4294967296:=by
 have e:Num.M32=2 ^ 32:=rfl
 unfold keyStep
 rw [e]
 exact Nat.or_lt_two_pow (Nat.mod_lt _ (by decide)) (Nat.mod_lt _ (by decide))
theorem keyStep_cast (y:Nat) (x:UInt8):bits .or .u32 ((y:Int)*256 % 4294967296) ((x.toNat:Int) % 4294967296)=(keyStep y x:Int):=by
 have h:=Num.or32 (a:=y*256 % Num.M32) (b:=x.toNat % Num.M32) (Nat.mod_lt _ (by decide)) (Nat.mod_lt _ (by decide))
 unfold keyStep
 rw [← h]
 unfold Num.M32
 congr 1 <;> omega
theorem keyFold_lt':∀ (l:List UInt8) (y:Nat),y<4294967296→l.foldl keyStep y<4294967296
 | [],_,h=>h
 | x::l,y,_=>keyFold_lt' l _ (keyStep_lt y x)
theorem keyFold_lt (l:List UInt8):keyFold l<4294967296:=keyFold_lt' l 0 (by decide)
theorem keyFold_take {l:List UInt8} {t:Nat} (h:t<l.length):keyFold (l.take (t+1))=keyStep (keyFold (l.take t)) (l.getD t 0):=by
 unfold keyFold
 rw [List.take_succ_eq_append_getElem h,List.foldl_append]
 simp [List.getD,h]
def keyAt (bs:List UInt8) (key i:Nat):Nat:=keyFold ((bs.drop i).take key)
def MapIs (D:DataW Unit) (f:Int→Option Int):Prop :=
 Maps.IsMap D∧∀ k,Maps.has D (.int .u32 k)=(f k).isSome∧∀ p,f k=some p→D.atKey (.int .u32 k) (.lit (.int .i64 0))=.lit (.int .i64 p)
theorem MapIs.empty:MapIs (.map []) (fun _=>none):=⟨Maps.isMap_empty,fun k=>⟨rfl,fun p h=>absurd h (by simp)⟩⟩
theorem MapIs.put {D:DataW Unit} {f:Int→Option Int} (h:MapIs D f) (k p:Int):MapIs (D.put (.int .u32 k) (.lit (.int .i64 p))) (fun x=>if x=k then some p else f x):=by
 obtain ⟨h1,h2⟩:=h
 refine ⟨h1.put _ _,fun x=>?_⟩
 by_cases hx:x=k
 ·subst hx
  have hkl:WideAt.IsKeyLit (.int .u32 x):=trivial
  simp only [if_true]
  refine ⟨by rw [Maps.has_put_same h1 hkl];rfl,fun q hq=>?_⟩
  injection hq with hq
  subst hq
  exact Maps.atKey_put_same h1 hkl _ _
 have hne:(Lit.int .u32 x)≠.int .u32 k:=fun e=>hx (by injection e)
 simp only [if_neg hx]
 refine ⟨by rw [Maps.has_put_other hne];exact (h2 x).1,fun q hq=>?_⟩
 rw [Maps.atKey_put_other hne]
 exact (h2 x).2 q hq
theorem World.ownsMap.frm {H:Type} {P:Program} {k:TypeId} {R:Value→Option (DataW H×List MemPlace)} {b n:Nat} {D:DataW H} {w w':World} {S:Nat→Prop} (h:w.ownsMap P k R b n D) (hf:Frm S w w') (hn:¬ S b):w'.ownsMap P k R b n D:=by
 have hlt:=World.ownsMap.lt h
 obtain ⟨es,clock,hb,r⟩:=h
 exact ⟨es,clock,(hf.block b hlt hn).trans hb,r⟩
open Go.RowKit Fnd
theorem slice_mid (A:Option Addr) (n c f m:Nat) (hf:f+m≤n) (hn:n≤c) (w:World) :
 (Instr.sliceAt 27 (.slice A n c) (some (.int .i64 (f:Int))) (some (.int .i64 (f+m:Int))) none).run Tryz.prog w=.ok (.slice (if c=f then A else A.map (·.add f)) m (c-f)) w:=by
 have e:((f:Int)+m).toNat=f+m:=by omega
 by_cases hcf:c=f
 ·simp [go_sem,hcf,e]
  intro h;exact absurd (h (by omega)) (by omega)
 simp [go_sem,hcf,e]
 intro h;exact absurd (h (by omega)) (by omega)
theorem at_no (bc:Nat) (A:Option Addr) (n cap key i:Nat) (mv pv:Value) (w:World) (hc:Pts w bc #[.slice A n cap,.int .i64 key,mv,pv] 159)
 (hi:n<i+key) (hcap:n≤cap) (hcm:cap≤maxLen) (hi2:i≤n) (hk:key≤4) (hb:n≤1048576) :
 Calls Tryz.prog 85 #[.pointer (some ⟨bc,0,none⟩),.int .i64 i] w fun e w'=>e=.returned (.tuple #[.int .u32 0,.bool false])∧∃ d,w'=w.drewN d:=by
 have c0:w.cell? ⟨bc,0,none⟩=some (.slice A n cap):=by rw [hc.cell];rfl
 have c1:w.cell? ⟨bc,1,none⟩=some (.int .i64 key):=by rw [hc.cell];rfl
 unfold maxLen at hcm
 clear hc
 go_enter Tryz.func85,Tryz.ntmps85
 go_wp2
 go_quiet (fail)
 go_wp2
 go_ret2
 exact ⟨rfl,_,rfl⟩
theorem at_any (bc:Nat) (A:Option Addr) (bs:List UInt8) (cap key i:Nat) (mv pv:Value) (w:World) (hc:Pts w bc #[.slice A bs.length cap,.int .i64 key,mv,pv] 159)
 (hr:BRow w w.heap.size A bs) (hcap:bs.length≤cap) (hcm:cap≤maxLen) (hi:i+key≤bs.length) (hb:bs.length≤1048576) :
 Calls Tryz.prog 85 #[.pointer (some ⟨bc,0,none⟩),.int .i64 i] w fun e w'=>e=.returned (.tuple #[.int .u32 (keyAt bs key i),.bool true])∧∃ d,w'=w.drewN d:=by
 have HR:=hid ((hr.drop (k:=i) hcap).take key)
 have hs:=fun w=>slice_mid A bs.length cap i key hi hcap w
 generalize (if cap=i then A else A.map (·.add i))=Ar at *
 have c0:w.cell? ⟨bc,0,none⟩=some (.slice A bs.length cap):=by rw [hc.cell];rfl
 have c1:w.cell? ⟨bc,1,none⟩=some (.int .i64 key):=by rw [hc.cell];rfl
 have hlen:((bs.drop i).take key).length=key:=by rw [List.length_take,List.length_drop];omega
 have HLEN:=hid hlen
 have hkd:keyAt bs key i=keyFold ((bs.drop i).take key):=rfl
 generalize (bs.drop i).take key=l at *
 generalize keyAt bs key i=kk at *
 have HK:=hid hkd
 unfold maxLen at hcm
 clear hr hc hlen hkd
 go_enter Tryz.func85,Tryz.ntmps85
 go_wp2
 go_quiet (fail)
 go_wp2
 go_quiet (fail)
 go_wp2
 clear hs
 go_loopw [4,33] (fun kv iv wr=>∃ (t:Nat),t≤key∧iv=.int .i64 t∧kv=.int .u32 (keyFold (l.take t))∧∃ d,wr=w.drewN d) (fun _ iv _=>key-(intOf iv).toNat)
 case atStart=>exact ⟨0,by omega,rfl,rfl,_,World.drewN_drewN _ _ _⟩
 obtain ⟨t,ht,rfl,rfl,dd,rfl⟩:=hrel
 by_cases htk:t<key
 ·obtain ⟨b,off,rfl,hb1,hcc⟩:=HR.out (by rw [HLEN.out];omega)
  have hc1:=hcc t (by rw [HLEN.out];omega)
  have hcw:(w.drewN dd).cell? ⟨b,off+t,none⟩=_:=hc1
  have HF:=hid (keyFold_take (l:=l) (t:=t) (by rw [HLEN.out];omega))
  clear hc1 hcc
  unfold byteV at hcw
  generalize l.getD t 0=x at *
  generalize keyFold (l.take t)=y at *
  have HC:=hid (keyStep_cast y x)
  go_wp2
  exact ⟨⟨t+1,by omega,by go_num,by rw [HF.out,← HC.out],_,rfl⟩,by simp [intOf];omega⟩
 obtain rfl:t=key:=by omega
 have hF:kk=keyFold (l.take t):=by rw [HK.out,List.take_of_length_le (by rw [HLEN.out];exact Nat.le_refl _)]
 have HF:=hid hF
 clear hF
 generalize keyFold (l.take t)=y at *
 go_wp2
 go_ret2
 exact ⟨by rw [HF.out];rfl,_,rfl⟩
theorem wf_u32 {a:Int} (h0:0≤a) (h:a<4294967296):(Lit.int .u32 a).wf=true:=by
 simp [Lit.wf,IntKind.min,IntKind.max,IntKind.signed,IntKind.bits];omega
theorem wf_i64 {a:Int} (h0 : -9223372036854775808≤a) (h:a≤9223372036854775807):(Lit.int .i64 a).wf=true:=by
 simp [Lit.wf,IntKind.min,IntKind.max,IntKind.signed,IntKind.bits];omega
theorem Tryz.law_u32:Go.Maps.Keyed Tryz.prog 60:=Go.Maps.int_keyed Tryz.underlying60
theorem Tryz.zero_int (w:World):(zeroValue 3).run Tryz.prog w=.ok (.int .i64 0) w:=by kernel_rfl
def prevCells (prev:List Int):Array Value:=(prev.map (Value.int .i64)).toArray
theorem prevCells_set (prev:List Int) (i:Nat) (x:Int):(prevCells prev).setIfInBounds i (.int .i64 x)=prevCells (prev.set i x):=by
 unfold prevCells
 apply Array.toList_inj.1
 simp [List.map_set]
theorem prevCells_get (prev:List Int) (i:Nat) (h:i<prev.length):(prevCells prev)[i]?=some (.int .i64 (prev.getD i 0)):=by
 unfold prevCells
 simp [List.getD,h]
structure ChainAt (w:World) (B bc bp bm:Nat) (A:Option Addr) (cap:Nat) (bs:List UInt8) (key cnt:Nat) (f:Int→Option Int) (prev:List Int):Prop where
 c:Pts w bc #[.slice A bs.length cap,.int .i64 key,.map (some bm),.slice (some ⟨bp,0,none⟩) bs.length bs.length] 159
 p:Pts w bp (prevCells prev) 3
 n:prev.length=bs.length
 m:∃ D,w.ownsMap Tryz.prog 60 (plainElem Tryz.prog 3) bm cnt D∧MapIs D f
 row:BRow w B A bs
 hc:B≤bc
 hp:B≤bp
 hm:B≤bm
section
variable {w w' : World} {B bc bp bm : Nat} {A : Option Addr} {cap : Nat} {bs : List UInt8} {key cnt : Nat} {f : Int → Option Int} {prev : List Int}
theorem ChainAt.ne (h:ChainAt w B bc bp bm A cap bs key cnt f prev):bc≠bp∧bc≠bm∧bp≠bm:=by
 obtain ⟨D,hD,_⟩:=h.m
 obtain ⟨es,cl,hb,_⟩:=hD
 refine ⟨?_,?_,?_⟩
 ·rintro rfl
  have e:=h.c.symm.trans h.p
  simp at e
 ·rintro rfl
  have e:=h.c.symm.trans hb
  cases e
 rintro rfl
 have e:=h.p.symm.trans hb
 cases e
theorem ChainAt.lt (h:ChainAt w B bc bp bm A cap bs key cnt f prev):bc<w.heap.size∧bp<w.heap.size∧bm<w.heap.size:=by
 obtain ⟨D,hD,_⟩:=h.m
 exact ⟨h.c.lt,h.p.lt,World.ownsMap.lt hD⟩
theorem ChainAt.frm {S:Nat→Prop} (h:ChainAt w B bc bp bm A cap bs key cnt f prev) (hf:Frm S w w') (h1:¬ S bc) (h2:¬ S bp) (h3:¬ S bm) (h4:∀ k,S k→B≤k):ChainAt w' B bc bp bm A cap bs key cnt f prev:=by
 obtain ⟨D,hD,hM⟩:=h.m
 exact ⟨h.c.frm hf h1,h.p.frm hf h2,h.n,⟨D,World.ownsMap.frm hD hf h3,hM⟩,h.row.below (hf.below (Nat.le_trans h.hc (Nat.le_of_lt h.c.lt)) h4),h.hc,h.hp,h.hm⟩
theorem ChainAt.mono (h:ChainAt w B bc bp bm A cap bs key cnt f prev) {cnt':Nat} (hn:cnt≤cnt'):ChainAt w B bc bp bm A cap bs key cnt' f prev:=by
 obtain ⟨D,hD,hM⟩:=h.m
 exact ⟨h.c,h.p,h.n,⟨D,World.ownsMap.mono hD hn,hM⟩,h.row,h.hc,h.hp,h.hm⟩
end
def addF (bs:List UInt8) (key i:Nat) (f:Int→Option Int):Int→Option Int :=
 if i+key≤bs.length then (fun x=>if x=(keyAt bs key i:Int) then some (i:Int) else f x) else f
def addP (bs:List UInt8) (key i:Nat) (f:Int→Option Int):Int :=
 if i+key≤bs.length then (f (keyAt bs key i)).getD (-1) else -1
set_option maxRecDepth 100000 in
theorem fadd_any (B bc bp bm:Nat) (A:Option Addr) (cap:Nat) (bs:List UInt8) (key cnt i:Nat) (f:Int→Option Int) (prev:List Int) (w:World) (hC:ChainAt w B bc bp bm A cap bs key cnt f prev)
 (hcap:bs.length≤cap) (hcm:cap≤maxLen) (hb:bs.length≤1048576) (hk:key≤4) (hi:i<bs.length) (hcnt:cnt≤10000000) (hf:∀ k p,f k=some p→(Lit.int .i64 p).wf=true) :
 Calls Tryz.prog 71 #[.pointer (some ⟨bc,0,none⟩),.int .i64 i] w fun e w'=>e=.returned (.tuple #[]) ∧
  ChainAt w' B bc bp bm A cap bs key (cnt+1) (addF bs key i f) (prev.set i (addP bs key i f))∧Frm (fun k=>k=bp∨k=bm) w w':=by
 obtain ⟨n1,n2,n3⟩:=hC.ne
 obtain ⟨l1,l2,l3⟩:=hC.lt
 have c0:w.cell? ⟨bc,0,none⟩=some (.slice A bs.length cap):=by rw [hC.c.cell];rfl
 have c1:w.cell? ⟨bc,1,none⟩=some (.int .i64 key):=by rw [hC.c.cell];rfl
 have c2:w.cell? ⟨bc,2,none⟩=some (.map (some bm)):=by rw [hC.c.cell];rfl
 have c3:w.cell? ⟨bc,3,none⟩=some (.slice (some ⟨bp,0,none⟩) bs.length bs.length):=by rw [hC.c.cell];rfl
 have p0:w.cell? ⟨bp,i,none⟩=some (.int .i64 (prev.getD i 0)):=by rw [hC.p.cell,prevCells_get _ _ (by rw [hC.n];exact hi)]
 have p1:w.frozen? ⟨bp,i,none⟩=false:=hC.p.frozen _
 have hw1:Frm (fun k=>k=bp) w (w.setCell ⟨bp,i,none⟩ (.int .i64 (-1))):=(Frm.refl _ _).setCell (by rfl) _
 have hpts:Pts (w.setCell ⟨bp,i,none⟩ (.int .i64 (-1))) bc _ _:=hC.c.other (by exact n1) _
 have hset:Pts (w.setCell ⟨bp,i,none⟩ (.int .i64 (-1))) bp (prevCells (prev.set i (-1))) 3:=by rw [← prevCells_set];exact hC.p.set _ _
 by_cases hik:i+key≤bs.length
 ·obtain ⟨D,hD,hM⟩:=hC.m
  have hrow1:=(hC.row.below (hw1.below (Nat.le_trans hC.hc (Nat.le_of_lt l1)) (fun k hk=>by subst hk;exact hC.hp))).more (B':=(w.setCell ⟨bp,i,none⟩ (.int .i64 (-1))).heap.size) (by have:=hw1.size;exact Nat.le_trans (Nat.le_trans hC.hc (Nat.le_of_lt l1)) this)
  have hmap1:=World.ownsMap.frm hD hw1 (fun e=>n3 e.symm)
  have HROW:=hid hrow1
  have HMAP:=hid hmap1
  have hCC:=hid hC
  have hPP:=hid hpts
  have hSS:=hid hset
  have HM:=hid hM
  have hW:=hid hw1
  have hF:addF bs key i f=(fun x=>if x=(keyAt bs key i:Int) then some (i:Int) else f x):=if_pos hik
  have hP:addP bs key i f=(f (keyAt bs key i)).getD (-1):=if_pos hik
  have hkl:keyAt bs key i<4294967296:=keyFold_lt _
  have hkey:keyOf Tryz.prog 60 (.int .u32 (keyAt bs key i))=some (.int .u32 (keyAt bs key i)):=Go.Maps.keyOf_int_mk Tryz.underlying60 (wf_u32 (by omega) (by omega))
  have HAT:=hid (fun (w:World) hc hr=>at_any bc A bs cap key i (.map (some bm)) (.slice (some ⟨bp,0,none⟩) bs.length bs.length) w hc hr hcap hcm hik hb)
  rw [hF,hP]
  obtain ⟨hh,hv⟩:=hM.2 (keyAt bs key i)
  clear hrow1 hmap1 hC hpts hset hM hw1 hF hP
  generalize keyAt bs key i=kk at *
  have hwfi:(Lit.int .i64 (i:Int)).wf=true:=wf_i64 (by omega) (by omega)
  have x3:(w.setCell ⟨bp,i,none⟩ (.int .i64 (-1))).cell? ⟨bc,3,none⟩=some (.slice (some ⟨bp,0,none⟩) bs.length bs.length):=by rw [hPP.out.cell];rfl
  have x2:(w.setCell ⟨bp,i,none⟩ (.int .i64 (-1))).cell? ⟨bc,2,none⟩=some (.map (some bm)):=by rw [hPP.out.cell];rfl
  have x4:(w.setCell ⟨bp,i,none⟩ (.int .i64 (-1))).cell? ⟨bp,i,none⟩=some (.int .i64 (-1)):=by rw [hSS.out.cell,prevCells_get _ _ (by simp [hCC.out.n];exact hi)];simp [List.getD,hCC.out.n,hi]
  cases hfk:f kk with
  | none =>
   rw [hfk] at hh
   simp only [Option.isSome_none] at hh
   have HV:=hid hv
   have HFK:=hid hfk
   clear hv hfk hf
   go_enter Tryz.func71,Tryz.ntmps71
   go_wp2_with (first
    | (go_at_call 85;refine (HAT.out _ hPP.out HROW.out).mono ?_;rintro e w1 ⟨rfl,d,rfl⟩)
    | (at_lookup;refine Go.wpList_lookup_own_ok_int _ rfl (.tmp 25) (.tmp 26) 156 rfl 60 3 .i64 Tryz.law_u32 Tryz.underlying156 Tryz.underlying3 (Tryz.zero_int _) bm cnt D rfl HMAP.out _ _ rfl hkey ?_;intro c hat hwc)
    | (at_mapUpdate;refine Go.wpList_mapUpdate_own _ rfl (.tmp 41) (.tmp 42) (.tmp 43) 156 rfl 60 3 Tryz.law_u32 Tryz.underlying156 (plainElem Tryz.prog 3) bm cnt D rfl HMAP.out (by unfold maxLen;omega) _ _ _ rfl rfl hkey _ [] (plainElem_int Tryz.underlying3 hwfi) ?_;intro w2 hown2 hgr2)
    | go_in)
   go_end0
   have hF2:Frm (fun k=>k=bm) ((w.setCell ⟨bp,i,none⟩ (.int .i64 (-1))).drewN d) w2:=⟨hgr2.os,hgr2.tape,hgr2.output,hgr2.size,fun k hk hn=>hgr2.block k hk (fun e=>hn (by injection e))⟩
   have hF3:Frm (fun k=>k=bp∨k=bm) w w2:=((hW.out.drewN d).mono (fun k _ hk=>.inl hk)).trans (hF2.mono (fun k _ hk=>.inr hk))
   exact ⟨rfl,⟨(hPP.out.drewN d).frm hF2 n2,(hSS.out.drewN d).frm hF2 n3,by simp [hCC.out.n],⟨_,hown2,HM.out.put _ _⟩,
    hCC.out.row.below (hF3.below (Nat.le_trans hCC.out.hc (Nat.le_of_lt l1)) (fun k hk=>by rcases hk with rfl | rfl;exact hCC.out.hp;exact hCC.out.hm)),hCC.out.hc,hCC.out.hp,hCC.out.hm⟩,hF3⟩
  | some p =>
   rw [hfk] at hh
   simp only [Option.isSome_some] at hh
   have HV:=hid (hv p hfk)
   have HFK:=hid hfk
   clear hv hfk hf
   go_enter Tryz.func71,Tryz.ntmps71
   go_wp2_with (first
    | (go_at_call 85;refine (HAT.out _ hPP.out HROW.out).mono ?_;rintro e w1 ⟨rfl,d,rfl⟩)
    | (at_lookup;refine Go.wpList_lookup_own_ok_int _ rfl (.tmp 25) (.tmp 26) 156 rfl 60 3 .i64 Tryz.law_u32 Tryz.underlying156 Tryz.underlying3 (Tryz.zero_int _) bm cnt D rfl HMAP.out _ _ rfl hkey ?_;intro c hat hwc;obtain rfl:c=p:=by { have e:=hat.symm.trans HV.out;injection e with e;injection e };clear hat)
    | (at_mapUpdate;refine Go.wpList_mapUpdate_own _ rfl (.tmp 41) (.tmp 42) (.tmp 43) 156 rfl 60 3 Tryz.law_u32 Tryz.underlying156 (plainElem Tryz.prog 3) bm cnt D rfl (World.ownsMap.frm (S:=fun k=>k=bp) HMAP.out (((Frm.refl _ _).drewN _).setCell (by rfl) _) (fun e=>n3 e.symm)) (by unfold maxLen;omega) _ _ _ rfl rfl hkey _ [] (plainElem_int Tryz.underlying3 hwfi) ?_;intro w2 hown2 hgr2)
    | go_in)
   go_end0
   have hS2:Pts (((w.setCell ⟨bp,i,none⟩ (.int .i64 (-1))).drewN d).setCell ⟨bp,i,none⟩ (.int .i64 c)) bp (prevCells (prev.set i c)) 3:=by have:=(hSS.out.drewN d).set i (.int .i64 c);rw [prevCells_set,List.set_set] at this;exact this
   have hF2:Frm (fun k=>k=bm) (((w.setCell ⟨bp,i,none⟩ (.int .i64 (-1))).drewN d).setCell ⟨bp,i,none⟩ (.int .i64 c)) w2:=⟨hgr2.os,hgr2.tape,hgr2.output,hgr2.size,fun k hk hn=>hgr2.block k hk (fun e=>hn (by injection e))⟩
   have hF3:Frm (fun k=>k=bp∨k=bm) w w2:=(((hW.out.drewN d).setCell (by rfl) _).mono (fun k _ hk=>.inl hk)).trans (hF2.mono (fun k _ hk=>.inr hk))
   exact ⟨rfl,⟨((hPP.out.drewN d).other (by exact n1) _).frm hF2 n2,hS2.frm hF2 n3,by simp [hCC.out.n],⟨_,hown2,HM.out.put _ _⟩,
    hCC.out.row.below (hF3.below (Nat.le_trans hCC.out.hc (Nat.le_of_lt l1)) (fun k hk=>by rcases hk with rfl | rfl;exact hCC.out.hp;exact hCC.out.hm)),hCC.out.hc,hCC.out.hp,hCC.out.hm⟩,hF3⟩
 have hCC:=hid hC
 have hPP:=hid hpts
 have hSS:=hid hset
 have hF:addF bs key i f=f:=if_neg hik
 have hP:addP bs key i f = -1:=if_neg hik
 have hW:=hid hw1
 rw [hF,hP]
 clear hC hpts hset hw1 hF hP
 go_enter Tryz.func71,Tryz.ntmps71
 go_wp2_with (go_at_call 85;refine (at_no _ _ _ _ _ _ _ _ _ hPP.out (by omega) hcap hcm (by omega) hk hb).mono ?_;rintro e w1 ⟨rfl,d,rfl⟩)
 go_end0
 have hfr:=hW.out.drewN d
 exact ⟨rfl,⟨hPP.out.drewN d,hSS.out.drewN d,by simp [hCC.out.n],by obtain ⟨D,hD,hM⟩:=hCC.out.m;exact ⟨D,(World.ownsMap.frm hD hfr (fun e=>n3 e.symm)).mono (by omega),hM⟩,
  hCC.out.row.below (hfr.below (Nat.le_trans hCC.out.hc (Nat.le_of_lt l1)) (fun k hk=>by subst hk;exact hCC.out.hp)),hCC.out.hc,hCC.out.hp,hCC.out.hm⟩,hfr.mono fun k _ hk=>.inl hk⟩
open Go.RowKit Fnd
def MatchOk (bs:List UInt8) (win i size back:Nat):Prop :=
 (size=0∧back=0)∨(1≤back∧back≤win∧back≤i∧∀ k,k<size→bs.getD (i+k) 0=bs.getD (i+k-back) 0)
def Whole (bs:List UInt8) (key win lim i:Nat) (f:Int→Option Int):Prop :=
 i+key≤bs.length∧∃ p:Nat,f (keyAt bs key i)=some (p:Int)∧p<i∧i-p≤win∧∀ j,j<lim→bs.getD (p+j) 0=bs.getD (i+j) 0
structure Longest (bs:List UInt8) (key win least most i:Nat) (f:Int→Option Int) (size back:Nat):Prop where
 ok:MatchOk bs win i size back
 lim:size≤min most (bs.length-i)
 lo:size=0∨least≤size
 whole:Whole bs key win (min most (bs.length-i)) i f→least≤min most (bs.length-i)→size=min most (bs.length-i)
theorem long_no {bs:List UInt8} {key win least most i lim:Nat} {f:Int→Option Int} (hl:min most (bs.length-i)=lim) {sz:Nat} (h:Whole bs key win lim i f→least≤lim→sz=lim) (hs:sz<least):Longest bs key win least most i f 0 0 :=
 ⟨.inl ⟨rfl,rfl⟩,Nat.zero_le _,.inl rfl,fun h1 h2=>by rw [hl] at *;have:=h h1 h2;omega⟩
theorem long_yes {bs:List UInt8} {key win least most i lim:Nat} {f:Int→Option Int} (hl:min most (bs.length-i)=lim) {sz bk:Nat} (h0:MatchOk bs win i sz bk) (h1:sz≤lim) (h:Whole bs key win lim i f→least≤lim→sz=lim) (hs:least≤sz):Longest bs key win least most i f sz bk :=
 ⟨h0,by omega,.inr hs,fun h1 h2=>by rw [hl] at *;exact h h1 h2⟩
theorem match_new {bs:List UInt8} {win i q t:Nat} (hq:q<i) (hw:i-q≤win) (h:∀ j,j<t→bs.getD (q+j) 0=bs.getD (i+j) 0):MatchOk bs win i t (i-q) :=
 .inr ⟨by omega,hw,by omega,fun k hk=>by rw [show i+k-(i-q)=q+k by omega];exact (h k hk).symm⟩
set_option maxRecDepth 100000 in
set_option maxHeartbeats 1000000 in
theorem longest_any (B bc bp bm:Nat) (A:Option Addr) (cap:Nat) (bs:List UInt8) (key cnt i win least most tries:Nat) (lazy:Bool) (f:Int→Option Int) (prev:List Int) (w:World) (hC:ChainAt w B bc bp bm A cap bs key cnt f prev)
 (hcap:bs.length≤cap) (hcm:cap≤maxLen) (hb:bs.length≤1048576) (hk:key≤4) (hi:i≤bs.length) (hf:∀ k p,f k=some p→0≤p∧p<i)
 (hprev:∀ j,j<bs.length → -1≤prev.getD j 0∧prev.getD j 0≤j) (hw1:1≤win) (hw2:win≤16777216) (hl2:2≤least) (hlm:least≤most) (hm:most≤65536) (ht:1≤tries) (ht2:tries≤1000) :
 Calls Tryz.prog 73 #[.pointer (some ⟨bc,0,none⟩),.int .i64 i,.agg #[.int .i64 win,.int .i64 least,.int .i64 most,.int .i64 tries,.bool lazy]] w fun e w' =>
  ∃ size back:Nat,e=.returned (.tuple #[.int .i64 size,.int .i64 back])∧Longest bs key win least most i f size back∧Below w.heap.size w w':=by
 obtain ⟨l1,l2,l3⟩:=hC.lt
 have hc1:Pts (w.alloc (.cells #[.int .i64 win,.int .i64 least,.int .i64 most,.int .i64 tries,.bool lazy] 154)) bc _ _:=hC.c.alloc _
 have PC:=hid hc1
 have hbel:Below w.heap.size w (w.alloc (.cells #[.int .i64 win,.int .i64 least,.int .i64 most,.int .i64 tries,.bool lazy] 154)):=(Below.refl _ _).alloc (Nat.le_refl _) _
 have BE:=hid hbel
 clear hc1 hbel
 by_cases hik:i+key≤bs.length
 ·obtain ⟨D,hD,hM⟩:=hC.m
  have hrow1:BRow (w.alloc (.cells #[.int .i64 win,.int .i64 least,.int .i64 most,.int .i64 tries,.bool lazy] 154)) w.heap.size A bs:=(hC.row.more (Nat.le_trans hC.hc (Nat.le_of_lt l1))).below BE.out
  have hmap1:=World.ownsMap.alloc hD (.cells #[.int .i64 win,.int .i64 least,.int .i64 most,.int .i64 tries,.bool lazy] 154)
  have ROW:=hid hrow1
  have HMAP:=hid hmap1
  have HF:=hid hf
  have hPP:=hid hC.p
  have HN:=hid hC.n
  have HPREV:=hid hprev
  have hkl:keyAt bs key i<4294967296:=keyFold_lt _
  have hkey:keyOf Tryz.prog 60 (.int .u32 (keyAt bs key i))=some (.int .u32 (keyAt bs key i)):=Go.Maps.keyOf_int_mk Tryz.underlying60 (wf_u32 (by omega) (by omega))
  have HAT:=hid (fun (w:World) hc hr=>at_any bc A bs cap key i (.map (some bm)) (.slice (some ⟨bp,0,none⟩) bs.length bs.length) w hc hr hcap hcm hik hb)
  have hkk:∃ kk,keyAt bs key i=kk:=⟨_,rfl⟩
  obtain ⟨kk,hkk⟩:=hkk
  have HKK:=hid hkk
  rw [hkk] at hkl hkey
  have HAT2:∀ (w:World),Pts w bc #[.slice A bs.length cap,.int .i64 key,.map (some bm),.slice (some ⟨bp,0,none⟩) bs.length bs.length] 159→BRow w w.heap.size A bs→Calls Tryz.prog 85 #[.pointer (some ⟨bc,0,none⟩),.int .i64 i] w fun e w'=>e=.returned (.tuple #[.int .u32 kk,.bool true])∧∃ d,w'=w.drewN d:=by rw [← hkk];exact HAT.out
  have HAT3:=hid HAT2
  obtain ⟨hh,hv⟩:=hM.2 kk
  have x2:(w.alloc (.cells #[.int .i64 win,.int .i64 least,.int .i64 most,.int .i64 tries,.bool lazy] 154)).cell? ⟨bc,2,none⟩=some (.map (some bm)):=by rw [PC.out.cell];rfl
  have x0:(w.alloc (.cells #[.int .i64 win,.int .i64 least,.int .i64 most,.int .i64 tries,.bool lazy] 154)).cell? ⟨bc,0,none⟩=some (.slice A bs.length cap):=by rw [PC.out.cell];rfl
  have hlim:∃ lim,min most (bs.length-i)=lim:=⟨_,rfl⟩
  obtain ⟨lim,hlim⟩:=hlim
  have hmin:min (most:Int) ((bs.length:Int)-i)=lim:=by omega
  have HLIM:=hid hlim
  have hlimle:i+lim≤bs.length:=by omega
  have hlimm:lim≤most:=by omega
  have hmin2:=fun w=>min2_int (P:=Tryz.prog) #[3,3] 3 most ((bs.length:Int)-i) lim hmin w
  clear hlim hmin hkk HAT2 HAT hC hrow1 hmap1 hf hprev hM hD
  cases hfk:f kk with
  | none =>
   rw [hfk] at hh
   simp only [Option.isSome_none] at hh
   have HFK:=hid hfk
   clear hv hfk
   go_enter Tryz.func73,Tryz.ntmps73
   go_wp2
   go_step3
   go_wp2_with (first
    | (go_at_call 85;refine (HAT3.out _ PC.out (ROW.out.more (by simp))).mono ?_;rintro e w1 ⟨rfl,d,rfl⟩)
    | (at_lookup;refine Go.wpList_lookup_own_ok_int _ rfl (.tmp 27) (.tmp 28) 156 rfl 60 3 .i64 Tryz.law_u32 Tryz.underlying156 Tryz.underlying3 (Tryz.zero_int _) bm cnt D rfl HMAP.out _ _ rfl hkey ?_;intro c hat hwc)
    | go_in)
   go_quiet (fail)
   go_wp2
   go_step3
   go_wp2
   refine wp_loop_once ?_
   go_wp2
   rw [Exit.noGoto_ret]
   go_ret2
   exact ⟨0,0,rfl,⟨.inl ⟨rfl,rfl⟩,Nat.zero_le _,.inl rfl,fun h=>by obtain ⟨_,p,hp,_⟩:=h;rw [HKK.out,HFK.out] at hp;cases hp⟩,below_drewN BE.out _⟩
  | some p =>
   rw [hfk] at hh
   simp only [Option.isSome_some] at hh
   obtain ⟨hp0,hp1⟩:=HF.out _ _ hfk
   obtain ⟨p0,rfl⟩:∃ p0:Nat,p=p0:=⟨p.toNat,by omega⟩
   have HV:=hid (hv p0 hfk)
   have hwh:∀ q,f (keyAt bs key i)=some q→q=p0:=by intro q hq;rw [HKK.out,hfk] at hq;injection hq with hq;exact hq.symm
   have HWH:=hid hwh
   have hpi:p0<i:=by omega
   have PP:Pts (w.alloc (.cells #[.int .i64 win,.int .i64 least,.int .i64 most,.int .i64 tries,.bool lazy] 154)) bp _ _:=hPP.out.alloc _
   have PPH:=hid PP
   have x3:(w.alloc (.cells #[.int .i64 win,.int .i64 least,.int .i64 most,.int .i64 tries,.bool lazy] 154)).cell? ⟨bc,3,none⟩=some (.slice (some ⟨bp,0,none⟩) bs.length bs.length):=by rw [PC.out.cell];rfl
   have y0:(w.alloc (.cells #[.int .i64 win,.int .i64 least,.int .i64 most,.int .i64 tries,.bool lazy] 154)).cell? ⟨w.heap.size,0,none⟩=some (.int .i64 win):=by rw [(Pts.new w _ _).cell];rfl
   have y1:(w.alloc (.cells #[.int .i64 win,.int .i64 least,.int .i64 most,.int .i64 tries,.bool lazy] 154)).cell? ⟨w.heap.size,1,none⟩=some (.int .i64 least):=by rw [(Pts.new w _ _).cell];rfl
   have y3:(w.alloc (.cells #[.int .i64 win,.int .i64 least,.int .i64 most,.int .i64 tries,.bool lazy] 154)).cell? ⟨w.heap.size,3,none⟩=some (.int .i64 tries):=by rw [(Pts.new w _ _).cell];rfl
   clear hv hfk hwh hp0 hp1 PP
   go_enter Tryz.func73,Tryz.ntmps73
   go_wp2
   go_step3
   go_wp2_with (first
    | (go_at_call 85;refine (HAT3.out _ PC.out (ROW.out.more (by simp))).mono ?_;rintro e w1 ⟨rfl,d,rfl⟩)
    | (at_lookup;refine Go.wpList_lookup_own_ok_int _ rfl (.tmp 27) (.tmp 28) 156 rfl 60 3 .i64 Tryz.law_u32 Tryz.underlying156 Tryz.underlying3 (Tryz.zero_int _) bm cnt D rfl HMAP.out _ _ rfl hkey ?_;intro c hat hwc;obtain rfl:c=p0:=by { have e:=hat.symm.trans HV.out;injection e with e;injection e };clear hat HV)
    | go_in)
   go_quiet (fail)
   go_wp2
   go_step3
   go_wp2
   generalize w.alloc (.cells #[.int .i64 win,.int .i64 least,.int .i64 most,.int .i64 tries,.bool lazy] 154)=w1 at *
   obtain ⟨b,off,rfl,hblt,hcells⟩:=ROW.out (by omega)
   have CELLS:=hid hcells
   clear hcells hmin2 ROW HMAP HAT3
   go_loopw [6,7,10,13] (fun sv kv pv nv wr=>∃ (sz bk nn:Nat) (q:Int),sv=.int .i64 sz∧kv=.int .i64 bk∧pv=.int .i64 q∧nv=.int .i64 nn∧nn≤tries ∧ -1≤q∧q<i∧MatchOk bs win i sz bk∧sz≤lim ∧
    (nn=0→sz=0∧q=p0)∧(0<nn→Whole bs key win lim i f→least≤lim→False)∧∃ dd,wr=w1.drewN dd) (fun _ _ _ nv _=>tries-(intOf nv).toNat)
   case atStart=>exact ⟨0,0,0,p0,rfl,rfl,rfl,rfl,by omega,by omega,by omega,.inl ⟨rfl,rfl⟩,by omega,fun _=>⟨rfl,rfl⟩,fun h=>absurd h (by omega),by first | exact ⟨_,rfl⟩ | exact ⟨_,World.drewN_drewN _ _ _⟩⟩
   obtain ⟨sz,bk,nn,q,rfl,rfl,rfl,rfl,hnn,hq1,hqi,hmo,hszl,hst,hnw,dd,rfl⟩:=hrel
   have MO:=hid hmo
   have ST:=hid hst
   have NW:=hid hnw
   clear hmo hst hnw
   by_cases hend:q<0∨tries≤nn∨(win:Int)<i-q
   ·have hfin:Whole bs key win lim i f→least≤lim→sz=lim:=by
     intro h1 h2
     by_cases h0:0<nn
     ·exact (NW.out h0 h1 h2).elim
     obtain ⟨_,rfl⟩:=ST.out (by omega)
     obtain ⟨_,p,hp,hp2,hp3,_⟩:=h1
     have:=HWH.out _ hp
     omega
    have FIN:=hid hfin
    clear hfin
    have h3:q<0∨(0≤q∧tries≤nn)∨(0≤q∧nn<tries∧(win:Int)<i-q):=by omega
    clear hend
    by_cases hsl:sz<least
    ·have LN:=hid (long_no HLIM.out FIN.out hsl)
     rcases h3 with h | ⟨h,h2⟩ | ⟨h,h2,h4⟩
     all_goals
      go_wp2
      try rw [Exit.noGoto_ret]
      go_ret2
      exact ⟨0,0,rfl,LN.out,below_drewN BE.out _⟩
    have LY:=hid (long_yes HLIM.out MO.out hszl FIN.out (by omega))
    rcases h3 with h | ⟨h,h2⟩ | ⟨h,h2,h4⟩
    all_goals
     go_wp2
     try rw [Exit.noGoto_ret]
     go_ret2
     exact ⟨sz,bk,rfl,LY.out,below_drewN BE.out _⟩
   obtain ⟨Q,rfl⟩:∃ Q:Nat,q=Q:=⟨q.toNat,by omega⟩
   have hQi:Q<i:=by omega
   have hQw:((i:Int)-Q)≤win:=by omega
   have hnt:nn<tries:=by omega
   have hcast:((i-Q:Nat):Int)=i-Q:=by omega
   have HCAST:=hid hcast
   have hpv:w1.cell? ⟨bp,Q,none⟩=some (.int .i64 (prev.getD Q 0)):=by rw [PPH.out.cell,prevCells_get _ _ (by rw [HN.out];omega)]
   have PV:=hid (HPREV.out Q (by omega))
   clear hcast
   clear hend
   go_wp2
   go_loopw [14] (fun mv wr=>∃ t:Nat,t≤lim∧mv=.int .i64 t∧(∀ j,j<t→bs.getD (Q+j) 0=bs.getD (i+j) 0)∧∃ dd,wr=w1.drewN dd) (fun mv _=>lim-(intOf mv).toNat)
   case atStart=>exact ⟨0,by omega,rfl,fun j h=>absurd h (by omega),_,rfl⟩
   obtain ⟨t,htl,rfl,hall,d2,rfl⟩:=hrel
   have ALL:=hid hall
   clear hall
   by_cases htlt:t<lim
   ·have e1:=CELLS.out (Q+t) (by omega)
    have e2:=CELLS.out (i+t) (by omega)
    unfold byteV at e1 e2
    by_cases hbb:bs.getD (Q+t) 0=bs.getD (i+t) 0
    ·have HBB:=hid hbb
     rw [hbb] at e1
     clear hbb
     generalize bs.getD (i+t) 0=x at e1 e2
     go_wp2
     go_quiet (fail)
     go_wp2
     exact ⟨⟨t+1,by omega,by go_num,fun j hj=>by
      rcases Nat.lt_or_ge j t with h | h
      ·exact ALL.out j h
      obtain rfl:j=t:=by omega
      exact HBB.out,by first | exact ⟨_,rfl⟩ | exact ⟨_,World.drewN_drewN _ _ _⟩⟩,by simp [intOf];omega⟩
    have hEX:t=lim∨bs.getD (Q+t) 0≠bs.getD (i+t) 0:=.inr hbb
    have EX:=hid hEX
    clear hEX
    generalize bs.getD (Q+t) 0=x at e1 hbb
    generalize bs.getD (i+t) 0=y at e2 hbb
    have hne2:((x.toNat:Int)==(y.toNat:Int))=false:=beq_eq_false_iff_ne.2 (fun e=>hbb (UInt8.toNat_inj.1 (by omega)))
    clear hbb
    by_cases hts:sz<t
    ·have MO2:=hid (match_new (win:=win) hQi (by omega) ALL.out)
     by_cases htL:t=lim
     ·omega
     have hnL:decide ((t:Int)=lim)=false:=decide_eq_false (by omega)
     have hnL2:((t:Int)==(lim:Int))=false:=beq_eq_false_iff_ne.2 (by omega)
     have NW2:=hid (fun (h1:Whole bs key win lim i f) (h2:least≤lim)=>show False from by
      by_cases h0:0<nn
      ·exact NW.out h0 h1 h2
      obtain ⟨h3,h4⟩:=ST.out (by omega)
      obtain ⟨_,p,hp,hp2,hp3,hp4⟩:=h1
      have h5:=HWH.out _ hp
      obtain rfl:p=Q:=by omega
      rcases EX.out with h6 | h6
      ·exact htL h6
      exact h6 (hp4 t (by omega)))
     go_wp2
     go_quiet (fail)
     go_wp2
     go_quiet (fail)
     go_wp2
     exact ⟨⟨t,i-Q,nn+1,prev.getD Q 0,rfl,by rw [HCAST.out],rfl,by go_num,by omega,PV.out.1,by have:=PV.out.2;omega,MO2.out,by omega,fun h=>absurd h (by omega),fun _=>NW2.out,by first | exact ⟨_,rfl⟩ | exact ⟨_,World.drewN_drewN _ _ _⟩⟩,by simp [intOf];omega⟩
    by_cases htL:sz=lim
    ·have hd:decide ((sz:Int)=lim)=true:=decide_eq_true (by omega)
     have hd2:((sz:Int)==(lim:Int))=true:=beq_iff_eq.2 (by omega)
     by_cases hsl:sz<least
     ·have LN:=hid (long_no HLIM.out (f:=f) (key:=key) (win:=win) (least:=least) (fun _ _=>htL) hsl)
      go_wp2
      go_quiet (fail)
      go_wp2
      try rw [Exit.noGoto_ret]
      go_ret2
      exact ⟨0,0,rfl,LN.out,below_drewN BE.out _⟩
     have LY:=hid (long_yes HLIM.out (f:=f) (key:=key) (win:=win) (least:=least) (sz:=sz) MO.out (by omega) (fun _ _=>htL) (by omega))
     go_wp2
     go_quiet (fail)
     go_wp2
     try rw [Exit.noGoto_ret]
     go_ret2
     exact ⟨sz,bk,rfl,LY.out,below_drewN BE.out _⟩
    have hnL:decide ((sz:Int)=lim)=false:=decide_eq_false (by omega)
    have hnL2:((sz:Int)==(lim:Int))=false:=beq_eq_false_iff_ne.2 (by omega)
    have NW2:=hid (fun (h1:Whole bs key win lim i f) (h2:least≤lim)=>show False from by
     by_cases h0:0<nn
     ·exact NW.out h0 h1 h2
     obtain ⟨h3,h4⟩:=ST.out (by omega)
     obtain ⟨_,p,hp,hp2,hp3,hp4⟩:=h1
     have h5:=HWH.out _ hp
     obtain rfl:p=Q:=by omega
     rcases EX.out with h6 | h6
     ·omega
     exact h6 (hp4 t (by omega)))
    go_wp2
    go_quiet (fail)
    go_wp2
    go_quiet (fail)
    go_wp2
    exact ⟨⟨sz,bk,nn+1,prev.getD Q 0,rfl,rfl,rfl,by go_num,by omega,PV.out.1,by have:=PV.out.2;omega,MO.out,by omega,fun h=>absurd h (by omega),fun _=>NW2.out,by first | exact ⟨_,rfl⟩ | exact ⟨_,World.drewN_drewN _ _ _⟩⟩,by simp [intOf];omega⟩
   have hEX:t=lim∨bs.getD (Q+t) 0≠bs.getD (i+t) 0:=.inl (by omega)
   have EX:=hid hEX
   clear hEX
   by_cases hts:sz<t
   ·have MO2:=hid (match_new (win:=win) hQi (by omega) ALL.out)
    by_cases htL:t=lim
    ·have hd:decide ((t:Int)=lim)=true:=decide_eq_true (by omega)
     have hd2:((t:Int)==(lim:Int))=true:=beq_iff_eq.2 (by omega)
     by_cases hsl:t<least
     ·have LN:=hid (long_no HLIM.out (f:=f) (key:=key) (win:=win) (least:=least) (fun _ _=>htL) hsl)
      go_wp2
      go_quiet (fail)
      go_wp2
      try rw [Exit.noGoto_ret]
      go_ret2
      exact ⟨0,0,rfl,LN.out,below_drewN BE.out _⟩
     have LY:=hid (long_yes HLIM.out (f:=f) (key:=key) (win:=win) (least:=least) (sz:=t) MO2.out (by omega) (fun _ _=>htL) (by omega))
     go_wp2
     go_quiet (fail)
     go_wp2
     try rw [Exit.noGoto_ret]
     go_ret2
     exact ⟨t,i-Q,by rw [HCAST.out];rfl,LY.out,below_drewN BE.out _⟩
    omega
   by_cases htL:sz=lim
   ·have hd:decide ((sz:Int)=lim)=true:=decide_eq_true (by omega)
    have hd2:((sz:Int)==(lim:Int))=true:=beq_iff_eq.2 (by omega)
    by_cases hsl:sz<least
    ·have LN:=hid (long_no HLIM.out (f:=f) (key:=key) (win:=win) (least:=least) (fun _ _=>htL) hsl)
     go_wp2
     go_quiet (fail)
     go_wp2
     try rw [Exit.noGoto_ret]
     go_ret2
     exact ⟨0,0,rfl,LN.out,below_drewN BE.out _⟩
    have LY:=hid (long_yes HLIM.out (f:=f) (key:=key) (win:=win) (least:=least) (sz:=sz) MO.out (by omega) (fun _ _=>htL) (by omega))
    go_wp2
    go_quiet (fail)
    go_wp2
    try rw [Exit.noGoto_ret]
    go_ret2
    exact ⟨sz,bk,rfl,LY.out,below_drewN BE.out _⟩
   omega
 clear hf hprev hC
 go_enter Tryz.func73,Tryz.ntmps73
 go_wp2
 go_step3
 go_wp2_with (go_at_call 85;refine (at_no _ _ _ _ _ _ _ _ _ PC.out (by omega) hcap hcm (by omega) hk hb).mono ?_;rintro e w1 ⟨rfl,d,rfl⟩)
 try rw [Exit.noGoto_ret]
 go_ret2
 exact ⟨0,0,rfl,⟨.inl ⟨rfl,rfl⟩,Nat.zero_le _,.inl rfl,fun h=>absurd h.1 hik⟩,below_drewN BE.out d⟩
open Go.RowKit Fnd
def StepOk (bs:List UInt8) (win lo hi a:Nat) (s:Sq) (e:Nat):Prop :=
 ∃ L M K:Nat,s=⟨L,M,K⟩∧a+L+M=e∧e≤bs.length∧lo≤M∧M≤hi∧1≤K∧K≤win∧K≤a+L∧∀ k,k<M→bs.getD (a+L+k) 0=bs.getD (a+L+k-K) 0
def Pre (bs:List UInt8) (win lo hi:Nat):List Sq→Nat→Nat→Prop
 | [],a,e=>a=e
 | s::l,a,e=>∃ m,StepOk bs win lo hi a s m∧Pre bs win lo hi l m e
def Right (bs:List UInt8) (win lo hi:Nat):List Sq→Nat→Prop
 | [],a=>a=bs.length
 | s::l,a=>(∃ m,StepOk bs win lo hi a s m∧Right bs win lo hi l m)∨(l=[]∧∃ L:Nat,s=⟨L,0,0⟩∧0<L∧a+L=bs.length)
section
variable {bs : List UInt8} {win lo hi : Nat}
theorem Pre.snoc:∀ {l:List Sq} {a m e:Nat} {s:Sq},Pre bs win lo hi l a m→StepOk bs win lo hi m s e→Pre bs win lo hi (l++[s]) a e
 | [],a,m,e,s,h,hs=>by subst h;exact ⟨e,hs,rfl⟩
 | t::l,a,m,e,s,⟨m',h1,h2⟩,hs=>⟨m',h1,Pre.snoc h2 hs⟩
theorem Pre.right:∀ {l:List Sq} {a e:Nat},Pre bs win lo hi l a e→e=bs.length→Right bs win lo hi l a
 | [],a,e,h,he=>h.trans he
 | t::l,a,e,⟨m',h1,h2⟩,he=>.inl ⟨m',h1,Pre.right h2 he⟩
theorem Pre.tail:∀ {l:List Sq} {a e L:Nat},Pre bs win lo hi l a e→0<L→e+L=bs.length→Right bs win lo hi (l++[⟨L,0,0⟩]) a
 | [],a,e,L,h,hL,he=>by subst h;exact .inr ⟨rfl,L,rfl,hL,he⟩
 | t::l,a,e,L,⟨m',h1,h2⟩,hL,he=>.inl ⟨m',h1,Pre.tail h2 hL he⟩
end
structure CI (bs:List UInt8) (i:Nat) (f:Int→Option Int) (prev:List Int):Prop where
 f:∀ k p,f k=some p→0≤p∧p<i
 p:∀ j,j<bs.length → -1≤prev.getD j 0∧prev.getD j 0≤j
theorem CI.add {bs:List UInt8} {key i:Nat} {f:Int→Option Int} {prev:List Int} (h:CI bs i f prev) (hi:i<bs.length) (hl:prev.length=bs.length):CI bs (i+1) (addF bs key i f) (prev.set i (addP bs key i f)):=by
 refine ⟨fun k p hp=>?_,fun j hj=>?_⟩
 ·unfold addF at hp
  by_cases hk:i+key≤bs.length
  ·rw [if_pos hk] at hp
   by_cases hx:k=(keyAt bs key i:Int)
   ·simp only [if_pos hx,Option.some.injEq] at hp
    omega
   simp only [if_neg hx] at hp
   have:=h.f k p hp
   omega
  rw [if_neg hk] at hp
  have:=h.f k p hp
  omega
 by_cases hx:j=i
 ·subst hx
  have e:(prev.set j (addP bs key j f)).getD j 0=addP bs key j f:=by simp [List.getD,hl,hi]
  rw [e]
  unfold addP
  by_cases hk:j+key≤bs.length
  ·rw [if_pos hk]
   cases hf:f (keyAt bs key j) with
   | none=>simp
   | some p=>have:=h.f _ p hf;simp;omega
  rw [if_neg hk];omega
 have e:(prev.set i (addP bs key i f)).getD j 0=prev.getD j 0:=by
  simp only [List.getD]
  rw [List.getElem?_set_ne (fun e=>hx e.symm)]
 rw [e]
 exact h.p j hj
theorem CI.start (bs:List UInt8) (i:Nat):CI bs i (fun _=>none) (List.replicate bs.length 0) :=
 ⟨fun k p h=>absurd h (by simp),fun j hj=>by simp [List.getD,hj]⟩
def AllSame (bs:List UInt8) (at_:Nat):Prop:=∀ j,at_≤j→j<bs.length→bs.getD j 0=bs.getD at_ 0
def Near (bs:List UInt8) (key at_ i:Nat) (f:Int→Option Int):Prop:=at_<i→i+key≤bs.length→f (keyAt bs key i)=some ((i-1:Nat):Int)
theorem AllSame.key {bs:List UInt8} {at_ key i:Nat} (h:AllSame bs at_) (hi:at_≤i) (hk:i+1+key≤bs.length):keyAt bs key (i+1)=keyAt bs key i:=by
 unfold keyAt
 congr 1
 apply List.ext_getElem
 ·simp only [List.length_take,List.length_drop];omega
 intro j h1 h2
 simp only [List.getElem_take,List.getElem_drop]
 have a1:=h (i+1+j) (by omega) (by simp at h1;omega)
 have a2:=h (i+j) (by omega) (by simp at h1;omega)
 have b1:bs.getD (i+1+j) 0=bs[i+1+j]'(by simp at h1;omega):=by simp [List.getD,show i+1+j<bs.length by simp at h1;omega]
 have b2:bs.getD (i+j) 0=bs[i+j]'(by simp at h1;omega):=by simp [List.getD,show i+j<bs.length by simp at h1;omega]
 rw [← b1,← b2,a1,a2]
theorem Near.add {bs:List UInt8} {key at_ i:Nat} {f:Int→Option Int} (hs:AllSame bs at_) (hi:at_≤i):Near bs key at_ (i+1) (addF bs key i f):=by
 intro _ hk
 rw [hs.key hi hk]
 unfold addF
 rw [if_pos (by omega)]
 simp
theorem Near.whole {bs:List UInt8} {key at_ i win most:Nat} {f:Int→Option Int} (hs:AllSame bs at_) (h:Near bs key at_ i f) (hi:at_<i) (hk:i+key≤bs.length) (hw:1≤win):Whole bs key win (min most (bs.length-i)) i f :=
 ⟨hk,i-1,h hi hk,by omega,by omega,fun j hj=>by rw [hs (i-1+j) (by omega) (by omega),hs (i+j) (by omega) (by omega)]⟩
def Dead (n key least i:Nat):Prop:=n<i+key∨n-i<least
def Fewer (n at_ key least most i lits cnt:Nat):Prop :=
 (cnt=0∧lits≤1∧i=at_+lits)∨(0<cnt∧lits=0∧(cnt-1)*most+2≤i-at_)∨(Dead n key least i∧at_≤i∧(cnt=0∨(cnt-1)*most+2≤i-at_))∨(i=n∧lits=0∧0<cnt∧(cnt-2)*most+2≤i-at_)
section
variable {bs : List UInt8} {win key least most at_ i lits cnt size back : Nat} {f : Int → Option Int}
theorem size_whole (hs:AllSame bs at_) (hn:Near bs key at_ i f) (hi:at_<i) (hw:1≤win) (hL:Longest bs key win least most i f size back) (hlm:least≤most) (hd:¬ Dead bs.length key least i):size=min most (bs.length-i) :=
 hL.whole (hn.whole hs hi (by unfold Dead at hd;omega) hw) (by unfold Dead at hd;omega)
theorem Fewer.zero (hF:Fewer bs.length at_ key least most i lits cnt) (hs:AllSame bs at_) (hn:Near bs key at_ i f) (hw:1≤win) (hL:Longest bs key win least most i f 0 back) (hl2:2≤least) (hlm:least≤most) (hi:i<bs.length) :
 Fewer bs.length at_ key least most (i+1) (lits+1) cnt:=by
 have hdead:at_<i→Dead bs.length key least i:=fun h=>by
  refine Classical.byContradiction fun hd=>?_
  have:=size_whole hs hn h hw hL hlm hd
  unfold Dead at hd
  omega
 have hmono:Dead bs.length key least i→Dead bs.length key least (i+1):=by unfold Dead;omega
 rcases hF with ⟨rfl,h1,h2⟩ | ⟨h0,rfl,h2⟩ | ⟨h0,h1,h2⟩ | ⟨h0,_⟩
 ·by_cases hl:lits=0
  ·exact .inl ⟨rfl,by omega,by omega⟩
  exact .inr (.inr (.inl ⟨hmono (hdead (by omega)),by omega,.inl rfl⟩))
 ·exact .inr (.inr (.inl ⟨hmono (hdead (by omega)),by omega,.inr (by omega)⟩))
 ·exact .inr (.inr (.inl ⟨hmono h0,by omega,by rcases h2 with h2 | h2;exact .inl h2;exact .inr (by omega)⟩))
 omega
theorem Fewer.better {b2 s2:Nat} {f2:Int→Option Int} (hF:Fewer bs.length at_ key least most i lits cnt) (hs:AllSame bs at_) (hn:Near bs key at_ i f) (hw:1≤win) (hL:Longest bs key win least most i f size back)
 (hL2:Longest bs key win least most (i+1) f2 s2 b2) (hb:size+1<s2) (h0:size≠0) (hkl:key≤least) (hlm:least≤most):Fewer bs.length at_ key least most (i+1) (lits+1) cnt:=by
 have l1:=hL.lim
 have l2:s2≤most∧s2≤bs.length-(i+1):=⟨Nat.le_trans hL2.lim (Nat.min_le_left _ _),Nat.le_trans hL2.lim (Nat.min_le_right _ _)⟩
 have l3:=hL.lo
 have hnd:¬ Dead bs.length key least i:=by unfold Dead;omega
 have hno:at_<i→False:=fun h=>by
  have h9:size=min most (bs.length-i):=size_whole hs hn h hw hL hlm hnd
  rcases Nat.le_total most (bs.length-i) with h8 | h8
  ·rw [Nat.min_eq_left h8] at h9;omega
  rw [Nat.min_eq_right h8] at h9;omega
 rcases hF with ⟨rfl,h1,h2⟩ | ⟨h0,rfl,h2⟩ | ⟨h0,h1,h2⟩ | ⟨h0,_⟩
 ·by_cases hl:lits=0
  ·exact .inl ⟨rfl,by omega,by omega⟩
  exact (hno (by omega)).elim
 ·exact (hno (by omega)).elim
 ·exact (hnd h0).elim
 omega
theorem Fewer.hit (hF:Fewer bs.length at_ key least most i lits cnt) (hs:AllSame bs at_) (hn:Near bs key at_ i f) (hw:1≤win) (hL:Longest bs key win least most i f size back) (h0:size≠0) (hl2:2≤least) (hkl:key≤least) (hlm:least≤most) (hi:i<bs.length) :
 Fewer bs.length at_ key least most (i+size) 0 (cnt+1):=by
 have l1:=hL.lim
 have l3:=hL.lo
 have hnd:¬ Dead bs.length key least i:=by unfold Dead;omega
 rcases hF with ⟨rfl,h1,h2⟩ | ⟨h0,rfl,h2⟩ | ⟨h0,h1,h2⟩ | ⟨h0,_⟩
 ·exact .inr (.inl ⟨by omega,rfl,by simp;omega⟩)
 ·have hw2:=size_whole hs hn (by omega) hw hL hlm hnd
  have e:(cnt+1-1)*most=(cnt-1)*most+most:=by
   obtain ⟨c,rfl⟩:∃ c,cnt=c+1:=⟨cnt-1,by omega⟩
   simp [Nat.succ_mul]
  by_cases hm:size=most
  ·exact .inr (.inl ⟨by omega,rfl,by rw [e];omega⟩)
  exact .inr (.inr (.inr ⟨by omega,rfl,by omega,by rw [show cnt+1-2=cnt-1 by omega];omega⟩))
 ·exact (hnd h0).elim
 omega
theorem Fewer.total {tot n:Nat} (hF:Fewer n at_ key least most n lits cnt) (hm:0<most) (ht:tot=if 0<lits then cnt+1 else cnt):tot≤2+(n-at_) / most:=by
 have hd:∀ c:Nat,c*most+2≤n-at_→c≤(n-at_) / most:=fun c h=>(Nat.le_div_iff_mul_le hm).2 (by omega)
 have ht2:tot≤cnt+1∧(lits=0→tot=cnt):=by
  rw [ht];split <;> omega
 clear ht
 generalize (n-at_) / most=q at *
 rcases hF with ⟨rfl,h1,h2⟩ | ⟨h0,rfl,h2⟩ | ⟨h0,h1,h2⟩ | ⟨h0,h1,h2,h3⟩
 ·omega
 ·have:=hd _ h2;omega
 ·rcases h2 with h2 | h2
  ·omega
  have:=hd _ h2;omega
 have:=hd _ h3;omega
end
open Go.RowKit Fnd
theorem Tryz.info_int:(Tryz.prog.info? 3).map (fun i=>(i.zero,i.size,i.bytes))=some (some (.int .i64 0),1,8):=by kernel_rfl
def setCells (win least most tries:Nat) (lazy:Bool):Array Value:=#[.int .i64 win,.int .i64 least,.int .i64 most,.int .i64 tries,.bool lazy]
set_option maxRecDepth 100000 in
theorem better_any (B bc bp bm cv sv:Nat) (A:Option Addr) (cap:Nat) (bs:List UInt8) (key cnt i size win least most tries:Nat) (lazy:Bool) (f:Int→Option Int) (prev:List Int) (w:World)
 (hC:ChainAt w B bc bp bm A cap bs key cnt f prev) (hv:Pts w cv #[.pointer (some ⟨bc,0,none⟩)] 155) (hs:Pts w sv (setCells win least most tries lazy) 154)
 (hcap:bs.length≤cap) (hcm:cap≤maxLen) (hb:bs.length≤1048576) (hk:key≤4) (hi:i<bs.length) (hI:CI bs i f prev) (hcnt:cnt≤10000000) (hsz:size≤1048576)
 (hw1:1≤win) (hw2:win≤16777216) (hl2:2≤least) (hlm:least≤most) (hm:most≤65536) (ht:1≤tries) (ht2:tries≤1000) :
 Calls Tryz.prog 72 #[.int .i64 i,.int .i64 size,.pointer (some ⟨cv,0,none⟩),.pointer (some ⟨sv,0,none⟩)] w fun e w' =>
  ∃ (β:Bool) (n2 b2:Nat),e=.returned (.bool β)∧(β=true→size+1<n2)∧Longest bs key win least most (i+1) (addF bs key i f) n2 b2 ∧
   ChainAt w' B bc bp bm A cap bs key (cnt+1) (addF bs key i f) (prev.set i (addP bs key i f))∧Frm (fun k=>k=bp∨k=bm) w w':=by
 have HC:=hid hC
 have HI:=hid hI
 have HS:=hid hs
 have HV:=hid hv
 have hne1:sv≠bp:=by rintro rfl;have e:=hs.symm.trans hC.p;simp at e
 have hne2:sv≠bm:=by rintro rfl;obtain ⟨D,⟨es,cl,hb,_⟩,_⟩:=hC.m;have e:=hs.symm.trans hb;cases e
 have hne3:cv≠bp:=by rintro rfl;have e:=hv.symm.trans hC.p;simp at e
 have hne4:cv≠bm:=by rintro rfl;obtain ⟨D,⟨es,cl,hb,_⟩,_⟩:=hC.m;have e:=hv.symm.trans hb;cases e
 have v0:w.cell? ⟨cv,0,none⟩=some (.pointer (some ⟨bc,0,none⟩)):=by rw [hv.cell];rfl
 clear hC hI hs hv
 go_enter Tryz.func72,Tryz.ntmps72
 go_wp2_with (first
  | (go_at_call 71
     refine (fadd_any B bc bp bm A cap bs key cnt i f prev w HC.out hcap hcm hb hk hi hcnt (fun k p hp=>by have:=HI.out.f k p hp;exact wf_i64 (by omega) (by omega))).mono ?_
     rintro e w1 ⟨rfl,hC1,hF1⟩
     have v1:w1.cell? ⟨cv,0,none⟩=some (.pointer (some ⟨bc,0,none⟩)):=by rw [(HV.out.frm hF1 (by rintro (h | h);exact hne3 h;exact hne4 h)).cell];rfl
     have hs1:=HS.out.frm hF1 (by rintro (h | h);exact hne1 h;exact hne2 h)
     have s0:w1.cell? ⟨sv,0,none⟩=some (.int .i64 win):=by rw [hs1.cell];rfl
     have s1:w1.cell? ⟨sv,1,none⟩=some (.int .i64 least):=by rw [hs1.cell];rfl
     have s2:w1.cell? ⟨sv,2,none⟩=some (.int .i64 most):=by rw [hs1.cell];rfl
     have s3:w1.cell? ⟨sv,3,none⟩=some (.int .i64 tries):=by rw [hs1.cell];rfl
     have s4:w1.cell? ⟨sv,4,none⟩=some (.bool lazy):=by rw [hs1.cell];rfl
     have hCI:=HI.out.add (key:=key) hi HC.out.n
     have C1:=hid hC1
     have F1:=hid hF1
     have CI1:=hid hCI
     clear hC1 hF1 hs1 hCI v0)
  | (go_at_call 73
     refine (longest_any B bc bp bm A cap bs key (cnt+1) (i+1) win least most tries lazy (addF bs key i f) (prev.set i (addP bs key i f)) w1 C1.out hcap hcm hb hk (by omega) CI1.out.f CI1.out.p hw1 hw2 hl2 hlm hm ht ht2).mono ?_
     rintro e w2 ⟨n2,b2,rfl,hL,hB⟩
     have hn2:n2≤65536:=by have:=hL.lim;omega
     have LL:=hid hL
     have BB:=hid hB
     clear hL hB)
  | go_in)
 go_ret
 exact ⟨_,n2,b2,rfl,fun h=>by have:=of_decide_eq_true h;omega,LL.out,C1.out.frm (Frm.of_below (S:=fun _=>False) BB.out) (by simp) (by simp) (by simp) (by simp),F1.out.trans ((Frm.of_below (S:=fun _=>False) BB.out).mono (fun _ _ h=>h.elim))⟩
theorem made_prev (n:Nat):madeCells #[.int .i64 0] n=prevCells (List.replicate n 0):=by
 apply Array.toList_inj.1
 rw [toList_madeCells_one]
 unfold prevCells
 simp
theorem make_ints (n:Nat) (hn:n≤1048576) (w:World) :
 (Instr.makeSlice 157 (.int .i64 (n:Int)) (.int .i64 (n:Int))).run Tryz.prog w=.ok (.slice (some ⟨w.heap.size,0,none⟩) n n) (w.alloc (.cells (prevCells (List.replicate n 0)) 3)):=by
 obtain ⟨i,hi,hz⟩:=Option.map_eq_some_iff.1 Tryz.info_int
 simp only [Prod.mk.injEq] at hz
 have h:=run_make (P:=Tryz.prog) w 157 3 i (.int .i64 0) Tryz.underlying157 hi hz.1 .i64 .i64 n n (by omega) (by omega) (by rw [hz.2.2];omega) (by omega)
 rw [hz.2.1] at h
 simp only [Int.toNat_natCast,Nat.mul_one] at h
 rw [h,← made_prev]
 rfl
theorem made_four (w w1:World) (o0 o1 o2 o3:Obj) (im ip ib ic:Nat) {c key win lo hi tries:Nat} {lazy:Bool} {A:Option Addr} {bs:List UInt8}
 (hm:([o0,o1,o2,o3]:List Obj)[im]?=some (.map #[] 0)) (hp:([o0,o1,o2,o3]:List Obj)[ip]?=some (.cells (prevCells (List.replicate bs.length 0)) 3))
 (hb:([o0,o1,o2,o3]:List Obj)[ib]?=some (.cells #[.slice A bs.length c,.int .i64 key,.map (some (w1.heap.size+im)),.slice (some ⟨w1.heap.size+ip,0,none⟩) bs.length bs.length] 159))
 (hc:([o0,o1,o2,o3]:List Obj)[ic]?=some (.cells #[.pointer (some ⟨w1.heap.size+ib,0,none⟩)] 155))
 (hrow:BRow w w.heap.size A bs) (hbl:Below w.heap.size w w1) (hsv:Pts w1 w.heap.size (setCells win lo hi tries lazy) 154) :
 ∃ bc bp bm cv':Nat,Value.pointer (some ⟨w1.heap.size+ic,0,none⟩)=.pointer (some ⟨cv',0,none⟩)∧w.heap.size≤cv'∧ChainAt ((((w1.alloc o0).alloc o1).alloc o2).alloc o3).drew w.heap.size bc bp bm A c bs key 0 (fun _=>none) (List.replicate bs.length 0) ∧
  Pts ((((w1.alloc o0).alloc o1).alloc o2).alloc o3).drew cv' #[.pointer (some ⟨bc,0,none⟩)] 155∧Pts ((((w1.alloc o0).alloc o1).alloc o2).alloc o3).drew w.heap.size (setCells win lo hi tries lazy) 154∧Below w.heap.size w ((((w1.alloc o0).alloc o1).alloc o2).alloc o3).drew:=by
 have hat:∀ (i:Nat) (o:Obj),([o0,o1,o2,o3]:List Obj)[i]?=some o→((((w1.alloc o0).alloc o1).alloc o2).alloc o3).drew.heap[w1.heap.size+i]?=some o:=by
  intro i o h
  show ((((w1.heap.push o0).push o1).push o2).push o3)[w1.heap.size+i]?=some o
  simp only [Array.getElem?_push,Array.size_push]
  rcases i with _ | _ | _ | _ | i
  ·simp at h
   repeat' split
   all_goals first | (exfalso;omega) | (rw [h])
  ·simp at h
   repeat' split
   all_goals first | (exfalso;omega) | (rw [h])
  ·simp at h
   repeat' split
   all_goals first | (exfalso;omega) | (rw [h])
  ·simp at h
   repeat' split
   all_goals first | (exfalso;omega) | (rw [h])
  simp at h
 have hz:=hbl.size
 have hB:Below w1.heap.size w1 ((((w1.alloc o0).alloc o1).alloc o2).alloc o3).drew :=
  ((((((Below.refl _ _).alloc (Nat.le_refl _) o0).alloc (by simp) o1).alloc (by simp;omega) o2).alloc (by simp;omega) o3)).drew
 refine ⟨w1.heap.size+ib,w1.heap.size+ip,w1.heap.size+im,w1.heap.size+ic,rfl,by omega,⟨hat _ _ hb,hat _ _ hp,by simp,⟨.map [],⟨#[],0,hat _ _ hm,?_⟩,MapIs.empty⟩,hrow.below (hbl.trans (hB.mono hz)),by omega,by omega,by omega⟩,hat _ _ hc,hsv.below hB hsv.lt,hbl.trans (hB.mono hz)⟩
 obtain ⟨es,cl,h1,h2⟩:=World.ownsMap_made w1 Tryz.prog 60 (plainElem (H:=Unit) Tryz.prog 3)
 have h3:(w1.alloc (.map #[] 0)).heap[w1.heap.size]?=some (.map #[] 0):=heap_alloc_new w1 _
 rw [h3] at h1
 injection h1 with h1
 injection h1 with e1 e2
 subst e1;subst e2
 exact h2
theorem ChainAt.dis {w:World} {B bc bp bm sv cv cap key cnt win lo hi tries:Nat} {lazy:Bool} {A:Option Addr} {bs:List UInt8} {f:Int→Option Int} {prev:List Int} {x:Array Value}
 (hC:ChainAt w B bc bp bm A cap bs key cnt f prev) (hv:Pts w cv x 155) (hs:Pts w sv (setCells win lo hi tries lazy) 154):cv≠bp∧cv≠bm∧sv≠bp∧sv≠bm:=by
 refine ⟨?_,?_,?_,?_⟩
 ·rintro rfl;have e:=hv.symm.trans hC.p;simp at e
 ·rintro rfl;obtain ⟨D,⟨es,cl,hb,_⟩,_⟩:=hC.m;have e:=hv.symm.trans hb;cases e
 ·rintro rfl;have e:=hs.symm.trans hC.p;simp at e
 rintro rfl;obtain ⟨D,⟨es,cl,hb,_⟩,_⟩:=hC.m;have e:=hs.symm.trans hb;cases e
structure PSt (w0 w:World) (bc bp bm cv:Nat) (A:Option Addr) (c:Nat) (bs:List UInt8) (key win lo hi tries:Nat) (lazy:Bool) (j:Nat) (f:Int→Option Int) (prev:List Int) (ov:Value) (l:List Sq):Prop where
 ch:ChainAt w w0.heap.size bc bp bm A c bs key j f prev
 ci:CI bs j f prev
 ow:OwnSq w 152 w0.heap.size ov l
 cv:Pts w cv #[.pointer (some ⟨bc,0,none⟩)] 155
 sv:Pts w w0.heap.size (setCells win lo hi tries lazy) 154
 be:Below w0.heap.size w0 w
section
variable {w0 w w' : World} {bc bp bm cv : Nat} {A : Option Addr} {c : Nat} {bs : List UInt8} {key win lo hi tries : Nat} {lazy : Bool} {j : Nat} {f : Int → Option Int} {prev : List Int} {ov : Value} {l : List Sq}
theorem OwnSq.off {T T' b base:Nat} {x:Array Value} (h:OwnSq w T base ov l) (hp:Pts w b x T') (hT:T'≠T):∀ k,ov.ownBlock=some k→b≠k:=by
 rintro k hk rfl
 rcases h.2 with ⟨rfl,_⟩ | ⟨g,cap,cur,rfl,_,hh,_⟩
 ·cases hk
 injection hk with hk
 subst hk
 have e:=hp.symm.trans hh
 simp at e
 exact hT e.2
theorem PSt.later (h:PSt w0 w bc bp bm cv A c bs key win lo hi tries lazy j f prev ov l) (hb:Below w.heap.size w w'):PSt w0 w' bc bp bm cv A c bs key win lo hi tries lazy j f prev ov l:=by
 have hf:Frm (fun _=>False) w w':=Frm.of_below hb
 exact ⟨h.ch.frm hf (by simp) (by simp) (by simp) (by simp),h.ci,h.ow.frm hf (by simp),h.cv.frm hf (by simp),h.sv.frm hf (by simp),h.be.trans (hf.below h.be.size (by simp))⟩
theorem PSt.alloc (h:PSt w0 w bc bp bm cv A c bs key win lo hi tries lazy j f prev ov l) (o:Obj):PSt w0 (w.alloc o) bc bp bm cv A c bs key win lo hi tries lazy j f prev ov l:=h.later ((Below.refl _ _).alloc (Nat.le_refl _) _)
theorem PSt.map (h:PSt w0 w bc bp bm cv A c bs key win lo hi tries lazy j f prev ov l):∀ k,ov.ownBlock=some k→bm≠k:=by
 rintro k hk rfl
 obtain ⟨D,⟨es,cl,hb,_⟩,_⟩:=h.ch.m
 rcases h.ow.2 with ⟨rfl,_⟩ | ⟨g,cap,cur,rfl,_,hh,_⟩
 ·cases hk
 injection hk with hk
 subst hk
 have e:=hb.symm.trans hh
 cases e
theorem PSt.added (h:PSt w0 w bc bp bm cv A c bs key win lo hi tries lazy j f prev ov l) (hj:j<bs.length) {f':Int→Option Int} {prev':List Int} (hf':f'=addF bs key j f) (hp':prev'=prev.set j (addP bs key j f)) (hC:ChainAt w' w0.heap.size bc bp bm A c bs key (j+1) f' prev') (hF:Frm (fun k=>k=bp∨k=bm) w w') :
 PSt w0 w' bc bp bm cv A c bs key win lo hi tries lazy (j+1) f' prev' ov l:=by
 have d:=h.ch.dis h.cv h.sv
 subst hf';subst hp'
 exact ⟨hC,h.ci.add hj h.ch.n,h.ow.frm hF (by rintro k hk (rfl | rfl);exact h.ow.off h.ch.p (by decide) _ hk rfl;exact h.map _ hk rfl),h.cv.frm hF (by rintro (h | h);exact d.1 h;exact d.2.1 h),
  h.sv.frm hF (by rintro (h | h);exact d.2.2.1 h;exact d.2.2.2 h),h.be.trans (hF.below h.be.size (by rintro k (rfl | rfl);exact h.ch.hp;exact h.ch.hm))⟩
theorem PSt.grown (h:PSt w0 w bc bp bm cv A c bs key win lo hi tries lazy j f prev ov l) {ov':Value} {l':List Sq} (ho:OwnSq w' 152 w0.heap.size ov' l') (hF:Frm (fun k=>ov.ownBlock=some k) w w') :
 PSt w0 w' bc bp bm cv A c bs key win lo hi tries lazy j f prev ov' l' :=
 ⟨h.ch.frm hF (fun e=>h.ow.off h.ch.c (by decide) _ e rfl) (fun e=>h.ow.off h.ch.p (by decide) _ e rfl) (fun e=>h.map _ e rfl) (fun k hk=>(h.ow.lt hk).1),h.ci,ho,h.cv.frm hF (fun e=>h.ow.off h.cv (by decide) _ e rfl),
  h.sv.frm hF (fun e=>h.ow.off h.sv (by decide) _ e rfl),h.be.trans (hF.below h.be.size (fun k hk=>(h.ow.lt hk).1))⟩
theorem PSt.v0 (h:PSt w0 w bc bp bm cv A c bs key win lo hi tries lazy j f prev ov l):w.cell? ⟨cv,0,none⟩=some (.pointer (some ⟨bc,0,none⟩)):=by rw [h.cv.cell];rfl
theorem PSt.s (h:PSt w0 w bc bp bm cv A c bs key win lo hi tries lazy j f prev ov l):w.cell? ⟨w0.heap.size,0,none⟩=some (.int .i64 win)∧w.cell? ⟨w0.heap.size,1,none⟩=some (.int .i64 lo)∧w.cell? ⟨w0.heap.size,2,none⟩=some (.int .i64 hi) ∧
 w.cell? ⟨w0.heap.size,3,none⟩=some (.int .i64 tries)∧w.cell? ⟨w0.heap.size,4,none⟩=some (.bool lazy):=by
 refine ⟨?_,?_,?_,?_,?_⟩ <;> rw [h.sv.cell] <;> rfl
end
theorem Tryz.info_sq:(Tryz.prog.info? 152).map (fun i=>(i.zero,i.size,i.bytes))=some (some (.agg #[.int .i64 0,.int .i64 0,.int .i64 0]),3,24):=by kernel_rfl
def LoS (b lo:Nat) (w:World):Prop:=b<w.heap.size∧w.cell? ⟨b,1,none⟩=some (.int .i64 lo)
theorem LoS.drew {b lo:Nat} {w:World} (h:LoS b lo w):LoS b lo w.drew:=h
theorem LoS.alloc {b lo:Nat} {w:World} (h:LoS b lo w) (o:Obj):LoS b lo (w.alloc o):=⟨by have:=h.1;simp;omega,(World.cell?_alloc_lt w o ⟨b,1,none⟩ h.1).trans h.2⟩
theorem LoS.set {b lo:Nat} {w:World} (h:LoS b lo w) {p:Addr} (v:Value) (hp:b≠p.block):LoS b lo (w.setCell p v):=by
 refine ⟨by have:=h.1;simp;omega,?_⟩
 have hf:Frm (fun k=>k=p.block) w (w.setCell p v):=(Frm.refl _ _).setCell (by rfl) _
 exact (World.cell?_of_block (a:=⟨b,1,none⟩) (hf.block b h.1 hp)).trans h.2
set_option maxRecDepth 100000 in
set_option maxHeartbeats 4000000 in
theorem parse_main (A:Option Addr) (bs:List UInt8) (n c:Nat) (fr level window least most:Int) (at_ lv win lo hi:Nat) (w:World) (hn:n=bs.length) (hc:bs.length≤c) (hcm:c≤maxLen) (hr:BRow w w.heap.size A bs) (hlen:bs.length≤1048576)
 (h1:min (max fr 0) bs.length=at_) (h2:min (max level 0) 3=lv) (h3:min (max window 1) 16777216=win) (h4:min (max least 2) 65536=lo) (h5:max (lo:Int) (min most 65536)=hi) (hat:at_<bs.length) (hlv:1≤lv) :
 Calls Tryz.prog 59 #[.slice A n c,.int .i64 fr,.int .i64 level,.int .i64 window,.int .i64 least,.int .i64 most] w fun e w' =>
  ∃ v l,e=.returned v∧OwnSq w' 152 w.heap.size v l∧Right bs win lo hi l at_∧(AllSame bs at_→l.length≤2+(bs.length-at_) / hi)∧l.length≤2097153∧Below w.heap.size w w':=by
 subst hn
 unfold maxLen at hcm
 obtain ⟨X,hX⟩:∃ X,max fr 0=X:=⟨_,rfl⟩
 obtain ⟨Y,hY⟩:∃ X,max level 0=X:=⟨_,rfl⟩
 obtain ⟨Z,hZ⟩:∃ X,max window 1=X:=⟨_,rfl⟩
 obtain ⟨U,hU⟩:∃ X,max least 2=X:=⟨_,rfl⟩
 obtain ⟨V,hV⟩:∃ X,min most 65536=X:=⟨_,rfl⟩
 rw [hX] at h1;rw [hY] at h2;rw [hZ] at h3;rw [hU] at h4;rw [hV] at h5
 obtain ⟨key,hkey⟩:∃ key:Nat,min (lo:Int) 4=key:=⟨min lo 4,by omega⟩
 obtain ⟨st,hst⟩:∃ st:Nat,max 0 ((at_:Int)-win)=st:=⟨at_-win,by omega⟩
 have f1:=fun w=>max2_int (P:=Tryz.prog) #[3,3] 3 _ _ _ hX w
 have f2:=fun w=>max2_int (P:=Tryz.prog) #[3,3] 3 _ _ _ hY w
 have f3:=fun w=>max2_int (P:=Tryz.prog) #[3,3] 3 _ _ _ hZ w
 have f4:=fun w=>max2_int (P:=Tryz.prog) #[3,3] 3 _ _ _ hU w
 have f5:=fun w=>min2_int (P:=Tryz.prog) #[3,3] 3 _ _ _ hV w
 have f6:=fun w=>min2_int (P:=Tryz.prog) #[3,3] 3 _ _ _ h1 w
 have f7:=fun w=>min2_int (P:=Tryz.prog) #[3,3] 3 _ _ _ h2 w
 have f8:=fun w=>min2_int (P:=Tryz.prog) #[3,3] 3 _ _ _ h3 w
 have f9:=fun w=>min2_int (P:=Tryz.prog) #[3,3] 3 _ _ _ h4 w
 have f10:=fun w=>max2_int (P:=Tryz.prog) #[3,3] 3 _ _ _ h5 w
 have f11:=fun w=>min2_int (P:=Tryz.prog) #[3,3] 3 _ _ _ hkey w
 have f12:=fun w=>max2_int (P:=Tryz.prog) #[3,3] 3 _ _ _ hst w
 have b1:at_≤bs.length:=by omega
 have b2:lv≤3:=by omega
 have b3:1≤win∧win≤16777216:=by omega
 have b4:2≤lo∧lo≤65536:=by omega
 have b5:lo≤hi∧hi≤65536:=by omega
 have b6:key≤4∧key≤lo:=by omega
 have b7:st≤at_:=by omega
 have ne1:((at_:Int)==(bs.length:Int))=false:=beq_eq_false_iff_ne.2 (by omega)
 have ne2:((lv:Int)==0)=false:=beq_eq_false_iff_ne.2 (by omega)
 obtain ⟨lazy,hlz⟩:∃ lazy,decide (1<(lv:Int))=lazy:=⟨_,rfl⟩
 obtain ⟨tries,htr,t1,t2⟩:∃ tries:Nat,wrap64 (4*2 ^ (2*lv))=(tries:Int)∧1≤tries∧tries≤1000:=by
  have:lv=1∨lv=2∨lv=3:=by omega
  rcases this with rfl | rfl | rfl
  ·exact ⟨16,by simp [wrap64],by decide,by decide⟩
  ·exact ⟨64,by simp [wrap64],by decide,by decide⟩
  exact ⟨256,by simp [wrap64],by decide,by decide⟩
 clear hX hY hZ hU hV h1 h2 h3 h4 h5 hkey hst
 have HR:=hid hr
 clear hr
 have hmm:=@run_makeMap Tryz.prog
 have hms:=make_ints bs.length hlen
 have hmf:∀ (fn:Fn) (first cap:Array Value) (w:World),(Instr.makeFunc fn first cap).run Tryz.prog w=.ok (.func fn first cap) w:=fun _ _ _ _=>rfl
 go_enter Tryz.func59,Tryz.ntmps59
 go_upto_region 9 with fail
 have hsv:Pts (w.alloc (.cells (setCells win lo hi tries lazy) 154)) w.heap.size (setCells win lo hi tries lazy) 154:=Pts.new _ _ _
 have hbl:Below w.heap.size w (w.alloc (.cells (setCells win lo hi tries lazy) 154)):=(Below.refl _ _).alloc (Nat.le_refl _) _
 unfold setCells at hsv hbl
 have hsz:w.heap.size<(w.alloc (.cells #[.int .i64 win,.int .i64 lo,.int .i64 hi,.int .i64 tries,.bool lazy] 154)).heap.size:=by simp
 generalize w.alloc (.cells #[.int .i64 win,.int .i64 lo,.int .i64 hi,.int .i64 tries,.bool lazy] 154)=w1 at *
 have s1:w1.cell? ⟨w.heap.size,1,none⟩=some (.int .i64 lo):=by rw [hsv.cell];rfl
 have SV:=hid hsv
 have BL:=hid hbl
 clear hsv hbl
 go_cut [14] from 24 to 71 (fun s14 wx=>∃ bc bp bm cv:Nat,s14=.pointer (some ⟨cv,0,none⟩)∧w.heap.size≤cv∧ChainAt wx w.heap.size bc bp bm A c bs key 0 (fun _=>none) (List.replicate bs.length 0) ∧
  Pts wx cv #[.pointer (some ⟨bc,0,none⟩)] 155∧Pts wx w.heap.size (setCells win lo hi tries lazy) 154∧Below w.heap.size w wx)
 case first =>
  have hS0:LoS w.heap.size lo w1:=⟨hsz,s1⟩
  have hS1:LoS w.heap.size lo w1.drew:=hS0
  go_region_held3 (fun w'=>w.heap.size<w'.heap.size∧w'.cell? ⟨w.heap.size,1,none⟩=some (.int .i64 lo)) (first | assumption | (change LoS w.heap.size lo _;repeat (first | exact hS0 | refine LoS.drew ?_ | refine LoS.alloc ?_ _ | refine LoS.set ?_ _ (by simp;omega)))) (first | fail | fail)
  all_goals
   go_wp2
   go_meet
   first
    | exact made_four w w1 _ _ _ _ 0 1 2 3 rfl rfl rfl rfl HR.out BL.out SV.out
    | exact made_four w w1 _ _ _ _ 0 1 3 2 rfl rfl rfl rfl HR.out BL.out SV.out
    | exact made_four w w1 _ _ _ _ 0 2 3 1 rfl rfl rfl rfl HR.out BL.out SV.out
    | exact made_four w w1 _ _ _ _ 1 2 3 0 rfl rfl rfl rfl HR.out BL.out SV.out
    | exact made_four w w1 _ _ _ _ 1 0 2 3 rfl rfl rfl rfl HR.out BL.out SV.out
    | exact made_four w w1 _ _ _ _ 1 0 3 2 rfl rfl rfl rfl HR.out BL.out SV.out
    | exact made_four w w1 _ _ _ _ 2 0 3 1 rfl rfl rfl rfl HR.out BL.out SV.out
    | exact made_four w w1 _ _ _ _ 2 1 3 0 rfl rfl rfl rfl HR.out BL.out SV.out
 obtain ⟨bc,bp,bm,cv,rfl,hcvB,hC,hcv,hsv,hbe⟩:=hcut
 clear s1 hsz SV BL f1 f2 f3 f4 f5 f6 f7 f8 f9 f10 f11 hmm hms hlz htr
 have HC:=hid hC
 have HCV:=hid hcv
 have HSV:=hid hsv
 have HBE:=hid hbe
 have s0:wc.cell? ⟨w.heap.size,0,none⟩=some (.int .i64 win):=by rw [hsv.cell];rfl
 clear hC hcv hsv hbe
 obtain ⟨b31,b32⟩:=b3
 obtain ⟨b41,b42⟩:=b4
 obtain ⟨b51,b52⟩:=b5
 obtain ⟨b61,b62⟩:=b6
 go_wp2
 clear f12 s0
 go_loopw [15] (fun iv wr=>∃ (k:Nat) (f:Int→Option Int) (prev:List Int),iv=.int .i64 k∧k≤at_∧ChainAt wr w.heap.size bc bp bm A c bs key k f prev∧CI bs k f prev ∧
  Pts wr cv #[.pointer (some ⟨bc,0,none⟩)] 155∧Pts wr w.heap.size (setCells win lo hi tries lazy) 154∧Below w.heap.size w wr) (fun iv _=>at_-(intOf iv).toNat)
 case atStart=>exact ⟨st,_,_,rfl,b7,HC.out.mono (Nat.zero_le _),CI.start _ _,HCV.out,HSV.out,HBE.out⟩
 obtain ⟨k,f,prev,rfl,hk,hC,hI,hcv,hsv,hbe⟩:=hrel
 have C1:=hid hC
 have I1:=hid hI
 have CV:=hid hcv
 have SV:=hid hsv
 have BE:=hid hbe
 by_cases hka:k<at_
 ·have v0:wr.cell? ⟨cv,0,none⟩=some (.pointer (some ⟨bc,0,none⟩)):=by rw [hcv.cell];rfl
  clear hC hI hcv hsv hbe
  go_wp2_with (go_at_call 71;refine (fadd_any w.heap.size bc bp bm A c bs key k k f prev wr C1.out hc hcm hlen b61 (by omega) (by omega) (fun k p hp=>by have:=I1.out.f k p hp;exact wf_i64 (by omega) (by omega))).mono ?_;rintro e w2 ⟨rfl,hC2,hF2⟩)
  have d:=C1.out.dis CV.out SV.out
  have hB2:=hF2.below (B:=w.heap.size) BE.out.size (by rintro k (rfl | rfl);exact C1.out.hp;exact C1.out.hm)
  exact ⟨⟨k+1,_,_,by go_num,by omega,hC2,I1.out.add (by omega) C1.out.n,CV.out.frm hF2 (by rintro (h | h);exact d.1 h;exact d.2.1 h),SV.out.frm hF2 (by rintro (h | h);exact d.2.2.1 h;exact d.2.2.2 h),BE.out.trans hB2⟩,by simp [intOf];omega⟩
 obtain rfl:k=at_:=by omega
 clear hC hI hcv hsv hbe HC HCV HSV HBE
 go_wp2
 go_loopw [16,17,19] (fun ov lv iv wr=>∃ (i q:Nat) (l:List Sq) (f:Int→Option Int) (prev:List Int),iv=.int .i64 i∧lv=.int .i64 q∧k+q≤i∧i≤bs.length∧Pre bs win lo hi l k (i-q)∧l.length≤i ∧
  PSt w wr bc bp bm cv A c bs key win lo hi tries lazy i f prev ov l∧(AllSame bs k→Near bs key k i f∧Fewer bs.length k key lo hi i q l.length)) (fun _ _ iv _=>bs.length-(intOf iv).toNat)
 case atStart=>exact ⟨k,0,[],f,prev,rfl,rfl,by omega,by omega,rfl,Nat.zero_le _,⟨C1.out,I1.out,OwnSq.nil _ _ _,CV.out,SV.out,BE.out⟩,fun _=>⟨fun h=>absurd h (by omega),.inl ⟨rfl,by omega,by omega⟩⟩⟩
 clear C1 I1 CV SV BE
 obtain ⟨i,q,l,f,prev,rfl,rfl,hqi,hin,hpre,hll,hps,hfew⟩:=hrel
 have PR:=hid hpre
 have PS1:=hid hps
 have FW:=hid hfew
 clear hpre hps hfew
 by_cases hilt:i<bs.length
 ·have v0:=PS1.out.v0
  obtain ⟨s0,s1,s2,s3,s4⟩:=PS1.out.s
  go_upto_region 20 with (go_at_call 73;refine (longest_any w.heap.size bc bp bm A c bs key i i win lo hi tries lazy f prev wr PS1.out.ch hc hcm hlen b61 (Nat.le_of_lt hilt) PS1.out.ci.f PS1.out.ci.p b31 b32 b41 b51 b52 t1 t2).mono ?_;rintro e w2 ⟨size,back,rfl,hL,hB⟩)
  have PS2:=hid (PS1.out.later hB)
  have LL:=hid hL
  have hsz:size≤65536:=by have:=hL.lim;omega
  have hsn:i+size≤bs.length:=by have:=hL.lim;omega
  have hbk:back≤1048576:=by rcases hL.ok with ⟨_,h⟩ | ⟨_,_,h,_⟩ <;> omega
  clear hL hB v0 s0 s1 s2 s3 s4
  have v0:=PS2.out.v0
  obtain ⟨s0,s1,s2,s3,s4⟩:=PS2.out.s
  by_cases hz:size=0
  ·subst hz
   go_wp2_with (go_at_call 71;refine (fadd_any w.heap.size bc bp bm A c bs key i i f prev w2 PS2.out.ch hc hcm hlen b61 hilt (by omega) (fun k p hp=>by have:=PS2.out.ci.f k p hp;exact wf_i64 (by omega) (by omega))).mono ?_;rintro e w3 ⟨rfl,hC3,hF3⟩)
   exact ⟨⟨i+1,q+1,l,_,_,by go_num,by go_num,by omega,by omega,by rw [show i+1-(q+1)=i-q by omega];exact PR.out,by omega,PS2.out.added hilt rfl rfl hC3 hF3,
    fun hs=>⟨Near.add hs (by omega),Fewer.zero (FW.out hs).2 hs (FW.out hs).1 b31 LL.out b41 b51 hilt⟩⟩,by simp [intOf];omega⟩
  have hz1:((size:Int)==0)=false:=beq_eq_false_iff_ne.2 (by omega)
  cases lazy
  ·have lz0:True:=trivial
   have hst:StepOk bs win lo hi (i-q) ⟨(q:Int),(size:Int),(back:Int)⟩ (i+size):=⟨q,size,back,rfl,by omega,hsn,by rcases LL.out.lo with h | h;omega;exact h,by have:=LL.out.lim;omega,by
    rw [show i-q+q=i by omega]
    rcases LL.out.ok with ⟨h,_⟩ | h
    ·exact absurd h hz
    exact h⟩
   have ST:=hid hst
   clear hst
   go_wp2_with (at_builtin;refine wpList_append_sq _ rfl (.tmp 123) (.tmp 128) 111 rfl 152 w.heap.size Tryz.underlying111 Tryz.info_sq u16 l rfl ?own1 w2.heap.size 1 ⟨(q:Int),(size:Int),(back:Int)⟩ rfl ?news1 ?len1 ?base1 ?next1)
   case own1=>exact PS2.out.ow.alloc _
   case news1=>exact Pts.new _ _ _
   case len1=>omega
   case base1=>have:=PS2.out.be.size;simp;omega
   intro v4 w4 hown4 hfrm4 hnew4
   have P4:=hid ((PS2.out.alloc (.cells #[.int .i64 q,.int .i64 size,.int .i64 back] 152)).grown hown4 hfrm4)
   clear hown4 hfrm4 hnew4 v0 s0 s1 s2 s3 s4
   obtain ⟨s0,s1,s2,s3,s4⟩:=P4.out.s
   have PG:=hid (show Pre bs win lo hi (l++[(⟨(q:Int),(size:Int),(back:Int)⟩:Sq)]) k (i+size-0) from PR.out.snoc ST.out)
   have L2:=hid (show (l++[(⟨(q:Int),(size:Int),(back:Int)⟩:Sq)]).length=l.length+1 by simp)
   generalize l++[(⟨(q:Int),(size:Int),(back:Int)⟩:Sq)]=l4 at P4 L2 PG
   go_wp2
   go_loopw [19,22] (fun iv av wq=>∃ (j m:Nat) (ad:Bool) (f:Int→Option Int) (prev:List Int),iv=.int .i64 j∧av=.bool ad∧i≤j∧j≤i+size∧((ad=false∧m=j)∨(ad=true∧m=j+1∧j=i)) ∧
    PSt w wq bc bp bm cv A c bs key win lo hi tries false m f prev v4 l4∧(AllSame bs k→Near bs key k m f)) (fun iv _ _=>i+size-(intOf iv).toNat)
   case atStart=>exact ⟨i,_,_,_,_,rfl,rfl,by omega,by omega,.inl ⟨rfl,rfl⟩,P4.out,fun hs=>(FW.out hs).1⟩
   obtain ⟨j,m,ad,f5,prev5,rfl,rfl,hij,hje,had,hp5,hn5⟩:=hrel
   have P5:=hid hp5
   have N5:=hid hn5
   clear hp5 hn5 s0 s1 s2 s3 s4
   by_cases hjlt:j<i+size
   ·have v0:=P5.out.v0
    rcases had with ⟨rfl,rfl⟩ | ⟨rfl,rfl,rfl⟩
    ·go_wp2_with (go_at_call 71;refine (fadd_any w.heap.size bc bp bm A c bs key m m f5 prev5 wr P5.out.ch hc hcm hlen b61 (by omega) (by omega) (fun k p hp=>by have:=P5.out.ci.f k p hp;exact wf_i64 (by omega) (by omega))).mono ?_;rintro e w6 ⟨rfl,hC6,hF6⟩)
     exact ⟨⟨m+1,m+1,false,_,_,by go_num,rfl,by omega,by omega,.inl ⟨rfl,rfl⟩,P5.out.added (by omega) rfl rfl hC6 hF6,fun hs=>Near.add hs (by omega)⟩,by simp [intOf];omega⟩
    go_wp2
    exact ⟨⟨j+1,j+1,false,_,_,by go_num,rfl,by omega,by omega,.inl ⟨rfl,rfl⟩,P5.out,N5.out⟩,by simp [intOf];omega⟩
   have hj:j=i+size:=by omega
   rcases had with ⟨rfl,rfl⟩ | ⟨rfl,rfl,rfl⟩
   ·subst hj
    go_wp2
    exact ⟨⟨i+size,0,l4,f5,prev5,by go_num,rfl,by omega,by omega,PG.out,by rw [L2.out];omega,P5.out,fun hs=>⟨N5.out hs,by rw [L2.out];exact Fewer.hit (FW.out hs).2 hs (FW.out hs).1 b31 LL.out hz b41 b62 b51 hilt⟩⟩,by simp [intOf];omega⟩
   omega
  by_cases h64:size<64
  ·have h641:((size:Int)<64):=by omega
   go_upto_if 113 with (go_at_call 72;refine (better_any w.heap.size bc bp bm cv w.heap.size A c bs key i i size win lo hi tries true f prev w2 PS2.out.ch PS2.out.cv PS2.out.sv hc hcm hlen b61 hilt PS2.out.ci (by omega) (by omega) b31 b32 b41 b51 b52 t1 t2).mono ?_;rintro e w3 ⟨β,n2,b2,rfl,hβ,hL2,hC3,hF3⟩)
   have PS3:=hid (PS2.out.added hilt rfl rfl hC3 hF3)
   have LL2:=hid hL2
   have BT:=hid hβ
   clear hβ hL2 hC3 hF3 v0 s0 s1 s2 s3 s4
   have v0:=PS3.out.v0
   obtain ⟨s0,s1,s2,s3,s4⟩:=PS3.out.s
   cases β
   ·have lz0:True:=trivial
    have hst:StepOk bs win lo hi (i-q) ⟨(q:Int),(size:Int),(back:Int)⟩ (i+size):=⟨q,size,back,rfl,by omega,hsn,by rcases LL.out.lo with h | h;omega;exact h,by have:=LL.out.lim;omega,by
     rw [show i-q+q=i by omega]
     rcases LL.out.ok with ⟨h,_⟩ | h
     ·exact absurd h hz
     exact h⟩
    have ST:=hid hst
    clear hst
    go_wp2_with (at_builtin;refine wpList_append_sq _ rfl (.tmp 123) (.tmp 128) 111 rfl 152 w.heap.size Tryz.underlying111 Tryz.info_sq u16 l rfl ?own2 w3.heap.size 1 ⟨(q:Int),(size:Int),(back:Int)⟩ rfl ?news2 ?len2 ?base2 ?next2)
    case own2=>exact PS3.out.ow.alloc _
    case news2=>exact Pts.new _ _ _
    case len2=>omega
    case base2=>have:=PS3.out.be.size;simp;omega
    intro v4 w4 hown4 hfrm4 hnew4
    have P4:=hid ((PS3.out.alloc (.cells #[.int .i64 q,.int .i64 size,.int .i64 back] 152)).grown hown4 hfrm4)
    clear hown4 hfrm4 hnew4 v0 s0 s1 s2 s3 s4
    obtain ⟨s0,s1,s2,s3,s4⟩:=P4.out.s
    have PG:=hid (show Pre bs win lo hi (l++[(⟨(q:Int),(size:Int),(back:Int)⟩:Sq)]) k (i+size-0) from PR.out.snoc ST.out)
    have L2:=hid (show (l++[(⟨(q:Int),(size:Int),(back:Int)⟩:Sq)]).length=l.length+1 by simp)
    generalize l++[(⟨(q:Int),(size:Int),(back:Int)⟩:Sq)]=l4 at P4 L2 PG
    go_wp2
    go_loopw [19,22] (fun iv av wq=>∃ (j m:Nat) (ad:Bool) (f:Int→Option Int) (prev:List Int),iv=.int .i64 j∧av=.bool ad∧i≤j∧j≤i+size∧((ad=false∧m=j)∨(ad=true∧m=j+1∧j=i)) ∧
     PSt w wq bc bp bm cv A c bs key win lo hi tries true m f prev v4 l4∧(AllSame bs k→Near bs key k m f)) (fun iv _ _=>i+size-(intOf iv).toNat)
    case atStart=>exact ⟨i,_,_,_,_,rfl,rfl,by omega,by omega,.inr ⟨rfl,rfl,rfl⟩,P4.out,fun hs=>Near.add hs (by omega)⟩
    obtain ⟨j,m,ad,f5,prev5,rfl,rfl,hij,hje,had,hp5,hn5⟩:=hrel
    have P5:=hid hp5
    have N5:=hid hn5
    clear hp5 hn5 s0 s1 s2 s3 s4
    by_cases hjlt:j<i+size
    ·have v0:=P5.out.v0
     rcases had with ⟨rfl,rfl⟩ | ⟨rfl,rfl,rfl⟩
     ·go_wp2_with (go_at_call 71;refine (fadd_any w.heap.size bc bp bm A c bs key m m f5 prev5 wr P5.out.ch hc hcm hlen b61 (by omega) (by omega) (fun k p hp=>by have:=P5.out.ci.f k p hp;exact wf_i64 (by omega) (by omega))).mono ?_;rintro e w6 ⟨rfl,hC6,hF6⟩)
      exact ⟨⟨m+1,m+1,false,_,_,by go_num,rfl,by omega,by omega,.inl ⟨rfl,rfl⟩,P5.out.added (by omega) rfl rfl hC6 hF6,fun hs=>Near.add hs (by omega)⟩,by simp [intOf];omega⟩
     go_wp2
     exact ⟨⟨j+1,j+1,false,_,_,by go_num,rfl,by omega,by omega,.inl ⟨rfl,rfl⟩,P5.out,N5.out⟩,by simp [intOf];omega⟩
    have hj:j=i+size:=by omega
    rcases had with ⟨rfl,rfl⟩ | ⟨rfl,rfl,rfl⟩
    ·subst hj
     go_wp2
     exact ⟨⟨i+size,0,l4,f5,prev5,by go_num,rfl,by omega,by omega,PG.out,by rw [L2.out];omega,P5.out,fun hs=>⟨N5.out hs,by rw [L2.out];exact Fewer.hit (FW.out hs).2 hs (FW.out hs).1 b31 LL.out hz b41 b62 b51 hilt⟩⟩,by simp [intOf];omega⟩
    omega
   go_wp2
   exact ⟨⟨i+1,q+1,l,_,_,by go_num,by go_num,by omega,by omega,by rw [show i+1-(q+1)=i-q by omega];exact PR.out,by omega,PS3.out,
    fun hs=>⟨Near.add hs (by omega),Fewer.better (FW.out hs).2 hs (FW.out hs).1 b31 LL.out LL2.out (BT.out rfl) hz b62 b51⟩⟩,by simp [intOf];omega⟩
  have h641:(64:Int)≤(size:Int):=by omega
  have hst:StepOk bs win lo hi (i-q) ⟨(q:Int),(size:Int),(back:Int)⟩ (i+size):=⟨q,size,back,rfl,by omega,hsn,by rcases LL.out.lo with h | h;omega;exact h,by have:=LL.out.lim;omega,by
   rw [show i-q+q=i by omega]
   rcases LL.out.ok with ⟨h,_⟩ | h
   ·exact absurd h hz
   exact h⟩
  have ST:=hid hst
  clear hst
  go_wp2_with (at_builtin;refine wpList_append_sq _ rfl (.tmp 123) (.tmp 128) 111 rfl 152 w.heap.size Tryz.underlying111 Tryz.info_sq u16 l rfl ?own3 w2.heap.size 1 ⟨(q:Int),(size:Int),(back:Int)⟩ rfl ?news3 ?len3 ?base3 ?next3)
  case own3=>exact PS2.out.ow.alloc _
  case news3=>exact Pts.new _ _ _
  case len3=>omega
  case base3=>have:=PS2.out.be.size;simp;omega
  intro v4 w4 hown4 hfrm4 hnew4
  have P4:=hid ((PS2.out.alloc (.cells #[.int .i64 q,.int .i64 size,.int .i64 back] 152)).grown hown4 hfrm4)
  clear hown4 hfrm4 hnew4 v0 s0 s1 s2 s3 s4
  obtain ⟨s0,s1,s2,s3,s4⟩:=P4.out.s
  have PG:=hid (show Pre bs win lo hi (l++[(⟨(q:Int),(size:Int),(back:Int)⟩:Sq)]) k (i+size-0) from PR.out.snoc ST.out)
  have L2:=hid (show (l++[(⟨(q:Int),(size:Int),(back:Int)⟩:Sq)]).length=l.length+1 by simp)
  generalize l++[(⟨(q:Int),(size:Int),(back:Int)⟩:Sq)]=l4 at P4 L2 PG
  go_wp2
  go_loopw [19,22] (fun iv av wq=>∃ (j m:Nat) (ad:Bool) (f:Int→Option Int) (prev:List Int),iv=.int .i64 j∧av=.bool ad∧i≤j∧j≤i+size∧((ad=false∧m=j)∨(ad=true∧m=j+1∧j=i)) ∧
   PSt w wq bc bp bm cv A c bs key win lo hi tries true m f prev v4 l4∧(AllSame bs k→Near bs key k m f)) (fun iv _ _=>i+size-(intOf iv).toNat)
  case atStart=>exact ⟨i,_,_,_,_,rfl,rfl,by omega,by omega,.inl ⟨decide_eq_false (by omega),rfl⟩,P4.out,fun hs=>(FW.out hs).1⟩
  obtain ⟨j,m,ad,f5,prev5,rfl,rfl,hij,hje,had,hp5,hn5⟩:=hrel
  have P5:=hid hp5
  have N5:=hid hn5
  clear hp5 hn5 s0 s1 s2 s3 s4
  by_cases hjlt:j<i+size
  ·have v0:=P5.out.v0
   rcases had with ⟨rfl,rfl⟩ | ⟨rfl,rfl,rfl⟩
   ·go_wp2_with (go_at_call 71;refine (fadd_any w.heap.size bc bp bm A c bs key m m f5 prev5 wr P5.out.ch hc hcm hlen b61 (by omega) (by omega) (fun k p hp=>by have:=P5.out.ci.f k p hp;exact wf_i64 (by omega) (by omega))).mono ?_;rintro e w6 ⟨rfl,hC6,hF6⟩)
    exact ⟨⟨m+1,m+1,false,_,_,by go_num,rfl,by omega,by omega,.inl ⟨rfl,rfl⟩,P5.out.added (by omega) rfl rfl hC6 hF6,fun hs=>Near.add hs (by omega)⟩,by simp [intOf];omega⟩
   go_wp2
   exact ⟨⟨j+1,j+1,false,_,_,by go_num,rfl,by omega,by omega,.inl ⟨rfl,rfl⟩,P5.out,N5.out⟩,by simp [intOf];omega⟩
  have hj:j=i+size:=by omega
  rcases had with ⟨rfl,rfl⟩ | ⟨rfl,rfl,rfl⟩
  ·subst hj
   go_wp2
   exact ⟨⟨i+size,0,l4,f5,prev5,by go_num,rfl,by omega,by omega,PG.out,by rw [L2.out];omega,P5.out,fun hs=>⟨N5.out hs,by rw [L2.out];exact Fewer.hit (FW.out hs).2 hs (FW.out hs).1 b31 LL.out hz b41 b62 b51 hilt⟩⟩,by simp [intOf];omega⟩
  omega
 have hie:i=bs.length:=by omega
 have hbl:=PS1.out.be
 by_cases hq:0<q
 ·have hqq:(0:Int)<(q:Int):=by omega
  go_wp2_with (at_builtin;refine wpList_append_sq _ rfl (.tmp 151) (.tmp 154) 111 rfl 152 w.heap.size Tryz.underlying111 Tryz.info_sq u16 l rfl ?own9 wr.heap.size 1 ⟨(q:Int),0,0⟩ rfl ?news9 ?len9 ?base9 ?next9)
  case own9=>exact PS1.out.ow.alloc _
  case news9=>exact Pts.new _ _ _
  case len9=>omega
  case base9=>have:=PS1.out.be.size;simp;omega
  intro v4 w4 hown4 hfrm4 hnew4
  have P4:=hid ((PS1.out.alloc (.cells #[.int .i64 q,.int .i64 0,.int .i64 0] 152)).grown hown4 hfrm4)
  clear hown4 hfrm4 hnew4
  have RR:=hid (Pre.tail PR.out hq (by omega))
  have TT:=hid (fun (hs:AllSame bs k)=>(hie▸(FW.out hs).2:Fewer bs.length k key lo hi bs.length q l.length).total (tot:=(l++[(⟨(q:Int),0,0⟩:Sq)]).length) (by omega) (by rw [if_pos hq];simp))
  have LN:=hid (show (l++[(⟨(q:Int),0,0⟩:Sq)]).length≤2097153 by simp;omega)
  generalize l++[(⟨(q:Int),0,0⟩:Sq)]=l4 at P4 RR TT LN
  go_wp2
  go_ret
  exact ⟨_,l4,rfl,P4.out.ow,RR.out,TT.out,LN.out,P4.out.be⟩
 have hq0:q=0:=by omega
 subst hq0
 have RR:=hid (Pre.right PR.out (by omega))
 have TT:=hid (fun (hs:AllSame bs k)=>(hie▸(FW.out hs).2:Fewer bs.length k key lo hi bs.length 0 l.length).total (tot:=l.length) (by omega) (by simp))
 go_wp2
 go_ret
 exact ⟨_,l,rfl,PS1.out.ow,RR.out,TT.out,by omega,hbl⟩
end Go.Proofs.YtablgjhnpphodaaGreat
