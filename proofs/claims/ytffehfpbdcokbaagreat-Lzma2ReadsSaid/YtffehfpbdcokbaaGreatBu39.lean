import Derived.Test.YtffehfpbdcokbaaGreatChecked
import Derived.WalkKit
import Derived.Lib.Hide
import Derived.BigQuiet
import Derived.Deep.QuietTactic
import Derived.RegionTactic
import Derived.StillTailTactics
import Derived.OwnWalk
import Derived.Lib.SliceRun
import Derived.Maps.OwnSet
import Derived.Maps.Views
import Derived.Maps.AppendAt
import Derived.Test.YtffehfpbdcokbaaGreatBu1
import Derived.Test.YtffehfpbdcokbaaGreatBu15
import Derived.Test.YtffehfpbdcokbaaGreatBu36
import Derived.Test.YtffehfpbdcokbaaGreatBu38
set_option linter.unusedVariables false
set_option linter.unusedSimpArgs false
namespace Go.Proofs.YtffehfpbdcokbaaGreat
open Lib (hid)
open Go.RowKit Rng Win Lz Fnd
theorem ops_read2 (k:LK) (S:Nat) (bs:List UInt8) (fr total st:Nat) (rep:Nat→Nat) (pr:Pr) (l:List (Option (Nat×Nat))) (hok:OkOps bs fr l) (hf:fr≤bs.length) (hS:bs.length≤S) (hb:bs.length≤16777216) :
 ∃ y,chunkOf k S total (bs.length-fr) st rep pr (bs.take fr) (opsB k bs fr total st rep pr l)=some (bs.drop fr,y)∧y.C=bs:=by
 have hI:EncI (wOps k bs fr (totOf total) l ⟨fr,st,rep,⟨newEnc,pr⟩⟩).s.d:=stays_wOps encI_stays k bs fr (totOf total) l (x:=⟨fr,st,rep,⟨newEnc,pr⟩⟩) encI_new
 have ht:=told_close hI
 have hsub:Sub newEnc (wOps k bs fr (totOf total) l ⟨fr,st,rep,⟨newEnc,pr⟩⟩).s.d:=sub_wOps ht k bs fr (totOf total) l (x:=⟨fr,st,rep,⟨newEnc,pr⟩⟩) encI_new (Sub.refl _)
 obtain ⟨h1,h2⟩:=told_head ht hsub
 unfold chunkOf opsB
 have h1':¬ newErr (wOps k bs fr (totOf total) l ⟨fr,st,rep,⟨newEnc,pr⟩⟩).s.d.close.out≠0:=fun h=>h h1
 rw [if_neg h1']
 obtain ⟨y,h3,h4⟩:=ops_back ht k S fr (totOf total) (bs.length-fr) hS hb rfl l (bs.length-fr+1) (x:=⟨fr,st,rep,⟨newEnc,pr⟩⟩) (y:=⟨st,rep,⟨newDec _,pr⟩,bs.take fr⟩) (told:=[]) ⟨encI_new,⟨h2,rfl⟩,rfl,rfl,rfl,by simp only;rw [List.drop_of_length_le (by rw [List.length_take];omega)],Nat.le_refl _,hf⟩ hok (by simp) rfl
 rw [h3]
 simp only
 rw [if_pos (Lz.told_end ht h4.p.1)]
 refine ⟨y,rfl,?_⟩
 have hl:=h4.len
 rw [List.length_drop] at hl
 have hn:=h4.n
 have hff:=h4.f
 rw [h4.c,List.take_of_length_le (by omega)]
def lenB (b:List UInt8) (fr:Nat):Nat:=b.length-fr-1
def encPlain (b:List UInt8) (fr:Nat):List UInt8:=(if fr=0 then 1 else 2)::UInt8.ofNat (lenB b fr / 256)::UInt8.ofNat (lenB b fr)::b.drop fr
def encLz (b:List UInt8) (fr:Nat) (c:List UInt8):List UInt8:=(if fr=0 then 224 else 192)::UInt8.ofNat (lenB b fr / 256)::UInt8.ofNat (lenB b fr)::UInt8.ofNat ((c.length-1) / 256)::UInt8.ofNat (c.length-1)::93::c
def lzB (b:List UInt8) (fr:Nat) (l:List Sq):List UInt8:=opsB (newK 0 0) b fr fr 0 (fun _=>0) (fun _=>1024) (opsOf l)
def IsEnc (b:List UInt8) (fr:Nat) (x:List UInt8):Prop:=(fr=b.length∧x=[])∨(fr<b.length∧x=encPlain b fr)∨(fr<b.length∧∃ l,rightGo b l fr=some b.length∧(lzB b fr l).length+6<b.length-fr+3∧x=encLz b fr (lzB b fr l))
theorem two_num {m:Nat} (h:m<65536):(UInt8.ofNat (m / 256)).toNat*256+(UInt8.ofNat m).toNat=m:=by
 rw [UInt8.toNat_ofNat',UInt8.toNat_ofNat']
 omega
structure At (b:List UInt8) (fr:Nat) (x:DS):Prop where
 c:x.C=b.take fr
 t:x.total=fr
 g:x.begun=true∨fr=0
theorem plain_one (S:Nat) {b:List UInt8} {fr:Nat} {x:DS} (h:At b fr x) (hf:fr<b.length) (hS:b.length≤S) (hb:b.length≤65536) (rest:List UInt8) :
 ∃ y,one S x (encPlain b fr++rest)=.told (b.drop fr) y rest∧y.C=b∧y.total=fr∧y.begun=true:=by
 obtain ⟨xC,xlc,xlp,xpb,xst,xrep,xpr,xtot,xbeg,xprops⟩:=x
 obtain ⟨h1,h2,h3⟩:=h
 simp only at h1 h2 h3
 subst h1;subst h2
 have hl:lenB b xtot<65536:=by unfold lenB;omega
 have htw:=two_num hl
 have hdl:(b.drop xtot).length=b.length-xtot:=List.length_drop
 have key:∀ (c:UInt8) (z:DS),c.toNat<3→1≤c.toNat→¬ badHead ⟨b.take xtot,xlc,xlp,xpb,xst,xrep,xpr,xtot,xbeg,xprops⟩ c.toNat→DS.dict ⟨b.take xtot,xlc,xlp,xpb,xst,xrep,xpr,xtot,xbeg,xprops⟩ c.toNat=z→z.C=b.take xtot →
  one S ⟨b.take xtot,xlc,xlp,xpb,xst,xrep,xpr,xtot,xbeg,xprops⟩ (c::UInt8.ofNat (lenB b xtot / 256)::UInt8.ofNat (lenB b xtot)::b.drop xtot++rest)=.told (b.drop xtot) { z with C:=b } rest:=by
  intro c z hc3 hc1 hbad hz hzc
  have hh:headN c.toNat=3:=by unfold headN;rw [if_neg (by omega),if_pos hc3]
  have e0:(c::UInt8.ofNat (lenB b xtot / 256)::UInt8.ofNat (lenB b xtot)::b.drop xtot++rest).getD 0 0=c:=rfl
  unfold one
  rw [e0,hh]
  rw [if_neg (by simp),if_neg (by omega),if_neg (by simp),if_neg (by omega),if_neg hbad]
  unfold oneBody
  rw [if_pos hc3,hz]
  have e1:twoB ((c::UInt8.ofNat (lenB b xtot / 256)::UInt8.ofNat (lenB b xtot)::b.drop xtot++rest).take 3) 1+1=(b.drop xtot).length:=by
   show (UInt8.ofNat (lenB b xtot / 256)).toNat*256+(UInt8.ofNat (lenB b xtot)).toNat+1=_
   rw [htw,hdl]
   unfold lenB
   omega
  have e2:(c::UInt8.ofNat (lenB b xtot / 256)::UInt8.ofNat (lenB b xtot)::b.drop xtot++rest).drop 3=b.drop xtot++rest:=rfl
  rw [e1,e2,if_neg (by rw [List.length_append];omega),List.take_append_of_le_length (Nat.le_refl _),List.take_length,List.drop_append_of_le_length (Nat.le_refl _),List.drop_length,List.nil_append,hzc,List.take_append_drop,lastN_all hS]
 by_cases h0:xtot=0
 ·subst h0
  refine ⟨{ ({ DS.clear ⟨b.take 0,xlc,xlp,xpb,xst,xrep,xpr,0,xbeg,xprops⟩ with props:=false }:DS) with C:=b },?_,rfl,rfl,?_⟩
  ·unfold encPlain
   rw [if_pos rfl]
   exact key 1 { DS.clear ⟨b.take 0,xlc,xlp,xpb,xst,xrep,xpr,0,xbeg,xprops⟩ with props:=false } (by decide) (by decide) (by unfold badHead;rintro (e | e);exact e.2.1 rfl;exact absurd e.1 (by decide)) rfl rfl
  rfl
 have hg:xbeg=true:=h3.resolve_right h0
 subst hg
 refine ⟨{ (⟨b.take xtot,xlc,xlp,xpb,xst,xrep,xpr,xtot,true,xprops⟩:DS) with C:=b },?_,rfl,rfl,?_⟩
 ·unfold encPlain
  rw [if_neg h0]
  exact key 2 ⟨b.take xtot,xlc,xlp,xpb,xst,xrep,xpr,xtot,true,xprops⟩ (by decide) (by decide) (by unfold badHead;rintro (e | e);exact absurd e.1 (by simp);exact absurd e.1 (by decide)) rfl rfl
 rfl
theorem lz_one (S:Nat) {b:List UInt8} {fr:Nat} {x:DS} {l:List Sq} (h:At b fr x) (hf:fr<b.length) (hS:b.length≤S) (hb:b.length≤65536) (hl:rightGo b l fr=some b.length) (hc:(lzB b fr l).length+6<b.length-fr+3) (rest:List UInt8) :
 ∃ y,one S x (encLz b fr (lzB b fr l)++rest)=.told (b.drop fr) y rest∧y.C=b∧y.total=fr∧y.begun=true:=by
 obtain ⟨y0,hy,hyC⟩:=ops_read2 (newK 0 0) S b fr fr 0 (fun _=>0) (fun _=>1024) (opsOf l) (right_ops l fr (by omega) hl) (by omega) hS (by omega)
 have hne:1≤(lzB b fr l).length:=by
  have hI:EncI (wOps (newK 0 0) b fr (totOf fr) (opsOf l) ⟨fr,0,fun _=>0,⟨newEnc,fun _=>1024⟩⟩).s.d:=stays_wOps encI_stays (newK 0 0) b fr (totOf fr) (opsOf l) (x:=⟨fr,0,fun _=>0,⟨newEnc,fun _=>1024⟩⟩) encI_new
  have:=(told_close hI).l
  unfold lzB opsB
  omega
 change chunkOf (newK 0 0) S fr (b.length-fr) 0 (fun _=>0) (fun _=>1024) (b.take fr) (lzB b fr l)=some (b.drop fr,y0) at hy
 generalize lzB b fr l=c at *
 obtain ⟨xC,xlc,xlp,xpb,xst,xrep,xpr,xtot,xbeg,xprops⟩:=x
 obtain ⟨h1,h2,h3⟩:=h
 simp only at h1 h2 h3
 subst h1;subst h2
 have hlb:lenB b xtot<65536:=by unfold lenB;omega
 have htw:=two_num hlb
 have htc:=two_num (show c.length-1<65536 by omega)
 have hn:lenB b xtot+1=b.length-xtot:=by unfold lenB;omega
 have key:∀ (q:UInt8) (z:DS),192≤q.toNat→q.toNat % 32=0→¬ badHead ⟨b.take xtot,xlc,xlp,xpb,xst,xrep,xpr,xtot,xbeg,xprops⟩ q.toNat→DS.dict ⟨b.take xtot,xlc,xlp,xpb,xst,xrep,xpr,xtot,xbeg,xprops⟩ q.toNat=z→z.C=b.take xtot→z.total=xtot →
  one S ⟨b.take xtot,xlc,xlp,xpb,xst,xrep,xpr,xtot,xbeg,xprops⟩ (q::UInt8.ofNat (lenB b xtot / 256)::UInt8.ofNat (lenB b xtot)::UInt8.ofNat ((c.length-1) / 256)::UInt8.ofNat (c.length-1)::93::c++rest)=.told (b.drop xtot) ⟨y0.C,3,0,2,y0.st,y0.rep,y0.s.pr,xtot,z.begun,true⟩ rest:=by
  intro q z hq hq32 hbad hz hzc hzt
  have hh:headN q.toNat=6:=by unfold headN;rw [if_neg (by omega),if_neg (by omega),if_neg (by omega),if_neg (by omega)]
  have e0:(q::UInt8.ofNat (lenB b xtot / 256)::UInt8.ofNat (lenB b xtot)::UInt8.ofNat ((c.length-1) / 256)::UInt8.ofNat (c.length-1)::93::c++rest).getD 0 0=q:=rfl
  unfold one
  rw [e0,hh]
  rw [if_neg (by simp),if_neg (by omega),if_neg (by simp),if_neg (by omega),if_neg hbad]
  unfold oneBody
  rw [if_neg (by omega),hz]
  have e1:twoB ((q::UInt8.ofNat (lenB b xtot / 256)::UInt8.ofNat (lenB b xtot)::UInt8.ofNat ((c.length-1) / 256)::UInt8.ofNat (c.length-1)::93::c++rest).take 6) 1+1=b.length-xtot:=by
   show (UInt8.ofNat (lenB b xtot / 256)).toNat*256+(UInt8.ofNat (lenB b xtot)).toNat+1=_
   rw [htw,hn]
  have e2:twoB ((q::UInt8.ofNat (lenB b xtot / 256)::UInt8.ofNat (lenB b xtot)::UInt8.ofNat ((c.length-1) / 256)::UInt8.ofNat (c.length-1)::93::c++rest).take 6) 3+1=c.length:=by
   show (UInt8.ofNat ((c.length-1) / 256)).toNat*256+(UInt8.ofNat (c.length-1)).toNat+1=_
   rw [htc]
   omega
  have e3:(q::UInt8.ofNat (lenB b xtot / 256)::UInt8.ofNat (lenB b xtot)::UInt8.ofNat ((c.length-1) / 256)::UInt8.ofNat (c.length-1)::93::c++rest).drop 6=c++rest:=rfl
  have e4:(((q::UInt8.ofNat (lenB b xtot / 256)::UInt8.ofNat (lenB b xtot)::UInt8.ofNat ((c.length-1) / 256)::UInt8.ofNat (c.length-1)::93::c++rest).take 6).getD 5 0).toNat=93:=rfl
  rw [e1,e2,e3,e4,if_neg (by rw [List.length_append];omega),if_neg (by rintro ⟨_,e⟩;revert e;decide),List.take_append_of_le_length (Nat.le_refl _),List.take_length,List.drop_append_of_le_length (Nat.le_refl _),List.drop_length,List.nil_append,hq32,Nat.zero_mul,Nat.add_zero]
  unfold DS.set DS.reset
  rw [if_pos hq]
  unfold oneLz
  simp only
  rw [hzc,hzt]
  have e5:chunkOf ⟨0,0,93 % 9,93 / 9 % 5,93 / 45⟩ S xtot (b.length-xtot) 0 (fun _=>0) (fun _=>1024) (b.take xtot) c=some (b.drop xtot,y0):=hy
  rw [e5]
 by_cases h0:xtot=0
 ·subst h0
  refine ⟨⟨y0.C,3,0,2,y0.st,y0.rep,y0.s.pr,0,true,true⟩,?_,hyC,rfl,?_⟩
  ·unfold encLz
   rw [if_pos rfl]
   exact key 224 (DS.clear ⟨b.take 0,xlc,xlp,xpb,xst,xrep,xpr,0,xbeg,xprops⟩) (by decide) (by decide) (by unfold badHead;rintro (e | e);exact absurd e.2.2 (by decide);exact absurd e.1 (by decide)) rfl rfl rfl
  rfl
 have hg:xbeg=true:=h3.resolve_right h0
 subst hg
 refine ⟨⟨y0.C,3,0,2,y0.st,y0.rep,y0.s.pr,xtot,true,true⟩,?_,hyC,rfl,?_⟩
 ·unfold encLz
  rw [if_neg h0]
  exact key 192 ⟨b.take xtot,xlc,xlp,xpb,xst,xrep,xpr,xtot,true,xprops⟩ (by decide) (by decide) (by unfold badHead;rintro (e | e);exact absurd e.1 (by simp);exact absurd e.1 (by decide)) rfl rfl rfl
 rfl
def Pieces (b:List UInt8):Nat→List (List UInt8)→Prop
 | a,[]=>a=b.length
 | a,x::xs=>∃ e,a≤e∧e≤b.length∧IsEnc (b.take e) a x∧Pieces b e xs
theorem pieces_go (S most:Nat) {b:List UInt8} (hS:b.length≤S) (hb:b.length≤65536) (hm:b.length≤most):∀ (xs:List (List UInt8)) (a f:Nat) (x:DS),Pieces b a xs→a≤b.length→At b a x→xs.flatten.length+1<f→d2Go S most f x (b.take a) (xs.flatten++[0])=(b,.inr [])
 | [],a,0,x,h,ha,hx,hf=>absurd hf (by omega)
 | [],a,f+1,x,h,ha,hx,hf=>by
  have h:a=b.length:=h
  subst h
  have e:one S x ([].flatten++[0])=.fin []:=rfl
  unfold d2Go
  rw [e,List.take_length]
 | t::xs,a,f,x,h,ha,hx,hf=>by
  obtain ⟨e,h1,h2,h3,h4⟩:=h
  have hel:(b.take e).length=e:=by rw [List.length_take];omega
  have hAt:At (b.take e) a x:=⟨by rw [hx.c,List.take_take,Nat.min_eq_left h1],hx.t,hx.g⟩
  have step:∀ (t:List UInt8),a<e→(∃ y,one S x (t++(xs.flatten++[0]))=.told ((b.take e).drop a) y (xs.flatten++[0])∧y.C=b.take e∧y.total=a∧y.begun=true)→xs.flatten.length+2<f→d2Go S most f x (b.take a) (t++(xs.flatten++[0]))=(b,.inr []):=by
   intro t hae ⟨y,k1,k2,k3,k4⟩ hf2
   obtain ⟨g,rfl⟩:∃ g,f=g+1:=⟨f-1,by omega⟩
   unfold d2Go
   rw [k1]
   simp only
   have hdl:((b.take e).drop a).length=e-a:=by rw [List.length_drop,hel]
   have htl:(b.take a).length=a:=by rw [List.length_take];omega
   rw [if_neg (by omega)]
   have htx:b.take a++(b.take e).drop a=b.take e:=by
    have:b.take a=(b.take e).take a:=by rw [List.take_take,Nat.min_eq_left h1]
    rw [this,List.take_append_drop]
   rw [htx]
   exact pieces_go S most hS hb hm xs e g { y with total:=y.total+((b.take e).drop a).length } h4 h2 ⟨k2,by simp only;omega,.inl k4⟩ (by omega)
  rw [List.flatten_cons,List.append_assoc]
  rw [List.flatten_cons,List.length_append] at hf
  rcases h3 with ⟨g1,g2⟩ | ⟨g1,g2⟩ | ⟨g1,l,g2,g3,g4⟩
  ·subst g2
   rw [hel] at g1
   subst g1
   rw [List.nil_append]
   exact pieces_go S most hS hb hm xs a f x h4 ha hx (by rw [List.length_nil] at hf;omega)
  ·rw [hel] at g1
   have hl:2≤t.length:=by rw [g2];unfold encPlain;simp
   rw [g2]
   exact step _ g1 (plain_one S hAt (by omega) (by omega) (by omega) _) (by omega)
  rw [hel] at g1
  have hl:2≤t.length:=by rw [g4];unfold encLz;simp
  rw [g4]
  exact step _ g1 (lz_one S hAt (by omega) (by omega) (by omega) g2 g3 _) (by omega)
theorem pieces_read (S most:Nat) {b:List UInt8} (hS:b.length≤S) (hb:b.length≤65536) (hm:b.length≤most) (xs:List (List UInt8)) (h:Pieces b 0 xs):d2P S most (xs.flatten++[0])=(b,.inr []) :=
 pieces_go S most hS hb hm xs 0 _ newDS h (Nat.zero_le _) ⟨rfl,rfl,.inr rfl⟩ (by rw [List.length_append];simp)
theorem isEnc_len {b:List UInt8} {fr:Nat} {x:List UInt8} (h:IsEnc b fr x):x.length≤b.length-fr+3∧((x.length=0)↔fr=b.length):=by
 rcases h with ⟨g1,g2⟩ | ⟨g1,g2⟩ | ⟨g1,l,g2,g3,g4⟩
 ·subst g2;exact ⟨by simp,by simp [g1]⟩
 ·subst g2
  unfold encPlain
  simp only [List.length_cons,List.length_drop]
  omega
 subst g4
 unfold encLz
 simp only [List.length_cons]
 omega
open Go.RowKit Rng Win Lz Fnd
open Go.RowKit Fnd
open Go.RowKit Rng Win Lz Fnd
open Go.RowKit Fnd
def sqCells (l:List Sq):List Value:=l.flatMap fun s=>[.int .i64 s.lits,.int .i64 s.mat,.int .i64 s.back]
theorem sqCells_at:∀ (l:List Sq) (k:Nat),k<l.length→(sqCells l)[k*3]?=some (.int .i64 (l.getD k default).lits)∧(sqCells l)[k*3+1]?=some (.int .i64 (l.getD k default).mat)∧(sqCells l)[k*3+2]?=some (.int .i64 (l.getD k default).back)
 | [],k,h=>absurd h (by simp)
 | s::l,0,_=>by simp [sqCells]
 | s::l,k+1,h=>by
  have ih:=sqCells_at l k (by simpa using h)
  have e:sqCells (s::l)=.int .i64 s.lits::.int .i64 s.mat::.int .i64 s.back::sqCells l:=rfl
  rw [e,show (k+1)*3=k*3+1+1+1 by omega]
  simpa using ih
theorem sqCells_append (l m:List Sq):sqCells (l++m)=sqCells l++sqCells m:=by simp [sqCells]
def OwnSq (w:World) (T base:Nat) (v:Value) (l:List Sq):Prop:=w.ownsRow base T 3 v l.length (sqCells l)
section
variable {w w' : World} {T base : Nat} {v : Value} {l : List Sq}
theorem OwnSq.nil (w:World) (T base:Nat):OwnSq w T base (.slice none 0 0) []:=World.ownsRow_nil w base T 3
theorem OwnSq.slice (h:OwnSq w T base v l):∃ A cap,v=.slice A l.length cap∧l.length≤cap∧cap≤maxLen∧SqRow w w.heap.size A l:=by
 obtain ⟨h1,h2⟩:=h
 rcases h2 with ⟨rfl,hn⟩ | ⟨g,cap,cur,rfl,hb,hh,hnc,hcm,hcs,ht⟩
 ·obtain rfl:l=[]:=List.eq_nil_of_length_eq_zero hn
  exact ⟨none,0,rfl,Nat.le_refl _,Nat.zero_le _,fun h=>absurd h (by simp)⟩
 have hp:Pts w g cur T:=hh
 refine ⟨_,cap,rfl,hnc,hcm,fun _=>⟨g,0,rfl,hp.lt,fun k hk=>?_⟩⟩
 obtain ⟨c0,c1,c2⟩:=sqCells_at l k hk
 have hx:∀ j,j<l.length*3→cur[j]?=(sqCells l)[j]?:=by
  intro j hj
  rw [← ht,List.getElem?_take,if_pos hj,Array.getElem?_toList]
 rw [hp.cell,hp.cell,hp.cell,hx _ (by omega),hx _ (by omega),hx _ (by omega)]
 simpa using ⟨c0,c1,c2⟩
theorem OwnSq.lt (h:OwnSq w T base v l) {k:Nat} (hk:v.ownBlock=some k):base≤k∧k<w.heap.size:=World.ownsRow.lt h k hk
theorem OwnSq.frm {S:Nat→Prop} (h:OwnSq w T base v l) (hf:Frm S w w') (hn:∀ k,v.ownBlock=some k→¬ S k):OwnSq w' T base v l:=by
 refine ⟨h.1,?_⟩
 rcases h.2 with h2 | ⟨g,cap,cur,rfl,hb,hh,r⟩
 ·exact .inl h2
 exact .inr ⟨g,cap,cur,rfl,hb,(hf.block g (Pts.lt hh) (hn g rfl)).trans hh,r⟩
theorem OwnSq.alloc (h:OwnSq w T base v l) (o:Obj):OwnSq (w.alloc o) T base v l:=World.ownsRow.alloc h o
theorem OwnSq.one (w:World) (T base:Nat) (hb:base≤w.heap.size) (s:Sq):OwnSq (w.alloc (.cells #[.int .i64 s.lits,.int .i64 s.mat,.int .i64 s.back] T)) T base (.slice (some ⟨w.heap.size,0,none⟩) 1 1) [s] :=
 World.ownsRow_lit w #[.int .i64 s.lits,.int .i64 s.mat,.int .i64 s.back] 1 hb (by decide) rfl
end
section
variable {P : Program} (w : World)
theorem run_append_sq (t ty T base:Nat) (ht:P.underlying t=some (.slice T)) (hinfo:(P.info? T).map (fun i=>(i.zero,i.size,i.bytes))=some (some (.agg #[.int .i64 0,.int .i64 0,.int .i64 0]),3,24))
 (v:Value) (l:List Sq) (hown:OwnSq w T base v l) (g c:Nat) (s:Sq) (hnews:Pts w g #[.int .i64 s.lits,.int .i64 s.mat,.int .i64 s.back] T)
 (hlen:l.length+1≤1000000000) (hbase:base≤w.heap.size) :
 ∃ v' w',(Builtin.append_ #[t,t] ty #[v,.slice (some ⟨g,0,none⟩) 1 c]).run P w=.ok v' w'∧OwnSq w' T base v' (l++[s])∧Frm (fun k=>v.ownBlock=some k) w w' ∧
  (v'.ownBlock=v.ownBlock∨v'.ownBlock=some w.heap.size):=by
 obtain ⟨i,hi,hzz⟩:=Option.map_eq_some_iff.1 hinfo
 simp only [Prod.mk.injEq] at hzz
 obtain ⟨hz,hs,hby⟩:=hzz
 have hcells:∀ j u,(sqCells [s])[j]?=some u→w.cell? ((⟨g,0,none⟩:Addr).add j)=some u:=by
  intro j u hu
  rw [Opn.add_at,Nat.zero_add,hnews.cell,← hu]
  show #[Value.int IntKind.i64 s.lits,.int .i64 s.mat,.int .i64 s.back][j]?=[Value.int IntKind.i64 s.lits,.int .i64 s.mat,.int .i64 s.back][j]?
  simp
 obtain ⟨v',w',hrun,h2,h3,_,h5⟩:=run_append_own_at (P:=P) w base t ty T i (.agg #[.int .i64 0,.int .i64 0,.int .i64 0]) 3 24 ht hi hz hs hby rfl (by omega) v l.length (sqCells l) hown ⟨g,0,none⟩ 1 c (sqCells [s]) (by simp [sqCells]) hcells (by intro u hu;simp [sqCells] at hu;rcases hu with rfl | rfl | rfl <;> rfl) (by unfold maxLen;omega) (by omega) hbase
 refine ⟨v',w',hrun,?_,⟨h3.os,h3.tape,h3.output,h3.size,fun k hk hn=>h3.block k hk (fun e=>hn e.symm)⟩,h5⟩
 unfold OwnSq
 rw [List.length_append,sqCells_append]
 exact h2
theorem wpList_append_sq {ops:Array Oper} {rest:List Oper} {o:Oper} {a:Act} {Q:Exit→Act→World→Prop} (hgd:o.guard=none) (u x:Operand) (t:TypeId)
 (ho:o.op=.call { callee:=.builtin .append,args:=#[u,x],argTypes:=#[t,t] })
 (T base:Nat) (ht:P.underlying t=some (.slice T)) (hinfo:(P.info? T).map (fun i=>(i.zero,i.size,i.bytes))=some (some (.agg #[.int .i64 0,.int .i64 0,.int .i64 0]),3,24))
 (v:Value) (l:List Sq) (hs:a.eval u=v) (hown:OwnSq w T base v l) (g c:Nat) (s:Sq) (hx:a.eval x=.slice (some ⟨g,0,none⟩) 1 c) (hnews:Pts w g #[.int .i64 s.lits,.int .i64 s.mat,.int .i64 s.back] T)
 (hlen:l.length+1≤1000000000) (hbase:base≤w.heap.size)
 (h:∀ v' w',OwnSq w' T base v' (l++[s])→Frm (fun k=>v.ownBlock=some k) w w'→(v'.ownBlock=v.ownBlock∨v'.ownBlock=some w.heap.size)→wpList P ops Q rest (a.put o.dst v') w'):wpList P ops Q (o::rest) a w :=
 wpList_plain hgd fun K' hK'=>by
  obtain ⟨v',w',hrun,h2,h3,h4⟩:=run_append_sq (P:=P) w t o.type T base ht hinfo v l hown g c s hnews hlen hbase
  unfold Oper.wp execOp
  simp only [ho,resolve,invoke,builtin,Sem.run_bind,Sem.run_pure,Result.andThen_ok,List.map_toArray,List.map_cons,List.map_nil,hs,hx,hrun]
  exact hK' _ _ (h v' w' h2 h3 h4)
end
def keyStep (y:Nat) (x:UInt8):Nat:=(y*256 % Num.M32) ||| (x.toNat % Num.M32)
def keyFold (l:List UInt8):Nat:=l.foldl keyStep 0
theorem keyStep_lt (y:Nat) (x:UInt8):keyStep y x<4294967296:=by
 have e:Num.M32=2 ^ 32:=rfl
 unfold keyStep
 rw [e]
 exact Nat.or_lt_two_pow (Nat.mod_lt _ (by decide)) (Nat.mod_lt _ (by decide))
theorem keyStep_cast (y:Nat) (x:UInt8):bits .or .u32 ((y:Int)*256 % 4294967296) ((x.toNat:Int) % 4294967296)=(keyStep y x:Int):=by
 have h:=Num.or32 (a:=y*256 % Num.M32) (b:=x.toNat % Num.M32) (Nat.mod_lt _ (by decide)) (Nat.mod_lt _ (by decide))
 unfold keyStep
 rw [← h]
 unfold Num.M32
 congr 1 <;> omega
theorem keyFold_lt':∀ (l:List UInt8) (y:Nat),y<4294967296→l.foldl keyStep y<4294967296
 | [],_,h=>h
 | x::l,y,_=>keyFold_lt' l _ (keyStep_lt y x)
theorem keyFold_lt (l:List UInt8):keyFold l<4294967296:=keyFold_lt' l 0 (by decide)
theorem keyFold_take {l:List UInt8} {t:Nat} (h:t<l.length):keyFold (l.take (t+1))=keyStep (keyFold (l.take t)) (l.getD t 0):=by
 unfold keyFold
 rw [List.take_succ_eq_append_getElem h,List.foldl_append]
 simp [List.getD,h]
def keyAt (bs:List UInt8) (key i:Nat):Nat:=keyFold ((bs.drop i).take key)
def MapIs (D:DataW Unit) (f:Int→Option Int):Prop :=
 Maps.IsMap D∧∀ k,Maps.has D (.int .u32 k)=(f k).isSome∧∀ p,f k=some p→D.atKey (.int .u32 k) (.lit (.int .i64 0))=.lit (.int .i64 p)
theorem MapIs.empty:MapIs (.map []) (fun _=>none):=⟨Maps.isMap_empty,fun k=>⟨rfl,fun p h=>absurd h (by simp)⟩⟩
theorem MapIs.put {D:DataW Unit} {f:Int→Option Int} (h:MapIs D f) (k p:Int):MapIs (D.put (.int .u32 k) (.lit (.int .i64 p))) (fun x=>if x=k then some p else f x):=by
 obtain ⟨h1,h2⟩:=h
 refine ⟨h1.put _ _,fun x=>?_⟩
 by_cases hx:x=k
 ·subst hx
  have hkl:WideAt.IsKeyLit (.int .u32 x):=trivial
  simp only [if_true]
  refine ⟨by rw [Maps.has_put_same h1 hkl];rfl,fun q hq=>?_⟩
  injection hq with hq
  subst hq
  exact Maps.atKey_put_same h1 hkl _ _
 have hne:(Lit.int .u32 x)≠.int .u32 k:=fun e=>hx (by injection e)
 simp only [if_neg hx]
 refine ⟨by rw [Maps.has_put_other hne];exact (h2 x).1,fun q hq=>?_⟩
 rw [Maps.atKey_put_other hne]
 exact (h2 x).2 q hq
theorem World.ownsMap.frm {H:Type} {P:Program} {k:TypeId} {R:Value→Option (DataW H×List MemPlace)} {b n:Nat} {D:DataW H} {w w':World} {S:Nat→Prop} (h:w.ownsMap P k R b n D) (hf:Frm S w w') (hn:¬ S b):w'.ownsMap P k R b n D:=by
 have hlt:=World.ownsMap.lt h
 obtain ⟨es,clock,hb,r⟩:=h
 exact ⟨es,clock,(hf.block b hlt hn).trans hb,r⟩
end Go.Proofs.YtffehfpbdcokbaaGreat
