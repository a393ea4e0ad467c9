import Derived.OwnWalk
import Derived.Deep.RegionWith
import Derived.Deep.RegionHeld3
import Derived.Defers
import Derived.Deep.RegionLaw
import Derived.Deep.CutRange
import Derived.Test.YtablgjhnpphodaaGreatOpen
import Derived.SizedLaws
import Derived.Test.YtablgjhnpphodaaGreatBu2
import Derived.Test.YtablgjhnpphodaaGreatBu5
set_option linter.unusedVariables false
set_option linter.unusedSimpArgs false
namespace Go.Proofs.YtablgjhnpphodaaGreat.Box
open Go.RowKit
def scan (i n:Nat):List UInt8→Nat×Nat×Int
 | []=>(0,0,10)
 | c::r =>
  if (i=8∧128≤c.toNat)∨(0<i∧c.toNat=0) then (0,0,11)
  else if c.toNat<128 then (n+c.toNat*2 ^ (7*i),i+1,0)
  else scan (i+1) (n+c.toNat % 128*2 ^ (7*i)) r
def number (bs:List UInt8):Nat×Nat×Int:=scan 0 0 bs
def putGo:Nat→Nat→List UInt8
 | 0,n=>[UInt8.ofNat n]
 | f+1,n=>if n<128 then [UInt8.ofNat n] else UInt8.ofNat (n % 128+128)::putGo f (n / 128)
def put (n:Nat):List UInt8:=putGo 8 n
theorem ofNat_toNat {n:Nat} (h:n<256):(UInt8.ofNat n).toNat=n:=by rw [UInt8.toNat_ofNat'];exact Nat.mod_eq_of_lt h
theorem pow_step (i:Nat):2 ^ (7*(i+1))=2 ^ (7*i)*128:=by rw [Nat.mul_succ,Nat.pow_add]
theorem scan_put:∀ (f i n m:Nat) (r:List UInt8),f+i=8→m<2 ^ (7*(9-i))→(0<i→0<m)→scan i n (putGo f m++r)=(n+m*2 ^ (7*i),i+(putGo f m).length,0)
 | 0,i,n,m,r,hf,hm,hz=>by
  obtain rfl:i=8:=by omega
  have hm2:m<128:=hm
  have hz2:=hz (by decide)
  show scan 8 n (UInt8.ofNat m::r)=_
  unfold scan
  rw [ofNat_toNat (by omega),if_neg (by omega),if_pos hm2]
  rfl
 | f+1,i,n,m,r,hf,hm,hz=>by
  unfold putGo
  by_cases h:m<128
  ·rw [if_pos h]
   show scan i n (UInt8.ofNat m::r)=_
   unfold scan
   rw [ofNat_toNat (by omega),if_neg (by have:=hz;omega),if_pos h]
   rfl
  rw [if_neg h]
  show scan i n (UInt8.ofNat (m % 128+128)::(putGo f (m / 128)++r))=_
  unfold scan
  have e1:(m % 128+128) % 128=m % 128:=by omega
  have hp:2 ^ (7*(9-i))=2 ^ (7*(9-(i+1)))*128:=by rw [show 9-i=9-(i+1)+1 by omega,pow_step]
  rw [hp] at hm
  have hq:m / 128<2 ^ (7*(9-(i+1))):=Nat.div_lt_of_lt_mul (by rw [Nat.mul_comm];exact hm)
  rw [ofNat_toNat (by omega),if_neg (by omega),if_neg (by omega),e1,scan_put f (i+1) _ (m / 128) r (by omega) hq (fun _=>by omega),pow_step]
  have hd:=Nat.div_add_mod m 128
  generalize hA:m / 128=A at *
  generalize hC:m % 128=C at *
  have e2:n+C*2 ^ (7*i)+A*(2 ^ (7*i)*128)=n+m*2 ^ (7*i):=by
   rw [← hd,Nat.add_mul,Nat.mul_assoc 128 A,Nat.mul_comm 128 (A*2 ^ (7*i)),Nat.mul_assoc A]
   omega
  rw [e2,List.length_cons]
  have e3:i+1+(putGo f A).length=i+((putGo f A).length+1):=by omega
  rw [e3]
theorem number_put {n:Nat} (h:n<9223372036854775808) (r:List UInt8):number (put n++r)=(n,(put n).length,0):=by
 have h1:=scan_put 8 0 0 n r rfl h (fun h=>absurd h (by decide))
 unfold number put
 rw [h1]
 simp
theorem scan_back:∀ (bs:List UInt8) (i n y m:Nat),i≤8→scan i n bs=(y,m,0)→∃ v k,y=n+v*2 ^ (7*i)∧m=i+k∧1≤k∧k≤bs.length∧v<2 ^ (7*(9-i))∧putGo (8-i) v=bs.take k∧(0<i→0<v)
 | [],i,n,y,m,hi,h=>by unfold scan at h;injection h with _ h;injection h with _ h;cases h
 | c::r,i,n,y,m,hi,h=>by
  unfold scan at h
  have hc:=c.toNat_lt
  by_cases h1:(i=8∧128≤c.toNat)∨(0<i∧c.toNat=0)
  ·rw [if_pos h1] at h;injection h with _ h;injection h with _ h;cases h
  rw [if_neg h1] at h
  by_cases h2:c.toNat<128
  ·rw [if_pos h2] at h
   injection h with ha hb
   injection hb with hb _
   have hp:128≤2 ^ (7*(9-i)):=by
    have:2 ^ 7≤2 ^ (7*(9-i)):=Nat.pow_le_pow_right (by decide) (by omega)
    exact this
   refine ⟨c.toNat,1,ha.symm,by omega,Nat.le_refl _,by simp,by omega,?_,by omega⟩
   have e:UInt8.ofNat c.toNat=c:=UInt8.ofNat_toNat
   cases hk:8-i with
   | zero=>unfold putGo;rw [e];rfl
   | succ k=>unfold putGo;rw [if_pos h2,e];rfl
  rw [if_neg h2] at h
  have hi8:i≤7:=by omega
  obtain ⟨v,k,e1,e2,e3,e4,e5,e6,e7⟩:=scan_back r (i+1) _ y m (by omega) h
  have hv:=e7 (by omega)
  have hp:2 ^ (7*(9-i))=2 ^ (7*(9-(i+1)))*128:=by rw [show 9-i=9-(i+1)+1 by omega,pow_step]
  refine ⟨v*128+c.toNat % 128,k+1,?_,by omega,by omega,by simp;omega,?_,?_,fun _=>by omega⟩
  ·rw [e1,pow_step,Nat.add_mul,Nat.mul_assoc v,Nat.mul_comm 128 (2 ^ (7*i))]
   omega
  ·rw [hp];omega
  rw [show 8-i=(8-(i+1))+1 by omega]
  unfold putGo
  rw [if_neg (by omega)]
  have q1:(v*128+c.toNat % 128) % 128+128=c.toNat:=by omega
  have q2:(v*128+c.toNat % 128) / 128=v:=by omega
  rw [q1,q2,e6,UInt8.ofNat_toNat]
  rfl
theorem number_back {bs:List UInt8} {y m:Nat} (h:number bs=(y,m,0)):y<9223372036854775808∧1≤m∧m≤bs.length∧put y=bs.take m:=by
 obtain ⟨v,k,e1,e2,e3,e4,e5,e6,e7⟩:=scan_back bs 0 0 y m (by decide) h
 have ey:y=v:=by simpa using e1
 have em:m=k:=by omega
 subst ey;subst em
 exact ⟨e5,e3,e4,e6⟩
theorem scan_bad:∀ (bs:List UInt8) (i n:Nat),(scan i n bs).2.2≠0→scan i n bs=(0,0,10)∨scan i n bs=(0,0,11)
 | [],i,n,h=>.inl rfl
 | c::r,i,n,h=>by
  unfold scan at h ⊢
  by_cases h1:(i=8∧128≤c.toNat)∨(0<i∧c.toNat=0)
  ·rw [if_pos h1];exact .inr rfl
  rw [if_neg h1] at h ⊢
  by_cases h2:c.toNat<128
  ·rw [if_pos h2] at h;exact absurd rfl h
  rw [if_neg h2] at h ⊢
  exact scan_bad r _ _ h
theorem number_err (bs:List UInt8):(number bs).2.2=0∨number bs=(0,0,10)∨number bs=(0,0,11):=by
 by_cases h:(number bs).2.2=0
 ·exact .inl h
 exact .inr (scan_bad bs 0 0 h)
end Go.Proofs.YtablgjhnpphodaaGreat.Box
namespace Go.Proofs.YtablgjhnpphodaaGreat
open Lib (hid)
open Go.RowKit Box
def errOf (t:Nat×Nat×Int):Value:=.tuple #[.int .u64 (t.1:Int),.int .i64 (t.2.1:Int),.int .i64 t.2.2]
theorem or_num {n X i:Nat} (hn:n<2 ^ (7*i)) (hX:X<128) (hi:i≤8):bits .or .u64 (n:Int) (IntKind.u64.wrap ((X:Int)*2 ^ (7*i)))=((n+X*2 ^ (7*i):Nat):Int):=by
 have hp:2 ^ (7*i)≤2 ^ 56:=Nat.pow_le_pow_right (by decide) (by omega)
 have h56:(2:Nat) ^ 56=72057594037927936:=by decide
 have hm:X*2 ^ (7*i)≤127*2 ^ (7*i):=Nat.mul_le_mul_right _ (by omega)
 have e0:(X:Int)*2 ^ (7*i)=((X*2 ^ (7*i):Nat):Int):=by simp
 rw [e0,Go.IntWalk.u64_in _ (by omega)]
 have h1:=Num.or64 (a:=n) (b:=X*2 ^ (7*i)) (by unfold Num.M64;omega) (by unfold Num.M64;omega)
 rw [h1]
 have h3:=Nat.shiftLeft_add_eq_or_of_lt (a:=X) (b:=n) (i:=7*i) hn
 rw [Nat.shiftLeft_eq] at h3
 rw [Nat.or_comm,← h3,Nat.add_comm]
theorem and_num {X:Nat} (h:X<256):bits .and .u8 (X:Int) 127=((X % 128:Nat):Int):=by
 have h1:bits .and .u8 (X:Int) ((127:Nat):Int)=((X &&& 127:Nat):Int):=u8_and_nat X 127 h (by decide)
 rw [show (127:Nat)=2 ^ 7-1 by rfl,Nat.and_two_pow_sub_one_eq_mod] at h1
 exact h1
set_option maxRecDepth 100000 in
set_option maxHeartbeats 2000000 in
theorem number_p (A:Option Addr) (bs:List UInt8) (n c B:Nat) (w:World) (hn:n=bs.length) (hr:BRow w B A bs) (hlen:bs.length≤maxLen) :
 Calls Tryz.prog 84 #[.slice A n c] w fun e w'=>e=.returned (errOf (number bs))∧w=w':=by
 subst hn
 have HR:=hid hr
 obtain ⟨R,hR⟩:∃ R,number bs=R:=⟨_,rfl⟩
 rw [hR]
 have HN:=hid hR
 clear hr hR
 go_enter Tryz.func84,Tryz.ntmps84
 go_wp2
 go_loopw [2,9] (fun nv iv wr=>w=wr∧∃ (i n:Nat),iv=.int .i64 i∧nv=.int .u64 n∧i≤bs.length∧i≤8∧n<2 ^ (7*i)∧scan i n (bs.drop i)=R) (fun _ iv _=>bs.length-(intOf iv).toNat)
 case atStart=>exact ⟨rfl,0,0,rfl,rfl,by omega,by omega,by decide,HN.out⟩
 obtain ⟨rfl,i,n,rfl,rfl,hi,hi8,hnp,hsc⟩:=hrel
 by_cases hlt:i<bs.length
 ·obtain ⟨b0,off,rfl,hb0,hcell⟩:=HR.out (by omega)
  have hc:=hcell i hlt
  rw [List.drop_eq_getElem_cons hlt] at hsc
  have hg:bs.getD i 0=bs[i]:=by simp [List.getD,List.getElem?_eq_getElem hlt]
  rw [hg] at hc
  obtain ⟨x,hx⟩:∃ x,bs[i]=x:=⟨_,rfl⟩
  rw [hx] at hsc hc
  have hxl:=x.toNat_lt
  clear hg hx hcell
  unfold scan at hsc
  unfold byteV at hc
  obtain ⟨X,hX⟩:∃ X,x.toNat=X:=⟨_,rfl⟩
  rw [hX] at hsc hc hxl
  clear hX
  by_cases h1:(i=8∧128≤X)∨(0<i∧X=0)
  ·rw [if_pos h1] at hsc
   subst hsc
   go_wp2
   all_goals
    refine bodyPost_ret (results_tmp3 rfl _ _ _) rfl ?_
    exact ⟨rfl,rfl⟩
  rw [if_neg h1] at hsc
  have h10:¬ (i=8∧128≤X):=fun h=>h1 (.inl h)
  have h11:¬ (0<i∧X=0):=fun h=>h1 (.inr h)
  clear h1
  by_cases h2:X<128
  ·rw [if_pos h2] at hsc
   have hor:=or_num hnp h2 hi8
   by_cases h8:i=8
   ·subst h8
    have hx0:0<X:=by omega
    have e0:IntKind.u64.wrap ((X:Int)*2 ^ (7*8))=(X:Int)*72057594037927936:=Go.IntWalk.u64_in _ (by omega)
    rw [e0] at hor
    clear h10 h11 hnp
    go_wp2
    refine bodyPost_ret (results_tmp3 rfl _ _ _) rfl ?_
    rw [← hsc]
    exact ⟨rfl,rfl⟩
   have h8':((i:Int)==8)=false:=by simp;omega
   clear h10
   by_cases hi0:i=0
   ·subst hi0
    have hc0:w.cell? ⟨b0,off,none⟩=some (.int .u8 (X:Int)):=hc
    clear h11
    have e1:X*2 ^ (7*0)=X:=by simp
    have e2:IntKind.u64.wrap ((X:Int)*2 ^ (7*0))=(X:Int):=by rw [show ((X:Int)*2 ^ (7*0))=(X:Int) by simp];exact Go.IntWalk.u64_in _ (by omega)
    rw [e2,e1] at hor
    rw [e1] at hsc
    go_wp2
    refine bodyPost_ret (results_tmp3 rfl _ _ _) rfl ?_
    rw [← hsc]
    exact ⟨rfl,rfl⟩
   have hx0:0<X:=by omega
   clear h11
   go_wp2
   refine bodyPost_ret (results_tmp3 rfl _ _ _) rfl ?_
   rw [← hsc]
   exact ⟨rfl,rfl⟩
  rw [if_neg h2] at hsc
  have hi7:i<8:=by omega
  have ha:=and_num hxl
  obtain ⟨Y,hY⟩:∃ Y,X % 128=Y:=⟨_,rfl⟩
  rw [hY] at ha hsc
  have hY2:Y<128:=by omega
  have hor:=or_num hnp hY2 hi8
  have hwY:IntKind.u64.wrap (Y:Int)=Y:=Go.IntWalk.u64_in _ (by omega)
  have h8':((i:Int)==8)=false:=by simp;omega
  have hx0:((X:Int)==0)=false:=by simp;omega
  have hnp2:n+Y*2 ^ (7*i)<2 ^ (7*(i+1)):=by
   rw [pow_step]
   have hm:Y*2 ^ (7*i)≤127*2 ^ (7*i):=Nat.mul_le_mul_right _ (by omega)
   omega
  have HSC:=hid hsc
  clear h10 h11 hsc hY
  go_wp2
  all_goals
   exact ⟨⟨trivial,i+1,_,by go_num,rfl,by omega,by omega,hnp2,HSC.out⟩,by simp [intOf];omega⟩
 obtain rfl:i=bs.length:=by omega
 rw [List.drop_length] at hsc
 subst hsc
 go_wp2
 refine bodyPost_ret (results_tmp3 rfl _ _ _) rfl ?_
 exact ⟨rfl,rfl⟩
open Go.RowKit Box
theorem number_nil:(number []).2.2=10:=rfl
def RnPost (fb cb base:Nat) (A:Option Addr) (n c used want:Nat) (bs got:List UInt8) (v:Value) (w:World) (e:Ending) (w':World):Prop :=
 if (number bs).2.2≠0 then e=.returned (.int .i64 (number bs).2.2)∧w=w'
 else if (number bs).1≠want then e=.returned (.int .i64 11)∧w=w'
 else e=.returned (.int .i64 0)∧∃ v',SrcAt w' fb (takeA A c (number bs).2.1) (n-(number bs).2.1) (c-(number bs).2.1) (used+(number bs).2.1)∧Pts w' cb #[v'] 27∧OwnB w' 5 base v' (got++bs.take (number bs).2.1)∧(v'.ownBlock=v.ownBlock∨∃ q,v'.ownBlock=some q∧w.heap.size≤q)∧Frm (fun q=>q=fb∨q=cb∨v.ownBlock=some q) w w'
set_option maxRecDepth 100000 in
set_option maxHeartbeats 4000000 in
theorem xnumber_p (rb fb bud cb base B0:Nat) (put hold:Value) (kind:Int) (told:Nat) (lv v:Value) (A:Option Addr) (n c used want:Nat) (bs got:List UInt8) (w:World) (hr:RxAt w rb fb bud put hold kind told lv) (h:SrcAt w fb A n c used) (hn:n=bs.length) (hb:BRow w B0 A bs) (hB0:B0≤w.heap.size∧B0≤fb) (hc:n≤c) (hcm:c≤maxLen) (hu:used+n≤4611686018427387904)
 (hp:Pts w cb #[v] 27) (ho:OwnB w 5 base v got) (hbs:base≤w.heap.size) (hne:cb≠fb) (hl:got.length+n≤140737488355328) (hlook:∀ k,(number (bs.take k)).2.2≠10→number bs=number (bs.take k)) :
 Calls Tryz.prog 65 #[.pointer (some ⟨rb,0,none⟩),.pointer (some ⟨cb,0,none⟩),.int .u64 want] w (RnPost fb cb base A n c used want bs got v w):=by
 have HP:=hid hp
 have HO:=hid ho
 have HB:=hid (And.intro hb (And.intro h hr))
 have HB0:=hid hB0
 have HH:Hid (n=bs.length∧n≤c∧c≤maxLen∧used+n≤4611686018427387904∧base≤w.heap.size∧cb≠fb∧got.length+n≤140737488355328):=hid ⟨hn,hc,hcm,hu,hbs,hne,hl⟩
 have c0:=hr.cells.1
 have HL:=hid hlook
 clear hr h hn hb hB0 hc hcm hu hp ho hbs hne hl hlook
 go_enter Tryz.func65,Tryz.ntmps65
 go_wp2
 go_loopg [7] (n+1) (fun f sv wr=>∃ k,sv=.int .i64 ((k+1:Nat):Int)∧f+k=n+1∧k≤n∧(number (bs.take k)).2.2=10∧wr=w)
 case atStart=>exact ⟨0,rfl,by omega,by omega,number_nil,rfl⟩
 obtain ⟨k,rfl,hf,hk,ht,rfl⟩:=hrel
 have HF:=hid (And.intro hf hk)
 have HT:=hid ht
 have HK:=hid (peek_p fb A n c used (k+1) wr HB.out.2.1 HH.out.2.1)
 clear hf hk ht
 by_cases hkn:k+1≤n
 ·rw [if_pos hkn] at HK
  obtain ⟨R,hR⟩:∃ R,number (bs.take (k+1))=R:=⟨_,rfl⟩
  have HNU:=hid (number_p A (bs.take (k+1)) (k+1) (k+1) B0 wr (by rw [List.length_take];have:=HH.out.1;omega) (HB.out.1.take (k+1)) (by rw [List.length_take];have:=HH.out.1;have:=HH.out.2.1;have:=HH.out.2.2.1;omega))
  rw [hR] at HNU
  obtain ⟨y,m,er⟩:=R
  unfold errOf at HNU
  have HR:=hid hR
  have i1:IntKind.i64.wrap (((k+1:Nat):Int)+1)=((k+1+1:Nat):Int):=Go.IntWalk.i64_in _ (by have:=HF.out;have:=HH.out.2.2.2.1;omega)
  clear hR
  obtain ⟨s1,hs1⟩:∃ x,k+1=x:=⟨_,rfl⟩
  rw [hs1] at HK HNU i1 HR hkn
  rw [hs1]
  by_cases h10:er=10
  ·subst h10
   go_wp2_with fail
   refine HK.out.mono ?_;rintro e w1 ⟨rfl,rfl⟩
   go_wp2_with fail
   refine HNU.out.mono ?_;rintro e w1 ⟨rfl,rfl⟩
   obtain ⟨g,rfl⟩:∃ g,gk=g+1:=⟨gk-1,by have:=HF.out;omega⟩
   go_wp2
   go_roundg g
   case rel=>exact ⟨s1,rfl,by have:=HF.out;omega,hkn,by rw [HR.out],rfl⟩
   case measure=>omega
  have hnb:number bs=(y,m,er):=by rw [← HR.out];exact HL.out s1 (by rw [HR.out];exact h10)
  have e10:(er==10)=false:=by simpa using h10
  by_cases h0:er=0
  ·subst h0
   have hmn:1≤m∧m≤s1:=by
    obtain ⟨_,k2,k3,_⟩:=number_back (bs:=bs.take s1) HR.out
    rw [List.length_take] at k3
    omega
   by_cases hy:y=want
   ·subst hy
    have HTK:=hid (rtake_p rb fb bud put hold kind told lv A n c used m wr HB.out.2.2 HB.out.2.1 HH.out.2.1 (by omega) (by have:=HH.out.2.2.2.1;omega))
    go_wp2_with fail
    refine HK.out.mono ?_;rintro e w1 ⟨rfl,rfl⟩
    go_wp2_with fail
    refine HNU.out.mono ?_;rintro e w1 ⟨rfl,rfl⟩
    go_wp2_with fail
    refine HTK.out.mono ?_;rintro e w1 ⟨rfl,h1,h2⟩
    obtain ⟨A0,k0,rfl,-,-,-⟩:=HO.out.slice
    have hp1:=HP.out.frm h2 HH.out.2.2.2.2.2.1
    have cc:w1.cell? ⟨cb,0,none⟩=some (.slice A0 got.length k0):=by rw [hp1.cell];rfl
    have zz:=hp1.frozen 0
    have H1:=hid (And.intro h1 h2)
    have HP1:=hid hp1
    clear h1 h2 hp1
    have hnf:∀ k,(Value.slice A0 got.length k0).ownBlock=some k→k≠fb:=by
     rintro k hk rfl
     rcases HO.out.form with ⟨h3,_⟩ | ⟨g,cap,cur,h3,_,hh,_⟩
     ·rw [h3] at hk;cases hk
     rw [h3] at hk
     injection hk with hk
     subst hk
     exact Pts.ne_of (show Pts wr g _ _ from hh) (show Pts wr g _ _ from HB.out.2.1) (by decide) rfl
    have hnc:(Value.slice A0 got.length k0).ownBlock≠some cb:=by
     intro hk
     rcases HO.out.form with ⟨h3,_⟩ | ⟨g,cap,cur,h3,_,hh,_⟩
     ·rw [h3] at hk;cases hk
     rw [h3] at hk
     injection hk with hk
     subst hk
     exact Pts.ne_of (show Pts wr g _ _ from hh) HP.out (by decide) rfl
    have HO1:=hid (HO.out.frm H1.out.2 (fun k hk e=>hnf k hk e))
    have HNE:=hid (And.intro hnf hnc)
    clear hnf hnc
    obtain ⟨V0,hV0⟩:∃ x,Value.slice A0 got.length k0=x:=⟨_,rfl⟩
    have HV:=hid hV0
    rw [hV0] at HO1 HNE HP1
    clear hV0
    go_wp2_with (at_builtin;refine wpList_append_bytes _ rfl (.tmp 52) (.tmp 53) 27 rfl 5 base Tryz.underlying27 Tryz.info_u8 (.slice A0 got.length k0) got rfl ?own2 A m m B0 (bs.take m) rfl ?lenn ?row2 ?len2 ?base2 ?next2)
    case own2=>rw [HV.out];exact HO1.out
    case lenn=>rw [List.length_take];have:=HH.out.1;omega
    case row2=>exact (HB.out.1.take m).frm H1.out.2 HB0.out.1 (fun k hk=>by have:=HB0.out.2;omega)
    case len2=>rw [List.length_take];have:=HH.out.2.2.2.2.2.2;omega
    case base2=>exact Nat.le_trans HH.out.2.2.2.2.1 H1.out.2.size
    intro v3 w3 hown3 hfrm3 hnew3
    rw [HV.out] at hfrm3 hnew3
    obtain ⟨A3,k3,hv3,-,-,-⟩:=hown3.slice
    have hp3:=HP1.out.frm hfrm3 HNE.out.2
    have hs3:SrcAt w3 fb (takeA A c m) (n-m) (c-m) (used+m):=Pts.frm H1.out.1 hfrm3 (fun e=>HNE.out.1 fb e rfl)
    have hne3:v3.ownBlock≠some cb:=by
     have:=HP1.out.lt
     rcases hnew3 with e | e
     ·rw [e];exact HNE.out.2
     rw [e];intro h;injection h with h;omega
    have c3:w3.cell? ⟨cb,0,none⟩=some (.slice A0 got.length k0):=by rw [hp3.cell,HV.out];rfl
    have z3:=hp3.frozen 0
    have HP3:=hid (hp3.set 0 v3)
    have HO3:=hid (hown3.other (p:=⟨cb,0,none⟩) hne3 v3)
    have HS3:Hid (SrcAt (w3.setCell ⟨cb,0,none⟩ v3) fb (takeA A c m) (n-m) (c-m) (used+m)):=hid (Pts.other hs3 (p:=⟨cb,0,none⟩) (fun e=>HH.out.2.2.2.2.2.1 e.symm) v3)
    have HF3:=hid (Frm.setCell (p:=⟨cb,0,none⟩) ((H1.out.2.mono (S':=fun q=>q=fb∨q=cb∨V0.ownBlock=some q) fun q _ e=>.inl e).trans (hfrm3.mono (S':=fun q=>q=fb∨q=cb∨V0.ownBlock=some q) fun q _ e=>.inr (.inr e))) (.inr (.inl rfl)) v3)
    have HN3:=hid (And.intro hnew3 H1.out.2.size)
    clear hown3 hfrm3 hnew3 hp3 hs3 hne3
    obtain ⟨L3,hL3⟩:∃ L,(got++bs.take m).length=L:=⟨_,rfl⟩
    rw [hL3] at hv3
    subst hv3
    clear hL3
    go_wp2
    go_ret
    unfold RnPost
    rw [hnb,if_neg (by simp),if_neg (by simp),HV.out]
    refine ⟨rfl,_,HS3.out,HP3.out,HO3.out,?_,HF3.out⟩
    rcases HN3.out.1 with e | e
    ·exact .inl e
    exact .inr ⟨_,e,HN3.out.2⟩
   have qy:(((y:Nat):Int) != ((want:Nat):Int))=true:=bne_iff_ne.2 (by omega)
   go_wp2_with fail
   refine HK.out.mono ?_;rintro e w1 ⟨rfl,rfl⟩
   go_wp2_with fail
   refine HNU.out.mono ?_;rintro e w1 ⟨rfl,rfl⟩
   go_wp2
   go_ret
   unfold RnPost
   rw [hnb,if_neg (by simp),if_pos hy]
   exact ⟨rfl,rfl⟩
  have q0:(er != 0)=true:=bne_iff_ne.2 h0
  go_wp2_with fail
  refine HK.out.mono ?_;rintro e w1 ⟨rfl,rfl⟩
  go_wp2_with fail
  refine HNU.out.mono ?_;rintro e w1 ⟨rfl,rfl⟩
  go_wp2
  go_ret
  unfold RnPost
  rw [hnb,if_pos h0]
  exact ⟨rfl,rfl⟩
 rw [if_neg hkn] at HK
 go_wp2_with fail
 refine HK.out.mono ?_;rintro e w1 ⟨rfl,rfl⟩
 go_wp2
 go_ret
 have hkn2:k=n:=by have:=HF.out;omega
 have ht:=HT.out
 rw [hkn2,HH.out.1,List.take_length] at ht
 unfold RnPost
 rw [ht]
 exact ⟨rfl,rfl⟩
open Go.RowKit Box
open Go.RowKit Box
theorem BRow.oneB (w:World) (T:TypeId) (x:UInt8):BRow (w.alloc (.cells #[.int .u8 (x.toNat:Int)] T (0,0))) (w.heap.size+1) (some ⟨w.heap.size,0,none⟩) [x]:=by
 intro _
 refine ⟨w.heap.size,0,rfl,by omega,fun k hk=>?_⟩
 obtain rfl:k=0:=by simpa using hk
 rw [(Pts.new _ _ _).cell];rfl
theorem putGo_len:∀ (f m:Nat),1≤(putGo f m).length∧(putGo f m).length≤f+1
 | 0,m=>by unfold putGo;simp
 | f+1,m=>by
  have:=putGo_len f (m / 128)
  unfold putGo
  by_cases h:m<128
  ·rw [if_pos h];simp
  rw [if_neg h];simp;omega
theorem put_len (m:Nat):1≤(put m).length∧(put m).length≤9:=putGo_len 8 m
theorem low_byte (m:Nat):IntKind.u8.wrap (m:Int)=((m % 256:Nat):Int):=by rw [IntKind.wrap_u8'];omega
theorem or_byte (m:Nat):bits .or .u8 ((m % 256:Nat):Int) 128=((UInt8.ofNat (m % 128+128)).toNat:Int):=by
 have h1:bits .or .u8 ((m % 256:Nat):Int) ((128:Nat):Int)=((m % 256 ||| 128:Nat):Int):=u8_or_nat _ _ (Nat.mod_lt _ (by decide)) (by decide)
 rw [ofNat_toNat (by omega)]
 refine h1.trans ?_
 congr 1
 rcases Nat.lt_or_ge (m % 256) 128 with h | h
 ·have:=Nat.two_pow_add_eq_or_of_lt (i:=7) (b:=m % 256) h 1
  rw [show (2:Nat) ^ 7*1=128 by rfl] at this
  rw [Nat.or_comm,← this];omega
 have h2:=Nat.two_pow_add_eq_or_of_lt (i:=7) (b:=m % 256-128) (by have:(2:Nat) ^ 7=128:=rfl;omega) 1
 rw [show (2:Nat) ^ 7*1=128 by rfl] at h2
 have e:m % 256=128 ||| (m % 256-128):=by omega
 rw [e,Nat.or_comm 128,Nat.or_assoc,Nat.or_self,Nat.or_comm,← h2];omega
theorem last_byte {m:Nat} (h:m<128):IntKind.u8.wrap (m:Int)=((UInt8.ofNat m).toNat:Int):=by rw [low_byte,ofNat_toNat (by omega)];omega
theorem putGo_small {f m:Nat} (h:m<128):putGo f m=[UInt8.ofNat m]:=by
 cases f with
 | zero=>rfl
 | succ f=>unfold putGo;rw [if_pos h]
theorem Tryz.info_byte:(Tryz.prog.info? 5).map (fun i=>(i.zero,i.size,i.bytes))=some (some (.int .u8 0),1,1):=by kernel_rfl
def PutPost (n:Nat) (w:World) (e:Ending) (w':World):Prop :=
 (n<9223372036854775808→∃ v,e=.returned (.tuple #[v,.int .i64 0])∧OwnB w' 5 w.heap.size v (put n))∧(9223372036854775808≤n→e=.returned (.tuple #[.slice none 0 0,.int .i64 2]))∧Below w.heap.size w w'
set_option maxRecDepth 100000 in
set_option maxHeartbeats 2000000 in
theorem putNumber_p (n:Nat) (w:World) (hn:n<18446744073709551616):Calls Tryz.prog 49 #[.int .u64 (n:Int)] w (PutPost n w):=by
 by_cases hbig:9223372036854775808≤n
 ·have hge:decide ((9223372036854775808:Int)≤(n:Int))=true:=decide_eq_true (by omega)
  have hge2:((n:Int) / 9223372036854775808 != 0)=true:=by have:(n:Int) / 9223372036854775808=1:=by omega
                                                          rw [this];rfl
  have HB:=hid hbig
  clear hbig hn
  go_enter Tryz.func49,Tryz.ntmps49
  go_wp2
  refine bodyPost_ret (results_tmp2 rfl _ _ _) rfl ?_
  exact ⟨fun h=>by have:=HB.out;omega,fun _=>rfl,Below.refl _ _⟩
 have hsm:n<9223372036854775808:=by omega
 have h63:((n:Int) / 9223372036854775808)=0:=by omega
 obtain ⟨R,hR⟩:∃ R,put n=R:=⟨_,rfl⟩
 have HPUT:=hid hR
 have hge:decide ((9223372036854775808:Int)≤(n:Int))=false:=decide_eq_false (by omega)
 have HSM:=hid hsm
 clear hR hsm hbig hn
 go_enter Tryz.func49,Tryz.ntmps49
 go_wp2
 go_loopw [0,2] (fun nv bv wr=>∃ (f m:Nat) (o:List UInt8),nv=.int .u64 m∧OwnB wr 5 w.heap.size bv o∧o++putGo f m=R∧m<2 ^ (7*(f+1))∧f≤8∧o.length+f=8∧Below w.heap.size w wr) (fun nv _ _=>(intOf nv).toNat)
 case atStart=>exact ⟨8,n,[],rfl,OwnB.nil _ _ _,HPUT.out,HSM.out,by omega,rfl,Below.refl _ _⟩
 obtain ⟨f,m,o,rfl,hown,ho,hm,hf8,hol,hbe⟩:=hrel
 have OW:=hid hown
 have BE:=hid hbe
 have HO:=hid ho
 have HOL:=hid hol
 have hp56:2 ^ (7*(f+1))≤2 ^ 63:=Nat.pow_le_pow_right (by decide) (by omega)
 have h63':(2:Nat) ^ 63=9223372036854775808:=by decide
 have hm64:m<9223372036854775808:=by omega
 have HM:=hid hm
 clear hown hbe ho hol hm hp56 h63'
 by_cases h:m<128
 ·have hw8:=last_byte h
  rw [putGo_small h] at HO
  obtain ⟨u,hu⟩:∃ u,UInt8.ofNat m=u:=⟨_,rfl⟩
  rw [hu] at hw8 HO
  clear hu
  go_wp2_with (at_builtin;refine wpList_append_bytes _ rfl (.tmp 17) (.tmp 20) 27 rfl 5 w.heap.size Tryz.underlying27 Tryz.info_byte u2 o rfl ?own2 (some ⟨wr.heap.size,0,none⟩) 1 1 (wr.heap.size+1) [u] rfl rfl ?row2 ?len2 ?base2 ?next2)
  case own2=>exact OW.out.alloc _
  case row2=>exact BRow.oneB wr _ u
  case len2=>have:=HOL.out;simp;omega
  case base2=>have:=BE.out.size;simp;omega
  intro v3 w3 hown3 hfrm3 hnew3
  have hb3:Below w.heap.size w w3:=(BE.out.alloc BE.out.size _).trans (hfrm3.below (B:=w.heap.size) (BE.out.alloc BE.out.size _).size (fun q hq=>(OW.out.lt hq).1))
  have B3:=hid hb3
  have O3:=hid hown3
  clear hown3 hfrm3 hnew3 hb3
  go_wp2
  refine bodyPost_ret (results_tmp2 rfl _ _ _) rfl ?_
  refine ⟨fun _=>⟨v3,rfl,?_⟩,fun h=>by have:=HSM.out;omega,B3.out⟩
  have:=O3.out
  rw [HO.out] at this
  rw [HPUT.out]
  exact this
 cases f with
 | zero=>exact absurd HM.out (by show ¬ m<128;exact h)
 | succ f =>
  have hw8:=low_byte m
  have hor:=or_byte m
  have HO2:o++[UInt8.ofNat (m % 128+128)]++putGo f (m / 128)=R:=by
   rw [← HO.out,List.append_assoc];congr 1;conv=>rhs;unfold putGo
   rw [if_neg h];rfl
  have HO3:=hid HO2
  clear HO2
  obtain ⟨y,hy⟩:∃ y,m % 256=y:=⟨_,rfl⟩
  obtain ⟨u,hu⟩:∃ u,UInt8.ofNat (m % 128+128)=u:=⟨_,rfl⟩
  rw [hy] at hw8 hor
  rw [hu] at hor HO3
  have hmm:m / 128<2 ^ (7*(f+1)):=Nat.div_lt_of_lt_mul (by have h9:=HM.out;rw [pow_step (f+1)] at h9;omega)
  have HMM:=hid hmm
  clear hu hy HO hmm
  go_wp2_with (at_builtin;refine wpList_append_bytes _ rfl (.tmp 11) (.tmp 15) 27 rfl 5 w.heap.size Tryz.underlying27 Tryz.info_byte u2 o rfl ?own1 (some ⟨wr.heap.size,0,none⟩) 1 1 (wr.heap.size+1) [u] rfl rfl ?row1 ?len1 ?base1 ?next1)
  case own1=>exact OW.out.alloc _
  case row1=>exact BRow.oneB wr _ u
  case len1=>have:=HOL.out;simp;omega
  case base1=>have:=BE.out.size;simp;omega
  intro v3 w3 hown3 hfrm3 hnew3
  have hb3:Below w.heap.size w w3:=(BE.out.alloc BE.out.size _).trans (hfrm3.below (B:=w.heap.size) (BE.out.alloc BE.out.size _).size (fun q hq=>(OW.out.lt hq).1))
  have B3:=hid hb3
  have O3:=hid hown3
  clear hown3 hfrm3 hnew3 hb3
  go_wp2
  exact ⟨⟨f,m / 128,_,by go_num,O3.out,HO3.out,HMM.out,by omega,by have:=HOL.out;simp;omega,B3.out⟩,by simp [intOf];omega⟩
open Go.RowKit Box
theorem OwnB.of_cells (w:World) (T base:Nat) (bs:List UInt8) (hb:base≤w.heap.size) (hm:bs.length≤maxLen):OwnB (w.alloc (.cells (bs.map byteV).toArray T)) T base (.slice (some ⟨w.heap.size,0,none⟩) bs.length bs.length) bs :=
 ⟨by simp,.inr ⟨w.heap.size,bs.length,(bs.map byteV).toArray,rfl,hb,Pts.new w _ T,Nat.le_refl _,hm,by simp,by simp [List.take_of_length_le]⟩⟩
def four (x:Nat):List UInt8:=[UInt8.ofNat x,UInt8.ofNat (x / 256),UInt8.ofNat (x / 65536),UInt8.ofNat (x / 16777216)]
def sealB (bs:List UInt8):List UInt8:=four (crc32 bs)
theorem byte_of (x:Nat):IntKind.u8.wrap (x:Int)=((UInt8.ofNat x).toNat:Int):=by rw [IntKind.wrap_u8',UInt8.toNat_ofNat'];omega
theorem byte_div (x k:Nat):IntKind.u8.wrap ((x:Int) / k)=((UInt8.ofNat (x / k)).toNat:Int):=by
 rw [show ((x:Int) / k)=((x / k:Nat):Int) by simp];exact byte_of _
set_option maxRecDepth 100000 in
theorem seal_p (A:Option Addr) (bs:List UInt8) (n c:Nat) (w:World) (hn:n=bs.length) (hr:BRow w w.heap.size A bs) (hlen:bs.length≤140737488355328) :
 Calls Tryz.prog 31 #[.slice A n c] w fun e w'=>∃ v,e=.returned v∧OwnB w' 5 w.heap.size v (sealB bs)∧Below w.heap.size w w':=by
 have HR:=hid hr
 have HN:=hid hn
 have HL:=hid hlen
 have hc:=crc32_any A bs n c w hn hr hlen
 obtain ⟨x,hx⟩:∃ x,crc32 bs=x:=⟨_,rfl⟩
 rw [hx] at hc
 have hs:sealB bs=four x:=by unfold sealB;rw [hx]
 rw [hs]
 have HC:=hid hc
 clear hr hn hlen hc hs hx
 go_enter Tryz.func31,Tryz.ntmps31
 go_wp2_with fail
 refine HC.out.mono ?_;rintro r w1 ⟨rfl,hb1⟩
 have O1:∀ T,OwnB (w1.alloc (.cells ((four x).map byteV).toArray T)) T w.heap.size (.slice (some ⟨w1.heap.size,0,none⟩) 4 4) (four x):=fun T=>OwnB.of_cells w1 T _ (four x) hb1.size (by unfold maxLen four;simp)
 have B1:=hid hb1
 have OO:=hid O1
 have g0:=byte_of x
 have g1:IntKind.u8.wrap ((x:Int) / 256)=_:=byte_div x 256
 have g2:IntKind.u8.wrap ((x:Int) / 65536)=_:=byte_div x 65536
 have g3:IntKind.u8.wrap ((x:Int) / 16777216)=_:=byte_div x 16777216
 clear O1 hb1
 go_wp2
 go_ret
 exact ⟨_,rfl,OO.out _,B1.out.alloc B1.out.size _⟩
theorem equal_p (A A':Option Addr) (xs bs:List UInt8) (n c n' c' B:Nat) (w:World) (hn:n=xs.length) (hr:BRow w B A xs) (hn':n'=bs.length) (hr':BRow w B A' bs) :
 Calls Tryz.prog 46 #[.slice A n c,.slice A' n' c'] w fun e w'=>e=.returned (.bool (xs==bs))∧w=w':=by
 have k1:=run_conv_bytes (P:=Tryz.prog) w 27 9 5 Tryz.underlying27 Tryz.underlying5 Tryz.underlying9 A n c _ xs hn hr
 have k2:=run_conv_bytes (P:=Tryz.prog) w 27 9 5 Tryz.underlying27 Tryz.underlying5 Tryz.underlying9 A' n' c' _ bs hn' hr'
 clear hr hr' hn hn'
 go_enter Tryz.func46,Tryz.ntmps46
 go_wp2
 go_ret
 exact ⟨rfl,rfl⟩
open Go.RowKit Box
def sealedB (bs:List UInt8):Bool:=sealB (bs.take (bs.length-4))==bs.drop (bs.length-4)
set_option maxRecDepth 100000 in
set_option maxHeartbeats 1000000 in
theorem sealed_p (A:Option Addr) (bs:List UInt8) (n c:Nat) (w:World) (hn:n=bs.length) (h4:4≤n) (hc:n≤c) (hr:BRow w w.heap.size A bs) (hlen:bs.length≤140737488355328) :
 Calls Tryz.prog 54 #[.slice A n c] w fun e w'=>e=.returned (.bool (sealedB bs))∧Below w.heap.size w w':=by
 obtain ⟨m,hm⟩:∃ m,n-4=m:=⟨_,rfl⟩
 have e1:(n:Int)-4=(m:Int):=by omega
 have hs1:=fun w=>slice_toX A n c m (by omega) hc w
 have hs2:=fun w=>slice_fromX A n c m (by omega) hc w
 obtain ⟨A',hA'⟩:∃ A',(if c=m then A else A.map (·.add m))=A':=⟨_,rfl⟩
 simp only [hA'] at hs2
 have hrd:=hr.drop (k:=m) (cap:=c) (by omega)
 rw [hA'] at hrd
 have hrt:=hr.take m
 obtain ⟨R,hR⟩:∃ R,sealedB bs=R:=⟨_,rfl⟩
 have hR2:=hR
 unfold sealedB at hR2
 rw [← hn,hm] at hR2
 rw [hR]
 obtain ⟨T,hT⟩:∃ T,bs.take m=T:=⟨_,rfl⟩
 obtain ⟨D,hD⟩:∃ D,bs.drop m=D:=⟨_,rfl⟩
 have lT:m=T.length:=by rw [← hT,List.length_take];omega
 have lD:n-m=D.length:=by rw [← hD,List.length_drop];omega
 rw [hT,hD] at hR2
 rw [hT] at hrt
 rw [hD] at hrd
 have hl2:T.length≤140737488355328:=by omega
 have hc0:c-m=c-m:=rfl
 have HT:=hid hrt
 have HD:=hid hrd
 have HR2:=hid hR2
 have LT:=hid lT
 have LD:=hid lD
 have HL:=hid hl2
 obtain ⟨q,hq⟩:∃ q,n-m=q:=⟨_,rfl⟩
 rw [hq] at LD
 simp only [hq] at hs2
 have hS:=seal_p A T m c w.drew LT.out HT.out HL.out
 have HS:=hid hS
 clear hS
 have hwm:IntKind.i64.wrap (m:Int)=(m:Int):=Go.IntWalk.i64_in _ (by omega)
 clear hrt hrd hR2 hR hT hD hl2 lT lD hr hA' hn hlen hc hm hq
 go_enter Tryz.func54,Tryz.ntmps54
 go_wp2
 go_region_with (first
  | (go_at_call 31;refine Calls.mono HS.out ?_;rintro e w1 ⟨v,rfl,hO,hB⟩;obtain ⟨A1,k1,rfl,hc1,hm1,hr1⟩:=hO.slice;have B1:=hid hB;have R1:=hid hr1;clear hO hB hr1 hc1 hm1)
  | (go_at_call 46;(refine Calls.mono (equal_p _ _ (sealB T) D _ _ _ _ w1.heap.size _ rfl R1.out LD.out ((BRow.below (w:=w.drew) HD.out B1.out).more B1.out.size)) ?_;rintro e w' ⟨rfl,rfl⟩)))
 all_goals
  go_wp2
  go_ret
  rw [HR2.out]
  exact ⟨rfl,((Below.refl w.heap.size w).drew).trans B1.out⟩
open Go.RowKit Box
def flagsOk (a b:UInt8):Prop:=a=0∧(b=0∨b=1∨b=4)
instance (a b:UInt8):Decidable (flagsOk a b):=by unfold flagsOk;exact inferInstance
theorem flags_ok (A:Option Addr) (a b:UInt8) (n c B:Nat) (cv:Value) (w:World) (hn:n=2) (hr:BRow w B A [a,b]) (h:flagsOk a b) :
 Calls Tryz.prog 55 #[cv,.slice A n c] w fun e w'=>e=.returned (.int .i64 (b.toNat:Int))∧w=w':=by
 subst hn
 obtain ⟨rfl,hb⟩:=h
 obtain ⟨b0,off,rfl,hb0,hcell⟩:=hr (by simp)
 have k0:w.cell? ⟨b0,off,none⟩=some (.int .u8 0):=hcell 0 (by simp)
 have k1:w.cell? ⟨b0,off+1,none⟩=some (.int .u8 (b.toNat:Int)):=hcell 1 (by simp)
 clear hcell hr
 have hbl:=b.toNat_lt
 rcases hb with rfl | rfl | rfl
 all_goals
  try have k1:w.cell? ⟨b0,off+1,none⟩=some (.int .u8 0):=k1
  try have k1:w.cell? ⟨b0,off+1,none⟩=some (.int .u8 1):=k1
  try have k1:w.cell? ⟨b0,off+1,none⟩=some (.int .u8 4):=k1
  go_enter Tryz.func55,Tryz.ntmps55
  go_wp2_with fail
  refine (must_ok _ _ _).mono ?_;rintro r w1 ⟨rfl,rfl⟩
  go_wp2
  go_ret
  exact ⟨rfl,rfl⟩
theorem nat_ne {a:UInt8} {k:Nat} (hk:k<256) (h:¬ a=UInt8.ofNat k):((a.toNat:Int)==(k:Int))=false:=by
 rw [beq_eq_false_iff_ne]
 intro e
 apply h
 have e2:a.toNat=k:=by omega
 rw [← e2,UInt8.ofNat_toNat]
theorem flags_bad (A:Option Addr) (a b:UInt8) (n c B:Nat) (cv:Value) (w:World) (hn:n=2) (hr:BRow w B A [a,b]) (h:¬ flagsOk a b) :
 Calls Tryz.prog 55 #[cv,.slice A n c] w fun e w'=>e=.panicked [{ v:=.iface 128 (.agg #[.int .i64 12]),recovered:=false }]∧w=w':=by
 subst hn
 obtain ⟨b0,off,rfl,hb0,hcell⟩:=hr (by simp)
 have k0:w.cell? ⟨b0,off,none⟩=some (.int .u8 (a.toNat:Int)):=hcell 0 (by simp)
 have k1:w.cell? ⟨b0,off+1,none⟩=some (.int .u8 (b.toNat:Int)):=hcell 1 (by simp)
 clear hcell hr
 by_cases ha:a=0
 ·have h0:¬ b=UInt8.ofNat 0:=fun e=>h ⟨ha,.inl e⟩
  have h1:¬ b=UInt8.ofNat 1:=fun e=>h ⟨ha,.inr (.inl e)⟩
  have h2:¬ b=UInt8.ofNat 4:=fun e=>h ⟨ha,.inr (.inr e)⟩
  have p0:((b.toNat:Int)==0)=false:=nat_ne (k:=0) (by decide) h0
  have p1:((b.toNat:Int)==1)=false:=nat_ne (k:=1) (by decide) h1
  have p2:((b.toNat:Int)==4)=false:=nat_ne (k:=4) (by decide) h2
  subst ha
  have k0:w.cell? ⟨b0,off,none⟩=some (.int .u8 0):=k0
  generalize b.toNat=B1 at *
  clear h h0 h1 h2
  go_enter Tryz.func55,Tryz.ntmps55
  go_wp2_with fail
  refine (must_bad _ _ _).mono ?_;rintro r w1 ⟨rfl,rfl⟩
  go_wp2
  exact ⟨rfl,rfl,rfl⟩
 have p0:((a.toNat:Int)==0)=false:=nat_ne (k:=0) (by decide) ha
 clear h ha
 generalize a.toNat=A1 at *
 generalize b.toNat=B1 at *
 go_enter Tryz.func55,Tryz.ntmps55
 go_wp2_with fail
 refine (must_bad _ _ _).mono ?_;rintro r w1 ⟨rfl,rfl⟩
 go_wp2
 exact ⟨rfl,rfl,rfl⟩
open Go.RowKit Box
def magic:List UInt8:=[253,55,122,88,90,0]
def headOf (bs:List UInt8):Int×Int :=
 if bs.length<12 then (0,10)
 else if ¬ ((bs.take 6==magic)=true∧sealedB ((bs.take 12).drop 6)=true) then (0,11)
 else if ¬ flagsOk (bs.getD 6 0) (bs.getD 7 0) then (0,12)
 else (((bs.getD 7 0).toNat:Int),0)
def checkV (p:Int×Int):Value:=.tuple #[.int .i64 p.1,.int .i64 p.2]
theorem CurAt.fresh {w:World} {B:Nat} {A:Option Addr} {bs:List UInt8} {c:Nat} (w0:World) (hc:bs.length≤c) (hm:c≤maxLen) (hr:BRow w0 B A bs) (hb:Below B w0 w) (hB:B≤w.heap.size) :
 CurAt (w.alloc (.cells #[.slice A bs.length c,.int .i64 0] 96)) w.heap.size B bs 0 :=
 ⟨A,c,Pts.new w _ _,(hr.below hb).below ((Below.refl B w).alloc hB _),hc,hm,hB⟩
theorem slice_midX (A:Option Addr) (n c f t:Nat) (h1:f≤t) (h2:t≤n) (hn:n≤c) (hf:f<c) (w:World) :
 (Instr.sliceAt 27 (.slice A n c) (some (.int .i64 (f:Int))) (some (.int .i64 (t:Int))) none).run Tryz.prog w=.ok (.slice (A.map (·.add f)) (t-f) (c-f)) w:=by
 have hcf:¬ c=f:=by omega
 simp [go_sem,hcf]
 rw [if_pos (by omega),if_pos h1]
theorem mid_two {l:List UInt8} {f:Nat} (h:f+2≤l.length):(l.drop f).take 2=[l.getD f 0,l.getD (f+1) 0]:=by
 rw [List.drop_eq_getElem_cons (by omega),List.drop_eq_getElem_cons (by omega)]
 have e1:l.getD f 0=l[f]:=by simp [List.getD,List.getElem?_eq_getElem (show f<l.length by omega)]
 have e2:l.getD (f+1) 0=l[f+1]:=by simp [List.getD,List.getElem?_eq_getElem (show f+1<l.length by omega)]
 rw [e1,e2];rfl
theorem BRow.mid {w:World} {B c f t:Nat} {A:Option Addr} {bs:List UInt8} (h:BRow w B A bs) (hc:bs.length≤c) (hf:f<c):BRow w B (A.map (·.add f)) ((bs.drop f).take t):=by
 have:=(h.drop (k:=f) (cap:=c) hc).take t
 rw [if_neg (by omega)] at this
 exact this
set_option maxRecDepth 100000 in
set_option maxHeartbeats 1000000 in
theorem head_p (A:Option Addr) (bs:List UInt8) (n c:Nat) (w:World) (hn:n=bs.length) (hc:n≤c) (hcm:c≤maxLen) (hr:BRow w w.heap.size A bs) (hlen:bs.length≤maxLen) :
 Calls Tryz.prog 33 #[.slice A n c] w fun e w'=>e=.returned (checkV (headOf bs))∧Below w.heap.size w w':=by
 subst hn
 have P0:Pts (w.alloc (.cells #[.int .i64 0] 32)) w.heap.size #[.int .i64 0] 32:=Pts.new w _ _
 have hcur:=CurAt.fresh (w:=w.alloc (.cells #[.int .i64 0] 32)) w hc hcm hr ((Below.refl _ w).alloc (Nat.le_refl _) _) (by simp)
 have P1:=P0.alloc (.cells #[.slice A bs.length c,.int .i64 0] 96)
 have hsz:(w.alloc (.cells #[.int .i64 0] 32)).heap.size=w.heap.size+1:=by show (w.heap.push _).size=_;rw [Array.size_push]
 have F1:Below w.heap.size w ((w.alloc (.cells #[.int .i64 0] 32)).alloc (.cells #[.slice A bs.length c,.int .i64 0] 96)):=((Below.refl _ w).alloc (Nat.le_refl _) _).alloc (by rw [hsz];omega) _
 rw [hsz] at hcur
 obtain ⟨w1,hw1⟩:∃ w1,(w.alloc (.cells #[.int .i64 0] 32)).alloc (.cells #[.slice A bs.length c,.int .i64 0] 96)=w1:=⟨_,rfl⟩
 rw [hw1] at P1 hcur F1
 have PP1:=hid P1
 have CC:=hid hcur
 have FF1:=hid F1
 clear P0 P1 hcur F1 hr
 by_cases h12:bs.length<12
 ·have HH:=hid h12
  have hh:headOf bs=(0,10):=by unfold headOf;rw [if_pos h12]
  rw [hh]
  clear h12 hh
  go_enter_defers Tryz.func33,Tryz.ntmps33
  go_wp2_with fail
  refine (take_bad (w.heap.size+1) w.heap.size 12 0 10 bs w1 CC.out HH.out).mono ?_;rintro r w2 ⟨rfl,rfl⟩
  go_wp2
  refine leaves_cons (f:=51) (args:=#[.pointer (some ⟨w.heap.size,0,none⟩)]) (by simp) (by simp [go_sem]) ?_
  refine (catch_panicking w.heap.size 10 0 _ _ PP1.out).mono ?_
  rintro e u' w'' ⟨rfl,rfl,hp,hf⟩
  have c0:=hp.cell 0
  have hbel:Below w.heap.size w w'':=(FF1.out).trans (hf.below (FF1.out).size (fun k hk=>by omega))
  simp [Leaves,settle,results,Tryz.results33,go_sem,c0,checkV,hbel]
 have hge:12≤bs.length:=by omega
 have HGE:=hid hge
 have lH:(bs.take 12).length=12:=by rw [List.length_take];omega
 obtain ⟨H,hH⟩:∃ H,bs.take 12=H:=⟨_,rfl⟩
 have e6:bs.take 6=H.take 6:=by rw [← hH,List.take_take];rfl
 have hg:∀ k,k<12→bs.getD k 0=H.getD k 0:=fun k hk=>by rw [← hH];simp only [List.getD,List.getElem?_take];rw [if_pos hk]
 have hh0:headOf bs=(if ¬ ((H.take 6==magic)=true∧sealedB (H.drop 6)=true) then (0,11) else if ¬ flagsOk (H.getD 6 0) (H.getD 7 0) then (0,12) else (((H.getD 7 0).toNat:Int),0):Int×Int):=by
  unfold headOf;rw [if_neg h12,e6,hH,hg 6 (by decide),hg 7 (by decide)]
 rw [hH] at lH
 have hS1:∀ (A:Option Addr) (c2:Nat),12≤c2→∀ w,(Instr.sliceAt 27 (.slice A 12 c2) none (some (.int .i64 6)) none).run Tryz.prog w=.ok (.slice A 6 c2) w:=fun A c2 h w=>slice_toX A 12 c2 6 (by decide) h w
 have hS2:∀ (A:Option Addr) (c2:Nat),12≤c2→∀ w,(Instr.sliceAt 27 (.slice A 12 c2) (some (.int .i64 6)) none none).run Tryz.prog w=.ok (.slice (A.map (·.add 6)) 6 (c2-6)) w:=fun A c2 h w=>by
  have:=slice_fromX A 12 c2 6 (by decide) h w
  rw [if_neg (by omega)] at this
  exact this
 have hS3:∀ (A:Option Addr) (c2:Nat),12≤c2→∀ w,(Instr.sliceAt 27 (.slice A 12 c2) (some (.int .i64 6)) (some (.int .i64 8)) none).run Tryz.prog w=.ok (.slice (A.map (·.add 6)) 2 (c2-6)) w:=fun A c2 h w=>slice_midX A 12 c2 6 8 (by decide) (by decide) h (by omega) w
 have lT:6=(H.take 6).length:=by rw [List.length_take];omega
 have lD:6=(H.drop 6).length:=by rw [List.length_drop];omega
 have hmt:(H.drop 6).take 2=[H.getD 6 0,H.getD 7 0]:=mid_two (by omega)
 have LT:=hid lT
 have LD:=hid lD
 have LH:=hid lH
 have HH:=hid hH
 have HMT:=hid hmt
 have hD140:(H.drop 6).length≤140737488355328:=by omega
 have H140:=hid hD140
 have hcb:=hcm
 clear lT lD hH h12 e6 hg hge hlen lH hmt hD140
 rw [hh0]
 clear hh0
 by_cases hmag:H.take 6=magic
 ·have hmt2:(H.take 6==magic)=true:=beq_iff_eq.2 hmag
  have HMAG:=hid hmag
  by_cases hse:sealedB (H.drop 6)=true
  ·rw [if_neg (fun h=>h ⟨hmt2,hse⟩)]
   by_cases hfl:flagsOk (H.getD 6 0) (H.getD 7 0)
   ·rw [if_neg (fun h=>h hfl)]
    have HFL:=hid hfl
    obtain ⟨ck,hck⟩:∃ ck,H.getD 7 0=ck:=⟨_,rfl⟩
    obtain ⟨ck6,hck6⟩:∃ ck,H.getD 6 0=ck:=⟨_,rfl⟩
    rw [hck,hck6] at HMT HFL
    rw [hck]
    clear hmt2 hmag hfl hck hck6
    go_enter_defers Tryz.func33,Tryz.ntmps33
    go_wp2_with fail
    refine (take_ok (w.heap.size+1) w.heap.size 12 0 10 bs w1 CC.out HGE.out (by decide)).mono ?_;rintro r w2 ⟨A2,c2,rfl,hr2,hc2,hm2,hcur2,hf2⟩
    rw [HH.out] at hr2
    have P2:=hid (PP1.out.frm hf2 (by omega))
    have B2:=hid (FF1.out.trans (hf2.below FF1.out.size (fun k hk=>by omega)))
    have hs1:=hS1 A2 c2 hc2
    have hs2:=hS2 A2 c2 hc2
    have hs3:=hS3 A2 c2 hc2
    have k1:=run_conv_bytes (P:=Tryz.prog) w2 27 9 5 Tryz.underlying27 Tryz.underlying5 Tryz.underlying9 A2 6 c2 _ (H.take 6) LT.out (hr2.take 6)
    rw [HMAG.out] at k1
    have hrd:=hr2.drop (k:=6) (cap:=c2) (by rw [LH.out];exact hc2)
    rw [if_neg (by omega)] at hrd
    have RD:=hid hrd
    have RM:=hid (hr2.mid (f:=6) (t:=2) (by rw [LH.out];exact hc2) (by omega))
    have hc6:6≤c2-6:=by omega
    have HC6:=hid hc6
    clear hr2 hc2 hm2 hcur2 hS1 hS2 hS3 hf2 hrd hc6
    go_wp2_with fail
    refine (sealed_p _ (H.drop 6) 6 _ w2 LD.out (by decide) HC6.out (RD.out.more B2.out.size) H140.out).mono ?_;rintro r w3 ⟨rfl,hb3⟩
    rw [hse]
    have P3:=hid (P2.out.below hb3 P2.out.lt)
    have B3:=hid (B2.out.trans (hb3.mono B2.out.size))
    have RF:=hid (HMT.out▸(RM.out.below (hb3.mono B2.out.size)))
    clear hb3
    go_wp2_with fail
    refine (must_ok _ _ _).mono ?_;rintro r w4 ⟨rfl,rfl⟩
    go_wp2_with fail
    refine (flags_ok _ ck6 ck 2 _ w.heap.size _ w3 rfl RF.out HFL.out).mono ?_;rintro r w4 ⟨rfl,rfl⟩
    have c30:=P3.out.cell 0
    have z30:=P3.out.frozen 0
    have c31:=(P3.out.set 0 (.int .i64 0)).cell 0
    have hbel:=B3.out.setCell (p:=⟨w.heap.size,0,none⟩) (Nat.le_refl _) (.int .i64 0)
    have HC31:=hid c31
    have HBEL:=hid hbel
    clear c31 hbel
    go_wp2
    refine leaves_cons (f:=51) (args:=#[.pointer (some ⟨w.heap.size,0,none⟩)]) (by simp) (by simp [go_sem]) ?_
    refine (catch_idle _ _).mono ?_
    rintro e u' w'' ⟨rfl,rfl,rfl⟩
    have c31:=HC31.out
    have hbel:=HBEL.out
    simp [Leaves,settle,results,Tryz.results33,go_sem,checkV,c30]
    exact hbel
   rw [if_pos hfl]
   have HFL:=hid hfl
   obtain ⟨ck,hck⟩:∃ ck,H.getD 7 0=ck:=⟨_,rfl⟩
   obtain ⟨ck6,hck6⟩:∃ ck,H.getD 6 0=ck:=⟨_,rfl⟩
   rw [hck,hck6] at HMT HFL
   clear hmt2 hmag hfl hck hck6
   go_enter_defers Tryz.func33,Tryz.ntmps33
   go_wp2_with fail
   refine (take_ok (w.heap.size+1) w.heap.size 12 0 10 bs w1 CC.out HGE.out (by decide)).mono ?_;rintro r w2 ⟨A2,c2,rfl,hr2,hc2,hm2,hcur2,hf2⟩
   rw [HH.out] at hr2
   have P2:=hid (PP1.out.frm hf2 (by omega))
   have B2:=hid (FF1.out.trans (hf2.below FF1.out.size (fun k hk=>by omega)))
   have hs1:=hS1 A2 c2 hc2
   have hs2:=hS2 A2 c2 hc2
   have hs3:=hS3 A2 c2 hc2
   have k1:=run_conv_bytes (P:=Tryz.prog) w2 27 9 5 Tryz.underlying27 Tryz.underlying5 Tryz.underlying9 A2 6 c2 _ (H.take 6) LT.out (hr2.take 6)
   rw [HMAG.out] at k1
   have hrd:=hr2.drop (k:=6) (cap:=c2) (by rw [LH.out];exact hc2)
   rw [if_neg (by omega)] at hrd
   have RD:=hid hrd
   have RM:=hid (hr2.mid (f:=6) (t:=2) (by rw [LH.out];exact hc2) (by omega))
   have hc6:6≤c2-6:=by omega
   have HC6:=hid hc6
   clear hr2 hc2 hm2 hcur2 hS1 hS2 hS3 hf2 hrd hc6
   go_wp2_with fail
   refine (sealed_p _ (H.drop 6) 6 _ w2 LD.out (by decide) HC6.out (RD.out.more B2.out.size) H140.out).mono ?_;rintro r w3 ⟨rfl,hb3⟩
   rw [hse]
   have P3:=hid (P2.out.below hb3 P2.out.lt)
   have B3:=hid (B2.out.trans (hb3.mono B2.out.size))
   have RF:=hid (HMT.out▸(RM.out.below (hb3.mono B2.out.size)))
   clear hb3
   go_wp2_with fail
   refine (must_ok _ _ _).mono ?_;rintro r w4 ⟨rfl,rfl⟩
   go_wp2_with fail
   refine (flags_bad _ ck6 ck 2 _ w.heap.size _ w3 rfl RF.out HFL.out).mono ?_;rintro r w4 ⟨rfl,rfl⟩
   go_wp2
   refine leaves_cons (f:=51) (args:=#[.pointer (some ⟨w.heap.size,0,none⟩)]) (by simp) (by simp [go_sem]) ?_
   refine (catch_panicking w.heap.size 12 0 _ _ P3.out).mono ?_
   rintro e u' w'' ⟨rfl,rfl,hp,hf⟩
   have c0:=hp.cell 0
   have hbel:Below w.heap.size w w'':=(B3.out).trans (hf.below (B3.out).size (fun k hk=>by omega))
   simp [Leaves,settle,results,Tryz.results33,go_sem,c0,checkV,hbel]
  have hse:sealedB (H.drop 6)=false:=by simpa using hse
  rw [if_pos (fun h=>by rw [hse] at h;cases h.2)]
  clear hmt2 hmag
  go_enter_defers Tryz.func33,Tryz.ntmps33
  go_wp2_with fail
  refine (take_ok (w.heap.size+1) w.heap.size 12 0 10 bs w1 CC.out HGE.out (by decide)).mono ?_;rintro r w2 ⟨A2,c2,rfl,hr2,hc2,hm2,hcur2,hf2⟩
  rw [HH.out] at hr2
  have P2:=hid (PP1.out.frm hf2 (by omega))
  have B2:=hid (FF1.out.trans (hf2.below FF1.out.size (fun k hk=>by omega)))
  have hs1:=hS1 A2 c2 hc2
  have hs2:=hS2 A2 c2 hc2
  have hs3:=hS3 A2 c2 hc2
  have k1:=run_conv_bytes (P:=Tryz.prog) w2 27 9 5 Tryz.underlying27 Tryz.underlying5 Tryz.underlying9 A2 6 c2 _ (H.take 6) LT.out (hr2.take 6)
  rw [HMAG.out] at k1
  have hrd:=hr2.drop (k:=6) (cap:=c2) (by rw [LH.out];exact hc2)
  rw [if_neg (by omega)] at hrd
  have RD:=hid hrd
  have RM:=hid (hr2.mid (f:=6) (t:=2) (by rw [LH.out];exact hc2) (by omega))
  have hc6:6≤c2-6:=by omega
  have HC6:=hid hc6
  clear hr2 hc2 hm2 hcur2 hS1 hS2 hS3 hf2 hrd hc6
  go_wp2_with fail
  refine (sealed_p _ (H.drop 6) 6 _ w2 LD.out (by decide) HC6.out (RD.out.more B2.out.size) H140.out).mono ?_;rintro r w3 ⟨rfl,hb3⟩
  rw [hse]
  have P3:=hid (P2.out.below hb3 P2.out.lt)
  have B3:=hid (B2.out.trans (hb3.mono B2.out.size))
  have RF:=hid (HMT.out▸(RM.out.below (hb3.mono B2.out.size)))
  clear hb3
  go_wp2_with fail
  refine (must_bad _ _ _).mono ?_;rintro r w4 ⟨rfl,rfl⟩
  go_wp2
  refine leaves_cons (f:=51) (args:=#[.pointer (some ⟨w.heap.size,0,none⟩)]) (by simp) (by simp [go_sem]) ?_
  refine (catch_panicking w.heap.size 11 0 _ _ P3.out).mono ?_
  rintro e u' w'' ⟨rfl,rfl,hp,hf⟩
  have c0:=hp.cell 0
  have hbel:Below w.heap.size w w'':=(B3.out).trans (hf.below (B3.out).size (fun k hk=>by omega))
  simp [Leaves,settle,results,Tryz.results33,go_sem,c0,checkV,hbel]
 rw [if_pos (fun h=>hmag (beq_iff_eq.1 h.1))]
 have hmq:(H.take 6==([253,55,122,88,90,0]:List UInt8))=false:=beq_eq_false_iff_ne.2 hmag
 clear hmag hS2 hS3
 go_enter_defers Tryz.func33,Tryz.ntmps33
 go_wp2_with fail
 refine (take_ok (w.heap.size+1) w.heap.size 12 0 10 bs w1 CC.out HGE.out (by decide)).mono ?_;rintro r w2 ⟨A2,c2,rfl,hr2,hc2,hm2,hcur2,hf2⟩
 rw [HH.out] at hr2
 have P2:=hid (PP1.out.frm hf2 (by omega))
 have B2:=hid (FF1.out.trans (hf2.below FF1.out.size (fun k hk=>by omega)))
 have hs1:=hS1 A2 c2 hc2
 have k1:=run_conv_bytes (P:=Tryz.prog) w2 27 9 5 Tryz.underlying27 Tryz.underlying5 Tryz.underlying9 A2 6 c2 _ (H.take 6) LT.out (hr2.take 6)
 clear hr2 hc2 hm2 hcur2 hS1 hf2
 go_wp2_with fail
 refine (must_bad _ _ _).mono ?_;rintro r w4 ⟨rfl,rfl⟩
 go_wp2
 refine leaves_cons (f:=51) (args:=#[.pointer (some ⟨w.heap.size,0,none⟩)]) (by simp) (by simp [go_sem]) ?_
 refine (catch_panicking w.heap.size 11 0 _ _ P2.out).mono ?_
 rintro e u' w'' ⟨rfl,rfl,hp,hf⟩
 have c0:=hp.cell 0
 have hbel:Below w.heap.size w w'':=(B2.out).trans (hf.below (B2.out).size (fun k hk=>by omega))
 simp [Leaves,settle,results,Tryz.results33,go_sem,c0,checkV,hbel]
open Go.RowKit Box
end Go.Proofs.YtablgjhnpphodaaGreat
namespace Go.Proofs.YtablgjhnpphodaaGreat.Pan
def Kept (l:List Value) (ds:List Deferred) (a:Act):Prop:=a.tmps.toList.take l.length=l∧a.defers=ds
theorem Kept.unput {l:List Value} {ds:List Deferred} {a:Act} {d:Nat} {v:Value} (h:Kept l ds (a.put (some d) v)) (hd:l.length≤d):Kept l ds a:=by
 obtain ⟨h1,h2⟩:=h
 refine ⟨?_,h2⟩
 have e:(a.put (some d) v).tmps=a.tmps.setIfInBounds d v:=rfl
 rw [e,Array.toList_setIfInBounds,List.take_set_of_le hd] at h1
 exact h1
theorem Kept.get {l:List Value} {ds:List Deferred} {a:Act} (h:Kept l ds a) (i:Nat) (hi:i<l.length):a.tmps[i]?=l[i]?:=by
 have h1:=congrArg (fun l=>l[i]?) h.1
 simp only [List.getElem?_take,hi,if_true,Array.getElem?_toList] at h1
 exact h1
def OnlyPanic (c0:List PanicEntry) (S:World→Prop) (l:List Value) (ds:List Deferred):Exit→Act→World→Prop
 | .panic c,a,w=>c=c0∧S w∧Kept l ds a
 | _,_,_=>False
theorem wp_only_panic {P:Program} {id:Nat} {ops:Array Oper} {b:Bool} {Q:Exit→Act→World→Prop} {a:Act} {w:World} (c0:List PanicEntry) (S:World→Prop) (l:List Value) (ds:List Deferred)
 (hQ:∀ a w,S w→Kept l ds a→Q (.panic c0) a w) (h:(Code.region id ops b).wp P (OnlyPanic c0 S l ds) a w):(Code.region id ops b).wp P Q a w :=
 Code.wp_mono (fun e a w h=>by
  cases e <;> first
   | exact (h:False).elim
   | (obtain ⟨rfl,h2,h3⟩:=h;exact hQ _ _ h2 h3)) h
end Go.Proofs.YtablgjhnpphodaaGreat.Pan
namespace Go.Proofs.YtablgjhnpphodaaGreat
open Lib (hid)
open Go.RowKit Box
def hiNum (l:List UInt8):Nat→Nat
 | 0=>0
 | k+1=>hiNum l k*256+(l.getD (7-k) 0).toNat
theorem hiNum_lt (l:List UInt8):∀ k,hiNum l k<256 ^ k
 | 0=>by unfold hiNum;decide
 | k+1=>by
  have h:=hiNum_lt l k
  have h2:=(l.getD (7-k) 0).toNat_lt
  unfold hiNum
  rw [Nat.pow_succ]
  omega
theorem or_hi {n x:Nat} (hn:n<72057594037927936) (hx:x<256):bits .or .u64 ((n*256:Nat):Int) (x:Int)=((n*256+x:Nat):Int):=by
 have h1:=Num.or64 (a:=n*256) (b:=x) (by unfold Num.M64;omega) (by unfold Num.M64;omega)
 rw [h1]
 have h3:=Nat.shiftLeft_add_eq_or_of_lt (a:=n) (b:=x) (i:=8) hx
 rw [Nat.shiftLeft_eq] at h3
 rw [← h3]
def footOf (bs:List UInt8):Int×Nat×Int :=
 if bs.length<12 then (0,0,10)
 else if ¬ ((sealB ((bs.drop 4).take 6)==bs.take 4)=true∧((bs.take 12).drop 10==([89,90]:List UInt8))=true) then (0,0,11)
 else if ¬ flagsOk (bs.getD 8 0) (bs.getD 9 0) then (0,0,12)
 else (((bs.getD 9 0).toNat:Int),(hiNum bs 4+1)*4,0)
def footV (p:Int×Nat×Int):Value:=.tuple #[.int .i64 p.1,.int .u64 (p.2.1:Int),.int .i64 p.2.2]
theorem foot_bad1 {S T D:List UInt8} {F0 F1:UInt8} {N:Nat} {R:Int×Nat×Int} (h:(if ¬ ((sealB S==T)=true∧(D==([89,90]:List UInt8))=true) then (0,0,11) else if ¬ flagsOk F0 F1 then (0,0,12) else ((F1.toNat:Int),N,0))=R)
 (h1:(sealB S==T)=false∨(D==([89,90]:List UInt8))=false):R=(0,0,11):=by
 rw [if_pos (fun h=>by rcases h1 with h1 | h1;· rw [h1] at h;cases h.1
                       rw [h1] at h;cases h.2)] at h
 exact h.symm
set_option maxRecDepth 100000 in
set_option maxHeartbeats 1000000 in
theorem foot_p (A:Option Addr) (bs:List UInt8) (n c:Nat) (w:World) (hn:n=bs.length) (hc:n≤c) (hcm:c≤maxLen) (hr:BRow w w.heap.size A bs) (hlen:bs.length≤maxLen) :
 Calls Tryz.prog 44 #[.slice A n c] w fun e w'=>e=.returned (footV (footOf bs))∧Below w.heap.size w w':=by
 subst hn
 have P0:Pts (w.alloc (.cells #[.int .i64 0] 32)) w.heap.size #[.int .i64 0] 32:=Pts.new w _ _
 have hcur:=CurAt.fresh (w:=w.alloc (.cells #[.int .i64 0] 32)) w hc hcm hr ((Below.refl _ w).alloc (Nat.le_refl _) _) (by simp)
 have P1:=P0.alloc (.cells #[.slice A bs.length c,.int .i64 0] 96)
 have hsz:(w.alloc (.cells #[.int .i64 0] 32)).heap.size=w.heap.size+1:=by show (w.heap.push _).size=_;rw [Array.size_push]
 have F1:Below w.heap.size w ((w.alloc (.cells #[.int .i64 0] 32)).alloc (.cells #[.slice A bs.length c,.int .i64 0] 96)):=((Below.refl _ w).alloc (Nat.le_refl _) _).alloc (by rw [hsz];omega) _
 rw [hsz] at hcur
 obtain ⟨w1,hw1⟩:∃ w1,(w.alloc (.cells #[.int .i64 0] 32)).alloc (.cells #[.slice A bs.length c,.int .i64 0] 96)=w1:=⟨_,rfl⟩
 rw [hw1] at P1 hcur F1
 have PP1:=hid P1
 have CC:=hid hcur
 have FF1:=hid F1
 clear P0 P1 hcur F1 hr
 by_cases h12:bs.length<12
 ·have HH:=hid h12
  have hh:footOf bs=(0,0,10):=by unfold footOf;rw [if_pos h12]
  rw [hh]
  clear h12 hh
  go_enter_defers Tryz.func44,Tryz.ntmps44
  go_wp2_with fail
  refine (take_bad (w.heap.size+1) w.heap.size 12 0 10 bs w1 CC.out HH.out).mono ?_;rintro r w2 ⟨rfl,rfl⟩
  go_wp2
  refine leaves_cons (f:=51) (args:=#[.pointer (some ⟨w.heap.size,0,none⟩)]) (by simp) (by simp [go_sem]) ?_
  refine (catch_panicking w.heap.size 10 0 _ _ PP1.out).mono ?_
  rintro e u' w'' ⟨rfl,rfl,hp,hf⟩
  have c0:=hp.cell 0
  have hbel:Below w.heap.size w w'':=(FF1.out).trans (hf.below (FF1.out).size (fun k hk=>by omega))
  simp [Leaves,settle,results,Tryz.results44,go_sem,c0,footV,hbel]
 have hge:12≤bs.length:=by omega
 have HGE:=hid hge
 have lH:(bs.take 12).length=12:=by rw [List.length_take];omega
 obtain ⟨H,hH⟩:∃ H,bs.take 12=H:=⟨_,rfl⟩
 have hg:∀ k,k<12→bs.getD k 0=H.getD k 0:=fun k hk=>by rw [← hH];simp only [List.getD,List.getElem?_take];rw [if_pos hk]
 have e4:bs.take 4=H.take 4:=by rw [← hH,List.take_take];rfl
 have e10:(bs.drop 4).take 6=(H.drop 4).take 6:=by rw [← hH,List.drop_take,List.take_take];rfl
 have hhi:hiNum bs 4=hiNum H 4:=by simp only [hiNum];rw [hg 7 (by decide),hg 6 (by decide),hg 5 (by decide),hg 4 (by decide)]
 obtain ⟨R,hR⟩:∃ R,footOf bs=R:=⟨_,rfl⟩
 have hh0:=hR
 unfold footOf at hh0
 rw [if_neg h12,e4,hH,e10,hg 8 (by decide),hg 9 (by decide),hhi] at hh0
 rw [hR]
 rw [hH] at lH
 obtain ⟨S,hS⟩:∃ S,(H.drop 4).take 6=S:=⟨_,rfl⟩
 obtain ⟨T,hT⟩:∃ T,H.take 4=T:=⟨_,rfl⟩
 obtain ⟨D,hD⟩:∃ D,H.drop 10=D:=⟨_,rfl⟩
 have lS:6=S.length:=by rw [← hS,List.length_take,List.length_drop];omega
 have lT:4=T.length:=by rw [← hT,List.length_take];omega
 have lD:2=D.length:=by rw [← hD,List.length_drop];omega
 have hmt:(H.drop 8).take 2=[H.getD 8 0,H.getD 9 0]:=mid_two (by omega)
 rw [hS,hT,hD] at hh0
 obtain ⟨F0,hF0⟩:∃ F,H.getD 8 0=F:=⟨_,rfl⟩
 obtain ⟨F1,hF1⟩:∃ F,H.getD 9 0=F:=⟨_,rfl⟩
 rw [hF0,hF1] at hmt hh0
 have LS:=hid lS
 have LT:=hid lT
 have LD:=hid lD
 have LH:=hid lH
 have HH:=hid hH
 have HMT:=hid hmt
 have HSS:=hid hS
 have HTT:=hid hT
 have HDD:=hid hD
 have HR:=hid hh0
 clear lS lT lD hH h12 hg hge lH hmt e4 e10 hhi hR hh0 hS hT hD hF0 hF1 hlen
 by_cases hse:(sealB S==T)=true
 ·by_cases hy:D=[89,90]
  ·have hR:=HR.out
   have hyt:(D==([89,90]:List UInt8))=true:=beq_iff_eq.2 hy
   rw [if_neg (fun h=>h ⟨hse,hyt⟩)] at hR
   have HY:=hid hy
   clear HR hy hyt
   by_cases hfl:flagsOk F0 F1
   ·rw [if_neg (fun h=>h hfl)] at hR
    subst hR
    have HFL:=hid hfl
    clear hfl
    go_enter_defers Tryz.func44,Tryz.ntmps44
    go_wp2_with fail
    refine (take_ok (w.heap.size+1) w.heap.size 12 0 10 bs w1 CC.out HGE.out (by decide)).mono ?_;rintro r w2 ⟨A2,c2,rfl,hr2,hc2,hm2,hcur2,hf2⟩
    rw [HH.out] at hr2
    have P2:=hid (PP1.out.frm hf2 (by omega))
    have B2:=hid (FF1.out.trans (hf2.below FF1.out.size (fun k hk=>by omega)))
    have hs1:∀ w,(Instr.sliceAt 27 (.slice A2 12 c2) (some (.int .i64 4)) (some (.int .i64 10)) none).run Tryz.prog w=.ok (.slice (A2.map (·.add 4)) 6 (c2-4)) w:=fun w=>slice_midX A2 12 c2 4 10 (by decide) (by decide) hc2 (by omega) w
    have hs2:∀ w,(Instr.sliceAt 27 (.slice A2 12 c2) none (some (.int .i64 4)) none).run Tryz.prog w=.ok (.slice A2 4 c2) w:=fun w=>slice_toX A2 12 c2 4 (by decide) hc2 w
    have hs3:∀ w,(Instr.sliceAt 27 (.slice A2 12 c2) (some (.int .i64 8)) (some (.int .i64 10)) none).run Tryz.prog w=.ok (.slice (A2.map (·.add 8)) 2 (c2-8)) w:=fun w=>slice_midX A2 12 c2 8 10 (by decide) (by decide) hc2 (by omega) w
    have hs4:∀ w,(Instr.sliceAt 27 (.slice A2 12 c2) (some (.int .i64 10)) none none).run Tryz.prog w=.ok (.slice (A2.map (·.add 10)) 2 (c2-10)) w:=fun w=>by
     have:=slice_fromX A2 12 c2 10 (by decide) hc2 w
     rw [if_neg (by omega)] at this
     exact this
    obtain ⟨A4,hA4⟩:∃ A4,A2.map (·.add 4)=A4:=⟨_,rfl⟩
    obtain ⟨A8,hA8⟩:∃ A8,A2.map (·.add 8)=A8:=⟨_,rfl⟩
    obtain ⟨A10,hA10⟩:∃ A10,A2.map (·.add 10)=A10:=⟨_,rfl⟩
    have hrs:=hr2.mid (f:=4) (t:=6) (c:=c2) (by rw [LH.out];exact hc2) (by omega)
    rw [HSS.out] at hrs
    have hrt:=hr2.take 4
    rw [HTT.out] at hrt
    have hrd:=hr2.mid (f:=10) (t:=2) (c:=c2) (by rw [LH.out];exact hc2) (by omega)
    rw [HDD.out,List.take_of_length_le (by rw [← LD.out];decide)] at hrd
    have hrf:=hr2.mid (f:=8) (t:=2) (c:=c2) (by rw [LH.out];exact hc2) (by omega)
    rw [HMT.out] at hrf
    rw [hA4] at hs1 hrs
    rw [hA8] at hs3 hrf
    rw [hA10] at hs4 hrd
    have RT:=hid hrt
    have RD:=hid hrd
    have RF2:=hid hrf
    have RA2:=hid hr2
    have HSE:=hid (seal_p A4 S 6 (c2-4) w2.drew LS.out (hrs.more B2.out.size) (by rw [← LS.out];decide))
    clear hr2 hc2 hm2 hcur2 hf2 hrs hrt hrd hrf hA4 hA8 hA10
    go_wp2
    refine wp_region_noPanic ?_
    go_region_with (first
     | (go_at_call 31;refine Calls.mono HSE.out ?_;rintro e w3 ⟨v,rfl,hO,hB⟩;obtain ⟨A3,k3,rfl,hc3,hm3,hr3⟩:=hO.slice;have BS:=hid hB;have R3:=hid hr3;have hb3:Below w.heap.size w2 w3:=((Below.refl _ w2).drew).trans (hB.mono B2.out.size);have BB3:=hid hb3;have k1:=run_conv_bytes (P:=Tryz.prog) w3 27 9 5 Tryz.underlying27 Tryz.underlying5 Tryz.underlying9 A10 2 (c2-10) _ D LD.out (RD.out.below hb3);rw [HY.out] at k1;clear hO hB hr3 hc3 hm3 hb3)
     | (go_at_call 46;refine Calls.mono (equal_p _ _ (sealB S) T _ _ _ _ w3.heap.size _ rfl R3.out LT.out ((RT.out.below BB3.out).more (Nat.le_trans B2.out.size BB3.out.size))) ?_;rw [hse];rintro e w' ⟨rfl,rfl⟩)
     | (go_at_call 53;refine Calls.mono (must_ok _ _ _) ?_;rintro e w' ⟨rfl,rfl⟩))
    have P3:=hid (Pts.below (w:=w2.drew) P2.out BS.out P2.out.lt)
    have B3:=hid (B2.out.trans BB3.out)
    have RF:=hid (RF2.out.below BB3.out)
    have RA:=hid (RA2.out.below BB3.out)
    refine NoPanic.normal ?_
    go_wp2_with fail
    refine (flags_ok _ F0 F1 2 _ w.heap.size _ w3 rfl RF.out HFL.out).mono ?_;rintro r w4 ⟨rfl,rfl⟩
    go_wp2
    go_loopw [3,7] (fun nv iv wr=>wr=w3∧∃ k:Nat,k≤4∧iv=.int .i64 (7-(k:Int))∧nv=.int .u64 (hiNum H k)) (fun _ iv _=>(intOf iv).toNat)
    case atStart=>exact ⟨rfl,0,by omega,rfl,rfl⟩
    obtain ⟨hwr,k,hk,rfl,rfl⟩:=hrel
    subst hwr
    by_cases hk4:k<4
    ·obtain ⟨b0,off,hA,hb0,hcell⟩:=RA.out (by rw [LH.out];decide)
     have hc7:=hcell (7-k) (by rw [LH.out];omega)
     unfold byteV at hc7
     have hN:hiNum H (k+1)=hiNum H k*256+(H.getD (7-k) 0).toNat:=rfl
     have hlt:=hiNum_lt H k
     have hp:256 ^ k≤256 ^ 3:=Nat.pow_le_pow_right (by decide) (by omega)
     have hx:=(H.getD (7-k) 0).toNat_lt
     obtain ⟨x,hxx⟩:∃ x,(H.getD (7-k) 0).toNat=x:=⟨_,rfl⟩
     obtain ⟨N,hNN⟩:∃ N,hiNum H k=N:=⟨_,rfl⟩
     rw [hxx] at hc7 hN hx
     rw [hNN] at hlt hN
     have h256:(256:Nat) ^ 3=16777216:=by decide
     have hN24:N<16777216:=by omega
     have hor:=or_hi (n:=N) (x:=x) (by omega) hx
     obtain ⟨j,hj⟩:∃ j,7-k=j:=⟨_,rfl⟩
     have hji:(7:Int)-(k:Int)=(j:Int):=by omega
     have hj4:4≤j:=by omega
     have hj7:j≤7:=by omega
     rw [hj] at hc7
     rw [hA]
     have e256:((N*256:Nat):Int)=(N:Int)*256:=by omega
     rw [e256] at hor
     have hj2:(7:Int)-((k+1:Nat):Int)=(j:Int)-1:=by omega
     have HJ2:=hid hj2
     have HN2:=hid hN
     rw [hNN,hji]
     clear hcell hxx hNN hp hlt h256 hN hj2 hj
     go_wp2
     refine ⟨⟨trivial,k+1,by omega,?_,?_⟩,by simp [intOf];omega⟩
     ·rw [HJ2.out]
     rw [HN2.out];congr 1
    obtain rfl:k=4:=by omega
    have hN:=hiNum_lt H 4
    have h256:(256:Nat) ^ 4=4294967296:=by decide
    rw [h256] at hN
    obtain ⟨N,hNN⟩:∃ N,hiNum H 4=N:=⟨_,rfl⟩
    rw [hNN] at hN ⊢
    have HNN:=hid hNN
    clear h256 hNN
    have c30:=P3.out.cell 0
    have z30:=P3.out.frozen 0
    have HBEL:=hid (B3.out.setCell (p:=⟨w.heap.size,0,none⟩) (Nat.le_refl _) (.int .i64 0))
    go_wp2
    refine leaves_cons (f:=51) (args:=#[.pointer (some ⟨w.heap.size,0,none⟩)]) (by simp) (by simp [go_sem]) ?_
    refine (catch_idle _ _).mono ?_
    rintro e u' w'' ⟨rfl,rfl,rfl⟩
    have hbel:=HBEL.out
    simp [Leaves,settle,results,Tryz.results44,go_sem,footV,c30]
    exact ⟨by rw [HNN.out],hbel⟩
   rw [if_pos hfl] at hR
   subst hR
   have HFL:=hid hfl
   clear hfl
   go_enter_defers Tryz.func44,Tryz.ntmps44
   go_wp2_with fail
   refine (take_ok (w.heap.size+1) w.heap.size 12 0 10 bs w1 CC.out HGE.out (by decide)).mono ?_;rintro r w2 ⟨A2,c2,rfl,hr2,hc2,hm2,hcur2,hf2⟩
   rw [HH.out] at hr2
   have P2:=hid (PP1.out.frm hf2 (by omega))
   have B2:=hid (FF1.out.trans (hf2.below FF1.out.size (fun k hk=>by omega)))
   have hs1:∀ w,(Instr.sliceAt 27 (.slice A2 12 c2) (some (.int .i64 4)) (some (.int .i64 10)) none).run Tryz.prog w=.ok (.slice (A2.map (·.add 4)) 6 (c2-4)) w:=fun w=>slice_midX A2 12 c2 4 10 (by decide) (by decide) hc2 (by omega) w
   have hs2:∀ w,(Instr.sliceAt 27 (.slice A2 12 c2) none (some (.int .i64 4)) none).run Tryz.prog w=.ok (.slice A2 4 c2) w:=fun w=>slice_toX A2 12 c2 4 (by decide) hc2 w
   have hs3:∀ w,(Instr.sliceAt 27 (.slice A2 12 c2) (some (.int .i64 8)) (some (.int .i64 10)) none).run Tryz.prog w=.ok (.slice (A2.map (·.add 8)) 2 (c2-8)) w:=fun w=>slice_midX A2 12 c2 8 10 (by decide) (by decide) hc2 (by omega) w
   have hs4:∀ w,(Instr.sliceAt 27 (.slice A2 12 c2) (some (.int .i64 10)) none none).run Tryz.prog w=.ok (.slice (A2.map (·.add 10)) 2 (c2-10)) w:=fun w=>by
    have:=slice_fromX A2 12 c2 10 (by decide) hc2 w
    rw [if_neg (by omega)] at this
    exact this
   obtain ⟨A4,hA4⟩:∃ A4,A2.map (·.add 4)=A4:=⟨_,rfl⟩
   obtain ⟨A8,hA8⟩:∃ A8,A2.map (·.add 8)=A8:=⟨_,rfl⟩
   obtain ⟨A10,hA10⟩:∃ A10,A2.map (·.add 10)=A10:=⟨_,rfl⟩
   have hrs:=hr2.mid (f:=4) (t:=6) (c:=c2) (by rw [LH.out];exact hc2) (by omega)
   rw [HSS.out] at hrs
   have hrt:=hr2.take 4
   rw [HTT.out] at hrt
   have hrd:=hr2.mid (f:=10) (t:=2) (c:=c2) (by rw [LH.out];exact hc2) (by omega)
   rw [HDD.out,List.take_of_length_le (by rw [← LD.out];decide)] at hrd
   have hrf:=hr2.mid (f:=8) (t:=2) (c:=c2) (by rw [LH.out];exact hc2) (by omega)
   rw [HMT.out] at hrf
   rw [hA4] at hs1 hrs
   rw [hA8] at hs3 hrf
   rw [hA10] at hs4 hrd
   have RT:=hid hrt
   have RD:=hid hrd
   have RF2:=hid hrf
   have RA2:=hid hr2
   have HSE:=hid (seal_p A4 S 6 (c2-4) w2.drew LS.out (hrs.more B2.out.size) (by rw [← LS.out];decide))
   clear hr2 hc2 hm2 hcur2 hf2 hrs hrt hrd hrf hA4 hA8 hA10
   go_wp2
   refine wp_region_noPanic ?_
   go_region_with (first
    | (go_at_call 31;refine Calls.mono HSE.out ?_;rintro e w3 ⟨v,rfl,hO,hB⟩;obtain ⟨A3,k3,rfl,hc3,hm3,hr3⟩:=hO.slice;have BS:=hid hB;have R3:=hid hr3;have hb3:Below w.heap.size w2 w3:=((Below.refl _ w2).drew).trans (hB.mono B2.out.size);have BB3:=hid hb3;have k1:=run_conv_bytes (P:=Tryz.prog) w3 27 9 5 Tryz.underlying27 Tryz.underlying5 Tryz.underlying9 A10 2 (c2-10) _ D LD.out (RD.out.below hb3);rw [HY.out] at k1;clear hO hB hr3 hc3 hm3 hb3)
    | (go_at_call 46;refine Calls.mono (equal_p _ _ (sealB S) T _ _ _ _ w3.heap.size _ rfl R3.out LT.out ((RT.out.below BB3.out).more (Nat.le_trans B2.out.size BB3.out.size))) ?_;rw [hse];rintro e w' ⟨rfl,rfl⟩)
    | (go_at_call 53;refine Calls.mono (must_ok _ _ _) ?_;rintro e w' ⟨rfl,rfl⟩))
   have P3:=hid (Pts.below (w:=w2.drew) P2.out BS.out P2.out.lt)
   have B3:=hid (B2.out.trans BB3.out)
   have RF:=hid (RF2.out.below BB3.out)
   have RA:=hid (RA2.out.below BB3.out)
   refine NoPanic.normal ?_
   go_wp2_with fail
   refine (flags_bad _ F0 F1 2 _ w.heap.size _ w3 rfl RF.out HFL.out).mono ?_;rintro r w4 ⟨rfl,rfl⟩
   go_wp2
   refine leaves_cons (f:=51) (args:=#[.pointer (some ⟨w.heap.size,0,none⟩)]) (by simp) (by simp [go_sem]) ?_
   refine (catch_panicking w.heap.size 12 0 _ _ P3.out).mono ?_
   rintro e u' w'' ⟨rfl,rfl,hp,hf⟩
   have c0:=hp.cell 0
   have hbel:Below w.heap.size w w'':=(B3.out).trans (hf.below (B3.out).size (fun k hk=>by omega))
   simp [Leaves,settle,results,Tryz.results44,go_sem,c0,footV,hbel]
  have hyf:(D==([89,90]:List UInt8))=false:=by simpa using hy
  have hR:=foot_bad1 HR.out (.inr hyf)
  subst hR
  clear HR hy
  go_enter_defers Tryz.func44,Tryz.ntmps44
  go_wp2_with fail
  refine (take_ok (w.heap.size+1) w.heap.size 12 0 10 bs w1 CC.out HGE.out (by decide)).mono ?_;rintro r w2 ⟨A2,c2,rfl,hr2,hc2,hm2,hcur2,hf2⟩
  rw [HH.out] at hr2
  have P2:=hid (PP1.out.frm hf2 (by omega))
  have B2:=hid (FF1.out.trans (hf2.below FF1.out.size (fun k hk=>by omega)))
  have hs1:∀ w,(Instr.sliceAt 27 (.slice A2 12 c2) (some (.int .i64 4)) (some (.int .i64 10)) none).run Tryz.prog w=.ok (.slice (A2.map (·.add 4)) 6 (c2-4)) w:=fun w=>slice_midX A2 12 c2 4 10 (by decide) (by decide) hc2 (by omega) w
  have hs2:∀ w,(Instr.sliceAt 27 (.slice A2 12 c2) none (some (.int .i64 4)) none).run Tryz.prog w=.ok (.slice A2 4 c2) w:=fun w=>slice_toX A2 12 c2 4 (by decide) hc2 w
  have hs3:∀ w,(Instr.sliceAt 27 (.slice A2 12 c2) (some (.int .i64 8)) (some (.int .i64 10)) none).run Tryz.prog w=.ok (.slice (A2.map (·.add 8)) 2 (c2-8)) w:=fun w=>slice_midX A2 12 c2 8 10 (by decide) (by decide) hc2 (by omega) w
  have hs4:∀ w,(Instr.sliceAt 27 (.slice A2 12 c2) (some (.int .i64 10)) none none).run Tryz.prog w=.ok (.slice (A2.map (·.add 10)) 2 (c2-10)) w:=fun w=>by
   have:=slice_fromX A2 12 c2 10 (by decide) hc2 w
   rw [if_neg (by omega)] at this
   exact this
  obtain ⟨A4,hA4⟩:∃ A4,A2.map (·.add 4)=A4:=⟨_,rfl⟩
  obtain ⟨A8,hA8⟩:∃ A8,A2.map (·.add 8)=A8:=⟨_,rfl⟩
  obtain ⟨A10,hA10⟩:∃ A10,A2.map (·.add 10)=A10:=⟨_,rfl⟩
  have hrs:=hr2.mid (f:=4) (t:=6) (c:=c2) (by rw [LH.out];exact hc2) (by omega)
  rw [HSS.out] at hrs
  have hrt:=hr2.take 4
  rw [HTT.out] at hrt
  have hrd:=hr2.mid (f:=10) (t:=2) (c:=c2) (by rw [LH.out];exact hc2) (by omega)
  rw [HDD.out,List.take_of_length_le (by rw [← LD.out];decide)] at hrd
  have hrf:=hr2.mid (f:=8) (t:=2) (c:=c2) (by rw [LH.out];exact hc2) (by omega)
  rw [HMT.out] at hrf
  rw [hA4] at hs1 hrs
  rw [hA8] at hs3 hrf
  rw [hA10] at hs4 hrd
  have RT:=hid hrt
  have RD:=hid hrd
  have RF2:=hid hrf
  have RA2:=hid hr2
  have HSE:=hid (seal_p A4 S 6 (c2-4) w2.drew LS.out (hrs.more B2.out.size) (by rw [← LS.out];decide))
  clear hr2 hc2 hm2 hcur2 hf2 hrs hrt hrd hrf hA4 hA8 hA10
  go_wp2
  refine Pan.wp_only_panic [{ v:=.iface 128 (.agg #[.int .i64 11]),recovered:=false }] (fun w3=>Pts w3 w.heap.size #[.int .i64 0] 32∧Below w.heap.size w w3) [.slice A bs.length c,undef,.int .i64 0,.int .u64 0,.pointer (some ⟨w.heap.size,0,none⟩)] [{ target:=.fn (.func 51) #[],args:=#[.pointer (some ⟨w.heap.size,0,none⟩)] }] (fun a w3 hS hK=>?pan2) ?reg2
  case reg2 =>
   refine wp_region_any (by kernel_rfl) ?_
   change wpAny _ _ _ _ _ _ _ (World.drew _)
   refine wpAny_take (i:=0) rfl (by kernel_rfl) (by kernel_rfl) (by kernel_rfl) (fun _ _ _ h=>⟨h.1,h.2.1,h.2.2.unput (Nat.le_of_ble_eq_true rfl)⟩) (Or.inl ⟨by rfl,by (intro w;go_simp;try with_reducible rfl)⟩) ?_
   refine wpAny_take (i:=1) rfl (by kernel_rfl) (by kernel_rfl) (by kernel_rfl) (fun _ _ _ h=>⟨h.1,h.2.1,h.2.2.unput (Nat.le_of_ble_eq_true rfl)⟩) (Or.inl ⟨by rfl,by (intro w;go_simp;try with_reducible rfl)⟩) ?_
   refine wpAny_take (i:=2) rfl (by kernel_rfl) (by kernel_rfl) (by kernel_rfl) (fun _ _ _ h=>⟨h.1,h.2.1,h.2.2.unput (Nat.le_of_ble_eq_true rfl)⟩) (Or.inl ⟨by rfl,by (intro w;go_simp;try with_reducible rfl)⟩) ?_
   refine wpAny_take (i:=4) rfl (by kernel_rfl) (by kernel_rfl) (by kernel_rfl) (fun _ _ _ h=>⟨h.1,h.2.1,h.2.2.unput (Nat.le_of_ble_eq_true rfl)⟩) (Or.inl ⟨by rfl,by (intro w;go_simp;try with_reducible rfl)⟩) ?_
   refine wpAny_take (i:=5) rfl (by kernel_rfl) (by kernel_rfl) (by kernel_rfl) (fun _ _ _ h=>⟨h.1,h.2.1,h.2.2.unput (Nat.le_of_ble_eq_true rfl)⟩) (Or.inl ⟨by rfl,by (intro w;go_simp;try with_reducible rfl)⟩) ?_
   refine wpAny_ready (rs:=[3]) (by kernel_rfl) (by simp) ?_
   refine AllReady.cons rfl (fun K hK=>?_) AllReady.nil
   go_simp
   go_wp2_with (go_at_call 31;refine Calls.mono HSE.out ?_;rintro e w3 ⟨v,rfl,hO,hB⟩;obtain ⟨A3,k3,rfl,hc3,hm3,hr3⟩:=hO.slice;have BS:=hid hB;have R3:=hid hr3;have hb3:Below w.heap.size w2 w3:=((Below.refl _ w2).drew).trans (hB.mono B2.out.size);have BB3:=hid hb3;have k1:=run_conv_bytes (P:=Tryz.prog) w3 27 9 5 Tryz.underlying27 Tryz.underlying5 Tryz.underlying9 A10 2 (c2-10) _ D LD.out (RD.out.below hb3);clear hO hB hr3 hc3 hm3 hb3)
   refine wpAny_ready (rs:=[6]) (by kernel_rfl) (by simp) ?_
   refine AllReady.cons rfl (fun K hK=>?_) AllReady.nil
   go_simp
   go_wp2_with (go_at_call 46;refine Calls.mono (equal_p _ _ (sealB S) T _ _ _ _ w3.heap.size _ rfl R3.out LT.out ((RT.out.below BB3.out).more (Nat.le_trans B2.out.size BB3.out.size))) ?_;rw [hse];rintro e w' ⟨rfl,rfl⟩)
   refine wpAny_ready (rs:=[7]) (by kernel_rfl) (by simp) ?_
   refine AllReady.cons rfl (fun K hK=>?_) AllReady.nil
   go_simp
   refine hK _ _ ?_;clear hK K
   refine wpAny_ready (rs:=[8]) (by kernel_rfl) (by simp) ?_
   refine AllReady.cons rfl (fun K hK=>?_) AllReady.nil
   go_simp
   refine hK _ _ ?_;clear hK K
   refine wpAny_ready (rs:=[9]) (by kernel_rfl) (by simp) ?_
   refine AllReady.cons rfl (fun K hK=>?_) AllReady.nil
   go_simp
   refine hK _ _ ?_;clear hK K
   refine wpAny_ready (rs:=[10]) (by kernel_rfl) (by simp) ?_
   refine AllReady.cons rfl (fun K hK=>?_) AllReady.nil
   go_simp
   refine hK _ _ ?_;clear hK K
   refine wpAny_ready (rs:=[11]) (by kernel_rfl) (by simp) ?_
   refine AllReady.cons rfl (fun K hK=>?_) AllReady.nil
   go_simp
   refine hK _ _ ?_;clear hK K
   refine wpAny_ready (rs:=[12]) (by kernel_rfl) (by simp) ?_
   refine AllReady.cons rfl (fun K hK=>?_) AllReady.nil
   go_simp
   refine hK _ _ ?_;clear hK K
   have P3:=hid (Pts.below (w:=w2.drew) P2.out BS.out P2.out.lt)
   have B3:=hid (B2.out.trans BB3.out)
   refine wpAny_ready (rs:=[13]) (by kernel_rfl) (by simp) ?_
   refine AllReady.cons rfl (fun K hK=>?_) AllReady.nil
   go_simp
   go_wp2_with (go_at_call 53;refine Calls.mono (must_bad _ _ _) ?_;rintro e w' ⟨rfl,rfl⟩)
   exact ⟨rfl,⟨P3.out,B3.out⟩,rfl,rfl⟩
  obtain ⟨tmps,dfs⟩:=a
  obtain ⟨hP,hbe⟩:=hS
  have t2:=hK.get 2 (by simp)
  have t3:=hK.get 3 (by simp)
  have t4:=hK.get 4 (by simp)
  simp only [List.getElem?_cons_succ,List.getElem?_cons_zero] at t2 t3 t4
  have hd:dfs=_:=hK.2
  subst hd
  refine leaves_cons (f:=51) (args:=#[.pointer (some ⟨w.heap.size,0,none⟩)]) (by simp) (by simp [go_sem]) ?_
  refine (catch_panicking w.heap.size 11 0 _ _ hP).mono ?_
  rintro e u' w'' ⟨rfl,rfl,hp,hf⟩
  have c0:=hp.cell 0
  have hbel:Below w.heap.size w w'':=hbe.trans (hf.below hbe.size (fun k hk=>by omega))
  simp [Leaves,settle,results,Tryz.results44,go_sem,c0,footV,hbel,t2,t3,t4]
 have hse:(sealB S==T)=false:=by simpa using hse
 have hR:=foot_bad1 HR.out (.inl hse)
 subst hR
 clear HR
 go_enter_defers Tryz.func44,Tryz.ntmps44
 go_wp2_with fail
 refine (take_ok (w.heap.size+1) w.heap.size 12 0 10 bs w1 CC.out HGE.out (by decide)).mono ?_;rintro r w2 ⟨A2,c2,rfl,hr2,hc2,hm2,hcur2,hf2⟩
 rw [HH.out] at hr2
 have P2:=hid (PP1.out.frm hf2 (by omega))
 have B2:=hid (FF1.out.trans (hf2.below FF1.out.size (fun k hk=>by omega)))
 have hs1:∀ w,(Instr.sliceAt 27 (.slice A2 12 c2) (some (.int .i64 4)) (some (.int .i64 10)) none).run Tryz.prog w=.ok (.slice (A2.map (·.add 4)) 6 (c2-4)) w:=fun w=>slice_midX A2 12 c2 4 10 (by decide) (by decide) hc2 (by omega) w
 have hs2:∀ w,(Instr.sliceAt 27 (.slice A2 12 c2) none (some (.int .i64 4)) none).run Tryz.prog w=.ok (.slice A2 4 c2) w:=fun w=>slice_toX A2 12 c2 4 (by decide) hc2 w
 have hs3:∀ w,(Instr.sliceAt 27 (.slice A2 12 c2) (some (.int .i64 8)) (some (.int .i64 10)) none).run Tryz.prog w=.ok (.slice (A2.map (·.add 8)) 2 (c2-8)) w:=fun w=>slice_midX A2 12 c2 8 10 (by decide) (by decide) hc2 (by omega) w
 have hs4:∀ w,(Instr.sliceAt 27 (.slice A2 12 c2) (some (.int .i64 10)) none none).run Tryz.prog w=.ok (.slice (A2.map (·.add 10)) 2 (c2-10)) w:=fun w=>by
  have:=slice_fromX A2 12 c2 10 (by decide) hc2 w
  rw [if_neg (by omega)] at this
  exact this
 obtain ⟨A4,hA4⟩:∃ A4,A2.map (·.add 4)=A4:=⟨_,rfl⟩
 obtain ⟨A8,hA8⟩:∃ A8,A2.map (·.add 8)=A8:=⟨_,rfl⟩
 obtain ⟨A10,hA10⟩:∃ A10,A2.map (·.add 10)=A10:=⟨_,rfl⟩
 have hrs:=hr2.mid (f:=4) (t:=6) (c:=c2) (by rw [LH.out];exact hc2) (by omega)
 rw [HSS.out] at hrs
 have hrt:=hr2.take 4
 rw [HTT.out] at hrt
 have hrd:=hr2.mid (f:=10) (t:=2) (c:=c2) (by rw [LH.out];exact hc2) (by omega)
 rw [HDD.out,List.take_of_length_le (by rw [← LD.out];decide)] at hrd
 have hrf:=hr2.mid (f:=8) (t:=2) (c:=c2) (by rw [LH.out];exact hc2) (by omega)
 rw [HMT.out] at hrf
 rw [hA4] at hs1 hrs
 rw [hA8] at hs3 hrf
 rw [hA10] at hs4 hrd
 have RT:=hid hrt
 have RD:=hid hrd
 have RF2:=hid hrf
 have RA2:=hid hr2
 have HSE:=hid (seal_p A4 S 6 (c2-4) w2.drew LS.out (hrs.more B2.out.size) (by rw [← LS.out];decide))
 clear hr2 hc2 hm2 hcur2 hf2 hrs hrt hrd hrf hA4 hA8 hA10
 go_wp2
 refine Pan.wp_only_panic [{ v:=.iface 128 (.agg #[.int .i64 11]),recovered:=false }] (fun w3=>Pts w3 w.heap.size #[.int .i64 0] 32∧Below w.heap.size w w3) [.slice A bs.length c,undef,.int .i64 0,.int .u64 0,.pointer (some ⟨w.heap.size,0,none⟩)] [{ target:=.fn (.func 51) #[],args:=#[.pointer (some ⟨w.heap.size,0,none⟩)] }] (fun a w3 hS hK=>?pan3) ?reg3
 case reg3 =>
  refine wp_region_any (by kernel_rfl) ?_
  change wpAny _ _ _ _ _ _ _ (World.drew _)
  refine wpAny_take (i:=0) rfl (by kernel_rfl) (by kernel_rfl) (by kernel_rfl) (fun _ _ _ h=>⟨h.1,h.2.1,h.2.2.unput (Nat.le_of_ble_eq_true rfl)⟩) (Or.inl ⟨by rfl,by (intro w;go_simp;try with_reducible rfl)⟩) ?_
  refine wpAny_take (i:=1) rfl (by kernel_rfl) (by kernel_rfl) (by kernel_rfl) (fun _ _ _ h=>⟨h.1,h.2.1,h.2.2.unput (Nat.le_of_ble_eq_true rfl)⟩) (Or.inl ⟨by rfl,by (intro w;go_simp;try with_reducible rfl)⟩) ?_
  refine wpAny_take (i:=2) rfl (by kernel_rfl) (by kernel_rfl) (by kernel_rfl) (fun _ _ _ h=>⟨h.1,h.2.1,h.2.2.unput (Nat.le_of_ble_eq_true rfl)⟩) (Or.inl ⟨by rfl,by (intro w;go_simp;try with_reducible rfl)⟩) ?_
  refine wpAny_take (i:=4) rfl (by kernel_rfl) (by kernel_rfl) (by kernel_rfl) (fun _ _ _ h=>⟨h.1,h.2.1,h.2.2.unput (Nat.le_of_ble_eq_true rfl)⟩) (Or.inl ⟨by rfl,by (intro w;go_simp;try with_reducible rfl)⟩) ?_
  refine wpAny_take (i:=5) rfl (by kernel_rfl) (by kernel_rfl) (by kernel_rfl) (fun _ _ _ h=>⟨h.1,h.2.1,h.2.2.unput (Nat.le_of_ble_eq_true rfl)⟩) (Or.inl ⟨by rfl,by (intro w;go_simp;try with_reducible rfl)⟩) ?_
  refine wpAny_ready (rs:=[3]) (by kernel_rfl) (by simp) ?_
  refine AllReady.cons rfl (fun K hK=>?_) AllReady.nil
  go_simp
  go_wp2_with (go_at_call 31;refine Calls.mono HSE.out ?_;rintro e w3 ⟨v,rfl,hO,hB⟩;obtain ⟨A3,k3,rfl,hc3,hm3,hr3⟩:=hO.slice;have BS:=hid hB;have R3:=hid hr3;have hb3:Below w.heap.size w2 w3:=((Below.refl _ w2).drew).trans (hB.mono B2.out.size);have BB3:=hid hb3;have k1:=run_conv_bytes (P:=Tryz.prog) w3 27 9 5 Tryz.underlying27 Tryz.underlying5 Tryz.underlying9 A10 2 (c2-10) _ D LD.out (RD.out.below hb3);clear hO hB hr3 hc3 hm3 hb3)
  refine wpAny_ready (rs:=[6]) (by kernel_rfl) (by simp) ?_
  refine AllReady.cons rfl (fun K hK=>?_) AllReady.nil
  go_simp
  go_wp2_with (go_at_call 46;refine Calls.mono (equal_p _ _ (sealB S) T _ _ _ _ w3.heap.size _ rfl R3.out LT.out ((RT.out.below BB3.out).more (Nat.le_trans B2.out.size BB3.out.size))) ?_;rw [hse];rintro e w' ⟨rfl,rfl⟩)
  refine wpAny_ready (rs:=[7]) (by kernel_rfl) (by simp) ?_
  refine AllReady.cons rfl (fun K hK=>?_) AllReady.nil
  go_simp
  refine hK _ _ ?_;clear hK K
  refine wpAny_ready (rs:=[8]) (by kernel_rfl) (by simp) ?_
  refine AllReady.cons rfl (fun K hK=>?_) AllReady.nil
  go_simp
  refine hK _ _ ?_;clear hK K
  refine wpAny_ready (rs:=[9]) (by kernel_rfl) (by simp) ?_
  refine AllReady.cons rfl (fun K hK=>?_) AllReady.nil
  go_simp
  refine hK _ _ ?_;clear hK K
  refine wpAny_ready (rs:=[10]) (by kernel_rfl) (by simp) ?_
  refine AllReady.cons rfl (fun K hK=>?_) AllReady.nil
  go_simp
  refine hK _ _ ?_;clear hK K
  refine wpAny_ready (rs:=[11]) (by kernel_rfl) (by simp) ?_
  refine AllReady.cons rfl (fun K hK=>?_) AllReady.nil
  go_simp
  refine hK _ _ ?_;clear hK K
  refine wpAny_ready (rs:=[12]) (by kernel_rfl) (by simp) ?_
  refine AllReady.cons rfl (fun K hK=>?_) AllReady.nil
  go_simp
  refine hK _ _ ?_;clear hK K
  have P3:=hid (Pts.below (w:=w2.drew) P2.out BS.out P2.out.lt)
  have B3:=hid (B2.out.trans BB3.out)
  refine wpAny_ready (rs:=[13]) (by kernel_rfl) (by simp) ?_
  refine AllReady.cons rfl (fun K hK=>?_) AllReady.nil
  go_simp
  go_wp2_with (go_at_call 53;refine Calls.mono (must_bad _ _ _) ?_;rintro e w' ⟨rfl,rfl⟩)
  exact ⟨rfl,⟨P3.out,B3.out⟩,rfl,rfl⟩
 obtain ⟨tmps,dfs⟩:=a
 obtain ⟨hP,hbe⟩:=hS
 have t2:=hK.get 2 (by simp)
 have t3:=hK.get 3 (by simp)
 have t4:=hK.get 4 (by simp)
 simp only [List.getElem?_cons_succ,List.getElem?_cons_zero] at t2 t3 t4
 have hd:dfs=_:=hK.2
 subst hd
 refine leaves_cons (f:=51) (args:=#[.pointer (some ⟨w.heap.size,0,none⟩)]) (by simp) (by simp [go_sem]) ?_
 refine (catch_panicking w.heap.size 11 0 _ _ hP).mono ?_
 rintro e u' w'' ⟨rfl,rfl,hp,hf⟩
 have c0:=hp.cell 0
 have hbel:Below w.heap.size w w'':=hbe.trans (hf.below hbe.size (fun k hk=>by omega))
 simp [Leaves,settle,results,Tryz.results44,go_sem,c0,footV,hbel,t2,t3,t4]
open Go.RowKit Box
open Go.RowKit Box
set_option maxRecDepth 100000 in
theorem cins_ok (cb B u y m:Nat) (bs:List UInt8) (w:World) (h:CurAt w cb B bs u) (hlen:bs.length≤140737488355328) (hnum:number bs=(y,m,0)) (hu:u+m<4611686018427387904) :
 Calls Tryz.prog 69 #[.pointer (some ⟨cb,0,none⟩)] w fun r w'=>r=.returned (.int .u64 (y:Int))∧CurAt w' cb B (bs.drop m) (u+m)∧Frm (· = cb) w w':=by
 obtain ⟨hy,h1,hm,_⟩:=number_back hnum
 have HT:=hid (take_ok cb B m u 11 bs w h hm hu)
 obtain ⟨A,c,hp,hr,hc,hcm,hB⟩:=h
 have hn:=number_p A bs bs.length c B w rfl hr (Nat.le_trans hlen (by decide))
 rw [hnum] at hn
 unfold errOf at hn
 have HN:=hid hn
 have c0:w.cell? ⟨cb,0,none⟩=some (.slice A bs.length c):=hp.cell 0
 clear hn hnum hp hr hcm hB hy h1 hm hu hlen hc
 go_enter Tryz.func69,Tryz.ntmps69
 go_wp2_with fail
 refine HN.out.mono ?_;rintro r w1 ⟨rfl,rfl⟩
 go_wp2_with fail
 refine (must_ok _ _ _).mono ?_;rintro r w1 ⟨rfl,rfl⟩
 go_wp2_with fail
 refine HT.out.mono ?_;rintro r w1 ⟨A2,c2,rfl,hr2,hc2,hm2,hcu,hf⟩
 have CU:=hid hcu
 have FF:=hid hf
 clear hr2 hc2 hm2 hcu hf
 go_wp2
 go_ret
 exact ⟨rfl,CU.out,FF.out⟩
set_option maxRecDepth 100000 in
theorem cins_bad (cb B u:Nat) (e:Int) (bs:List UInt8) (w:World) (h:CurAt w cb B bs u) (hlen:bs.length≤140737488355328) (hnum:number bs=(0,0,e)) (he:¬ e=0) :
 Calls Tryz.prog 69 #[.pointer (some ⟨cb,0,none⟩)] w fun r w'=>r=.panicked [{ v:=.iface 128 (.agg #[.int .i64 11]),recovered:=false }]∧w=w':=by
 obtain ⟨A,c,hp,hr,hc,hcm,hB⟩:=h
 have hn:=number_p A bs bs.length c B w rfl hr (Nat.le_trans hlen (by decide))
 rw [hnum] at hn
 unfold errOf at hn
 have HN:=hid hn
 have c0:w.cell? ⟨cb,0,none⟩=some (.slice A bs.length c):=hp.cell 0
 have he2:(e==0)=false:=by rw [beq_eq_false_iff_ne];exact he
 clear hn hnum hp hr hcm hB hlen he hc
 go_enter Tryz.func69,Tryz.ntmps69
 go_wp2_with fail
 refine HN.out.mono ?_;rintro r w1 ⟨rfl,rfl⟩
 go_wp2_with fail
 refine (must_bad _ _ _).mono ?_;rintro r w1 ⟨rfl,rfl⟩
 go_wp2
 exact ⟨rfl,rfl,rfl⟩
open Go.RowKit Box
namespace Box
theorem number_bad {bs:List UInt8} (h:¬ (number bs).2.2=0):number bs=(0,0,(number bs).2.2):=by
 rcases number_err bs with h1 | h1 | h1
 ·exact absurd h1 h
 ·rw [h1]
 rw [h1]
theorem number_good {bs:List UInt8} (h:(number bs).2.2=0):number bs=((number bs).1,(number bs).2.1,0):=by rw [← h]
end Box
theorem i64_and3 (n:Int):bits .and .i64 n 3=n % 4:=by
 have h3:(BitVec.ofInt 64 3).toNat=2 ^ 2-1:=by decide
 have key:(BitVec.ofInt 64 n &&& BitVec.ofInt 64 3).toNat=(n % ((2 ^ 64:Nat):Int)).toNat % 2 ^ 2:=by
  rw [BitVec.toNat_and,BitVec.toNat_ofInt,h3,Nat.and_two_pow_sub_one_eq_mod]
 show IntKind.i64.wrap ((BitVec.ofInt 64 n &&& BitVec.ofInt 64 3).toNat:Nat)=n % 4
 rw [key,IntKind.wrap_i64]
 omega
def prCells (l:List (Nat×Nat)):List Value:=l.flatMap fun p=>[.int .u64 (p.1:Int),.int .u64 (p.2:Int)]
theorem prCells_at:∀ (l:List (Nat×Nat)) (k:Nat),k<l.length→(prCells l)[k*2]?=some (.int .u64 ((l.getD k (0,0)).1:Int))∧(prCells l)[k*2+1]?=some (.int .u64 ((l.getD k (0,0)).2:Int))
 | [],k,h=>absurd h (by simp)
 | s::l,0,_=>by simp [prCells]
 | s::l,k+1,h=>by
  have ih:=prCells_at l k (by simpa using h)
  have e:prCells (s::l)=.int .u64 (s.1:Int)::.int .u64 (s.2:Int)::prCells l:=rfl
  rw [e,show (k+1)*2=k*2+1+1 by omega]
  simpa using ih
theorem prCells_append (l m:List (Nat×Nat)):prCells (l++m)=prCells l++prCells m:=by simp [prCells]
def PrRow (w:World) (B:Nat) (A:Option Addr) (l:List (Nat×Nat)):Prop :=
 0<l.length→∃ b off,A=some ⟨b,off,none⟩∧b<B∧∀ k,k<l.length→w.cell? ⟨b,off+k*2,none⟩=some (.int .u64 ((l.getD k (0,0)).1:Int))∧w.cell? ⟨b,off+k*2+1,none⟩=some (.int .u64 ((l.getD k (0,0)).2:Int))
def OwnPr (w:World) (T base:Nat) (v:Value) (l:List (Nat×Nat)):Prop:=w.ownsRow base T 2 v l.length (prCells l)
section
variable {w w' : World} {T base : Nat} {v : Value} {l : List (Nat × Nat)}
theorem OwnPr.nil (w:World) (T base:Nat):OwnPr w T base (.slice none 0 0) []:=World.ownsRow_nil w base T 2
theorem OwnPr.slice (h:OwnPr w T base v l):∃ A cap,v=.slice A l.length cap∧l.length≤cap∧cap≤maxLen∧PrRow w w.heap.size A l:=by
 obtain ⟨h1,h2⟩:=h
 rcases h2 with ⟨rfl,hn⟩ | ⟨g,cap,cur,rfl,hb,hh,hnc,hcm,hcs,ht⟩
 ·obtain rfl:l=[]:=List.eq_nil_of_length_eq_zero hn
  exact ⟨none,0,rfl,Nat.le_refl _,Nat.zero_le _,fun h=>absurd h (by simp)⟩
 have hp:Pts w g cur T:=hh
 refine ⟨_,cap,rfl,hnc,hcm,fun _=>⟨g,0,rfl,hp.lt,fun k hk=>?_⟩⟩
 obtain ⟨c0,c1⟩:=prCells_at l k hk
 have hx:∀ j,j<l.length*2→cur[j]?=(prCells l)[j]?:=by
  intro j hj
  rw [← ht,List.getElem?_take,if_pos hj,Array.getElem?_toList]
 rw [hp.cell,hp.cell,hx _ (by omega),hx _ (by omega)]
 simpa using ⟨c0,c1⟩
theorem OwnPr.lt (h:OwnPr w T base v l) {k:Nat} (hk:v.ownBlock=some k):base≤k∧k<w.heap.size:=World.ownsRow.lt h k hk
theorem OwnPr.frm {S:Nat→Prop} (h:OwnPr w T base v l) (hf:Frm S w w') (hn:∀ k,v.ownBlock=some k→¬ S k):OwnPr w' T base v l:=by
 refine ⟨h.1,?_⟩
 rcases h.2 with h2 | ⟨g,cap,cur,rfl,hb,hh,r⟩
 ·exact .inl h2
 exact .inr ⟨g,cap,cur,rfl,hb,(hf.block g (Pts.lt hh) (hn g rfl)).trans hh,r⟩
theorem OwnPr.alloc (h:OwnPr w T base v l) (o:Obj):OwnPr (w.alloc o) T base v l:=World.ownsRow.alloc h o
end
section
variable {P : Program} (w : World)
theorem run_append_pr (t ty T base:Nat) (ht:P.underlying t=some (.slice T)) (hinfo:(P.info? T).map (fun i=>(i.zero,i.size,i.bytes))=some (some (.agg #[.int .u64 0,.int .u64 0]),2,16))
 (v:Value) (l:List (Nat×Nat)) (hown:OwnPr w T base v l) (g c:Nat) (s:Nat×Nat) (hnews:Pts w g #[.int .u64 (s.1:Int),.int .u64 (s.2:Int)] T)
 (hlen:l.length+1≤1000000000) (hbase:base≤w.heap.size) :
 ∃ v' w',(Builtin.append_ #[t,t] ty #[v,.slice (some ⟨g,0,none⟩) 1 c]).run P w=.ok v' w'∧OwnPr w' T base v' (l++[s])∧Frm (fun k=>v.ownBlock=some k) w w' ∧
  (v'.ownBlock=v.ownBlock∨v'.ownBlock=some w.heap.size):=by
 obtain ⟨i,hi,hzz⟩:=Option.map_eq_some_iff.1 hinfo
 simp only [Prod.mk.injEq] at hzz
 obtain ⟨hz,hs,hby⟩:=hzz
 have hcells:∀ j u,(prCells [s])[j]?=some u→w.cell? ((⟨g,0,none⟩:Addr).add j)=some u:=by
  intro j u hu
  rw [Opn.add_at,Nat.zero_add,hnews.cell,← hu]
  show #[Value.int IntKind.u64 (s.1:Int),.int .u64 (s.2:Int)][j]?=[Value.int IntKind.u64 (s.1:Int),.int .u64 (s.2:Int)][j]?
  simp
 obtain ⟨v',w',hrun,h2,h3,_,h5⟩:=run_append_own_at (P:=P) w base t ty T i (.agg #[.int .u64 0,.int .u64 0]) 2 16 ht hi hz hs hby rfl (by omega) v l.length (prCells l) hown ⟨g,0,none⟩ 1 c (prCells [s]) (by simp [prCells]) hcells (by intro u hu;simp [prCells] at hu;rcases hu with rfl | rfl <;> rfl) (by unfold maxLen;omega) (by omega) hbase
 refine ⟨v',w',hrun,?_,⟨h3.os,h3.tape,h3.output,h3.size,fun k hk hn=>h3.block k hk (fun e=>hn e.symm)⟩,h5⟩
 unfold OwnPr
 rw [List.length_append,prCells_append]
 exact h2
theorem stepR_append_pr {ops:Array Oper} {o:Oper} {a:Act} {K:Act→World→Prop} {Q:Exit→Act→World→Prop} {E:Prop} (hgd:o.guard=none) (u x:Operand) (t:TypeId)
 (ho:o.op=.call { callee:=.builtin .append,args:=#[u,x],argTypes:=#[t,t] })
 (T base:Nat) (ht:P.underlying t=some (.slice T)) (hinfo:(P.info? T).map (fun i=>(i.zero,i.size,i.bytes))=some (some (.agg #[.int .u64 0,.int .u64 0]),2,16))
 (v:Value) (l:List (Nat×Nat)) (hs:a.eval u=v) (hown:OwnPr w T base v l) (g c:Nat) (s:Nat×Nat) (hx:a.eval x=.slice (some ⟨g,0,none⟩) 1 c) (hnews:Pts w g #[.int .u64 (s.1:Int),.int .u64 (s.2:Int)] T)
 (hlen:l.length+1≤1000000000) (hbase:base≤w.heap.size)
 (h:∀ v' w',OwnPr w' T base v' (l++[s])→Frm (fun k=>v.ownBlock=some k) w w'→(v'.ownBlock=v.ownBlock∨v'.ownBlock=some w.heap.size)→K (a.put o.dst v') w') :
 if Region.wanted o (yielded ops a.tmps)=true then Oper.wp P o a w K Q else E:=by
 have hw:Region.wanted o (yielded ops a.tmps)=true:=by simp [Region.wanted,hgd]
 rw [if_pos hw]
 obtain ⟨v',w',hrun,h2,h3,h4⟩:=run_append_pr (P:=P) w t o.type T base ht hinfo v l hown g c s hnews hlen hbase
 unfold Oper.wp execOp
 simp only [ho,resolve,invoke,builtin,Sem.run_bind,Sem.run_pure,Result.andThen_ok,List.map_toArray,List.map_cons,List.map_nil,hs,hx,hrun]
 exact h _ _ h2 h3 h4
end
theorem Tryz.info_pair:(Tryz.prog.info? 121).map (fun i=>(i.zero,i.size,i.bytes))=some (some (.agg #[.int .u64 0,.int .u64 0]),2,16):=by kernel_rfl
open Go.RowKit Box
abbrev caughtD (he:Nat):Deferred:={ target:=.fn (.func 51) #[],args:=#[.pointer (some ⟨he,0,none⟩)] }
open Go.RowKit Box
section
variable {w0 w w' : World} {lv v4 : Value} {l l4 : List (Nat × Nat)} {r r' : List UInt8} {u u' : Nat}
end
open Go.RowKit Box
open Go.RowKit Box
open Go.RowKit Box
namespace Box
def winOf (c:Nat):Int:=if c=40 then 4294967295 else (((2+c % 2)*2 ^ (c / 2+11):Nat):Int)
abbrev BkR:=Except Int (Int×Nat×Nat)
def M64':Nat:=18446744073709551615
def bkFilter (r:List UInt8) (p w:Nat):BkR :=
 match r with
 | []=>.error 11
 | c::t=>if ¬ c.toNat<64 then .error 12 else if 40<c.toNat then .error 11 else if ¬ (∀ x∈t,x=0) then .error 11 else .ok (winOf c.toNat,p,w)
def bkSet (r:List UInt8) (p w:Nat):BkR :=
 if ¬ (number r).2.2=0 then .error 11 else if ¬ (number r).1=1 then .error 11 else bkFilter (r.drop (number r).2.1) p w
def bkKind (r:List UInt8) (p w:Nat):BkR :=
 if ¬ (number r).2.2=0 then .error 11 else if ¬ (number r).1=33 then .error 12 else bkSet (r.drop (number r).2.1) p w
def bkWhole (f:Nat) (r:List UInt8) (p:Nat):BkR :=
 if 128≤f then (if ¬ (number r).2.2=0 then .error 11 else bkKind (r.drop (number r).2.1) p (number r).1) else bkKind r p M64'
def bkPacked (f:Nat) (r:List UInt8):BkR :=
 if f / 64 % 2=1 then (if ¬ (number r).2.2=0 then .error 11 else if (number r).1=0 then .error 11 else bkWhole f (r.drop (number r).2.1) (number r).1) else bkWhole f r M64'
def bkBody (r:List UInt8):BkR :=
 match r with
 | []=>.error 11
 | f::r=>if ¬ f.toNat % 64=0 then .error 12 else bkPacked f.toNat r
end Box
def BkPost (cb:Nat) (R:BkR) (w:World) (e:Ending) (w':World):Prop :=
 (match R with
  | .ok (s,p,q)=>e=.returned (.tuple #[.int .i64 s,.int .u64 (p:Int),.int .u64 (q:Int)])
  | .error x=>x≠0∧e=.panicked [{ v:=.iface 128 (.agg #[.int .i64 x]),recovered:=false }])∧Frm (· = cb) w w'
theorem and_tab:∀ F:Fin 256,(bits .and .u8 ((F.val:Nat):Int) 63==0)=decide (F.val % 64=0)∧(bits .and .u8 ((F.val:Nat):Int) 64 != 0)=decide (F.val / 64 % 2=1)∧(bits .and .u8 ((F.val:Nat):Int) 128 != 0)=decide (128≤F.val)∧(bits .and .u8 ((F.val:Nat):Int) 192==0)=decide (F.val<64) ∧
 bits .and .u8 ((F.val:Nat):Int) 1=((F.val % 2:Nat):Int):=by decide +kernel
theorem and_facts {F:Nat} (h:F<256):(bits .and .u8 (F:Int) 63==0)=decide (F % 64=0)∧(bits .and .u8 (F:Int) 64 != 0)=decide (F / 64 % 2=1)∧(bits .and .u8 (F:Int) 128 != 0)=decide (128≤F)∧(bits .and .u8 (F:Int) 192==0)=decide (F<64) ∧
 bits .and .u8 (F:Int) 1=((F % 2:Nat):Int):=and_tab ⟨F,h⟩
theorem win_in {m:Nat} (hm:m<40):(2+m % 2)*2 ^ (m / 2+11)≤3221225472:=by
 have h1:2 ^ (m / 2+11)≤2 ^ 30:=Nat.pow_le_pow_right (by decide) (by omega)
 have h2:(2:Nat) ^ 30=1073741824:=by decide
 have h3:(2+m % 2)*2 ^ (m / 2+11)≤3*2 ^ 30:=Nat.mul_le_mul (by omega) h1
 omega
theorem size_p (m:Nat) (w:World) (hm:m≤40):Calls Tryz.prog 70 #[.int .u8 (m:Int)] w fun e w'=>e=.returned (.int .i64 (winOf m))∧w=w':=by
 by_cases h40:m=40
 ·subst h40
  show Calls _ _ #[.int .u8 40] w _
  go_enter Tryz.func70,Tryz.ntmps70
  go_wp2
  go_ret
  exact ⟨rfl,rfl⟩
 have ha:=(and_facts (F:=m) (by omega)).2.2.2.2
 have hwin:=win_in (m:=m) (by omega)
 have hwo:winOf m=(((2+m % 2)*2 ^ (m / 2+11):Nat):Int):=by unfold winOf;rw [if_neg h40]
 obtain ⟨q,hq⟩:∃ q,m % 2=q:=⟨_,rfl⟩
 have hq2:q<2:=by omega
 rw [hq] at ha hwin hwo
 have hmod:(2+(q:Int)) % 256=2+(q:Int):=by omega
 obtain ⟨z,hz⟩:∃ z,2 ^ (m / 2+11)=z:=⟨_,rfl⟩
 have hzi:(2:Int) ^ (m / 2+11)=(z:Int):=by rw [← hz];simp
 rw [hz] at hwin hwo
 have hp:(2+(q:Int))*(z:Int)=(((2+q)*z:Nat):Int):=by simp
 obtain ⟨W,hW⟩:∃ W,(2+q)*z=W:=⟨_,rfl⟩
 rw [hW] at hp hwin hwo
 have hww:wrap64 (W:Int)=(W:Int):=by unfold wrap64;omega
 rw [hwo]
 have HZI:=hid hzi
 clear hwo hq hz hW hzi
 go_enter Tryz.func70,Tryz.ntmps70
 go_wp2
 go_ret
 exact ⟨by show Ending.returned (.int .i64 (wrap64 ((2+(q:Int))*2 ^ (m / 2+11))))=_;rw [HZI.out,hp,hww],rfl⟩
open Go.RowKit Box
theorem num_cases (r:List UInt8):(number r=(0,0,(number r).2.2)∧¬ (number r).2.2=0)∨(∃ y m,number r=(y,m,0)∧y<9223372036854775808∧m≤r.length):=by
 by_cases h:(number r).2.2=0
 ·right
  have h1:=number_good h
  obtain ⟨a,_,c,_⟩:=number_back h1
  exact ⟨_,_,h1,a,c⟩
 exact .inl ⟨number_bad h,h⟩
structure CuW (w0 w:World) (cb B L:Nat) (r:List UInt8):Prop where
 c:∃ u,CurAt w cb B r u∧u+r.length=L
 f:Frm (· = cb) w0 w
section
variable {w0 w : World} {cb B L : Nat} {r : List UInt8}
theorem CuW.ins_ok {y m:Nat} (h:CuW w0 w cb B L r) (hL:L≤1000000) (hn:number r=(y,m,0)) :
 Calls Tryz.prog 69 #[.pointer (some ⟨cb,0,none⟩)] w fun e w'=>e=.returned (.int .u64 (y:Int))∧CuW w0 w' cb B L (r.drop m):=by
 obtain ⟨u,hc,hl⟩:=h.c
 obtain ⟨_,_,hm,_⟩:=number_back hn
 refine (cins_ok cb B u y m r w hc (by omega) hn (by omega)).mono ?_
 rintro e w' ⟨rfl,h1,h2⟩
 exact ⟨rfl,⟨⟨_,h1,by rw [List.length_drop];omega⟩,h.f.trans h2⟩⟩
theorem CuW.ins_bad (h:CuW w0 w cb B L r) (hL:L≤1000000) (hn:number r=(0,0,(number r).2.2)) (he:¬ (number r).2.2=0) :
 Calls Tryz.prog 69 #[.pointer (some ⟨cb,0,none⟩)] w fun e w'=>e=.panicked [{ v:=.iface 128 (.agg #[.int .i64 11]),recovered:=false }]∧w=w':=by
 obtain ⟨u,hc,hl⟩:=h.c
 exact cins_bad cb B u _ r w hc (by omega) hn he
theorem CuW.one_ok {x:UInt8} (h:CuW w0 w cb B L (x::r)) (hL:L≤1000000) (e:Int) :
 Calls Tryz.prog 52 #[.pointer (some ⟨cb,0,none⟩),.int .i64 1,.int .i64 e] w fun o w'=>∃ b off c,o=.returned (.slice (some ⟨b,off,none⟩) 1 c)∧1≤c∧w'.cell? ⟨b,off,none⟩=some (.int .u8 (x.toNat:Int))∧CuW w0 w' cb B L r:=by
 obtain ⟨u,hc,hl⟩:=h.c
 rw [List.length_cons] at hl
 refine (take_ok cb B 1 u e (x::r) w hc (by simp) (by omega)).mono ?_
 rintro o w' ⟨A,c,rfl,hr,h1,_,hcu,hf⟩
 obtain ⟨b,off,rfl,_,hcell⟩:=hr (by simp)
 exact ⟨b,off,c,rfl,h1,hcell 0 (by simp),⟨⟨_,hcu,by show _+r.length=L;omega⟩,h.f.trans hf⟩⟩
theorem CuW.one_bad (h:CuW w0 w cb B L []) (e:Int) :
 Calls Tryz.prog 52 #[.pointer (some ⟨cb,0,none⟩),.int .i64 1,.int .i64 e] w fun o w'=>o=.panicked [{ v:=.iface 128 (.agg #[.int .i64 e]),recovered:=false }]∧w=w':=by
 obtain ⟨u,hc,hl⟩:=h.c
 exact take_bad cb B 1 u e [] w hc (by simp)
end
set_option maxRecDepth 100000 in
set_option maxHeartbeats 4000000 in
theorem cblock_p (cb B u:Nat) (bs:List UInt8) (w:World) (h:CurAt w cb B bs u) (hlen:u+bs.length≤1000000) :
 Calls Tryz.prog 57 #[.pointer (some ⟨cb,0,none⟩)] w (BkPost cb (bkBody bs) w):=by
 obtain ⟨L,hL⟩:∃ L,u+bs.length=L:=⟨_,rfl⟩
 have C0:=hid (show CuW w w cb B L bs from ⟨⟨u,h,hL⟩,Frm.refl _ _⟩)
 have HL:=hid (show L≤1000000 by omega)
 clear h hlen hL
 obtain ⟨R,hR⟩:∃ R,bkBody bs=R:=⟨_,rfl⟩
 rw [hR]
 have HR:=hid hR
 clear hR
 cases bs with
 | nil =>
  have hR:.error 11=R:=HR.out
  subst hR
  clear HR
  go_enter Tryz.func57,Tryz.ntmps57
  go_wp2_with fail
  refine (C0.out.one_bad _).mono ?_;rintro r w2 ⟨rfl,rfl⟩
  go_wp2
  exact ⟨rfl,⟨by decide,rfl⟩,C0.out.f⟩
 | cons f r =>
  have hF:=f.toNat_lt
  have hR:=HR.out
  unfold bkBody at hR
  simp only at hR
  obtain ⟨F,hFF⟩:∃ F,f.toNat=F:=⟨_,rfl⟩
  rw [hFF] at hR hF
  have HFF:=hid hFF
  clear HR hFF
  obtain ⟨f63,f64,f128,_,_⟩:=and_facts hF
  have HO:=hid (fun e=>C0.out.one_ok HL.out e)
  rw [HFF.out] at HO
  by_cases h63:F % 64=0
  ·rw [if_neg (fun h=>h h63)] at hR
   have f63:(bits .and .u8 (F:Int) 63==0)=true:=f63.trans (decide_eq_true h63)
   have g63:((F:Int) % 64==0)=true:=by have:(F:Int) % 64=0:=by omega
                                       rw [this];rfl
   have HR:=hid hR
   clear hR h63
   go_enter Tryz.func57,Tryz.ntmps57
   go_wp2_with fail
   refine (HO.out _).mono ?_;rintro o w1 ⟨b0,off,c0,rfl,hc0,k0,hcu⟩
   have C1:=hid hcu
   clear hcu HO C0
   go_wp2_with fail
   refine (must_ok _ _ _).mono ?_;rintro o w2 ⟨rfl,rfl⟩
   go_upto_if 20 with fail
   go_cut [3] from 7 (fun s3 wx=>∃ (p:Nat) (r2:List UInt8),s3=.int .u64 p∧CuW w wx cb B L r2∧bkWhole F r2 p=R)
   case first =>
    by_cases h64:F / 64 % 2=1
    ·have f64:=f64.trans (decide_eq_true h64)
     have hR:=HR.out
     unfold bkPacked at hR
     rw [if_pos h64] at hR
     rcases num_cases r with ⟨hn,he⟩ | ⟨y,m,hn,hy,hm⟩
     ·rw [if_pos he] at hR
      subst hR
      have HI:=hid (C1.out.ins_bad HL.out hn he)
      clear HR hn he
      go_wp2_with fail
      refine HI.out.mono ?_;rintro o w2 ⟨rfl,rfl⟩
      go_wp2
      exact ⟨rfl,⟨by decide,rfl⟩,C1.out.f⟩
     have HI:=hid (C1.out.ins_ok HL.out hn)
     rw [hn] at hR
     simp only at hR
     rw [if_neg (by simp)] at hR
     by_cases hy0:y=0
     ·rw [if_pos hy0] at hR
      subst hR
      subst hy0
      clear HR hn
      go_wp2_with fail
      refine HI.out.mono ?_;rintro o w2 ⟨rfl,hcu⟩
      have C2:=hid hcu
      clear hcu
      go_wp2_with fail
      refine (must_bad _ _ _).mono ?_;rintro o w3 ⟨rfl,rfl⟩
      go_wp2
      exact ⟨rfl,⟨by decide,rfl⟩,C2.out.f⟩
     rw [if_neg hy0] at hR
     have hyp:decide ((0:Int)<(y:Int))=true:=decide_eq_true (by omega)
     have hyp2:decide (0<y)=true:=decide_eq_true (by omega)
     have hyp3:0<y:=by omega
     have HR2:=hid hR
     clear HR hn hR hy0
     go_wp2_with fail
     refine HI.out.mono ?_;rintro o w2 ⟨rfl,hcu⟩
     have C2:=hid hcu
     clear hcu
     go_wp2_with fail
     refine (must_ok _ _ _).mono ?_;rintro o w3 ⟨rfl,rfl⟩
     go_wp2
     go_meet
     case rel=>exact ⟨y,_,rfl,C2.out,HR2.out⟩
    have f64:=f64.trans (decide_eq_false h64)
    have hR:=HR.out
    unfold bkPacked at hR
    rw [if_neg h64] at hR
    have HR2:=hid hR
    clear HR hR
    go_wp2
    go_meet
    case rel=>exact ⟨M64',_,rfl,C1.out,HR2.out⟩
   obtain ⟨p,r2,rfl,hcu2,hR2⟩:=hcut
   have C3:=hid hcu2
   have HR3:=hid hR2
   clear hcu2 hR2 HR C1
   go_upto_if 29 with fail
   go_cut [4] from 7 (fun s4 wx=>∃ (q:Nat) (r2:List UInt8),s4=.int .u64 q∧CuW w wx cb B L r2∧bkKind r2 p q=R)
   case first =>
    by_cases h128:128≤F
    ·have f128:=f128.trans (decide_eq_true h128)
     have hR:=HR3.out
     unfold bkWhole at hR
     rw [if_pos h128] at hR
     rcases num_cases r2 with ⟨hn,he⟩ | ⟨y,m,hn,hy,hm⟩
     ·rw [if_pos he] at hR
      subst hR
      have HI:=hid (C3.out.ins_bad HL.out hn he)
      clear HR3 hn he
      go_wp2_with fail
      refine HI.out.mono ?_;rintro o w2 ⟨rfl,rfl⟩
      go_wp2
      exact ⟨rfl,⟨by decide,rfl⟩,C3.out.f⟩
     have HI:=hid (C3.out.ins_ok HL.out hn)
     rw [hn] at hR
     simp only at hR
     rw [if_neg (by simp)] at hR
     have HR4:=hid hR
     clear HR3 hn hR
     go_wp2_with fail
     refine HI.out.mono ?_;rintro o w2 ⟨rfl,hcu⟩
     have C4:=hid hcu
     clear hcu
     go_wp2
     go_meet
     case rel=>exact ⟨y,_,rfl,C4.out,HR4.out⟩
    have f128:=f128.trans (decide_eq_false h128)
    have hR:=HR3.out
    unfold bkWhole at hR
    rw [if_neg h128] at hR
    have HR4:=hid hR
    clear HR3 hR
    go_wp2
    go_meet
    case rel=>exact ⟨M64',_,rfl,C3.out,HR4.out⟩
   obtain ⟨q,r3,rfl,hcu3,hR3⟩:=hcut
   have C5:=hid hcu3
   clear hcu3 HR3 C3
   unfold bkKind at hR3
   rcases num_cases r3 with ⟨hn,he⟩ | ⟨y,m,hn,hy,hm⟩
   ·rw [if_pos he] at hR3
    subst hR3
    have HI:=hid (C5.out.ins_bad HL.out hn he)
    clear hn he
    go_wp2_with fail
    refine HI.out.mono ?_;rintro o w2 ⟨rfl,rfl⟩
    go_wp2
    exact ⟨rfl,⟨by decide,rfl⟩,C5.out.f⟩
   have HI:=hid (C5.out.ins_ok HL.out hn)
   rw [hn] at hR3
   simp only at hR3
   rw [if_neg (by simp)] at hR3
   clear hn
   by_cases h33:y=33
   ·subst h33
    rw [if_neg (fun h=>h rfl)] at hR3
    go_wp2_with fail
    refine HI.out.mono ?_;rintro o w2 ⟨rfl,hcu⟩
    have C6:=hid hcu
    clear hcu HI C5
    go_wp2_with fail
    refine (must_ok _ _ _).mono ?_;rintro o w3 ⟨rfl,rfl⟩
    obtain ⟨r4,hr4⟩:∃ r4,r3.drop m=r4:=⟨_,rfl⟩
    rw [hr4] at C6 hR3
    clear hr4 hm hy
    unfold bkSet at hR3
    rcases num_cases r4 with ⟨hn,he⟩ | ⟨y,m,hn,hy,hm⟩
    ·rw [if_pos he] at hR3
     subst hR3
     have HI:=hid (C6.out.ins_bad HL.out hn he)
     clear hn he
     go_wp2_with fail
     refine HI.out.mono ?_;rintro o w2 ⟨rfl,rfl⟩
     go_wp2
     exact ⟨rfl,⟨by decide,rfl⟩,C6.out.f⟩
    have HI:=hid (C6.out.ins_ok HL.out hn)
    rw [hn] at hR3
    simp only at hR3
    rw [if_neg (by simp)] at hR3
    clear hn
    by_cases h1:y=1
    ·subst h1
     rw [if_neg (fun h=>h rfl)] at hR3
     go_wp2_with fail
     refine HI.out.mono ?_;rintro o w3 ⟨rfl,hcu⟩
     have C7:=hid hcu
     clear hcu HI C6
     go_wp2_with fail
     refine (must_ok _ _ _).mono ?_;rintro o w4 ⟨rfl,rfl⟩
     obtain ⟨r5,hr5⟩:∃ r5,r4.drop m=r5:=⟨_,rfl⟩
     rw [hr5] at C7 hR3
     clear hr5 hm hy
     cases r5 with
     | nil =>
      have hR:.error 11=R:=hR3
      subst hR
      clear hR3
      go_wp2_with fail
      refine (C7.out.one_bad _).mono ?_;rintro o w5 ⟨rfl,rfl⟩
      go_wp2
      exact ⟨rfl,⟨by decide,rfl⟩,C7.out.f⟩
     | cons cd t =>
      unfold bkFilter at hR3
      simp only at hR3
      have hcd:=cd.toNat_lt
      have HO:=hid (fun e=>C7.out.one_ok HL.out e)
      obtain ⟨n,hn⟩:∃ n,cd.toNat=n:=⟨_,rfl⟩
      rw [hn] at HO hR3 hcd
      clear hn
      obtain ⟨_,_,_,f192,_⟩:=and_facts hcd
      go_wp2_with fail
      refine (HO.out _).mono ?_;rintro o w5 ⟨b1,off1,c1,rfl,hc1,k1,hcu⟩
      have C8:=hid hcu
      clear hcu HO C7
      by_cases h64:n<64
      ·have f192:=f192.trans (decide_eq_true h64)
       rw [if_neg (fun h=>h h64)] at hR3
       go_wp2_with fail
       refine (must_ok _ _ _).mono ?_;rintro o w6 ⟨rfl,rfl⟩
       by_cases h40:40<n
       ·rw [if_pos h40] at hR3
        subst hR3
        have h40b:decide ((n:Int)≤40)=false:=decide_eq_false (by omega)
        go_wp2_with fail
        refine (must_bad _ _ _).mono ?_;rintro o w7 ⟨rfl,rfl⟩
        go_wp2
        exact ⟨rfl,⟨by decide,rfl⟩,C8.out.f⟩
       rw [if_neg h40] at hR3
       have h40b:decide ((n:Int)≤40)=true:=decide_eq_true (by omega)
       have HSZ:=hid (fun w=>size_p n w (by omega))
       have HR9:=hid hR3
       have h40c:n≤40:=by omega
       clear hR3
       go_wp2_with fail
       refine (must_ok _ _ _).mono ?_;rintro o w6 ⟨rfl,rfl⟩
       have hcell:∃ A9 c9,w5.cell? ⟨cb,0,none⟩=some (.slice A9 t.length c9)∧BRow w5 B A9 t:=by
        obtain ⟨u9,⟨A9,c9,hp,hr,_⟩,_⟩:=C8.out.c
        exact ⟨A9,c9,hp.cell 0,hr⟩
       obtain ⟨A9,c9,cl9,hr9⟩:=hcell
       have R9:=hid hr9
       have htl:t.length≤1000000:=by obtain ⟨u9,_,h⟩:=C8.out.c;have:=HL.out;omega
       clear hr9
       go_wp2
       go_loopw [60] (fun jv wx=>w5=wx∧∃ j:Nat,jv=.int .i64 j∧j≤t.length∧∀ x∈t.take j,x=0) (fun jv _=>t.length-(intOf jv).toNat)
       case atStart=>exact ⟨rfl,0,rfl,by omega,by simp⟩
       obtain ⟨hwx,j,rfl,hj,hall⟩:=hrel
       subst hwx
       by_cases hjp:j<t.length
       ·obtain ⟨b2,off2,hA2,hb2,hcell2⟩:=R9.out (by omega)
        subst hA2
        have k2:=hcell2 j hjp
        unfold byteV at k2
        have hg:t.getD j 0=t[j]:=by simp [List.getD,List.getElem?_eq_getElem hjp]
        rw [hg] at k2
        by_cases hx:t[j]=0
        ·rw [hx] at k2
         have k2:w5.cell? ⟨b2,off2+j,none⟩=some (.int .u8 0):=k2
         have hall2:∀ x∈t.take (j+1),x=0:=by
          rw [List.take_succ_eq_append_getElem hjp]
          intro x hx2
          rcases List.mem_append.1 hx2 with h | h
          ·exact hall x h
          rw [List.mem_singleton.1 h,hx]
         have HA2:=hid hall2
         clear hall hall2 hcell2 hg hx
         go_wp2_with fail
         refine (must_ok _ _ _).mono ?_;rintro o w8 ⟨rfl,rfl⟩
         go_wp2
         exact ⟨⟨trivial,j+1,by go_num,by omega,HA2.out⟩,by simp [intOf];omega⟩
        have hq0:((t[j].toNat:Int)==0)=false:=nat_ne (k:=0) (by decide) hx
        have hrun:=HR9.out
        rw [if_pos (fun h=>hx (h _ (List.getElem_mem hjp)))] at hrun
        subst hrun
        generalize t[j].toNat=xv at *
        clear hall hcell2 hg hx HR9
        go_wp2_with fail
        refine (must_bad _ _ _).mono ?_;rintro o w8 ⟨rfl,rfl⟩
        go_wp2
        exact ⟨rfl,⟨by decide,rfl⟩,C8.out.f⟩
       obtain rfl:j=t.length:=by omega
       rw [List.take_of_length_le (Nat.le_refl _)] at hall
       have hrun:=HR9.out
       rw [if_neg (fun h=>h hall)] at hrun
       subst hrun
       clear HR9 hall hj hjp
       go_wp2_with fail
       refine (HSZ.out _).mono ?_;rintro o w9 ⟨rfl,rfl⟩
       go_wp2
       refine bodyPost_ret (results_tmp3 rfl _ _ _) rfl ?_
       exact ⟨rfl,C8.out.f⟩
      have f192:=f192.trans (decide_eq_false h64)
      rw [if_pos h64] at hR3
      subst hR3
      go_wp2_with fail
      refine (must_bad _ _ _).mono ?_;rintro o w6 ⟨rfl,rfl⟩
      go_wp2
      exact ⟨rfl,⟨by decide,rfl⟩,C8.out.f⟩
    rw [if_pos h1] at hR3
    subst hR3
    have h1b:((y:Int)==1)=false:=by simp;omega
    go_wp2_with fail
    refine HI.out.mono ?_;rintro o w3 ⟨rfl,hcu⟩
    have C7:=hid hcu
    clear hcu
    go_wp2_with fail
    refine (must_bad _ _ _).mono ?_;rintro o w4 ⟨rfl,rfl⟩
    go_wp2
    exact ⟨rfl,⟨by decide,rfl⟩,C7.out.f⟩
   rw [if_pos h33] at hR3
   subst hR3
   have h33b:((y:Int)==33)=false:=by simp;omega
   have h33n:¬ y=33:=h33
   go_wp2_with fail
   refine HI.out.mono ?_;rintro o w2 ⟨rfl,hcu⟩
   have C6:=hid hcu
   clear hcu
   go_wp2_with fail
   refine (must_bad _ _ _).mono ?_;rintro o w3 ⟨rfl,rfl⟩
   go_wp2
   exact ⟨rfl,⟨by decide,rfl⟩,C6.out.f⟩
  rw [if_pos h63] at hR
  have f63:(bits .and .u8 (F:Int) 63==0)=false:=f63.trans (decide_eq_false h63)
  have g63:((F:Int) % 64==0)=false:=by simp;omega
  subst hR
  clear h63
  go_enter Tryz.func57,Tryz.ntmps57
  go_wp2_with fail
  refine (HO.out _).mono ?_;rintro o w1 ⟨b0,off,c0,rfl,hc0,k0,hcu⟩
  have C1:=hid hcu
  clear hcu
  go_wp2_with fail
  refine (must_bad _ _ _).mono ?_;rintro o w2 ⟨rfl,rfl⟩
  go_wp2
  exact ⟨rfl,⟨by decide,rfl⟩,C1.out.f⟩
open Go.RowKit Box
abbrev BlkR:=Int×Nat×Nat×Nat×Int
def blkOf (R:BkR) (n:Nat):BlkR :=
 match R with
 | .ok (s,p,q)=>(s,n,p,q,0)
 | .error x=>(0,0,0,0,x)
def blockOf (bs:List UInt8):BlkR :=
 match bs with
 | []=>(0,0,0,0,10)
 | b::r =>
  if (b::r).length<(b.toNat+1)*4 then (0,0,0,0,10)
  else if b=0 then (0,0,0,0,11)
  else if ¬ sealedB ((b::r).take ((b.toNat+1)*4))=true then (0,0,0,0,11)
  else blkOf (bkBody ((((b::r).take ((b.toNat+1)*4)).drop 1).take ((b.toNat+1)*4-5))) ((b.toNat+1)*4)
def blkV (R:BlkR):Value:=.tuple #[.int .i64 R.1,.int .i64 (R.2.1:Int),.int .u64 (R.2.2.1:Int),.int .u64 (R.2.2.2.1:Int),.int .i64 R.2.2.2.2]
def BlkPost (R:BlkR) (w:World) (e:Ending) (w':World):Prop:=e=.returned (blkV R)∧Below w.heap.size w w'
structure BkAt (w0 w:World) (s:Int) (n p q:Nat):Prop where
 ps:Pts w w0.heap.size #[.int .i64 s] 3
 pn:Pts w (w0.heap.size+1) #[.int .i64 (n:Int)] 3
 pp:Pts w (w0.heap.size+2) #[.int .u64 (p:Int)] 46
 pq:Pts w (w0.heap.size+3) #[.int .u64 (q:Int)] 46
 pe:Pts w (w0.heap.size+4) #[.int .i64 0] 32
 be:Below w0.heap.size w0 w
section
variable {w0 w w' : World} {s : Int} {n p q : Nat}
theorem BkAt.frm (h:BkAt w0 w s n p q) {S:Nat→Prop} (hf:Frm S w w') (hS:∀ k,S k→w0.heap.size+5≤k):BkAt w0 w' s n p q :=
 ⟨h.ps.frm hf (fun e=>by have:=hS _ e;omega),h.pn.frm hf (fun e=>by have:=hS _ e;omega),h.pp.frm hf (fun e=>by have:=hS _ e;omega),h.pq.frm hf (fun e=>by have:=hS _ e;omega),h.pe.frm hf (fun e=>by have:=hS _ e;omega),
  h.be.trans (hf.below h.be.size (fun k hk=>by have:=hS _ hk;omega))⟩
theorem BkAt.still (h:BkAt w0 w s n p q) (hb:Below w.heap.size w w'):BkAt w0 w' s n p q:=h.frm (S:=fun _=>False) (Frm.of_below hb) (fun k h=>h.elim)
end
theorem bkclo_any (h:Nat) (s e:Int) (n p q:Nat) (u:FrameMode) (w0 w:World) (hh:w0.heap.size=h) (ps:Pts w h #[.int .i64 s] 3) (pn:Pts w (h+1) #[.int .i64 (n:Int)] 3) (pp:Pts w (h+2) #[.int .u64 (p:Int)] 46) (pq:Pts w (h+3) #[.int .u64 (q:Int)] 46) (pe:Pts w (h+4) #[.int .i64 e] 32) (be:Below h w0 w) :
 CallsD Tryz.prog 56 #[.pointer (some ⟨h+4,0,none⟩),.pointer (some ⟨h,0,none⟩),.pointer (some ⟨h+1,0,none⟩),.pointer (some ⟨h+2,0,none⟩),.pointer (some ⟨h+3,0,none⟩)] u w fun r u' w'=>u'=u∧(r=.returned (.tuple #[]) ∧
  (e=0→w'=w)∧(e≠0→Pts w' h #[.int .i64 0] 3∧Pts w' (h+1) #[.int .i64 0] 3∧Pts w' (h+2) #[.int .u64 0] 46∧Pts w' (h+3) #[.int .u64 0] 46∧Pts w' (h+4) #[.int .i64 e] 32∧Below h w0 w')):=by
 have c3:w.cell? ⟨h+4,0,none⟩=some (.int .i64 e):=pe.cell 0
 by_cases hz:e=0
 ·subst hz
  clear ps pn pp pq pe
  go_enter_d Tryz.func56,Tryz.ntmps56
  go_wp2
  go_end0
  exact ⟨rfl,fun _=>rfl,fun h=>absurd rfl h⟩
 have hz2:(e != 0)=true:=by simp [hz]
 have c0:w.cell? ⟨h,0,none⟩=some (.int .i64 s):=ps.cell 0
 have z0:=ps.frozen 0
 have c1:w.cell? ⟨h+1,0,none⟩=some (.int .i64 (n:Int)):=pn.cell 0
 have z1:=pn.frozen 0
 have c2:w.cell? ⟨h+2,0,none⟩=some (.int .u64 (p:Int)):=pp.cell 0
 have z2:=pp.frozen 0
 have c4:w.cell? ⟨h+3,0,none⟩=some (.int .u64 (q:Int)):=pq.cell 0
 have z4:=pq.frozen 0
 have R1:=hid ((((ps.set 0 (.int .i64 0)).other (p:=⟨h+1,0,none⟩) (by show h≠h+1;omega) (.int .i64 0)).other (p:=⟨h+2,0,none⟩) (by show h≠h+2;omega) (.int .u64 0)).other (p:=⟨h+3,0,none⟩) (by show h≠h+3;omega) (.int .u64 0))
 have R2:=hid ((((pn.other (p:=⟨h,0,none⟩) (by show h+1≠h;omega) (.int .i64 0)).set 0 (.int .i64 0)).other (p:=⟨h+2,0,none⟩) (by show h+1≠h+2;omega) (.int .u64 0)).other (p:=⟨h+3,0,none⟩) (by show h+1≠h+3;omega) (.int .u64 0))
 have R3:=hid ((((pp.other (p:=⟨h,0,none⟩) (by show h+2≠h;omega) (.int .i64 0)).other (p:=⟨h+1,0,none⟩) (by show h+2≠h+1;omega) (.int .i64 0)).set 0 (.int .u64 0)).other (p:=⟨h+3,0,none⟩) (by show h+2≠h+3;omega) (.int .u64 0))
 have R4:=hid ((((pq.other (p:=⟨h,0,none⟩) (by show h+3≠h;omega) (.int .i64 0)).other (p:=⟨h+1,0,none⟩) (by show h+3≠h+1;omega) (.int .i64 0)).other (p:=⟨h+2,0,none⟩) (by show h+3≠h+2;omega) (.int .u64 0)).set 0 (.int .u64 0))
 have R5:=hid ((((pe.other (p:=⟨h,0,none⟩) (by show h+4≠h;omega) (.int .i64 0)).other (p:=⟨h+1,0,none⟩) (by show h+4≠h+1;omega) (.int .i64 0)).other (p:=⟨h+2,0,none⟩) (by show h+4≠h+2;omega) (.int .u64 0)).other (p:=⟨h+3,0,none⟩) (by show h+4≠h+3;omega) (.int .u64 0))
 have R6:=hid ((((be.setCell (p:=⟨h,0,none⟩) (Nat.le_refl _) (.int .i64 0)).setCell (p:=⟨h+1,0,none⟩) (by show h≤h+1;omega) (.int .i64 0)).setCell (p:=⟨h+2,0,none⟩) (by show h≤h+2;omega) (.int .u64 0)).setCell (p:=⟨h+3,0,none⟩) (by show h≤h+3;omega) (.int .u64 0))
 have HZ:=hid hz
 clear ps pn pp pq pe hz
 go_enter_d Tryz.func56,Tryz.ntmps56
 go_wp2
 go_end0
 exact ⟨rfl,fun h=>absurd h HZ.out,fun _=>⟨R1.out,R2.out,R3.out,R4.out,R5.out,R6.out⟩⟩
abbrev bkcloD (h:Nat):Deferred:={ target:=.fn (.func 56) #[.pointer (some ⟨h+4,0,none⟩),.pointer (some ⟨h,0,none⟩),.pointer (some ⟨h+1,0,none⟩),.pointer (some ⟨h+2,0,none⟩),.pointer (some ⟨h+3,0,none⟩)],args:=#[] }
theorem bk_door (x:Int) (hx:x≠0) (s:Int) (n p q:Nat) (w0 w:World) (S:BkAt w0 w s n p q)
 (tmps:Array Value) (t2:tmps[2]?=some (.pointer (some ⟨w0.heap.size,0,none⟩))) (t3:tmps[3]?=some (.pointer (some ⟨w0.heap.size+1,0,none⟩))) (t4:tmps[4]?=some (.pointer (some ⟨w0.heap.size+2,0,none⟩))) (t5:tmps[5]?=some (.pointer (some ⟨w0.heap.size+3,0,none⟩))) (t6:tmps[6]?=some (.pointer (some ⟨w0.heap.size+4,0,none⟩))) :
 Leaves Tryz.prog Tryz.f34 tmps (BlkPost (0,0,0,0,x) w0) [caughtD (w0.heap.size+4),bkcloD w0.heap.size] (.panicking [{ v:=.iface 128 (.agg #[.int .i64 x]),recovered:=false }]) w:=by
 refine leaves_cons (f:=51) (args:=#[.pointer (some ⟨w0.heap.size+4,0,none⟩)]) (by simp) (by simp [go_sem]) ?_
 refine (catch_panicking (w0.heap.size+4) x 0 _ _ S.pe).mono ?_
 rintro e u' w1 ⟨rfl,rfl,hp,hf⟩
 refine leaves_cons (f:=56) (args:=#[.pointer (some ⟨w0.heap.size+4,0,none⟩),.pointer (some ⟨w0.heap.size,0,none⟩),.pointer (some ⟨w0.heap.size+1,0,none⟩),.pointer (some ⟨w0.heap.size+2,0,none⟩),.pointer (some ⟨w0.heap.size+3,0,none⟩)]) (by simp [settle]) (by simp [go_sem]) ?_
 refine (bkclo_any w0.heap.size s x n p q _ w0 _ rfl (S.ps.frm hf (by omega)) (S.pn.frm hf (by omega)) (S.pp.frm hf (by omega)) (S.pq.frm hf (by omega)) hp (S.be.trans (hf.below S.be.size (fun k hk=>by omega)))).mono ?_
 rintro e u' w2 ⟨rfl,rfl,_,h2⟩
 obtain ⟨q1,q2,q3,q4,q5,q6⟩:=h2 hx
 have c0:=q1.cell 0
 have c1:=q2.cell 0
 have c2:=q3.cell 0
 have c3:=q4.cell 0
 have c4:=q5.cell 0
 simp [Leaves,settle,results,Tryz.results34,go_sem,c0,c1,c2,c3,c4,t2,t3,t4,t5,t6,BlkPost,blkV]
 exact q6
theorem bk_end (s:Int) (n p q:Nat) (w0 w:World) (S:BkAt w0 w s n p q)
 (tmps:Array Value) (t2:tmps[2]?=some (.pointer (some ⟨w0.heap.size,0,none⟩))) (t3:tmps[3]?=some (.pointer (some ⟨w0.heap.size+1,0,none⟩))) (t4:tmps[4]?=some (.pointer (some ⟨w0.heap.size+2,0,none⟩))) (t5:tmps[5]?=some (.pointer (some ⟨w0.heap.size+3,0,none⟩))) (t6:tmps[6]?=some (.pointer (some ⟨w0.heap.size+4,0,none⟩))) :
 Leaves Tryz.prog Tryz.f34 tmps (BlkPost (s,n,p,q,0) w0) [caughtD (w0.heap.size+4),bkcloD w0.heap.size] .returning w:=by
 refine leaves_cons (f:=51) (args:=#[.pointer (some ⟨w0.heap.size+4,0,none⟩)]) (by simp) (by simp [go_sem]) ?_
 refine (catch_idle _ _).mono ?_
 rintro e u' w1 ⟨rfl,rfl,rfl⟩
 refine leaves_cons (f:=56) (args:=#[.pointer (some ⟨w0.heap.size+4,0,none⟩),.pointer (some ⟨w0.heap.size,0,none⟩),.pointer (some ⟨w0.heap.size+1,0,none⟩),.pointer (some ⟨w0.heap.size+2,0,none⟩),.pointer (some ⟨w0.heap.size+3,0,none⟩)]) (by simp [settle]) (by simp [go_sem]) ?_
 refine (bkclo_any w0.heap.size s 0 n p q _ w0 _ rfl S.ps S.pn S.pp S.pq S.pe S.be).mono ?_
 rintro e u' w2 ⟨rfl,rfl,h2,_⟩
 obtain rfl:=h2 rfl
 have c0:=S.ps.cell 0
 have c1:=S.pn.cell 0
 have c2:=S.pp.cell 0
 have c3:=S.pq.cell 0
 have c4:=S.pe.cell 0
 simp [Leaves,settle,results,Tryz.results34,go_sem,c0,c1,c2,c3,c4,t2,t3,t4,t5,t6,BlkPost,blkV]
 exact S.be
end Go.Proofs.YtablgjhnpphodaaGreat
namespace Go.Proofs.YtablgjhnpphodaaGreat.Opn
open Go.ChangeShapes Go.WideShapes Go.Deep Go.RowKit
section
variable {H : Type} {enc : TypeId × Value → H} {P : Program} {w : World}
end
end Go.Proofs.YtablgjhnpphodaaGreat.Opn
namespace Go.Proofs.YtablgjhnpphodaaGreat
open Lib (hid)
open Go.RowKit Box
end Go.Proofs.YtablgjhnpphodaaGreat
