import Derived.Lib.SlBytesConst
import Derived.Test.YtffehfpbdcokbaaGreatBu25
import Derived.Test.YtffehfpbdcokbaaGreatBu26
import Derived.Test.YtffehfpbdcokbaaGreatBu44
set_option linter.unusedVariables false
set_option linter.unusedSimpArgs false
namespace Go.Proofs.YtffehfpbdcokbaaGreat
open Lib (hid)
open Go.RowKit Rng Win Lz
theorem or8 (x y:Nat) (h1:x<256) (h2:y<256):bits .or .i64 ((x:Int)*256) (y:Int)=((x*256+y:Nat):Int):=by
 have e:(x:Int)*256=((x*256:Nat):Int):=by omega
 show IntKind.i64.wrap ((BitVec.ofInt 64 ((x:Int)*256) ||| BitVec.ofInt 64 (y:Int)).toNat:Int)=_
 rw [e,BitVec.toNat_or,ofInt_u64 (x*256) (by omega),ofInt_u64 y (by omega)]
 have h:=Nat.two_pow_add_eq_or_of_lt (i:=8) (b:=y) h2 x
 rw [show (2:Nat) ^ 8*x=x*256 by omega] at h
 rw [← h]
 exact Go.IntWalk.i64_in _ (by omega)
theorem toldGo_stop {b:List UInt8} {f a m:Nat} (h:¬ (a+3≤b.length∧m≤262144)):toldGo b f a m=m:=by
 cases f with
 | zero=>rfl
 | succ f=>unfold toldGo;rw [if_neg h]
set_option maxRecDepth 8000 in
set_option maxHeartbeats 4000000 in
theorem told_p (A:Option Addr) (bs:List UInt8) (n c:Nat) (w:World) (hn:n=bs.length) (hr:BRow w w.heap.size A bs) (hc:n≤c) (hb:n≤4611686018427387904) :
 Calls Tryz.prog 5 #[.slice A n c] w fun e w'=>e=.returned (.int .i64 ((toldP bs:Nat):Int))∧Below w.heap.size w w':=by
 obtain ⟨R,hR⟩:∃ R,toldP bs=R:=⟨_,rfl⟩
 rw [hR]
 have HR:=hid hr
 have HN:=hid hn
 have HP:=hid hR
 have HB:=hid hb
 clear hr hn hR hb
 go_enter Tryz.func5,Tryz.ntmps5
 go_wp2
 go_loopg [3,4] (bs.length+1) (fun f nv av wr=>∃ (m a:Nat),nv=.int .i64 m∧av=.int .i64 a∧toldGo bs f a m=R∧BRow wr w.heap.size A bs∧Below w.heap.size w wr∧a≤n+70000∧m≤2621440∧bs.length<f+a)
 case atStart=>exact ⟨0,0,rfl,rfl,HP.out,HR.out,Below.refl _ _,by omega,by omega,by omega⟩
 case round =>
 obtain ⟨m,a,rfl,rfl,ht,hr,hbe,ha,hm,hf⟩:=hrel
 have HT:=hid ht
 have HF:=hid hf
 have BE:=hid hbe
 have HRW:=hid hr
 obtain ⟨a3,ha3⟩:∃ x,a+3=x:=⟨_,rfl⟩
 have i3:(a:Int)+3=(a3:Int):=by omega
 have w3:IntKind.i64.wrap (a3:Int)=(a3:Int):=Go.IntWalk.i64_in _ (by have:=HB.out;omega)
 have HA3:=hid ha3
 clear ht hf hbe hr ha3
 by_cases h1:a3≤n
 ·have q1:(a3:Int)≤(n:Int):=by omega
  by_cases h2:m≤262144
  ·have q2:(m:Int)≤262144:=by omega
   obtain ⟨ab,ao,rfl,hab,hcell⟩:=HRW.out (by have:=HN.out;omega)
   obtain ⟨g,rfl⟩:∃ g,gk=g+1:=⟨gk-1,by have:=HF.out;have:=HN.out;have:=HA3.out;omega⟩
   have hstep:=HT.out
   unfold toldGo at hstep
   rw [if_pos ⟨by have:=HN.out;have:=HA3.out;omega,h2⟩] at hstep
   obtain ⟨c0,hc0⟩:∃ c,(bs.getD a 0).toNat=c:=⟨_,rfl⟩
   obtain ⟨x1,hx1⟩:∃ c,(bs.getD (a+1) 0).toNat=c:=⟨_,rfl⟩
   obtain ⟨x2,hx2⟩:∃ c,(bs.getD (a+2) 0).toNat=c:=⟨_,rfl⟩
   have hc256:c0<256:=by rw [← hc0];exact (bs.getD a 0).toNat_lt
   have hx1b:x1<256:=by rw [← hx1];exact (bs.getD (a+1) 0).toNat_lt
   have hx2b:x2<256:=by rw [← hx2];exact (bs.getD (a+2) 0).toNat_lt
   have b0:wr.cell? ⟨ab,ao+a,none⟩=some (.int .u8 (c0:Int)):=by rw [← hc0];exact hcell a (by have:=HN.out;have:=HA3.out;omega)
   obtain ⟨a1,ha1⟩:∃ x,a+1=x:=⟨_,rfl⟩
   obtain ⟨a2,ha2⟩:∃ x,a+2=x:=⟨_,rfl⟩
   have b1:wr.cell? ⟨ab,ao+a1,none⟩=some (.int .u8 (x1:Int)):=by rw [← hx1,← ha1];exact hcell (a+1) (by have:=HN.out;have:=HA3.out;omega)
   have b2:wr.cell? ⟨ab,ao+a2,none⟩=some (.int .u8 (x2:Int)):=by rw [← hx2,← ha2];exact hcell (a+2) (by have:=HN.out;have:=HA3.out;omega)
   have i1:(a:Int)+1=(a1:Int):=by omega
   have i2:(a:Int)+2=(a2:Int):=by omega
   have w1:IntKind.i64.wrap (a1:Int)=(a1:Int):=Go.IntWalk.i64_in _ (by have:=HB.out;omega)
   have w2:IntKind.i64.wrap (a2:Int)=(a2:Int):=Go.IntWalk.i64_in _ (by have:=HB.out;omega)
   obtain ⟨sz,hsz⟩:∃ x,x1*256+x2=x:=⟨_,rfl⟩
   have htw:twoB bs (a+1)=sz:=by unfold twoB;rw [hx1,show a+1+1=a+2 from rfl,hx2];exact hsz
   have hszb:sz<65536:=by omega
   have hor:=or8 x1 x2 hx1b hx2b
   rw [hsz] at hor
   have hwx:IntKind.i64.wrap (x1:Int)=(x1:Int):=Go.IntWalk.i64_in _ (by omega)
   have hwy:IntKind.i64.wrap (x2:Int)=(x2:Int):=Go.IntWalk.i64_in _ (by omega)
   have hwx2:IntKind.i64.wrap ((x1:Int)*256)=(x1:Int)*256:=Go.IntWalk.i64_in _ (by omega)
   have l0:(a:Int)<(n:Int):=by omega
   have l1:(a1:Int)<(n:Int):=by omega
   have l2:(a2:Int)<(n:Int):=by omega
   rw [hc0,htw] at hstep
   have HC:=hid hcell
   have HST:=hid hstep
   have HI:=hid (And.intro ha1 ha2)
   have H1:=hid h1
   have H2:=hid h2
   clear hstep hc0 hx1 hx2 ha1 ha2 hsz htw hcell h1 h2 hx1b hx2b
   go_upto_region 5 with fail
   go_still (by kernel_rfl)
   obtain ⟨wd,hwd⟩:∃ wd,wr.drew=wd:=⟨_,rfl⟩
   have BE2:Hid (Below w.heap.size w wd):=hid (by rw [← hwd];exact BE.out.drew)
   have HR2:Hid (BRow wd w.heap.size (some ⟨ab,ao,none⟩) bs):=hid (by rw [← hwd];exact HRW.out)
   rw [show ({ heap:=wr.heap,tape:=wr.tape,drawn:=wr.drawn+1,os:=wr.os,output:=wr.output }:World)=wd from hwd]
   obtain ⟨m1,hm1⟩:∃ x,m+sz=x:=⟨_,rfl⟩
   have j1:(m:Int)+(sz:Int)=(m1:Int):=by omega
   have v1:IntKind.i64.wrap (m1:Int)=(m1:Int):=Go.IntWalk.i64_in _ (by have:=H2.out;omega)
   clear hwd b0 b1 b2 BE HRW hor hwx hwy hwx2 l0 l1 l2 w1 w2 i1 i2
   by_cases h12:c0=1∨c0=2
   ·have HST2:Hid (toldGo bs g (a+3+sz+1) (m+sz+1)=R):=hid (by have:=HST.out;rw [if_pos h12] at this;exact this)
    obtain ⟨m2,hm2⟩:∃ x,m1+1=x:=⟨_,rfl⟩
    have j2:(m1:Int)+1=(m2:Int):=by omega
    have v2:IntKind.i64.wrap (m2:Int)=(m2:Int):=Go.IntWalk.i64_in _ (by have:=H2.out;omega)
    obtain ⟨a4,ha4⟩:∃ x,a3+sz=x:=⟨_,rfl⟩
    have i4:(a3:Int)+(sz:Int)=(a4:Int):=by omega
    have w4:IntKind.i64.wrap (a4:Int)=(a4:Int):=Go.IntWalk.i64_in _ (by have:=HB.out;have:=H1.out;omega)
    obtain ⟨a5,ha5⟩:∃ x,a4+1=x:=⟨_,rfl⟩
    have i5:(a4:Int)+1=(a5:Int):=by omega
    have w5:IntKind.i64.wrap (a5:Int)=(a5:Int):=Go.IntWalk.i64_in _ (by have:=HB.out;have:=H1.out;omega)
    have HQ:=hid (And.intro (And.intro hm1 hm2) (And.intro ha4 ha5))
    clear hm1 hm2 ha4 ha5
    have hcc:((c0:Int)==1)=true∨(((c0:Int)==1)=false∧((c0:Int)==2)=true):=by
     rcases h12 with h | h
     ·exact .inl (beq_iff_eq.2 (by omega))
     exact .inr ⟨beq_eq_false_iff_ne.2 (by omega),beq_iff_eq.2 (by omega)⟩
    clear h12
    rcases hcc with q5 | ⟨q5,q6⟩
    all_goals
     go_wp2
     go_roundg g
     case rel =>
      have h1:=HQ.out.1
      have h2:=HQ.out.2
      have h3:=HA3.out
      have h4:=H1.out
      have h5:=H2.out
      have h6:=HF.out
      exact ⟨m2,a5,rfl,rfl,by rw [← HST2.out,show m+sz+1=m2 by omega,show a+3+sz+1=a5 by omega],HR2.out,BE2.out,by omega,by omega,by omega⟩
     case measure=>omega
   have q5:((c0:Int)==1)=false:=beq_eq_false_iff_ne.2 (by omega)
   have q6:((c0:Int)==2)=false:=beq_eq_false_iff_ne.2 (by omega)
   have HST2:=hid (by have:=HST.out;rw [if_neg h12] at this;exact this)
   clear h12 HST
   obtain ⟨a6,ha6⟩:∃ x,a+6=x:=⟨_,rfl⟩
   have i6:(a:Int)+6=(a6:Int):=by omega
   have w6:IntKind.i64.wrap (a6:Int)=(a6:Int):=Go.IntWalk.i64_in _ (by have:=HB.out;have:=H1.out;omega)
   by_cases h128:128≤c0
   ·have q7:(128:Int)≤(c0:Int):=by omega
    by_cases h6:a6≤n
    ·have q8:(a6:Int)≤(n:Int):=by omega
     have HST3:=hid (by have:=HST2.out;rw [if_pos ⟨h128,by have:=HN.out;omega⟩] at this;exact this)
     have a31:=and31 c0 hc256
     obtain ⟨c31,hc31⟩:∃ v,c0 % 32=v:=⟨_,rfl⟩
     have hcl:c31<32:=by omega
     rw [hc31] at a31
     have hw31:IntKind.i64.wrap (c31:Int)=(c31:Int):=Go.IntWalk.i64_in _ (by omega)
     have hw32:IntKind.i64.wrap ((c31:Int)*65536)=(c31:Int)*65536:=Go.IntWalk.i64_in _ (by omega)
     obtain ⟨ma,hma⟩:∃ x,m+c31*65536=x:=⟨_,rfl⟩
     obtain ⟨mb,hmb⟩:∃ x,ma+sz=x:=⟨_,rfl⟩
     obtain ⟨mc,hmc⟩:∃ x,mb+1=x:=⟨_,rfl⟩
     have k1:(m:Int)+(c31:Int)*65536=(ma:Int):=by omega
     have k2:(ma:Int)+(sz:Int)=(mb:Int):=by omega
     have k3:(mb:Int)+1=(mc:Int):=by omega
     have z1:IntKind.i64.wrap (ma:Int)=(ma:Int):=Go.IntWalk.i64_in _ (by have:=H2.out;omega)
     have z2:IntKind.i64.wrap (mb:Int)=(mb:Int):=Go.IntWalk.i64_in _ (by have:=H2.out;omega)
     have z3:IntKind.i64.wrap (mc:Int)=(mc:Int):=Go.IntWalk.i64_in _ (by have:=H2.out;omega)
     have HQ:=hid (And.intro hma (And.intro hmb hmc))
     obtain ⟨x3,hx3⟩:∃ c,(bs.getD (a+3) 0).toNat=c:=⟨_,rfl⟩
     obtain ⟨x4,hx4⟩:∃ c,(bs.getD (a+4) 0).toNat=c:=⟨_,rfl⟩
     have hx3b:x3<256:=by rw [← hx3];exact (bs.getD (a+3) 0).toNat_lt
     have hx4b:x4<256:=by rw [← hx4];exact (bs.getD (a+4) 0).toNat_lt
     obtain ⟨a4,ha4⟩:∃ x,a+4=x:=⟨_,rfl⟩
     have b3:wd.cell? ⟨ab,ao+a3,none⟩=some (.int .u8 (x3:Int)):=by rw [← hx3,← HA3.out];exact HR2.out.addr (k:=a+3) (by have:=HN.out;omega)
     have b4:wd.cell? ⟨ab,ao+a4,none⟩=some (.int .u8 (x4:Int)):=by rw [← hx4,← ha4];exact HR2.out.addr (k:=a+4) (by have:=HN.out;omega)
     have i4:(a:Int)+4=(a4:Int):=by omega
     have w4:IntKind.i64.wrap (a4:Int)=(a4:Int):=Go.IntWalk.i64_in _ (by have:=HB.out;have:=H1.out;omega)
     have l3:(a3:Int)<(n:Int):=by omega
     have l4:(a4:Int)<(n:Int):=by omega
     have hwx:IntKind.i64.wrap (x3:Int)=(x3:Int):=Go.IntWalk.i64_in _ (by omega)
     have hwy:IntKind.i64.wrap (x4:Int)=(x4:Int):=Go.IntWalk.i64_in _ (by omega)
     have hwx2:IntKind.i64.wrap ((x3:Int)*256)=(x3:Int)*256:=Go.IntWalk.i64_in _ (by omega)
     obtain ⟨a5,ha5⟩:∃ x,a+5=x:=⟨_,rfl⟩
     obtain ⟨ad,had⟩:∃ x,a5+x3*256=x:=⟨_,rfl⟩
     obtain ⟨ae,hae⟩:∃ x,ad+x4=x:=⟨_,rfl⟩
     obtain ⟨af,haf⟩:∃ x,ae+1=x:=⟨_,rfl⟩
     obtain ⟨ag,hag⟩:∃ x,af+1=x:=⟨_,rfl⟩
     have i5:(a:Int)+5=(a5:Int):=by omega
     have id5:(a5:Int)+(x3:Int)*256=(ad:Int):=by omega
     have ie5:(ad:Int)+(x4:Int)=(ae:Int):=by omega
     have if5:(ae:Int)+1=(af:Int):=by omega
     have ig5:(af:Int)+1=(ag:Int):=by omega
     have w5:IntKind.i64.wrap (a5:Int)=(a5:Int):=Go.IntWalk.i64_in _ (by have:=HB.out;have:=H1.out;omega)
     have wd5:IntKind.i64.wrap (ad:Int)=(ad:Int):=Go.IntWalk.i64_in _ (by have:=HB.out;have:=H1.out;omega)
     have we5:IntKind.i64.wrap (ae:Int)=(ae:Int):=Go.IntWalk.i64_in _ (by have:=HB.out;have:=H1.out;omega)
     have wf5:IntKind.i64.wrap (af:Int)=(af:Int):=Go.IntWalk.i64_in _ (by have:=HB.out;have:=H1.out;omega)
     have wg5:IntKind.i64.wrap (ag:Int)=(ag:Int):=Go.IntWalk.i64_in _ (by have:=HB.out;have:=H1.out;omega)
     have HQ2:Hid (twoB bs (a+3)=x3*256+x4∧a+5=a5∧a5+x3*256=ad∧ad+x4=ae∧ae+1=af∧af+1=ag∧x3<256∧x4<256∧c31<32):=hid ⟨by unfold twoB;rw [hx3,show a+3+1=a+4 from rfl,hx4],ha5,had,hae,haf,hag,hx3b,hx4b,hcl⟩
     have HC31:=hid hc31
     clear HST2 h128 h6 hma hmb hmc hx3 hx4 hx3b hx4b ha4 ha5 had hae haf hag hc31 hcl
     by_cases h192:192≤c0
     ·have q9:(192:Int)≤(c0:Int):=by omega
      have HST4:Hid (toldGo bs g (a+5+twoB bs (a+3)+1+1) (m+c0 % 32*65536+sz+1)=R):=hid (by have:=HST3.out;rw [if_pos h192] at this;exact this)
      clear HST3 h192
      go_upto_region 12 with fail
      go_still (by kernel_rfl)
      obtain ⟨we,hwe⟩:∃ we,wd.drew=we:=⟨_,rfl⟩
      have BE3:Hid (Below w.heap.size w we):=hid (by rw [← hwe];exact BE2.out.drew)
      have HR3:Hid (BRow we w.heap.size (some ⟨ab,ao,none⟩) bs):=hid (by rw [← hwe];exact HR2.out)
      rw [show ({ heap:=wd.heap,tape:=wd.tape,drawn:=wd.drawn+1,os:=wd.os,output:=wd.output }:World)=we from hwe]
      clear hwe b3 b4
      go_wp2
      go_roundg g
      case rel =>
       obtain ⟨y1,y2,y3,y4,y5,y6,y7,y8,y9⟩:=HQ2.out
       obtain ⟨z1,z2,z3⟩:=HQ.out
       have h1:=H1.out
       have h2:=H2.out
       have h3:=HA3.out
       have h6:=HF.out
       exact ⟨mc,ag,rfl,rfl,by rw [← HST4.out,HC31.out,y1,show m+c31*65536+sz+1=mc by omega,show a+5+(x3*256+x4)+1+1=ag by omega],HR3.out,BE3.out,by omega,by omega,by omega⟩
      case measure=>omega
     have q9:(c0:Int)<192:=by omega
     have HST4:Hid (toldGo bs g (a+5+twoB bs (a+3)+1) (m+c0 % 32*65536+sz+1)=R):=hid (by have:=HST3.out;rw [if_neg h192] at this;exact this)
     clear HST3 h192
     go_upto_region 12 with fail
     go_still (by kernel_rfl)
     obtain ⟨we,hwe⟩:∃ we,wd.drew=we:=⟨_,rfl⟩
     have BE3:Hid (Below w.heap.size w we):=hid (by rw [← hwe];exact BE2.out.drew)
     have HR3:Hid (BRow we w.heap.size (some ⟨ab,ao,none⟩) bs):=hid (by rw [← hwe];exact HR2.out)
     rw [show ({ heap:=wd.heap,tape:=wd.tape,drawn:=wd.drawn+1,os:=wd.os,output:=wd.output }:World)=we from hwe]
     clear hwe b3 b4
     go_wp2
     go_roundg g
     case rel =>
      obtain ⟨y1,y2,y3,y4,y5,y6,y7,y8,y9⟩:=HQ2.out
      obtain ⟨z1,z2,z3⟩:=HQ.out
      have h1:=H1.out
      have h2:=H2.out
      have h3:=HA3.out
      have h6:=HF.out
      exact ⟨mc,af,rfl,rfl,by rw [← HST4.out,HC31.out,y1,show m+c31*65536+sz+1=mc by omega,show a+5+(x3*256+x4)+1=af by omega],HR3.out,BE3.out,by omega,by omega,by omega⟩
     case measure=>omega
    have q8:(n:Int)<(a6:Int):=by omega
    have hst:m=R:=by have:=HST2.out;rw [if_neg (fun h=>by have:=HN.out;omega)] at this;exact this
    subst hst
    clear h6 HST2
    go_wp2
    go_ret
    exact ⟨rfl,BE2.out⟩
   have q7:(c0:Int)<128:=by omega
   have hst:m=R:=by have:=HST2.out;rw [if_neg (fun h=>h128 h.1)] at this;exact this
   subst hst
   clear h128 HST2
   go_wp2
   go_ret
   exact ⟨rfl,BE2.out⟩
  have q2:(262144:Int)<(m:Int):=by omega
  have hst:=toldGo_stop (b:=bs) (f:=gk) (a:=a) (m:=m) (by omega)
  rw [HT.out] at hst
  subst hst
  clear h1 h2
  go_wp2
  go_ret
  exact ⟨rfl,BE.out⟩
 have q1:(n:Int)<(a3:Int):=by omega
 have hst:=toldGo_stop (b:=bs) (f:=gk) (a:=a) (m:=m) (by have:=HN.out;have:=HA3.out;omega)
 rw [HT.out] at hst
 subst hst
 clear h1
 go_wp2
 go_ret
 exact ⟨rfl,BE.out⟩
open Go.RowKit Rng Win Lz Fnd
theorem dec_ok {S m u:Nat} {bs T r:List UInt8} {w w':World} {e:Ending} (h:DecEnd S bs w e w') (hd:d2P S 16777216 bs=(T,.inr r)) (hm:T.length=m) (hu:bs.length-r.length=u) :
 ∃ A c,e=.returned (.tuple #[.slice A m c,.int .i64 (u:Int),.int .i64 0])∧OwnB w' 5 w.heap.size (.slice A m c) T∧BRow w' w'.heap.size A T∧Below w.heap.size w w':=by
 subst hm;subst hu
 obtain ⟨v,h1,h2,h3⟩:=h
 rw [hd] at h1 h3
 obtain ⟨A,c,rfl,-,-,hr⟩:=h1.slice
 exact ⟨A,c,h3.2,h1,hr,h2⟩
theorem dec_err {S z m:Nat} {bs T:List UInt8} {w w':World} {e:Ending} (h:DecEnd S bs w e w') (hd:d2P S 16777216 bs=(T,.inl z)) (hm:T.length=m) :
 ∃ A c,e=.returned (.tuple #[.slice A m c,.int .i64 0,.int .i64 ((z:Nat):Int)])∧OwnB w' 5 w.heap.size (.slice A m c) T∧BRow w' w'.heap.size A T∧Below w.heap.size w w'∧z≠0:=by
 subst hm
 obtain ⟨v,h1,h2,h3⟩:=h
 rw [hd] at h1 h3
 obtain ⟨A,c,rfl,-,-,hr⟩:=h1.slice
 exact ⟨A,c,h3.2,h1,hr,h2,h3.1⟩
theorem dec_row (w:World) (bs:List UInt8) (cs:Array Value) (k S:Nat) (h:cs=(bs.map byteV).toArray) (hk:k=bs.length) (hb:bs.length≤1000) (h1:1≤S) (h2:S≤16777216) :
 Calls Tryz.prog 7 #[.slice (some ⟨w.heap.size,0,none⟩) k k,.int .i64 (S:Int)] (w.alloc (.cells cs 5)) (DecEnd S bs (w.alloc (.cells cs 5))) :=
 decode_p _ bs k k S _ hk (by rw [World.size_alloc];exact row_cells w _ bs _ h) (Nat.le_refl _) (by unfold maxLen;omega) (by omega) h1 h2
theorem row_cellsF (w:World) (T:TypeId) (fz:Nat×Nat) (bs:List UInt8) (cs:Array Value) (h:cs=(bs.map byteV).toArray):BRow (w.alloc (.cells cs T fz)) (w.heap.size+1) (some ⟨w.heap.size,0,none⟩) bs:=by
 intro _
 subst h
 refine ⟨w.heap.size,0,rfl,Nat.lt_succ_self _,fun j hj=>?_⟩
 have hp:=World.alloc_heap_new w (.cells (bs.map byteV).toArray T fz)
 have h:(w.alloc (.cells (bs.map byteV).toArray T fz)).cell? ⟨w.heap.size,0+j,none⟩=(bs.map byteV).toArray[0+j]?:=by unfold World.cell?;simp only;rw [hp];rfl
 rw [h,Nat.zero_add,List.getElem?_toArray,List.getElem?_map,List.getElem?_eq_getElem hj,List.getD_eq_getElem?_getD,List.getElem?_eq_getElem hj]
 rfl
def wk1:List UInt8:=[1,0,2,97,98,99,0]
def wk2:List UInt8:=[1,0,2,97,98]
def wk3:List UInt8:=[2,0,2,97,98,99,0]
def abcM:List UInt8:=[97,98,99]
theorem wk1_d:d2P 9 16777216 wk1=(abcM,.inr []):=by kernel_rfl
theorem wk2_d:d2P 9 16777216 wk2=([],.inl 10):=by kernel_rfl
theorem wk3_d:d2P 9 16777216 wk3=([],.inl 11):=by kernel_rfl
theorem wk4_d {x:List UInt8} (h:IsEnc abcM 0 x):d2P 9 16777216 (x++[0])=(abcM,.inr []):=by
 have:=pieces_read 9 16777216 (b:=abcM) (by decide) (by decide) (by decide) [x] ⟨3,by decide,by decide,h,rfl⟩
 simpa using this
set_option maxRecDepth 100000 in
set_option maxHeartbeats 4000000 in
theorem wakes16 (w:World):Calls Tryz.prog 6 #[] w fun e w'=>e=.returned (.bool true)∧Below w.heap.size w w':=by
 have hcv:=fun (w:World) (C:Array Value) (n c:Nat)=>Lib.run_convert_bytes_const (P:=Tryz.prog) w 22 5 C n c Tryz.underlying22 Tryz.underlying5
 go_enter Tryz.func6,Tryz.ntmps6
 go_wp2_with fail
 refine (dec_row w wk1 _ 7 9 rfl rfl (by decide) (by omega) (by omega)).mono ?_;rintro e w1 hd
 obtain ⟨A1,c1,rfl,-,hr1,hb1⟩:=dec_ok (m:=3) (u:=7) hd wk1_d rfl rfl
 have R1:=hid hr1
 have B1:=hid ((below_alloc w _).trans (hb1.mono (below_alloc w _).size))
 clear hd hr1 hb1
 go_wp2_with fail
 refine (dec_row w1 wk2 _ 5 9 rfl rfl (by decide) (by omega) (by omega)).mono ?_;rintro e w2 hd
 obtain ⟨A2,c2,rfl,-,-,hb2,-⟩:=dec_err (m:=0) hd wk2_d rfl
 have hb:=(below_alloc w1 (.cells #[.int .u8 1,.int .u8 0,.int .u8 2,.int .u8 97,.int .u8 98] 5)).trans (hb2.mono (below_alloc w1 _).size)
 have R2:=hid (R1.out.below hb)
 have B2:=hid (B1.out.trans (hb.mono B1.out.size))
 have Z2:=hid hb.size
 clear hd hb2 hb
 go_wp2_with fail
 refine (dec_row w2 wk3 _ 7 9 rfl rfl (by decide) (by omega) (by omega)).mono ?_;rintro e w3 hd
 obtain ⟨A3,c3,rfl,-,-,hb3,-⟩:=dec_err (m:=0) hd wk3_d rfl
 have hb:=(below_alloc w2 (.cells #[.int .u8 2,.int .u8 0,.int .u8 2,.int .u8 97,.int .u8 98,.int .u8 99,.int .u8 0] 5)).trans (hb3.mono (below_alloc w2 _).size)
 have R3:=hid ((R2.out.more Z2.out).below hb)
 have B3:=hid (B2.out.trans (hb.mono B2.out.size))
 have Z3:=hid hb.size
 clear hd hb3 hb
 go_wp2_with fail
 refine (encode_p (some ⟨w3.heap.size,0,none⟩) abcM 3 3 0 1 _ rfl (by decide) (by unfold maxLen;omega) (by rw [World.size_alloc];exact row_cellsF w3 _ _ abcM _ rfl) (by decide) (by decide)).mono ?_
 rintro e w4 ⟨v,x,rfl,ho,hx,hb⟩
 have hb':=(below_alloc w3 (.cells #[.int .u8 97,.int .u8 98,.int .u8 99] 5 (3,4))).trans (hb.mono (below_alloc w3 _).size)
 obtain ⟨A4,c4,rfl,hc4,hm4,hr4⟩:=ho.slice
 have R4:=hid ((R3.out.more Z3.out).below hb')
 have B4:=hid (B3.out.trans (hb'.mono B3.out.size))
 have Z4:=hid hb'.size
 have X4:=hid hx
 have RX:=hid hr4
 obtain ⟨L,hL⟩:∃ L,x.length=L:=⟨_,rfl⟩
 have hLb:L≤6:=by have:=(isEnc_len hx).1;have h3:abcM.length=3:=rfl;omega
 rw [hL]
 have HL:=hid hL
 clear ho hx hb hb' hc4 hm4 hr4 hL
 go_wp2_with (at_builtin;refine wpList_append_bytes _ rfl (.tmp 40) (.tmp 41) 22 rfl 5 w.heap.size Tryz.underlying22 Tryz.info_u8 (.slice (some ⟨w4.heap.size,0,none⟩) 0 0) [] rfl ?own1 A4 L c4 w4.heap.size x rfl HL.out.symm ?row1 ?len1 ?base1 ?next1)
 case own1=>exact OwnB.made w4 _ _ (by have:=B4.out.size;omega)
 case row1=>exact RX.out.below (below_alloc w4 _)
 case len1=>rw [HL.out];simp;omega
 case base1=>have:=B4.out.size;simp;omega
 case next1 =>
 intro v5 w5 hown5 hfrm5 hnew5
 have hb5:Below w4.heap.size w4 w5:=(below_alloc w4 _).trans (hfrm5.below (by simp) (fun q hq=>by have e:some w4.heap.size=some q:=hq;injection e with e;omega))
 obtain ⟨A5,c5,hv5,-,-,-⟩:=hown5.slice
 rw [HL.out] at hv5
 subst hv5
 have O5:=hid hown5
 have O5n:=hid hnew5
 have B5:=hid hb5
 clear hown5 hfrm5 hnew5 hb5
 go_wp2_with (at_builtin;refine wpList_append_bytes _ rfl (.tmp 42) (.tmp 43) 22 rfl 5 w.heap.size Tryz.underlying22 Tryz.info_u8 _ x rfl ?own2 (some ⟨w5.heap.size,0,none⟩) 1 1 (w5.heap.size+1) [0] rfl rfl ?row2 ?len2 ?base2 ?next2)
 case own2=>exact O5.out.alloc _
 case row2=>exact row_cells w5 _ [0] _ rfl
 case len2=>rw [HL.out];simp;omega
 case base2=>have:=B4.out.size;have:=B5.out.size;simp;omega
 case next2 =>
 intro v6 w6 hown6 hfrm6 hnew6
 have hb6:Below w4.heap.size w4 w6:=(B5.out.trans ((below_alloc w5 _).mono B5.out.size)).trans (hfrm6.below (by have:=B5.out.size;simp;omega) (fun q hq=>by
  rcases O5n.out with e | e
  ·rw [e] at hq;have e2:some w4.heap.size=some q:=hq;injection e2 with e2;omega
  rw [e] at hq;have e2:w4.heap.size+1=q:=Option.some.inj hq
  omega))
 obtain ⟨A6,c6,hv6,hc6,hm6,hr6⟩:=hown6.slice
 have e6:(x++[0]).length=L+1:=by rw [List.length_append,HL.out];rfl
 obtain ⟨L1,hL1⟩:∃ L1,L+1=L1:=⟨_,rfl⟩
 rw [e6,hL1] at hv6
 subst hv6
 have hB6:=B4.out.trans (hb6.mono B4.out.size)
 have R6:=hid ((R4.out.more Z4.out).below hb6)
 have B6:=hid hB6
 have Z6:=hid hb6.size
 have HD:=hid (decode_p A6 (x++[0]) L1 c6 9 w6 (by rw [e6,hL1]) hr6 (by rw [← hL1,← e6];exact hc6) hm6 (by omega) (by omega) (by omega))
 have E6:=hid (And.intro e6 hL1)
 clear hown6 hfrm6 hnew6 hb6 hc6 hm6 hr6 hB6 e6 hL1
 go_wp2_with fail
 refine HD.out.mono ?_;rintro e w7 hd
 obtain ⟨A7,c7,rfl,-,hr7,hb7⟩:=dec_ok (m:=3) (u:=L1) hd (wk4_d X4.out) rfl (by rw [E6.out.1,E6.out.2];rfl)
 have R7:=hid ((R6.out.more Z6.out).below hb7)
 have B7:=hid (B6.out.trans (hb7.mono B6.out.size))
 have RD7:=hid hr7
 clear hd hr7 hb7
 have k1:=run_conv_bytes (P:=Tryz.prog) w7 22 9 5 Tryz.underlying22 Tryz.underlying5 Tryz.underlying9 A1 3 c1 _ abcM rfl R7.out
 have k2:=run_conv_bytes (P:=Tryz.prog) w7 22 9 5 Tryz.underlying22 Tryz.underlying5 Tryz.underlying9 A7 3 c7 _ abcM rfl RD7.out
 have e3:abcM.toArray=#[97,98,99]:=rfl
 rw [e3] at k1 k2
 clear e3
 have j1:(L:Int)+1=(L1:Int):=by have:=E6.out.2;omega
 have v1:IntKind.i64.wrap (L1:Int)=(L1:Int):=Go.IntWalk.i64_in _ (by have:=E6.out.2;omega)
 go_wp2
 go_ret
 exact ⟨rfl,B7.out⟩
open Go.RowKit Rng Win Lz
def Ans (T:List UInt8) (u z:Nat) (w:World) (e:Ending) (w':World):Prop :=
 ∃ A c,e=.returned (.tuple #[.slice A T.length c,.int .i64 (u:Int),.int .i64 (z:Int)])∧BRow w' w'.heap.size A T∧Below w.heap.size w w'
theorem ans_of (S:Nat) (bs:List UInt8):∃ T u z,∀ w e w',DecEnd S bs w e w'→Ans T u z w e w':=by
 cases hd:d2P S 16777216 bs with
 | mk T R =>
  cases R with
  | inl z =>
   refine ⟨T,0,z,fun w e w' h=>?_⟩
   obtain ⟨A,c,h1,h2,h3,h4,-⟩:=dec_err (m:=T.length) h hd rfl
   exact ⟨A,c,h1,h3,h4⟩
  | inr r =>
   refine ⟨T,bs.length-r.length,0,fun w e w' h=>?_⟩
   obtain ⟨A,c,h1,h2,h3,h4⟩:=dec_ok (m:=T.length) (u:=bs.length-r.length) h hd rfl rfl
   exact ⟨A,c,h1,h3,h4⟩
theorem both_ans (S:Int) (bs:List UInt8) (hb:bs.length≤32768):∃ T u z,∀ (A:Option Addr) (n c:Nat) (w:World),n=bs.length→BRow w w.heap.size A bs→n≤c→c≤maxLen →
 Calls Tryz.prog 7 #[.slice A n c,.int .i64 S] w (Ans T u z w)∧Calls Tryz.prog 8 #[.slice A n c,.int .i64 S] w (Ans T u z w):=by
 by_cases hS:S<1∨16777216<S
 ·refine ⟨[],0,2,fun A n c w hn hr hc hcm=>⟨(decode_arg A n c S w hS).mono ?_,(ddecode_arg A n c S w hS).mono ?_⟩⟩
  ·rintro e w' ⟨rfl,hb⟩
   exact ⟨none,0,rfl,BRow.nil _ _ _,hb⟩
  rintro e w' ⟨rfl,hb⟩
  exact ⟨none,0,rfl,BRow.nil _ _ _,hb⟩
 obtain ⟨sz,rfl⟩:∃ sz:Nat,S=(sz:Int):=⟨S.toNat,by omega⟩
 obtain ⟨T,u,z,h⟩:=ans_of sz bs
 refine ⟨T,u,z,fun A n c w hn hr hc hcm=>⟨(decode_p A bs n c sz w hn hr hc hcm (by omega) (by omega) (by omega)).mono (fun e w' hd=>h _ _ _ hd),(ddecode_p A bs n c sz w hn hr hc hcm (by omega) (by omega)).mono (fun e w' hd=>h _ _ _ hd)⟩⟩
set_option maxRecDepth 8000 in
set_option maxHeartbeats 4000000 in
theorem lawReads16 (A:Option Addr) (n c:Nat) (f:Nat→Int) (S:Int) (w:World) (hl:n≤c) (hm:c≤maxLen) (hr0:Opn.RowAt w w.heap.size A n (fun i=>.int .u8 (f i))) (hf:∀ i,i<n→0≤f i∧f i≤255)
 (hx : -9223372036854775808≤S∧S≤9223372036854775807) :
 Calls Tryz.prog 3 #[.slice A n c,.int .i64 S] w fun e w'=>e=.returned (.bool true)∧Below w.heap.size w w':=by
 obtain ⟨bs,hbs,hr⟩:=BRow.of_row hr0 hf
 have HR:=hid hr
 have HN:=hid hbs.symm
 have HLC:Hid (n≤c∧c≤maxLen):=hid ⟨hl,hm⟩
 clear hr0 hf hr hbs hm hx hl
 by_cases hn:32768<n
 ·have q1:(32768:Int)<(n:Int):=by omega
  clear hn
  go_enter Tryz.func3,Tryz.ntmps3
  go_wp2_with fail
  refine (wakes16 w).mono ?_;rintro e w2 ⟨rfl,hb2⟩
  have B2:=hid hb2
  clear hb2
  go_wp2
  go_ret
  exact ⟨rfl,B2.out⟩
 have q1:(n:Int)≤32768:=by omega
 have HB:=hid (show n≤32768 by omega)
 have HT:=hid (told_p A bs n c w HN.out HR.out HLC.out.1 (by omega))
 obtain ⟨R,hR⟩:∃ R,toldP bs=R:=⟨_,rfl⟩
 rw [hR] at HT
 clear hn hR
 by_cases hbig:131072<R
 ·have q2:(131072:Int)<(R:Int):=by omega
  clear hbig
  go_enter Tryz.func3,Tryz.ntmps3
  go_wp2_with fail
  refine HT.out.mono ?_;rintro e w1 ⟨rfl,hb1⟩
  have B1:=hid hb1
  clear hb1
  go_wp2_with fail
  refine (wakes16 w1).mono ?_;rintro e w2 ⟨rfl,hb2⟩
  have B2:=hid (B1.out.trans (hb2.mono B1.out.size))
  clear hb2
  go_wp2
  go_ret
  exact ⟨rfl,B2.out⟩
 have q2:(R:Int)≤131072:=by omega
 clear hbig
 obtain ⟨T,u,z,hboth⟩:=both_ans S bs (by have:=HB.out;have:=HN.out;omega)
 have HBO:=hid hboth
 clear hboth
 go_enter Tryz.func3,Tryz.ntmps3
 go_wp2_with fail
 refine HT.out.mono ?_;rintro e w3 ⟨rfl,hb1⟩
 have B3:=hid hb1
 clear hb1
 go_wp2_with (at_builtin;refine wpList_append_bytes _ rfl (.tmp 21) (.tmp 22) 22 rfl 5 w.heap.size Tryz.underlying22 Tryz.info_u8 (.slice (some ⟨w3.heap.size,0,none⟩) 0 0) [] rfl ?own1 A n c w.heap.size bs rfl ?lenn ?row1 ?len1 ?base1 ?next1)
 case own1=>exact OwnB.made w3 _ _ (by have:=B3.out.size;omega)
 case lenn=>exact HN.out
 case row1=>exact ((HR.out.below B3.out).below ((below_alloc w3 _).mono B3.out.size))
 case len1=>have:=HB.out;have:=HN.out;simp;omega
 case base1=>have:=B3.out.size;simp;omega
 case next1 =>
 intro v4 w4 hown4 hfrm4 hnew4
 have hb4:Below w3.heap.size w3 w4:=(below_alloc w3 _).trans (hfrm4.below (by simp) (fun q hq=>by have e:some w3.heap.size=some q:=hq;injection e with e;omega))
 obtain ⟨A4,c4,hv4,hc4,hm4,hr4⟩:=hown4.slice
 have e4:bs.length=n:=HN.out.symm
 rw [e4] at hv4 hc4
 subst hv4
 have B4:=hid (B3.out.trans (hb4.mono B3.out.size))
 have R4:=hid hr4
 have C4:=hid (And.intro hc4 hm4)
 clear hown4 hfrm4 hnew4 hb4 e4 hc4 hm4 hr4
 go_wp2_with fail
 refine (HBO.out A4 n c4 w4 HN.out R4.out C4.out.1 C4.out.2).1.mono ?_;rintro e w5 ⟨Ax,cx,rfl,hrx,hb5⟩
 have B5:=hid (B4.out.trans (hb5.mono B4.out.size))
 have RX5:=hid hrx
 have R5:=hid (R4.out.below hb5)
 have Z5:=hid hb5.size
 clear hrx hb5
 go_wp2_with fail
 refine (HBO.out A n c w5 HN.out ((HR.out.below B5.out).more B5.out.size) HLC.out.1 HLC.out.2).2.mono ?_;rintro e w6 ⟨Ay,cy,rfl,hry,hb6⟩
 have B6:=hid (B5.out.trans (hb6.mono B5.out.size))
 have RX6:=hid (RX5.out.below hb6)
 have RY6:=hid hry
 have R6:=hid (R5.out.below (hb6.mono Z5.out))
 clear hry hb6
 obtain ⟨LT,hLT⟩:∃ L,T.length=L:=⟨_,rfl⟩
 have HLT:=hid hLT
 have k1:=run_conv_bytes (P:=Tryz.prog) w6 22 9 5 Tryz.underlying22 Tryz.underlying5 Tryz.underlying9 Ax LT cx _ T HLT.out.symm RX6.out
 have k2:=run_conv_bytes (P:=Tryz.prog) w6 22 9 5 Tryz.underlying22 Tryz.underlying5 Tryz.underlying9 Ay LT cy _ T HLT.out.symm RY6.out
 have k3:=run_conv_bytes (P:=Tryz.prog) w6 22 9 5 Tryz.underlying22 Tryz.underlying5 Tryz.underlying9 A4 n c4 _ bs HN.out R6.out
 have k4:=run_conv_bytes (P:=Tryz.prog) w6 22 9 5 Tryz.underlying22 Tryz.underlying5 Tryz.underlying9 A n c _ bs HN.out (HR.out.below B6.out)
 rw [hLT]
 clear hLT
 go_wp2_with fail
 refine (wakes16 w6).mono ?_;rintro e w7 ⟨rfl,hb7⟩
 have B7:=hid (B6.out.trans (hb7.mono B6.out.size))
 clear hb7
 go_wp2
 go_ret
 exact ⟨rfl,B7.out⟩
end Go.Proofs.YtffehfpbdcokbaaGreat
