import Derived.Test.YtffehfpbdcokbaaGreatBu13
import Derived.Test.YtffehfpbdcokbaaGreatBu27
import Derived.Test.YtffehfpbdcokbaaGreatBu29
set_option linter.unusedVariables false
set_option linter.unusedSimpArgs false
namespace Go.Proofs.YtffehfpbdcokbaaGreat.Rng
open Go.RowKit
def num:List UInt8→Nat
 | []=>0
 | x::l=>x.toNat*256 ^ l.length+num l
theorem num_app:∀ (l m:List UInt8),num (l++m)=num l*256 ^ m.length+num m
 | [],m=>by simp [num]
 | x::l,m=>by
  show x.toNat*256 ^ (l++m).length+num (l++m)=(x.toNat*256 ^ l.length+num l)*256 ^ m.length+num m
  rw [num_app l m,List.length_append,Nat.pow_add,Nat.add_mul,Nat.mul_assoc,Nat.add_assoc]
theorem num_snoc (l:List UInt8) (x:UInt8):num (l++[x])=num l*256+x.toNat:=by
 rw [num_app];simp [num]
theorem num_lt:∀ l:List UInt8,num l<256 ^ l.length
 | []=>by simp [num]
 | x::l=>by
  have h:=num_lt l
  have hx:=x.toNat_lt
  show x.toNat*256 ^ l.length+num l<256 ^ (l.length+1)
  rw [Nat.pow_succ]
  generalize 256 ^ l.length=P at *
  have h2:x.toNat*P≤255*P:=Nat.mul_le_mul_right P (by omega)
  omega
theorem num_rep255:∀ n,num (List.replicate n (255:UInt8))+1=256 ^ n
 | 0=>rfl
 | n+1=>by
  have h:=num_rep255 n
  show (255:UInt8).toNat*256 ^ (List.replicate n (255:UInt8)).length+num (List.replicate n (255:UInt8))+1=256 ^ (n+1)
  rw [List.length_replicate,Nat.pow_succ]
  show 255*256 ^ n+_+1=_
  omega
theorem num_rep0:∀ n,num (List.replicate n (0:UInt8))=0
 | 0=>rfl
 | n+1=>by
  show (0:UInt8).toNat*_+num (List.replicate n (0:UInt8))=0
  rw [num_rep0 n]
  show 0*_+0=0
  simp
def Enc.pend (e:Enc):Nat:=num (e.out++e.first::List.replicate e.more 255)
def Enc.T (e:Enc):Nat:=e.pend*4294967296+e.low
def Enc.Good (e:Enc) (s:Nat):Prop:=e.low+s≤8589934592∧(e.first=255→e.low+s≤4294967296)
theorem shift_stay {e:Enc} (h:4278190080≤e.low∧e.low<4294967296):e.shift=⟨e.low*256 % 4294967296,e.size,e.first,e.more+1,e.out,e.closed⟩:=if_pos h
theorem shift_go {e:Enc} (h:¬ (4278190080≤e.low∧e.low<4294967296)):e.shift=⟨e.low*256 % 4294967296,e.size,UInt8.ofNat (e.low / 16777216),0,e.out++(e.first+e.carry)::List.replicate e.more (255+e.carry),e.closed⟩:=if_neg h
theorem num_wait (o:List UInt8) (f:UInt8) (n:Nat):num (o++f::List.replicate n 255)+1=(num o*256+f.toNat+1)*256 ^ n:=by
 rw [num_app]
 show num o*256 ^ (f::List.replicate n (255:UInt8)).length+(f.toNat*256 ^ (List.replicate n (255:UInt8)).length+num (List.replicate n (255:UInt8)))+1=_
 have h:=num_rep255 n
 rw [List.length_cons,List.length_replicate,Nat.pow_succ,Nat.add_mul,Nat.add_mul]
 have e1:num o*(256 ^ n*256)=num o*256*256 ^ n:=by rw [Nat.mul_comm (256 ^ n) 256,Nat.mul_assoc]
 rw [e1]
 omega
theorem num_turn (o:List UInt8) (f:UInt8) (n:Nat) (hf:f≠255):num (o++(f+1)::List.replicate n 0)=num (o++f::List.replicate n 255)+1:=by
 rw [num_wait,num_app]
 show num o*256 ^ ((f+1)::List.replicate n (0:UInt8)).length+((f+1).toNat*256 ^ (List.replicate n (0:UInt8)).length+num (List.replicate n (0:UInt8)))=_
 have hn:f.toNat≠255:=fun h=>hf (UInt8.toNat_inj.1 h)
 have hl:=f.toNat_lt
 have e2:(f+1).toNat=f.toNat+1:=by
  rw [UInt8.toNat_add]
  show (f.toNat+1) % 256=_
  omega
 rw [num_rep0,List.length_cons,List.length_replicate,Nat.pow_succ,e2,Nat.add_mul (num o*256+f.toNat),Nat.add_mul]
 have e1:num o*(256 ^ n*256)=num o*256*256 ^ n:=by rw [Nat.mul_comm (256 ^ n) 256,Nat.mul_assoc]
 rw [e1,Nat.add_mul (num o*256)]
 omega
theorem shift_T {e:Enc} {s:Nat} (h:e.Good s) (hs:1≤s):e.shift.T=e.T*256:=by
 obtain ⟨h1,h2⟩:=h
 by_cases hc:4278190080≤e.low∧e.low<4294967296
 ·rw [shift_stay hc]
  show num (e.out++e.first::List.replicate (e.more+1) 255)*4294967296+e.low*256 % 4294967296=(num (e.out++e.first::List.replicate e.more 255)*4294967296+e.low)*256
  have e1:e.out++e.first::List.replicate (e.more+1) (255:UInt8)=(e.out++e.first::List.replicate e.more 255)++[255]:=by
   rw [List.replicate_succ'];simp
  rw [e1,num_snoc]
  generalize num (e.out++e.first::List.replicate e.more 255)=N
  show (N*256+255)*4294967296+_=_
  generalize e.low=L at *
  omega
 rw [shift_go hc]
 show num ((e.out++(e.first+e.carry)::List.replicate e.more (255+e.carry))++UInt8.ofNat (e.low / 16777216)::List.replicate 0 255)*4294967296+e.low*256 % 4294967296=(num (e.out++e.first::List.replicate e.more 255)*4294967296+e.low)*256
 have e3:(UInt8.ofNat (e.low / 16777216)).toNat=e.low / 16777216 % 256:=by rw [UInt8.toNat_ofNat']
 rw [show (UInt8.ofNat (e.low / 16777216)::List.replicate 0 255:List UInt8)=[UInt8.ofNat (e.low / 16777216)] from rfl,num_snoc,e3]
 by_cases hl:e.low<4294967296
 ·have hcar:e.carry=0:=by
   unfold Enc.carry
   rw [Nat.div_eq_of_lt hl];rfl
  rw [hcar,UInt8.add_zero,UInt8.add_zero]
  generalize num (e.out++e.first::List.replicate e.more 255)=N
  generalize e.low=L at *
  omega
 have hcar:e.carry=1:=by
  unfold Enc.carry
  have:e.low / 4294967296=1:=by omega
  rw [this];rfl
 have hf:e.first≠255:=fun hf=>by have:=h2 hf;omega
 rw [hcar,show (255:UInt8)+1=0 from rfl,num_turn _ _ _ hf]
 generalize num (e.out++e.first::List.replicate e.more 255)=N
 generalize e.low=L at *
 omega
theorem Enc.Good.shift {e:Enc} {s:Nat} (h:e.Good s) (hs2:s≤16777216):e.shift.Good (s*256):=by
 obtain ⟨h1,h2⟩:=h
 refine ⟨?_,?_⟩
 ·rw [Enc.shift_low]
  omega
 by_cases hc:4278190080≤e.low∧e.low<4294967296
 ·rw [shift_stay hc]
  intro hf
  have h3:=h2 hf
  show e.low*256 % 4294967296+s*256≤_
  omega
 rw [shift_go hc]
 intro hf
 show e.low*256 % 4294967296+s*256≤_
 have e3:(UInt8.ofNat (e.low / 16777216)).toNat=e.low / 16777216 % 256:=by rw [UInt8.toNat_ofNat']
 have e4:(UInt8.ofNat (e.low / 16777216)).toNat=255:=congrArg UInt8.toNat hf
 rw [e3] at e4
 omega
theorem Enc.Good.less {e:Enc} {s s':Nat} (h:e.Good s) (hs:s'≤s):e.Good s':=by
 obtain ⟨h1,h2⟩:=h
 exact ⟨by omega,fun hf=>by have:=h2 hf;omega⟩
theorem Enc.Good.shifts:∀ (n:Nat) {e:Enc},e.Good 1→(Enc.shifts n e).Good 1∧(Enc.shifts n e).T=e.T*256 ^ n∧(Enc.shifts n e).cnt=e.cnt+n
 | 0,e,h=>⟨h,by show e.T=e.T*256 ^ 0;simp,rfl⟩
 | n+1,e,h=>by
  have h1:e.shift.Good 1:=(h.shift (by decide)).less (by decide)
  obtain ⟨a1,a2,a3⟩:=Enc.Good.shifts n h1
  refine ⟨a1,?_,?_⟩
  ·show (Enc.shifts n e.shift).T=_
   rw [a2,shift_T h (Nat.le_refl _),Nat.pow_succ,Nat.mul_assoc,Nat.mul_comm 256]
  show (Enc.shifts n e.shift).cnt=_
  rw [a3,Enc.shift_cnt];omega
theorem five (e:Enc):(e.shifts 5).low=0∧(e.shifts 5).first=0∧(e.shifts 5).more=0:=by
 have h4:(e.shifts 4).low=0:=by
  show e.shift.shift.shift.shift.low=0
  rw [Enc.shift_low,Enc.shift_low,Enc.shift_low,Enc.shift_low]
  omega
 have h5:e.shifts 5=(e.shifts 4).shift:=rfl
 rw [h5,shift_go (by rw [h4];omega),h4]
 exact ⟨rfl,rfl,rfl⟩
theorem close_num {e:Enc} (hg:e.Good 1) (hc:e.closed=false):num e.close.out=e.T∧e.close.out.length=e.cnt+5:=by
 rw [close_open hc]
 obtain ⟨a1,a2,a3⟩:=Enc.Good.shifts 5 hg
 obtain ⟨b1,b2,b3⟩:=five e
 unfold Enc.T Enc.pend at a2
 unfold Enc.cnt at a3
 rw [b1,b2,b3] at a2
 rw [b3] at a3
 refine ⟨?_,a3⟩
 show num (e.shifts 5).out=e.T
 rw [show ((0:UInt8)::List.replicate 0 255:List UInt8)=[0] from rfl,num_snoc] at a2
 have h0:((0:UInt8).toNat)=0:=rfl
 rw [h0] at a2
 have e5:(256:Nat) ^ 5=1099511627776:=by decide
 rw [e5] at a2
 unfold Enc.T Enc.pend
 generalize num (e.shifts 5).out=X at *
 omega
def Sub (e f:Enc):Prop:=∃ m,f.cnt=e.cnt+m∧e.T*256 ^ m≤f.T∧f.T+f.size≤(e.T+e.size)*256 ^ m
theorem Sub.refl (e:Enc):Sub e e:=⟨0,rfl,by simp,by simp⟩
theorem Sub.trans {e f g:Enc} (h:Sub e f) (k:Sub f g):Sub e g:=by
 obtain ⟨m,h1,h2,h3⟩:=h
 obtain ⟨n,k1,k2,k3⟩:=k
 refine ⟨m+n,by omega,?_,?_⟩
 ·rw [Nat.pow_add,← Nat.mul_assoc]
  exact Nat.le_trans (Nat.mul_le_mul_right _ h2) k2
 rw [Nat.pow_add,← Nat.mul_assoc]
 exact Nat.le_trans k3 (Nat.mul_le_mul_right _ h3)
theorem sub_cut {e:Enc} (h:e.Run) {c:Nat} (h1:31≤c) (h2:c≤2017) (one:Bool):Sub e (e.cut c one):=by
 have hb:=bound_bd h.s.1 h1 h2
 refine ⟨0,by rw [Enc.cut_cnt];rfl,?_,?_⟩
 ·unfold Enc.cut;cases one
  ·show e.T*1≤e.T;omega
  show e.T*1≤e.pend*4294967296+(e.low+e.size / 2048*c)
  unfold Enc.T;omega
 unfold Enc.cut;cases one
 ·show e.T+e.size / 2048*c≤(e.T+e.size)*1;omega
 show e.pend*4294967296+(e.low+e.size / 2048*c)+(e.size-e.size / 2048*c)≤(e.T+e.size)*1
 unfold Enc.T;omega
theorem sub_half (e:Enc) (one:Bool):Sub e (e.half one):=by
 refine ⟨0,rfl,?_,?_⟩
 ·unfold Enc.half;cases one
  ·show e.T*1≤e.T;omega
  show e.T*1≤e.pend*4294967296+(e.low+e.size / 2)
  unfold Enc.T;omega
 unfold Enc.half;cases one
 ·show e.T+e.size / 2≤(e.T+e.size)*1;omega
 show e.pend*4294967296+(e.low+e.size / 2)+e.size / 2≤(e.T+e.size)*1
 unfold Enc.T;omega
theorem order_more {e:Enc} (hg:e.Good e.size) (hs:1≤e.size) (h:e.size<16777216):e.order.T=e.T*256∧e.order.size=e.size*256∧e.order.cnt=e.cnt+1∧e.order.Good e.order.size:=by
 have hg2:Enc.Good ⟨e.low,e.size*256,e.first,e.more,e.out,e.closed⟩ e.size:=hg
 have ho:e.order=Enc.shift ⟨e.low,e.size*256,e.first,e.more,e.out,e.closed⟩:=if_pos h
 rw [ho]
 refine ⟨?_,?_,?_,?_⟩
 ·rw [shift_T hg2 hs];rfl
 ·rw [Enc.shift_size]
 ·rw [Enc.shift_cnt];rfl
 rw [Enc.shift_size];exact hg2.shift (by omega)
theorem sub_order {e:Enc} (hg:e.Good e.size) (hs:1≤e.size):Sub e e.order∧e.order.Good e.order.size:=by
 by_cases h:e.size<16777216
 ·obtain ⟨a1,a2,a3,a4⟩:=order_more hg hs h
  refine ⟨⟨1,a3,?_,?_⟩,a4⟩
  ·rw [a1,Nat.pow_one];exact Nat.le_refl _
  rw [a1,a2,Nat.pow_one,Nat.add_mul];exact Nat.le_refl _
 have ho:e.order=e:=if_neg h
 rw [ho]
 exact ⟨Sub.refl e,hg⟩
theorem good_cut {e:Enc} (hr:e.Run) (hg:e.Good e.size) {c:Nat} (h1:31≤c) (h2:c≤2017) (one:Bool):(e.cut c one).Good (e.cut c one).size:=by
 have hb:=bound_bd hr.s.1 h1 h2
 obtain ⟨g1,g2⟩:=hg
 unfold Enc.cut;cases one
 ·exact ⟨by show e.low+e.size / 2048*c≤_;omega,fun hf=>by have:=g2 hf;show e.low+e.size / 2048*c≤_;omega⟩
 exact ⟨by show e.low+e.size / 2048*c+(e.size-e.size / 2048*c)≤_;omega,fun hf=>by have:=g2 hf;show e.low+e.size / 2048*c+(e.size-e.size / 2048*c)≤_;omega⟩
theorem good_half {e:Enc} (hg:e.Good e.size) (one:Bool):(e.half one).Good (e.half one).size:=by
 obtain ⟨g1,g2⟩:=hg
 unfold Enc.half;cases one
 ·exact ⟨by show e.low+e.size / 2≤_;omega,fun hf=>by have:=g2 hf;show e.low+e.size / 2≤_;omega⟩
 exact ⟨by show e.low+e.size / 2+e.size / 2≤_;omega,fun hf=>by have:=g2 hf;show e.low+e.size / 2+e.size / 2≤_;omega⟩
theorem sub_bit {e:Enc} (hr:e.Run) (hg:e.Good e.size) {c:Nat} (h1:31≤c) (h2:c≤2017) (one:Bool):Sub (e.cut c one) (e.bit c one)∧Sub e (e.bit c one)∧(e.bit c one).Good (e.bit c one).size:=by
 have hp:=hr.cut h1 h2 one
 obtain ⟨a,b⟩:=sub_order (good_cut hr hg h1 h2 one) (by have:=hp.s;omega)
 exact ⟨a,(sub_cut hr h1 h2 one).trans a,b⟩
theorem sub_one {e:Enc} (hr:e.Run) (hg:e.Good e.size) (one:Bool):Sub (e.half one) (e.one one)∧Sub e (e.one one)∧(e.one one).Good (e.one one).size:=by
 have hp:=hr.half one
 obtain ⟨a,b⟩:=sub_order (good_half hg one) (by have:=hp.s;omega)
 exact ⟨a,(sub_half e one).trans a,b⟩
theorem sub_direct (x:Nat):∀ (n:Nat) {e:Enc},e.Run→e.Good e.size→Sub e (Enc.direct x n e)∧(Enc.direct x n e).Good (Enc.direct x n e).size
 | 0,e,hr,hg=>⟨Sub.refl e,hg⟩
 | n+1,e,hr,hg=>by
  obtain ⟨a,b,c⟩:=sub_one hr hg (x / 2 ^ n % 2==1)
  obtain ⟨d1,d2⟩:=sub_direct x n (Enc.Run.one hr (x / 2 ^ n % 2==1)) c
  exact ⟨b.trans d1,d2⟩
structure Like (B:List UInt8) (e:Enc) (d:Dec):Prop where
 code:d.code+e.T=num (B.take (e.cnt+5))
 size:d.size=e.size
 rest:d.rest=B.drop (e.cnt+5)
 want:d.want=false
structure Told (B:List UInt8) (f:Enc):Prop where
 n:num B=f.T
 l:B.length=f.cnt+5
 s:1≤f.size
theorem told_range {B:List UInt8} {e f:Enc} (h:Told B f) (hs:Sub e f):e.T≤num (B.take (e.cnt+5))∧num (B.take (e.cnt+5))<e.T+e.size:=by
 obtain ⟨m,h1,h2,h3⟩:=hs
 have hl:=h.l
 have hn:=h.n
 have hsz:=h.s
 have hsplit:=num_app (B.take (e.cnt+5)) (B.drop (e.cnt+5))
 have hlt:=num_lt (B.drop (e.cnt+5))
 rw [List.take_append_drop] at hsplit
 have hdl:(B.drop (e.cnt+5)).length=m:=by rw [List.length_drop];omega
 rw [hdl] at hsplit hlt
 generalize num (B.take (e.cnt+5))=N at *
 generalize num (B.drop (e.cnt+5))=R at *
 have hP:0<256 ^ m:=Nat.pow_pos (by decide)
 generalize 256 ^ m=P at *
 refine ⟨?_,?_⟩
 ·have h5:e.T*P<(N+1)*P:=by rw [Nat.add_mul,Nat.one_mul];omega
  have:=Nat.lt_of_mul_lt_mul_right h5
  omega
 have h5:N*P<(e.T+e.size)*P:=by omega
 exact Nat.lt_of_mul_lt_mul_right h5
theorem take_more {B:List UInt8} {j:Nat} (h:j<B.length):num (B.take (j+1))=num (B.take j)*256+(B.getD j 0).toNat∧B.drop j=B.getD j 0::B.drop (j+1):=by
 have e1:B.take (j+1)=B.take j++[B.getD j 0]:=by
  rw [List.take_add_one,List.getElem?_eq_getElem h]
  simp [List.getD,List.getElem?_eq_getElem h]
 refine ⟨by rw [e1,num_snoc],?_⟩
 rw [List.drop_eq_getElem_cons h]
 simp [List.getD,List.getElem?_eq_getElem h]
theorem Like.order {B:List UInt8} {e f:Enc} {d:Dec} (k:Like B e d) (ht:Told B f) (hg:e.Good e.size) (hs:1≤e.size) (hsub:Sub e.order f):Like B e.order d.order:=by
 by_cases h:e.size<16777216
 ·obtain ⟨a1,a2,a3,a4⟩:=order_more hg hs h
  have hrange:=told_range ht ((sub_order hg hs).1.trans hsub)
  obtain ⟨m,h1,_,_⟩:=hsub
  rw [a3] at h1
  have hl:=ht.l
  have hj:e.cnt+5<B.length:=by omega
  obtain ⟨b1,b2⟩:=take_more hj
  have hx:=(B.getD (e.cnt+5) 0).toNat_lt
  have hcode:=k.code
  have hsz:=k.size
  have hr:=k.rest
  rw [b2] at hr
  have ho:d.order=⟨B.drop (e.cnt+5+1),d.size*256,d.code*256 % 4294967296+(B.getD (e.cnt+5) 0).toNat,d.want⟩:=by
   unfold Dec.order
   rw [if_neg (by omega),hr]
  rw [ho]
  generalize (B.getD (e.cnt+5) 0)=x at *
  refine ⟨?_,?_,?_,k.want⟩
  ·show d.code*256 % 4294967296+x.toNat+e.order.T=_
   rw [a1,a3,show e.cnt+1+5=e.cnt+5+1 by omega,b1]
   generalize num (B.take (e.cnt+5))=N at *
   generalize e.T=T at *
   omega
  ·show d.size*256=_;rw [a2,hsz]
  show _=B.drop (e.order.cnt+5);rw [a3]
 have ho:e.order=e:=if_neg h
 have hd:d.order=d:=by
  unfold Dec.order
  rw [if_pos (by have:=k.size;omega)]
 rw [ho,hd];exact k
theorem Like.bit {B:List UInt8} {e f:Enc} {d:Dec} (k:Like B e d.order) (ht:Told B f) {c:Nat} (one:Bool) (hsub:Sub (e.cut c one) f) (hle:e.size / 2048*c≤e.size):(d.bit c).1=one∧Like B (e.cut c one) (d.bit c).2:=by
 have hr:=told_range ht hsub
 rw [Enc.cut_cnt] at hr
 have h1:=k.code
 have h2:=k.size
 have h3:=k.rest
 have h4:=k.want
 unfold Dec.bit
 simp only
 generalize d.order=D at *
 cases one
 ·have hr2:num (B.take (e.cnt+5))<e.T+e.size / 2048*c:=hr.2
  have hlt:D.code<D.size / 2048*c:=by rw [h2];omega
  rw [if_pos hlt]
  refine ⟨rfl,?_,?_,h3,h4⟩
  ·exact h1
  show D.size / 2048*c=e.size / 2048*c;rw [h2]
 have hr1:e.pend*4294967296+(e.low+e.size / 2048*c)≤num (B.take (e.cnt+5)):=hr.1
 have hT:e.T=e.pend*4294967296+e.low:=rfl
 have hlt:¬ D.code<D.size / 2048*c:=by rw [h2];omega
 rw [if_neg hlt]
 refine ⟨rfl,?_,?_,h3,h4⟩
 ·show D.code-D.size / 2048*c+(e.pend*4294967296+(e.low+e.size / 2048*c))=_
  have h9:(e.cut c true).cnt=e.cnt:=rfl
  rw [h9,h2]
  rw [h2] at hlt
  omega
 show D.size-D.size / 2048*c=e.size-e.size / 2048*c;rw [h2]
theorem Like.one {B:List UInt8} {e f:Enc} {d:Dec} (k:Like B e d.order) (ht:Told B f) (one:Bool) (hsub:Sub (e.half one) f):d.one.1=one∧Like B (e.half one) d.one.2:=by
 have hr:=told_range ht hsub
 have h1:=k.code
 have h2:=k.size
 have h3:=k.rest
 have h4:=k.want
 unfold Dec.one
 simp only
 generalize d.order=D at *
 cases one
 ·have hr2:num (B.take (e.cnt+5))<e.T+e.size / 2:=hr.2
  have hlt:D.code<D.size / 2:=by rw [h2];omega
  rw [if_pos hlt]
  refine ⟨rfl,?_,?_,h3,h4⟩
  ·exact h1
  show D.size / 2=e.size / 2;rw [h2]
 have hr1:e.pend*4294967296+(e.low+e.size / 2)≤num (B.take (e.cnt+5)):=hr.1
 have hT:e.T=e.pend*4294967296+e.low:=rfl
 have hlt:¬ D.code<D.size / 2:=by rw [h2];omega
 rw [if_neg hlt]
 refine ⟨rfl,?_,?_,h3,h4⟩
 ·show D.code-D.size / 2+(e.pend*4294967296+(e.low+e.size / 2))=num (B.take (e.cnt+5))
  rw [h2]
  rw [h2] at hlt
  omega
 show D.size / 2=e.size / 2;rw [h2]
theorem Like.direct {B:List UInt8} {f:Enc} (ht:Told B f) (x:Nat):∀ (n x0:Nat) {e:Enc} {d:Dec},Like B e d.order→e.Run→e.Good e.size→Sub (Enc.direct x n e) f→n≤32→x0<2 ^ (32-n) →
 (Dec.direct n x0 d).1=x0*2 ^ n+x % 2 ^ n∧Like B (Enc.direct x n e) (Dec.direct n x0 d).2.order
 | 0,x0,e,d,k,hr,hg,hsub,hn,h0=>by
  refine ⟨?_,k⟩
  show x0=x0*2 ^ 0+x % 2 ^ 0
  rw [Nat.pow_zero,Nat.mod_one];omega
 | n+1,x0,e,d,k,hr,hg,hsub,hn,h0=>by
  obtain ⟨b,hb⟩:∃ b,(x / 2 ^ n % 2==1)=b:=⟨_,rfl⟩
  have hsub':Sub (Enc.direct x n (e.one b)) f:=by rw [← hb];exact hsub
  obtain ⟨s1,s2,s3⟩:=sub_one hr hg b
  have hr1:=Enc.Run.one hr b
  obtain ⟨s4,s5⟩:=sub_direct x n hr1 s3
  obtain ⟨k1,k2⟩:=k.one ht b (s1.trans (s4.trans hsub'))
  have k3:Like B (e.one b) d.one.2.order:=k2.order ht (good_half hg b) (by have:=(hr.half b).s;omega) (s4.trans hsub')
  have hp:2 ^ (32-n)=2 ^ (32-(n+1))*2:=by rw [← Nat.pow_succ];congr 1;omega
  have hle:2 ^ (32-n)≤2 ^ 32:=Nat.pow_le_pow_right (by decide) (by omega)
  have h32:(2:Nat) ^ 32=4294967296:=by decide
  have hx0:x0*2 % 4294967296=x0*2:=Nat.mod_eq_of_lt (by omega)
  have hbit:(if d.one.1 then 1 else 0)=x / 2 ^ n % 2:=by
   rw [k1,← hb]
   rcases Nat.mod_two_eq_zero_or_one (x / 2 ^ n) with h | h <;> rw [h] <;> rfl
  have hb2:=Nat.mod_lt (x / 2 ^ n) (show 2 > 0 by decide)
  have e1:Dec.direct (n+1) x0 d=Dec.direct n (x0*2+x / 2 ^ n % 2) d.one.2:=by
   show Dec.direct n (x0*2 % 4294967296+(if d.one.1 then 1 else 0)) d.one.2=_
   rw [hx0,hbit]
  have e2:Enc.direct x (n+1) e=Enc.direct x n (e.one b):=by rw [← hb];rfl
  obtain ⟨r1,r2⟩:=Like.direct ht x n (x0*2+x / 2 ^ n % 2) k3 hr1 s3 hsub' (by omega) (by omega)
  rw [e1,e2]
  refine ⟨?_,r2⟩
  rw [r1,Nat.mod_pow_succ,Nat.pow_succ,Nat.add_mul,Nat.mul_assoc,Nat.mul_comm 2 (2 ^ n),Nat.mul_comm (x / 2 ^ n % 2)]
  omega
theorem told_head {B:List UInt8} {f:Enc} (ht:Told B f) (hs:Sub newEnc f):newErr B=0∧Like B newEnc (newDec B).order:=by
 have hl:=ht.l
 obtain ⟨hr1,hr2⟩:=told_range ht hs
 have hT:newEnc.T=0:=rfl
 have hc:newEnc.cnt=0:=rfl
 have hz:newEnc.size=4294967295:=rfl
 rw [hT,hc,hz] at hr2
 match B,hl,hr2 with
 | b0::b1::b2::b3::b4::R,hl,hr2 =>
  have e5:num ((b0::b1::b2::b3::b4::R).take (0+5))=(((b0.toNat*256+b1.toNat)*256+b2.toNat)*256+b3.toNat)*256+b4.toNat:=by
   show b0.toNat*256 ^ 4+(b1.toNat*256 ^ 3+(b2.toNat*256 ^ 2+(b3.toNat*256 ^ 1+(b4.toNat*256 ^ 0+0))))=_
   omega
  rw [e5] at hr2
  have hb0:b0.toNat=0:=by omega
  have hb0':b0=0:=UInt8.toNat_inj.1 hb0
  refine ⟨?_,?_⟩
  ·unfold newErr
   rw [if_neg (by simp),if_pos (by rw [hb0'];rfl)]
  have ho:(newDec (b0::b1::b2::b3::b4::R)).order=newDec (b0::b1::b2::b3::b4::R):=if_pos (by show 16777216≤4294967295;omega)
  rw [ho]
  refine ⟨?_,rfl,rfl,rfl⟩
  rw [hT,hc,e5,hb0]
  show be4 _+0=_
  unfold be4
  simp
end Go.Proofs.YtffehfpbdcokbaaGreat.Rng
namespace Go.Proofs.YtffehfpbdcokbaaGreat.Lz
open Go.RowKit Rng Win
def inC:Cod Enc:=⟨fun e c x=>(decide (x≠0),e.bit c (decide (x≠0))),fun e x n=>(x % 2 ^ n,Enc.direct x n e)⟩
structure EncI (e:Enc):Prop where
 r:e.Run
 g:e.Good e.size
 c:e.closed=false
theorem closed_shift (e:Enc):e.shift.closed=e.closed:=by
 unfold Enc.shift
 split <;> rfl
theorem closed_order (e:Enc):e.order.closed=e.closed:=by
 unfold Enc.order
 split
 ·exact closed_shift _
 rfl
theorem closed_bit (e:Enc) (c:Nat) (one:Bool):(e.bit c one).closed=e.closed:=by
 unfold Enc.bit
 rw [closed_order]
 split <;> rfl
theorem closed_direct (x:Nat):∀ (n:Nat) (e:Enc),(Enc.direct x n e).closed=e.closed
 | 0,_=>rfl
 | n+1,e=>by
  show (Enc.direct x n (e.one (x / 2 ^ n % 2==1))).closed=_
  rw [closed_direct x n]
  unfold Enc.one
  rw [closed_order]
theorem encI_stays:Stays inC EncI :=
 ⟨fun t p x h=>⟨h.r.bit (fair_bd p).1 (fair_bd p).2 _,(sub_bit h.r h.g (fair_bd p).1 (fair_bd p).2 _).2.2,(closed_bit t _ _).trans h.c⟩,
  fun t x n h=>⟨h.r.direct,(sub_direct x n h.r h.g).2,(closed_direct x n t).trans h.c⟩⟩
def RD (B:List UInt8) (e:Enc) (d:Dec):Prop:=Like B e d.order
theorem ranges_back {B:List UInt8} {F:Enc} (ht:Rng.Told B F):Backs inC outC (RD B) EncI (fun e=>Sub e F) where
 inv:=encI_stays
 back:=fun s p x h hs=>(sub_bit h.r h.g (fair_bd p).1 (fair_bd p).2 _).2.1.trans hs
 backD:=fun s x n h hs=>(sub_direct x n h.r h.g).1.trans hs
 two:=by
  intro s t p x y h hk hs
  obtain ⟨h1,h2,h3⟩:=sub_bit h.r h.g (fair_bd p).1 (fair_bd p).2 (decide (x≠0))
  have hb:=bound_le s.size (fair p) (fair_bd p).2
  obtain ⟨k1,k2⟩:=Like.bit hk ht (decide (x≠0)) (h1.trans hs) hb
  refine ⟨k1.symm,?_⟩
  have hg:=good_cut h.r h.g (fair_bd p).1 (fair_bd p).2 (decide (x≠0))
  have hp:=(h.r.cut (fair_bd p).1 (fair_bd p).2 (decide (x≠0)))
  exact k2.order ht hg (by have:=hp.s;omega) hs
 twoD:=by
  intro s t x y n hn h hk hs
  obtain ⟨k1,k2⟩:=Like.direct ht x n 0 hk h.r h.g hs hn (Nat.two_pow_pos _)
  refine ⟨?_,k2⟩
  show x % 2 ^ n=(t.direct n 0).1
  rw [k1];omega
theorem told_end {B:List UInt8} {F:Enc} (ht:Rng.Told B F) {d:Dec} (h:RD B F d):d.fin=(0,0):=by
 have h1:=h.code
 have h2:=h.rest
 have h3:=h.want
 rw [← ht.l,List.take_of_length_le (Nat.le_refl _),ht.n] at h1
 rw [← ht.l,List.drop_of_length_le (Nat.le_refl _)] at h2
 unfold Dec.fin
 rw [if_neg (by rw [h3];decide),if_neg (by omega),h2]
 rfl
theorem told_close {F:Enc} (h:EncI F):Rng.Told F.close.out F:=by
 obtain ⟨h1,h2⟩:=close_num (h.g.less (by have:=h.r.s;omega)) h.c
 exact ⟨h1,h2,by have:=h.r.s;omega⟩
theorem encI_new:EncI newEnc:=⟨newEnc_run,by unfold Enc.Good;exact ⟨by decide,fun h=>by cases h⟩,rfl⟩
end Go.Proofs.YtffehfpbdcokbaaGreat.Lz
