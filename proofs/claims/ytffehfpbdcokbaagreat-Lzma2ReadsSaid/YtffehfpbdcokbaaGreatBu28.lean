import Derived.Deep.DeepCutAuto
import Derived.Deep.CutRange
import Derived.Test.YtffehfpbdcokbaaGreatBu13
import Derived.Test.YtffehfpbdcokbaaGreatBu27
set_option linter.unusedVariables false
set_option linter.unusedSimpArgs false
namespace Go.Proofs.YtffehfpbdcokbaaGreat
open Lib (hid)
open Go.RowKit Rng
structure EncAt (w:World) (T z b base:Nat) (v:Value) (e:Enc):Prop where
 p:Pts w b #[.int .u64 e.low,.int .u32 e.size,byteV e.first,.int .i64 ((e.more+z:Nat):Int),v,.bool e.closed] T
 o:OwnB w 5 base v e.out
 k:e.Ok
theorem BRow.one (w:World) (T:TypeId) (x:UInt8):BRow (w.alloc (.cells #[.int .u8 (x.toNat:Int)] T (0,0))) (w.heap.size+1) (some ⟨w.heap.size,0,none⟩) [x]:=by
 intro _
 refine ⟨w.heap.size,0,rfl,Nat.lt_succ_self _,fun j hj=>?_⟩
 obtain rfl:j=0:=by simpa using hj
 exact ((Pts.new w #[.int .u8 (x.toNat:Int)] T).cell 0).trans rfl
theorem and32_mod {x:Nat} (h:x<18446744073709551616):bits .and .u64 (x:Int) 4294967295=((x % 4294967296:Nat):Int):=by
 have e1:x<Num.M64:=h
 have e2:4294967295<Num.M64:=by unfold Num.M64;omega
 have h1:=Num.and64 e1 e2
 rw [show (4294967295:Nat)=2 ^ 32-1 by rfl,Nat.and_two_pow_sub_one_eq_mod] at h1
 exact h1
theorem Frm.transR {S S':Nat→Prop} {a b c:World} (h:Frm S a b) (k:Frm S' b c) (hm:∀ q,q<a.heap.size→S' q→S q):Frm S a c :=
 ⟨k.os.trans h.os,k.tape.trans h.tape,k.output.trans h.output,Nat.le_trans h.size k.size,fun i hi hn=>(k.block i (Nat.lt_of_lt_of_le hi h.size) (fun hs=>hn (hm i hi hs))).trans (h.block i hi hn)⟩
def Moved (w:World) (v u:Value):Prop:=u.ownBlock=v.ownBlock∨∃ g,u.ownBlock=some g∧w.heap.size≤g
theorem Moved.own {w:World} {v u:Value} (h:Moved w v u) {b:Nat}:∀ q,q<w.heap.size→u.ownBlock=some q→(q=b∨v.ownBlock=some q):=by
 intro q hq e
 rcases h with h | ⟨g,h,hg⟩
 ·exact .inr (h▸e)
 rw [h] at e;injection e with e;omega
def MidAt (w wx:World) (T b base low size first:Nat) (m:Int) (closed:Bool) (v u:Value) (out:List UInt8):Prop :=
 Pts wx b #[.int .u64 low,.int .u32 size,.int .u8 first,.int .i64 m,u,.bool closed] T∧OwnB wx 5 base u out∧Frm (fun x=>x=b∨v.ownBlock=some x) w wx∧Moved w v u
theorem MidAt.nb {w wx:World} {T b base low size first:Nat} {m:Int} {closed:Bool} {v u:Value} {out:List UInt8} (h:MidAt w wx T b base low size first m closed v u out) (hT:T≠5):u.ownBlock≠some b:=by
 intro hq
 obtain ⟨hp,ho,_⟩:=h
 rcases ho.form with ⟨e,_⟩ | ⟨g,cap,cur,e,_,hp',_⟩
 ·rw [e] at hq;cases hq
 rw [e] at hq
 injection hq with hq
 subst hq
 have e2:=hp'.symm.trans hp
 simp at e2
 exact hT e2.2.symm
set_option maxRecDepth 100000 in
set_option maxHeartbeats 2000000 in
theorem eshift_p (b base:Nat) (v:Value) (e:Enc) (w:World) (h:EncAt w 206 0 b base v e) (hbase:base≤w.heap.size) (hlen:e.cnt≤1000000) :
 Calls Tryz.prog 113 #[.pointer (some ⟨b,0,none⟩)] w fun r w'=>∃ v':Value,r=.returned (.tuple #[])∧EncAt w' 206 0 b base v' e.shift∧Frm (fun x=>x=b∨v.ownBlock=some x) w w' ∧
  Moved w v v':=by
 obtain ⟨hp,ho,hk⟩:=h
 obtain ⟨low,size,first,more,out,closed⟩:=e
 obtain ⟨hl,hs⟩:=hk
 simp only [Enc.cnt] at hl hs hlen hp ho
 have hnb:v.ownBlock≠some b:=by
  intro hq
  rcases ho.form with ⟨e,_⟩ | ⟨g,cap,cur,e,_,hp',_⟩
  ·rw [e] at hq;cases hq
  rw [e] at hq
  injection hq with hq
  subst hq
  have e2:=hp'.symm.trans hp
  simp at e2
 obtain ⟨A0,k0,rfl,hc0,hm0,hr0⟩:=ho.slice
 have c0:w.cell? ⟨b,0,none⟩=some (.int .u64 low):=by rw [hp.cell];rfl
 have c2:w.cell? ⟨b,2,none⟩=some (.int .u8 (first.toNat:Int)):=by rw [hp.cell];rfl
 have c3:w.cell? ⟨b,3,none⟩=some (.int .i64 more):=by rw [hp.cell];rfl
 have c4:w.cell? ⟨b,4,none⟩=some (.slice A0 out.length k0):=by rw [hp.cell];rfl
 have f0:=hp.frozen 0
 have f2:=hp.frozen 2
 have f3:=hp.frozen 3
 have f4:=hp.frozen 4
 obtain ⟨low2,hlow2⟩:∃ x,low*256 % 4294967296=x:=⟨_,rfl⟩
 have a1:bits .and .u64 ((low:Int)*256) 4294967295=(low2:Int):=by
  have h9:=and32_mod (x:=low*256) (by omega)
  rw [hlow2] at h9
  rw [← h9];congr 1
 have hw64:IntKind.u64.wrap ((low:Int)*256)=(low:Int)*256:=by rw [Go.IntWalk.u64_in _ (by omega)]
 have HP:=hid hp
 have HO:=hid ho
 have HNB:=hid hnb
 clear hp ho hnb hr0
 have HL2:=hid hlow2
 have hk2:=(show Enc.Ok ⟨low,size,first,more,out,closed⟩ from ⟨hl,hs⟩).shift
 by_cases hrun:4278190080≤low∧low<4294967296
 ·have h1:IntKind.u8.wrap ((low:Int) / 16777216)=255:=by rw [IntKind.wrap_u8'];omega
  have h2:IntKind.u8.wrap ((low:Int) / 4294967296)=0:=by rw [IntKind.wrap_u8'];omega
  have e:Enc.shift ⟨low,size,first,more,out,closed⟩=⟨low2,size,first,more+1,out,closed⟩:=by unfold Enc.shift;rw [if_pos hrun];simp only [hlow2]
  rw [e] at hk2
  have HK:=hid hk2
  have HE:=hid e
  clear hrun hl hs hlow2 hk2 e
  go_enter Tryz.func113,Tryz.ntmps113
  go_step3
  go_wp2
  try rw [Exit.noGoto_ret]
  refine bodyPost_ret (results_none rfl _ _ _) rfl ?_
  rw [HE.out]
  exact ⟨_,rfl,⟨(HP.out.set 0 (.int .u64 low2)).set 3 (.int .i64 ((more+1:Nat):Int)),(HO.out.other (p:=⟨b,0,none⟩) HNB.out _).other (p:=⟨b,3,none⟩) HNB.out _,HK.out⟩,((Frm.refl _ w).setCell (p:=⟨b,0,none⟩) (.inl rfl) _).setCell (p:=⟨b,3,none⟩) (.inl rfl) _,.inl rfl⟩
 obtain ⟨hi,hhi⟩:∃ x:UInt8,UInt8.ofNat (low / 16777216)=x:=⟨_,rfl⟩
 obtain ⟨cv,hcv⟩:∃ x:UInt8,UInt8.ofNat (low / 4294967296)=x:=⟨_,rfl⟩
 have h1:IntKind.u8.wrap ((low:Int) / 16777216)=(hi.toNat:Int):=by rw [IntKind.wrap_u8',← hhi,UInt8.toNat_ofNat'];omega
 have h2:IntKind.u8.wrap ((low:Int) / 4294967296)=(cv.toNat:Int):=by rw [IntKind.wrap_u8',← hcv,UInt8.toNat_ofNat'];omega
 have e:Enc.shift ⟨low,size,first,more,out,closed⟩=⟨low2,size,hi,0,out++(first+cv)::List.replicate more (255+cv),closed⟩:=by
  unfold Enc.shift Enc.carry;rw [if_neg hrun];simp only [hlow2,hhi,hcv]
 rw [e] at hk2
 have hh:(hi.toNat≠255)∨(hi.toNat=255∧cv.toNat≠0):=by
  rw [← hhi,← hcv,UInt8.toNat_ofNat',UInt8.toNat_ofNat'];omega
 have hx:IntKind.u8.wrap ((first.toNat:Int)+cv.toNat)=((first+cv).toNat:Int):=by rw [IntKind.wrap_u8',UInt8.toNat_add];omega
 have hy:IntKind.u8.wrap (255+(cv.toNat:Int))=((255+cv).toNat:Int):=by rw [IntKind.wrap_u8',UInt8.toNat_add];show _=((((255:UInt8).toNat+cv.toNat) % 2 ^ 8:Nat):Int);rw [show (255:UInt8).toNat=255 by rfl];omega
 obtain ⟨x,hxx⟩:∃ x:UInt8,first+cv=x:=⟨_,rfl⟩
 obtain ⟨y,hyy⟩:∃ y:UInt8,255+cv=y:=⟨_,rfl⟩
 rw [hxx] at hx
 rw [hyy] at hy
 rw [hxx,hyy] at e hk2
 have HK:=hid hk2
 have HE:=hid e
 clear hrun hl hs hlow2 hk2 e hhi hcv hxx hyy
 have htest:((hi.toNat:Int)==255)=false∨(((hi.toNat:Int)==255)=true∧((cv.toNat:Int)==0)=false):=by
  rcases hh with hh | ⟨hh,hh2⟩
  ·left;exact beq_eq_false_iff_ne.2 (by omega)
  right;exact ⟨by rw [hh];rfl,beq_eq_false_iff_ne.2 (by omega)⟩
 clear hh
 rcases htest with ht | ⟨ht,ht2⟩
 all_goals
  go_enter Tryz.func113,Tryz.ntmps113
  go_step3
  go_wp2
  go_cut [3] from 38 to 52 (fun s3 wx=>∃ (A2:Option Addr) (k2:Nat),s3=.int .u8 cv.toNat∧MidAt w wx 206 b base low2 size first.toNat more closed (.slice A0 out.length k0) (.slice A2 (out.length+1) k2) (out++[x]))
  case first =>
   have P1:=HP.out.set 0 (.int .u64 low2)
   have O1:=HO.out.other (p:=⟨b,0,none⟩) HNB.out (.int .u64 low2)
   have F1:=(Frm.refl (fun x=>x=b∨(Value.slice A0 out.length k0).ownBlock=some x) w).setCell (p:=⟨b,0,none⟩) (.inl rfl) (.int .u64 low2)
   have hb1:base≤(w.setCell ⟨b,0,none⟩ (.int .u64 low2)).heap.size:=Nat.le_trans hbase F1.size
   generalize w.setCell ⟨b,0,none⟩ (.int .u64 low2)=w1 at *
   have d2:w1.cell? ⟨b,2,none⟩=some (.int .u8 (first.toNat:Int)):=by rw [P1.cell];rfl
   have d4:w1.cell? ⟨b,4,none⟩=some (.slice A0 out.length k0):=by rw [P1.cell];rfl
   have g4:=P1.frozen 4
   have PA:=P1.alloc (.cells #[.int .u8 (x.toNat:Int)] 5)
   have d2':(w1.alloc (.cells #[.int .u8 (x.toNat:Int)] 5)).cell? ⟨b,2,none⟩=some (.int .u8 (first.toNat:Int)):=by rw [PA.cell];rfl
   have d4':(w1.alloc (.cells #[.int .u8 (x.toNat:Int)] 5)).cell? ⟨b,4,none⟩=some (.slice A0 out.length k0):=by rw [PA.cell];rfl
   have g4':=PA.frozen 4
   clear PA
   have PP1:=hid P1
   have OO1:=hid O1
   have FF1:=hid F1
   have hll:out.length+[x].length≤140737488355328:=by simp;omega
   have hb2:base≤(w1.alloc (.cells #[.int .u8 (x.toNat:Int)] 5)).heap.size:=by show base≤(w1.heap.push _).size;rw [Array.size_push];omega
   clear P1 O1 F1 c0 c2 c3 c4 f0 f2 f3 f4
   go_region_law (refine stepR_append_bytes _ rfl (.tmp 42) (.tmp 49) 22 rfl 5 base Tryz.underlying22 Tryz.info_u8 (.slice A0 out.length k0) out rfl ((OO1.out.drewN 1).alloc _) (some ⟨w1.heap.size,0,none⟩) 1 1 (w1.heap.size+1) [x] rfl rfl (BRow.one (w1.drewN 1) _ x) hll hb2 ?_;intro v2 w2 hown2 hfrm2 hnew2;obtain ⟨A2,k2,rfl,hc2,hm2,hr2⟩:=hown2.slice;have hp2:=((PP1.out.drewN 1).alloc _).frm hfrm2 (fun e=>HNB.out e);have z4:w2.cell? ⟨b,4,none⟩=some (.slice A0 out.length k0):=(hp2.cell 4).trans rfl;have y4:=hp2.frozen 4)
   all_goals
    have F2:Frm (fun x=>x=b∨(Value.slice A0 out.length k0).ownBlock=some x) w w2:=(((FF1.out.drewN 1).alloc _).trans (hfrm2.mono fun q _ hq=>.inr hq))
    have M2:Moved w (.slice A0 out.length k0) (.slice A2 (out.length+1) k2):=by
     rw [List.length_append] at hnew2
     rcases hnew2 with h | h
     ·exact .inl h
     exact .inr ⟨_,h,by have h9:=FF1.out.size;show _≤(w1.heap.push _).size;rw [Array.size_push];omega⟩
    rw [List.length_append] at hown2
    have hp3:=hp2.set 4 (.slice A2 (out.length+1) k2)
    go_wp2
    go_meet
    case rel =>
    have hb3:=HP.out.lt
    have hnb2:(Value.slice A2 (out.length+1) k2).ownBlock≠some b:=by
     intro hq
     rcases M2 with h | ⟨g,h,hg⟩
     ·exact HNB.out (h▸hq)
     rw [h] at hq;injection hq with hq;omega
    exact ⟨A2,k2,rfl,hp3,hown2.other (p:=⟨b,4,none⟩) hnb2 _,F2.setCell (p:=⟨b,4,none⟩) (.inl rfl) _,M2⟩
  case rest =>
  obtain ⟨A2,k2,rfl,hmid⟩:=hcut
  have hb3:=HP.out.lt
  have MD:=hid hmid
  clear hmid c0 c2 c3 c4 f0 f2 f3 f4
  go_wp2
  go_step3
  go_wp2
  go_loopg [57] more (fun gn s57 wr=>∃ (j:Nat) (A3:Option Addr) (k3:Nat),j+gn=more∧MidAt w wr 206 b base low2 size first.toNat ((more-j:Nat):Int) closed (.slice A0 out.length k0) (.slice A3 (out.length+1+j) k3) (out++x::List.replicate j y))
  case atStart=>exact ⟨0,A2,k2,by omega,MD.out⟩
  case round =>
  obtain ⟨j,A3,k3,hj,hm⟩:=hrel
  clear MD
  obtain ⟨mj,hmj⟩:∃ mj,more-j=mj:=⟨_,rfl⟩
  rw [hmj] at hm
  have P3:=hm.1
  have NB3:=hid (hm.nb (by decide))
  have hbw:=P3.lt
  have d3:wr.cell? ⟨b,3,none⟩=some (.int .i64 mj):=by rw [P3.cell];rfl
  have d4:wr.cell? ⟨b,4,none⟩=some (.slice A3 (out.length+1+j) k3):=by rw [P3.cell];rfl
  have d2:wr.cell? ⟨b,2,none⟩=some (.int .u8 (first.toNat:Int)):=by rw [P3.cell];rfl
  have g2:=P3.frozen 2
  have hws:=hm.2.2.1.size
  have MM:=hid hm
  have HJ:=hid hj
  clear P3 hm hj
  cases mj with
  | succ m2 =>
   have hz:((((m2+1:Nat):Int))==0)=false:=beq_eq_false_iff_ne.2 (by omega)
   have hm21:IntKind.i64.wrap (((m2+1:Nat):Int)-1)=(m2:Int):=by rw [Go.IntWalk.i64_in _ (by omega)];omega
   obtain ⟨mi,hmi⟩:∃ mi:Int,((m2+1:Nat):Int)=mi:=⟨_,rfl⟩
   rw [hmi] at hz hm21 d3
   have hmj2:=hid hmj
   have HMI:=hid hmi
   clear hmj hmi
   go_wp2_with (at_builtin;refine wpList_append_bytes _ rfl (.tmp 62) (.tmp 65) 22 rfl 5 base Tryz.underlying22 Tryz.info_u8 (.slice A3 (out.length+1+j) k3) (out++x::List.replicate j y) rfl ?own5 (some ⟨wr.heap.size,0,none⟩) 1 1 (wr.heap.size+1) [y] rfl rfl ?row5 ?len5 ?base5 ?next5)
   case own5=>exact MM.out.2.1.alloc _
   case row5=>exact BRow.one wr _ y
   case len5=>have:=HJ.out;simp;omega
   case base5=>show base≤(wr.heap.push _).size;rw [Array.size_push];omega
   case next5 =>
    intro v5 w5 hown5 hfrm5 hnew5
    obtain ⟨Y,hY⟩:∃ Y,Obj.cells #[.int .u8 (y.toNat:Int)] 5=Y:=⟨_,rfl⟩
    rw [hY] at hfrm5
    have hp5:=(MM.out.1.alloc Y).frm hfrm5 (fun e=>NB3.out e)
    have e3:w5.cell? ⟨b,3,none⟩=some (.int .i64 mi):=by rw [hp5.cell,← HMI.out];rfl
    have e4:w5.cell? ⟨b,4,none⟩=some (.slice A3 (out.length+1+j) k3):=by rw [hp5.cell];rfl
    have k3f:=hp5.frozen 3
    have k4f:=hp5.frozen 4
    have hsY:(wr.alloc Y).heap.size=wr.heap.size+1:=by show (wr.heap.push _).size=_;rw [Array.size_push]
    have F5:Frm (fun x=>x=b∨(Value.slice A0 out.length k0).ownBlock=some x) w w5:=(MM.out.2.2.1.alloc Y).transR hfrm5 (fun q hq e=>MM.out.2.2.2.own q hq e)
    have hM5:Moved w (.slice A0 out.length k0) v5:=by
     rcases hnew5 with h | h
     ·rcases MM.out.2.2.2 with h2 | ⟨g,h2,hg⟩
      ·exact .inl (h.trans h2)
      exact .inr ⟨g,h.trans h2,hg⟩
     exact .inr ⟨_,h,by omega⟩
    have hnb5:v5.ownBlock≠some b:=by
     intro hq
     rcases hM5 with h | ⟨g,h,hg⟩
     ·exact HNB.out (h▸hq)
     rw [h] at hq;injection hq with hq;omega
    rw [← List.replicate_succ'] at hown5
    have hl5:(out++x::List.replicate (j+1) y).length=out.length+1+(j+1):=by simp;omega
    obtain ⟨A5,k5,e5,_,_,_⟩:=hown5.slice
    rw [hl5] at e5
    subst e5
    have O5:=hid hown5
    have P5:=hid hp5
    have FF5:=hid F5
    have MM5:=hid hM5
    have NB5:=hid hnb5
    clear hown5 hfrm5 hnew5 hp5 F5 hM5 hnb5 hY hl5
    go_wp2
    go_roundg (more-(j+1))
    case measure=>have:=HJ.out;have:=hmj2.out;omega
    case rel =>
     refine ⟨j+1,A5,k5,by have:=HJ.out;have:=hmj2.out;omega,?_,(O5.out.other (p:=⟨b,4,none⟩) NB5.out _).other (p:=⟨b,3,none⟩) NB5.out _,(FF5.out.setCell (p:=⟨b,4,none⟩) (.inl rfl) _).setCell (p:=⟨b,3,none⟩) (.inl rfl) _,MM5.out⟩
     have hjm:more-(j+1)=m2:=by have:=hmj2.out;omega
     rw [hjm]
     exact (P5.out.set 4 _).set 3 _
  | zero =>
   obtain rfl:j=more:=by have:=HJ.out;omega
   have hz:((((0:Nat):Int))==0)=true:=rfl
   clear hmj
   go_wp2
   unfold Exit.noGoto
   go_end0
   rw [HE.out]
   exact ⟨_,rfl,⟨MM.out.1.set 2 (.int .u8 (hi.toNat:Int)),MM.out.2.1.other (p:=⟨b,2,none⟩) NB3.out _,HK.out⟩,MM.out.2.2.1.setCell (p:=⟨b,2,none⟩) (.inl rfl) _,MM.out.2.2.2⟩
open Go.RowKit Rng
open Go.RowKit Rng
theorem Moved.refl (w:World) (v:Value):Moved w v v:=.inl rfl
theorem Moved.trans {w w1:World} {v v1 v2:Value} (h:Moved w v v1) (h2:Moved w1 v1 v2) (hs:w.heap.size≤w1.heap.size):Moved w v v2:=by
 rcases h2 with h2 | ⟨g,h2,hg⟩
 ·rcases h with h | ⟨g,h,hg⟩
  ·exact .inl (h2.trans h)
  exact .inr ⟨g,h2.trans h,hg⟩
 exact .inr ⟨g,h2,by omega⟩
theorem EncAt.nb {w:World} {T z b base:Nat} {v:Value} {e:Enc} (h:EncAt w T z b base v e) (hT:T≠5):v.ownBlock≠some b:=by
 intro hq
 rcases h.o.form with ⟨e,_⟩ | ⟨g,cap,cur,e,_,hp',_⟩
 ·rw [e] at hq;cases hq
 rw [e] at hq
 injection hq with hq
 subst hq
 have e2:=hp'.symm.trans h.p
 simp at e2
 exact hT e2.2.symm
set_option maxRecDepth 100000 in
set_option maxHeartbeats 2000000 in
theorem eorder_p (b base:Nat) (v:Value) (e:Enc) (w:World) (h:EncAt w 206 0 b base v e) (hbase:base≤w.heap.size) (hlen:e.cnt<1000000) (hs:e.Pre) :
 Calls Tryz.prog 154 #[.pointer (some ⟨b,0,none⟩)] w fun r w'=>∃ v':Value,r=.returned (.tuple #[])∧EncAt w' 206 0 b base v' e.order∧Frm (fun x=>x=b∨v.ownBlock=some x) w w'∧Moved w v v':=by
 obtain ⟨G,hG⟩:∃ G,e.order=G:=⟨_,rfl⟩
 have hGs:16777216≤G.size:=by rw [← hG];exact hs.order.s.1
 have HS:=hid hs
 have HGS:=hid hGs
 have HG:=hid hG
 have HE:=hid h
 have HC:=hid hlen
 rw [hG]
 clear hs h hlen hG hGs
 go_enter Tryz.func154,Tryz.ntmps154
 go_wp2
 go_loopg [6] 1 (fun gn s6 wr=>∃ (e1:Enc) (v1:Value),EncAt wr 206 0 b base v1 e1∧((e1=e∧gn=1)∨e1=G)∧Frm (fun x=>x=b∨v.ownBlock=some x) w wr∧Moved w v v1)
 case atStart=>exact ⟨e,v,HE.out,.inl ⟨rfl,rfl⟩,Frm.refl _ _,Moved.refl _ _⟩
 case round =>
 obtain ⟨e1,v1,he1,hcase,hf,hm⟩:=hrel
 have hp:=he1.p
 have d1:wr.cell? ⟨b,1,none⟩=some (.int .u32 e1.size):=by rw [hp.cell];rfl
 have f1:=hp.frozen 1
 have E1:=hid he1
 have F1:=hid hf
 have M1:=hid hm
 clear hp he1 hf hm
 by_cases hlt:e1.size<16777216
 ·obtain ⟨rfl,rfl⟩:e1=e∧gk=1:=by
   rcases hcase with h | h
   ·exact h
   rw [h] at hlt;have:=HGS.out;omega
  have hsl:=HS.out.s.1
  obtain ⟨s,hse⟩:∃ s,e1.size=s:=⟨_,rfl⟩
  rw [hse] at d1 hlt
  have hd:(s:Int)<16777216:=by omega
  have hw1:IntKind.u32.wrap ((s:Int)*256)=((s*256:Nat):Int):=by rw [Go.IntWalk.u32_in _ (by omega)];omega
  obtain ⟨s2,hs2⟩:∃ s2,s*256=s2:=⟨_,rfl⟩
  rw [hs2] at hw1
  have HSE:=hid hse
  have HS2:=hid hs2
  have HLT:=hid hlt
  clear hcase hlt hse hs2 hsl
  go_wp2_with fail
  have hE2:EncAt (wr.setCell ⟨b,1,none⟩ (.int .u32 s2)) 206 0 b base v1 ⟨e1.low,e1.size*256,e1.first,e1.more,e1.out,e1.closed⟩:=by
   refine ⟨?_,E1.out.o.other (p:=⟨b,1,none⟩) (E1.out.nb (by decide)) _,⟨E1.out.k.l,?_⟩⟩
   ·rw [HSE.out,HS2.out];exact E1.out.p.set 1 _
   have:=HLT.out;rw [← HSE.out] at this;simp only;omega
  have hF2:=F1.out.setCell (p:=⟨b,1,none⟩) (.inl rfl) (.int .u32 s2)
  refine (eshift_p b base v1 _ _ hE2 (Nat.le_trans hbase hF2.size) (Nat.le_of_lt HC.out)).mono ?_
  rintro r w3 ⟨v3,rfl,hE3,hF3,hM3⟩
  have hG3:Enc.shift ⟨e1.low,e1.size*256,e1.first,e1.more,e1.out,e1.closed⟩=G:=by
   rw [← HG.out];unfold Enc.order;rw [if_pos (by have:=HLT.out;rw [← HSE.out] at this;exact this)]
  rw [hG3] at hE3
  have E3:=hid hE3
  have F3:=hid (hF2.transR hF3 (fun q hq hh=>hh.elim .inl (fun h2=>M1.out.own q hq h2)))
  have M3:=hid (M1.out.trans hM3 hF2.size)
  clear hE2 hF2 hE3 hF3 hM3 hG3
  go_wp2
  go_roundg 0
  case measure=>omega
  case rel=>exact ⟨G,v3,E3.out,.inr rfl,F3.out,M3.out⟩
 have hd:¬ ((e1.size:Int)<16777216):=by omega
 have hG1:e1=G:=by
  rcases hcase with ⟨h,_⟩ | h
  ·rw [← HG.out,← h,Enc.order_stay (by omega)]
  exact h
 subst hG1
 clear hcase hlt
 go_wp2
 go_end0
 first
  | exact ⟨_,rfl,E1.out,F1.out,M1.out⟩
  | exact ⟨rfl,_,E1.out,F1.out,M1.out⟩
open Go.RowKit Rng
theorem u64_add {a b:Nat} (h:a+b<18446744073709551616):IntKind.u64.wrap ((a:Int)+b)=((a+b:Nat):Int):=by rw [Go.IntWalk.u64_in _ (by omega)];omega
set_option maxRecDepth 100000 in
set_option maxHeartbeats 2000000 in
theorem ebit_p (b base pb po pv:Nat) (bit:Int) (one:Bool) (v:Value) (e:Enc) (w:World) (h:EncAt w 206 0 b base v e) (hbase:base≤w.heap.size) (hlen:e.cnt<1000000) (hs:e.Run) (hcl:e.closed=false)
 (hp:w.cell? ⟨pb,po,none⟩=some (.int .u16 pv)) (hfz:w.frozen? ⟨pb,po,none⟩=false) (hne:pb≠b) (hnv:v.ownBlock≠some pb) (hpv:pv<65536) (hone:one=decide (bit≠0)) :
 Calls Tryz.prog 132 #[.pointer (some ⟨b,0,none⟩),.pointer (some ⟨pb,po,none⟩),.int .i64 bit] w fun r w'=>∃ v':Value,r=.returned (.tuple #[])∧EncAt w' 206 0 b base v' (e.bit (fair pv) one) ∧
  Frm (fun x=>x=b∨v.ownBlock=some x) (w.setCell ⟨pb,po,none⟩ (.int .u16 (learn (fair pv) one))) w'∧Moved w v v':=by
 have hfb:=fair_bd pv
 obtain ⟨c,hcd⟩:∃ c,fair pv=c:=⟨_,rfl⟩
 rw [hcd] at hfb
 obtain ⟨hc31,hc17⟩:=hfb
 have hpre:=hs.cut hc31 hc17 one
 have hcc:(e.cut c one).cnt<1000000:=by rw [Enc.cut_cnt];exact hlen
 rw [hcd,Enc.bit_cut]
 have hb:=bound_bd hs.s.1 hc31 hc17
 have hs2:=hs.s.2
 have hlow:=hs.l
 have HPV:=hid hpv
 have HC:=hid hcd
 have HPRE:=hid hpre
 have HCC:=hid hcc
 have HE:=hid h
 have hpt:=h.p
 have hlt:=World.block_lt_of_cell? w ⟨pb,po,none⟩ hp
 have hnb:=h.nb (by decide)
 obtain ⟨q,hq⟩:∃ q:Nat,e.size / 2048=q:=⟨_,rfl⟩
 obtain ⟨bd,hbd⟩:∃ bd:Nat,q*c=bd:=⟨_,rfl⟩
 rw [hq,hbd] at hb
 have hcut:e.cut c one=if one then ⟨e.low+bd,e.size-bd,e.first,e.more,e.out,e.closed⟩ else ⟨e.low,bd,e.first,e.more,e.out,e.closed⟩:=by unfold Enc.cut;rw [hq,hbd]
 obtain ⟨s,hse⟩:∃ s,e.size=s:=⟨_,rfl⟩
 obtain ⟨lo,hlo⟩:∃ lo,e.low=lo:=⟨_,rfl⟩
 rw [hse] at hq hb hcut hs2
 rw [hlo,hse] at hlow
 rw [hlo] at hcut
 have hq1:(s:Int) / 2048=(q:Int):=by omega
 have hm1:IntKind.u32.wrap ((q:Int)*(c:Int))=(bd:Int):=by
  have e:(q:Int)*(c:Int)=(bd:Int):=by rw [← hbd];simp
  rw [e,Go.IntWalk.u32_in _ (by omega)]
 have hwc:IntKind.u32.wrap (c:Int)=(c:Int):=by rw [Go.IntWalk.u32_in _ (by omega)]
 have hwq:IntKind.u32.wrap (q:Int)=(q:Int):=by rw [Go.IntWalk.u32_in _ (by omega)]
 have hm2:IntKind.u32.wrap ((s:Int)-bd)=((s-bd:Nat):Int):=by rw [Go.IntWalk.u32_in _ (by omega)];omega
 have hm3:IntKind.u64.wrap ((lo:Int)+bd)=((lo+bd:Nat):Int):=u64_add (by omega)
 have hm4:IntKind.u64.wrap (bd:Int)=(bd:Int):=by rw [Go.IntWalk.u64_in _ (by omega)]
 obtain ⟨s3,hs3⟩:∃ s3:Nat,s-bd=s3:=⟨_,rfl⟩
 obtain ⟨lo3,hlo3⟩:∃ lo3:Nat,lo+bd=lo3:=⟨_,rfl⟩
 rw [hs3] at hm2 hcut
 rw [hlo3] at hm3 hcut
 have d0:w.cell? ⟨b,0,none⟩=some (.int .u64 lo):=by rw [hpt.cell,← hlo];rfl
 have d1:w.cell? ⟨b,1,none⟩=some (.int .u32 s):=by rw [hpt.cell,← hse];rfl
 have d5:w.cell? ⟨b,5,none⟩=some (.bool false):=by rw [hpt.cell,← hcl];rfl
 have g0:=hpt.frozen 0
 have g1:=hpt.frozen 1
 have HCUT:=hid hcut
 have HPT:=hid hpt
 have HNB:=hid hnb
 have HNV:=hid hnv
 have HLT:=hid hlt
 have HSE:=hid hse
 have HLO:=hid hlo
 have HS3:=hid hs3
 have HLO3:=hid hlo3
 clear hpv hcd hpre hcc h hs hlen hb hs2 hlow hq hbd hcut hs3 hlo3 hlo hse hpt hnb hnv hlt hcl
 by_cases hbit:bit=0
 ·subst hbit
  obtain rfl:one=false:=by rw [hone];rfl
  clear hone
  go_enter Tryz.func132,Tryz.ntmps132
  go_wp2_with fail
  refine (fair_p pv _ HPV.out).mono ?_;rintro r w1 ⟨rfl,rfl⟩
  rw [HC.out]
  go_wp2_with fail
  refine (learn_p c 0 false _ hc17 rfl).mono ?_;rintro r w2 ⟨rfl,rfl⟩
  go_wp2_with fail
  have hE2:EncAt ((w.setCell ⟨b,1,none⟩ (.int .u32 bd)).setCell ⟨pb,po,none⟩ (.int .u16 (learn c false))) 206 0 b base v (e.cut c false):=by
   have hk:=HPRE.out.ok
   rw [HCUT.out] at hk ⊢
   exact ⟨by have h9:=(HPT.out.set 1 (.int .u32 bd)).other (p:=⟨pb,po,none⟩) (fun e=>hne e.symm) (.int .u16 (learn c false));rw [HLO.out] at h9;exact h9,(HE.out.o.other (p:=⟨b,1,none⟩) HNB.out _).other (p:=⟨pb,po,none⟩) HNV.out _,hk⟩
  have hF2:=((Frm.refl (fun x=>x=b∨v.ownBlock=some x) w).setCell (p:=⟨b,1,none⟩) (.inl rfl) (.int .u32 bd)).setBoth (p:=⟨pb,po,none⟩) (fun h=>h.elim hne HNV.out) HLT.out (.int .u16 (learn c false))
  have hsz:((w.setCell ⟨b,1,none⟩ (.int .u32 bd)).setCell ⟨pb,po,none⟩ (.int .u16 (learn c false))).heap.size=w.heap.size:=by simp
  refine (eorder_p b base v _ _ hE2 (by rw [hsz];exact hbase) HCC.out HPRE.out).mono ?_
  rintro r w3 ⟨v3,rfl,hE3,hF3,hM3⟩
  have E3:=hid hE3
  have F3:=hid (hF2.trans hF3)
  have M3:=hid ((Moved.refl w v).trans hM3 (Nat.le_of_eq hsz.symm))
  clear hE2 hF2 hE3 hF3 hM3 hsz
  go_wp2
  go_end0
  first
   | exact ⟨_,rfl,E3.out,F3.out,M3.out⟩
   | exact ⟨rfl,_,E3.out,F3.out,M3.out⟩
 have hbz:(bit==0)=false:=beq_eq_false_iff_ne.2 hbit
 obtain rfl:one=true:=by rw [hone];exact decide_eq_true hbit
 have HBIT:=hid hbit
 clear hone hbit
 go_enter Tryz.func132,Tryz.ntmps132
 go_wp2_with fail
 refine (fair_p pv _ HPV.out).mono ?_;rintro r w1 ⟨rfl,rfl⟩
 rw [HC.out]
 go_wp2_with fail
 refine (learn_p c bit true _ hc17 (decide_eq_true HBIT.out).symm).mono ?_;rintro r w2 ⟨rfl,rfl⟩
 go_wp2_with fail
 have hE2:EncAt (((w.setCell ⟨b,0,none⟩ (.int .u64 lo3)).setCell ⟨b,1,none⟩ (.int .u32 s3)).setCell ⟨pb,po,none⟩ (.int .u16 (learn c true))) 206 0 b base v (e.cut c true):=by
  have hk:=HPRE.out.ok
  rw [HCUT.out] at hk ⊢
  exact ⟨((HPT.out.set 0 (.int .u64 lo3)).set 1 (.int .u32 s3)).other (p:=⟨pb,po,none⟩) (fun e=>hne e.symm) _,((HE.out.o.other (p:=⟨b,0,none⟩) HNB.out _).other (p:=⟨b,1,none⟩) HNB.out _).other (p:=⟨pb,po,none⟩) HNV.out _,hk⟩
 have hF2:=(((Frm.refl (fun x=>x=b∨v.ownBlock=some x) w).setCell (p:=⟨b,0,none⟩) (.inl rfl) (.int .u64 lo3)).setCell (p:=⟨b,1,none⟩) (.inl rfl) (.int .u32 s3)).setBoth (p:=⟨pb,po,none⟩) (fun h=>h.elim hne HNV.out) HLT.out (.int .u16 (learn c true))
 have hsz:(((w.setCell ⟨b,0,none⟩ (.int .u64 lo3)).setCell ⟨b,1,none⟩ (.int .u32 s3)).setCell ⟨pb,po,none⟩ (.int .u16 (learn c true))).heap.size=w.heap.size:=by simp
 refine (eorder_p b base v _ _ hE2 (by rw [hsz];exact hbase) HCC.out HPRE.out).mono ?_
 rintro r w3 ⟨v3,rfl,hE3,hF3,hM3⟩
 have E3:=hid hE3
 have F3:=hid (hF2.trans hF3)
 have M3:=hid ((Moved.refl w v).trans hM3 (Nat.le_of_eq hsz.symm))
 clear hE2 hF2 hE3 hF3 hM3 hsz
 go_wp2
 go_end0
 first
  | exact ⟨_,rfl,E3.out,F3.out,M3.out⟩
  | exact ⟨rfl,_,E3.out,F3.out,M3.out⟩
open Go.RowKit Rng
theorem bit_at {x t:Nat} (hx:x<4294967296):bits .and .u32 ((x:Int) / 2 ^ t) 1=((x / 2 ^ t % 2:Nat):Int):=by
 have h1:x / 2 ^ t<Num.M32:=Nat.lt_of_le_of_lt (Nat.div_le_self _ _) hx
 have h:=Num.and32_1 h1
 rw [← h]
 congr 1
set_option maxRecDepth 100000 in
set_option maxHeartbeats 2000000 in
theorem edirect_p (b base x:Nat) (n:Int) (v:Value) (e:Enc) (w:World) (h:EncAt w 206 0 b base v e) (hbase:base≤w.heap.size) (hlen:e.cnt+32<1000000) (hs:e.Run) (hcl:e.closed=false) (hx:x<4294967296) :
 Calls Tryz.prog 195 #[.pointer (some ⟨b,0,none⟩),.int .u32 x,.int .i64 n] w fun r w'=>∃ v':Value,r=.returned (.tuple #[])∧EncAt w' 206 0 b base v' (Enc.direct x (count n) e) ∧
  Frm (fun y=>y=b∨v.ownBlock=some y) w w'∧Moved w v v':=by
 obtain ⟨N,hN⟩:∃ N:Nat,count n=N:=⟨_,rfl⟩
 have hN2:N≤32:=by rw [← hN];unfold count;omega
 obtain ⟨y,hy⟩:∃ y:Int,max n 0=y:=⟨_,rfl⟩
 have f1:=fun w=>max2_num (P:=Tryz.prog) .i64 #[3,3] 3 n 0 y hy w
 have f2:=fun w=>min2_num (P:=Tryz.prog) .i64 #[3,3] 3 y 32 N (by rw [← hN];unfold count;omega) w
 obtain ⟨G,hG⟩:∃ G,Enc.direct x N e=G:=⟨_,rfl⟩
 rw [hN,hG]
 have d5:w.cell? ⟨b,5,none⟩=some (.bool false):=by rw [h.p.cell,← hcl];rfl
 have HG:=hid hG
 have HE:=hid h
 have HS:=hid hs
 have HCL:=hid hcl
 have HX:=hid hx
 have HLEN:=hid hlen
 clear hy hN hG h hs hcl hx hlen
 go_enter Tryz.func195,Tryz.ntmps195
 go_wp2
 go_loopw [6] (fun iv wr=>∃ (j:Nat) (e1:Enc) (v1:Value),iv=.int .i64 ((j:Int)-1)∧j≤N∧Enc.direct x j e1=G∧EncAt wr 206 0 b base v1 e1∧e1.Run∧e1.closed=false∧e1.cnt≤e.cnt+(N-j) ∧
  Frm (fun y=>y=b∨v.ownBlock=some y) w wr∧Moved w v v1) (fun iv _=>(intOf iv+1).toNat)
 case atStart=>exact ⟨N,e,v,rfl,by omega,HG.out,HE.out,HS.out,HCL.out,by omega,Frm.refl _ _,Moved.refl _ _⟩
 case round =>
 obtain ⟨j,e1,v1,rfl,hj,hg,he1,hr1,hc1,hn1,hf1,hm1⟩:=hrel
 have E1:=hid he1
 have R1:=hid hr1
 have C1:=hid hc1
 have N1:=hid hn1
 have F1:=hid hf1
 have M1:=hid hm1
 have G1:=hid hg
 have hpt:=he1.p
 have k5:wr.cell? ⟨b,5,none⟩=some (.bool false):=by rw [hpt.cell,← hc1];rfl
 clear he1 hr1 hc1 hn1 hf1 hm1 hg HE HS HCL
 cases j with
 | zero =>
  have hneg:¬ ((0:Int)≤((0:Nat):Int)-1):=by omega
  have h0:e1=G:=G1.out
  subst h0
  clear hpt G1
  go_wp2
  go_end0
  first
   | exact ⟨_,rfl,E1.out,F1.out,M1.out⟩
   | exact ⟨rfl,_,E1.out,F1.out,M1.out⟩
 | succ t =>
  have hti:(((t+1:Nat):Int)-1)=(t:Int):=by omega
  rw [hti]
  obtain ⟨s,hse⟩:∃ s,e1.size=s:=⟨_,rfl⟩
  obtain ⟨lo,hlo⟩:∃ lo,e1.low=lo:=⟨_,rfl⟩
  have d0:wr.cell? ⟨b,0,none⟩=some (.int .u64 lo):=by rw [hpt.cell,← hlo];rfl
  have d1:wr.cell? ⟨b,1,none⟩=some (.int .u32 s):=by rw [hpt.cell,← hse];rfl
  have g0:=hpt.frozen 0
  have g1:=hpt.frozen 1
  have hlow:=R1.out.l
  have hsz:=R1.out.s
  rw [hse] at hsz hlow
  rw [hlo] at hlow
  obtain ⟨q,hq⟩:∃ q,s / 2=q:=⟨_,rfl⟩
  obtain ⟨lo3,hlo3⟩:∃ lo3,lo+q=lo3:=⟨_,rfl⟩
  have hq1:(s:Int) / 2=(q:Int):=by omega
  have hq64:IntKind.u64.wrap (q:Int)=(q:Int):=by rw [Go.IntWalk.u64_in _ (by omega)]
  have hadd:IntKind.u64.wrap ((lo:Int)+q)=(lo3:Int):=by rw [u64_add (by omega),hlo3]
  have hbt:=bit_at (x:=x) (t:=t) HX.out
  have hg2:=G1.out
  rw [Enc.direct,Enc.one_half] at hg2
  have hcase:x / 2 ^ t % 2=0∨x / 2 ^ t % 2=1:=by omega
  have PT:=hid hpt
  have HSE:=hid hse
  have HLO:=hid hlo
  have HQ:=hid hq
  have HLO3:=hid hlo3
  have NB:=hid (E1.out.nb (by decide))
  have HN:=hid hj
  clear hpt hti hlow hsz hse hlo hq hlo3 G1
  rcases hcase with hb | hb
  ·rw [hb] at hbt hg2
   have hbt0:bits .and .u32 ((x:Int) / 2 ^ t) 1=0:=hbt
   have HG2:=hid hg2
   clear hbt hb hg2
   go_wp2_with fail
   have hE2:EncAt (wr.setCell ⟨b,1,none⟩ (.int .u32 q)) 206 0 b base v1 (e1.half (0==1)):=by
    refine ⟨?_,E1.out.o.other (p:=⟨b,1,none⟩) NB.out _,(R1.out.half _).ok⟩
    have h9:=PT.out.set 1 (.int .u32 q)
    rw [← HQ.out,← HSE.out] at h9 ⊢
    exact h9
   have hF2:=F1.out.setCell (p:=⟨b,1,none⟩) (.inl rfl) (.int .u32 q)
   refine (eorder_p b base v1 _ _ hE2 (Nat.le_trans hbase hF2.size) (by have h1:(e1.half (0==1)).cnt=e1.cnt:=rfl;have h2:=N1.out;have h3:=HLEN.out;have h4:=HN.out;omega) (R1.out.half _)).mono ?_
   rintro r w3 ⟨v3,rfl,hE3,hF3,hM3⟩
   have E3:=hid hE3
   have F3:=hid (hF2.transR hF3 (fun q hq hh=>hh.elim .inl (fun h2=>M1.out.own q hq h2)))
   have M3:=hid (M1.out.trans hM3 hF2.size)
   clear hE2 hF2 hE3 hF3 hM3
   go_wp2
   exact ⟨⟨t,_,v3,by go_num,by have:=HN.out;omega,HG2.out,E3.out,R1.out.one _,by rw [Enc.order_closed];exact C1.out,by have h1:=Enc.one_cnt e1 (0==1);have h2:=N1.out;have h3:=HN.out;rw [Enc.one_half] at h1;omega,F3.out,M3.out⟩,by simp [intOf] <;> omega⟩
  rw [hb] at hbt hg2
  have hbt0:bits .and .u32 ((x:Int) / 2 ^ t) 1=1:=hbt
  have HG2:=hid hg2
  clear hbt hb hg2
  go_wp2
  have hP2:=PT.out.set 1 (.int .u32 q)
  have hO2:=E1.out.o.other (p:=⟨b,1,none⟩) NB.out (.int .u32 q)
  have hF2:=F1.out.setCell (p:=⟨b,1,none⟩) (.inl rfl) (.int .u32 q)
  generalize wr.setCell ⟨b,1,none⟩ (.int .u32 q)=w2 at *
  have e0:w2.cell? ⟨b,0,none⟩=some (.int .u64 lo):=by rw [hP2.cell,← HLO.out];rfl
  have e1':w2.cell? ⟨b,1,none⟩=some (.int .u32 q):=by rw [hP2.cell];rfl
  have k0:=hP2.frozen 0
  have P2:=hid hP2
  have O2:=hid hO2
  have F2:=hid hF2
  clear hP2 hO2 hF2 d0 d1 g0 g1
  go_still_tail 12,(by kernel_rfl)
  change wpList _ _ _ _ _ w2.drew
  go_wp2_with fail
  have hE3:EncAt (w2.setCell ⟨b,0,none⟩ (.int .u64 lo3)).drew 206 0 b base v1 (e1.half (1==1)):=by
   refine ⟨?_,O2.out.other (p:=⟨b,0,none⟩) NB.out _,(R1.out.half _).ok⟩
   have h9:=(P2.out.set 0 (.int .u64 lo3)).drew
   rw [← HLO3.out,← HLO.out,← HQ.out,← HSE.out] at h9 ⊢
   exact h9
  have hF3:=(F2.out.setCell (p:=⟨b,0,none⟩) (.inl rfl) (.int .u64 lo3)).drew
  refine (eorder_p b base v1 _ _ hE3 (Nat.le_trans hbase hF3.size) (by have h1:(e1.half (1==1)).cnt=e1.cnt:=rfl;have h2:=N1.out;have h3:=HLEN.out;have h4:=HN.out;omega) (R1.out.half _)).mono ?_
  rintro r w3 ⟨v3,rfl,hE4,hF4,hM4⟩
  have E3:=hid hE4
  have F3:=hid (hF3.transR hF4 (fun q hq hh=>hh.elim .inl (fun h2=>M1.out.own q hq h2)))
  have M3:=hid (M1.out.trans hM4 hF3.size)
  clear hE3 hF3 hE4 hF4 hM4
  go_wp2
  exact ⟨⟨t,_,v3,by go_num,by have:=HN.out;omega,HG2.out,E3.out,R1.out.one _,by rw [Enc.order_closed];exact C1.out,by have h1:=Enc.one_cnt e1 (1==1);have h2:=N1.out;have h3:=HN.out;rw [Enc.one_half] at h1;omega,F3.out,M3.out⟩,by simp [intOf] <;> omega⟩
end Go.Proofs.YtffehfpbdcokbaaGreat
