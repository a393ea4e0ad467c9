import Derived.Test.YtffehfpbdcokbaaGreatOpen
import Derived.Test.YtffehfpbdcokbaaGreatBu28
set_option linter.unusedVariables false
set_option linter.unusedSimpArgs false
namespace Go.Proofs.YtffehfpbdcokbaaGreat
open Lib (hid)
open Go.RowKit Rng
theorem Rng.Enc.shifts_step (n:Nat) (e:Enc):Enc.shifts (n+1) e=Enc.shifts n e.shift:=rfl
theorem close_open {e:Enc} (h:e.closed=false):e.close=⟨(e.shifts 5).low,(e.shifts 5).size,(e.shifts 5).first,(e.shifts 5).more,(e.shifts 5).out,true⟩:=by
 unfold Enc.close;rw [if_neg (by rw [h];simp)]
theorem close_shut {e:Enc} (h:e.closed=true):e.close=e:=if_pos h
def Rng.Enc.fin (e:Enc):Enc:=if e.closed then e else e.shifts 5
theorem Rng.Enc.close_fin (e:Enc):e.close=⟨e.fin.low,e.fin.size,e.fin.first,e.fin.more,e.fin.out,true⟩:=by
 cases h:e.closed with
 | true=>rw [close_shut h];unfold Enc.fin;rw [if_pos h,← h]
 | false=>rw [close_open h];unfold Enc.fin;rw [if_neg (by rw [h];simp)]
theorem eclose_fin (T z b base n7:Nat) (v v1 v7:Value) (e1:Enc) (w wr w7:World) (E1:EncAt wr T z b base v1 e1) (hT:T≠5) (F1:Frm (fun x=>x=b∨v.ownBlock=some x) w wr) (M1:Moved w v v1)
 (hown7:OwnB w7 5 w.heap.size v7 e1.out) (hfrm7:Frm (fun k=>(Value.slice (some ⟨wr.heap.size,0,none⟩) 0 0).ownBlock=some k) ((wr.setCell ⟨b,5,none⟩ (.bool true)).alloc (.cells #[] 5)) w7)
 (hnew7:v7.ownBlock=(Value.slice (some ⟨wr.heap.size,0,none⟩) 0 0).ownBlock∨v7.ownBlock=some n7) (hn7:wr.heap.size≤n7) :
 EncAt w7 T z b base v1 ⟨e1.low,e1.size,e1.first,e1.more,e1.out,true⟩∧Frm (fun x=>x=b∨v.ownBlock=some x) w w7∧Moved w v v1∧OwnB w7 5 w.heap.size v7 e1.out∧(∀ q,v7.ownBlock=some q→v1.ownBlock≠some q):=by
 have hbw:=E1.p.lt
 have hnb:=E1.nb hT
 have hs1:=F1.size
 refine ⟨⟨((E1.p.set 5 (.bool true)).alloc _).frm hfrm7 (fun h=>by have h':wr.heap.size=b:=Option.some.inj h;omega),((E1.o.other (p:=⟨b,5,none⟩) hnb _).alloc _).frm hfrm7 (fun q hq h=>by have h':wr.heap.size=q:=Option.some.inj h;have:=(E1.o.lt hq).2;omega),⟨E1.k.l,E1.k.s⟩⟩,
  ((F1.setCell (p:=⟨b,5,none⟩) (.inl rfl) (.bool true)).alloc _).transR hfrm7 (fun q hq h=>by have h':wr.heap.size=q:=Option.some.inj h;omega),M1,hown7,?_⟩
 intro q hq h
 have h1:=(E1.o.lt h).2
 rcases hnew7 with h2 | h2
 ·rw [h2] at hq;have h':wr.heap.size=q:=Option.some.inj hq;omega
 rw [h2] at hq;have h':n7=q:=Option.some.inj hq;omega
set_option maxRecDepth 100000 in
set_option maxHeartbeats 2000000 in
theorem eclose_p (b base:Nat) (v:Value) (e:Enc) (w:World) (h:EncAt w 206 0 b base v e) (hbase:base≤w.heap.size) (hlen:e.cnt+5<1000000) :
 Calls Tryz.prog 77 #[.pointer (some ⟨b,0,none⟩)] w fun r w'=>∃ v' rv:Value,r=.returned rv∧EncAt w' 206 0 b base v' e.close ∧
  Frm (fun x=>x=b∨v.ownBlock=some x) w w'∧Moved w v v'∧OwnB w' 5 w.heap.size rv e.close.out∧(∀ q,rv.ownBlock=some q→v'.ownBlock≠some q):=by
 rw [Enc.close_fin]
 obtain ⟨G,hG⟩:∃ G,e.fin=G:=⟨_,rfl⟩
 rw [hG]
 cases hcl:e.closed with
 | true =>
  have hfe:e=G:=by rw [← hG];unfold Enc.fin;rw [if_pos hcl]
  subst hfe
  have hpt:=h.p
  have k5:w.cell? ⟨b,5,none⟩=some (.bool true):=by rw [hpt.cell,← hcl];rfl
  have g5:=hpt.frozen 5
  have hbw:=hpt.lt
  have PT:=hid hpt
  have E1:=hid h
  have NB:=hid (h.nb (by decide))
  obtain ⟨A0,k0,e8,hc0,hm0,hr0⟩:=h.o.slice
  have k4:w.cell? ⟨b,4,none⟩=some (.slice A0 e.out.length k0):=by rw [hpt.cell,← e8];rfl
  have hlo:e.out.length≤1000000:=by unfold Rng.Enc.cnt at hlen;omega
  have RW:=hid hr0
  have E8:=hid e8
  clear h hpt hG hcl hr0 e8 hlen
  go_enter Tryz.func77,Tryz.ntmps77
  go_wp2
  go_loopw [3] (fun iv wr=>iv=.int .i64 0∧w=wr) (fun _ _=>0)
  case atStart=>exact ⟨rfl,rfl⟩
  case round =>
   obtain ⟨rfl,rfl⟩:=hrel
   go_wp2_with (at_builtin;refine wpList_append_bytes _ rfl (.tmp 22) (.tmp 26) 22 rfl 5 w.heap.size Tryz.underlying22 Tryz.info_u8 (.slice (some ⟨w.heap.size,0,none⟩) 0 0) [] rfl ?own5 A0 e.out.length k0 w.heap.size e.out rfl rfl ?row5 ?len5 ?base5 ?next5)
   case own5 =>
    have h9:=OwnB.made (w.setCell ⟨b,5,none⟩ (.bool true)) 5 w.heap.size (by simp)
    rw [show (w.setCell ⟨b,5,none⟩ (.bool true)).heap.size=w.heap.size by simp] at h9
    exact h9
   case row5=>exact ((RW.out.off (fun h0 ad e9 hk=>by
    apply NB.out
    rw [E8.out,e9]
    show some ad.block=some b
    rw [hk]) ((Frm.refl (· = b) w).setCell (p:=⟨b,5,none⟩) (by rfl) (.bool true))).below (((Below.refl _ _).alloc (Nat.le_of_eq (by simp)) _)))
   case len5=>simp;omega
   case base5=>show w.heap.size≤((w.setCell ⟨b,5,none⟩ (.bool true)).heap.push _).size;rw [Array.size_push];simp
   case next5 =>
    intro v7 w7 hown7 hfrm7 hnew7
    have hfin:=hid (eclose_fin _ _ b base _ v v v7 e w w w7 E1.out (by decide) (Frm.refl _ _) (Moved.refl _ _) hown7 hfrm7 hnew7 (by simp))
    clear hown7 hfrm7 hnew7
    go_wp2
    go_ret
    exact ⟨v,v7,rfl,hfin.out⟩
 | false =>
  have hfe:e.shifts 5=G:=by rw [← hG];unfold Enc.fin;rw [if_neg (by rw [hcl];simp)]
  have HFE:=hid hfe
  have HE:=hid h
  have HCL:=hid hcl
  have HLEN:=hid hlen
  clear hG hcl hfe h hlen
  go_enter Tryz.func77,Tryz.ntmps77
  go_wp2
  go_loopw [3] (fun iv wr=>∃ (i:Nat) (e1:Enc) (v1:Value),iv=.int .i64 i∧i≤5∧e1.shifts (5-i)=G∧EncAt wr 206 0 b base v1 e1∧e1.closed=false∧e1.cnt≤e.cnt+i ∧
   Frm (fun x=>x=b∨v.ownBlock=some x) w wr∧Moved w v v1) (fun iv _=>5-(intOf iv).toNat)
  case atStart=>exact ⟨0,e,v,rfl,by omega,HFE.out,HE.out,HCL.out,by omega,Frm.refl _ _,Moved.refl _ _⟩
  case round =>
  obtain ⟨i,e1,v1,rfl,hi,hg,he1,hc1,hn1,hf1,hm1⟩:=hrel
  have hpt:=he1.p
  have E1:=hid he1
  have C1:=hid hc1
  have N1:=hid hn1
  have F1:=hid hf1
  have M1:=hid hm1
  have k5:wr.cell? ⟨b,5,none⟩=some (.bool false):=by rw [hpt.cell,← hc1];rfl
  have g5:=hpt.frozen 5
  have hbw:=hpt.lt
  clear hc1 hn1 hf1 hm1 HE HCL
  by_cases hlt:i<5
  ·have hg2:=hg
   rw [show 5-i=(5-(i+1))+1 by omega,Enc.shifts_step] at hg2
   have HG2:=hid hg2
   clear hg hg2 hpt he1
   go_wp2_with fail
   refine (eshift_p b base v1 e1 _ E1.out (Nat.le_trans hbase F1.out.size) (by have:=N1.out;have:=HLEN.out;omega)).mono ?_
   rintro r w3 ⟨v3,rfl,hE3,hF3,hM3⟩
   have E3:=hid hE3
   have F3:=hid (F1.out.transR hF3 (fun q hq hh=>hh.elim .inl (fun h2=>M1.out.own q hq h2)))
   have M3:=hid (M1.out.trans hM3 F1.out.size)
   clear hE3 hF3 hM3
   go_wp2
   exact ⟨⟨i+1,e1.shift,v3,by go_num,by omega,HG2.out,E3.out,by rw [Enc.shift_closed];exact C1.out,by rw [Enc.shift_cnt];have:=N1.out;omega,F3.out,M3.out⟩,by simp [intOf];omega⟩
  obtain rfl:i=5:=by omega
  have hg5:e1=G:=hg
  subst hg5
  have PT:=hid hpt
  have NB:=hid (he1.nb (by decide))
  obtain ⟨A0,k0,e8,hc0,hm0,hr0⟩:=he1.o.slice
  have k4:wr.cell? ⟨b,4,none⟩=some (.slice A0 e1.out.length k0):=by rw [hpt.cell,← e8];rfl
  have hlo:e1.out.length≤1000000:=by have h1:=N1.out;have h2:=HLEN.out;unfold Rng.Enc.cnt at h1 h2;omega
  have RW:=hid hr0
  have E8:=hid e8
  clear hg hpt he1 hr0 e8
  go_wp2_with (at_builtin;refine wpList_append_bytes _ rfl (.tmp 22) (.tmp 26) 22 rfl 5 w.heap.size Tryz.underlying22 Tryz.info_u8 (.slice (some ⟨wr.heap.size,0,none⟩) 0 0) [] rfl ?own6 A0 e1.out.length k0 wr.heap.size e1.out rfl rfl ?row6 ?len6 ?base6 ?next6)
  case own6 =>
   have h9:=OwnB.made (wr.setCell ⟨b,5,none⟩ (.bool true)) 5 w.heap.size (by have:=F1.out.size;simp;omega)
   rw [show (wr.setCell ⟨b,5,none⟩ (.bool true)).heap.size=wr.heap.size by simp] at h9
   exact h9
  case row6=>exact ((RW.out.off (fun h0 ad e9 hk=>by
   apply NB.out
   rw [E8.out,e9]
   show some ad.block=some b
   rw [hk]) ((Frm.refl (· = b) wr).setCell (p:=⟨b,5,none⟩) (by rfl) (.bool true))).below (((Below.refl _ _).alloc (Nat.le_of_eq (by simp)) _)))
  case len6=>simp;omega
  case base6=>show w.heap.size≤((wr.setCell ⟨b,5,none⟩ (.bool true)).heap.push _).size;rw [Array.size_push];have:=F1.out.size;simp;omega
  case next6 =>
  intro v7 w7 hown7 hfrm7 hnew7
  have hfin:=hid (eclose_fin _ _ b base _ v v1 v7 e1 w wr w7 E1.out (by decide) F1.out M1.out hown7 hfrm7 hnew7 (by simp))
  clear hown7 hfrm7 hnew7
  go_wp2
  go_ret
  exact ⟨v1,v7,rfl,hfin.out⟩
theorem enew_p (w:World):Calls Tryz.prog 74 #[] w fun r w'=>r=.returned (.pointer (some ⟨w.heap.size,0,none⟩))∧EncAt w' 206 0 w.heap.size w.heap.size (.slice none 0 0) newEnc∧Below w.heap.size w w':=by
 go_enter Tryz.func74,Tryz.ntmps74
 go_wp2
 go_ret
 exact ⟨rfl,⟨Pts.new _ _ _,OwnB.nil _ _ _,newEnc_run.ok⟩,(Below.refl _ _).alloc (Nat.le_refl _) _⟩
open Go.RowKit
namespace Opn
open Go.ChangeShapes Go.WideShapes Go.Deep
section
variable {H : Type} {enc : TypeId × Value → H} {P : Program} {w : World}
end
end Opn
end Go.Proofs.YtffehfpbdcokbaaGreat
