import Derived.Lib.SlBytesConst
import Derived.Test.YtablgjhnpphodaaGreatBu9
set_option linter.unusedVariables false
set_option linter.unusedSimpArgs false
namespace Go.Proofs.YtablgjhnpphodaaGreat
open Lib (hid)
open Go.RowKit Rng Win Lz Box
theorem xout_p (A:Option Addr) (n c:Nat) (R:Nat→ByteRow) (B:Nat) (w:World) (hr:Opn.RowAt w B A n fun i=>(R i).v) (hB:B≤w.heap.size) (hn:n≤8) (hb:∀ i,i<n→BRow w B (R i).A (R i).bs∧(R i).bs.length≤1000000) :
 Calls Tryz.prog 26 #[.slice A n c] w fun e w'=>∃ v,e=.returned v∧OwnB w' 5 w.heap.size v (rowsL R n).flatten∧Below w.heap.size w w':=by
 have HC:=hid (concat_p A n c R B w hr hB hn hb)
 clear hr hB hn hb
 go_enter Tryz.func26,Tryz.ntmps26
 go_wp2_with fail
 refine HC.out.mono ?_;rintro e w1 ⟨v,rfl,ho,hb⟩
 have HO:=hid (And.intro ho hb)
 clear ho hb HC
 go_wp2
 go_ret
 exact ⟨_,rfl,HO.out.1,HO.out.2⟩
theorem rowsL_list (l:List ByteRow):∀ k,k≤l.length→rowsL (fun i=>l.getD i default) k=(l.take k).map (·.bs)
 | 0,_=>by simp [rowsL]
 | k+1,h=>by
  rw [rowsL,rowsL_list l k (by omega),List.take_add_one,List.getD_eq_getElem?_getD,List.getElem?_eq_getElem (by omega)]
  simp only [Option.getD_some,Option.toList_some,List.map_append,List.map_cons,List.map_nil]
theorem xoutL_p (l:List ByteRow) (w:World) (k:Nat) (cs:Array Value) (hk:k=l.length) (hcs:cs=(l.map ByteRow.v).toArray) (hn:l.length≤8) (hb:∀ r∈l,BRow w w.heap.size r.A r.bs∧r.bs.length≤1000000) :
 Calls Tryz.prog 26 #[.slice (some ⟨w.heap.size,0,none⟩) k k] (w.alloc (.cells cs 27)) fun e w'=>∃ v,e=.returned v∧OwnB w' 5 w.heap.size v (l.map (·.bs)).flatten∧Below w.heap.size w w':=by
 have hba:=below_alloc w (.cells cs 27)
 have hz:(w.alloc (.cells cs 27)).heap.size=w.heap.size+1:=by simp
 have hr:Opn.RowAt (w.alloc (.cells cs 27)) (w.alloc (.cells cs 27)).heap.size (some ⟨w.heap.size,0,none⟩) k fun i=>((fun i=>l.getD i default) i).v:=fun _=>⟨w.heap.size,0,rfl,by omega,fun i hi=>by
  have hp:=Pts.new w cs 27
  obtain ⟨r,hr⟩:∃ r,l[i]?=some r:=⟨l[i],List.getElem?_eq_getElem (by omega)⟩
  rw [hp.cell,Nat.zero_add,hcs,List.getElem?_toArray,List.getElem?_map,hr]
  show some r.v=some ((l.getD i default).v)
  rw [List.getD_eq_getElem?_getD,hr]
  rfl⟩
 refine (xout_p (some ⟨w.heap.size,0,none⟩) k k (fun i=>l.getD i default) _ _ hr (Nat.le_refl _) (by omega) (fun i hi=>?_)).mono ?_
 ·have hm:l.getD i default∈l:=by
   rw [List.getD_eq_getElem?_getD,List.getElem?_eq_getElem (by omega)]
   exact List.getElem_mem _
  obtain ⟨h1,h2⟩:=hb _ hm
  exact ⟨(h1.below hba).more hba.size,h2⟩
 rintro e w' ⟨v,rfl,ho,hb'⟩
 rw [rowsL_list l k (by omega),hk,List.take_length] at ho
 exact ⟨v,rfl,ho.lowZ (by omega),hba.trans (hb'.mono (by omega))⟩
theorem xnum_p (m:Nat) (w:World) (hm:m<9223372036854775808):Calls Tryz.prog 29 #[.int .u64 (m:Int)] w fun e w'=>∃ A c,e=.returned (.slice A (put m).length c)∧OwnB w' 5 w.heap.size (.slice A (put m).length c) (put m)∧Below w.heap.size w w':=by
 have HN:=hid (putNumber_p m w (by omega))
 have HM:=hid hm
 clear hm
 go_enter Tryz.func29,Tryz.ntmps29
 go_wp2_with fail
 refine HN.out.mono ?_;rintro e w1 ⟨h1,h2,h3⟩
 obtain ⟨v,rfl,ho⟩:=h1 HM.out
 have HO:=hid (And.intro ho h3)
 obtain ⟨A,c,rfl,-,-,-⟩:=ho.slice
 clear h1 h2 h3 ho
 go_wp2
 go_ret
 exact ⟨_,_,rfl,HO.out.1,HO.out.2⟩
theorem neg_and3 (n:Nat):bits .and .i64 (-(n:Int)) 3=((padOf n:Nat):Int):=by
 rw [i64_and3]
 unfold padOf
 omega
theorem xppadded_p (v:Value) (bs:List UInt8) (K:Nat) (w:World) (h:OwnB w 5 K v bs) (hl:bs.length≤1000000) (hK:K≤w.heap.size) :
 Calls Tryz.prog 30 #[v] w fun e w'=>∃ v',e=.returned v'∧OwnB w' 5 K v' (bs++zs bs.length)∧Frm (fun k=>v.ownBlock=some k) w w'∧(v'.ownBlock=v.ownBlock∨v'.ownBlock=some w.heap.size):=by
 obtain ⟨A,c,rfl,-,-,-⟩:=h.slice
 obtain ⟨n,hn⟩:∃ n,bs.length=n:=⟨_,rfl⟩
 rw [hn] at h hl ⊢
 have hp3:=neg_and3 n
 have hpl:=padOf_lt n
 have hz:zs n=List.replicate (padOf n) 0:=rfl
 rw [hz]
 obtain ⟨P,hP⟩:∃ P,padOf n=P:=⟨_,rfl⟩
 rw [hP] at hp3 hpl ⊢
 have hnw:IntKind.i64.wrap (-(n:Int)) = -(n:Int):=Go.IntWalk.i64_in _ (by omega)
 have hpw:IntKind.i64.wrap (P:Int)=(P:Int):=Go.IntWalk.i64_in _ (by omega)
 have H:=hid (And.intro h (And.intro hn (And.intro hl (And.intro hpl hK))))
 clear h hn hz hP hl hK hpl
 go_enter Tryz.func30,Tryz.ntmps30
 go_wp2_with (at_builtin;refine wpList_append_zeros w rfl (.tmp 3) (.tmp 7) 27 3 rfl 5 K Tryz.underlying27 Tryz.underlying3 Tryz.info_u8 (.slice A n c) bs rfl ?own P rfl ?len ?base ?next)
 case own=>exact H.out.1
 case len=>have:=H.out.2;omega
 case base=>exact H.out.2.2.2.2
 intro v1 w1 hown1 hfrm1 hnew1
 have HO:=hid (And.intro hown1 (And.intro hfrm1 hnew1))
 clear hown1 hfrm1 hnew1
 go_wp2
 go_ret
 exact ⟨_,rfl,HO.out.1,HO.out.2.1,HO.out.2.2⟩
theorem xpbegin_done (eb:Nat) (C:Array Value) (w:World) (h:Pts w eb C 48) (hb:C[7]?=some (.bool true)):Calls Tryz.prog 27 #[.pointer (some ⟨eb,0,none⟩)] w fun e w'=>e=.returned (.slice none 0 0)∧w=w':=by
 have c7:w.cell? ⟨eb,7,none⟩=some (.bool true):=by rw [h.cell,hb]
 clear h
 go_enter Tryz.func27,Tryz.ntmps27
 go_wp2
 go_ret
 exact ⟨rfl,rfl⟩
set_option maxRecDepth 8000 in
set_option maxHeartbeats 4000000 in
theorem xpbegin_p (eb:Nat) (C:Array Value) (w:World) (h:Pts w eb C 48) (hb:C[7]?=some (.bool false)):Calls Tryz.prog 27 #[.pointer (some ⟨eb,0,none⟩)] w fun e w'=>∃ A c,e=.returned (.slice A 12 c)∧OwnB w' 5 w.heap.size (.slice A 12 c) (headM 4)∧Pts w' eb (C.setIfInBounds 7 (.bool true)) 48∧Frm (· = eb) w w':=by
 have hcv:=fun (w:World) (C:Array Value) (n c:Nat)=>Lib.run_convert_bytes_const (P:=Tryz.prog) w 27 5 C n c Tryz.underlying27 Tryz.underlying5
 have c7:w.cell? ⟨eb,7,none⟩=some (.bool false):=by rw [h.cell,hb]
 have f7:=h.frozen 7
 have P1:=hid (h.set 7 (.bool true))
 have F1:Hid (Frm (· = eb) w (w.setCell ⟨eb,7,none⟩ (.bool true))):=hid (Frm.setCell (S:=(· = eb)) (Frm.refl _ w) (p:=⟨eb,7,none⟩) rfl _)
 obtain ⟨w1,hw1⟩:∃ w1,w.setCell ⟨eb,7,none⟩ (.bool true)=w1:=⟨_,rfl⟩
 rw [hw1] at P1 F1
 have hz1:w1.heap.size=w.heap.size:=by rw [← hw1];simp
 obtain ⟨W,hW⟩:∃ W,((w1.alloc (.cells #[.int .u8 253,.int .u8 55,.int .u8 122,.int .u8 88,.int .u8 90,.int .u8 0] 5 (6,7))).alloc (.cells #[.int .u8 0,.int .u8 4] 5)).alloc (.cells #[.int .u8 0,.int .u8 4] 5)=W:=⟨_,rfl⟩
 have hWz:W.heap.size=w1.heap.size+3:=by rw [← hW];simp
 have hWb:Below w1.heap.size w1 W:=by rw [← hW];exact (((Below.refl _ _).alloc (Nat.le_refl _) _).alloc (by simp) _).alloc (by simp;omega) _
 have hp0:W.heap[w1.heap.size]?=some (.cells #[.int .u8 253,.int .u8 55,.int .u8 122,.int .u8 88,.int .u8 90,.int .u8 0] 5 (6,7)):=by
  rw [← hW,heap_alloc_old _ _ (by simp;omega),heap_alloc_old _ _ (by simp)]
  exact World.alloc_heap_new _ _
 have hp1:Pts W (w1.heap.size+1) #[.int .u8 0,.int .u8 4] 5:=by
  rw [← hW]
  have q:=Pts.new (w1.alloc (.cells #[.int .u8 253,.int .u8 55,.int .u8 122,.int .u8 88,.int .u8 90,.int .u8 0] 5 (6,7))) #[.int .u8 0,.int .u8 4] 5
  rw [World.size_alloc] at q
  exact q.alloc _
 have hp2:Pts W (w1.heap.size+2) #[.int .u8 0,.int .u8 4] 5:=by
  rw [← hW]
  have q:=Pts.new ((w1.alloc (.cells #[.int .u8 253,.int .u8 55,.int .u8 122,.int .u8 88,.int .u8 90,.int .u8 0] 5 (6,7))).alloc (.cells #[.int .u8 0,.int .u8 4] 5)) #[.int .u8 0,.int .u8 4] 5
  rw [World.size_alloc,World.size_alloc] at q
  exact q
 have r0:BRow W W.heap.size (some ⟨w1.heap.size,0,none⟩) magic:=fun _=>⟨w1.heap.size,0,rfl,by omega,fun k hk=>by
  unfold World.cell?
  simp only
  rw [hp0]
  have h6:k<6:=hk
  rcases (by omega:k=0∨k=1∨k=2∨k=3∨k=4∨k=5) with rfl | rfl | rfl | rfl | rfl | rfl <;> rfl⟩
 have r1:BRow W W.heap.size (some ⟨w1.heap.size+1,0,none⟩) [0,4]:=fun _=>⟨w1.heap.size+1,0,rfl,by omega,fun k hk=>by
  rw [hp1.cell]
  have h6:k<2:=hk
  rcases (by omega:k=0∨k=1) with rfl | rfl <;> rfl⟩
 have r2:BRow W W.heap.size (some ⟨w1.heap.size+2,0,none⟩) [0,4]:=fun _=>⟨w1.heap.size+2,0,rfl,by omega,fun k hk=>by
  rw [hp2.cell]
  have h6:k<2:=hk
  rcases (by omega:k=0∨k=1) with rfl | rfl <;> rfl⟩
 have HS:=hid (seal_p (some ⟨w1.heap.size+2,0,none⟩) [0,4] 2 2 W rfl r2 (by simp))
 have HR:=hid (And.intro r0 (And.intro r1 (And.intro hWb (And.intro hWz hz1))))
 clear h hb hz1 hWz hWb hp0 hp1 hp2 r0 r1 r2
 go_enter Tryz.func27,Tryz.ntmps27
 go_wp2_with (first | (go_at_call 32;go_in) | fail)
 refine HS.out.mono ?_;rintro e w2 ⟨v2,rfl,ho2,hb2⟩
 obtain ⟨A2,k2,rfl,-,-,hr2⟩:=ho2.slice
 have HO:=hid (xoutL_p [⟨some ⟨w1.heap.size,0,none⟩,magic,6⟩,⟨some ⟨w1.heap.size+1,0,none⟩,[0,4],2⟩,⟨A2,sealB [0,4],k2⟩] w2 3 #[.slice (some ⟨w1.heap.size,0,none⟩) 6 6,.slice (some ⟨w1.heap.size+1,0,none⟩) 2 2,.slice A2 4 k2] rfl rfl (by simp) (by
  intro r hr
  simp only [List.mem_cons,List.not_mem_nil,or_false] at hr
  rcases hr with rfl | rfl | rfl
  ·exact ⟨(HR.out.1.below hb2).more hb2.size,by simp [magic]⟩
  ·exact ⟨(HR.out.2.1.below hb2).more hb2.size,by simp⟩
  exact ⟨hr2,by simp [sealB_len]⟩))
 have B2:=hid (HR.out.2.2.1.trans (hb2.mono HR.out.2.2.1.size))
 clear ho2 hb2 hr2 HS
 go_wp2_with fail
 refine HO.out.mono ?_;rintro e w3 ⟨v3,rfl,ho3,hb3⟩
 have e12:(List.map (fun x:ByteRow=>x.bs) [⟨some ⟨w1.heap.size,0,none⟩,magic,6⟩,⟨some ⟨w1.heap.size+1,0,none⟩,[0,4],2⟩,⟨A2,sealB [0,4],k2⟩]).flatten=headM 4:=by simp [headM,sealOn]
 rw [e12] at ho3
 obtain ⟨A3,k3,e3,-,-,-⟩:=ho3.slice
 rw [show (headM 4).length=12 from rfl] at e3
 subst e3
 have B3:=hid (B2.out.trans (hb3.mono B2.out.size))
 have H3:=hid (ho3.lowZ B2.out.size)
 clear ho3 hb3 HO e12
 go_wp2
 go_ret
 refine ⟨_,_,rfl,by rw [← HR.out.2.2.2.2];exact H3.out,P1.out.below B3.out P1.out.lt,F1.out.trans ?_⟩
 have q:=B3.out
 rw [HR.out.2.2.2.2] at q
 exact Frm.of_below (by rw [HR.out.2.2.2.2];exact q)
end Go.Proofs.YtablgjhnpphodaaGreat
