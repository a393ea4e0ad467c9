import Derived.Lib.SlBytesConst
import Derived.Test.YtffehfpbdcokbaaGreatBu4
import Derived.Test.YtffehfpbdcokbaaGreatBu7
set_option linter.unusedVariables false
set_option linter.unusedSimpArgs false
namespace Go.Proofs.YtffehfpbdcokbaaGreat
open Lib (hid)
open Go.RowKit Win
def cyc (C:List UInt8) (back n:Nat):List UInt8:=(List.range n).map fun t=>C.getD (C.length-back+t % back) 0
theorem cyc_length (C:List UInt8) (back n:Nat):(cyc C back n).length=n:=by simp [cyc]
theorem cyc_snoc {C:List UInt8} {back t:Nat} (h:t<back):cyc C back t++[C.getD (C.length-back+t) 0]=cyc C back (t+1):=by
 unfold cyc
 rw [List.range_succ,List.map_append]
 simp [Nat.mod_eq_of_lt h]
theorem cyc_more {C:List UInt8} {back L k:Nat} (h0:0<back) (hL:L % back=0) (hk:k≤L):cyc C back L++(cyc C back L).take k=cyc C back (L+k):=by
 apply List.ext_getElem
 ·simp [cyc];omega
 intro j h1 h2
 simp only [List.length_append,List.length_take,cyc_length] at h1 h2
 by_cases hj:j<L
 ·rw [List.getElem_append_left (by rw [cyc_length];exact hj)]
  simp [cyc]
 rw [List.getElem_append_right (by rw [cyc_length];omega)]
 simp only [cyc,List.length_map,List.length_range,List.getElem_take,List.getElem_map,List.getElem_range]
 congr 2
 obtain ⟨q,hq⟩:=Nat.dvd_of_mod_eq_zero hL
 have e:j=(j-L)+back*q:=by omega
 conv=>rhs;rw [e,Nat.add_mul_mod_self_left]
theorem make_bytes (n:Nat) (hn:n≤16777216) (w:World) :
 (Instr.makeSlice 22 (.int .i64 0) (.int .i64 (n:Int))).run Tryz.prog w=.ok (.slice (some ⟨w.heap.size,0,none⟩) 0 n) (w.alloc (.cells (madeCells #[.int .u8 0] n) 5)):=by
 obtain ⟨i,hi,hz⟩:=Option.map_eq_some_iff.1 Tryz.info_u8
 simp only [Prod.mk.injEq] at hz
 have h:=run_make (P:=Tryz.prog) w 22 5 i (.int .u8 0) Tryz.underlying22 hi hz.1 .i64 .i64 0 n (by omega) (by omega) (by rw [hz.2.2];omega) (by omega)
 rw [hz.2.1] at h
 simp only [Int.toNat_natCast,Nat.mul_one] at h
 exact h
theorem OwnB.madeN (w:World) (T base n:Nat) (hb:base≤w.heap.size) (hn:n≤16777216):OwnB (w.alloc (.cells (madeCells #[.int .u8 0] n) T)) T base (.slice (some ⟨w.heap.size,0,none⟩) 0 n) [] :=
 World.ownsRow_made w _ n hb (by unfold maxLen;omega) (by rw [size_madeCells];simp)
theorem at_num (b k a S cap back:Nat) (A:Option Addr) (R:List UInt8) (z:Int) (w:World) (hp:Pts w b #[.slice A R.length cap,.int .i64 a,.int .i64 S,.pointer (some ⟨k,0,none⟩)] 160) (hr:BRow w w.heap.size A R)
 (hR:R.length≤16777216) (ha:a≤16777216) (h1:1≤back) (h2:back≤R.length) (hz:z=(back:Int)) :
 Calls Tryz.prog 171 #[.pointer (some ⟨b,0,none⟩),.int .i64 z] w fun e w'=>e=.returned (.tuple #[.int .u8 ((R.getD ((a+R.length-back) % R.length) 0).toNat:Int),.bool true])∧∃ d,w'=w.drewN d:=by
 subst hz
 exact at_in b k a S cap back A R w hp hr hR ha h1 h2
set_option maxRecDepth 100000 in
set_option maxHeartbeats 2000000 in
theorem copy_any (base b k S a back n:Nat) (v:Value) (R:List UInt8) (w:World) (hw:WinAt w base b k S v R a) (hbase:base≤w.heap.size) (hS2:S≤16777216) (hn:n≤16777216) (h1:1≤back) (h2:back≤R.length) :
 Calls Tryz.prog 158 #[.pointer (some ⟨b,0,none⟩),.int .i64 back,.int .i64 n] w fun e w'=>∃ (ov v':Value) (R':List UInt8) (a':Nat),e=.returned (.tuple #[ov,.int .i64 0])∧WinAt w' base b k S v' R' a' ∧
  content R' a'=lastN S (content R a++cyc (content R a) back n)∧OwnB w' 5 w.heap.size ov (cyc (content R a) back n)∧Frm (fun x=>x=b∨v.ownBlock=some x) w w' ∧
  (v'.ownBlock=v.ownBlock∨∃ g,v'.ownBlock=some g∧w.heap.size≤g∧ov.ownBlock≠some g):=by
 obtain ⟨A0,k0,rfl,hc0,hm0,hr0⟩:=hw.o.slice
 have c0:w.cell? ⟨b,0,none⟩=some (.slice A0 R.length k0):=by rw [hw.p.cell];rfl
 have hRS:=hw.n
 have haS:=hw.lt
 have HW:=hid hw
 have HR:=hid hr0
 obtain ⟨m,hm⟩:∃ m:Nat,min (back:Int) (n:Int)=m:=⟨min back n,by omega⟩
 have f1:=fun w=>min2_int (P:=Tryz.prog) #[3,3] 3 _ _ _ hm w
 have hmb:m≤back∧m≤n∧(m<n→m=back):=by omega
 have hmk:=make_bytes n hn
 clear hm hw hr0
 obtain ⟨m1,m2,m3⟩:=hmb
 have hbl:w.heap.size≤(w.alloc (.cells (madeCells #[.int .u8 0] n) 5)).heap.size:=by simp
 have O1:=hid (OwnB.madeN w 5 w.heap.size n (Nat.le_refl _) hn)
 have M0:=hid hm0
 clear hm0
 have hdq:decide (R.length<back)=false:=decide_eq_false (by omega)
 go_enter Tryz.func158,Tryz.ntmps158
 go_wp2_with (go_at_call 139;refine (dropped_no _ _ _ _ _ _ HW.out.p).mono ?_;rintro e w1 ⟨rfl,rfl⟩)
 have B1:=hid ((Below.refl w.heap.size w).alloc (Nat.le_refl _) (.cells (madeCells #[.int .u8 0] n) 5))
 go_loopw [8,9] (fun ov iv wr=>∃ t d:Nat,d+t=m∧iv=.int .i64 d∧OwnB wr 5 w.heap.size ov (cyc (content R a) back t)∧Below w.heap.size w wr) (fun _ iv _=>(intOf iv).toNat)
 case atStart=>exact ⟨0,m,by omega,rfl,by simpa [cyc] using O1.out,B1.out⟩
 case round =>
 obtain ⟨t,d,htd,rfl,hown,hbe⟩:=hrel
 have OW:=hid hown
 have BE:=hid hbe
 have hbt:b<w.heap.size:=HW.out.p.lt
 clear hown hbe hmk O1 B1 hbl
 by_cases hd:0<d
 ·have PW:=hid (HW.out.p.below BE.out hbt)
  have RW:=hid ((HR.out.below BE.out).more BE.out.size)
  have hx:R.getD ((a+R.length-(back-t)) % R.length) 0=(content R a).getD ((content R a).length-back+t) 0:=by
   rw [content_at (by have:=HW.out.z;by_cases hh:R.length<S;have:=this hh;omega;omega) (by omega) (by omega),content_length]
   congr 1;omega
  have HX:=hid hx
  have hdpos:(0:Int)<(d:Int):=by omega
  have hcl:t<back:=by omega
  clear hx
  go_wp2_with (first
   | (go_at_call 171
      refine (at_num b k a S k0 (back-t) A0 R _ wr PW.out RW.out (by omega) (by omega) (by omega) (by omega) (by omega)).mono ?_
      rintro e w2 ⟨rfl,dd,rfl⟩
      rw [HX.out])
   | (at_builtin;refine wpList_append_bytes _ rfl (.tmp 59) (.tmp 61) 22 rfl 5 w.heap.size Tryz.underlying22 Tryz.info_u8 u8 (cyc (content R a) back t) rfl ?own1 (some ⟨wr.heap.size,0,none⟩) 1 1 (wr.heap.size+1) [(content R a).getD ((content R a).length-back+t) 0] rfl rfl ?row1 ?len1 ?base1 ?next1)
   | go_in)
  case own1=>exact (OW.out.drewN _).alloc _
  case row1=>intro _;exact ⟨wr.heap.size,0,rfl,by simp,fun j hj=>by
   obtain rfl:j=0:=by simpa using hj
   refine ((Pts.new (wr.drewN _) _ _).cell 0).trans ?_;simp [byteV]⟩
  case len1=>rw [cyc_length];simp;omega
  case base1=>have:=BE.out.size;simp;omega
  case next1 =>
  intro v3 w3 hown3 hfrm3 hnew3
  have hb3:Below w.heap.size w w3:=((below_drewN BE.out _).alloc BE.out.size _).trans (hfrm3.below (B:=w.heap.size) ((below_drewN BE.out _).alloc BE.out.size _).size (fun q hq=>(OW.out.lt hq).1))
  have ecs:=cyc_snoc (C:=content R a) hcl
  rw [List.getD_eq_getElem?_getD] at ecs
  rw [ecs] at hown3
  clear ecs
  have B3:=hid hb3
  have O3:=hid hown3
  clear hown3 hfrm3 hnew3 hb3
  go_wp2
  exact ⟨⟨t+1,d-1,by omega,by go_num,O3.out,B3.out⟩,by simp [intOf];omega⟩
 have hd1:(d:Int)≤0:=by omega
 have htm:t=m:=by omega
 have O2:=hid (htm▸OW.out)
 clear f1 OW
 go_wp2
 go_loopg [8] n (fun gn ov wq=>∃ L:Nat,n-L≤gn∧m≤L∧L≤n∧(L<n→L % back=0)∧OwnB wq 5 w.heap.size ov (cyc (content R a) back L)∧Below w.heap.size w wq)
 case atStart=>exact ⟨m,by omega,Nat.le_refl _,m2,fun h=>by rw [m3 h];exact Nat.mod_self _,O2.out,BE.out⟩
 case round =>
 obtain ⟨L,hgn,hmL,hLn,hLm,hown,hbe⟩:=hrel
 have OL:=hid hown
 have BL:=hid hbe
 obtain ⟨A2,c2,rfl,hc2,hm2,hr2⟩:=hown.slice
 rw [cyc_length] at hc2 hown OL
 rw [cyc_length]
 have R2:=hid hr2
 have M2:=hid hm2
 have LM:=hid hLm
 clear hown hbe hr2 hm2 hLm BE O2
 by_cases hlt:L<n
 ·have hmod:=LM.out hlt
  have hbL:back≤L:=by have:=m3 (by omega);omega
  obtain ⟨x,hx⟩:∃ x:Nat,min (L:Int) ((n:Int)-L)=x:=⟨min L (n-L),by omega⟩
  have f2:=fun w=>min2_int (P:=Tryz.prog) #[3,3] 3 _ _ _ hx w
  obtain ⟨Q,hQ⟩:∃ Q,x / back=Q:=⟨_,rfl⟩
  obtain ⟨K,hK⟩:∃ K,Q*back=K:=⟨_,rfl⟩
  have hKx:K≤x:=by rw [← hK,← hQ];exact Nat.div_mul_le_self _ _
  have hq0:(x:Int) / (back:Int)=(Q:Int):=by rw [← hQ];exact (Int.natCast_ediv x back).symm
  have hq1:(Q:Int)*(back:Int)=(K:Int):=by rw [← hK];exact (Int.natCast_mul Q back).symm
  have hQx:Q≤x:=by rw [← hQ];exact Nat.div_le_self _ _
  have hne:((back:Int)==0)=false:=beq_eq_false_iff_ne.2 (by omega)
  have hKm:K % back=0:=by rw [← hK];exact Nat.mul_mod_left _ _
  have KM:=hid hKm
  have hK0:K=0→n-L<back:=by
   intro h
   rw [← hK] at h
   rcases Nat.mul_eq_zero.1 h with h | h
   ·rw [h] at hQ
    have:=(Nat.div_eq_zero_iff_lt (by omega)).1 hQ
    omega
   omega
  have K0:=hid hK0
  have HM:=hid hmod
  have hxle:x≤L∧x≤n-L:=by omega
  clear hQ hK hx hKm hK0 hmod
  by_cases hKz:K=0
  ·obtain ⟨y,hy⟩:∃ y:Nat,min (back:Int) ((n:Int)-L)=y:=⟨min back (n-L),by omega⟩
   have f3:=fun w=>min2_int (P:=Tryz.prog) #[3,3] 3 _ _ _ hy w
   have hy2:y=n-L:=by have:=K0.out hKz;omega
   have hyL:y≤L:=by omega
   have hsl:=fun w=>slice_to A2 L c2 y hyL hc2 w
   have hk1:((K:Int)==0)=true:=beq_iff_eq.2 (by omega)
   have htk:y=((cyc (content R a) back L).take y).length:=by rw [List.length_take,cyc_length];omega
   have HTK:=hid htk
   have Y2:=hid hy2
   clear hy htk hy2
   go_wp2_with (at_builtin;refine wpList_append_bytes _ rfl (.tmp 86) (.tmp 89) 22 rfl 5 w.heap.size Tryz.underlying22 Tryz.info_u8 (.slice A2 L c2) (cyc (content R a) back L) rfl ?own2 A2 y c2 wr.heap.size ((cyc (content R a) back L).take y) rfl HTK.out ?row2 ?len2 ?base2 ?next2)
   case own2=>exact OL.out
   case row2=>exact R2.out.take y
   case len2=>rw [← HTK.out,cyc_length];omega
   case base2=>exact BL.out.size
   case next2 =>
   intro v3 w3 hown3 hfrm3 hnew3
   have hb3:=BL.out.trans (hfrm3.below (B:=w.heap.size) BL.out.size (fun q hq=>(OL.out.lt hq).1))
   rw [cyc_more (by omega) HM.out hyL] at hown3
   obtain ⟨A3,c3,rfl,hc3,hm3,hr3⟩:=hown3.slice
   rw [cyc_length] at hown3
   have B3:=hid hb3
   have O3:=hid hown3
   clear hown3 hfrm3 hnew3 hb3 hr3
   rw [cyc_length]
   go_wp2
   go_roundg (n-(L+y))
   case measure=>have:=Y2.out;omega
   case rel=>exact ⟨L+y,by omega,by omega,by have:=Y2.out;omega,fun h=>by have:=Y2.out;omega,O3.out,B3.out⟩
  have hk1:((K:Int)==0)=false:=beq_eq_false_iff_ne.2 (by omega)
  have hsl:=fun w=>slice_to A2 L c2 K (by omega) hc2 w
  have htk:K=((cyc (content R a) back L).take K).length:=by rw [List.length_take,cyc_length];omega
  have HTK:=hid htk
  clear htk
  go_wp2_with (at_builtin;refine wpList_append_bytes _ rfl (.tmp 86) (.tmp 89) 22 rfl 5 w.heap.size Tryz.underlying22 Tryz.info_u8 (.slice A2 L c2) (cyc (content R a) back L) rfl ?own3 A2 K c2 wr.heap.size ((cyc (content R a) back L).take K) rfl HTK.out ?row3 ?len3 ?base3 ?next3)
  case own3=>exact OL.out
  case row3=>exact R2.out.take K
  case len3=>rw [← HTK.out,cyc_length];omega
  case base3=>exact BL.out.size
  case next3 =>
  intro v3 w3 hown3 hfrm3 hnew3
  have hb3:=BL.out.trans (hfrm3.below (B:=w.heap.size) BL.out.size (fun q hq=>(OL.out.lt hq).1))
  rw [cyc_more (by omega) HM.out (by omega)] at hown3
  obtain ⟨A3,c3,rfl,hc3,hm3,hr3⟩:=hown3.slice
  rw [cyc_length] at hown3
  have B3:=hid hb3
  have O3:=hid hown3
  clear hown3 hfrm3 hnew3 hb3 hr3
  rw [cyc_length]
  go_wp2
  go_roundg (n-(L+K))
  case measure=>omega
  case rel=>exact ⟨L+K,by omega,by omega,by omega,fun h=>by rw [Nat.add_mod,HM.out,KM.out];simp,O3.out,B3.out⟩
 obtain rfl:L=n:=by omega
 have hfB:Frm (fun _=>False) w wr:=Frm.of_below BL.out
 have hWB:WinAt wr base b k S (.slice A0 R.length k0) R a:=⟨HW.out.p.frm hfB (by simp),HW.out.o.frm hfB (by simp),HW.out.n,HW.out.lt,HW.out.z⟩
 have hOff:BOff (fun x=>x=b∨(Value.slice A0 R.length k0).ownBlock=some x) A2 (cyc (content R a) back L):=by
  intro h0 ad e hk
  have h5:=(OL.out.lt (k:=ad.block) (by rw [e];rfl)).1
  rcases hk with hk | hk
  ·omega
  have:=(HW.out.o.lt hk).2;omega
 have WB:=hid hWB
 have FB:=hid hfB
 have OF:=hid hOff
 clear hWB hfB hOff
 go_wp2_with (go_at_call 118
              refine (put_any base b k S a c2 wr.heap.size L (.slice A0 R.length k0) R A2 (cyc (content R a) back L) wr WB.out (cyc_length _ _ _).symm R2.out OF.out (by rw [cyc_length];exact hc2) M2.out (by rw [cyc_length];exact hn) (Nat.le_trans hbase BL.out.size) hS2 (Nat.le_refl _)).mono ?_
              rintro e w5 ⟨v',R',a',rfl,hw5,hc5,hf5,hn5⟩)
 go_ret2
 refine ⟨_,v',R',a',rfl,hw5,hc5,OL.out.frm hf5 (fun q hq hk=>?_),(FB.out.mono (fun _ _ h=>h.elim)).trans hf5,?_⟩
 ·have h5:=(OL.out.lt hq).1
  rcases hk with hk | hk
  ·omega
  have:=(HW.out.o.lt hk).2;omega
 rcases hn5 with h | h
 ·exact .inl h
 exact .inr ⟨_,h,BL.out.size,fun e=>by have:=(OL.out.lt e).2;omega⟩
open Go.RowKit Win
theorem copy_bad (base b k S a:Nat) (back n:Int) (v:Value) (R:List UInt8) (w:World) (hw:WinAt w base b k S v R a) (hn:0≤n∧n≤16777216) (hb:back<1∨(R.length:Int)<back) :
 Calls Tryz.prog 158 #[.pointer (some ⟨b,0,none⟩),.int .i64 back,.int .i64 n] w fun e w'=>e=.returned (.tuple #[.slice none 0 0,.int .i64 11])∧w=w':=by
 obtain ⟨A0,k0,rfl,hc0,hm0,hr0⟩:=hw.o.slice
 have c0:w.cell? ⟨b,0,none⟩=some (.slice A0 R.length k0):=by rw [hw.p.cell];rfl
 have HW:=hid hw
 obtain ⟨n0,n1⟩:=hn
 clear hw hr0 hm0
 have h3:back<1∨(1≤back∧(R.length:Int)<back):=by omega
 clear hb
 rcases h3 with h | ⟨h,h4⟩
 all_goals
  go_enter Tryz.func158,Tryz.ntmps158
  go_wp2_with (go_at_call 139;refine (dropped_no _ _ _ _ _ _ HW.out.p).mono ?_;rintro e w1 ⟨rfl,rfl⟩)
  go_ret2
  exact ⟨rfl,rfl⟩
open Go.RowKit Win
theorem own_ne {w:World} {T T' base g:Nat} {v:Value} {bs:List UInt8} {c:Array Value} (h:OwnB w T base v bs) (hp:Pts w g c T') (hT:T'≠T):v.ownBlock≠some g:=by
 intro hq
 rcases h.form with ⟨e,_⟩ | ⟨g',cap,cur,e,_,hp',_⟩
 ·rw [e] at hq;cases hq
 rw [e] at hq
 injection hq with hq
 subst hq
 have e2:=hp'.symm.trans hp
 simp at e2
 exact hT e2.2.symm
open Go.RowKit Rng Lz Win
def WinC (w:World) (base wb kb S:Nat) (C:List UInt8) (v:Value):Prop:=∃ R a,WinAt w base wb kb S v R a∧content R a=C
def Mv (w:World) (v v':Value):Prop:=∀ q,v'.ownBlock=some q→v.ownBlock=some q∨w.heap.size≤q
section
variable {w w' : World} {base wb kb S : Nat} {C : List UInt8} {v : Value}
theorem WinC.pts (h:WinC w base wb kb S C v):∃ c,Pts w wb c 160:=by obtain ⟨R,a,hw,_⟩:=h;exact ⟨_,hw.p⟩
theorem WinC.own (h:WinC w base wb kb S C v):∃ l,OwnB w 5 base v l:=by obtain ⟨R,a,hw,_⟩:=h;exact ⟨R,hw.o⟩
theorem WinC.frm {N:Nat→Prop} (h:WinC w base wb kb S C v) (hf:Frm N w w') (hb:¬ N wb) (hv:∀ q,v.ownBlock=some q→¬ N q):WinC w' base wb kb S C v:=by
 obtain ⟨R,a,hw,hc⟩:=h
 exact ⟨R,a,⟨hw.p.frm hf hb,hw.o.frm hf hv,hw.n,hw.lt,hw.z⟩,hc⟩
theorem WinC.len (h:WinC w base wb kb S C v):C.length≤S:=by obtain ⟨R,a,hw,hc⟩:=h;rw [← hc,content_length];exact hw.n
end
def atB (C:List UInt8) (back:Nat):UInt8:=if 1≤back∧back≤C.length then C.getD (C.length-back) 0 else 0
theorem at_c (base wb kb S back:Nat) (z:Int) (C:List UInt8) (v:Value) (w:World) (h:WinC w base wb kb S C v) (hS:S≤16777216) (hz:z=(back:Int)) :
 Calls Tryz.prog 171 #[.pointer (some ⟨wb,0,none⟩),.int .i64 z] w fun e w'=>(∃ ok,e=.returned (.tuple #[.int .u8 ((atB C back).toNat:Int),.bool ok]))∧∃ d,w'=w.drewN d:=by
 subst hz
 obtain ⟨R,a,hw,hc⟩:=h
 have hl:C.length=R.length:=by rw [← hc,content_length]
 by_cases hb:1≤back∧back≤R.length
 ·have hp:=hw.p
  have hlt:=hw.lt
  have hn:=hw.n
  have hz:=hw.z
  obtain ⟨A0,k0,rfl,hc0,hm0,hr0⟩:=hw.o.slice
  refine (at_in wb kb a S k0 back A0 R w hp hr0 (by omega) (by omega) hb.1 hb.2).mono ?_
  rintro e w' ⟨rfl,d,rfl⟩
  refine ⟨⟨true,?_⟩,d,rfl⟩
  have e1:R.getD ((a+R.length-back) % R.length) 0=atB C back:=by
   unfold atB
   rw [if_pos (by omega),content_at (by by_cases hh:R.length<S;have:=hz hh;omega;omega) hb.1 hb.2,hc,hl]
  rw [e1]
 have hl2:=hw.p
 obtain ⟨A0,k0,rfl,hc0,hm0,hr0⟩:=hw.o.slice
 have hbad:(back:Int)<1∨(R.length:Int)<(back:Int):=by omega
 have e1:atB C back=0:=by unfold atB;rw [if_neg (by omega)]
 rw [e1]
 have c0:w.cell? ⟨wb,0,none⟩=some (.slice A0 R.length k0):=by rw [hw.p.cell];rfl
 have HW:=hid hw
 clear hw hr0 hm0 hc hl hb hl2 e1
 have h3:(back:Int)<1∨(1≤(back:Int)∧(R.length:Int)<(back:Int)):=by omega
 clear hbad
 rcases h3 with h | ⟨h,h4⟩
 all_goals
  go_enter Tryz.func171,Tryz.ntmps171
  go_wp2_with (go_at_call 139;refine (dropped_no _ _ _ _ _ _ HW.out.p).mono ?_;rintro e w1 ⟨rfl,rfl⟩)
  go_ret2
  exact ⟨⟨false,rfl⟩,0,rfl⟩
theorem put_c (base wb kb S c B n:Nat) (C:List UInt8) (v:Value) (A:Option Addr) (bs:List UInt8) (w:World) (h:WinC w base wb kb S C v) (hn:n=bs.length) (hr:BRow w B A bs) (hoff:BOff (fun x=>x=wb∨v.ownBlock=some x) A bs) (hc:bs.length≤c) (hcm:c≤maxLen) (hlen:bs.length≤16777216)
 (hbase:base≤w.heap.size) (hS2:S≤16777216) (hB:B≤w.heap.size) :
 Calls Tryz.prog 118 #[.pointer (some ⟨wb,0,none⟩),.slice A n c] w fun e w'=>e=.returned (.tuple #[])∧∃ v',WinC w' base wb kb S (lastN S (C++bs)) v'∧Frm (fun x=>x=wb∨v.ownBlock=some x) w w'∧Mv w v v':=by
 obtain ⟨R,a,hw,hcn⟩:=h
 refine (put_any base wb kb S a c B n v R A bs w hw hn hr hoff hc hcm hlen hbase hS2 hB).mono ?_
 rintro e w' ⟨v',R',a',rfl,hw',hc',hf,hm⟩
 refine ⟨rfl,v',⟨R',a',hw',by rw [hc',hcn]⟩,hf,fun q hq=>?_⟩
 rcases hm with e | e
 ·exact .inl (e▸hq)
 rw [e] at hq;injection hq with hq;exact .inr (by omega)
theorem copy_c (base wb kb S back n:Nat) (z1 z2:Int) (C:List UInt8) (v:Value) (w:World) (h:WinC w base wb kb S C v) (hbase:base≤w.heap.size) (hS2:S≤16777216) (hn:n≤16777216) (hz1:z1=(back:Int)) (hz2:z2=(n:Int)) (h1:1≤back) :
 Calls Tryz.prog 158 #[.pointer (some ⟨wb,0,none⟩),.int .i64 z1,.int .i64 z2] w fun e w' =>
  (back≤C.length→∃ ov v',e=.returned (.tuple #[ov,.int .i64 0])∧WinC w' base wb kb S (lastN S (C++cyc C back n)) v'∧OwnB w' 5 w.heap.size ov (cyc C back n)∧Frm (fun x=>x=wb∨v.ownBlock=some x) w w'∧Mv w v v'∧(∀ q,ov.ownBlock=some q→v'.ownBlock≠some q)) ∧
  (¬ back≤C.length→e=.returned (.tuple #[.slice none 0 0,.int .i64 11])∧w=w'):=by
 subst hz1;subst hz2
 obtain ⟨R,a,hw,hcn⟩:=h
 have hl:C.length=R.length:=by rw [← hcn,content_length]
 by_cases hb:back≤C.length
 ·refine (copy_any base wb kb S a back n v R w hw hbase hS2 hn h1 (by omega)).mono ?_
  rintro e w' ⟨ov,v',R',a',rfl,hw',hc',ho,hf,hm⟩
  rw [hcn] at hc' ho
  refine ⟨fun _=>⟨ov,v',rfl,⟨R',a',hw',hc'⟩,ho,hf,fun q hq=>?_,fun q hq e=>?_⟩,fun hn=>absurd hb hn⟩
  ·rcases hm with e | ⟨g,e,hg,_⟩
   ·exact .inl (e▸hq)
   rw [e] at hq;injection hq with hq;exact .inr (by omega)
  rcases hm with e' | ⟨g,e',hg,hne⟩
  ·have h2:=(ho.lt hq).1
   have h3:=(hw.o.lt (e'▸e)).2
   omega
  rw [e'] at e;injection e with e;subst e;exact hne hq
 refine (copy_bad base wb kb S a back n v R w hw (by omega) (.inr (by omega))).mono ?_
 rintro e w' ⟨rfl,rfl⟩
 exact ⟨fun h=>absurd h hb,fun _=>⟨rfl,rfl⟩⟩
open Go.RowKit Rng Lz Win
structure RB where
 db:Nat
 rb:Nat
 wb:Nat
 kb:Nat
 xb:Nat
 S:Nat
 bw:Nat
 bt:Nat
theorem Pts.ne_of {w:World} {b b':Nat} {c c':Array Value} {T T':TypeId} (h:Pts w b c T) (h':Pts w b' c' T') (hT:T≠T'):b≠b':=by
 rintro rfl
 have e:=h.symm.trans h'
 injection e with e
 injection e with e1 e2
 exact hT e2
structure RdAt (Z:Nat→Prop) (w0 w:World) (k:LK) (g:RB) (total:Int) (st:Nat) (rep:Nat→Nat) (s:CP Dec) (C told:List UInt8) (wv tv:Value):Prop where
 lz:LzAt (DC g.db g.rb) (DO g.db g.rb) 169 w k st rep s
 win:WinC w g.bw g.wb g.kb g.S C wv
 p:Pts w g.xb #[.pointer (some ⟨k.sb,0,none⟩),.pointer (some ⟨g.wb,0,none⟩),.pointer (some ⟨g.db,0,none⟩),.int .i64 total,tv] 246
 o:OwnB w 5 g.bt tv told
 ne:∀ q,wv.ownBlock=some q→tv.ownBlock≠some q
 nr:g.rb≠g.wb∧g.rb≠g.xb∧wv.ownBlock≠some g.rb∧tv.ownBlock≠some g.rb∧g.rb<w.heap.size
 bs:g.bw≤w.heap.size∧g.bt≤w.heap.size
 z:∀ q,(q=g.db∨q=g.rb∨q=k.sb∨q=k.lb∨q=g.wb∨q=g.xb∨wv.ownBlock=some q∨tv.ownBlock=some q)→q<w0.heap.size→Z q
 f:Frm Z w0 w
section
variable {Z : Nat → Prop} {w0 w w' : World} {k : LK} {g : RB} {total : Int} {st : Nat} {rep : Nat → Nat} {s : CP Dec} {C told : List UInt8} {wv tv : Value}
theorem RdAt.dpts (h:RdAt Z w0 w k g total st rep s C told wv tv):∃ c,Pts w g.db c 265:=by
 exact DC.pts h.lz.c
theorem RdAt.lzStep {st':Nat} {rep':Nat→Nat} {s':CP Dec} (h:RdAt Z w0 w k g total st rep s C told wv tv) (hl:LzAt (DC g.db g.rb) (DO g.db g.rb) 169 w' k st' rep' s') (hf:Frm (Wr (DO g.db g.rb) k) w w'):RdAt Z w0 w' k g total st' rep' s' C told wv tv:=by
 obtain ⟨cd,hd⟩:=h.dpts
 obtain ⟨cw,hw⟩:=h.win.pts
 obtain ⟨lw,hwo⟩:=h.win.own
 refine ⟨hl,h.win.frm hf ?_ ?_,h.p.frm hf ?_,h.o.frm hf ?_,h.ne,⟨h.nr.1,h.nr.2.1,h.nr.2.2.1,h.nr.2.2.2.1,Nat.lt_of_lt_of_le h.nr.2.2.2.2 hf.size⟩,⟨Nat.le_trans h.bs.1 hf.size,Nat.le_trans h.bs.2 hf.size⟩,h.z,h.f.transW hf ?_⟩
 ·rintro ((e | e) | e | e)
  ·exact hw.ne_of hd (by decide) e
  ·exact h.nr.1 e.symm
  ·exact hw.ne_of h.lz.m (by decide) e
  exact hw.ne_of h.lz.l (by decide) e
 ·intro q hq
  rintro ((e | e) | e | e)
  ·subst e;exact own_ne hwo hd (by decide) hq
  ·subst e;exact h.nr.2.2.1 hq
  ·subst e;exact own_ne hwo h.lz.m (by decide) hq
  subst e;exact own_ne hwo h.lz.l (by decide) hq
 ·rintro ((e | e) | e | e)
  ·exact h.p.ne_of hd (by decide) e
  ·exact h.nr.2.1 e.symm
  ·exact h.p.ne_of h.lz.m (by decide) e
  exact h.p.ne_of h.lz.l (by decide) e
 ·intro q hq
  rintro ((e | e) | e | e)
  ·subst e;exact own_ne h.o hd (by decide) hq
  ·subst e;exact h.nr.2.2.2.1 hq
  ·subst e;exact own_ne h.o h.lz.m (by decide) hq
  subst e;exact own_ne h.o h.lz.l (by decide) hq
 rintro q ((e | e) | e | e) hq
 ·exact h.z q (.inl e) hq
 ·exact h.z q (.inr (.inl e)) hq
 ·exact h.z q (.inr (.inr (.inl e))) hq
 exact h.z q (.inr (.inr (.inr (.inl e)))) hq
theorem RdAt.winStep {C':List UInt8} {wv':Value} (h:RdAt Z w0 w k g total st rep s C told wv tv) (hw':WinC w' g.bw g.wb g.kb g.S C' wv') (hf:Frm (fun x=>x=g.wb∨wv.ownBlock=some x) w w') (hm:Mv w wv wv'):RdAt Z w0 w' k g total st rep s C' told wv' tv:=by
 obtain ⟨cd,hd⟩:=h.dpts
 obtain ⟨cw,hw⟩:=h.win.pts
 obtain ⟨lw,hwo⟩:=h.win.own
 have hrb:=h.nr.2.2.2.2
 refine ⟨h.lz.frm (DC.keep _ _) hf ?_,hw',h.p.frm hf ?_,h.o.frm hf ?_,?_,⟨h.nr.1,h.nr.2.1,?_,h.nr.2.2.2.1,Nat.lt_of_lt_of_le hrb hf.size⟩,⟨Nat.le_trans h.bs.1 hf.size,Nat.le_trans h.bs.2 hf.size⟩,?_,h.f.transW hf ?_⟩
 ·rintro q ((e | e) | e | e) (e2 | e2)
  ·exact hd.ne_of hw (by decide) (e.symm.trans e2)
  ·subst e;exact own_ne hwo hd (by decide) e2
  ·exact h.nr.1 (e.symm.trans e2)
  ·subst e;exact h.nr.2.2.1 e2
  ·exact h.lz.m.ne_of hw (by decide) (e.symm.trans e2)
  ·subst e;exact own_ne hwo h.lz.m (by decide) e2
  ·exact h.lz.l.ne_of hw (by decide) (e.symm.trans e2)
  subst e;exact own_ne hwo h.lz.l (by decide) e2
 ·rintro (e | e)
  ·exact h.p.ne_of hw (by decide) e
  exact own_ne hwo h.p (by decide) e
 ·intro q hq
  rintro (e | e)
  ·subst e;exact own_ne h.o hw (by decide) hq
  exact h.ne q e hq
 ·intro q hq ht
  rcases hm q hq with e | e
  ·exact h.ne q e ht
  have:=(h.o.lt ht).2;omega
 ·intro e
  rcases hm _ e with e2 | e2
  ·exact h.nr.2.2.1 e2
  omega
 ·intro q hq hlt
  rcases hq with e | e | e | e | e | e | e | e
  ·exact h.z q (.inl e) hlt
  ·exact h.z q (.inr (.inl e)) hlt
  ·exact h.z q (.inr (.inr (.inl e))) hlt
  ·exact h.z q (.inr (.inr (.inr (.inl e)))) hlt
  ·exact h.z q (.inr (.inr (.inr (.inr (.inl e))))) hlt
  ·exact h.z q (.inr (.inr (.inr (.inr (.inr (.inl e)))))) hlt
  ·rcases hm q e with e2 | e2
   ·exact h.z q (.inr (.inr (.inr (.inr (.inr (.inr (.inl e2))))))) hlt
   have:=h.f.size;omega
  exact h.z q (.inr (.inr (.inr (.inr (.inr (.inr (.inr e))))))) hlt
 rintro q (e | e) hlt
 ·exact h.z q (.inr (.inr (.inr (.inr (.inl e))))) hlt
 exact h.z q (.inr (.inr (.inr (.inr (.inr (.inr (.inl e))))))) hlt
theorem RdAt.frmOut {N:Nat→Prop} (h:RdAt Z w0 w k g total st rep s C told wv tv) (hf:Frm N w w') (hN:∀ q,N q→w.heap.size≤q):RdAt Z w0 w' k g total st rep s C told wv tv:=by
 have hf':Frm (fun _=>False) w w':=⟨hf.os,hf.tape,hf.output,hf.size,fun q hq _=>hf.block q hq (fun hn=>by have:=hN q hn;omega)⟩
 exact ⟨h.lz.later (DC.keep _ _) hf',h.win.frm hf' id (fun _ _ h=>h),h.p.frm hf' id,h.o.frm hf' (fun _ _ h=>h),h.ne,⟨h.nr.1,h.nr.2.1,h.nr.2.2.1,h.nr.2.2.2.1,Nat.lt_of_lt_of_le h.nr.2.2.2.2 hf.size⟩,⟨Nat.le_trans h.bs.1 hf.size,Nat.le_trans h.bs.2 hf.size⟩,h.z,h.f.transW hf' (fun _ h=>h.elim)⟩
theorem RdAt.drewN (h:RdAt Z w0 w k g total st rep s C told wv tv) (n:Nat):RdAt Z w0 (w.drewN n) k g total st rep s C told wv tv:=h.frmOut ((Frm.refl (fun _=>False) w).drewN n) (fun _ h=>h.elim)
theorem RdAt.alloc (h:RdAt Z w0 w k g total st rep s C told wv tv) (X:Obj):RdAt Z w0 (w.alloc X) k g total st rep s C told wv tv:=h.frmOut ((Frm.refl (fun _=>False) w).alloc X) (fun _ h=>h.elim)
theorem RdAt.toldStep {told':List UInt8} {tv':Value} {w1:World} (h:RdAt Z w0 w k g total st rep s C told wv tv) (ho:OwnB w1 5 g.bt tv' told') (hf:Frm (fun x=>tv.ownBlock=some x) w w1) (hm:tv'.ownBlock=tv.ownBlock∨tv'.ownBlock=some w.heap.size):RdAt Z w0 (w1.setCell ⟨g.xb,4,none⟩ tv') k g total st rep s C told' wv tv':=by
 obtain ⟨cd,hd⟩:=h.dpts
 obtain ⟨cw,hw⟩:=h.win.pts
 obtain ⟨lw,hwo⟩:=h.win.own
 have hrb:=h.nr.2.2.2.2
 have hmv:∀ q,tv'.ownBlock=some q→tv.ownBlock=some q∨w.heap.size≤q:=by
  intro q hq
  rcases hm with e | e
  ·exact .inl (e▸hq)
  rw [e] at hq;injection hq with hq;exact .inr (by omega)
 have hxlt:=h.p.lt
 have hf2:Frm (fun x=>x=g.xb∨tv.ownBlock=some x) w (w1.setCell ⟨g.xb,4,none⟩ tv'):=(hf.mono fun q _ e=>.inr e).setCell (p:=⟨g.xb,4,none⟩) (.inl rfl) tv'
 have hx:tv'.ownBlock≠some g.xb:=by
  intro e
  rcases hmv _ e with e2 | e2
  ·exact own_ne h.o h.p (by decide) e2
  omega
 refine ⟨h.lz.frm (DC.keep _ _) hf2 ?_,h.win.frm hf2 ?_ ?_,(h.p.frm hf (own_ne h.o h.p (by decide))).set 4 tv',ho.other (p:=⟨g.xb,4,none⟩) hx tv',?_,⟨h.nr.1,h.nr.2.1,h.nr.2.2.1,?_,Nat.lt_of_lt_of_le hrb hf2.size⟩,⟨Nat.le_trans h.bs.1 hf2.size,Nat.le_trans h.bs.2 hf2.size⟩,?_,h.f.transW hf2 ?_⟩
 ·rintro q ((e | e) | e | e) (e2 | e2)
  ·exact hd.ne_of h.p (by decide) (e.symm.trans e2)
  ·subst e;exact own_ne h.o hd (by decide) e2
  ·exact h.nr.2.1 (e.symm.trans e2)
  ·subst e;exact h.nr.2.2.2.1 e2
  ·exact h.lz.m.ne_of h.p (by decide) (e.symm.trans e2)
  ·subst e;exact own_ne h.o h.lz.m (by decide) e2
  ·exact h.lz.l.ne_of h.p (by decide) (e.symm.trans e2)
  subst e;exact own_ne h.o h.lz.l (by decide) e2
 ·rintro (e | e)
  ·exact hw.ne_of h.p (by decide) e
  exact own_ne h.o hw (by decide) e
 ·intro q hq
  rintro (e | e)
  ·subst e;exact own_ne hwo h.p (by decide) hq
  exact h.ne q hq e
 ·intro q hq ht
  rcases hmv q ht with e | e
  ·exact h.ne q hq e
  have:=(hwo.lt hq).2;omega
 ·intro e
  rcases hmv _ e with e2 | e2
  ·exact h.nr.2.2.2.1 e2
  omega
 ·intro q hq hlt
  rcases hq with e | e | e | e | e | e | e | e
  ·exact h.z q (.inl e) hlt
  ·exact h.z q (.inr (.inl e)) hlt
  ·exact h.z q (.inr (.inr (.inl e))) hlt
  ·exact h.z q (.inr (.inr (.inr (.inl e)))) hlt
  ·exact h.z q (.inr (.inr (.inr (.inr (.inl e))))) hlt
  ·exact h.z q (.inr (.inr (.inr (.inr (.inr (.inl e)))))) hlt
  ·exact h.z q (.inr (.inr (.inr (.inr (.inr (.inr (.inl e))))))) hlt
  rcases hmv q e with e2 | e2
  ·exact h.z q (.inr (.inr (.inr (.inr (.inr (.inr (.inr e2))))))) hlt
  have:=h.f.size;omega
 rintro q (e | e) hlt
 ·exact h.z q (.inr (.inr (.inr (.inr (.inr (.inl e)))))) hlt
 exact h.z q (.inr (.inr (.inr (.inr (.inr (.inr (.inr e))))))) hlt
end
end Go.Proofs.YtffehfpbdcokbaaGreat
