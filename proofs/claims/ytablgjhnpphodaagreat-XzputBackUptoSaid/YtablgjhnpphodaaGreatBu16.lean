import Derived.Test.YtablgjhnpphodaaGreatOpen
import Derived.SizedLaws
import Derived.Test.YtablgjhnpphodaaGreatBu2
import Derived.Test.YtablgjhnpphodaaGreatBu15
set_option linter.unusedVariables false
set_option linter.unusedSimpArgs false
namespace Go.Proofs.YtablgjhnpphodaaGreat
open Lib (hid)
open Go.RowKit Rng Win Lz Box
set_option maxRecDepth 100000 in
set_option maxHeartbeats 4000000 in
theorem wakes22 (w:World):Calls Tryz.prog 9 #[] w fun e w'=>e=.returned (.bool true)∧Below w.heap.size w w':=by
 have hcv:=fun (w:World) (C:Array Value) (n c:Nat)=>Lib.run_convert_bytes_const (P:=Tryz.prog) w 27 5 C n c Tryz.underlying27 Tryz.underlying5
 go_enter Tryz.func9,Tryz.ntmps9
 go_wp2_with fail
 refine (en_new 1 w).mono ?_;rintro e w1 ⟨eb,O1,rfl,h1,hb1⟩
 change EnD w1 w.heap.size O1 eb 1 newEnc [] at h1
 have H1:=hid h1
 have B1:=hid hb1
 have HW:=hid (en_write (h1.below (below_alloc w1 (.cells #[.int .u8 97,.int .u8 98,.int .u8 99] 5 (3,4)))) rfl (some ⟨w1.heap.size,0,none⟩) abcE 3 3 (w1.heap.size+1) rfl (row_frz w1 5 abcE _ (3,4) rfl) (fun _ ad e hq=>by
  injection e with e
  have:=h1.lt _ hq
  rw [← e] at this
  exact absurd this (Nat.lt_irrefl _)) (by simp) (Nat.le_refl _) (by decide))
 clear h1 hb1
 go_wp2_with fail
 refine HW.out.mono ?_;rintro e w2 ⟨rfl,O2,h2,ho2,hf2⟩
 have z2:=hf2.size
 rw [World.size_alloc] at z2 ho2
 have hO2:∀ q,O2 q→w.heap.size≤q:=h2.ge
 have b2:Below w.heap.size w w2:=B1.out.trans (((below_alloc w1 _).mono B1.out.size).trans (hf2.below (by have:=B1.out.size;simp;omega) (fun q hq=>H1.out.ge q hq)))
 have B2:=hid b2
 have HF:=hid (en_flush h2 rfl (by decide) (by simp))
 clear h2 ho2 hf2 z2 hO2 b2 HW
 go_wp2_with fail
 refine HF.out.mono ?_;rintro e w3 ⟨A3,c3,r3,xs3,s3,rfl,ho3,hout3,h3,ht3,hd3,hcl3,hx3,hf3,hl3⟩
 have e3:r3=outS 1 xs3:=hout3
 obtain ⟨L3,hL3⟩:∃ L,r3.length=L:=⟨_,rfl⟩
 rw [hL3] at ho3
 simp only [hL3]
 have ht3':s3.txt=abcE:=ht3
 have hd3':s3.done=3:=hd3
 have H3:=hid h3
 have B3:Hid (Below w.heap.size w w3):=hid (B2.out.trans (hf3.below B2.out.size (fun q hq=>h3.ge q hq)))
 have R3:=hid ho3
 have HS3:=hid (And.intro e3 (And.intro hL3 (And.intro ht3' (And.intro hd3' (And.intro hcl3 (And.intro hx3 hl3))))))
 clear ho3 hout3 h3 ht3 hd3 hcl3 hx3 hf3 hl3 e3 hL3 ht3' hd3' HF
 go_wp2_with (at_builtin;refine wpList_append_bytes _ rfl (.tmp 17) (.tmp 19) 27 rfl 5 w3.heap.size Tryz.underlying27 Tryz.info_u8 (.slice none 0 0) [] rfl ?own1 A3 L3 c3 w3.heap.size r3 rfl HS3.out.2.1.symm ?row1 ?len1 ?base1 ?next1)
 case own1=>exact OwnB.nil _ _ _
 case row1=>exact R3.out.rowZ
 case len1=>have:=HS3.out;simp;omega
 case base1=>exact Nat.le_refl _
 case next1 =>
 intro v4 w4 hown4 hfrm4 hnew4
 have h4:EnD w4 w.heap.size O2 eb 1 s3 xs3:=H3.out.frm hfrm4 (fun q _ e=>by cases e)
 have b4:Below w3.heap.size w3 w4:=hfrm4.below (Nat.le_refl _) (fun q e=>by cases e)
 obtain ⟨A4,c4,e4,hc4,hm4,hr4⟩:=hown4.slice
 rw [HS3.out.2.1] at e4 hc4
 subst e4
 have hrd:xP 16777216 r3=(abcE,.inl 10):=by
  rw [HS3.out.1]
  have q:=outS_readB (lv:=1) (budget:=16777216) (by decide) (by decide) H3.out.2.st (by rw [HS3.out.2.2.1];decide)
  rw [q,HS3.out.2.2.1,HS3.out.2.2.2.1]
  rfl
 have HD:=hid (member_p A4 r3 L3 c4 16777216 w4 HS3.out.2.1.symm hr4 hc4 hm4 (by have:=HS3.out;omega))
 have HRD:=hid hrd
 have H4:=hid h4
 have B4:=hid b4
 have V4:=hid hown4
 clear hown4 hfrm4 hnew4 h4 b4 hc4 hm4 hr4 hrd R3
 go_wp2_with fail
 refine HD.out.mono ?_;rintro e w5 hd
 obtain ⟨A5,c5,rfl,hown5,-,hb5,-⟩:=mem_err (m:=3) hd HRD.out rfl
 have h5:=H4.out.below hb5
 have z34:=B4.out.size
 have z45:=hb5.size
 have X5:=hid hown5
 have V5:=hid (V4.out.keepZ hb5)
 have B5:=hid (B3.out.trans ((B4.out.trans (hb5.mono z34)).mono B3.out.size))
 have Z5:=hid (And.intro z34 z45)
 have H5:=hid h5
 have HW:=hid (en_write (h5.below (below_alloc w5 (.cells #[.int .u8 100,.int .u8 101,.int .u8 102] 5 (3,4)))) HS3.out.2.2.2.2.1 (some ⟨w5.heap.size,0,none⟩) defE 3 3 (w5.heap.size+1) rfl (row_frz w5 5 defE _ (3,4) rfl) (fun _ ad e hq=>by
  injection e with e
  have:=h5.lt _ hq
  rw [← e] at this
  exact absurd this (Nat.lt_irrefl _)) (by simp) (Nat.le_refl _) (by rw [HS3.out.2.2.1];decide))
 clear hd hown5 hb5 h5 z34 z45 HD HRD H4
 go_wp2_with fail
 refine HW.out.mono ?_;rintro e w6 ⟨rfl,O6,h6,ho6,hf6⟩
 have z6:=hf6.size
 rw [World.size_alloc] at ho6 z6
 have V6:=hid ((V5.out.keepZ (below_alloc w5 _)).frm hf6 (fun k hk hO=>by have:=(V5.out.lt hk).1;have:=H3.out.lt k hO;omega))
 have X6:=hid ((X5.out.keepZ (below_alloc w5 _)).frm hf6 (fun k hk hO=>by have:=(X5.out.lt hk).1;have:=H3.out.lt k hO;have:=Z5.out;omega))
 have B6:=hid (B5.out.trans (((below_alloc w5 _).mono B5.out.size).trans (hf6.below (by have:=B5.out.size;simp;omega) (fun q hq=>H3.out.ge q hq))))
 have H6:=hid h6
 have Z6:=hid (And.intro z6 ho6)
 clear h6 ho6 hf6 z6 HW
 go_wp2_with (at_builtin;refine wpList_append_bytes _ rfl (.tmp 27) (.tmp 31) 27 rfl 5 w3.heap.size Tryz.underlying27 Tryz.info_u8 (.slice A4 L3 c4) r3 rfl ?own2 none 0 0 0 [] rfl rfl ?row2 ?len2 ?base2 ?next2)
 case own2=>exact V6.out
 case row2=>exact BRow.nil _ _ _
 case len2=>have:=HS3.out;simp;omega
 case base2=>have:=Z5.out;have:=Z6.out.1;omega
 case next2 =>
 intro v7 w7 hown7 hfrm7 hnew7
 have hnw:∀ q,v7.ownBlock=some q→(Value.slice A4 L3 c4).ownBlock=some q∨q=w6.heap.size:=fun q hq=>by
  rcases hnew7 with e | e
  ·exact .inl (e▸hq)
  rw [e] at hq;exact .inr (Option.some.inj hq).symm
 have hvO:∀ q,(Value.slice A4 L3 c4).ownBlock=some q→¬ O6 q:=fun q hq hO=>by
  have a1:=V5.out.lt hq
  rcases Z6.out.2 q hO with h | h
  ·have:=H3.out.lt q h;omega
  omega
 have hvx:∀ q,(Value.slice A4 L3 c4).ownBlock=some q→q<w4.heap.size:=fun q hq=>(V4.out.lt hq).2
 have h7:=H6.out.frm hfrm7 (fun q hO e=>hvO q e hO)
 have x7:=X6.out.frm hfrm7 (fun k hk e=>by have:=hvx k e;have:=(X5.out.lt hk).1;omega)
 have b7:Below w.heap.size w w7:=B6.out.trans (hfrm7.below B6.out.size (fun q hq=>by have:=(V4.out.lt hq).1;have:=B3.out.size;omega))
 obtain ⟨A7,c7,e7,-,-,-⟩:=hown7.slice
 rw [HS3.out.2.1] at e7
 subst e7
 have hv7:∀ q,(Value.slice A7 L3 c7).ownBlock=some q→¬ O6 q:=fun q hq hO=>by
  rcases hnw q hq with h | h
  ·exact hvO q h hO
  have:=H6.out.lt q hO;omega
 have hx7:∀ q,(Value.slice A5 3 c5).ownBlock=some q→¬ O6 q∧(Value.slice A7 L3 c7).ownBlock≠some q:=fun q hq=>by
  have a1:=X5.out.lt hq
  refine ⟨fun hO=>?_,fun e=>?_⟩
  ·rcases Z6.out.2 q hO with h | h
   ·have:=H3.out.lt q h;have:=Z5.out;omega
   omega
  rcases hnw q e with h | h
  ·have:=hvx q h;omega
  have:=Z6.out.1;omega
 have V7:=hid hown7
 have X7:=hid x7
 have B7:=hid b7
 have H7:=hid h7
 have HN:=hid (And.intro hv7 hx7)
 have Z7:=hid hfrm7.size
 have HC:=hid (en_close h7 HS3.out.2.2.2.2.1 (by decide) (by have:=HS3.out.2.2.2.2.2.1;simp at this;omega))
 clear hown7 hfrm7 hnew7 hnw hvO hvx h7 x7 b7 hv7 hx7 V6 X6 B6 H6
 go_wp2_with fail
 refine HC.out.mono ?_;rintro e w8 ⟨A8,c8,r8,xs8,s8,rfl,ho8,hout8,hst8,hx8,-,-,hf8,hl8,-⟩
 obtain ⟨L8,hL8⟩:∃ L,r8.length=L:=⟨_,rfl⟩
 rw [hL8] at ho8
 simp only [hL8]
 have V8:=hid (V7.out.frm hf8 (fun k hk hO=>HN.out.1 k hk hO))
 have X8:=hid (X7.out.frm hf8 (fun k hk hO=>(HN.out.2 k hk).1 hO))
 have B8:=hid (B7.out.trans (hf8.below B7.out.size (fun q hq=>H7.out.ge q hq)))
 have htx:s3.txt++defE=abcE++defE:=by rw [HS3.out.2.2.1]
 have hout8':r3++r8=endS 1 xs8 (abcE++defE):=by rw [HS3.out.1,← htx];exact hout8
 have hrd:xP 16777216 (r3++r8)=(abcE++defE,.inr []):=by
  rw [hout8']
  exact endS_readB (lv:=1) (budget:=16777216) (by decide) (by decide) (by rw [← htx];exact hst8) (by decide) (by have:=HS3.out.2.2.2.2.2.1;simp at this;omega)
 have HS8:=hid (And.intro hL8 (And.intro hrd (And.intro hl8 (hf8.size))))
 have R8:=hid ho8
 clear ho8 hout8 hst8 hx8 hf8 hl8 hL8 hrd hout8' htx HC
 go_wp2_with (at_builtin;refine wpList_append_bytes _ rfl (.tmp 33) (.tmp 35) 27 rfl 5 w3.heap.size Tryz.underlying27 Tryz.info_u8 (.slice A7 L3 c7) r3 rfl ?own3 A8 L8 c8 w8.heap.size r8 rfl HS8.out.1.symm ?row3 ?len3 ?base3 ?next3)
 case own3=>simpa using V8.out
 case row3=>exact R8.out.rowZ
 case len3=>have:=HS3.out;have:=HS8.out;simp;omega
 case base3=>have:=Z5.out;have:=Z6.out.1;have:=HS8.out.2.2.2;have:=Z7.out;omega
 case next3 =>
 intro v9 w9 hown9 hfrm9 hnew9
 have x9:=X8.out.frm hfrm9 (fun k hk e=>(HN.out.2 k hk).2 e)
 have b9:Below w.heap.size w w9:=B8.out.trans (hfrm9.below B8.out.size (fun q hq=>by have:=(V7.out.lt hq).1;have:=B3.out.size;omega))
 obtain ⟨A9,c9,e9,hc9,hm9,hr9⟩:=hown9.slice
 have hlen9:(r3++r8).length≤60000:=by rw [List.length_append];have:=HS3.out;have:=HS8.out;omega
 obtain ⟨L9,hL9⟩:∃ L,(r3++r8).length=L:=⟨_,rfl⟩
 rw [hL9] at e9 hc9 hlen9
 subst e9
 have HD:=hid (member_p A9 (r3++r8) L9 c9 16777216 w9 hL9.symm hr9 hc9 hm9 (by omega))
 have X9:=hid x9
 have B9:=hid b9
 have HL9:=hid hL9
 clear hown9 hfrm9 hnew9 x9 b9 hc9 hm9 hr9 hlen9 hL9
 go_wp2_with fail
 refine HD.out.mono ?_;rintro e w10 hd
 obtain ⟨A10,c10,rfl,hown10,-,hb10⟩:=mem_ok (m:=6) (u:=L9) hd HS8.out.2.1 rfl (by rw [HL9.out];rfl)
 have X10:=hid (X9.out.keepZ hb10)
 have Y10:=hid hown10
 have B10:=hid (B9.out.trans (hb10.mono B9.out.size))
 clear hd hown10 hb10 HD
 go_wp2_with fail
 refine (en_new 0 w10).mono ?_;rintro e w11 ⟨eb2,O11,rfl,h11,hb11⟩
 change EnD w11 w10.heap.size O11 eb2 0 newEnc [] at h11
 have X11:=hid (X10.out.keepZ hb11)
 have Y11:=hid (Y10.out.keepZ hb11)
 have B11:=hid (B10.out.trans (hb11.mono B10.out.size))
 have HC:=hid (en_close h11 rfl (by decide) (by simp))
 have G11:=hid h11.ge
 clear h11 hb11
 go_wp2_with fail
 refine HC.out.mono ?_;rintro e w12 ⟨A12,c12,r12,xs12,s12,rfl,ho12,hout12,hst12,hx12,-,-,hf12,hl12,hne12⟩
 have hxs:xs12=[]:=Classical.byContradiction fun h=>absurd (hne12 h) (by decide)
 have hl32:r12.length=32:=by
  have q:outS 0 []++r12=endS 0 xs12 []:=hout12
  rw [hxs] at q
  have q2:r12=endS 0 [] []:=q
  rw [q2]
  exact endS_none 0
 have x12:=X11.out.frm hf12 (fun k hk hO=>by have:=G11.out k hO;have:=(X10.out.lt hk).2;omega)
 have y12:=Y11.out.frm hf12 (fun k hk hO=>by have:=G11.out k hO;have:=(Y10.out.lt hk).2;omega)
 have B12:=hid (B11.out.trans (hf12.below B11.out.size (fun q hq=>Nat.le_trans B10.out.size (G11.out q hq))))
 have k1:=run_conv_bytes (P:=Tryz.prog) w12 27 9 5 Tryz.underlying27 Tryz.underlying5 Tryz.underlying9 A5 3 c5 _ abcE rfl x12.rowZ
 have k2:=run_conv_bytes (P:=Tryz.prog) w12 27 9 5 Tryz.underlying27 Tryz.underlying5 Tryz.underlying9 A10 6 c10 _ (abcE++defE) rfl y12.rowZ
 have e3:abcE.toArray=#[97,98,99]:=rfl
 have e6:(abcE++defE).toArray=#[97,98,99,100,101,102]:=rfl
 rw [e3] at k1
 rw [e6] at k2
 simp only [hl32]
 clear e3 e6 ho12 hout12 hst12 hx12 hf12 hl12 hne12 hxs hl32 x12 y12 HC
 go_wp2
 go_ret
 exact ⟨rfl,B12.out⟩
open Go.RowKit
namespace Opn
open Go.ChangeShapes Go.WideShapes Go.Deep
section
variable {H : Type} {enc : TypeId × Value → H} {P : Program} {w : World}
end
end Opn
open Go.RowKit Rng Win Lz Box
structure XAct where
 d:Int
 A:Option Addr
 bs:List UInt8
 cap:Nat
instance:Inhabited XAct:=⟨⟨0,none,[],0⟩⟩
structure XAct.Fits (w:World) (B:Nat) (x:XAct):Prop where
 d : -9223372036854775808≤x.d∧x.d≤9223372036854775807
 c:x.bs.length≤x.cap∧x.cap≤maxLen
 r:BRow w B x.A x.bs
def XActRow (w:World) (B:Nat) (A:Option Addr) (l:List XAct):Prop :=
 0<l.length→∃ b off,A=some ⟨b,off,none⟩∧b<B∧∀ k,k<l.length →
  w.cell? ⟨b,off+k*2,none⟩=some (.int .i64 (l.getD k default).d)∧w.cell? ⟨b,off+k*2+1,none⟩=some (.slice (l.getD k default).A (l.getD k default).bs.length (l.getD k default).cap)
namespace Opn
open Go.ChangeShapes Go.WideShapes Go.Deep
section
variable {H : Type} {enc : TypeId × Value → H} {P : Program} {w : World}
theorem open_slice_fieldsU {t e:TypeId} {fs:Array Field} {fuel:Nat} {cs:List Value} {x:DataW H×List MemPlace} (ht:P.underlying t=some (.slice e)) (he:P.underlying e=some (.struct fs))
 (hone:oneCellFields P fs=true) (hC:P.cellsOf e=fs.size) (h:DataW.trod enc P w 0 (fun _=>true) true fuel t cs=some x) :
 (cs=[.slice none 0 0]∧x=(.nil,[])) ∨
 ∃ (a:Addr) (len cap m:Nat),cs=[.slice (some a) len cap]∧len≤cap∧cap≤maxLen∧m=cap∧len≤Rows.uptoBulk x.1 ∧
  ∀ i,i<m→∃ n,∀ (j:Nat) (f:Field),fs[j]?=some f→∃ (v:Value) (y:DataW H×List MemPlace),w.cell? (a.add (i*fs.size+j))=some v∧DataW.trod enc P w 0 (fun _=>true) true n f.type [v]=some y∧(i<len→Rows.uptoBulk y.1≤Rows.uptoBulk x.1):=by
 rcases open_slice ht h with h0 | ⟨a,len,cap,m,n,D,Pl,hcs,hb,hl,hm,hmm,hx,hi⟩
 ·exact .inl h0
 simp only [if_true] at hmm
 refine .inr ⟨a,len,cap,m,hcs,hl,hm,hmm,?_,fun i him=>?_⟩
 ·rw [hx]
  simp only [Rows.uptoBulk]
  have:=bulk_length_le ((List.range len).map D)
  simp only [List.length_map,List.length_range] at this
  omega
 obtain ⟨cs',hc,ht'⟩:=hi i him
 rw [hC] at hc
 obtain ⟨ys,n',hn',hy,hlen,hyl,hf⟩:=DataW.trod_struct he ht'
 obtain ⟨_,hcl,hat⟩:=World.cells?_some hc
 refine ⟨n',fun j f hj=>?_⟩
 obtain ⟨ho,hk⟩:=hone_of hone j f hj
 have hjl:j<fs.size:=(Array.getElem?_eq_some_iff.1 hj).1
 have hcell:=hat j hjl
 have hv:cs'[j]?=some (cs'[j]'(by omega)):=List.getElem?_eq_getElem (by omega)
 have h1:=hf j f hj
 rw [ho,hk] at h1
 have hone':(cs'.drop j).take 1=[cs'[j]'(by omega)]:=by
  rw [List.drop_eq_getElem_cons (by omega)]
  rfl
 rw [hone'] at h1
 have hys:ys[j]?=some (ys[j]'(by omega)):=List.getElem?_eq_getElem (by omega)
 refine ⟨_,ys[j]'(by omega),?_,h1.trans hys,fun hil=>?_⟩
 ·rw [← Go.Deep.add_add,hcell,hv]
 have hD:D i=.agg (ys.map (·.1)):=congrArg Prod.fst hy
 have h2:Rows.uptoBulk (ys[j]'(by omega)).1≤Rows.uptoBulk (D i):=by
  rw [hD]
  simp only [Rows.uptoBulk]
  have:=bulk_part_le (List.mem_map.2 ⟨ys[j]'(by omega),List.getElem_mem _,rfl⟩:(ys[j]'(by omega)).1∈ys.map (·.1))
  omega
 have h3:=bulk_part_le (List.mem_map.2 ⟨i,List.mem_range.2 hil,rfl⟩:D i∈(List.range len).map D)
 rw [hx]
 simp only [Rows.uptoBulk]
 omega
theorem open_byte_rowU {t e:TypeId} {v:Value} {fuel:Nat} {x:DataW H×List MemPlace} (ht:P.underlying t=some (.slice e)) (he:P.underlying e=some (.int .u8)) (hc:P.cellsOf e=1)
 (hf:DataW.trod enc P w 0 (fun _=>true) true fuel t [v]=some x):∃ (A:Option Addr) (bs:List UInt8) (cap:Nat),v=.slice A bs.length cap∧bs.length≤cap∧cap≤maxLen∧BRow w w.heap.size A bs∧bs.length≤Rows.uptoBulk x.1:=by
 rcases open_ints ht he hc hf with ⟨hcs,_⟩ | ⟨x,l,c,zs,hcs,_,hl,hm,hz,hx,hcell,hwz⟩
 ·simp at hcs
  exact ⟨none,[],0,by simpa using hcs,Nat.le_refl _,Nat.zero_le _,BRow.nil _ _ _,Nat.zero_le _⟩
 simp at hcs
 subst hcs
 simp only [if_true] at hz
 have hrow:RowAt w w.heap.size (some x) l (fun i=>.int .u8 (zs.getD i 0)):=by
  intro hn
  have h0:=hcell 0 (by omega)
  have hx:=add_plain h0
  refine ⟨x.block,x.off,by rw [← hx],lt_of_cell (a:=x) (by simpa [Addr.add] using h0),fun j hj=>?_⟩
  have:=hcell j (by omega)
  rw [hx,add_at] at this
  exact this
 obtain ⟨bs,hbl,hb⟩:=BRow.of_row hrow (fun k hk=>bounds_u8 (hwz _ (by
  have:k<zs.length:=by omega
  simp [List.getD,List.getElem?_eq_getElem this])))
 refine ⟨some x,bs,c,by rw [hbl],by omega,hm,hb,?_⟩
 rw [hx]
 simp only [Rows.uptoBulk]
 have h2:=bulk_length_le (lits (H:=H) IntKind.u8 (zs.take l))
 have h3:(lits (H:=H) IntKind.u8 (zs.take l)).length=l:=by simp [lits];omega
 omega
theorem open_acts2 {t e t0 t1 q:TypeId} {f0 f1:Field} {A:Option Addr} {len cap:Nat} {d:DataW H} {p:List MemPlace} (ht:P.underlying t=some (.slice e)) (he:P.underlying e=some (.struct #[f0,f1]))
 (hone:oneCellFields P #[f0,f1]=true) (hC:P.cellsOf e=2) (e0:f0.type=t0) (e1:f1.type=t1) (h0:P.underlying t0=some (.int .i64))
 (h1:P.underlying t1=some (.slice q)) (hq:P.underlying q=some (.int .u8)) (cq:P.cellsOf q=1)
 (h:DataW.Trod enc P w 0 (fun _=>true) true t (.slice A len cap) d p) :
 ∃ l:List XAct,len=l.length∧l.length≤cap∧cap≤maxLen∧XActRow w w.heap.size A l∧(∀ s∈l,s.Fits w w.heap.size∧s.bs.length≤Rows.uptoBulk d)∧l.length≤Rows.uptoBulk d:=by
 obtain ⟨fuel,hf⟩:=h
 rcases open_slice_fieldsU ht he hone hC hf with ⟨hcs,_⟩ | ⟨x,l,c,m,hcs,hl,hm,hmm,hbk,hcell⟩
 ·simp [Value.cells] at hcs
  obtain ⟨rfl,rfl,rfl⟩:=hcs
  exact ⟨[],rfl,Nat.le_refl _,Nat.zero_le _,fun h=>absurd h (by simp),fun s hs=>absurd hs (by simp),Nat.zero_le _⟩
 simp [Value.cells] at hcs
 obtain ⟨rfl,rfl,rfl⟩:=hcs
 subst hmm
 have key:∀ i,i<len→∃ z:XAct,w.cell? (x.add (i*2))=some (.int .i64 z.d)∧w.cell? (x.add (i*2+1))=some (.slice z.A z.bs.length z.cap)∧z.Fits w w.heap.size∧z.bs.length≤Rows.uptoBulk d:=by
  intro i hi
  obtain ⟨n,hn⟩:=hcell i (by omega)
  obtain ⟨v0,y0,hc0,ht0,hu0⟩:=hn 0 f0 rfl
  obtain ⟨v1,y1,hc1,ht1,hu1⟩:=hn 1 f1 rfl
  rw [e0] at ht0;rw [e1] at ht1
  obtain ⟨z0,hz0,_,hw0⟩:=DataW.trod_int h0 ht0
  obtain ⟨A1,bs,c1,hv1,hl1,hm1,hb1,hk1⟩:=open_byte_rowU h1 hq cq ht1
  simp only [List.cons.injEq,and_true] at hz0
  subst hz0;subst hv1
  exact ⟨⟨z0,A1,bs,c1⟩,hc0,hc1,⟨bounds_i64 hw0,⟨hl1,hm1⟩,hb1⟩,Nat.le_trans hk1 (hu1 hi)⟩
 obtain ⟨q,hq⟩:=pick key
 refine ⟨(List.range len).map q,by simp,by simpa using hl,hm,fun hn=>?_,fun s hs=>?_,by simpa using hbk⟩
 ·simp only [List.length_map,List.length_range] at hn
  have hx0:=(hq 0 hn).1
  have hx:=add_plain hx0
  refine ⟨x.block,x.off,by rw [← hx],lt_of_cell (a:=x) (by simpa [Addr.add] using hx0),fun j hj=>?_⟩
  simp only [List.length_map,List.length_range] at hj
  obtain ⟨k0,k1,_⟩:=hq j hj
  rw [hx,add_at] at k0 k1
  have hg:((List.range len).map q).getD j default=q j:=by simp [List.getD,hj]
  rw [hg]
  exact ⟨k0,k1⟩
 obtain ⟨j,hj,rfl⟩:=List.mem_map.1 hs
 exact (hq j (List.mem_range.1 hj)).2.2
end
end Opn
def sumX (l:List XAct):Nat:=(l.map fun x=>x.bs.length).sum
theorem sumX_take {l:List XAct} {i:Nat} (h:i<l.length):sumX (l.take (i+1))=sumX (l.take i)+(l.getD i default).bs.length:=by
 unfold sumX
 rw [List.take_add_one,List.getElem?_eq_getElem h,List.getD,List.getElem?_eq_getElem h]
 rw [List.map_append,List.sum_append]
 simp
def Great22 (l:List XAct) (e:Ending):Prop:=(e=.returned (.bool true))∨(e=.returned (.bool false)∧l.length≤40∧sumX l≤16384)
set_option maxRecDepth 100000 in
set_option maxHeartbeats 1000000 in
theorem great22_any (A:Option Addr) (l:List XAct) (ln c B:Nat) (w:World) (hln:ln=l.length) (hr:XActRow w B A l) (hf:∀ s∈l,s.Fits w B∧s.bs.length≤1048576) (hlm:l.length≤1048576) :
 Calls Tryz.prog 8 #[.slice A ln c] w fun e w'=>Great22 l e∧w=w':=by
 subst hln
 have HR:=hid hr
 have HF:=hid hf
 clear hr hf
 go_enter Tryz.func8,Tryz.ntmps8
 go_wp2
 go_loopw [3,4] (fun nv iv wr=>∃ (i N:Nat),iv=.int .i64 i∧nv=.int .i64 N∧i≤l.length∧i≤41∧N=sumX (l.take i)∧N≤i*1048576∧w=wr) (fun _ iv _=>l.length-(intOf iv).toNat)
 case atStart=>exact ⟨0,0,rfl,rfl,by omega,by omega,by simp [sumX],by omega,rfl⟩
 case round =>
 obtain ⟨i,N,rfl,rfl,hi,hi2,hN,hN2,rfl⟩:=hrel
 have hgo:(i<l.length∧i≤40)∨(l.length=i)∨(i<l.length∧i=41):=by omega
 rcases hgo with ⟨g1,g2⟩ | hgo
 ·obtain ⟨b,off,rfl,hb,hcell⟩:=HR.out (by omega)
  obtain ⟨c0,c1⟩:=hcell i g1
  have hx:l.getD i default∈l:=by rw [List.getD,List.getElem?_eq_getElem g1];exact List.getElem_mem g1
  have hmu:=sumX_take g1
  obtain ⟨hfit,d5⟩:=HF.out _ hx
  obtain ⟨⟨d,A1,bs,cap⟩,hxx⟩:∃ x,l.getD i default=x:=⟨_,rfl⟩
  rw [hxx] at c0 c1 hfit hmu d5
  obtain ⟨d3,d4⟩:=hfit.c
  simp only at c0 c1 d3 d4 d5
  clear hcell hfit hxx hx d4
  have HMU:=hid hmu
  clear hmu
  go_wp2
  exact ⟨⟨i+1,N+bs.length,by go_num,by go_num,by omega,by omega,by rw [HMU.out,← hN],by omega,trivial⟩,by simp [intOf];omega⟩
 clear HR HF
 have HN:=hid hN
 clear hN
 by_cases h40:40<l.length
 ·have h40i:(40:Int)<(l.length:Int):=by omega
  rcases hgo with h | ⟨h1,h2⟩
  all_goals
   go_wp2
   go_ret
   exact ⟨.inl (by simp [h40i]),rfl⟩
 have h40i:¬ (40:Int)<(l.length:Int):=by omega
 obtain rfl:l.length=i:=by omega
 have hNl:N=sumX l:=by rw [HN.out,List.take_length]
 subst hNl
 by_cases hb:16384<sumX l
 ·have hbi:(16384:Int)<(sumX l:Int):=by omega
  go_wp2
  go_ret
  exact ⟨.inl (by simp [hbi]),rfl⟩
 have hbi:¬ (16384:Int)<(sumX l:Int):=by omega
 go_wp2
 go_ret
 exact ⟨.inr ⟨by simp [hbi,h40i],by omega,by omega⟩,rfl⟩
end Go.Proofs.YtablgjhnpphodaaGreat
