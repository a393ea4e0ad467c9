import Derived.OwnWalk
import Derived.Deep.RegionWith
import Derived.Test.YtffehfpbdcokbaaGreatBu25
import Derived.Test.YtffehfpbdcokbaaGreatBu26
set_option linter.unusedVariables false
set_option linter.unusedSimpArgs false
namespace Go.Proofs.YtffehfpbdcokbaaGreat
open Lib (hid)
open Go.RowKit
def P32:Nat:=3988292384
def P64:Nat:=14514072000185962306
def crc32 (bs:List UInt8):Nat:=Crc.add P32 (Num.M32-1) bs ^^^ (Num.M32-1)
def crc64 (bs:List UInt8):Nat:=Crc.add P64 (Num.M64-1) bs ^^^ (Num.M64-1)
def sumOf (kind:Int) (bs:List UInt8):Int:=if kind=1 then (crc32 bs:Int) else if kind=2 then (crc64 bs:Int) else if kind=3 then Xxh.xxh64 bs else 0
theorem sumOf_1 (bs:List UInt8):sumOf 1 bs=((Crc.add P32 (Num.M32-1) bs ^^^ (Num.M32-1):Nat):Int):=by unfold sumOf;rw [if_pos rfl];unfold crc32;exact Eq.refl _
theorem sumOf_2 (bs:List UInt8):sumOf 2 bs=((Crc.add P64 (Num.M64-1) bs ^^^ (Num.M64-1):Nat):Int):=by unfold sumOf;rw [if_neg (by decide),if_pos rfl];unfold crc64;exact Eq.refl _
def sumCells (T:TypeId) (c:Nat):Array Value:=#[.iface T (.pointer (some ⟨c,0,none⟩))]
inductive SumAt (w:World) (s:Nat) (own:Nat→Prop) (kind:Int) (all:List UInt8):Prop
 | crc32 (c:Nat) (hk:kind=1) (hs:Pts w s (sumCells 252 c) 257) (hc:CrcAt w c P32 (Crc.add P32 (Num.M32-1) all) ((Num.M32-1:Nat):Int)) (ho:∀ k,own k↔(k=s∨k=c)) (hne:s≠c)
 | crc64 (c:Nat) (hk:kind=2) (hs:Pts w s (sumCells 252 c) 257) (hc:CrcAt w c P64 (Crc.add P64 (Num.M64-1) all) ((Num.M64-1:Nat):Int)) (ho:∀ k,own k↔(k=s∨k=c)) (hne:s≠c)
 | xxh64 (c:Nat) (v:Value) (hk:kind=3) (hs:Pts w s (sumCells 258 c) 257) (hc:XxhAt w c v all) (ho:∀ k,own k↔(k=s∨k=c∨v.ownBlock=some k)) (hne:s≠c∧v.ownBlock≠some s)
 | none (hk:kind≠1∧kind≠2∧kind≠3) (hs:Pts w s #[.nilIface] 257) (ho:∀ k,own k↔k=s)
theorem meth_cv (a : Addr) (w : World) : (method 409 252 (.pointer (some a)) "baler/sums.value").run Tryz.prog w = .ok (202, .pointer (some a)) w := by kernel_rfl
theorem meth_ca (a : Addr) (w : World) : (method 409 252 (.pointer (some a)) "baler/sums.add").run Tryz.prog w = .ok (201, .pointer (some a)) w := by kernel_rfl
theorem eql_c (x:Value) (w:World):(binOp .eql 255 (.iface 252 x) .nilIface).run Tryz.prog w=.ok (.bool false) w:=by kernel_rfl
theorem eql_n (w:World):(binOp .eql 255 .nilIface .nilIface).run Tryz.prog w=.ok (.bool true) w:=by kernel_rfl
theorem neq_c (x:Value) (w:World):(binOp .neq 255 (.iface 252 x) .nilIface).run Tryz.prog w=.ok (.bool true) w:=by kernel_rfl
theorem neq_n (w:World):(binOp .neq 255 .nilIface .nilIface).run Tryz.prog w=.ok (.bool false) w:=by kernel_rfl
theorem P32_lt:P32<Num.M64:=by decide
theorem P32_lt32:P32<Num.M32:=by decide
theorem P64_lt:P64<Num.M64:=by decide
theorem c32_lt (bs:List UInt8):Crc.add P32 (Num.M32-1) bs<Num.M64:=Nat.lt_of_lt_of_le (Crc.add_lt32 P32_lt32 bs _ (by decide)) (by decide)
theorem c64_lt (bs:List UInt8):Crc.add P64 (Num.M64-1) bs<Num.M64:=Crc.add_lt P64_lt bs _ (by decide)
open Go.RowKit
theorem value_crc (s:Nat) (own:Nat→Prop) (kind:Int) (all:List UInt8) (w:World) (h:SumAt w s own kind all) (hk3:kind≠3) (hlen:all.length≤140737488355328) :
 Calls Tryz.prog 169 #[.pointer (some ⟨s,0,none⟩)] w fun e w'=>e=.returned (.int .u64 (sumOf kind all))∧∃ d,w'=w.drewN d:=by
 have q1:=eql_c
 have q3:=eql_n
 clear hlen
 cases h with
 | crc32 c hk hs hc ho hne =>
  have h0:w.cell? ⟨s,0,none⟩=some (.iface 252 (.pointer (some ⟨c,0,none⟩))):=by rw [hs.cell];rfl
  have hm:=meth_cv
  have HC:=hid hc
  have HK:=hid hk
  clear hk hk3 hs hc ho hne
  go_enter Tryz.func169,Tryz.ntmps169
  go_wp2_with (go_at_call 202;refine (crcValue_any _ _ _ _ _ HC.out (c32_lt all) (by decide)).mono ?_;rintro e w' ⟨rfl,d,rfl⟩)
  go_ret
  exact ⟨ret_int (by rw [HK.out,sumOf_1]),_,rfl⟩
 | crc64 c hk hs hc ho hne =>
  have h0:w.cell? ⟨s,0,none⟩=some (.iface 252 (.pointer (some ⟨c,0,none⟩))):=by rw [hs.cell];rfl
  have hm:=meth_cv
  have HC:=hid hc
  have HK:=hid hk
  clear hk hk3 hs hc ho hne
  go_enter Tryz.func169,Tryz.ntmps169
  go_wp2_with (go_at_call 202;refine (crcValue_any _ _ _ _ _ HC.out (c64_lt all) (by decide)).mono ?_;rintro e w' ⟨rfl,d,rfl⟩)
  go_ret
  exact ⟨ret_int (by rw [HK.out,sumOf_2]),_,rfl⟩
 | xxh64 c v hk hs hc ho hne =>
  exact absurd hk hk3
 | none hk hs ho =>
  have h0:w.cell? ⟨s,0,none⟩=some .nilIface:=by rw [hs.cell];rfl
  have HK:=hid hk
  clear hk hk3 hs ho
  go_enter Tryz.func169,Tryz.ntmps169
  go_wp2
  go_ret
  exact ⟨ret_int (by obtain ⟨a,b,c⟩:=HK.out;unfold sumOf;rw [if_neg a,if_neg b,if_neg c]),0,rfl⟩
theorem add_crc (s:Nat) (own:Nat→Prop) (kind:Int) (all:List UInt8) (A:Option Addr) (bs:List UInt8) (n c B:Nat) (w:World) (h:SumAt w s own kind all) (hk3:kind≠3) (hn:n=bs.length) (hr:BRow w B A bs) (hoff:BOff own A bs) (hlen:all.length+bs.length≤140737488355328) :
 Calls Tryz.prog 168 #[.pointer (some ⟨s,0,none⟩),.slice A n c] w fun e w'=>e=.returned (.tuple #[])∧∃ own',SumAt w' s own' kind (all++bs)∧(∀ k,own' k→own k∨w.heap.size≤k)∧Frm own w w':=by
 subst hn
 have q1:=neq_c
 have q3:=neq_n
 have HB:=hid hoff
 have HR:=hid hr
 clear hoff hr
 cases h with
 | crc32 b hk hs hc ho hne =>
  have h0:w.cell? ⟨s,0,none⟩=some (.iface 252 (.pointer (some ⟨b,0,none⟩))):=by rw [hs.cell];rfl
  have hm:=meth_ca
  have HC:=hid hc
  have HK:=hid hk
  have HO:=hid ho
  have HS:=hid hs
  have HN:=hid hne
  clear hk hk3 hs hc ho hne
  go_enter Tryz.func168,Tryz.ntmps168
  go_wp2_with (go_at_call 201;refine (crcAdd_off _ _ _ _ B _ _ bs _ HC.out P32_lt (c32_lt all) HR.out (fun h0 ad e e2=>HB.out h0 ad e ((HO.out _).2 (.inr e2))) (by omega)).mono ?_;rintro e w' ⟨rfl,h1,h2⟩)
  go_end0
  refine ⟨rfl,own,.crc32 b HK.out (Pts.frm HS.out h2 HN.out) (by rw [Crc.add_append];exact h1) HO.out HN.out,fun k hk=>.inl hk,h2.mono fun k _ hk=>(HO.out k).2 (.inr hk)⟩
 | crc64 b hk hs hc ho hne =>
  have h0:w.cell? ⟨s,0,none⟩=some (.iface 252 (.pointer (some ⟨b,0,none⟩))):=by rw [hs.cell];rfl
  have hm:=meth_ca
  have HC:=hid hc
  have HK:=hid hk
  have HO:=hid ho
  have HS:=hid hs
  have HN:=hid hne
  clear hk hk3 hs hc ho hne
  go_enter Tryz.func168,Tryz.ntmps168
  go_wp2_with (go_at_call 201;refine (crcAdd_off _ _ _ _ B _ _ bs _ HC.out P64_lt (c64_lt all) HR.out (fun h0 ad e e2=>HB.out h0 ad e ((HO.out _).2 (.inr e2))) (by omega)).mono ?_;rintro e w' ⟨rfl,h1,h2⟩)
  go_end0
  refine ⟨rfl,own,.crc64 b HK.out (Pts.frm HS.out h2 HN.out) (by rw [Crc.add_append];exact h1) HO.out HN.out,fun k hk=>.inl hk,h2.mono fun k _ hk=>(HO.out k).2 (.inr hk)⟩
 | xxh64 b v hk hs hc ho hne =>
  exact absurd hk hk3
 | none hk hs ho =>
  have h0:w.cell? ⟨s,0,none⟩=some .nilIface:=by rw [hs.cell];rfl
  have HK:=hid hk
  have HO:=hid ho
  have HS:=hid hs
  clear hk hk3 hs ho
  go_enter Tryz.func168,Tryz.ntmps168
  go_wp2
  go_end0
  exact ⟨rfl,own,.none HK.out HS.out HO.out,fun k hk=>.inl hk,Frm.refl _ _⟩
open Go.RowKit
theorem new_any (kind:Int) (w:World) :
 Calls Tryz.prog 128 #[.int .i64 kind] w fun e w'=>∃ s own,e=.returned (.pointer (some ⟨s,0,none⟩))∧SumAt w' s own kind []∧(∀ k,own k→w.heap.size≤k)∧Below w.heap.size w w':=by
 by_cases h1:kind=1
 ·subst h1
  go_enter Tryz.func128,Tryz.ntmps128
  go_wp2_with (go_at_call 149;refine (newCRC_any _ _ P32 (by rfl) P32_lt _).mono ?_;rintro e w1 ⟨rfl,h1,h2⟩)
  go_ret
  have hc:w.heap.size<w1.heap.size:=h1.lt
  refine ⟨w1.heap.size,fun k=>k=w1.heap.size∨k=w.heap.size,rfl,.crc32 w.heap.size rfl (Pts.new _ _ _) (Pts.alloc h1 _) (fun _=>Iff.rfl) (by omega),?_,h2.alloc h2.size _⟩
  rintro k (rfl | rfl)
  ·omega
  omega
 by_cases h2:kind=2
 ·subst h2
  go_enter Tryz.func128,Tryz.ntmps128
  go_wp2_with (go_at_call 149;refine (newCRC_any _ _ P64 (by rfl) P64_lt _).mono ?_;rintro e w1 ⟨rfl,h1,h2⟩)
  go_ret
  have hc:w.heap.size<w1.heap.size:=h1.lt
  refine ⟨w1.heap.size,fun k=>k=w1.heap.size∨k=w.heap.size,rfl,.crc64 w.heap.size rfl (Pts.new _ _ _) (Pts.alloc h1 _) (fun _=>Iff.rfl) (by omega),?_,h2.alloc h2.size _⟩
  rintro k (rfl | rfl)
  ·omega
  omega
 by_cases h3:kind=3
 ·subst h3
  go_enter Tryz.func128,Tryz.ntmps128
  go_wp2_with (go_at_call 150;refine (newXXH_any _).mono ?_;rintro e w1 ⟨rfl,h1,h2⟩)
  go_ret
  have hc:w.heap.size<w1.heap.size:=h1.1.lt
  refine ⟨w1.heap.size,fun k=>k=w1.heap.size∨k=w.heap.size∨(Value.slice none 0 0).ownBlock=some k,rfl,.xxh64 w.heap.size (.slice none 0 0) rfl (Pts.new _ _ _) ⟨Pts.alloc h1.1 _,OwnB.nil _ _ _⟩ (fun _=>Iff.rfl) ⟨by omega,by simp [Value.ownBlock]⟩,?_,h2.alloc h2.size _⟩
  rintro k (rfl | rfl | h)
  ·omega
  ·omega
  simp [Value.ownBlock] at h
 have e1:(kind==1)=false:=by simpa using h1
 have e2:(kind==2)=false:=by simpa using h2
 have e3:(kind==3)=false:=by simpa using h3
 have HK:=hid (show kind≠1∧kind≠2∧kind≠3 from ⟨h1,h2,h3⟩)
 clear h1 h2 h3
 go_enter Tryz.func128,Tryz.ntmps128
 go_wp2
 go_ret
 exact ⟨w.heap.size,fun k=>k=w.heap.size,rfl,.none HK.out (Pts.new _ _ _) (fun _=>Iff.rfl),fun k hk=>by omega,(Below.refl _ _).alloc (Nat.le_refl _) _⟩
theorem of_crc (kind:Int) (hk3:kind≠3) (A:Option Addr) (bs:List UInt8) (n c:Nat) (w:World) (hn:n=bs.length) (hr:BRow w w.heap.size A bs) (hlen:bs.length≤140737488355328) :
 Calls Tryz.prog 151 #[.int .i64 kind,.slice A n c] w fun e w'=>e=.returned (.int .u64 (sumOf kind bs))∧Below w.heap.size w w':=by
 subst hn
 have HR:=hid hr
 have HK3:=hid hk3
 clear hr hk3
 go_enter Tryz.func151,Tryz.ntmps151
 go_wp2_with fail
 refine (new_any _ _).mono ?_;rintro e w1 ⟨s,own,rfl,h1,h2,h3⟩
 go_wp2_with fail
 refine (add_crc s own kind [] A bs bs.length c w.heap.size _ h1 HK3.out rfl (HR.out.below h3) (BOff.of_row (HR.out.below h3) h2) (by simpa using hlen)).mono ?_;rintro e w2 ⟨rfl,own',h4,h5,h6⟩
 have h7:=h6.below (B:=w.heap.size) h3.size h2
 go_wp2_with fail
 refine (value_crc s own' kind ([]++bs) _ h4 HK3.out (by simpa using hlen)).mono ?_;rintro e w3 ⟨rfl,d,rfl⟩
 go_wp2
 go_ret
 exact ⟨rfl,below_drewN (h3.trans h7) d⟩
theorem c32_lt32 (bs:List UInt8):crc32 bs<Num.M32:=Num.xor_lt32 (Crc.add_lt32 P32_lt32 bs _ (by decide)) (by decide)
theorem c64_lt64 (bs:List UInt8):crc64 bs<Num.M64:=Num.xor_lt64 (c64_lt bs) (by decide)
theorem crc32_any (A:Option Addr) (bs:List UInt8) (n c:Nat) (w:World) (hn:n=bs.length) (hr:BRow w w.heap.size A bs) (hlen:bs.length≤140737488355328) :
 Calls Tryz.prog 130 #[.slice A n c] w fun e w'=>e=.returned (.int .u32 (crc32 bs:Int))∧Below w.heap.size w w':=by
 have h32:IntKind.u32.wrap (sumOf 1 bs)=(crc32 bs:Int):=by
  rw [show sumOf 1 bs=(crc32 bs:Int) from sumOf_1 bs,Num.wrap32,Nat.mod_eq_of_lt (c32_lt32 bs)]
 have H32:=hid h32
 subst hn
 have HR:=hid hr
 clear hr h32
 go_enter Tryz.func130,Tryz.ntmps130
 go_wp2_with fail
 refine (of_crc _ (by decide) A bs bs.length c _ rfl HR.out hlen).mono ?_;rintro e w2 ⟨rfl,h4⟩
 go_wp2
 go_ret
 exact ⟨ret_int H32.out,h4⟩
theorem rcrc32_any' (A:Option Addr) (bs:List UInt8) (n c B:Nat) (w:World) (hn:n=bs.length) (hr:BRow w B A bs) (hlen:bs.length≤140737488355328) :
 Calls Tryz.prog 87 #[.slice A n c] w fun e w'=>e=.returned (.int .u32 (crc32 bs:Int))∧w=w':=rcrc32_any A bs c n B w hn hr hlen
theorem rcrc64_any' (A:Option Addr) (bs:List UInt8) (n c B:Nat) (w:World) (hn:n=bs.length) (hr:BRow w B A bs) (hlen:bs.length≤140737488355328) :
 Calls Tryz.prog 89 #[.slice A n c] w fun e w'=>e=.returned (.int .u64 (crc64 bs:Int))∧w=w':=rcrc64_any A bs c n B w hn hr hlen
open Go.RowKit Box
theorem OwnB.of_cells (w:World) (T base:Nat) (bs:List UInt8) (hb:base≤w.heap.size) (hm:bs.length≤maxLen):OwnB (w.alloc (.cells (bs.map byteV).toArray T)) T base (.slice (some ⟨w.heap.size,0,none⟩) bs.length bs.length) bs :=
 ⟨by simp,.inr ⟨w.heap.size,bs.length,(bs.map byteV).toArray,rfl,hb,Pts.new w _ T,Nat.le_refl _,hm,by simp,by simp [List.take_of_length_le]⟩⟩
def four (x:Nat):List UInt8:=[UInt8.ofNat x,UInt8.ofNat (x / 256),UInt8.ofNat (x / 65536),UInt8.ofNat (x / 16777216)]
def sealB (bs:List UInt8):List UInt8:=four (crc32 bs)
theorem byte_of (x:Nat):IntKind.u8.wrap (x:Int)=((UInt8.ofNat x).toNat:Int):=by rw [IntKind.wrap_u8',UInt8.toNat_ofNat'];omega
theorem byte_div (x k:Nat):IntKind.u8.wrap ((x:Int) / k)=((UInt8.ofNat (x / k)).toNat:Int):=by
 rw [show ((x:Int) / k)=((x / k:Nat):Int) by simp];exact byte_of _
set_option maxRecDepth 100000 in
theorem seal_p (A:Option Addr) (bs:List UInt8) (n c:Nat) (w:World) (hn:n=bs.length) (hr:BRow w w.heap.size A bs) (hlen:bs.length≤140737488355328) :
 Calls Tryz.prog 93 #[.slice A n c] w fun e w'=>∃ v,e=.returned v∧OwnB w' 5 w.heap.size v (sealB bs)∧Below w.heap.size w w':=by
 have HR:=hid hr
 have HN:=hid hn
 have HL:=hid hlen
 have hc:=crc32_any A bs n c w hn hr hlen
 obtain ⟨x,hx⟩:∃ x,crc32 bs=x:=⟨_,rfl⟩
 rw [hx] at hc
 have hs:sealB bs=four x:=by unfold sealB;rw [hx]
 rw [hs]
 have HC:=hid hc
 clear hr hn hlen hc hs hx
 go_enter Tryz.func93,Tryz.ntmps93
 go_wp2_with fail
 refine HC.out.mono ?_;rintro r w1 ⟨rfl,hb1⟩
 have O1:∀ T,OwnB (w1.alloc (.cells ((four x).map byteV).toArray T)) T w.heap.size (.slice (some ⟨w1.heap.size,0,none⟩) 4 4) (four x):=fun T=>OwnB.of_cells w1 T _ (four x) hb1.size (by unfold maxLen four;simp)
 have B1:=hid hb1
 have OO:=hid O1
 have g0:=byte_of x
 have g1:IntKind.u8.wrap ((x:Int) / 256)=_:=byte_div x 256
 have g2:IntKind.u8.wrap ((x:Int) / 65536)=_:=byte_div x 65536
 have g3:IntKind.u8.wrap ((x:Int) / 16777216)=_:=byte_div x 16777216
 clear O1 hb1
 go_wp2
 go_ret
 exact ⟨_,rfl,OO.out _,B1.out.alloc B1.out.size _⟩
set_option maxRecDepth 100000 in
theorem rseal_p (A:Option Addr) (bs:List UInt8) (n c:Nat) (w:World) (hn:n=bs.length) (hr:BRow w w.heap.size A bs) (hlen:bs.length≤140737488355328) :
 Calls Tryz.prog 42 #[.slice A n c] w fun e w'=>∃ v,e=.returned v∧OwnB w' 5 w.heap.size v (sealB bs)∧Below w.heap.size w w':=by
 have HR:=hid hr
 have HN:=hid hn
 have HL:=hid hlen
 have hc:=rcrc32_any' A bs n c _ w hn hr hlen
 obtain ⟨x,hx⟩:∃ x,crc32 bs=x:=⟨_,rfl⟩
 rw [hx] at hc
 have hs:sealB bs=four x:=by unfold sealB;rw [hx]
 rw [hs]
 have HC:=hid hc
 clear hr hn hlen hc hs hx
 go_enter Tryz.func42,Tryz.ntmps42
 go_wp2_with fail
 refine HC.out.mono ?_;rintro r w1 ⟨rfl,rfl⟩
 have O1:∀ T,OwnB (w.alloc (.cells ((four x).map byteV).toArray T)) T w.heap.size (.slice (some ⟨w.heap.size,0,none⟩) 4 4) (four x):=fun T=>OwnB.of_cells w T _ (four x) (Nat.le_refl _) (by unfold maxLen four;simp)
 have OO:=hid O1
 have g0:=byte_of x
 have g1:IntKind.u8.wrap ((x:Int) / 256)=_:=byte_div x 256
 have g2:IntKind.u8.wrap ((x:Int) / 65536)=_:=byte_div x 65536
 have g3:IntKind.u8.wrap ((x:Int) / 16777216)=_:=byte_div x 16777216
 clear O1
 go_wp2
 go_ret
 exact ⟨_,rfl,OO.out _,(Below.refl _ _).alloc (Nat.le_refl _) _⟩
theorem equal_p (A A':Option Addr) (xs bs:List UInt8) (n c n' c' B:Nat) (w:World) (hn:n=xs.length) (hr:BRow w B A xs) (hn':n'=bs.length) (hr':BRow w B A' bs) :
 Calls Tryz.prog 52 #[.slice A n c,.slice A' n' c'] w fun e w'=>e=.returned (.bool (xs==bs))∧w=w':=by
 have k1:=run_conv_bytes (P:=Tryz.prog) w 22 9 5 Tryz.underlying22 Tryz.underlying5 Tryz.underlying9 A n c _ xs hn hr
 have k2:=run_conv_bytes (P:=Tryz.prog) w 22 9 5 Tryz.underlying22 Tryz.underlying5 Tryz.underlying9 A' n' c' _ bs hn' hr'
 clear hr hr' hn hn'
 go_enter Tryz.func52,Tryz.ntmps52
 go_wp2
 go_ret
 exact ⟨rfl,rfl⟩
open Go.RowKit Box
def sealedB (bs:List UInt8):Bool:=sealB (bs.take (bs.length-4))==bs.drop (bs.length-4)
set_option maxRecDepth 100000 in
set_option maxHeartbeats 1000000 in
theorem sealed_p (A:Option Addr) (bs:List UInt8) (n c:Nat) (w:World) (hn:n=bs.length) (h4:4≤n) (hc:n≤c) (hr:BRow w w.heap.size A bs) (hlen:bs.length≤140737488355328) :
 Calls Tryz.prog 60 #[.slice A n c] w fun e w'=>e=.returned (.bool (sealedB bs))∧Below w.heap.size w w':=by
 obtain ⟨m,hm⟩:∃ m,n-4=m:=⟨_,rfl⟩
 have e1:(n:Int)-4=(m:Int):=by omega
 have hs1:=fun w=>slice_toX A n c m (by omega) hc w
 have hs2:=fun w=>slice_fromX A n c m (by omega) hc w
 obtain ⟨A',hA'⟩:∃ A',(if c=m then A else A.map (·.add m))=A':=⟨_,rfl⟩
 simp only [hA'] at hs2
 have hrd:=hr.drop (k:=m) (cap:=c) (by omega)
 rw [hA'] at hrd
 have hrt:=hr.take m
 obtain ⟨R,hR⟩:∃ R,sealedB bs=R:=⟨_,rfl⟩
 have hR2:=hR
 unfold sealedB at hR2
 rw [← hn,hm] at hR2
 rw [hR]
 obtain ⟨T,hT⟩:∃ T,bs.take m=T:=⟨_,rfl⟩
 obtain ⟨D,hD⟩:∃ D,bs.drop m=D:=⟨_,rfl⟩
 have lT:m=T.length:=by rw [← hT,List.length_take];omega
 have lD:n-m=D.length:=by rw [← hD,List.length_drop];omega
 rw [hT,hD] at hR2
 rw [hT] at hrt
 rw [hD] at hrd
 have hl2:T.length≤140737488355328:=by omega
 have hc0:c-m=c-m:=rfl
 have HT:=hid hrt
 have HD:=hid hrd
 have HR2:=hid hR2
 have LT:=hid lT
 have LD:=hid lD
 have HL:=hid hl2
 obtain ⟨q,hq⟩:∃ q,n-m=q:=⟨_,rfl⟩
 rw [hq] at LD
 simp only [hq] at hs2
 have hS:=seal_p A T m c w.drew LT.out HT.out HL.out
 have HS:=hid hS
 clear hS
 have hwm:IntKind.i64.wrap (m:Int)=(m:Int):=Go.IntWalk.i64_in _ (by omega)
 clear hrt hrd hR2 hR hT hD hl2 lT lD hr hA' hn hlen hc hm hq
 go_enter Tryz.func60,Tryz.ntmps60
 go_wp2
 go_region_with (first
  | (go_at_call 93;refine Calls.mono HS.out ?_;rintro e w1 ⟨v,rfl,hO,hB⟩;obtain ⟨A1,k1,rfl,hc1,hm1,hr1⟩:=hO.slice;have B1:=hid hB;have R1:=hid hr1;clear hO hB hr1 hc1 hm1)
  | (go_at_call 52;(refine Calls.mono (equal_p _ _ (sealB T) D _ _ _ _ w1.heap.size _ rfl R1.out LD.out ((BRow.below (w:=w.drew) HD.out B1.out).more B1.out.size)) ?_;rintro e w' ⟨rfl,rfl⟩)))
 all_goals
  go_wp2
  go_ret
  rw [HR2.out]
  exact ⟨rfl,((Below.refl w.heap.size w).drew).trans B1.out⟩
theorem last4 {l:List UInt8} (h:l.length=4):∃ a b c d,l=[a,b,c,d]:=by
 match l,h with
 | [a,b,c,d],_=>exact ⟨a,b,c,d,rfl⟩
theorem four_ne {y0 y1 y2 y3 a b c d:UInt8} (h:¬ (a=y0∧b=y1∧c=y2∧d=y3)):([y0,y1,y2,y3]==[a,b,c,d])=false:=by
 rw [beq_eq_false_iff_ne]
 intro e
 simp only [List.cons.injEq,and_true] at e
 exact h ⟨e.1.symm,e.2.1.symm,e.2.2.1.symm,e.2.2.2.symm⟩
theorem byte_eq {a b:UInt8} (h:a=b):((a.toNat:Int)==(b.toNat:Int))=true:=by subst h;simp
theorem byte_ne {a b:UInt8} (h:¬ a=b):((a.toNat:Int)==(b.toNat:Int))=false:=by
 rw [beq_eq_false_iff_ne]
 intro e
 exact h (UInt8.toNat_inj.1 (by omega))
set_option maxRecDepth 100000 in
set_option maxHeartbeats 1000000 in
theorem rsealed_p (A:Option Addr) (bs:List UInt8) (n c B:Nat) (w:World) (hn:n=bs.length) (h4:4≤n) (hc:n≤c) (hr:BRow w B A bs) (hlen:bs.length≤140737488355328) :
 Calls Tryz.prog 64 #[.slice A n c] w fun e w'=>e=.returned (.bool (sealedB bs))∧w=w':=by
 obtain ⟨m,hm⟩:∃ m,n-4=m:=⟨_,rfl⟩
 have e1:(n:Int)-4=(m:Int):=by omega
 have hs1:=fun w=>slice_toX A n c m (by omega) hc w
 have hrt:=hr.take m
 obtain ⟨T,hT⟩:∃ T,bs.take m=T:=⟨_,rfl⟩
 have lT:m=T.length:=by rw [← hT,List.length_take];omega
 rw [hT] at hrt
 obtain ⟨a,b,c',d,hD⟩:=last4 (l:=bs.drop m) (by rw [List.length_drop];omega)
 have hq:=rcrc32_any' A T m c B w lT hrt (by omega)
 have hR2:sealedB bs=(four (crc32 T)==[a,b,c',d]):=by
  unfold sealedB sealB
  rw [← hn,hm,hT,hD]
 rw [hR2]
 obtain ⟨x,hx⟩:∃ x,crc32 T=x:=⟨_,rfl⟩
 rw [hx] at hq ⊢
 unfold four
 obtain ⟨b0,off,rfl,hb0,hcell⟩:=hr (by omega)
 have hget:∀ k,bs.getD (m+k) 0=(bs.drop m).getD k 0:=fun k=>by simp [List.getD]
 have k0:w.cell? ⟨b0,off+m,none⟩=some (.int .u8 (a.toNat:Int)):=by rw [hcell m (by omega),show m=m+0 by rfl,hget,hD];rfl
 have k1:w.cell? ⟨b0,off+(m+1),none⟩=some (.int .u8 (b.toNat:Int)):=by rw [hcell (m+1) (by omega),hget,hD];rfl
 have k2:w.cell? ⟨b0,off+(m+2),none⟩=some (.int .u8 (c'.toNat:Int)):=by rw [hcell (m+2) (by omega),hget,hD];rfl
 have k3:w.cell? ⟨b0,off+(m+3),none⟩=some (.int .u8 (d.toNat:Int)):=by rw [hcell (m+3) (by omega),hget,hD];rfl
 have g0:=byte_of x
 have g1:IntKind.u8.wrap ((x:Int) / 256)=_:=byte_div x 256
 have g2:IntKind.u8.wrap ((x:Int) / 65536)=_:=byte_div x 65536
 have g3:IntKind.u8.wrap ((x:Int) / 16777216)=_:=byte_div x 16777216
 obtain ⟨y0,h0⟩:∃ y,UInt8.ofNat x=y:=⟨_,rfl⟩
 obtain ⟨y1,h1⟩:∃ y,UInt8.ofNat (x / 256)=y:=⟨_,rfl⟩
 obtain ⟨y2,h2⟩:∃ y,UInt8.ofNat (x / 65536)=y:=⟨_,rfl⟩
 obtain ⟨y3,h3⟩:∃ y,UInt8.ofNat (x / 16777216)=y:=⟨_,rfl⟩
 simp only [h0,h1,h2,h3] at g0 g1 g2 g3 ⊢
 have HQ:=hid hq
 have hm3:m+4=n:=by omega
 have hwm:IntKind.i64.wrap (m:Int)=(m:Int):=Go.IntWalk.i64_in _ (by omega)
 have hmx:m≤140737488355328:=by omega
 clear hq hx hcell hget hrt hR2 hT hD lT hn hlen hm hr h0 h1 h2 h3 hc h4
 by_cases q0:a=y0
 ·have p0:=byte_eq q0
  by_cases q1:b=y1
  ·have p1:=byte_eq q1
   by_cases q2:c'=y2
   ·have p2:=byte_eq q2
    by_cases q3:d=y3
    ·have p3:=byte_eq q3
     have e:([y0,y1,y2,y3]==[a,b,c',d])=true:=by rw [q0,q1,q2,q3];simp
     rw [e]
     clear q0 q1 q2 q3 e
     go_enter Tryz.func64,Tryz.ntmps64
     go_wp2_with fail
     refine HQ.out.mono ?_;rintro r w1 ⟨rfl,rfl⟩
     go_wp2
     go_ret
     exact ⟨rfl,rfl⟩
    have p3:=byte_ne q3
    have e:([y0,y1,y2,y3]==[a,b,c',d])=false:=four_ne fun h=>q3 h.2.2.2
    rw [e]
    clear q0 q1 q2 q3 e
    go_enter Tryz.func64,Tryz.ntmps64
    go_wp2_with fail
    refine HQ.out.mono ?_;rintro r w1 ⟨rfl,rfl⟩
    go_wp2
    go_ret
    exact ⟨rfl,rfl⟩
   have p2:=byte_ne q2
   have e:([y0,y1,y2,y3]==[a,b,c',d])=false:=four_ne fun h=>q2 h.2.2.1
   rw [e]
   clear q0 q1 q2 e
   go_enter Tryz.func64,Tryz.ntmps64
   go_wp2_with fail
   refine HQ.out.mono ?_;rintro r w1 ⟨rfl,rfl⟩
   go_wp2
   go_ret
   exact ⟨rfl,rfl⟩
  have p1:=byte_ne q1
  have e:([y0,y1,y2,y3]==[a,b,c',d])=false:=four_ne fun h=>q1 h.2.1
  rw [e]
  clear q0 q1 e
  go_enter Tryz.func64,Tryz.ntmps64
  go_wp2_with fail
  refine HQ.out.mono ?_;rintro r w1 ⟨rfl,rfl⟩
  go_wp2
  go_ret
  exact ⟨rfl,rfl⟩
 have p0:=byte_ne q0
 have e:([y0,y1,y2,y3]==[a,b,c',d])=false:=four_ne fun h=>q0 h.1
 rw [e]
 clear q0 e
 go_enter Tryz.func64,Tryz.ntmps64
 go_wp2_with fail
 refine HQ.out.mono ?_;rintro r w1 ⟨rfl,rfl⟩
 go_wp2
 go_ret
 exact ⟨rfl,rfl⟩
open Go.RowKit Box
def flagsOk (a b:UInt8):Prop:=a=0∧(b=0∨b=1∨b=4)
instance (a b:UInt8):Decidable (flagsOk a b):=by unfold flagsOk;exact inferInstance
theorem flags_ok (A:Option Addr) (a b:UInt8) (n c B:Nat) (cv:Value) (w:World) (hn:n=2) (hr:BRow w B A [a,b]) (h:flagsOk a b) :
 Calls Tryz.prog 61 #[cv,.slice A n c] w fun e w'=>e=.returned (.int .i64 (b.toNat:Int))∧w=w':=by
 subst hn
 obtain ⟨rfl,hb⟩:=h
 obtain ⟨b0,off,rfl,hb0,hcell⟩:=hr (by simp)
 have k0:w.cell? ⟨b0,off,none⟩=some (.int .u8 0):=hcell 0 (by simp)
 have k1:w.cell? ⟨b0,off+1,none⟩=some (.int .u8 (b.toNat:Int)):=hcell 1 (by simp)
 clear hcell hr
 have hbl:=b.toNat_lt
 rcases hb with rfl | rfl | rfl
 all_goals
  try have k1:w.cell? ⟨b0,off+1,none⟩=some (.int .u8 0):=k1
  try have k1:w.cell? ⟨b0,off+1,none⟩=some (.int .u8 1):=k1
  try have k1:w.cell? ⟨b0,off+1,none⟩=some (.int .u8 4):=k1
  go_enter Tryz.func61,Tryz.ntmps61
  go_wp2_with fail
  refine (must_ok _ _ _).mono ?_;rintro r w1 ⟨rfl,rfl⟩
  go_wp2
  go_ret
  exact ⟨rfl,rfl⟩
theorem nat_ne {a:UInt8} {k:Nat} (hk:k<256) (h:¬ a=UInt8.ofNat k):((a.toNat:Int)==(k:Int))=false:=by
 rw [beq_eq_false_iff_ne]
 intro e
 apply h
 have e2:a.toNat=k:=by omega
 rw [← e2,UInt8.ofNat_toNat]
theorem flags_bad (A:Option Addr) (a b:UInt8) (n c B:Nat) (cv:Value) (w:World) (hn:n=2) (hr:BRow w B A [a,b]) (h:¬ flagsOk a b) :
 Calls Tryz.prog 61 #[cv,.slice A n c] w fun e w'=>e=.panicked [{ v:=.iface 198 (.agg #[.int .i64 12]),recovered:=false }]∧w=w':=by
 subst hn
 obtain ⟨b0,off,rfl,hb0,hcell⟩:=hr (by simp)
 have k0:w.cell? ⟨b0,off,none⟩=some (.int .u8 (a.toNat:Int)):=hcell 0 (by simp)
 have k1:w.cell? ⟨b0,off+1,none⟩=some (.int .u8 (b.toNat:Int)):=hcell 1 (by simp)
 clear hcell hr
 by_cases ha:a=0
 ·have h0:¬ b=UInt8.ofNat 0:=fun e=>h ⟨ha,.inl e⟩
  have h1:¬ b=UInt8.ofNat 1:=fun e=>h ⟨ha,.inr (.inl e)⟩
  have h2:¬ b=UInt8.ofNat 4:=fun e=>h ⟨ha,.inr (.inr e)⟩
  have p0:((b.toNat:Int)==0)=false:=nat_ne (k:=0) (by decide) h0
  have p1:((b.toNat:Int)==1)=false:=nat_ne (k:=1) (by decide) h1
  have p2:((b.toNat:Int)==4)=false:=nat_ne (k:=4) (by decide) h2
  subst ha
  have k0:w.cell? ⟨b0,off,none⟩=some (.int .u8 0):=k0
  generalize b.toNat=B1 at *
  clear h h0 h1 h2
  go_enter Tryz.func61,Tryz.ntmps61
  go_wp2_with fail
  refine (must_bad _ _ _).mono ?_;rintro r w1 ⟨rfl,rfl⟩
  go_wp2
  exact ⟨rfl,rfl,rfl⟩
 have p0:((a.toNat:Int)==0)=false:=nat_ne (k:=0) (by decide) ha
 clear h ha
 generalize a.toNat=A1 at *
 generalize b.toNat=B1 at *
 go_enter Tryz.func61,Tryz.ntmps61
 go_wp2_with fail
 refine (must_bad _ _ _).mono ?_;rintro r w1 ⟨rfl,rfl⟩
 go_wp2
 exact ⟨rfl,rfl,rfl⟩
end Go.Proofs.YtffehfpbdcokbaaGreat
