import Derived.IntWalk
import Derived.Test.YtffehfpbdcokbaaGreatBu1
import Derived.Test.YtffehfpbdcokbaaGreatBu24
set_option linter.unusedVariables false
set_option linter.unusedSimpArgs false
namespace Go.Proofs.YtffehfpbdcokbaaGreat
open Lib (hid)
open Go.RowKit Box
theorem BRow.oneB (w:World) (T:TypeId) (x:UInt8):BRow (w.alloc (.cells #[.int .u8 (x.toNat:Int)] T (0,0))) (w.heap.size+1) (some ⟨w.heap.size,0,none⟩) [x]:=by
 intro _
 refine ⟨w.heap.size,0,rfl,by omega,fun k hk=>?_⟩
 obtain rfl:k=0:=by simpa using hk
 rw [(Pts.new _ _ _).cell];rfl
theorem putGo_len:∀ (f m:Nat),1≤(putGo f m).length∧(putGo f m).length≤f+1
 | 0,m=>by unfold putGo;simp
 | f+1,m=>by
  have:=putGo_len f (m / 128)
  unfold putGo
  by_cases h:m<128
  ·rw [if_pos h];simp
  rw [if_neg h];simp;omega
theorem put_len (m:Nat):1≤(put m).length∧(put m).length≤9:=putGo_len 8 m
theorem low_byte (m:Nat):IntKind.u8.wrap (m:Int)=((m % 256:Nat):Int):=by rw [IntKind.wrap_u8'];omega
theorem or_byte (m:Nat):bits .or .u8 ((m % 256:Nat):Int) 128=((UInt8.ofNat (m % 128+128)).toNat:Int):=by
 have h1:bits .or .u8 ((m % 256:Nat):Int) ((128:Nat):Int)=((m % 256 ||| 128:Nat):Int):=u8_or_nat _ _ (Nat.mod_lt _ (by decide)) (by decide)
 rw [ofNat_toNat (by omega)]
 refine h1.trans ?_
 congr 1
 rcases Nat.lt_or_ge (m % 256) 128 with h | h
 ·have:=Nat.two_pow_add_eq_or_of_lt (i:=7) (b:=m % 256) h 1
  rw [show (2:Nat) ^ 7*1=128 by rfl] at this
  rw [Nat.or_comm,← this];omega
 have h2:=Nat.two_pow_add_eq_or_of_lt (i:=7) (b:=m % 256-128) (by have:(2:Nat) ^ 7=128:=rfl;omega) 1
 rw [show (2:Nat) ^ 7*1=128 by rfl] at h2
 have e:m % 256=128 ||| (m % 256-128):=by omega
 rw [e,Nat.or_comm 128,Nat.or_assoc,Nat.or_self,Nat.or_comm,← h2];omega
theorem last_byte {m:Nat} (h:m<128):IntKind.u8.wrap (m:Int)=((UInt8.ofNat m).toNat:Int):=by rw [low_byte,ofNat_toNat (by omega)];omega
theorem putGo_small {f m:Nat} (h:m<128):putGo f m=[UInt8.ofNat m]:=by
 cases f with
 | zero=>rfl
 | succ f=>unfold putGo;rw [if_pos h]
theorem Tryz.info_byte:(Tryz.prog.info? 5).map (fun i=>(i.zero,i.size,i.bytes))=some (some (.int .u8 0),1,1):=by kernel_rfl
def PutPost (n:Nat) (w:World) (e:Ending) (w':World):Prop :=
 (n<9223372036854775808→∃ v,e=.returned (.tuple #[v,.int .i64 0])∧OwnB w' 5 w.heap.size v (put n))∧(9223372036854775808≤n→e=.returned (.tuple #[.slice none 0 0,.int .i64 2]))∧Below w.heap.size w w'
set_option maxRecDepth 100000 in
set_option maxHeartbeats 2000000 in
theorem rputNumber_p (n:Nat) (w:World) (hn:n<18446744073709551616):Calls Tryz.prog 88 #[.int .u64 (n:Int)] w (PutPost n w):=by
 by_cases hbig:9223372036854775808≤n
 ·have hge:decide ((9223372036854775808:Int)≤(n:Int))=true:=decide_eq_true (by omega)
  have hge2:((n:Int) / 9223372036854775808 != 0)=true:=by have:(n:Int) / 9223372036854775808=1:=by omega
                                                          rw [this];rfl
  have HB:=hid hbig
  clear hbig hn
  go_enter Tryz.func88,Tryz.ntmps88
  go_wp2
  refine bodyPost_ret (results_tmp2 rfl _ _ _) rfl ?_
  exact ⟨fun h=>by have:=HB.out;omega,fun _=>rfl,Below.refl _ _⟩
 have hsm:n<9223372036854775808:=by omega
 have h63:((n:Int) / 9223372036854775808)=0:=by omega
 obtain ⟨R,hR⟩:∃ R,put n=R:=⟨_,rfl⟩
 have HPUT:=hid hR
 have hge:decide ((9223372036854775808:Int)≤(n:Int))=false:=decide_eq_false (by omega)
 have HSM:=hid hsm
 clear hR hsm hbig hn
 go_enter Tryz.func88,Tryz.ntmps88
 go_wp2
 go_loopw [0,4] (fun nv bv wr=>∃ (f m:Nat) (o:List UInt8),nv=.int .u64 m∧OwnB wr 5 w.heap.size bv o∧o++putGo f m=R∧m<2 ^ (7*(f+1))∧f≤8∧o.length+f=8∧Below w.heap.size w wr) (fun nv _ _=>(intOf nv).toNat)
 case atStart=>exact ⟨8,n,[],rfl,OwnB.nil _ _ _,HPUT.out,HSM.out,by omega,rfl,Below.refl _ _⟩
 case round =>
 obtain ⟨f,m,o,rfl,hown,ho,hm,hf8,hol,hbe⟩:=hrel
 have OW:=hid hown
 have BE:=hid hbe
 have HO:=hid ho
 have HOL:=hid hol
 have hp56:2 ^ (7*(f+1))≤2 ^ 63:=Nat.pow_le_pow_right (by decide) (by omega)
 have h63':(2:Nat) ^ 63=9223372036854775808:=by decide
 have hm64:m<9223372036854775808:=by omega
 have HM:=hid hm
 clear hown hbe ho hol hm hp56 h63'
 by_cases h:m<128
 ·have hw8:=last_byte h
  rw [putGo_small h] at HO
  obtain ⟨u,hu⟩:∃ u,UInt8.ofNat m=u:=⟨_,rfl⟩
  rw [hu] at hw8 HO
  clear hu
  go_wp2_with (at_builtin;refine wpList_append_bytes _ rfl (.tmp 17) (.tmp 20) 22 rfl 5 w.heap.size Tryz.underlying22 Tryz.info_byte u4 o rfl ?own2 (some ⟨wr.heap.size,0,none⟩) 1 1 (wr.heap.size+1) [u] rfl rfl ?row2 ?len2 ?base2 ?next2)
  case own2=>exact OW.out.alloc _
  case row2=>exact BRow.oneB wr _ u
  case len2=>have:=HOL.out;simp;omega
  case base2=>have:=BE.out.size;simp;omega
  case next2 =>
  intro v3 w3 hown3 hfrm3 hnew3
  have hb3:Below w.heap.size w w3:=(BE.out.alloc BE.out.size _).trans (hfrm3.below (B:=w.heap.size) (BE.out.alloc BE.out.size _).size (fun q hq=>(OW.out.lt hq).1))
  have B3:=hid hb3
  have O3:=hid hown3
  clear hown3 hfrm3 hnew3 hb3
  go_wp2
  refine bodyPost_ret (results_tmp2 rfl _ _ _) rfl ?_
  refine ⟨fun _=>⟨v3,rfl,?_⟩,fun h=>by have:=HSM.out;omega,B3.out⟩
  have:=O3.out
  rw [HO.out] at this
  rw [HPUT.out]
  exact this
 cases f with
 | zero=>exact absurd HM.out (by show ¬ m<128;exact h)
 | succ f =>
  have hw8:=low_byte m
  have hor:=or_byte m
  have HO2:o++[UInt8.ofNat (m % 128+128)]++putGo f (m / 128)=R:=by
   rw [← HO.out,List.append_assoc];congr 1;conv=>rhs;unfold putGo
   rw [if_neg h];rfl
  have HO3:=hid HO2
  clear HO2
  obtain ⟨y,hy⟩:∃ y,m % 256=y:=⟨_,rfl⟩
  obtain ⟨u,hu⟩:∃ u,UInt8.ofNat (m % 128+128)=u:=⟨_,rfl⟩
  rw [hy] at hw8 hor
  rw [hu] at hor HO3
  have hmm:m / 128<2 ^ (7*(f+1)):=Nat.div_lt_of_lt_mul (by have h9:=HM.out;rw [pow_step (f+1)] at h9;omega)
  have HMM:=hid hmm
  clear hu hy HO hmm
  go_wp2_with (at_builtin;refine wpList_append_bytes _ rfl (.tmp 9) (.tmp 13) 22 rfl 5 w.heap.size Tryz.underlying22 Tryz.info_byte u4 o rfl ?own1 (some ⟨wr.heap.size,0,none⟩) 1 1 (wr.heap.size+1) [u] rfl rfl ?row1 ?len1 ?base1 ?next1)
  case own1=>exact OW.out.alloc _
  case row1=>exact BRow.oneB wr _ u
  case len1=>have:=HOL.out;simp;omega
  case base1=>have:=BE.out.size;simp;omega
  case next1 =>
  intro v3 w3 hown3 hfrm3 hnew3
  have hb3:Below w.heap.size w w3:=(BE.out.alloc BE.out.size _).trans (hfrm3.below (B:=w.heap.size) (BE.out.alloc BE.out.size _).size (fun q hq=>(OW.out.lt hq).1))
  have B3:=hid hb3
  have O3:=hid hown3
  clear hown3 hfrm3 hnew3 hb3
  go_wp2
  exact ⟨⟨f,m / 128,_,by go_num,O3.out,HO3.out,HMM.out,by omega,by have:=HOL.out;simp;omega,B3.out⟩,by simp [intOf];omega⟩
end Go.Proofs.YtffehfpbdcokbaaGreat
namespace Go.Proofs.YtffehfpbdcokbaaGreat.Xxh
open Go.Proofs.YtffehfpbdcokbaaGreat.Num
def xr (a b:Int):Int:=bits .xor .u64 a b
def mulU (a b:Int):Int:=IntKind.u64.wrap (a*b)
def addU (a b:Int):Int:=IntKind.u64.wrap (a+b)
def turn (x n:Int):Int:=bits .or .u64 (IntKind.u64.wrap (x*2 ^ n.toNat)) (x / 2 ^ (64-n).toNat)
def round (a x:Int):Int:=mulU (turn (addU a (mulU x 14029467366897019727)) 31) 11400714785074694791
def le:List UInt8→Nat
 | []=>0
 | b::bs=>b.toNat+256*le bs
structure L4 where
 a:Int
 b:Int
 c:Int
 d:Int
def L4.get (L:L4):Nat→Int
 | 0=>L.a
 | 1=>L.b
 | 2=>L.c
 | _=>L.d
def L4.set (L:L4):Nat→Int→L4
 | 0,v=>{ L with a:=v }
 | 1,v=>{ L with b:=v }
 | 2,v=>{ L with c:=v }
 | _,v=>{ L with d:=v }
def upd (l:List UInt8):Nat→L4→L4
 | 0,L=>L
 | k+1,L=>let M:=upd l k L;M.set k (round (M.get k) (le ((l.drop (8*k)).take 8)))
def eat:Nat→List UInt8→L4→L4
 | 0,_,L=>L
 | n+1,l,L=>eat n (l.drop 32) (upd l 4 L)
def start:L4:=⟨addU 11400714785074694791 14029467366897019727,14029467366897019727,0,IntKind.u64.wrap (-11400714785074694791)⟩
def lanes (l:List UInt8):L4:=eat (l.length / 32) l start
def rest (l:List UInt8):List UInt8:=l.drop (32*(l.length / 32))
def eights:Nat→Int→List UInt8→Int
 | 0,x,_=>x
 | n+1,x,l=>eights n (addU (mulU (turn (xr x (round 0 (le (l.take 8)))) 27) 11400714785074694791) 9650029242287828579) (l.drop 8)
def four (x:Int) (l:List UInt8):Int:=addU (mulU (turn (xr x (mulU (le (l.take 4)) 11400714785074694791)) 23) 14029467366897019727) 1609587929392839161
def one (x:Int) (c:UInt8):Int:=mulU (turn (xr x (mulU c.toNat 2870177450012600261)) 11) 11400714785074694791
def ones (x:Int) (l:List UInt8):Int:=l.foldl one x
def last1 (x:Int):Int:=mulU (xr x (x / 8589934592)) 14029467366897019727
def last2 (x:Int):Int:=mulU (xr x (x / 536870912)) 1609587929392839161
def last3 (x:Int):Int:=xr x (x / 4294967296)
def tail (x:Int) (l:List UInt8):Int :=
 let y:=eights (l.length / 8) x l
 let m:=l.drop (8*(l.length / 8))
 last3 (last2 (last1 (if 4≤m.length then ones (four y m) (m.drop 4) else ones y m)))
def join1 (L:L4):Int:=addU (addU (addU (turn L.a 1) (turn L.b 7)) (turn L.c 12)) (turn L.d 18)
def join2 (x a:Int):Int:=addU (mulU (xr x (round 0 a)) 11400714785074694791) 9650029242287828579
def head (l:List UInt8):Int:=if 32≤l.length then join2 (join2 (join2 (join2 (join1 (lanes l)) (lanes l).a) (lanes l).b) (lanes l).c) (lanes l).d else 2870177450012600261
def xxh64 (l:List UInt8):Int:=tail (addU (head l) l.length) (rest l)
end Go.Proofs.YtffehfpbdcokbaaGreat.Xxh
namespace Go.Proofs.YtffehfpbdcokbaaGreat
open Lib (hid)
open Go.RowKit
open Go.RowKit
def xxhCells (L:Xxh.L4) (v:Value) (n:Int):Array Value:=#[.int .u64 L.a,.int .u64 L.b,.int .u64 L.c,.int .u64 L.d,v,.int .u64 n]
def XxhAt (w:World) (b:Nat) (v:Value) (all:List UInt8):Prop :=
 Pts w b (xxhCells (Xxh.lanes all) v all.length) 280∧OwnB w 5 (b+1) v (Xxh.rest all)
theorem newXXH_any (w:World) :
 Calls Tryz.prog 150 #[] w fun e w'=>e=.returned (.pointer (some ⟨w.heap.size,0,none⟩))∧XxhAt w' w.heap.size (.slice none 0 0) []∧Below w.heap.size w w':=by
 go_enter Tryz.func150,Tryz.ntmps150
 go_wp2
 go_ret
 exact ⟨rfl,⟨Pts.new _ _ _,OwnB.nil _ _ _⟩,(Below.refl _ _).alloc (Nat.le_refl _) _⟩
end Go.Proofs.YtffehfpbdcokbaaGreat
