import Derived.Test.YtffehfpbdcokbaaGreatBu24
import Derived.Test.YtffehfpbdcokbaaGreatBu25
set_option linter.unusedVariables false
set_option linter.unusedSimpArgs false
namespace Go.Proofs.YtffehfpbdcokbaaGreat
open Lib (hid)
open Go.RowKit
open Go.RowKit
open Go.RowKit
theorem rbit32_1 {P x:Nat} (hx:x<Num.M32) (hP:P<Num.M32) (h:(bits .and .u32 (x:Int) 1==1)=true):bits .xor .u32 ((x:Int) / 2) (P:Int)=((Crc.bit P x:Nat):Int):=by
 rw [Num.and32_1 hx] at h
 have h1:x % 2=1:=by simp at h;omega
 rw [show (x:Int) / 2=((x / 2:Nat):Int) by omega,Num.xor32 (by omega) hP]
 simp [Crc.bit,h1]
theorem rbit32_0 {P x:Nat} (hx:x<Num.M32) (h:(bits .and .u32 (x:Int) 1==1)=false):(x:Int) / 2=((Crc.bit P x:Nat):Int):=by
 rw [Num.and32_1 hx] at h
 have h1:¬ x % 2=1:=by simp at h;omega
 simp [Crc.bit,h1]
set_option maxHeartbeats 2000000 in
theorem rcrc32_any (A:Option Addr) (bs:List UInt8) (c m B:Nat) (w:World) (hm:m=bs.length) (hr:BRow w B A bs) (hlen:bs.length≤140737488355328) :
 Calls Tryz.prog 87 #[.slice A m c] w fun e w'=>e=.returned (.int .u32 ((Crc.add 3988292384 (Num.M32-1) bs ^^^ (Num.M32-1):Nat):Int))∧w=w':=by
 subst hm
 have HR:=hid hr
 clear hr
 obtain ⟨P,hPe⟩:∃ P:Nat,P=3988292384:=⟨_,rfl⟩
 have hPI:(P:Int)=3988292384:=by rw [hPe];rfl
 have hPL:P<Num.M32:=by rw [hPe];decide
 rw [← hPe]
 have HPI:=hid hPI
 have HPL:=hid hPL
 have HPE:=hid hPe
 clear hPI hPL hPe
 go_enter Tryz.func87,Tryz.ntmps87
 go_wp2
 go_loop [3,4] (fun x i=>∃ k:Nat,k≤bs.length∧i=.int .i64 k∧x=.int .u32 ((Crc.add P (Num.M32-1) (bs.take k):Nat):Int)) (fun _ i=>bs.length-(intOf i).toNat)
 case atStart=>exact ⟨0,by omega,rfl,by rfl⟩
 case round =>
 obtain ⟨k,hk,rfl,rfl⟩:=hrel
 have HM:=hid (Crc.add_lt32 HPL.out (bs.take k) (Num.M32-1) (by decide))
 by_cases hlt:k<bs.length
 ·obtain ⟨ab,aoff,hA,hab,hcell⟩:=HR.out (by omega)
  subst hA
  have hx:=hcell k hlt
  unfold byteV at hx
  have hstep:Crc.add P (Num.M32-1) (bs.take (k+1))=Crc.byBits P (Crc.add P (Num.M32-1) (bs.take k)) (bs.getD k 0):=by
   rw [← Crc.byByte_eq]
   unfold Crc.add
   rw [List.take_succ_eq_append_getElem hlt,List.foldl_append]
   simp [List.getD,hlt]
  have HS:=hid hstep
  clear hstep hcell
  generalize Crc.add P (Num.M32-1) (bs.take k)=n at *
  generalize bs.getD k 0=u at *
  have huu:=u.toNat_lt
  have hu0:(u.toNat:Int)≤255:=by omega
  have huM:u.toNat<Num.M32:=Nat.lt_of_lt_of_le huu (by decide)
  have hxx:=Num.xor32 HM.out huM
  have HX:=hid (Num.xor_lt32 HM.out huM)
  have HS2:=hid (show Crc.byBits P n u=Crc.bitsN P 8 (n ^^^ u.toNat) from rfl)
  rw [HS2.out] at HS
  generalize n ^^^ u.toNat=v at *
  clear huu huM HS2
  go_wp2
  go_loop [3,5] (fun x j=>∃ i:Nat,i≤8∧j=.int .i64 i∧x=.int .u32 ((Crc.bitsN P i v:Nat):Int)) (fun _ j=>8-(intOf j).toNat)
  case atStart=>exact ⟨0,by omega,rfl,rfl⟩
  case round =>
  obtain ⟨i,hi,rfl,rfl⟩:=hrel
  have HSS:=hid (show Crc.bitsN P (i+1) v=Crc.bit P (Crc.bitsN P i v) from rfl)
  have HXX:=hid (Crc.bitsN_lt32 HPL.out HX.out i)
  by_cases hi8:i<8
  ·generalize Crc.bitsN P i v=x at *
   go_wp2
   ·have h:(bits .and .u32 (x:Int) 1==1)=true:=by assumption
    exact ⟨⟨i+1,by omega,by go_num,by rw [HSS.out,← rbit32_1 HXX.out HPL.out h,HPI.out]⟩,by simp [intOf];omega⟩
   have h:(bits .and .u32 (x:Int) 1==1)=false:=by assumption
   exact ⟨⟨i+1,by omega,by go_num,by rw [HSS.out,rbit32_0 HXX.out h]⟩,by simp [intOf];omega⟩
  have hi88:i=8:=by omega
  subst hi88
  go_wp2
  exact ⟨⟨k+1,by omega,by go_num,by rw [HS.out]⟩,by simp [intOf];omega⟩
 have hkk:k=bs.length:=by omega
 subst hkk
 rw [List.take_length] at *
 have HMX:=hid (Num.xor32 (a:=Num.M32-1) (b:=Crc.add P (Num.M32-1) bs) (by decide) HM.out)
 go_wp2
 go_ret
 exact ⟨ret_int (by rw [show IntKind.u32.max=((Num.M32-1:Nat):Int) by rfl,HMX.out,Nat.xor_comm]),rfl⟩
theorem rbit64_1 {P x:Nat} (hx:x<Num.M64) (hP:P<Num.M64) (h:(bits .and .u64 (x:Int) 1==1)=true):bits .xor .u64 ((x:Int) / 2) (P:Int)=((Crc.bit P x:Nat):Int):=by
 rw [Num.and64_1 hx] at h
 have h1:x % 2=1:=by simp at h;omega
 rw [show (x:Int) / 2=((x / 2:Nat):Int) by omega,Num.xor64 (by omega) hP]
 simp [Crc.bit,h1]
theorem rbit64_0 {P x:Nat} (hx:x<Num.M64) (h:(bits .and .u64 (x:Int) 1==1)=false):(x:Int) / 2=((Crc.bit P x:Nat):Int):=by
 rw [Num.and64_1 hx] at h
 have h1:¬ x % 2=1:=by simp at h;omega
 simp [Crc.bit,h1]
set_option maxHeartbeats 2000000 in
theorem rcrc64_any (A:Option Addr) (bs:List UInt8) (c m B:Nat) (w:World) (hm:m=bs.length) (hr:BRow w B A bs) (hlen:bs.length≤140737488355328) :
 Calls Tryz.prog 89 #[.slice A m c] w fun e w'=>e=.returned (.int .u64 ((Crc.add 14514072000185962306 (Num.M64-1) bs ^^^ (Num.M64-1):Nat):Int))∧w=w':=by
 subst hm
 have HR:=hid hr
 clear hr
 obtain ⟨P,hPe⟩:∃ P:Nat,P=14514072000185962306:=⟨_,rfl⟩
 have hPI:(P:Int)=14514072000185962306:=by rw [hPe];rfl
 have hPL:P<Num.M64:=by rw [hPe];decide
 rw [← hPe]
 have HPI:=hid hPI
 have HPL:=hid hPL
 have HPE:=hid hPe
 clear hPI hPL hPe
 go_enter Tryz.func89,Tryz.ntmps89
 go_wp2
 go_loop [3,4] (fun x i=>∃ k:Nat,k≤bs.length∧i=.int .i64 k∧x=.int .u64 ((Crc.add P (Num.M64-1) (bs.take k):Nat):Int)) (fun _ i=>bs.length-(intOf i).toNat)
 case atStart=>exact ⟨0,by omega,rfl,by rfl⟩
 case round =>
 obtain ⟨k,hk,rfl,rfl⟩:=hrel
 have HM:=hid (Crc.add_lt HPL.out (bs.take k) (Num.M64-1) (by decide))
 by_cases hlt:k<bs.length
 ·obtain ⟨ab,aoff,hA,hab,hcell⟩:=HR.out (by omega)
  subst hA
  have hx:=hcell k hlt
  unfold byteV at hx
  have hstep:Crc.add P (Num.M64-1) (bs.take (k+1))=Crc.byBits P (Crc.add P (Num.M64-1) (bs.take k)) (bs.getD k 0):=by
   rw [← Crc.byByte_eq]
   unfold Crc.add
   rw [List.take_succ_eq_append_getElem hlt,List.foldl_append]
   simp [List.getD,hlt]
  have HS:=hid hstep
  clear hstep hcell
  generalize Crc.add P (Num.M64-1) (bs.take k)=n at *
  generalize bs.getD k 0=u at *
  have huu:=u.toNat_lt
  have hu0:(u.toNat:Int)≤255:=by omega
  have huM:u.toNat<Num.M64:=Nat.lt_of_lt_of_le huu (by decide)
  have hxx:=Num.xor64 HM.out huM
  have HX:=hid (Num.xor_lt64 HM.out huM)
  have HS2:=hid (show Crc.byBits P n u=Crc.bitsN P 8 (n ^^^ u.toNat) from rfl)
  rw [HS2.out] at HS
  generalize n ^^^ u.toNat=v at *
  clear huu huM HS2
  go_wp2
  go_loop [3,5] (fun x j=>∃ i:Nat,i≤8∧j=.int .i64 i∧x=.int .u64 ((Crc.bitsN P i v:Nat):Int)) (fun _ j=>8-(intOf j).toNat)
  case atStart=>exact ⟨0,by omega,rfl,rfl⟩
  case round =>
  obtain ⟨i,hi,rfl,rfl⟩:=hrel
  have HSS:=hid (show Crc.bitsN P (i+1) v=Crc.bit P (Crc.bitsN P i v) from rfl)
  have HXX:=hid (Crc.bitsN_lt HPL.out HX.out i)
  by_cases hi8:i<8
  ·generalize Crc.bitsN P i v=x at *
   go_wp2
   ·have h:(bits .and .u64 (x:Int) 1==1)=true:=by assumption
    exact ⟨⟨i+1,by omega,by go_num,by rw [HSS.out,← rbit64_1 HXX.out HPL.out h,HPI.out]⟩,by simp [intOf];omega⟩
   have h:(bits .and .u64 (x:Int) 1==1)=false:=by assumption
   exact ⟨⟨i+1,by omega,by go_num,by rw [HSS.out,rbit64_0 HXX.out h]⟩,by simp [intOf];omega⟩
  have hi88:i=8:=by omega
  subst hi88
  go_wp2
  exact ⟨⟨k+1,by omega,by go_num,by rw [HS.out]⟩,by simp [intOf];omega⟩
 have hkk:k=bs.length:=by omega
 subst hkk
 rw [List.take_length] at *
 have HMX:=hid (Num.xor64 (a:=Num.M64-1) (b:=Crc.add P (Num.M64-1) bs) (by decide) HM.out)
 go_wp2
 go_ret
 exact ⟨ret_int (by rw [show IntKind.u64.max=((Num.M64-1:Nat):Int) by rfl,HMX.out,Nat.xor_comm]),rfl⟩
end Go.Proofs.YtffehfpbdcokbaaGreat
