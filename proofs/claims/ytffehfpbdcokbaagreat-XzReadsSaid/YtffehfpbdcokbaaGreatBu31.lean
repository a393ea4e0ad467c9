import Derived.Deep.RegionHeld3
import Derived.Test.YtffehfpbdcokbaaGreatOpen
import Derived.SizedLaws
import Derived.Test.YtffehfpbdcokbaaGreatBu30
set_option linter.unusedVariables false
set_option linter.unusedSimpArgs false
namespace Go.Proofs.YtffehfpbdcokbaaGreat
open Lib (hid)
open Go.RowKit Box
theorem num_cases (r:List UInt8):(number r=(0,0,(number r).2.2)∧¬ (number r).2.2=0)∨(∃ y m,number r=(y,m,0)∧y<9223372036854775808∧m≤r.length):=by
 by_cases h:(number r).2.2=0
 ·right
  have h1:=number_good h
  obtain ⟨a,_,c,_⟩:=number_back h1
  exact ⟨_,_,h1,a,c⟩
 exact .inl ⟨number_bad h,h⟩
structure CuW (w0 w:World) (cb B L:Nat) (r:List UInt8):Prop where
 c:∃ u,CurAt w cb B r u∧u+r.length=L
 f:Frm (· = cb) w0 w
section
variable {w0 w : World} {cb B L : Nat} {r : List UInt8}
theorem CuW.ins_ok {y m:Nat} (h:CuW w0 w cb B L r) (hL:L≤1000000) (hn:number r=(y,m,0)) :
 Calls Tryz.prog 97 #[.pointer (some ⟨cb,0,none⟩)] w fun e w'=>e=.returned (.int .u64 (y:Int))∧CuW w0 w' cb B L (r.drop m):=by
 obtain ⟨u,hc,hl⟩:=h.c
 obtain ⟨_,_,hm,_⟩:=number_back hn
 refine (cins_ok cb B u y m r w hc (by omega) hn (by omega)).mono ?_
 rintro e w' ⟨rfl,h1,h2⟩
 exact ⟨rfl,⟨⟨_,h1,by rw [List.length_drop];omega⟩,h.f.trans h2⟩⟩
theorem CuW.ins_bad (h:CuW w0 w cb B L r) (hL:L≤1000000) (hn:number r=(0,0,(number r).2.2)) (he:¬ (number r).2.2=0) :
 Calls Tryz.prog 97 #[.pointer (some ⟨cb,0,none⟩)] w fun e w'=>e=.panicked [{ v:=.iface 198 (.agg #[.int .i64 11]),recovered:=false }]∧w=w':=by
 obtain ⟨u,hc,hl⟩:=h.c
 exact cins_bad cb B u _ r w hc (by omega) hn he
theorem CuW.one_ok {x:UInt8} (h:CuW w0 w cb B L (x::r)) (hL:L≤1000000) (e:Int) :
 Calls Tryz.prog 58 #[.pointer (some ⟨cb,0,none⟩),.int .i64 1,.int .i64 e] w fun o w'=>∃ b off c,o=.returned (.slice (some ⟨b,off,none⟩) 1 c)∧1≤c∧w'.cell? ⟨b,off,none⟩=some (.int .u8 (x.toNat:Int))∧CuW w0 w' cb B L r:=by
 obtain ⟨u,hc,hl⟩:=h.c
 rw [List.length_cons] at hl
 refine (take_ok cb B 1 u e (x::r) w hc (by simp) (by omega)).mono ?_
 rintro o w' ⟨A,c,rfl,hr,h1,_,hcu,hf⟩
 obtain ⟨b,off,rfl,_,hcell⟩:=hr (by simp)
 exact ⟨b,off,c,rfl,h1,hcell 0 (by simp),⟨⟨_,hcu,by show _+r.length=L;omega⟩,h.f.trans hf⟩⟩
theorem CuW.one_bad (h:CuW w0 w cb B L []) (e:Int) :
 Calls Tryz.prog 58 #[.pointer (some ⟨cb,0,none⟩),.int .i64 1,.int .i64 e] w fun o w'=>o=.panicked [{ v:=.iface 198 (.agg #[.int .i64 e]),recovered:=false }]∧w=w':=by
 obtain ⟨u,hc,hl⟩:=h.c
 exact take_bad cb B 1 u e [] w hc (by simp)
end
set_option maxRecDepth 100000 in
set_option maxHeartbeats 4000000 in
theorem cblock_p (cb B u:Nat) (bs:List UInt8) (w:World) (h:CurAt w cb B bs u) (hlen:u+bs.length≤1000000) :
 Calls Tryz.prog 63 #[.pointer (some ⟨cb,0,none⟩)] w (BkPost cb (bkBody bs) w):=by
 obtain ⟨L,hL⟩:∃ L,u+bs.length=L:=⟨_,rfl⟩
 have C0:=hid (show CuW w w cb B L bs from ⟨⟨u,h,hL⟩,Frm.refl _ _⟩)
 have HL:=hid (show L≤1000000 by omega)
 clear h hlen hL
 obtain ⟨R,hR⟩:∃ R,bkBody bs=R:=⟨_,rfl⟩
 rw [hR]
 have HR:=hid hR
 clear hR
 cases bs with
 | nil =>
  have hR:.error 11=R:=HR.out
  subst hR
  clear HR
  go_enter Tryz.func63,Tryz.ntmps63
  go_wp2_with fail
  refine (C0.out.one_bad _).mono ?_;rintro r w2 ⟨rfl,rfl⟩
  go_wp2
  exact ⟨rfl,⟨by decide,rfl⟩,C0.out.f⟩
 | cons f r =>
  have hF:=f.toNat_lt
  have hR:=HR.out
  unfold bkBody at hR
  simp only at hR
  obtain ⟨F,hFF⟩:∃ F,f.toNat=F:=⟨_,rfl⟩
  rw [hFF] at hR hF
  have HFF:=hid hFF
  clear HR hFF
  obtain ⟨f63,f64,f128,_,_⟩:=and_facts hF
  have HO:=hid (fun e=>C0.out.one_ok HL.out e)
  rw [HFF.out] at HO
  by_cases h63:F % 64=0
  ·rw [if_neg (fun h=>h h63)] at hR
   have f63:(bits .and .u8 (F:Int) 63==0)=true:=f63.trans (decide_eq_true h63)
   have g63:((F:Int) % 64==0)=true:=by have:(F:Int) % 64=0:=by omega
                                       rw [this];rfl
   have HR:=hid hR
   clear hR h63
   go_enter Tryz.func63,Tryz.ntmps63
   go_wp2_with fail
   refine (HO.out _).mono ?_;rintro o w1 ⟨b0,off,c0,rfl,hc0,k0,hcu⟩
   have C1:=hid hcu
   clear hcu HO C0
   go_wp2_with fail
   refine (must_ok _ _ _).mono ?_;rintro o w2 ⟨rfl,rfl⟩
   go_upto_if 20 with fail
   go_cut [3] from 7 (fun s3 wx=>∃ (p:Nat) (r2:List UInt8),s3=.int .u64 p∧CuW w wx cb B L r2∧bkWhole F r2 p=R)
   case first =>
    by_cases h64:F / 64 % 2=1
    ·have f64:=f64.trans (decide_eq_true h64)
     have hR:=HR.out
     unfold bkPacked at hR
     rw [if_pos h64] at hR
     rcases num_cases r with ⟨hn,he⟩ | ⟨y,m,hn,hy,hm⟩
     ·rw [if_pos he] at hR
      subst hR
      have HI:=hid (C1.out.ins_bad HL.out hn he)
      clear HR hn he
      go_wp2_with fail
      refine HI.out.mono ?_;rintro o w2 ⟨rfl,rfl⟩
      go_wp2
      exact ⟨rfl,⟨by decide,rfl⟩,C1.out.f⟩
     have HI:=hid (C1.out.ins_ok HL.out hn)
     rw [hn] at hR
     simp only at hR
     rw [if_neg (by simp)] at hR
     by_cases hy0:y=0
     ·rw [if_pos hy0] at hR
      subst hR
      subst hy0
      clear HR hn
      go_wp2_with fail
      refine HI.out.mono ?_;rintro o w2 ⟨rfl,hcu⟩
      have C2:=hid hcu
      clear hcu
      go_wp2_with fail
      refine (must_bad _ _ _).mono ?_;rintro o w3 ⟨rfl,rfl⟩
      go_wp2
      exact ⟨rfl,⟨by decide,rfl⟩,C2.out.f⟩
     rw [if_neg hy0] at hR
     have hyp:decide ((0:Int)<(y:Int))=true:=decide_eq_true (by omega)
     have hyp2:decide (0<y)=true:=decide_eq_true (by omega)
     have hyp3:0<y:=by omega
     have HR2:=hid hR
     clear HR hn hR hy0
     go_wp2_with fail
     refine HI.out.mono ?_;rintro o w2 ⟨rfl,hcu⟩
     have C2:=hid hcu
     clear hcu
     go_wp2_with fail
     refine (must_ok _ _ _).mono ?_;rintro o w3 ⟨rfl,rfl⟩
     go_wp2
     go_meet
     case rel=>exact ⟨y,_,rfl,C2.out,HR2.out⟩
    have f64:=f64.trans (decide_eq_false h64)
    have hR:=HR.out
    unfold bkPacked at hR
    rw [if_neg h64] at hR
    have HR2:=hid hR
    clear HR hR
    go_wp2
    go_meet
    case rel=>exact ⟨M64',_,rfl,C1.out,HR2.out⟩
   case rest =>
   obtain ⟨p,r2,rfl,hcu2,hR2⟩:=hcut
   have C3:=hid hcu2
   have HR3:=hid hR2
   clear hcu2 hR2 HR C1
   go_upto_if 29 with fail
   go_cut [4] from 7 (fun s4 wx=>∃ (q:Nat) (r2:List UInt8),s4=.int .u64 q∧CuW w wx cb B L r2∧bkKind r2 p q=R)
   case first =>
    by_cases h128:128≤F
    ·have f128:=f128.trans (decide_eq_true h128)
     have hR:=HR3.out
     unfold bkWhole at hR
     rw [if_pos h128] at hR
     rcases num_cases r2 with ⟨hn,he⟩ | ⟨y,m,hn,hy,hm⟩
     ·rw [if_pos he] at hR
      subst hR
      have HI:=hid (C3.out.ins_bad HL.out hn he)
      clear HR3 hn he
      go_wp2_with fail
      refine HI.out.mono ?_;rintro o w2 ⟨rfl,rfl⟩
      go_wp2
      exact ⟨rfl,⟨by decide,rfl⟩,C3.out.f⟩
     have HI:=hid (C3.out.ins_ok HL.out hn)
     rw [hn] at hR
     simp only at hR
     rw [if_neg (by simp)] at hR
     have HR4:=hid hR
     clear HR3 hn hR
     go_wp2_with fail
     refine HI.out.mono ?_;rintro o w2 ⟨rfl,hcu⟩
     have C4:=hid hcu
     clear hcu
     go_wp2
     go_meet
     case rel=>exact ⟨y,_,rfl,C4.out,HR4.out⟩
    have f128:=f128.trans (decide_eq_false h128)
    have hR:=HR3.out
    unfold bkWhole at hR
    rw [if_neg h128] at hR
    have HR4:=hid hR
    clear HR3 hR
    go_wp2
    go_meet
    case rel=>exact ⟨M64',_,rfl,C3.out,HR4.out⟩
   case rest =>
   obtain ⟨q,r3,rfl,hcu3,hR3⟩:=hcut
   have C5:=hid hcu3
   clear hcu3 HR3 C3
   unfold bkKind at hR3
   rcases num_cases r3 with ⟨hn,he⟩ | ⟨y,m,hn,hy,hm⟩
   ·rw [if_pos he] at hR3
    subst hR3
    have HI:=hid (C5.out.ins_bad HL.out hn he)
    clear hn he
    go_wp2_with fail
    refine HI.out.mono ?_;rintro o w2 ⟨rfl,rfl⟩
    go_wp2
    exact ⟨rfl,⟨by decide,rfl⟩,C5.out.f⟩
   have HI:=hid (C5.out.ins_ok HL.out hn)
   rw [hn] at hR3
   simp only at hR3
   rw [if_neg (by simp)] at hR3
   clear hn
   by_cases h33:y=33
   ·subst h33
    rw [if_neg (fun h=>h rfl)] at hR3
    go_wp2_with fail
    refine HI.out.mono ?_;rintro o w2 ⟨rfl,hcu⟩
    have C6:=hid hcu
    clear hcu HI C5
    go_wp2_with fail
    refine (must_ok _ _ _).mono ?_;rintro o w3 ⟨rfl,rfl⟩
    obtain ⟨r4,hr4⟩:∃ r4,r3.drop m=r4:=⟨_,rfl⟩
    rw [hr4] at C6 hR3
    clear hr4 hm hy
    unfold bkSet at hR3
    rcases num_cases r4 with ⟨hn,he⟩ | ⟨y,m,hn,hy,hm⟩
    ·rw [if_pos he] at hR3
     subst hR3
     have HI:=hid (C6.out.ins_bad HL.out hn he)
     clear hn he
     go_wp2_with fail
     refine HI.out.mono ?_;rintro o w2 ⟨rfl,rfl⟩
     go_wp2
     exact ⟨rfl,⟨by decide,rfl⟩,C6.out.f⟩
    have HI:=hid (C6.out.ins_ok HL.out hn)
    rw [hn] at hR3
    simp only at hR3
    rw [if_neg (by simp)] at hR3
    clear hn
    by_cases h1:y=1
    ·subst h1
     rw [if_neg (fun h=>h rfl)] at hR3
     go_wp2_with fail
     refine HI.out.mono ?_;rintro o w3 ⟨rfl,hcu⟩
     have C7:=hid hcu
     clear hcu HI C6
     go_wp2_with fail
     refine (must_ok _ _ _).mono ?_;rintro o w4 ⟨rfl,rfl⟩
     obtain ⟨r5,hr5⟩:∃ r5,r4.drop m=r5:=⟨_,rfl⟩
     rw [hr5] at C7 hR3
     clear hr5 hm hy
     cases r5 with
     | nil =>
      have hR:.error 11=R:=hR3
      subst hR
      clear hR3
      go_wp2_with fail
      refine (C7.out.one_bad _).mono ?_;rintro o w5 ⟨rfl,rfl⟩
      go_wp2
      exact ⟨rfl,⟨by decide,rfl⟩,C7.out.f⟩
     | cons cd t =>
      unfold bkFilter at hR3
      simp only at hR3
      have hcd:=cd.toNat_lt
      have HO:=hid (fun e=>C7.out.one_ok HL.out e)
      obtain ⟨n,hn⟩:∃ n,cd.toNat=n:=⟨_,rfl⟩
      rw [hn] at HO hR3 hcd
      clear hn
      obtain ⟨_,_,_,f192,_⟩:=and_facts hcd
      go_wp2_with fail
      refine (HO.out _).mono ?_;rintro o w5 ⟨b1,off1,c1,rfl,hc1,k1,hcu⟩
      have C8:=hid hcu
      clear hcu HO C7
      by_cases h64:n<64
      ·have f192:=f192.trans (decide_eq_true h64)
       rw [if_neg (fun h=>h h64)] at hR3
       go_wp2_with fail
       refine (must_ok _ _ _).mono ?_;rintro o w6 ⟨rfl,rfl⟩
       by_cases h40:40<n
       ·rw [if_pos h40] at hR3
        subst hR3
        have h40b:decide ((n:Int)≤40)=false:=decide_eq_false (by omega)
        go_wp2_with fail
        refine (must_bad _ _ _).mono ?_;rintro o w7 ⟨rfl,rfl⟩
        go_wp2
        exact ⟨rfl,⟨by decide,rfl⟩,C8.out.f⟩
       rw [if_neg h40] at hR3
       have h40b:decide ((n:Int)≤40)=true:=decide_eq_true (by omega)
       have HSZ:=hid (fun w=>size_p n w (by omega))
       have HR9:=hid hR3
       have h40c:n≤40:=by omega
       clear hR3
       go_wp2_with fail
       refine (must_ok _ _ _).mono ?_;rintro o w6 ⟨rfl,rfl⟩
       have hcell:∃ A9 c9,w5.cell? ⟨cb,0,none⟩=some (.slice A9 t.length c9)∧BRow w5 B A9 t:=by
        obtain ⟨u9,⟨A9,c9,hp,hr,_⟩,_⟩:=C8.out.c
        exact ⟨A9,c9,hp.cell 0,hr⟩
       obtain ⟨A9,c9,cl9,hr9⟩:=hcell
       have R9:=hid hr9
       have htl:t.length≤1000000:=by obtain ⟨u9,_,h⟩:=C8.out.c;have:=HL.out;omega
       clear hr9
       go_wp2
       go_loopw [60] (fun jv wx=>w5=wx∧∃ j:Nat,jv=.int .i64 j∧j≤t.length∧∀ x∈t.take j,x=0) (fun jv _=>t.length-(intOf jv).toNat)
       case atStart=>exact ⟨rfl,0,rfl,by omega,by simp⟩
       case round =>
       obtain ⟨hwx,j,rfl,hj,hall⟩:=hrel
       subst hwx
       by_cases hjp:j<t.length
       ·obtain ⟨b2,off2,hA2,hb2,hcell2⟩:=R9.out (by omega)
        subst hA2
        have k2:=hcell2 j hjp
        unfold byteV at k2
        have hg:t.getD j 0=t[j]:=by simp [List.getD,List.getElem?_eq_getElem hjp]
        rw [hg] at k2
        by_cases hx:t[j]=0
        ·rw [hx] at k2
         have k2:w5.cell? ⟨b2,off2+j,none⟩=some (.int .u8 0):=k2
         have hall2:∀ x∈t.take (j+1),x=0:=by
          rw [List.take_succ_eq_append_getElem hjp]
          intro x hx2
          rcases List.mem_append.1 hx2 with h | h
          ·exact hall x h
          rw [List.mem_singleton.1 h,hx]
         have HA2:=hid hall2
         clear hall hall2 hcell2 hg hx
         go_wp2_with fail
         refine (must_ok _ _ _).mono ?_;rintro o w8 ⟨rfl,rfl⟩
         go_wp2
         exact ⟨⟨trivial,j+1,by go_num,by omega,HA2.out⟩,by simp [intOf];omega⟩
        have hq0:((t[j].toNat:Int)==0)=false:=nat_ne (k:=0) (by decide) hx
        have hrun:=HR9.out
        rw [if_pos (fun h=>hx (h _ (List.getElem_mem hjp)))] at hrun
        subst hrun
        generalize t[j].toNat=xv at *
        clear hall hcell2 hg hx HR9
        go_wp2_with fail
        refine (must_bad _ _ _).mono ?_;rintro o w8 ⟨rfl,rfl⟩
        go_wp2
        exact ⟨rfl,⟨by decide,rfl⟩,C8.out.f⟩
       obtain rfl:j=t.length:=by omega
       rw [List.take_of_length_le (Nat.le_refl _)] at hall
       have hrun:=HR9.out
       rw [if_neg (fun h=>h hall)] at hrun
       subst hrun
       clear HR9 hall hj hjp
       go_wp2_with fail
       refine (HSZ.out _).mono ?_;rintro o w9 ⟨rfl,rfl⟩
       go_wp2
       refine bodyPost_ret (results_tmp3 rfl _ _ _) rfl ?_
       exact ⟨rfl,C8.out.f⟩
      have f192:=f192.trans (decide_eq_false h64)
      rw [if_pos h64] at hR3
      subst hR3
      go_wp2_with fail
      refine (must_bad _ _ _).mono ?_;rintro o w6 ⟨rfl,rfl⟩
      go_wp2
      exact ⟨rfl,⟨by decide,rfl⟩,C8.out.f⟩
    rw [if_pos h1] at hR3
    subst hR3
    have h1b:((y:Int)==1)=false:=by simp;omega
    go_wp2_with fail
    refine HI.out.mono ?_;rintro o w3 ⟨rfl,hcu⟩
    have C7:=hid hcu
    clear hcu
    go_wp2_with fail
    refine (must_bad _ _ _).mono ?_;rintro o w4 ⟨rfl,rfl⟩
    go_wp2
    exact ⟨rfl,⟨by decide,rfl⟩,C7.out.f⟩
   rw [if_pos h33] at hR3
   subst hR3
   have h33b:((y:Int)==33)=false:=by simp;omega
   have h33n:¬ y=33:=h33
   go_wp2_with fail
   refine HI.out.mono ?_;rintro o w2 ⟨rfl,hcu⟩
   have C6:=hid hcu
   clear hcu
   go_wp2_with fail
   refine (must_bad _ _ _).mono ?_;rintro o w3 ⟨rfl,rfl⟩
   go_wp2
   exact ⟨rfl,⟨by decide,rfl⟩,C6.out.f⟩
  rw [if_pos h63] at hR
  have f63:(bits .and .u8 (F:Int) 63==0)=false:=f63.trans (decide_eq_false h63)
  have g63:((F:Int) % 64==0)=false:=by simp;omega
  subst hR
  clear h63
  go_enter Tryz.func63,Tryz.ntmps63
  go_wp2_with fail
  refine (HO.out _).mono ?_;rintro o w1 ⟨b0,off,c0,rfl,hc0,k0,hcu⟩
  have C1:=hid hcu
  clear hcu
  go_wp2_with fail
  refine (must_bad _ _ _).mono ?_;rintro o w2 ⟨rfl,rfl⟩
  go_wp2
  exact ⟨rfl,⟨by decide,rfl⟩,C1.out.f⟩
open Go.RowKit Box
abbrev BlkR:=Int×Nat×Nat×Nat×Int
def blkOf (R:BkR) (n:Nat):BlkR :=
 match R with
 | .ok (s,p,q)=>(s,n,p,q,0)
 | .error x=>(0,0,0,0,x)
def blockOf (bs:List UInt8):BlkR :=
 match bs with
 | []=>(0,0,0,0,10)
 | b::r =>
  if (b::r).length<(b.toNat+1)*4 then (0,0,0,0,10)
  else if b=0 then (0,0,0,0,11)
  else if ¬ sealedB ((b::r).take ((b.toNat+1)*4))=true then (0,0,0,0,11)
  else blkOf (bkBody ((((b::r).take ((b.toNat+1)*4)).drop 1).take ((b.toNat+1)*4-5))) ((b.toNat+1)*4)
def blkV (R:BlkR):Value:=.tuple #[.int .i64 R.1,.int .i64 (R.2.1:Int),.int .u64 (R.2.2.1:Int),.int .u64 (R.2.2.2.1:Int),.int .i64 R.2.2.2.2]
def BlkPost (R:BlkR) (w:World) (e:Ending) (w':World):Prop:=e=.returned (blkV R)∧Below w.heap.size w w'
structure BkAt (w0 w:World) (s:Int) (n p q:Nat):Prop where
 ps:Pts w w0.heap.size #[.int .i64 s] 3
 pn:Pts w (w0.heap.size+1) #[.int .i64 (n:Int)] 3
 pp:Pts w (w0.heap.size+2) #[.int .u64 (p:Int)] 50
 pq:Pts w (w0.heap.size+3) #[.int .u64 (q:Int)] 50
 pe:Pts w (w0.heap.size+4) #[.int .i64 0] 25
 be:Below w0.heap.size w0 w
section
variable {w0 w w' : World} {s : Int} {n p q : Nat}
theorem BkAt.frm (h:BkAt w0 w s n p q) {S:Nat→Prop} (hf:Frm S w w') (hS:∀ k,S k→w0.heap.size+5≤k):BkAt w0 w' s n p q :=
 ⟨h.ps.frm hf (fun e=>by have:=hS _ e;omega),h.pn.frm hf (fun e=>by have:=hS _ e;omega),h.pp.frm hf (fun e=>by have:=hS _ e;omega),h.pq.frm hf (fun e=>by have:=hS _ e;omega),h.pe.frm hf (fun e=>by have:=hS _ e;omega),
  h.be.trans (hf.below h.be.size (fun k hk=>by have:=hS _ hk;omega))⟩
theorem BkAt.still (h:BkAt w0 w s n p q) (hb:Below w.heap.size w w'):BkAt w0 w' s n p q:=h.frm (S:=fun _=>False) (Frm.of_below hb) (fun k h=>h.elim)
end
theorem bkclo_any (h:Nat) (s e:Int) (n p q:Nat) (u:FrameMode) (w0 w:World) (hh:w0.heap.size=h) (ps:Pts w h #[.int .i64 s] 3) (pn:Pts w (h+1) #[.int .i64 (n:Int)] 3) (pp:Pts w (h+2) #[.int .u64 (p:Int)] 50) (pq:Pts w (h+3) #[.int .u64 (q:Int)] 50) (pe:Pts w (h+4) #[.int .i64 e] 25) (be:Below h w0 w) :
 CallsD Tryz.prog 62 #[.pointer (some ⟨h+4,0,none⟩),.pointer (some ⟨h,0,none⟩),.pointer (some ⟨h+1,0,none⟩),.pointer (some ⟨h+2,0,none⟩),.pointer (some ⟨h+3,0,none⟩)] u w fun r u' w'=>u'=u∧(r=.returned (.tuple #[]) ∧
  (e=0→w'=w)∧(e≠0→Pts w' h #[.int .i64 0] 3∧Pts w' (h+1) #[.int .i64 0] 3∧Pts w' (h+2) #[.int .u64 0] 50∧Pts w' (h+3) #[.int .u64 0] 50∧Pts w' (h+4) #[.int .i64 e] 25∧Below h w0 w')):=by
 have c3:w.cell? ⟨h+4,0,none⟩=some (.int .i64 e):=pe.cell 0
 by_cases hz:e=0
 ·subst hz
  clear ps pn pp pq pe
  go_enter_d Tryz.func62,Tryz.ntmps62
  go_wp2
  go_end0
  exact ⟨rfl,fun _=>rfl,fun h=>absurd rfl h⟩
 have hz2:(e != 0)=true:=by simp [hz]
 have c0:w.cell? ⟨h,0,none⟩=some (.int .i64 s):=ps.cell 0
 have z0:=ps.frozen 0
 have c1:w.cell? ⟨h+1,0,none⟩=some (.int .i64 (n:Int)):=pn.cell 0
 have z1:=pn.frozen 0
 have c2:w.cell? ⟨h+2,0,none⟩=some (.int .u64 (p:Int)):=pp.cell 0
 have z2:=pp.frozen 0
 have c4:w.cell? ⟨h+3,0,none⟩=some (.int .u64 (q:Int)):=pq.cell 0
 have z4:=pq.frozen 0
 have R1:=hid ((((ps.set 0 (.int .i64 0)).other (p:=⟨h+1,0,none⟩) (by show h≠h+1;omega) (.int .i64 0)).other (p:=⟨h+2,0,none⟩) (by show h≠h+2;omega) (.int .u64 0)).other (p:=⟨h+3,0,none⟩) (by show h≠h+3;omega) (.int .u64 0))
 have R2:=hid ((((pn.other (p:=⟨h,0,none⟩) (by show h+1≠h;omega) (.int .i64 0)).set 0 (.int .i64 0)).other (p:=⟨h+2,0,none⟩) (by show h+1≠h+2;omega) (.int .u64 0)).other (p:=⟨h+3,0,none⟩) (by show h+1≠h+3;omega) (.int .u64 0))
 have R3:=hid ((((pp.other (p:=⟨h,0,none⟩) (by show h+2≠h;omega) (.int .i64 0)).other (p:=⟨h+1,0,none⟩) (by show h+2≠h+1;omega) (.int .i64 0)).set 0 (.int .u64 0)).other (p:=⟨h+3,0,none⟩) (by show h+2≠h+3;omega) (.int .u64 0))
 have R4:=hid ((((pq.other (p:=⟨h,0,none⟩) (by show h+3≠h;omega) (.int .i64 0)).other (p:=⟨h+1,0,none⟩) (by show h+3≠h+1;omega) (.int .i64 0)).other (p:=⟨h+2,0,none⟩) (by show h+3≠h+2;omega) (.int .u64 0)).set 0 (.int .u64 0))
 have R5:=hid ((((pe.other (p:=⟨h,0,none⟩) (by show h+4≠h;omega) (.int .i64 0)).other (p:=⟨h+1,0,none⟩) (by show h+4≠h+1;omega) (.int .i64 0)).other (p:=⟨h+2,0,none⟩) (by show h+4≠h+2;omega) (.int .u64 0)).other (p:=⟨h+3,0,none⟩) (by show h+4≠h+3;omega) (.int .u64 0))
 have R6:=hid ((((be.setCell (p:=⟨h,0,none⟩) (Nat.le_refl _) (.int .i64 0)).setCell (p:=⟨h+1,0,none⟩) (by show h≤h+1;omega) (.int .i64 0)).setCell (p:=⟨h+2,0,none⟩) (by show h≤h+2;omega) (.int .u64 0)).setCell (p:=⟨h+3,0,none⟩) (by show h≤h+3;omega) (.int .u64 0))
 have HZ:=hid hz
 clear ps pn pp pq pe hz
 go_enter_d Tryz.func62,Tryz.ntmps62
 go_wp2
 go_end0
 exact ⟨rfl,fun h=>absurd h HZ.out,fun _=>⟨R1.out,R2.out,R3.out,R4.out,R5.out,R6.out⟩⟩
abbrev bkcloD (h:Nat):Deferred:={ target:=.fn (.func 62) #[.pointer (some ⟨h+4,0,none⟩),.pointer (some ⟨h,0,none⟩),.pointer (some ⟨h+1,0,none⟩),.pointer (some ⟨h+2,0,none⟩),.pointer (some ⟨h+3,0,none⟩)],args:=#[] }
theorem bk_door (x:Int) (hx:x≠0) (s:Int) (n p q:Nat) (w0 w:World) (S:BkAt w0 w s n p q)
 (tmps:Array Value) (t2:tmps[2]?=some (.pointer (some ⟨w0.heap.size,0,none⟩))) (t3:tmps[3]?=some (.pointer (some ⟨w0.heap.size+1,0,none⟩))) (t4:tmps[4]?=some (.pointer (some ⟨w0.heap.size+2,0,none⟩))) (t5:tmps[5]?=some (.pointer (some ⟨w0.heap.size+3,0,none⟩))) (t6:tmps[6]?=some (.pointer (some ⟨w0.heap.size+4,0,none⟩))) :
 Leaves Tryz.prog Tryz.f27 tmps (BlkPost (0,0,0,0,x) w0) [caughtD (w0.heap.size+4),bkcloD w0.heap.size] (.panicking [{ v:=.iface 198 (.agg #[.int .i64 x]),recovered:=false }]) w:=by
 refine leaves_cons (f:=57) (args:=#[.pointer (some ⟨w0.heap.size+4,0,none⟩)]) (by simp) (by simp [go_sem]) ?_
 refine (catch_panicking (w0.heap.size+4) x 0 _ _ S.pe).mono ?_
 rintro e u' w1 ⟨rfl,rfl,hp,hf⟩
 refine leaves_cons (f:=62) (args:=#[.pointer (some ⟨w0.heap.size+4,0,none⟩),.pointer (some ⟨w0.heap.size,0,none⟩),.pointer (some ⟨w0.heap.size+1,0,none⟩),.pointer (some ⟨w0.heap.size+2,0,none⟩),.pointer (some ⟨w0.heap.size+3,0,none⟩)]) (by simp [settle]) (by simp [go_sem]) ?_
 refine (bkclo_any w0.heap.size s x n p q _ w0 _ rfl (S.ps.frm hf (by omega)) (S.pn.frm hf (by omega)) (S.pp.frm hf (by omega)) (S.pq.frm hf (by omega)) hp (S.be.trans (hf.below S.be.size (fun k hk=>by omega)))).mono ?_
 rintro e u' w2 ⟨rfl,rfl,_,h2⟩
 obtain ⟨q1,q2,q3,q4,q5,q6⟩:=h2 hx
 have c0:=q1.cell 0
 have c1:=q2.cell 0
 have c2:=q3.cell 0
 have c3:=q4.cell 0
 have c4:=q5.cell 0
 simp [Leaves,settle,results,Tryz.results27,go_sem,c0,c1,c2,c3,c4,t2,t3,t4,t5,t6,BlkPost,blkV]
 exact q6
theorem bk_end (s:Int) (n p q:Nat) (w0 w:World) (S:BkAt w0 w s n p q)
 (tmps:Array Value) (t2:tmps[2]?=some (.pointer (some ⟨w0.heap.size,0,none⟩))) (t3:tmps[3]?=some (.pointer (some ⟨w0.heap.size+1,0,none⟩))) (t4:tmps[4]?=some (.pointer (some ⟨w0.heap.size+2,0,none⟩))) (t5:tmps[5]?=some (.pointer (some ⟨w0.heap.size+3,0,none⟩))) (t6:tmps[6]?=some (.pointer (some ⟨w0.heap.size+4,0,none⟩))) :
 Leaves Tryz.prog Tryz.f27 tmps (BlkPost (s,n,p,q,0) w0) [caughtD (w0.heap.size+4),bkcloD w0.heap.size] .returning w:=by
 refine leaves_cons (f:=57) (args:=#[.pointer (some ⟨w0.heap.size+4,0,none⟩)]) (by simp) (by simp [go_sem]) ?_
 refine (catch_idle _ _).mono ?_
 rintro e u' w1 ⟨rfl,rfl,rfl⟩
 refine leaves_cons (f:=62) (args:=#[.pointer (some ⟨w0.heap.size+4,0,none⟩),.pointer (some ⟨w0.heap.size,0,none⟩),.pointer (some ⟨w0.heap.size+1,0,none⟩),.pointer (some ⟨w0.heap.size+2,0,none⟩),.pointer (some ⟨w0.heap.size+3,0,none⟩)]) (by simp [settle]) (by simp [go_sem]) ?_
 refine (bkclo_any w0.heap.size s 0 n p q _ w0 _ rfl S.ps S.pn S.pp S.pq S.pe S.be).mono ?_
 rintro e u' w2 ⟨rfl,rfl,h2,_⟩
 obtain rfl:=h2 rfl
 have c0:=S.ps.cell 0
 have c1:=S.pn.cell 0
 have c2:=S.pp.cell 0
 have c3:=S.pq.cell 0
 have c4:=S.pe.cell 0
 simp [Leaves,settle,results,Tryz.results27,go_sem,c0,c1,c2,c3,c4,t2,t3,t4,t5,t6,BlkPost,blkV]
 exact S.be
end Go.Proofs.YtffehfpbdcokbaaGreat
namespace Go.Proofs.YtffehfpbdcokbaaGreat.Opn
open Go.ChangeShapes Go.WideShapes Go.Deep Go.RowKit
section
variable {H : Type} {enc : TypeId × Value → H} {P : Program} {w : World}
end
end Go.Proofs.YtffehfpbdcokbaaGreat.Opn
namespace Go.Proofs.YtffehfpbdcokbaaGreat
open Lib (hid)
open Go.RowKit Box
open Go.RowKit Box
namespace Box
def recsB (l:List (Nat×Nat)):List UInt8:=l.flatMap fun p=>put p.1++put p.2
theorem recsB_len:∀ l:List (Nat×Nat),(recsB l).length≤18*l.length
 | []=>by simp [recsB]
 | p::l=>by
  have h:=recsB_len l
  have h1:=put_len p.1
  have h2:=put_len p.2
  have e:recsB (p::l)=(put p.1++put p.2)++recsB l:=rfl
  rw [e,List.length_append,List.length_append,List.length_cons]
  omega
def headB (l:List (Nat×Nat)):List UInt8:=0::put l.length
def sealOn (p:List UInt8):List UInt8:=p++sealB p
theorem sealB_len (p:List UInt8):(sealB p).length=4:=rfl
theorem sealed_seal (p:List UInt8):sealedB (sealOn p)=true:=by
 unfold sealedB sealOn
 rw [List.length_append,sealB_len,Nat.add_sub_cancel,List.take_left,List.drop_left]
 simp
end Box
end Go.Proofs.YtffehfpbdcokbaaGreat
