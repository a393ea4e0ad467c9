import Derived.Deep.RegionLaw
import Derived.Deep.CutRange
import Derived.Test.YtffehfpbdcokbaaGreatBu28
import Derived.Test.YtffehfpbdcokbaaGreatBu29
set_option linter.unusedVariables false
set_option linter.unusedSimpArgs false
namespace Go.Proofs.YtffehfpbdcokbaaGreat
open Lib (hid)
open Go.RowKit Box
theorem le_four {a b c d:Nat} (ha:a<256) (hb:b<256) (hc:c<256) (hd:d<256) :
 bits .or .u64 (bits .or .u64 (bits .or .u64 (a:Int) ((b:Int)*256)) ((c:Int)*65536)) ((d:Int)*16777216)=((((d*256+c)*256+b)*256+a:Nat):Int):=by
 have e1:bits .or .u64 (a:Int) ((b*256:Nat):Int)=((b*256+a:Nat):Int):=by
  rw [Num.or64 (by unfold Num.M64;omega) (by unfold Num.M64;omega),Nat.or_comm]
  have h3:=Nat.shiftLeft_add_eq_or_of_lt (a:=b) (b:=a) (i:=8) ha
  rw [Nat.shiftLeft_eq] at h3
  rw [← h3]
 have e2:bits .or .u64 ((b*256+a:Nat):Int) ((c*65536:Nat):Int)=((c*65536+(b*256+a):Nat):Int):=by
  rw [Num.or64 (by unfold Num.M64;omega) (by unfold Num.M64;omega),Nat.or_comm]
  have h3:=Nat.shiftLeft_add_eq_or_of_lt (a:=c) (b:=b*256+a) (i:=16) (by rw [show (2:Nat) ^ 16=65536 by decide];omega)
  rw [Nat.shiftLeft_eq] at h3
  rw [← h3]
 have e3:bits .or .u64 ((c*65536+(b*256+a):Nat):Int) ((d*16777216:Nat):Int)=((d*16777216+(c*65536+(b*256+a)):Nat):Int):=by
  rw [Num.or64 (by unfold Num.M64;omega) (by unfold Num.M64;omega),Nat.or_comm]
  have h3:=Nat.shiftLeft_add_eq_or_of_lt (a:=d) (b:=c*65536+(b*256+a)) (i:=24) (by rw [show (2:Nat) ^ 24=16777216 by decide];omega)
  rw [Nat.shiftLeft_eq] at h3
  rw [← h3]
 rw [show ((b:Int)*256)=((b*256:Nat):Int) by omega,e1,show ((c:Int)*65536)=((c*65536:Nat):Int) by omega,e2,show ((d:Int)*16777216)=((d*16777216:Nat):Int) by omega,e3,show d*16777216+(c*65536+(b*256+a))=((d*256+c)*256+b)*256+a by omega]
theorem byte_eqn {a b:UInt8} (h:a=b):((a.toNat:Int) != (b.toNat:Int))=false:=by subst h;simp
theorem bad_or {y0 y1 y2 y3 t0 t1 t2 t3 d0 d1:UInt8} (h:¬ (t0=y0∧t1=y1∧t2=y2∧t3=y3)∨¬ (d0=89∧d1=90)):([y0,y1,y2,y3]==[t0,t1,t2,t3])=false∨([d0,d1]==([89,90]:List UInt8))=false:=by
 rcases h with h | h
 ·exact .inl (four_ne h)
 refine .inr ?_
 rw [beq_eq_false_iff_ne]
 intro e
 simp only [List.cons.injEq,and_true] at e
 exact h e
theorem foot_bad1c {X Y D:List UInt8} {F0 F1:UInt8} {N:Nat} {R:Int×Nat×Int} (h:(if ¬ ((X==Y)=true∧(D==([89,90]:List UInt8))=true) then (0,0,11) else if ¬ flagsOk F0 F1 then (0,0,12) else ((F1.toNat:Int),N,0))=R)
 (h1:(X==Y)=false∨(D==([89,90]:List UInt8))=false):R=(0,0,11):=by
 rw [if_pos (fun h=>by rcases h1 with h1 | h1;· rw [h1] at h;cases h.1
                       rw [h1] at h;cases h.2)] at h
 exact h.symm
set_option maxRecDepth 100000 in
set_option maxHeartbeats 2000000 in
theorem rfoot_p (A:Option Addr) (bs:List UInt8) (n c B:Nat) (w:World) (hn:n=bs.length) (hc:n≤c) (hr:BRow w B A bs) (hB:B=w.heap.size) (hlen:bs.length≤maxLen) :
 Calls Tryz.prog 56 #[.slice A n c] w fun e w'=>e=.returned (footV (footOf bs))∧Below w.heap.size w w':=by
 subst hn
 subst hB
 obtain ⟨R,hR⟩:∃ R,footOf bs=R:=⟨_,rfl⟩
 have hRR:=hR
 unfold footOf at hRR
 by_cases h12:bs.length<12
 ·rw [if_pos h12] at hRR
  rw [hR,← hRR]
  clear hR hRR
  go_enter Tryz.func56,Tryz.ntmps56
  go_wp2
  refine bodyPost_ret (results_tmp3 rfl _ _ _) rfl ?_
  exact ⟨rfl,Below.refl _ _⟩
 rw [if_neg h12] at hRR
 rw [hR]
 clear hR
 have hs1:∀ w,(Instr.sliceAt 22 (.slice A bs.length c) (some (.int .i64 4)) (some (.int .i64 10)) none).run Tryz.prog w=.ok (.slice (A.map (·.add 4)) 6 (c-4)) w:=fun w=>slice_midX A bs.length c 4 10 (by decide) (by omega) hc (by omega) w
 have hrs:=hr.mid (f:=4) (t:=6) (c:=c) hc (by omega)
 obtain ⟨A4,hA4⟩:∃ A4,A.map (·.add 4)=A4:=⟨_,rfl⟩
 rw [hA4] at hs1 hrs
 obtain ⟨S,hS⟩:∃ S,(bs.drop 4).take 6=S:=⟨_,rfl⟩
 have lS:6=S.length:=by rw [← hS,List.length_take,List.length_drop];omega
 rw [hS] at hrs hRR
 have hcrc:=rcrc32_any' A4 S 6 (c-4) _ w lS hrs (by omega)
 unfold sealB at hRR
 obtain ⟨x,hx⟩:∃ x,crc32 S=x:=⟨_,rfl⟩
 rw [hx] at hcrc hRR
 have hl4:(bs.take 4)=[bs.getD 0 0,bs.getD 1 0,bs.getD 2 0,bs.getD 3 0]:=by
  have e1:=mid_two (l:=bs) (f:=0) (by omega)
  have e2:=mid_two (l:=bs) (f:=2) (by omega)
  rw [List.drop_zero] at e1
  have e3:bs.take 4=bs.take 2++(bs.drop 2).take 2:=by rw [← List.take_add]
  rw [e3,e1,e2];rfl
 have hl2:(bs.take 12).drop 10=[bs.getD 10 0,bs.getD 11 0]:=by rw [List.drop_take];exact mid_two (by omega)
 rw [hl4,hl2] at hRR
 obtain ⟨b0,off,rfl,hb0,hcell⟩:=hr (by omega)
 have hge:12≤bs.length:=by omega
 have k0:w.cell? ⟨b0,off,none⟩=some (.int .u8 ((bs.getD 0 0).toNat:Int)):=hcell 0 (by omega)
 have k1:w.cell? ⟨b0,off+1,none⟩=some (.int .u8 ((bs.getD 1 0).toNat:Int)):=hcell 1 (by omega)
 have k2:w.cell? ⟨b0,off+2,none⟩=some (.int .u8 ((bs.getD 2 0).toNat:Int)):=hcell 2 (by omega)
 have k3:w.cell? ⟨b0,off+3,none⟩=some (.int .u8 ((bs.getD 3 0).toNat:Int)):=hcell 3 (by omega)
 have k10:w.cell? ⟨b0,off+10,none⟩=some (.int .u8 ((bs.getD 10 0).toNat:Int)):=hcell 10 (by omega)
 have k11:w.cell? ⟨b0,off+11,none⟩=some (.int .u8 ((bs.getD 11 0).toNat:Int)):=hcell 11 (by omega)
 have k8:w.cell? ⟨b0,off+8,none⟩=some (.int .u8 ((bs.getD 8 0).toNat:Int)):=hcell 8 (by omega)
 have k9:w.cell? ⟨b0,off+9,none⟩=some (.int .u8 ((bs.getD 9 0).toNat:Int)):=hcell 9 (by omega)
 have k4:w.cell? ⟨b0,off+4,none⟩=some (.int .u8 ((bs.getD 4 0).toNat:Int)):=hcell 4 (by omega)
 have k5:w.cell? ⟨b0,off+5,none⟩=some (.int .u8 ((bs.getD 5 0).toNat:Int)):=hcell 5 (by omega)
 have k6:w.cell? ⟨b0,off+6,none⟩=some (.int .u8 ((bs.getD 6 0).toNat:Int)):=hcell 6 (by omega)
 have k7:w.cell? ⟨b0,off+7,none⟩=some (.int .u8 ((bs.getD 7 0).toNat:Int)):=hcell 7 (by omega)
 have hhi:hiNum bs 4=(((bs.getD 7 0).toNat*256+(bs.getD 6 0).toNat)*256+(bs.getD 5 0).toNat)*256+(bs.getD 4 0).toNat:=by simp only [hiNum];simp
 rw [hhi] at hRR
 clear hhi hcell hr hS hl4 hl2 hx
 obtain ⟨t0,ht0⟩:∃ v,bs.getD 0 0=v:=⟨_,rfl⟩
 obtain ⟨t1,ht1⟩:∃ v,bs.getD 1 0=v:=⟨_,rfl⟩
 obtain ⟨t2,ht2⟩:∃ v,bs.getD 2 0=v:=⟨_,rfl⟩
 obtain ⟨t3,ht3⟩:∃ v,bs.getD 3 0=v:=⟨_,rfl⟩
 obtain ⟨d0,hd0⟩:∃ v,bs.getD 10 0=v:=⟨_,rfl⟩
 obtain ⟨d1,hd1⟩:∃ v,bs.getD 11 0=v:=⟨_,rfl⟩
 obtain ⟨F0,hF0⟩:∃ v,bs.getD 8 0=v:=⟨_,rfl⟩
 obtain ⟨F1,hF1⟩:∃ v,bs.getD 9 0=v:=⟨_,rfl⟩
 obtain ⟨n4,hn4⟩:∃ v,bs.getD 4 0=v:=⟨_,rfl⟩
 obtain ⟨n5,hn5⟩:∃ v,bs.getD 5 0=v:=⟨_,rfl⟩
 obtain ⟨n6,hn6⟩:∃ v,bs.getD 6 0=v:=⟨_,rfl⟩
 obtain ⟨n7,hn7⟩:∃ v,bs.getD 7 0=v:=⟨_,rfl⟩
 simp only [ht0,ht1,ht2,ht3,hd0,hd1,hF0,hF1,hn4,hn5,hn6,hn7] at hRR k0 k1 k2 k3 k10 k11 k8 k9 k4 k5 k6 k7
 clear ht0 ht1 ht2 ht3 hd0 hd1 hF0 hF1 hn4 hn5 hn6 hn7
 have g0:=byte_of x
 have g1:IntKind.u8.wrap ((x:Int) / 256)=_:=byte_div x 256
 have g2:IntKind.u8.wrap ((x:Int) / 65536)=_:=byte_div x 65536
 have g3:IntKind.u8.wrap ((x:Int) / 16777216)=_:=byte_div x 16777216
 unfold four at hRR
 obtain ⟨y0,h0⟩:∃ y,UInt8.ofNat x=y:=⟨_,rfl⟩
 obtain ⟨y1,h1⟩:∃ y,UInt8.ofNat (x / 256)=y:=⟨_,rfl⟩
 obtain ⟨y2,h2⟩:∃ y,UInt8.ofNat (x / 65536)=y:=⟨_,rfl⟩
 obtain ⟨y3,h3⟩:∃ y,UInt8.ofNat (x / 16777216)=y:=⟨_,rfl⟩
 simp only [h0,h1,h2,h3] at g0 g1 g2 g3 hRR
 have HQ:=hid hcrc
 have HRR:=hid hRR
 have HGE:=hid hge
 clear hcrc hRR h0 h1 h2 h3 hrs lS h12 hc hlen hA4 hge
 have hl12:¬ (bs.length:Int)<12:=by have:=HGE.out;omega
 by_cases q0:t0=y0
 ·have p0:((t0.toNat:Int) != (y0.toNat:Int))=false:=byte_eqn q0
  by_cases q1:t1=y1
  ·have p1:((t1.toNat:Int) != (y1.toNat:Int))=false:=byte_eqn q1
   by_cases q2:t2=y2
   ·have p2:((t2.toNat:Int) != (y2.toNat:Int))=false:=byte_eqn q2
    by_cases q3:t3=y3
    ·have p3:((t3.toNat:Int) != (y3.toNat:Int))=false:=byte_eqn q3
     by_cases q4:d0=89
     ·have p4:((d0.toNat:Int) != 89)=false:=byte_eqn q4
      by_cases q5:d1=90
      ·have p5:((d1.toNat:Int) != 90)=false:=byte_eqn q5
       have hR:=HRR.out
       have hok:([y0,y1,y2,y3]==[t0,t1,t2,t3])=true∧([d0,d1]==([89,90]:List UInt8))=true:=by subst q0 q1 q2 q3 q4 q5;simp
       rw [if_neg (fun h=>h hok)] at hR
       clear HRR q0 q1 q2 q3 q4 q5 hok
       by_cases hF:F0=0
       ·subst hF
        have k8:w.cell? ⟨b0,off+8,none⟩=some (.int .u8 0):=k8
        have HK:=hid (known_p F1 w)
        by_cases hk:knownB F1=true
        ·rw [if_neg (fun h=>h ((flags_iff _ _).2 ⟨rfl,hk⟩))] at hR
         subst hR
         rw [hk] at HK
         have l4:=n4.toNat_lt
         have l5:=n5.toNat_lt
         have l6:=n6.toNat_lt
         have l7:=n7.toNat_lt
         have l9:=F1.toNat_lt
         have hle:=le_four l4 l5 l6 l7
         obtain ⟨N,hN⟩:∃ N,((n7.toNat*256+n6.toNat)*256+n5.toNat)*256+n4.toNat=N:=⟨_,rfl⟩
         have hN2:N<4294967296:=by omega
         rw [hN] at hle ⊢
         clear hk hN
         generalize n4.toNat=m4 at *
         generalize n5.toNat=m5 at *
         generalize n6.toNat=m6 at *
         generalize n7.toNat=m7 at *
         go_enter Tryz.func56,Tryz.ntmps56
         go_wp2_with fail
         refine HQ.out.mono ?_;rintro r w1 ⟨rfl,rfl⟩
         go_wp2_with fail
         refine HK.out.mono ?_;rintro r w2 ⟨rfl,rfl⟩
         go_wp2
         go_quiet (fail)
         go_wp2
         refine bodyPost_ret (results_tmp3 rfl _ _ _) rfl ?_
         exact ⟨rfl,below_drewN (Below.refl _ _) _⟩
        rw [if_pos (fun h=>hk ((flags_iff _ _).1 h).2)] at hR
        subst hR
        have hk:knownB F1=false:=by simpa using hk
        rw [hk] at HK
        clear hk
        go_enter Tryz.func56,Tryz.ntmps56
        go_wp2_with fail
        refine HQ.out.mono ?_;rintro r w1 ⟨rfl,rfl⟩
        go_wp2_with fail
        refine HK.out.mono ?_;rintro r w2 ⟨rfl,rfl⟩
        go_wp2
        refine bodyPost_ret (results_tmp3 rfl _ _ _) rfl ?_
        exact ⟨rfl,Below.refl _ _⟩
       rw [if_pos (fun h=>hF h.1)] at hR
       subst hR
       have hq:((F0.toNat:Int) != 0)=true:=byte_neq (b:=0) hF
       clear hF
       go_enter Tryz.func56,Tryz.ntmps56
       go_wp2_with fail
       refine HQ.out.mono ?_;rintro r w1 ⟨rfl,rfl⟩
       go_wp2
       refine bodyPost_ret (results_tmp3 rfl _ _ _) rfl ?_
       exact ⟨rfl,Below.refl _ _⟩
      have p5:((d1.toNat:Int) != 90)=true:=byte_neq q5
      have hR:=foot_bad1c HRR.out (bad_or (.inr (fun h=>q5 h.2)))
      clear HRR q0 q1 q2 q3 q4 q5
      subst hR
      go_enter Tryz.func56,Tryz.ntmps56
      go_wp2_with fail
      refine HQ.out.mono ?_;rintro r w1 ⟨rfl,rfl⟩
      go_wp2
      refine bodyPost_ret (results_tmp3 rfl _ _ _) rfl ?_
      exact ⟨rfl,Below.refl _ _⟩
     have p4:((d0.toNat:Int) != 89)=true:=byte_neq q4
     have hR:=foot_bad1c HRR.out (bad_or (.inr (fun h=>q4 h.1)))
     clear HRR q0 q1 q2 q3 q4
     subst hR
     go_enter Tryz.func56,Tryz.ntmps56
     go_wp2_with fail
     refine HQ.out.mono ?_;rintro r w1 ⟨rfl,rfl⟩
     go_wp2
     refine bodyPost_ret (results_tmp3 rfl _ _ _) rfl ?_
     exact ⟨rfl,Below.refl _ _⟩
    have p3:((t3.toNat:Int) != (y3.toNat:Int))=true:=byte_neq q3
    have hR:=foot_bad1c HRR.out (bad_or (.inl (fun h=>q3 h.2.2.2)))
    clear HRR q0 q1 q2 q3
    subst hR
    go_enter Tryz.func56,Tryz.ntmps56
    go_wp2_with fail
    refine HQ.out.mono ?_;rintro r w1 ⟨rfl,rfl⟩
    go_wp2
    refine bodyPost_ret (results_tmp3 rfl _ _ _) rfl ?_
    exact ⟨rfl,Below.refl _ _⟩
   have p2:((t2.toNat:Int) != (y2.toNat:Int))=true:=byte_neq q2
   have hR:=foot_bad1c HRR.out (bad_or (.inl (fun h=>q2 h.2.2.1)))
   clear HRR q0 q1 q2
   subst hR
   go_enter Tryz.func56,Tryz.ntmps56
   go_wp2_with fail
   refine HQ.out.mono ?_;rintro r w1 ⟨rfl,rfl⟩
   go_wp2
   refine bodyPost_ret (results_tmp3 rfl _ _ _) rfl ?_
   exact ⟨rfl,Below.refl _ _⟩
  have p1:((t1.toNat:Int) != (y1.toNat:Int))=true:=byte_neq q1
  have hR:=foot_bad1c HRR.out (bad_or (.inl (fun h=>q1 h.2.1)))
  clear HRR q0 q1
  subst hR
  go_enter Tryz.func56,Tryz.ntmps56
  go_wp2_with fail
  refine HQ.out.mono ?_;rintro r w1 ⟨rfl,rfl⟩
  go_wp2
  refine bodyPost_ret (results_tmp3 rfl _ _ _) rfl ?_
  exact ⟨rfl,Below.refl _ _⟩
 have p0:((t0.toNat:Int) != (y0.toNat:Int))=true:=byte_neq q0
 have hR:=foot_bad1c HRR.out (bad_or (.inl (fun h=>q0 h.1)))
 clear HRR q0
 subst hR
 go_enter Tryz.func56,Tryz.ntmps56
 go_wp2_with fail
 refine HQ.out.mono ?_;rintro r w1 ⟨rfl,rfl⟩
 go_wp2
 refine bodyPost_ret (results_tmp3 rfl _ _ _) rfl ?_
 exact ⟨rfl,Below.refl _ _⟩
open Go.RowKit Box
set_option maxRecDepth 100000 in
theorem cins_ok (cb B u y m:Nat) (bs:List UInt8) (w:World) (h:CurAt w cb B bs u) (hlen:bs.length≤140737488355328) (hnum:number bs=(y,m,0)) (hu:u+m<4611686018427387904) :
 Calls Tryz.prog 97 #[.pointer (some ⟨cb,0,none⟩)] w fun r w'=>r=.returned (.int .u64 (y:Int))∧CurAt w' cb B (bs.drop m) (u+m)∧Frm (· = cb) w w':=by
 obtain ⟨hy,h1,hm,_⟩:=number_back hnum
 have HT:=hid (take_ok cb B m u 11 bs w h hm hu)
 obtain ⟨A,c,hp,hr,hc,hcm,hB⟩:=h
 have hn:=number_p A bs bs.length c B w rfl hr (Nat.le_trans hlen (by decide))
 rw [hnum] at hn
 unfold errOf at hn
 have HN:=hid hn
 have c0:w.cell? ⟨cb,0,none⟩=some (.slice A bs.length c):=hp.cell 0
 clear hn hnum hp hr hcm hB hy h1 hm hu hlen hc
 go_enter Tryz.func97,Tryz.ntmps97
 go_wp2_with fail
 refine HN.out.mono ?_;rintro r w1 ⟨rfl,rfl⟩
 go_wp2_with fail
 refine (must_ok _ _ _).mono ?_;rintro r w1 ⟨rfl,rfl⟩
 go_wp2_with fail
 refine HT.out.mono ?_;rintro r w1 ⟨A2,c2,rfl,hr2,hc2,hm2,hcu,hf⟩
 have CU:=hid hcu
 have FF:=hid hf
 clear hr2 hc2 hm2 hcu hf
 go_wp2
 go_ret
 exact ⟨rfl,CU.out,FF.out⟩
set_option maxRecDepth 100000 in
theorem cins_bad (cb B u:Nat) (e:Int) (bs:List UInt8) (w:World) (h:CurAt w cb B bs u) (hlen:bs.length≤140737488355328) (hnum:number bs=(0,0,e)) (he:¬ e=0) :
 Calls Tryz.prog 97 #[.pointer (some ⟨cb,0,none⟩)] w fun r w'=>r=.panicked [{ v:=.iface 198 (.agg #[.int .i64 11]),recovered:=false }]∧w=w':=by
 obtain ⟨A,c,hp,hr,hc,hcm,hB⟩:=h
 have hn:=number_p A bs bs.length c B w rfl hr (Nat.le_trans hlen (by decide))
 rw [hnum] at hn
 unfold errOf at hn
 have HN:=hid hn
 have c0:w.cell? ⟨cb,0,none⟩=some (.slice A bs.length c):=hp.cell 0
 have he2:(e==0)=false:=by rw [beq_eq_false_iff_ne];exact he
 clear hn hnum hp hr hcm hB hlen he hc
 go_enter Tryz.func97,Tryz.ntmps97
 go_wp2_with fail
 refine HN.out.mono ?_;rintro r w1 ⟨rfl,rfl⟩
 go_wp2_with fail
 refine (must_bad _ _ _).mono ?_;rintro r w1 ⟨rfl,rfl⟩
 go_wp2
 exact ⟨rfl,rfl,rfl⟩
open Go.RowKit Box
namespace Box
theorem number_bad {bs:List UInt8} (h:¬ (number bs).2.2=0):number bs=(0,0,(number bs).2.2):=by
 rcases number_err bs with h1 | h1 | h1
 ·exact absurd h1 h
 ·rw [h1]
 rw [h1]
theorem number_good {bs:List UInt8} (h:(number bs).2.2=0):number bs=((number bs).1,(number bs).2.1,0):=by rw [← h]
end Box
theorem i64_and3 (n:Int):bits .and .i64 n 3=n % 4:=by
 have h3:(BitVec.ofInt 64 3).toNat=2 ^ 2-1:=by decide
 have key:(BitVec.ofInt 64 n &&& BitVec.ofInt 64 3).toNat=(n % ((2 ^ 64:Nat):Int)).toNat % 2 ^ 2:=by
  rw [BitVec.toNat_and,BitVec.toNat_ofInt,h3,Nat.and_two_pow_sub_one_eq_mod]
 show IntKind.i64.wrap ((BitVec.ofInt 64 n &&& BitVec.ofInt 64 3).toNat:Nat)=n % 4
 rw [key,IntKind.wrap_i64]
 omega
def prCells (l:List (Nat×Nat)):List Value:=l.flatMap fun p=>[.int .u64 (p.1:Int),.int .u64 (p.2:Int)]
theorem prCells_at:∀ (l:List (Nat×Nat)) (k:Nat),k<l.length→(prCells l)[k*2]?=some (.int .u64 ((l.getD k (0,0)).1:Int))∧(prCells l)[k*2+1]?=some (.int .u64 ((l.getD k (0,0)).2:Int))
 | [],k,h=>absurd h (by simp)
 | s::l,0,_=>by simp [prCells]
 | s::l,k+1,h=>by
  have ih:=prCells_at l k (by simpa using h)
  have e:prCells (s::l)=.int .u64 (s.1:Int)::.int .u64 (s.2:Int)::prCells l:=rfl
  rw [e,show (k+1)*2=k*2+1+1 by omega]
  simpa using ih
theorem prCells_append (l m:List (Nat×Nat)):prCells (l++m)=prCells l++prCells m:=by simp [prCells]
def PrRow (w:World) (B:Nat) (A:Option Addr) (l:List (Nat×Nat)):Prop :=
 0<l.length→∃ b off,A=some ⟨b,off,none⟩∧b<B∧∀ k,k<l.length→w.cell? ⟨b,off+k*2,none⟩=some (.int .u64 ((l.getD k (0,0)).1:Int))∧w.cell? ⟨b,off+k*2+1,none⟩=some (.int .u64 ((l.getD k (0,0)).2:Int))
def OwnPr (w:World) (T base:Nat) (v:Value) (l:List (Nat×Nat)):Prop:=w.ownsRow base T 2 v l.length (prCells l)
section
variable {w w' : World} {T base : Nat} {v : Value} {l : List (Nat × Nat)}
theorem OwnPr.nil (w:World) (T base:Nat):OwnPr w T base (.slice none 0 0) []:=World.ownsRow_nil w base T 2
theorem OwnPr.slice (h:OwnPr w T base v l):∃ A cap,v=.slice A l.length cap∧l.length≤cap∧cap≤maxLen∧PrRow w w.heap.size A l:=by
 obtain ⟨h1,h2⟩:=h
 rcases h2 with ⟨rfl,hn⟩ | ⟨g,cap,cur,rfl,hb,hh,hnc,hcm,hcs,ht⟩
 ·obtain rfl:l=[]:=List.eq_nil_of_length_eq_zero hn
  exact ⟨none,0,rfl,Nat.le_refl _,Nat.zero_le _,fun h=>absurd h (by simp)⟩
 have hp:Pts w g cur T:=hh
 refine ⟨_,cap,rfl,hnc,hcm,fun _=>⟨g,0,rfl,hp.lt,fun k hk=>?_⟩⟩
 obtain ⟨c0,c1⟩:=prCells_at l k hk
 have hx:∀ j,j<l.length*2→cur[j]?=(prCells l)[j]?:=by
  intro j hj
  rw [← ht,List.getElem?_take,if_pos hj,Array.getElem?_toList]
 rw [hp.cell,hp.cell,hx _ (by omega),hx _ (by omega)]
 simpa using ⟨c0,c1⟩
theorem OwnPr.lt (h:OwnPr w T base v l) {k:Nat} (hk:v.ownBlock=some k):base≤k∧k<w.heap.size:=World.ownsRow.lt h k hk
theorem OwnPr.frm {S:Nat→Prop} (h:OwnPr w T base v l) (hf:Frm S w w') (hn:∀ k,v.ownBlock=some k→¬ S k):OwnPr w' T base v l:=by
 refine ⟨h.1,?_⟩
 rcases h.2 with h2 | ⟨g,cap,cur,rfl,hb,hh,r⟩
 ·exact .inl h2
 exact .inr ⟨g,cap,cur,rfl,hb,(hf.block g (Pts.lt hh) (hn g rfl)).trans hh,r⟩
theorem OwnPr.alloc (h:OwnPr w T base v l) (o:Obj):OwnPr (w.alloc o) T base v l:=World.ownsRow.alloc h o
end
section
variable {P : Program} (w : World)
theorem run_append_pr (t ty T base:Nat) (ht:P.underlying t=some (.slice T)) (hinfo:(P.info? T).map (fun i=>(i.zero,i.size,i.bytes))=some (some (.agg #[.int .u64 0,.int .u64 0]),2,16))
 (v:Value) (l:List (Nat×Nat)) (hown:OwnPr w T base v l) (g c:Nat) (s:Nat×Nat) (hnews:Pts w g #[.int .u64 (s.1:Int),.int .u64 (s.2:Int)] T)
 (hlen:l.length+1≤1000000000) (hbase:base≤w.heap.size) :
 ∃ v' w',(Builtin.append_ #[t,t] ty #[v,.slice (some ⟨g,0,none⟩) 1 c]).run P w=.ok v' w'∧OwnPr w' T base v' (l++[s])∧Frm (fun k=>v.ownBlock=some k) w w' ∧
  (v'.ownBlock=v.ownBlock∨v'.ownBlock=some w.heap.size):=by
 obtain ⟨i,hi,hzz⟩:=Option.map_eq_some_iff.1 hinfo
 simp only [Prod.mk.injEq] at hzz
 obtain ⟨hz,hs,hby⟩:=hzz
 have hcells:∀ j u,(prCells [s])[j]?=some u→w.cell? ((⟨g,0,none⟩:Addr).add j)=some u:=by
  intro j u hu
  rw [Opn.add_at,Nat.zero_add,hnews.cell,← hu]
  show #[Value.int IntKind.u64 (s.1:Int),.int .u64 (s.2:Int)][j]?=[Value.int IntKind.u64 (s.1:Int),.int .u64 (s.2:Int)][j]?
  simp
 obtain ⟨v',w',hrun,h2,h3,_,h5⟩:=run_append_own_at (P:=P) w base t ty T i (.agg #[.int .u64 0,.int .u64 0]) 2 16 ht hi hz hs hby rfl (by omega) v l.length (prCells l) hown ⟨g,0,none⟩ 1 c (prCells [s]) (by simp [prCells]) hcells (by intro u hu;simp [prCells] at hu;rcases hu with rfl | rfl <;> rfl) (by unfold maxLen;omega) (by omega) hbase
 refine ⟨v',w',hrun,?_,⟨h3.os,h3.tape,h3.output,h3.size,fun k hk hn=>h3.block k hk (fun e=>hn e.symm)⟩,h5⟩
 unfold OwnPr
 rw [List.length_append,prCells_append]
 exact h2
theorem stepR_append_pr {ops:Array Oper} {o:Oper} {a:Act} {K:Act→World→Prop} {Q:Exit→Act→World→Prop} {E:Prop} (hgd:o.guard=none) (u x:Operand) (t:TypeId)
 (ho:o.op=.call { callee:=.builtin .append,args:=#[u,x],argTypes:=#[t,t] })
 (T base:Nat) (ht:P.underlying t=some (.slice T)) (hinfo:(P.info? T).map (fun i=>(i.zero,i.size,i.bytes))=some (some (.agg #[.int .u64 0,.int .u64 0]),2,16))
 (v:Value) (l:List (Nat×Nat)) (hs:a.eval u=v) (hown:OwnPr w T base v l) (g c:Nat) (s:Nat×Nat) (hx:a.eval x=.slice (some ⟨g,0,none⟩) 1 c) (hnews:Pts w g #[.int .u64 (s.1:Int),.int .u64 (s.2:Int)] T)
 (hlen:l.length+1≤1000000000) (hbase:base≤w.heap.size)
 (h:∀ v' w',OwnPr w' T base v' (l++[s])→Frm (fun k=>v.ownBlock=some k) w w'→(v'.ownBlock=v.ownBlock∨v'.ownBlock=some w.heap.size)→K (a.put o.dst v') w') :
 if Region.wanted o (yielded ops a.tmps)=true then Oper.wp P o a w K Q else E:=by
 have hw:Region.wanted o (yielded ops a.tmps)=true:=by simp [Region.wanted,hgd]
 rw [if_pos hw]
 obtain ⟨v',w',hrun,h2,h3,h4⟩:=run_append_pr (P:=P) w t o.type T base ht hinfo v l hown g c s hnews hlen hbase
 unfold Oper.wp execOp
 simp only [ho,resolve,invoke,builtin,Sem.run_bind,Sem.run_pure,Result.andThen_ok,List.map_toArray,List.map_cons,List.map_nil,hs,hx,hrun]
 exact h _ _ h2 h3 h4
end
theorem Tryz.info_pair:(Tryz.prog.info? 192).map (fun i=>(i.zero,i.size,i.bytes))=some (some (.agg #[.int .u64 0,.int .u64 0]),2,16):=by kernel_rfl
open Go.RowKit Box
abbrev caughtD (he:Nat):Deferred:={ target:=.fn (.func 57) #[],args:=#[.pointer (some ⟨he,0,none⟩)] }
open Go.RowKit Box
section
variable {w0 w w' : World} {lv v4 : Value} {l l4 : List (Nat × Nat)} {r r' : List UInt8} {u u' : Nat}
end
open Go.RowKit Box
open Go.RowKit Box
open Go.RowKit Box
namespace Box
def winOf (c:Nat):Int:=if c=40 then 4294967295 else (((2+c % 2)*2 ^ (c / 2+11):Nat):Int)
abbrev BkR:=Except Int (Int×Nat×Nat)
def M64':Nat:=18446744073709551615
def bkFilter (r:List UInt8) (p w:Nat):BkR :=
 match r with
 | []=>.error 11
 | c::t=>if ¬ c.toNat<64 then .error 12 else if 40<c.toNat then .error 11 else if ¬ (∀ x∈t,x=0) then .error 11 else .ok (winOf c.toNat,p,w)
def bkSet (r:List UInt8) (p w:Nat):BkR :=
 if ¬ (number r).2.2=0 then .error 11 else if ¬ (number r).1=1 then .error 11 else bkFilter (r.drop (number r).2.1) p w
def bkKind (r:List UInt8) (p w:Nat):BkR :=
 if ¬ (number r).2.2=0 then .error 11 else if ¬ (number r).1=33 then .error 12 else bkSet (r.drop (number r).2.1) p w
def bkWhole (f:Nat) (r:List UInt8) (p:Nat):BkR :=
 if 128≤f then (if ¬ (number r).2.2=0 then .error 11 else bkKind (r.drop (number r).2.1) p (number r).1) else bkKind r p M64'
def bkPacked (f:Nat) (r:List UInt8):BkR :=
 if f / 64 % 2=1 then (if ¬ (number r).2.2=0 then .error 11 else if (number r).1=0 then .error 11 else bkWhole f (r.drop (number r).2.1) (number r).1) else bkWhole f r M64'
def bkBody (r:List UInt8):BkR :=
 match r with
 | []=>.error 11
 | f::r=>if ¬ f.toNat % 64=0 then .error 12 else bkPacked f.toNat r
end Box
def BkPost (cb:Nat) (R:BkR) (w:World) (e:Ending) (w':World):Prop :=
 (match R with
  | .ok (s,p,q)=>e=.returned (.tuple #[.int .i64 s,.int .u64 (p:Int),.int .u64 (q:Int)])
  | .error x=>x≠0∧e=.panicked [{ v:=.iface 198 (.agg #[.int .i64 x]),recovered:=false }])∧Frm (· = cb) w w'
theorem and_tab:∀ F:Fin 256,(bits .and .u8 ((F.val:Nat):Int) 63==0)=decide (F.val % 64=0)∧(bits .and .u8 ((F.val:Nat):Int) 64 != 0)=decide (F.val / 64 % 2=1)∧(bits .and .u8 ((F.val:Nat):Int) 128 != 0)=decide (128≤F.val)∧(bits .and .u8 ((F.val:Nat):Int) 192==0)=decide (F.val<64) ∧
 bits .and .u8 ((F.val:Nat):Int) 1=((F.val % 2:Nat):Int):=by decide +kernel
theorem and_facts {F:Nat} (h:F<256):(bits .and .u8 (F:Int) 63==0)=decide (F % 64=0)∧(bits .and .u8 (F:Int) 64 != 0)=decide (F / 64 % 2=1)∧(bits .and .u8 (F:Int) 128 != 0)=decide (128≤F)∧(bits .and .u8 (F:Int) 192==0)=decide (F<64) ∧
 bits .and .u8 (F:Int) 1=((F % 2:Nat):Int):=and_tab ⟨F,h⟩
theorem win_in {m:Nat} (hm:m<40):(2+m % 2)*2 ^ (m / 2+11)≤3221225472:=by
 have h1:2 ^ (m / 2+11)≤2 ^ 30:=Nat.pow_le_pow_right (by decide) (by omega)
 have h2:(2:Nat) ^ 30=1073741824:=by decide
 have h3:(2+m % 2)*2 ^ (m / 2+11)≤3*2 ^ 30:=Nat.mul_le_mul (by omega) h1
 omega
theorem size_p (m:Nat) (w:World) (hm:m≤40):Calls Tryz.prog 98 #[.int .u8 (m:Int)] w fun e w'=>e=.returned (.int .i64 (winOf m))∧w=w':=by
 by_cases h40:m=40
 ·subst h40
  show Calls _ _ #[.int .u8 40] w _
  go_enter Tryz.func98,Tryz.ntmps98
  go_wp2
  go_ret
  exact ⟨rfl,rfl⟩
 have ha:=(and_facts (F:=m) (by omega)).2.2.2.2
 have hwin:=win_in (m:=m) (by omega)
 have hwo:winOf m=(((2+m % 2)*2 ^ (m / 2+11):Nat):Int):=by unfold winOf;rw [if_neg h40]
 obtain ⟨q,hq⟩:∃ q,m % 2=q:=⟨_,rfl⟩
 have hq2:q<2:=by omega
 rw [hq] at ha hwin hwo
 have hmod:(2+(q:Int)) % 256=2+(q:Int):=by omega
 obtain ⟨z,hz⟩:∃ z,2 ^ (m / 2+11)=z:=⟨_,rfl⟩
 have hzi:(2:Int) ^ (m / 2+11)=(z:Int):=by rw [← hz];simp
 rw [hz] at hwin hwo
 have hp:(2+(q:Int))*(z:Int)=(((2+q)*z:Nat):Int):=by simp
 obtain ⟨W,hW⟩:∃ W,(2+q)*z=W:=⟨_,rfl⟩
 rw [hW] at hp hwin hwo
 have hww:wrap64 (W:Int)=(W:Int):=by unfold wrap64;omega
 rw [hwo]
 have HZI:=hid hzi
 clear hwo hq hz hW hzi
 go_enter Tryz.func98,Tryz.ntmps98
 go_wp2
 go_ret
 exact ⟨by show Ending.returned (.int .i64 (wrap64 ((2+(q:Int))*2 ^ (m / 2+11))))=_;rw [HZI.out,hp,hww],rfl⟩
theorem window_p (m:Nat) (w:World) (hm:m≤40):Calls Tryz.prog 100 #[.int .u8 (m:Int)] w fun e w'=>e=.returned (.int .i64 (winOf m))∧w=w':=by
 by_cases h40:m=40
 ·subst h40
  show Calls _ _ #[.int .u8 40] w _
  go_enter Tryz.func100,Tryz.ntmps100
  go_wp2
  go_ret
  exact ⟨rfl,rfl⟩
 have ha:=(and_facts (F:=m) (by omega)).2.2.2.2
 have hwin:=win_in (m:=m) (by omega)
 have hwo:winOf m=(((2+m % 2)*2 ^ (m / 2+11):Nat):Int):=by unfold winOf;rw [if_neg h40]
 obtain ⟨q,hq⟩:∃ q,m % 2=q:=⟨_,rfl⟩
 have hq2:q<2:=by omega
 rw [hq] at ha hwin hwo
 have hmod:(2+(q:Int)) % 256=2+(q:Int):=by omega
 obtain ⟨z,hz⟩:∃ z,2 ^ (m / 2+11)=z:=⟨_,rfl⟩
 have hzi:(2:Int) ^ (m / 2+11)=(z:Int):=by rw [← hz];simp
 rw [hz] at hwin hwo
 have hp:(2+(q:Int))*(z:Int)=(((2+q)*z:Nat):Int):=by simp
 obtain ⟨W,hW⟩:∃ W,(2+q)*z=W:=⟨_,rfl⟩
 rw [hW] at hp hwin hwo
 have hww:wrap64 (W:Int)=(W:Int):=by unfold wrap64;omega
 rw [hwo]
 have HZI:=hid hzi
 clear hwo hq hz hW hzi
 go_enter Tryz.func100,Tryz.ntmps100
 go_wp2
 go_ret
 exact ⟨by show Ending.returned (.int .i64 (wrap64 ((2+(q:Int))*2 ^ (m / 2+11))))=_;rw [HZI.out,hp,hww],rfl⟩
end Go.Proofs.YtffehfpbdcokbaaGreat
